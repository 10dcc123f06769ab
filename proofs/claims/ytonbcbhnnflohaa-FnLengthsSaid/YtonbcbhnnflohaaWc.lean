/-
  FnLengths: a curve measured part by part: a function value that calls itself, and changes two variables.
-/
import Derived.Test.YtonbcbhnnflohaaWa
namespace Go.Proofs.Ytonbcbhnnflohaa
open Go.RowKit

section
variable {P : Program} {w0 w : World} {N : Nat} {a : Act} {E : List (Nat × Value)} {L Lh : List Ent} {K : Act → World → Prop} {Q : Exit → Act → World → Prop}
variable {d : Nat} {ty : TypeId} {pos : String} {aft : Array Edge} {g : Option (Nat × Bool)}
/-! ## guarded, drawn -/
section
variable {ops : Array Oper} {fuel last : Nat} {listed : Array Bool}
theorem v_pickT {c x y : Operand} {v : Value} (st : St w0 N a w E L) (hc : evE E c = some (.bool true)) (hx : evE E x = some v) : Vl P a Lh (.pick c x y) v := by
  intro d ty pos aft g w' _
  simp [execOp, evE_eval st hc, evE_eval st hx, asBool]
theorem v_pickF {c x y : Operand} {v : Value} (st : St w0 N a w E L) (hc : evE E c = some (.bool false)) (hy : evE E y = some v) : Vl P a Lh (.pick c x y) v := by
  intro d ty pos aft g w' _
  simp [execOp, evE_eval st hc, evE_eval st hy, asBool]
theorem d_g {d j dj : Nat} {b : Bool} {op : Op} {ty : TypeId} {pos : String} {aft : Array Edge} {v : Value} (i : Nat) (st : St w0 N a w E L) (hs : SL Lh L)
    (hi : ops[i]? = some ⟨some d, op, ty, pos, aft, some (j, b)⟩) (hf : (Region.free .any ops listed i && (Region.ready .any ops listed).contains i && waitsI ops last i && closedL ops listed) = true) (hd : Nat.blt d N = true)
    (hj : (ops[j]?).bind (·.dst) = some dj) (hg : lk E dj = some (.bool b)) (hv : Vl P a Lh op v)
    (h : ∀ a', St w0 N a' w ((d, v) :: E) L → AnyV P ops (NoPanic Q) (Held Lh) last fuel (listed.setIfInBounds i true) a' w) : AnyV P ops (NoPanic Q) (Held Lh) last (fuel + 1) listed a w := by
  intro hl hns
  simp only [Bool.and_eq_true] at hf
  refine T_first hf.1.2 hi (Region.noSelect_spec hns) (fun _ _ _ h => h) fuel listed a w (closed_of hf.2) (Region.free_spec hi hf.1.1.1) (by simpa using hf.1.1.2) (.inl ⟨?_, ?_⟩) (st.held hs.sub) (h _ (st.put d hd v) hl hns)
  · rw [wanted_of (st := st) hj hg]; simp
  · intro w' hw'
    exact hv d ty pos aft _ w' hw'
theorem d_s {d j dj : Nat} {b b' : Bool} {op : Op} {ty : TypeId} {pos : String} {aft : Array Edge} (i : Nat) (st : St w0 N a w E L) (hs : SL Lh L)
    (hi : ops[i]? = some ⟨some d, op, ty, pos, aft, some (j, b)⟩) (hf : (Region.free .any ops listed i && (Region.ready .any ops listed).contains i && waitsI ops last i && closedL ops listed) = true) (hd : Nat.blt d N = true)
    (hj : (ops[j]?).bind (·.dst) = some dj) (hg : lk E dj = some (.bool b')) (hb : (b' == b) = false)
    (h : ∀ a', St w0 N a' w ((d, undef) :: E) L → AnyV P ops (NoPanic Q) (Held Lh) last fuel (listed.setIfInBounds i true) a' w) : AnyV P ops (NoPanic Q) (Held Lh) last (fuel + 1) listed a w := by
  intro hl hns
  simp only [Bool.and_eq_true] at hf
  refine T_first (v := undef) hf.1.2 hi (Region.noSelect_spec hns) (fun _ _ _ h => h) fuel listed a w (closed_of hf.2) (Region.free_spec hi hf.1.1.1) (by simpa using hf.1.1.2) (.inr ⟨?_, rfl⟩) (st.held hs.sub) (h _ (st.put d hd undef) hl hns)
  rw [wanted_of (st := st) hj hg]; exact hb
theorem d_oneG {j dj : Nat} {b : Bool} {dd : Option Tmp} {op : Op} {ty : TypeId} {pos : String} {aft : Array Edge} (i : Nat) (hr : decide (Region.ready .any ops listed = [i]) = true) (hi : ops[i]? = some ⟨dd, op, ty, pos, aft, some (j, b)⟩) (st : St w0 N a w E L)
    (hj : (ops[j]?).bind (·.dst) = some dj) (hg : lk E dj = some (.bool b))
    (h : Oper.wp P ⟨dd, op, ty, pos, aft, some (j, b)⟩ a w (fun a' w' => (last ≤ i ∨ Held Lh w') ∧ AnyV P ops (NoPanic Q) (Held Lh) last fuel (listed.setIfInBounds i true) a' w') (NoPanic Q)) : AnyV P ops (NoPanic Q) (Held Lh) last (fuel + 1) listed a w := by
  intro hl hns
  have hr' := of_decide_eq_true hr
  refine ⟨fun h0 => (by rw [hr'] at h0; cases h0), ?_⟩
  rw [hr']
  intro k hk
  simp at hk
  subst hk
  unfold wpOp
  simp only [hi]
  rw [if_pos (by rw [wanted_of (st := st) hj hg]; simp)]
  exact .inl (Oper.wp_mono (fun _ _ h => k_mono h fun f => f hl hns) h)
end
/-- A change of two own blocks. -/
theorem St.upd2 {w' : World} {b1 b2 : Nat} {o1 o1' o2 o2' : Obj} {L1 L2 : List Ent} (st : St w0 N a w E L) (h1 : Upd L b1 o1 o1' L1) (h2 : Upd L1 b2 o2 o2' L2) (hw : Below (min b1 b2) w w') (hb : ∀ k, k ≠ b1 → k ≠ b2 → k < w.heap.size → w'.heap[k]? = w.heap[k]?) (n1 : w'.heap[b1]? = some o1') (n2 : w'.heap[b2]? = some o2') : St w0 N a w' E L2 := by
  have g1 := st.ge h1.old
  have g2 : w0.heap.size ≤ b2 := by
    rcases h1.mem _ h2.old.mem with h | h
    · rw [Ent.mk.injEq] at h
      rw [h.1]
      exact g1
    · exact (st.facts _ h).2 rfl
  refine ⟨st.env, st.size, st.defers, st.below.trans (hw.mono (by omega)), ?_, h2.pair (h1.pair st.uniq)⟩
  intro e he
  rcases h2.other (h1.pair st.uniq) e he with rfl | ⟨he, hne⟩
  · exact ⟨n2, fun _ => g2⟩
  · rcases h1.other st.uniq e he with rfl | ⟨he, hne'⟩
    · exact ⟨n1, fun _ => g1⟩
    · have := st.facts e he
      refine ⟨?_, this.2⟩
      rw [hb e.b hne' hne (Array.getElem?_eq_some_iff.1 this.1).1]
      exact this.1
/-- A call that changes two blocks. -/
def CU2 (P : Program) (f : FuncId) (vs : List Value) (w : World) (v : Value) (b1 b2 : Nat) (o1' o2' : Obj) : Prop :=
  Calls P f vs.toArray w fun e w' => e = .returned v ∧ Below (min b1 b2) w w' ∧ (∀ k, k ≠ b1 → k ≠ b2 → k < w.heap.size → w'.heap[k]? = w.heap[k]?) ∧ w'.heap[b1]? = some o1' ∧ w'.heap[b2]? = some o2'
theorem o_callFnU2 {f : FuncId} {x : Operand} {args : List Operand} {tys : Array TypeId} {vs cs : List Value} {v : Value} {b1 b2 : Nat} {o1 o1' o2 o2' : Obj} {L1 L2 : List Ent} [hf : FnT P f] (st : St w0 N a w E L) (hx : evE E x = some (.func (.func f) #[] cs.toArray)) (ha : evs E args = some vs)
    (hc : CU2 P f (vs ++ cs) w v b1 b2 o1' o2') (h1 : Upd L b1 o1 o1' L1) (h2 : Upd L1 b2 o2 o2' L2) (hd : Nat.blt d N = true) (h : ∀ a' w', St w0 N a' w' ((d, v) :: E) L2 → K a' w') : Oper.wp P ⟨some d, .call { callee := .value x, args := args.toArray, argTypes := tys }, ty, pos, aft, g⟩ a w K Q := by
  have he : (execOp a.eval ⟨some d, .call { callee := .value x, args := args.toArray, argTypes := tys }, ty, pos, aft, g⟩).run P w = .ok (.enter f (vs ++ cs).toArray) w := by
    simp [execOp, resolve, invoke, Deferred.ofValue, evE_eval st hx, evs_map st ha, hf.call]
  unfold Oper.wp
  rw [he, Oper.upon_enter]
  refine hc.mono ?_
  rintro e w' ⟨rfl, hB, hk, n1, n2⟩
  exact h _ _ ((st.upd2 h1 h2 hB hk n1 n2).put d hd _)
def others2 (w : World) (b1 b2 : Nat) : List Ent := (List.range w.heap.size).filterMap fun k => if k = b1 ∨ k = b2 then none else (w.heap[k]?).map fun o => ⟨k, false, o⟩
theorem mem_others2 {w : World} {b1 b2 : Nat} {e : Ent} (h : e ∈ others2 w b1 b2) : e.own = false ∧ e.b ≠ b1 ∧ e.b ≠ b2 ∧ w.heap[e.b]? = some e.o := by
  unfold others2 at h
  obtain ⟨k, hk, he⟩ := List.mem_filterMap.1 h
  split at he
  · cases he
  · rename_i hn
    cases ho : w.heap[k]? with
    | none => rw [ho] at he; cases he
    | some o => rw [ho] at he; cases he; exact ⟨rfl, fun h => hn (.inl h), fun h => hn (.inr h), ho⟩
theorem others2_mem {w : World} {b1 b2 k : Nat} (hk : k < w.heap.size) (h1 : k ≠ b1) (h2 : k ≠ b2) : (⟨k, false, w.heap[k]⟩ : Ent) ∈ others2 w b1 b2 := by
  unfold others2
  refine List.mem_filterMap.2 ⟨k, List.mem_range.2 hk, ?_⟩
  rw [if_neg (by rintro (h | h); exact h1 h; exact h2 h)]
  simp [hk]
theorem enterU2 {f : FuncId} {fn : Func} {c : Code} {args : List Value} {v : Value} {b1 b2 : Nat} {o1 o1' o2 o2' : Obj} (Lk : List Ent) (hLk : ∀ e ∈ Lk, e.own = false ∧ e.b ≠ b1 ∧ e.b ≠ b2 ∧ w.heap[e.b]? = some e.o) (h1 : w.heap[b1]? = some o1) (h2 : w.heap[b2]? = some o2) (hne : b1 ≠ b2) (hf : P.funcs[f]? = some fn) (hb : fn.body = some c) (hE : envOf 0 args = E) (hN : fn.ntmps = N) (hn : Nat.ble args.length N = true)
    (h : ∀ a w0 Lf, St w0 N a w E (⟨b1, true, o1⟩ :: ⟨b2, true, o2⟩ :: (Lk ++ Lf)) → c.wp P (bodyPost P fn (fun e w' => e = .returned v ∧ ∃ a', St w0 N a' w' [] (⟨b1, true, o1'⟩ :: ⟨b2, true, o2'⟩ :: Lf))) a w) : CU2 P f args w v b1 b2 o1' o2' := by
  have hl1 : b1 < w.heap.size := (Array.getElem?_eq_some_iff.1 h1).1
  have hl2 : b2 < w.heap.size := (Array.getElem?_eq_some_iff.1 h2).1
  let w1 : World := { w with heap := w.heap.extract 0 (min b1 b2) }
  have hs1 : w1.heap.size = min b1 b2 := by simp [w1]; omega
  have hbel : Below w1.heap.size w1 w := by
    refine ⟨rfl, rfl, rfl, by rw [hs1]; omega, ?_⟩
    intro k hk
    rw [hs1] at hk
    show w.heap[k]? = (w.heap.extract 0 (min b1 b2))[k]?
    rw [Array.getElem?_extract, if_pos (by omega), Nat.zero_add]
  have hent : ∀ st0, Calls P f args.toArray w (fun e w' => e = .returned v ∧ ∃ a', St w1 N a' w' [] (⟨b1, true, o1'⟩ :: ⟨b2, true, o2'⟩ :: others2 w b1 b2)) := fun st0 => calls_of_wp hf hb (h _ w1 (others2 w b1 b2) st0)
  have hown : ∀ e ∈ Lk ++ others2 w b1 b2, e.own = false ∧ e.b ≠ b1 ∧ e.b ≠ b2 ∧ w.heap[e.b]? = some e.o := fun e he => by
    rcases List.mem_append.1 he with he | he
    · exact hLk e he
    · exact mem_others2 he
  refine (hent ⟨?_, ?_, rfl, hbel, ?_, ?_⟩).mono ?_
  rotate_left 4
  · rintro e w' ⟨he, a', st⟩
    have hfact : ∀ k, k ≠ b1 → k ≠ b2 → k < w.heap.size → w'.heap[k]? = w.heap[k]? := by
      intro k k1 k2 hk
      have := (st.facts _ (List.mem_cons_of_mem _ (List.mem_cons_of_mem _ (others2_mem hk k1 k2)))).1
      rw [this]
      simp [hk]
    have n1 := (st.facts _ List.mem_cons_self).1
    have n2 := (st.facts _ (List.mem_cons_of_mem _ List.mem_cons_self)).1
    refine ⟨he, ⟨?_, ?_, ?_, ?_, ?_⟩, hfact, n1, n2⟩
    · exact st.below.os.trans hbel.os.symm
    · exact st.below.tape.trans hbel.tape.symm
    · exact st.below.output.trans hbel.output.symm
    · have : w.heap.size - 1 < w'.heap.size := by
        by_cases hk : w.heap.size - 1 = b1
        · rw [hk]; exact (Array.getElem?_eq_some_iff.1 n1).1
        · by_cases hk' : w.heap.size - 1 = b2
          · rw [hk']; exact (Array.getElem?_eq_some_iff.1 n2).1
          · have h1 := hfact (w.heap.size - 1) hk hk' (by omega)
            have h2 : w.heap[w.heap.size - 1]? = some w.heap[w.heap.size - 1] := by simp
            rw [h2] at h1
            exact (Array.getElem?_eq_some_iff.1 h1).1
      omega
    · intro k hk
      exact hfact k (by omega) (by omega) (by omega)
  · intro i u hu
    subst hE
    obtain ⟨_, h2⟩ := lk_envOf args 0 i u hu
    have hi : i < args.length := by
      have := (List.getElem?_eq_some_iff.1 h2).1
      simpa using this
    simp only [Nat.sub_zero] at h2
    simp [Array.getElem?_append, hi]
    simpa [hi] using h2
  · have : args.length ≤ N := by simpa using Nat.le_of_ble_eq_true hn
    simp [hN]
    omega
  · intro e he
    rcases List.mem_cons.1 he with rfl | he
    · exact ⟨h1, fun _ => by rw [hs1]; exact Nat.min_le_left _ _⟩
    · rcases List.mem_cons.1 he with rfl | he
      · exact ⟨h2, fun _ => by rw [hs1]; exact Nat.min_le_right _ _⟩
      · have := hown e he
        exact ⟨this.2.2.2, fun h => by rw [this.1] at h; cases h⟩
  · refine List.pairwise_cons.2 ⟨?_, List.pairwise_cons.2 ⟨fun e he _ => (hown e he).2.2.1.symm, ?_⟩⟩
    · intro e he _
      rcases List.mem_cons.1 he with rfl | he
      · exact hne
      · exact (hown e he).2.1.symm
    · refine List.Pairwise.imp_of_mem (R := fun _ _ => True) ?_ (List.pairwise_of_forall (fun _ _ => trivial))
      intro x y hx hy _ ho
      rcases ho with ho | ho
      · rw [(hown x hx).1] at ho; cases ho
      · rw [(hown y hy).1] at ho; cases ho
theorem o_negF {x : Operand} {t : TypeId} {k : FloatKind} {i : Nat} (st : St w0 N a w E L) (hx : evE E x = some (.float k i)) (hd : Nat.blt d N = true)
    (h : ∀ a', St w0 N a' w ((d, .float k (Op.negFloat k i)) :: E) L → K a' w) : Oper.wp P ⟨some d, .unOp .neg t x, ty, pos, aft, g⟩ a w K Q :=
  o_val (v := .float k (Op.negFloat k i)) (w' := w) (by simp [execOp, evE_eval st hx, Op.unary]) (h _ (st.put d hd _))
theorem v_eqlF {x y : Operand} {t ys : TypeId} {k : IntKind} {i j : Int} (st : St w0 N a w E L) (hx : evE E x = some (.int k i)) (hy : evE E y = some (.int k j)) (hr : i ≠ j) : Vl P a Lh (.binOp .eql t x y ys) (.bool false) := by
  intro d ty pos aft g w' _
  simp [execOp, evE_eval st hx, evE_eval st hy, binOp_eql, eqGuard_at_int, hr]
end
def half : Nat := 1056964608
theorem tm_half : Tm 1056964608 := ⟨Is_lit (by decide +kernel), by decide +kernel, by decide +kernel⟩
/-- The numbers of one part. -/
structure PartOk (c : List Kn) (ls : List Nat) (s : Nat → Nat) (ch df ab : Nat) : Prop where
  gc : GC c
  gaps : GapsOk c ls
  sums : SumsOk ls s
  gf : Gd (s ls.length)
  hch : ∀ (_ : c.length - 1 < c.length) (_ : 0 < c.length), ∃ r, minusW (pt c[c.length - 1]) (pt c[0]) = some r ∧ longW r.1 r.2 = some ch
  gch : Gd ch
  hdf : fop .sub .f32 (some (s ls.length)) (some ch) = some df
  hab : maxW df (Op.negFloat .f32 df) = some ab
  iab : Is .f32 ab (some ab)
inductive LookR (nr : Nat) : Nat → List Kn → Nat → Nat → Nat → Nat → Prop
  | leaf {k c s n ls S ch df ab x y s'} : PartOk c ls S ch df ab → n ≤ 1000 → fleB .f32 (some ab) (some nr) = true → fop .add .f32 (some (S ls.length)) (some ch) = some x → fop .quo .f32 (some x) (some 1073741824) = some y → fop .add .f32 (some s) (some y) = some s' → LookR nr (k + 1) c s n s' (n + 1)
  | node {k c s n ls S ch df ab l r s1 n1 s' n'} : PartOk c ls S ch df ab → fleB .f32 (some ab) (some nr) = false → cutC (c.length - 1) c 1056964608 = some (l, r) → GC l → GC r.reverse → LookR nr k l s n s1 n1 → LookR nr k r.reverse s1 n1 s' n' → LookR nr (k + 1) c s n s' n'
attribute [local irreducible] Code.wp wpList Oper.wp Calls bodyPost Exit.then Exit.inBlock fop fltB fgtB feqB fleB fgeB floatOfInt floatToFloatBits longW maxW

theorem absolute_ok (x r : Nat) (h : maxW x (Op.negFloat .f32 x) = some r) (w : World) : CV Try.prog 88 [.float .f32 x] w (.float .f32 r) := by
  refine enter Try.func88 rfl rfl rfl rfl ?_
  intro y st
  (repeat' (first | (refine o_negF st rfl rfl ?_; clear st; intro _ st)  | (refine o_max st rfl rfl h rfl ?_; clear st; intro _ st)  | refine c_seq ?_  | refine c_region ?_  | refine l_do ?_  | refine l_nil ?_  | refine x_then ?_  | refine wp_ret ?_  | ((first | refine o_move st rfl rfl ?_  | refine o_assign st rfl rfl ?_); clear st; intro _ st)))
  refine post1 st Try.results88 (rd_t st rfl) ?_
  exact ⟨rfl, st.ex0⟩
theorem blk_ne {w : World} {b b' : Nat} {a : Array Value} {v : Value} {t t' : TypeId} {f f' : Nat × Nat} (h : w.heap[b]? = some (.cells a t f)) (h' : w.heap[b']? = some (.cells [v].toArray t' f')) {i : Nat} {u : Value} (hi : 1 ≤ i) (hu : a[i]? = some u) : b ≠ b' := by
  rintro rfl
  rw [h] at h'
  cases h'
  have := (Array.getElem?_eq_some_iff.1 hu).1
  simp at this
  omega
abbrev vLook (p3 p7 p8 p9 : Nat) : Value := .func (.func 87) #[] [.pointer (some ⟨p3, 0, none⟩), .pointer (some ⟨p7, 0, none⟩), .pointer (some ⟨p8, 0, none⟩), .pointer (some ⟨p9, 0, none⟩)].toArray
set_option maxRecDepth 100000 in
set_option maxHeartbeats 32000000 in
theorem look_ok {nr : Nat} (hnr : Is .f32 nr (some nr)) : ∀ {k : Nat} {c : List Kn} {s n s' n' : Nat}, LookR nr k c s n s' n' → ∀ (dp : Int), dp = 8 - (k : Int) → k ≤ 8 → ∀ (p3 p7 p8 p9 : Nat), p7 ≠ p8 → p3 ≠ p7 → p3 ≠ p8 → p9 ≠ p7 → p9 ≠ p8 → ∀ (v : Value) (w : World), CrV w c v →
    w.heap[p3]? = some (.cells [.float .f32 nr].toArray 29 (0, 0)) → w.heap[p7]? = some (.cells [.float .f32 s].toArray 29 (0, 0)) → w.heap[p8]? = some (.cells [.int .i64 n].toArray 2 (0, 0)) → w.heap[p9]? = some (.cells [vLook p3 p7 p8 p9].toArray 106 (0, 0)) →
    CU2 Try.prog 87 [v, .int .i64 dp, .pointer (some ⟨p3, 0, none⟩), .pointer (some ⟨p7, 0, none⟩), .pointer (some ⟨p8, 0, none⟩), .pointer (some ⟨p9, 0, none⟩)] w (.bool true) p7 p8 (.cells [.float .f32 s'].toArray 29 (0, 0)) (.cells [.int .i64 n'].toArray 2 (0, 0)) := by
  intro k c s n s' n' hL
  induction hL with
  | @leaf k c s n ls S ch df ab x y s' hP hn hle hx hy hs =>
    intro dp hdp hk8 p3 p7 p8 p9 hlt h37 h38 h97 h98 v w hv hw3 hw7 hw8 hw9
    have h0 := hP.gc.lo
    have h8 := hP.gc.hi
    obtain ⟨r, hr1, hr2⟩ := hP.hch (by omega) (by omega)
    have hdf := hP.hdf
    have hab := hP.iab
    have c1 := fun v w hv => FrameLong_ok c hP.gc ls S hP.gaps hP.sums hP.gf v w hv
    have c2 := fun v w hv => degree_ok c v (by omega) w hv
    have c3 := fun w => minus_ok (pt c[c.length - 1]) (pt c[0]) r hr1 w
    have c4 := fun w => LongOf_ok r.1 r.2 ch hr2 w
    have c5 := fun w => IsFinite_ok ch hP.gch w
    have c6 := fun w => absolute_ok df ab hP.hab w
    obtain ⟨X, rfl, hX, h3, h4⟩ := hv.get (by omega)
    have q1 := hX.at1 (k := 1) (j := 1) (by omega) rfl
    have q2 := hX.at2 (k := 1) (j := 1) (by omega) rfl
    have n17 := blk_ne h3 hw7 (by omega) q1
    have n18 := blk_ne h3 hw8 (by omega) q1
    have n27 := blk_ne h4 hw7 (by omega) q2
    have n28 := blk_ne h4 hw8 (by omega) q2
    have g1 := hX.at1 (k := c.length - 1) (j := (c.length : Int) - 1) (by omega) (by omega)
    have g2 := hX.at1 (k := 0) (j := 0) (by omega) rfl
    refine enterU2 [⟨p3, false, .cells [.float .f32 nr].toArray 29 (0, 0)⟩, ⟨p9, false, .cells [vLook p3 p7 p8 p9].toArray 106 (0, 0)⟩, ⟨X.b1, false, .cells X.a1 X.t1 X.f1⟩, ⟨X.b2, false, .cells X.a2 X.t2 X.f2⟩] ?_ hw7 hw8 hlt Try.func87 rfl rfl rfl rfl ?_
    · intro e he
      simp only [List.mem_cons, List.not_mem_nil, or_false] at he
      rcases he with rfl | rfl | rfl | rfl
      · exact ⟨rfl, h37, h38, hw3⟩
      · exact ⟨rfl, h97, h98, hw9⟩
      · exact ⟨rfl, n17, n18, h3⟩
      · exact ⟨rfl, n27, n28, h4⟩
    intro a w0 Lf st
    have st : St w0 _ a w _ (⟨p7, true, .cells [.float .f32 s].toArray 29 (0, 0)⟩ :: ⟨p8, true, .cells [.int .i64 n].toArray 2 (0, 0)⟩ :: ⟨p3, false, .cells [.float .f32 nr].toArray 29 (0, 0)⟩ :: ⟨p9, false, .cells [vLook p3 p7 p8 p9].toArray 106 (0, 0)⟩ :: ⟨X.b1, false, .cells X.a1 X.t1 X.f1⟩ :: ⟨X.b2, false, .cells X.a2 X.t2 X.f2⟩ :: Lf) := st
    (repeat' (first | (refine o_boxA (d := 6) st rfl rfl ?_; clear st; intro p6 _ _ st)  | (refine o_callV st rfl (c1 _ _ (X.crv hX (st.heap (by repeat constructor)) (st.heap (by repeat constructor)))) rfl ?_; clear st; intro _ _ st)  | refine c_seq ?_  | refine c_region ?_  | refine l_do ?_  | refine l_doG st rfl rfl ?_  | refine l_nil ?_  | refine x_then ?_  | refine x_thenR ?_  | refine wp_ret ?_  | refine wp_skip ?_  | refine c_condT st rfl ?_  | refine c_condF st rfl ?_  | ((first | refine o_move st rfl rfl ?_  | refine o_assign st rfl rfl ?_  | refine o_pickT st rfl rfl rfl ?_  | refine o_pickF st rfl rfl rfl ?_); clear st; intro _ st)  | ((first | refine o_alloc st rfl ?_  | refine o_boxA st rfl rfl ?_ ); clear st; intro _ _ _ st)  | ((first | refine o_loadS st rfl (by repeat constructor) rfl rfl ?_  | refine o_load2 st rfl (by repeat constructor) rfl ?_ ); clear st; intro _ st)  | ((first | refine o_storeS st rfl rfl rfl (by repeat constructor) rfl (by dsimp only [List.set]) ?_  | refine o_storeW st rfl rfl (by repeat constructor) rfl rfl rfl ?_); clear st; intro _ _ st)  | ((first | refine o_extract st rfl rfl rfl ?_  | refine o_add64 st rfl rfl rfl (by omega) (by omega) ?_  | refine o_notT st rfl rfl ?_ ); clear st; intro _ st) ))
    refine c_drawA (last := 12) hm_ (by decide +kernel) (by decide +kernel) st ?_; clear st; intro _ st
    refine d_v 0 st (by repeat constructor) rfl (by decide +kernel) rfl (v_fieldAddr st rfl) ?_; clear st; intro _ st
    refine d_v 1 st (by repeat constructor) rfl (by decide +kernel) rfl (by first | exact v_load3 st rfl (by repeat constructor) | exact v_loadS st rfl (by repeat constructor) rfl) ?_; clear st; intro _ st
    refine d_v 2 st (by repeat constructor) rfl (by decide +kernel) rfl (v_load2 st rfl (by repeat constructor)) ?_; clear st; intro _ st
    refine d_v 6 st (by repeat constructor) rfl (by decide +kernel) rfl (v_fieldAddr st rfl) ?_; clear st; intro _ st
    refine d_v 7 st (by repeat constructor) rfl (by decide +kernel) rfl (by first | exact v_load3 st rfl (by repeat constructor) | exact v_loadS st rfl (by repeat constructor) rfl) ?_; clear st; intro _ st
    refine d_v 8 st (by repeat constructor) rfl (by decide +kernel) rfl (v_indexAddr st rfl rfl (by omega) (by omega)) ?_; clear st; intro _ st
    refine d_v 9 st (by repeat constructor) rfl (by decide +kernel) rfl (v_loadS st rfl (by repeat constructor) g2) ?_; clear st; intro _ st
    refine d_one 3 (by decide +kernel) rfl ?_
    refine o_callV st rfl (c2 _ _ (X.crv hX (st.heap (by repeat constructor)) (st.heap (by repeat constructor)))) rfl ?_; clear st; intro _ _ st
    refine kh st (by repeat constructor) ?_
    refine d_v 4 st (by repeat constructor) rfl (by decide +kernel) rfl (v_indexAddr st rfl rfl (by omega) (by omega)) ?_; clear st; intro _ st
    refine d_v 5 st (by repeat constructor) rfl (by decide +kernel) rfl (v_loadS st rfl (by repeat constructor) g1) ?_; clear st; intro _ st
    refine d_one 10 (by decide +kernel) rfl ?_
    refine o_callV st rfl (c3 _) rfl ?_; clear st; intro _ _ st
    refine kh st (by repeat constructor) ?_
    refine d_one 11 (by decide +kernel) rfl ?_
    refine o_callV st rfl (c4 _) rfl ?_; clear st; intro _ _ st
    refine kh st (by repeat constructor) ?_
    refine d_one 12 (by decide +kernel) rfl ?_
    (first | (refine o_assign st rfl rfl ?_; clear st; intro _ st))
    refine k_last ?_
    refine d_done (by decide +kernel) ?_
    (repeat' (first | (refine o_callV st rfl (c5 _) rfl ?_; clear st; intro _ _ st)  | refine c_seq ?_  | refine c_region ?_  | refine l_do ?_  | refine l_doG st rfl rfl ?_  | refine l_nil ?_  | refine x_then ?_  | refine x_thenR ?_  | refine wp_ret ?_  | refine wp_skip ?_  | refine c_condT st rfl ?_  | refine c_condF st rfl ?_  | ((first | refine o_move st rfl rfl ?_  | refine o_assign st rfl rfl ?_  | refine o_pickT st rfl rfl rfl ?_  | refine o_pickF st rfl rfl rfl ?_); clear st; intro _ st)  | ((first | refine o_alloc st rfl ?_  | refine o_boxA st rfl rfl ?_ ); clear st; intro _ _ _ st)  | ((first | refine o_loadS st rfl (by repeat constructor) rfl rfl ?_  | refine o_load2 st rfl (by repeat constructor) rfl ?_ ); clear st; intro _ st)  | ((first | refine o_storeS st rfl rfl rfl (by repeat constructor) rfl (by dsimp only [List.set]) ?_  | refine o_storeW st rfl rfl (by repeat constructor) rfl rfl rfl ?_); clear st; intro _ _ st)  | ((first | refine o_extract st rfl rfl rfl ?_  | refine o_add64 st rfl rfl rfl (by omega) (by omega) ?_  | refine o_notT st rfl rfl ?_ ); clear st; intro _ st) ))
    refine c_drawA (last := 10) hm_ (by decide +kernel) (by decide +kernel) st ?_; clear st; intro _ st
    refine d_v 0 st (by repeat constructor) rfl (by decide +kernel) rfl (v_move st rfl) ?_; clear st; intro _ st
    refine d_v 1 st (by repeat constructor) rfl (by decide +kernel) rfl (v_eqlF st rfl rfl (by omega)) ?_; clear st; intro _ st
    refine d_v 2 st (by repeat constructor) rfl (by decide +kernel) rfl (v_move st rfl) ?_; clear st; intro _ st
    (first | refine d_g 3 st (by repeat constructor) rfl (by decide +kernel) rfl rfl rfl (v_move st rfl) ?_ ); clear st; intro _ st
    (first | refine d_g 4 st (by repeat constructor) rfl (by decide +kernel) rfl rfl rfl (v_move st rfl) ?_ ); clear st; intro _ st
    (first | refine d_g 7 st (by repeat constructor) rfl (by decide +kernel) rfl rfl rfl (by first | exact v_load3 st rfl (by repeat constructor) | exact v_loadS st rfl (by repeat constructor) rfl) ?_ ); clear st; intro _ st
    (first | (refine d_oneG 5 (by decide +kernel) rfl st rfl rfl ?_; refine o_fopK st rfl rfl hdf rfl ?_; clear st; intro _ st; refine kh st (by repeat constructor) ?_))
    (first | (refine d_oneG 6 (by decide +kernel) rfl st rfl rfl ?_; refine o_callV st rfl (c6 _) rfl ?_; clear st; intro _ _ st; refine kh st (by repeat constructor) ?_))
    (first | (refine d_oneG 8 (by decide +kernel) rfl st rfl rfl ?_; refine o_fleqW st rfl rfl hab hnr hle rfl ?_; clear st; intro _ st; refine kh st (by repeat constructor) ?_))
    refine d_v 9 st (by repeat constructor) rfl (by decide +kernel) rfl (by first | exact v_pickT st rfl rfl | exact v_pickF st rfl rfl) ?_; clear st; intro _ st
    refine d_done (by decide +kernel) ?_
    (repeat' (first | (refine o_fopK st rfl rfl hx rfl ?_; clear st; intro _ st)  | (refine o_fopK st rfl rfl hy rfl ?_; clear st; intro _ st)  | (refine o_fopK st rfl rfl hs rfl ?_; clear st; intro _ st)  | refine c_seq ?_  | refine c_region ?_  | refine l_do ?_  | refine l_doG st rfl rfl ?_  | refine l_nil ?_  | refine x_then ?_  | refine x_thenR ?_  | refine wp_ret ?_  | refine wp_skip ?_  | refine c_condT st rfl ?_  | refine c_condF st rfl ?_  | ((first | refine o_move st rfl rfl ?_  | refine o_assign st rfl rfl ?_  | refine o_pickT st rfl rfl rfl ?_  | refine o_pickF st rfl rfl rfl ?_); clear st; intro _ st)  | ((first | refine o_alloc st rfl ?_  | refine o_boxA st rfl rfl ?_ ); clear st; intro _ _ _ st)  | ((first | refine o_loadS st rfl (by repeat constructor) rfl rfl ?_  | refine o_load2 st rfl (by repeat constructor) rfl ?_ ); clear st; intro _ st)  | ((first | refine o_storeS st rfl rfl rfl (by repeat constructor) rfl (by dsimp only [List.set]) ?_  | refine o_storeW st rfl rfl (by repeat constructor) rfl rfl rfl ?_); clear st; intro _ _ st)  | ((first | refine o_extract st rfl rfl rfl ?_  | refine o_add64 st rfl rfl rfl (by omega) (by omega) ?_  | refine o_notT st rfl rfl ?_ ); clear st; intro _ st) ))
    refine post1 st Try.results87 (rd_t st rfl) ?_
    exact ⟨rfl, _, (st.fit (E' := []) trivial).subL (by repeat (first | exact List.Sublist.refl _  | apply List.Sublist.cons_cons  | apply List.Sublist.cons  | exact List.nil_sublist _))⟩
  | @node k c s n ls S ch df ab l r' s1 n1 s' n' hP hle hcut hgl hgr hLl hLr ihl ihr =>
    intro dp hdp hk8 p3 p7 p8 p9 hlt h37 h38 h97 h98 v w hv hw3 hw7 hw8 hw9
    have h0 := hP.gc.lo
    have h8 := hP.gc.hi
    obtain ⟨r, hr1, hr2⟩ := hP.hch (by omega) (by omega)
    have hdf := hP.hdf
    have hab := hP.iab
    have c1 := fun v w hv => FrameLong_ok c hP.gc ls S hP.gaps hP.sums hP.gf v w hv
    have c2 := fun v w hv => degree_ok c v (by omega) w hv
    have c3 := fun w => minus_ok (pt c[c.length - 1]) (pt c[0]) r hr1 w
    have c4 := fun w => LongOf_ok r.1 r.2 ch hr2 w
    have c5 := fun w => IsFinite_ok ch hP.gch w
    have c6 := fun w => absolute_ok df ab hP.hab w
    have c7 := fun v w hv => CutCurve_ok c 1056964608 l r' hcut hP.gc tm_half hgl hgr v w hv
    obtain ⟨X, rfl, hX, h3, h4⟩ := hv.get (by omega)
    have q1 := hX.at1 (k := 1) (j := 1) (by omega) rfl
    have q2 := hX.at2 (k := 1) (j := 1) (by omega) rfl
    have n17 := blk_ne h3 hw7 (by omega) q1
    have n18 := blk_ne h3 hw8 (by omega) q1
    have n27 := blk_ne h4 hw7 (by omega) q2
    have n28 := blk_ne h4 hw8 (by omega) q2
    have g1 := hX.at1 (k := c.length - 1) (j := (c.length : Int) - 1) (by omega) (by omega)
    have g2 := hX.at1 (k := 0) (j := 0) (by omega) rfl
    refine enterU2 [⟨p3, false, .cells [.float .f32 nr].toArray 29 (0, 0)⟩, ⟨p9, false, .cells [vLook p3 p7 p8 p9].toArray 106 (0, 0)⟩, ⟨X.b1, false, .cells X.a1 X.t1 X.f1⟩, ⟨X.b2, false, .cells X.a2 X.t2 X.f2⟩] ?_ hw7 hw8 hlt Try.func87 rfl rfl rfl rfl ?_
    · intro e he
      simp only [List.mem_cons, List.not_mem_nil, or_false] at he
      rcases he with rfl | rfl | rfl | rfl
      · exact ⟨rfl, h37, h38, hw3⟩
      · exact ⟨rfl, h97, h98, hw9⟩
      · exact ⟨rfl, n17, n18, h3⟩
      · exact ⟨rfl, n27, n28, h4⟩
    intro a w0 Lf st
    have st : St w0 _ a w _ (⟨p7, true, .cells [.float .f32 s].toArray 29 (0, 0)⟩ :: ⟨p8, true, .cells [.int .i64 n].toArray 2 (0, 0)⟩ :: ⟨p3, false, .cells [.float .f32 nr].toArray 29 (0, 0)⟩ :: ⟨p9, false, .cells [vLook p3 p7 p8 p9].toArray 106 (0, 0)⟩ :: ⟨X.b1, false, .cells X.a1 X.t1 X.f1⟩ :: ⟨X.b2, false, .cells X.a2 X.t2 X.f2⟩ :: Lf) := st
    (repeat' (first | (refine o_boxA (d := 6) st rfl rfl ?_; clear st; intro p6 _ _ st)  | (refine o_callV st rfl (c1 _ _ (X.crv hX (st.heap (by repeat constructor)) (st.heap (by repeat constructor)))) rfl ?_; clear st; intro _ _ st)  | refine c_seq ?_  | refine c_region ?_  | refine l_do ?_  | refine l_doG st rfl rfl ?_  | refine l_nil ?_  | refine x_then ?_  | refine x_thenR ?_  | refine wp_ret ?_  | refine wp_skip ?_  | refine c_condT st rfl ?_  | refine c_condF st rfl ?_  | ((first | refine o_move st rfl rfl ?_  | refine o_assign st rfl rfl ?_  | refine o_pickT st rfl rfl rfl ?_  | refine o_pickF st rfl rfl rfl ?_); clear st; intro _ st)  | ((first | refine o_alloc st rfl ?_  | refine o_boxA st rfl rfl ?_ ); clear st; intro _ _ _ st)  | ((first | refine o_loadS st rfl (by repeat constructor) rfl rfl ?_  | refine o_load2 st rfl (by repeat constructor) rfl ?_ ); clear st; intro _ st)  | ((first | refine o_storeS st rfl rfl rfl (by repeat constructor) rfl (by dsimp only [List.set]) ?_  | refine o_storeW st rfl rfl (by repeat constructor) rfl rfl rfl ?_); clear st; intro _ _ st)  | ((first | refine o_extract st rfl rfl rfl ?_  | refine o_add64 st rfl rfl rfl (by omega) (by omega) ?_  | refine o_notT st rfl rfl ?_ ); clear st; intro _ st) ))
    refine c_drawA (last := 12) hm_ (by decide +kernel) (by decide +kernel) st ?_; clear st; intro _ st
    refine d_v 0 st (by repeat constructor) rfl (by decide +kernel) rfl (v_fieldAddr st rfl) ?_; clear st; intro _ st
    refine d_v 1 st (by repeat constructor) rfl (by decide +kernel) rfl (by first | exact v_load3 st rfl (by repeat constructor) | exact v_loadS st rfl (by repeat constructor) rfl) ?_; clear st; intro _ st
    refine d_v 2 st (by repeat constructor) rfl (by decide +kernel) rfl (v_load2 st rfl (by repeat constructor)) ?_; clear st; intro _ st
    refine d_v 6 st (by repeat constructor) rfl (by decide +kernel) rfl (v_fieldAddr st rfl) ?_; clear st; intro _ st
    refine d_v 7 st (by repeat constructor) rfl (by decide +kernel) rfl (by first | exact v_load3 st rfl (by repeat constructor) | exact v_loadS st rfl (by repeat constructor) rfl) ?_; clear st; intro _ st
    refine d_v 8 st (by repeat constructor) rfl (by decide +kernel) rfl (v_indexAddr st rfl rfl (by omega) (by omega)) ?_; clear st; intro _ st
    refine d_v 9 st (by repeat constructor) rfl (by decide +kernel) rfl (v_loadS st rfl (by repeat constructor) g2) ?_; clear st; intro _ st
    refine d_one 3 (by decide +kernel) rfl ?_
    refine o_callV st rfl (c2 _ _ (X.crv hX (st.heap (by repeat constructor)) (st.heap (by repeat constructor)))) rfl ?_; clear st; intro _ _ st
    refine kh st (by repeat constructor) ?_
    refine d_v 4 st (by repeat constructor) rfl (by decide +kernel) rfl (v_indexAddr st rfl rfl (by omega) (by omega)) ?_; clear st; intro _ st
    refine d_v 5 st (by repeat constructor) rfl (by decide +kernel) rfl (v_loadS st rfl (by repeat constructor) g1) ?_; clear st; intro _ st
    refine d_one 10 (by decide +kernel) rfl ?_
    refine o_callV st rfl (c3 _) rfl ?_; clear st; intro _ _ st
    refine kh st (by repeat constructor) ?_
    refine d_one 11 (by decide +kernel) rfl ?_
    refine o_callV st rfl (c4 _) rfl ?_; clear st; intro _ _ st
    refine kh st (by repeat constructor) ?_
    refine d_one 12 (by decide +kernel) rfl ?_
    (first | (refine o_assign st rfl rfl ?_; clear st; intro _ st))
    refine k_last ?_
    refine d_done (by decide +kernel) ?_
    (repeat' (first | (refine o_callV st rfl (c5 _) rfl ?_; clear st; intro _ _ st)  | refine c_seq ?_  | refine c_region ?_  | refine l_do ?_  | refine l_doG st rfl rfl ?_  | refine l_nil ?_  | refine x_then ?_  | refine x_thenR ?_  | refine wp_ret ?_  | refine wp_skip ?_  | refine c_condT st rfl ?_  | refine c_condF st rfl ?_  | ((first | refine o_move st rfl rfl ?_  | refine o_assign st rfl rfl ?_  | refine o_pickT st rfl rfl rfl ?_  | refine o_pickF st rfl rfl rfl ?_); clear st; intro _ st)  | ((first | refine o_alloc st rfl ?_  | refine o_boxA st rfl rfl ?_ ); clear st; intro _ _ _ st)  | ((first | refine o_loadS st rfl (by repeat constructor) rfl rfl ?_  | refine o_load2 st rfl (by repeat constructor) rfl ?_ ); clear st; intro _ st)  | ((first | refine o_storeS st rfl rfl rfl (by repeat constructor) rfl (by dsimp only [List.set]) ?_  | refine o_storeW st rfl rfl (by repeat constructor) rfl rfl rfl ?_); clear st; intro _ _ st)  | ((first | refine o_extract st rfl rfl rfl ?_  | refine o_add64 st rfl rfl rfl (by omega) (by omega) ?_  | refine o_notT st rfl rfl ?_ ); clear st; intro _ st) ))
    refine c_drawA (last := 10) hm_ (by decide +kernel) (by decide +kernel) st ?_; clear st; intro _ st
    refine d_v 0 st (by repeat constructor) rfl (by decide +kernel) rfl (v_move st rfl) ?_; clear st; intro _ st
    refine d_v 1 st (by repeat constructor) rfl (by decide +kernel) rfl (v_eqlF st rfl rfl (by omega)) ?_; clear st; intro _ st
    refine d_v 2 st (by repeat constructor) rfl (by decide +kernel) rfl (v_move st rfl) ?_; clear st; intro _ st
    (first | refine d_g 3 st (by repeat constructor) rfl (by decide +kernel) rfl rfl rfl (v_move st rfl) ?_ ); clear st; intro _ st
    (first | refine d_g 4 st (by repeat constructor) rfl (by decide +kernel) rfl rfl rfl (v_move st rfl) ?_ ); clear st; intro _ st
    (first | refine d_g 7 st (by repeat constructor) rfl (by decide +kernel) rfl rfl rfl (by first | exact v_load3 st rfl (by repeat constructor) | exact v_loadS st rfl (by repeat constructor) rfl) ?_ ); clear st; intro _ st
    (first | (refine d_oneG 5 (by decide +kernel) rfl st rfl rfl ?_; refine o_fopK st rfl rfl hdf rfl ?_; clear st; intro _ st; refine kh st (by repeat constructor) ?_))
    (first | (refine d_oneG 6 (by decide +kernel) rfl st rfl rfl ?_; refine o_callV st rfl (c6 _) rfl ?_; clear st; intro _ _ st; refine kh st (by repeat constructor) ?_))
    (first | (refine d_oneG 8 (by decide +kernel) rfl st rfl rfl ?_; refine o_fleqW st rfl rfl hab hnr hle rfl ?_; clear st; intro _ st; refine kh st (by repeat constructor) ?_))
    refine d_v 9 st (by repeat constructor) rfl (by decide +kernel) rfl (by first | exact v_pickT st rfl rfl | exact v_pickF st rfl rfl) ?_; clear st; intro _ st
    refine d_done (by decide +kernel) ?_
    have edp : dp + 1 = 8 - (k : Int) := by omega
    (repeat' (first | (refine o_callM4 st rfl (c7 _ _ (X.crv hX (st.heap (by repeat constructor)) (st.heap (by repeat constructor)))) rfl ?_; clear st; rintro _ _ b1 _ b2 _ b3 _ b4 _ ⟨cap1, cap2, pad1, pad2, rfl, rfl, rfl⟩ ⟨cap3, cap4, pad3, pad4, rfl, rfl, rfl⟩ _ _ st)  | (refine o_alloc (d := 12) st rfl ?_; clear st; intro p12 _ _ st)  | (refine o_alloc (d := 13) st rfl ?_; clear st; intro p13 _ _ st)  | (refine o_callFnU2 st rfl rfl (ihl (dp + 1) edp (by omega) p3 p7 p8 p9 hlt h37 h38 h97 h98 _ _ (crv_own (st.heap (by repeat constructor)) (st.heap (by repeat constructor))) (st.heap (by repeat constructor)) (st.heap (by repeat constructor)) (st.heap (by repeat constructor)) (st.heap (by repeat constructor))) (by repeat constructor) (by repeat constructor) rfl ?_; clear st; intro _ _ st)  | (refine o_callFnU2 st rfl rfl (ihr (dp + 1) edp (by omega) p3 p7 p8 p9 hlt h37 h38 h97 h98 _ _ (crv_own (st.heap (by repeat constructor)) (st.heap (by repeat constructor))) (st.heap (by repeat constructor)) (st.heap (by repeat constructor)) (st.heap (by repeat constructor)) (st.heap (by repeat constructor))) (by repeat constructor) (by repeat constructor) rfl ?_; clear st; intro _ _ st)  | refine c_seq ?_  | refine c_region ?_  | refine l_do ?_  | refine l_doG st rfl rfl ?_  | refine l_nil ?_  | refine x_then ?_  | refine x_thenR ?_  | refine wp_ret ?_  | refine wp_skip ?_  | refine c_condT st rfl ?_  | refine c_condF st rfl ?_  | ((first | refine o_move st rfl rfl ?_  | refine o_assign st rfl rfl ?_  | refine o_pickT st rfl rfl rfl ?_  | refine o_pickF st rfl rfl rfl ?_); clear st; intro _ st)  | ((first | refine o_alloc st rfl ?_  | refine o_boxA st rfl rfl ?_ ); clear st; intro _ _ _ st)  | ((first | refine o_loadS st rfl (by repeat constructor) rfl rfl ?_  | refine o_load2 st rfl (by repeat constructor) rfl ?_ ); clear st; intro _ st)  | ((first | refine o_storeS st rfl rfl rfl (by repeat constructor) rfl (by dsimp only [List.set]) ?_  | refine o_storeW st rfl rfl (by repeat constructor) rfl rfl rfl ?_); clear st; intro _ _ st)  | ((first | refine o_extract st rfl rfl rfl ?_  | refine o_add64 st rfl rfl rfl (by omega) (by omega) ?_  | refine o_notT st rfl rfl ?_ ); clear st; intro _ st) ))
    refine post1 st Try.results87 (rd_t st rfl) ?_
    exact ⟨rfl, _, (st.fit (E' := []) trivial).subL (by repeat (first | exact List.Sublist.refl _  | apply List.Sublist.cons_cons  | apply List.Sublist.cons  | exact List.nil_sublist _))⟩
theorem NearLong_ok (c : List Kn) (hg : GC c) (nr s' n' : Nat) (hw : Wt nr) (hL : LookR nr 8 c 0 0 s' n') (hd : Gd s') (v : Value) (w : World) (hv : CrV w c v) :
    CV Try.prog 36 [v, .float .f32 nr] w (.tuple #[.float .f32 s', .int .i64 n', .bool true]) := by
  have h0 := hg.lo
  have c1 := fun v w hv => ValidCurve_ok c v hg w hv
  have c2 := fun base cap w hr => areMore_ok [vF nr] (by
    intro v hv w
    rw [List.mem_singleton.1 hv]
    exact areMore1_ok nr hw w) base cap (by simp) w hr
  have c3 := fun w => IsFinite_ok s' hd w
  have hv0 := hv
  obtain ⟨X, rfl, hX, h3, h4⟩ := hv.get (by omega)
  refine enter Try.func36 rfl rfl rfl rfl ?_
  intro a st
  have st := (st.addOld h3).addOld h4
  (repeat' (first | (refine o_boxA (d := 2) st rfl rfl ?_; clear st; intro p2 _ _ st)  | (refine o_boxS (d := 3) st rfl rfl rfl ?_; clear st; intro p3 _ _ st)  | (refine o_callV st rfl (c1 _ _ (hv0.mono st.below)) rfl ?_; clear st; intro _ _ st)  | (refine o_buildSlice (vs := [vF nr]) st rfl rfl rfl rfl rfl rfl ?_; clear st; intro bs _ _ st)  | (refine o_callV st rfl (c2 _ _ _ (RdV.of (pad := []) (st.heap (by repeat constructor)))) rfl ?_; clear st; intro _ _ st)  | (refine o_alloc (d := 7) st rfl ?_; clear st; intro p7 _ _ st)  | (refine o_alloc (d := 8) st rfl ?_; clear st; intro p8 _ _ st)  | (refine o_alloc (d := 9) st rfl ?_; clear st; intro p9 _ _ st)  | (refine o_makeFunc st rfl rfl ?_; clear st; intro _ st)  | (refine o_callFnU2 st rfl rfl (look_ok hw.gd.is hL 0 (by decide) (by omega) p3 p7 p8 p9 (st.ne_of (e1 := ⟨p8, true, _⟩) (e2 := ⟨p7, true, _⟩) rfl (by repeat (first | exact List.Sublist.refl _  | apply List.Sublist.cons_cons  | apply List.Sublist.cons  | exact List.nil_sublist _))).symm (st.ne_of (e1 := ⟨p7, true, _⟩) (e2 := ⟨p3, true, _⟩) rfl (by repeat (first | exact List.Sublist.refl _  | apply List.Sublist.cons_cons  | apply List.Sublist.cons  | exact List.nil_sublist _))).symm (st.ne_of (e1 := ⟨p8, true, _⟩) (e2 := ⟨p3, true, _⟩) rfl (by repeat (first | exact List.Sublist.refl _  | apply List.Sublist.cons_cons  | apply List.Sublist.cons  | exact List.nil_sublist _))).symm (st.ne_of (e1 := ⟨p9, true, _⟩) (e2 := ⟨p7, true, _⟩) rfl (by repeat (first | exact List.Sublist.refl _  | apply List.Sublist.cons_cons  | apply List.Sublist.cons  | exact List.nil_sublist _))) (st.ne_of (e1 := ⟨p9, true, _⟩) (e2 := ⟨p8, true, _⟩) rfl (by repeat (first | exact List.Sublist.refl _  | apply List.Sublist.cons_cons  | apply List.Sublist.cons  | exact List.nil_sublist _))) _ _ (X.crv hX (st.heap (by repeat constructor)) (st.heap (by repeat constructor))) (st.heap (by repeat constructor)) (st.heap (by repeat constructor)) (st.heap (by repeat constructor)) (st.heap (by repeat constructor))) (by repeat constructor) (by repeat constructor) rfl ?_; clear st; intro _ _ st)  | (refine o_callV st rfl (c3 _) rfl ?_; clear st; intro _ _ st)  | refine c_seq ?_  | refine c_region ?_  | refine l_do ?_  | refine l_doG st rfl rfl ?_  | refine l_nil ?_  | refine x_then ?_  | refine wp_ret ?_  | refine wp_skip ?_  | refine c_condF st rfl ?_  | ((first | refine o_move st rfl rfl ?_  | refine o_assign st rfl rfl ?_  | refine o_pickF st rfl rfl rfl ?_); clear st; intro _ st)  | ((first | refine o_alloc st rfl ?_  | refine o_boxA st rfl rfl ?_  | refine o_boxS st rfl rfl rfl ?_); clear st; intro _ _ _ st)  | ((first | refine o_loadS st rfl (by repeat constructor) rfl rfl ?_  | refine o_load2 st rfl (by repeat constructor) rfl ?_ ); clear st; intro _ st)  | ((first | refine o_storeS st rfl rfl rfl (by repeat constructor) rfl (by dsimp only [List.set]) ?_ ); clear st; intro _ _ st)  | ((first | refine o_notT st rfl rfl ?_ ); clear st; intro _ st)))
  refine c_drawA (last := 4) hm_ (by decide +kernel) (by decide +kernel) st ?_; clear st; intro _ st
  refine d_v 0 st (by repeat constructor) rfl (by decide +kernel) rfl (by first | exact v_load3 st rfl (by repeat constructor) | exact v_loadS st rfl (by repeat constructor) rfl) ?_; clear st; intro _ st
  refine d_v 1 st (by repeat constructor) rfl (by decide +kernel) rfl (by first | exact v_load3 st rfl (by repeat constructor) | exact v_loadS st rfl (by repeat constructor) rfl) ?_; clear st; intro _ st
  refine d_v 2 st (by repeat constructor) rfl (by decide +kernel) rfl (v_assign st rfl) ?_; clear st; intro _ st
  refine d_v 3 st (by repeat constructor) rfl (by decide +kernel) rfl (v_assign st rfl) ?_; clear st; intro _ st
  refine d_one 4 (by decide +kernel) rfl ?_
  (first | (refine o_assign st rfl rfl ?_; clear st; intro _ st))
  refine k_last ?_
  refine d_done (by decide +kernel) ?_
  (repeat' (first | refine c_seq ?_  | refine c_region ?_  | refine l_do ?_  | refine l_doG st rfl rfl ?_  | refine l_nil ?_  | refine x_then ?_  | refine wp_ret ?_  | refine wp_skip ?_  | refine c_condF st rfl ?_  | ((first | refine o_move st rfl rfl ?_  | refine o_assign st rfl rfl ?_  | refine o_pickF st rfl rfl rfl ?_); clear st; intro _ st)  | ((first | refine o_alloc st rfl ?_  | refine o_boxA st rfl rfl ?_  | refine o_boxS st rfl rfl rfl ?_); clear st; intro _ _ _ st)  | ((first | refine o_loadS st rfl (by repeat constructor) rfl rfl ?_  | refine o_load2 st rfl (by repeat constructor) rfl ?_ ); clear st; intro _ st)  | ((first | refine o_storeS st rfl rfl rfl (by repeat constructor) rfl (by dsimp only [List.set]) ?_ ); clear st; intro _ _ st)  | ((first | refine o_notT st rfl rfl ?_ ); clear st; intro _ st)))
  refine post3 st Try.results36 (rd_t st rfl) (rd_t st rfl) (rd_t st rfl) ?_
  exact ⟨rfl, st.ex0⟩
end Go.Proofs.Ytonbcbhnnflohaa
