/-
  FnNumbers: lists in memory; the source of choices. (printed by gen_xda.py)
-/
import Derived.Test.YtclgplbikjmopaaGreatDoorYa
import Derived.Lib.SliceRun
namespace Go.Proofs.YtclgplbikjmopaaGreatDoor
open Go.RowKit

/-- A list's memory holds these values. -/
def RdV (w : World) (base : Option Addr) (vs : List Value) : Prop := vs = [] ∨ ∃ blk off arr t fr, base = some ⟨blk, off, none⟩ ∧ w.heap[blk]? = some (.cells arr t fr) ∧ ∀ (i : Nat) (v : Value), vs[i]? = some v → arr[off + i]? = some v
theorem RdV.mono {w w' : World} {base : Option Addr} {vs : List Value} (h : RdV w base vs) (hb : Below w.heap.size w w') : RdV w' base vs := by
  rcases h with h | ⟨blk, off, arr, t, fr, h1, h2, h3⟩
  · exact .inl h
  · exact .inr ⟨blk, off, arr, t, fr, h1, by rw [hb.block blk (Array.getElem?_eq_some_iff.1 h2).1]; exact h2, h3⟩
theorem RdV.of {w : World} {b : Nat} {vs pad : List Value} {t : TypeId} {fr : Nat × Nat} (h : w.heap[b]? = some (.cells (vs ++ pad).toArray t fr)) : RdV w (some ⟨b, 0, none⟩) vs := by
  refine .inr ⟨b, 0, _, t, fr, rfl, h, ?_⟩
  intro i v hv
  have hi := (List.getElem?_eq_some_iff.1 hv).1
  simp only [Nat.zero_add, List.getElem?_toArray]
  rw [List.getElem?_append_left hi]
  exact hv
theorem RdV.get {w : World} {base : Option Addr} {vs : List Value} (h : RdV w base vs) (hn : vs ≠ []) : ∃ blk off arr t fr, base = some ⟨blk, off, none⟩ ∧ w.heap[blk]? = some (.cells arr t fr) ∧ ∀ (i : Nat) (hi : i < vs.length), arr[off + i]? = some vs[i] := by
  rcases h with h | ⟨blk, off, arr, t, fr, h1, h2, h3⟩
  · exact absurd h hn
  · exact ⟨blk, off, arr, t, fr, h1, h2, fun i hi => h3 i _ (List.getElem?_eq_getElem hi)⟩
theorem ob {α β : Type} {o : Option α} {k : α → Option β} {v : β} (h : o.bind k = some v) : ∃ r, o = some r ∧ k r = some v := Option.bind_eq_some_iff.1 h
theorem i32_0 : Is .f32 0 (some 0) := Is_lit (by decide +kernel)
theorem i32_1 : Is .f32 1065353216 (some 1065353216) := Is_lit (by decide +kernel)
section
variable {P : Program} {w0 w : World} {N : Nat} {a : Act} {E : List (Nat × Value)} {L Lh : List Ent} {K : Act → World → Prop} {Q : Exit → Act → World → Prop}
variable {d : Nat} {ty : TypeId} {pos : String} {aft : Array Edge} {g : Option (Nat × Bool)}
/-- The block of a list of values, with room. -/
abbrev oV (e : TypeId) (vs pad : List Value) : Obj := .cells (vs ++ pad).toArray e (0, 0)
/-- The value of a list that grows, and its block, if it has one. -/
def GV (e : TypeId) (v : Value) (vs : List Value) (Ls : List Ent) : Prop := (v = .slice none 0 0 ∧ vs = [] ∧ Ls = []) ∨ (∃ blk cp pad, 0 < vs.length ∧ v = .slice (some ⟨blk, 0, none⟩) vs.length cp ∧ Ls = [⟨blk, true, oV e vs pad⟩] ∧ (vs ++ pad).length = cp)
/-- The entries without some that stand side by side. -/
inductive RemS : List Ent → List Ent → List Ent → Prop
  | here {Ls Lt} : RemS (Ls ++ Lt) Ls Lt
  | hereEnd {Ls} : RemS Ls Ls []
  | hereR {La Ls} : RemS (La ++ Ls) Ls La
  | there {e L Ls Lr} : RemS L Ls Lr → RemS (e :: L) Ls (e :: Lr)
theorem RemS.sub {L Ls Lr : List Ent} (h : RemS L Ls Lr) : List.Sublist Lr L := by
  induction h with
  | here => exact List.sublist_append_right _ _
  | hereEnd => exact List.nil_sublist _
  | hereR => exact List.sublist_append_left _ _
  | there _ ih => exact List.Sublist.cons_cons _ ih
theorem rem_end (La : List Ent) (b : Nat) (o : Obj) : Rem (La ++ [⟨b, true, o⟩]) b o La := by
  induction La with
  | nil => exact Rem.here
  | cons e La ih => exact Rem.there ih
theorem RemS.rem {L Ls Lr : List Ent} (h : RemS L Ls Lr) {b : Nat} {o : Obj} (hs : Ls = [⟨b, true, o⟩]) : Rem L b o Lr := by
  induction h with
  | here => subst hs; exact Rem.here
  | hereEnd => subst hs; exact Rem.here
  | hereR => subst hs; exact rem_end _ _ _
  | there _ ih => exact Rem.there (ih hs)
theorem o_appendGV {t e ba bz : Nat} {v v1 : Value} {vs : List Value} {Ls Lr : List Ent} {zs : List Value} {x y : Operand} {ow : Bool} [hs : SliceT P t e] [he : ElemT P e 1 bz zs] (hbz : Nat.ble bz 1000 = true) (st : St w0 N a w E L) (hv : GV e v vs Ls)
    (hx : evE E x = some v) (hy : evE E y = some (.slice (some ⟨ba, 0, none⟩) 1 1)) (hA : At L ba ow (.cells [v1].toArray e (0, 0))) (h1 : v1.oneCell' = true) (hlim : vs.length ≤ 1000000) (hR : RemS L Ls Lr) (hd : Nat.blt d N = true)
    (h : ∀ blk cp pad a' w', (vs ++ [v1] ++ pad).length = cp → St w0 N a' w' ((d, .slice (some ⟨blk, 0, none⟩) (vs ++ [v1]).length cp) :: E) (⟨blk, true, oV e (vs ++ [v1]) pad⟩ :: Lr) → K a' w') :
    Oper.wp P ⟨some d, .call { callee := .builtin .append, args := #[x, y], argTypes := #[t, t] }, ty, pos, aft, g⟩ a w K Q := by
  have hbz' : bz ≤ 1000 := Nat.le_of_ble_eq_true hbz
  rcases hv with ⟨rfl, rfl, rfl⟩ | ⟨blk, cp, pad, _, rfl, hLs, hp⟩
  · refine o_appendF (size := 1) (news := [v1]) (m := 1) (st.subL hR.sub) hx hy ?_ rfl (by simpa using h1) (by omega) (by omega) (by omega) hd ?_
    · intro j u hj
      rw [cell_known st hA rfl]
      simpa using hj
    · intro b' cap' pad' a' w' hl st'
      exact h b' cap' pad' a' w' (by simpa using hl) st'
  · refine o_append1V hbz st hx hy (hR.rem hLs) hA rfl hp h1 (by omega) hd ?_
    intro b' cap' pad' a' w' hl st'
    refine h b' cap' pad' a' w' hl ?_
    have e1 : (vs ++ [v1]).length = vs.length + 1 := by simp
    rw [e1]
    exact st'
theorem GV.grown {e : TypeId} {vs : List Value} {v1 : Value} {blk cp : Nat} {pad : List Value} (hp : (vs ++ [v1] ++ pad).length = cp) : GV e (.slice (some ⟨blk, 0, none⟩) (vs ++ [v1]).length cp) (vs ++ [v1]) [⟨blk, true, oV e (vs ++ [v1]) pad⟩] :=
  .inr ⟨blk, cp, pad, by simp, rfl, rfl, hp⟩
theorem GV.nil {e : TypeId} : GV e (.slice none 0 0) [] [] := .inl ⟨rfl, rfl, rfl⟩
theorem St.perm {L' : List Ent} (st : St w0 N a w E L) (h : L.Perm L') : St w0 N a w E L' := by
  refine ⟨st.env, st.size, st.defers, st.below, fun e he => st.facts e (h.mem_iff.2 he), ?_⟩
  exact (h.pairwise_iff (fun hxy ho => (hxy ho.symm).symm)).1 st.uniq
/-- A call that gives a value and one new block. -/
def CM1 (P : Program) (f : FuncId) (vs : List Value) (w : World) (R : Value → Nat → Obj → Prop) : Prop := Calls P f vs.toArray w fun e w' => ∃ v b o, e = .returned v ∧ R v b o ∧ Ex w w' [⟨b, true, o⟩]
theorem o_callM1 {f : FuncId} {args : List Operand} {tys : Array TypeId} {vs : List Value} {R : Value → Nat → Obj → Prop} [hf : FnT P f] (st : St w0 N a w E L) (ha : evs E args = some vs)
    (hc : CM1 P f vs w R) (hd : Nat.blt d N = true) (h : ∀ v b o, R v b o → ∀ a' w', St w0 N a' w' ((d, v) :: E) (⟨b, true, o⟩ :: L) → K a' w') : Oper.wp P ⟨some d, .call { callee := .value (.func f), args := args.toArray, argTypes := tys }, ty, pos, aft, g⟩ a w K Q :=
  o_call st ha hc fun _ _ ⟨v, b, o, he, hR, hx⟩ => ⟨v, he, h v b o hR _ _ ((st.ext1 hx).put d hd _)⟩
theorem o_storeC {t t' : TypeId} {x y : Operand} {b off : Nat} {cs : List Value} (cs' : List Value) {v : Value} {L' : List Ent} [ht : ScaT P t] (st : St w0 N a w E L)
    (hx : evE E x = some (.pointer (some ⟨b, off, none⟩))) (hy : evE E y = some v) (hv : v.oneCell' = true) (hU : Upd L b (.cells cs.toArray t' (0, 0)) (.cells cs'.toArray t' (0, 0)) L') (hlt : off < cs.length) (hs : cs.set off v = cs')
    (h : ∀ a' w', St w0 N a' w' E L' → K a' w') : Oper.wp P ⟨none, .store t x y, ty, pos, aft, g⟩ a w K Q :=
  o_storeS st hx hy hv hU (by simpa [Nat.blt_eq] using hlt) hs h
theorem post0 {fn : Func} {R : Ending → World → Prop} (st : St w0 N a w E L) (hr : fn.results = #[]) (h : R (.returned (.tuple #[])) w) : bodyPost P fn R .ret a w := by
  refine ⟨st.defers, .tuple #[], ?_, h⟩
  rw [results_eq, hr]
  simp
theorem oV_get {vs pad : List Value} {k : Nat} (h : k < vs.length) : (vs ++ pad).toArray[0 + ((k : Nat) : Int).toNat * 1]? = some vs[k] := by
  simp only [Nat.zero_add, Int.toNat_natCast, Nat.mul_one, List.getElem?_toArray]
  rw [List.getElem?_append_left h, List.getElem?_eq_getElem h]
theorem set_left {cur pad : List Value} {k : Nat} {v : Value} (h : k < cur.length) : (cur ++ pad).set k v = cur.set k v ++ pad := by rw [List.set_append, if_pos h]
theorem St.ne_of {e1 e2 : Ent} (st : St w0 N a w E L) (ho : e1.own = true) (hs : List.Sublist [e1, e2] L) : e1.b ≠ e2.b := by
  have := st.uniq.sublist hs
  exact (List.pairwise_cons.1 this).1 e2 (by simp) (.inl ho)
theorem St.disown {b : Nat} {ow : Bool} {o : Obj} (st : St w0 N a w E (⟨b, ow, o⟩ :: L)) : St w0 N a w E (⟨b, false, o⟩ :: L) := by
  refine ⟨st.env, st.size, st.defers, st.below, ?_, ?_⟩
  · intro e he
    rcases List.mem_cons.1 he with rfl | he
    · exact ⟨(st.facts _ List.mem_cons_self).1, fun h => by cases h⟩
    · exact st.facts e (List.mem_cons_of_mem _ he)
  · obtain ⟨h1, h2⟩ := List.pairwise_cons.1 st.uniq
    refine List.pairwise_cons.2 ⟨fun y hy ho => h1 y hy ?_, h2⟩
    rcases ho with ho | ho
    · cases ho
    · exact .inr ho
end

/-- A struct of three single cells at 0, 1, 2. -/
class B3T (P : Program) (t : TypeId) (z0 z1 z2 : outParam Value) : Prop where
  b : ∀ parts, P.built t parts = Instr.fill ([(0, 1), (1, 1), (2, 1)].toArray[·]?) [z0, z1, z2].toArray parts
instance : B3T Tryz.prog 66 (.slice none 0 0) (.int .i64 0) (.int .u64 0) := ⟨fun parts => by kernel_rfl⟩
section
variable {P : Program} {w0 w : World} {N : Nat} {a : Act} {E : List (Nat × Value)} {L Lh : List Ent} {K : Act → World → Prop} {Q : Exit → Act → World → Prop}
variable {d : Nat} {ty : TypeId} {pos : String} {aft : Array Edge} {g : Option (Nat × Bool)}
theorem src_no_byte {v : Value} {i j c : Int} {k : Nat} (hs : ∀ q, v ≠ .int .u8 q) (h : [v, .int .i64 i, .int .u64 j].toArray[k]? = some (.int .u8 c)) : False := by
  match k with
  | 0 => simp at h; exact hs _ h
  | 1 => simp at h
  | 2 => simp at h
  | k + 3 => simp at h
theorem fill1 {z0 z1 z2 v0 : Value} (h0 : v0.oneCell' = true) : Instr.fill ([(0, 1), (1, 1), (2, 1)].toArray[·]?) [z0, z1, z2].toArray [(0, v0)] = some [v0, z1, z2].toArray := by
  have c0 : v0.cells = #[v0] := cells_sca h0
  simp [Instr.fill, c0]
theorem o_build1 {t : TypeId} {x : Operand} {z0 z1 z2 v0 : Value} [hb : B3T P t z0 z1 z2] (st : St w0 N a w E L) (hx : evE E x = some v0) (h0 : v0.oneCell' = true) (hd : Nat.blt d N = true)
    (h : ∀ a', St w0 N a' w ((d, .agg [v0, z1, z2].toArray) :: E) L → K a' w) : Oper.wp P ⟨some d, .build t #[(0, x)], ty, pos, aft, g⟩ a w K Q :=
  o_build (parts := [(0, x)]) (cs := [v0, z1, z2]) st (fun w => run_build w t _ _ (by
    rw [hb.b]
    simp only [List.map_cons, List.map_nil, evE_eval st hx]
    exact fill1 h0)) hd h
theorem v_nilCheck {x : Operand} {ad : Addr} (st : St w0 N a w E L) (hx : evE E x = some (.pointer (some ad))) : Vl P a Lh (.nilCheck x) (.pointer (some ad)) := by
  intro d ty pos aft g w' _
  simp [execOp, evE_eval st hx]

/-! ## plain -/
theorem o_mulW {x y : Operand} {t ys : TypeId} {k : IntKind} {i j : Int} (st : St w0 N a w E L) (hx : evE E x = some (.int k i)) (hy : evE E y = some (.int k j)) (hd : Nat.blt d N = true)
    (h : ∀ a', St w0 N a' w ((d, .int k (k.wrap (i * j))) :: E) L → K a' w) : Oper.wp P ⟨some d, .binOp .mul t x y ys, ty, pos, aft, g⟩ a w K Q :=
  o_val (v := .int k (k.wrap (i * j))) (w' := w) (by simp [execOp, evE_eval st hx, evE_eval st hy, binOp_mul, Op.intArith, eqGuard_mul]) (h _ (st.put d hd _))
theorem o_nilCheck {x : Operand} {ad : Addr} (st : St w0 N a w E L) (hx : evE E x = some (.pointer (some ad))) (hd : Nat.blt d N = true)
    (h : ∀ a', St w0 N a' w ((d, .pointer (some ad)) :: E) L → K a' w) : Oper.wp P ⟨some d, .nilCheck x, ty, pos, aft, g⟩ a w K Q :=
  o_val (v := .pointer (some ad)) (w' := w) (by simp [execOp, evE_eval st hx]) (h _ (st.put d hd _))
/-- A call that changes one block and makes others. -/
def CUL (P : Program) (f : FuncId) (vs : List Value) (w : World) (b : Nat) (R : Value → Obj → List Ent → Prop) : Prop :=
  Calls P f vs.toArray w fun e w' => ∃ v o' Ln, e = .returned v ∧ R v o' Ln ∧ Below b w w' ∧ (∀ k, k ≠ b → k < w.heap.size → w'.heap[k]? = w.heap[k]?) ∧ w'.heap[b]? = some o' ∧ (∀ e ∈ Ln, e.own = true ∧ w'.heap[e.b]? = some e.o ∧ w.heap.size ≤ e.b) ∧ Ln.Pairwise (fun x y => x.b ≠ y.b)
theorem St.updNewL {w' : World} {b : Nat} {o o' : Obj} {Ln L' : List Ent} (st : St w0 N a w E L) (hu : Upd L b o o' L') (hw : Below b w w') (hb : ∀ k, k ≠ b → k < w.heap.size → w'.heap[k]? = w.heap[k]?) (hn : w'.heap[b]? = some o') (h1 : ∀ e ∈ Ln, e.own = true ∧ w'.heap[e.b]? = some e.o ∧ w.heap.size ≤ e.b) (h2 : Ln.Pairwise (fun x y => x.b ≠ y.b)) : St w0 N a w' E (Ln ++ L') := by
  have s := st.upd hu hw hb hn
  refine ⟨s.env, s.size, s.defers, s.below, ?_, ?_⟩
  · intro e he
    rcases List.mem_append.1 he with he | he
    · exact ⟨(h1 e he).2.1, fun _ => Nat.le_trans st.below.size (h1 e he).2.2⟩
    · exact s.facts e he
  · refine List.pairwise_append.2 ⟨List.Pairwise.imp (R := fun x y : Ent => x.b ≠ y.b) (S := fun x y : Ent => (x.own = true ∨ y.own = true) → x.b ≠ y.b) (fun h _ => h) h2, s.uniq, ?_⟩
    intro x hx y hy _
    have hlt : y.b < w.heap.size := by
      rcases hu.mem y hy with rfl | he
      · exact st.lt hu.old
      · exact (Array.getElem?_eq_some_iff.1 (st.facts y he).1).1
    have := (h1 x hx).2.2
    omega
theorem o_callUL {f : FuncId} {args : List Operand} {tys : Array TypeId} {vs : List Value} {b : Nat} {o : Obj} {R : Value → Obj → List Ent → Prop} {L' : Obj → List Ent} [hf : FnT P f] (st : St w0 N a w E L) (ha : evs E args = some vs)
    (hc : CUL P f vs w b R) (hU : ∀ o', Upd L b o o' (L' o')) (hd : Nat.blt d N = true) (h : ∀ v o' Ln, R v o' Ln → ∀ a' w', St w0 N a' w' ((d, v) :: E) (Ln ++ L' o') → K a' w') : Oper.wp P ⟨some d, .call { callee := .value (.func f), args := args.toArray, argTypes := tys }, ty, pos, aft, g⟩ a w K Q :=
  o_call st ha hc fun _ _ ⟨v, o', Ln, he, hR, hB, ho, hn, h1, h2⟩ => ⟨v, he, h v o' Ln hR _ _ ((st.updNewL (hU o') hB ho hn h1 h2).put d hd _)⟩
theorem enterUL {f : FuncId} {fn : Func} {c : Code} {args : List Value} {R : Value → Obj → List Ent → Prop} {b : Nat} {o : Obj} (Lk : List Ent) (hLk : ∀ e ∈ Lk, e.own = false ∧ e.b ≠ b ∧ w.heap[e.b]? = some e.o) (hb0 : w.heap[b]? = some o) (hf : P.funcs[f]? = some fn) (hb : fn.body = some c) (hE : envOf 0 args = E) (hN : fn.ntmps = N) (hn : Nat.ble args.length N = true)
    (h : ∀ a w0 Lf, St w0 N a w E (⟨b, true, o⟩ :: (Lk ++ Lf)) → c.wp P (bodyPost P fn (fun e w' => ∃ v o' Ln, e = .returned v ∧ R v o' Ln ∧ (∀ e ∈ Ln, e.own = true) ∧ ∃ a', St w0 N a' w' [] (Ln ++ ⟨b, true, o'⟩ :: Lf))) a w) : CUL P f args w b R := by
  have hlt : b < w.heap.size := (Array.getElem?_eq_some_iff.1 hb0).1
  let w1 : World := { w with heap := w.heap.extract 0 b }
  have hs1 : w1.heap.size = b := by simp [w1]; omega
  have hbel : Below w1.heap.size w1 w := by
    refine ⟨rfl, rfl, rfl, by rw [hs1]; omega, ?_⟩
    intro k hk
    rw [hs1] at hk
    show w.heap[k]? = (w.heap.extract 0 b)[k]?
    rw [Array.getElem?_extract, if_pos (by omega), Nat.zero_add]
  have hent : ∀ st0, Calls P f args.toArray w (fun e w' => ∃ v o' Ln, e = .returned v ∧ R v o' Ln ∧ (∀ e ∈ Ln, e.own = true) ∧ ∃ a', St w1 N a' w' [] (Ln ++ ⟨b, true, o'⟩ :: others w b)) := fun st0 => calls_of_wp hf hb (h _ w1 (others w b) st0)
  have hown : ∀ e ∈ Lk ++ others w b, e.own = false ∧ e.b ≠ b ∧ w.heap[e.b]? = some e.o := fun e he => by
    rcases List.mem_append.1 he with he | he
    · exact hLk e he
    · exact mem_others he
  refine (hent ⟨?_, ?_, rfl, hbel, ?_, ?_⟩).mono ?_
  rotate_left 4
  · rintro e w' ⟨v, o', Ln, he, hR, hLn, a', st0⟩
    have st := st0.subL (L' := ⟨b, true, o'⟩ :: others w b) (List.sublist_append_right _ _)
    have hnew : ∀ e ∈ Ln, e.own = true ∧ w'.heap[e.b]? = some e.o ∧ w.heap.size ≤ e.b := by
      intro e he
      refine ⟨hLn e he, (st0.facts e (List.mem_append_left _ he)).1, ?_⟩
      have hu := (List.pairwise_append.1 st0.uniq).2.2 e he
      apply Nat.le_of_not_lt
      intro hlt2
      by_cases hk : e.b = b
      · exact hu _ List.mem_cons_self (.inl (hLn e he)) hk
      · exact hu _ (List.mem_cons_of_mem _ (others_mem hlt2 hk)) (.inl (hLn e he)) rfl
    have hpw : Ln.Pairwise (fun x y => x.b ≠ y.b) := (List.pairwise_append.1 st0.uniq).1.imp_of_mem fun hx _ h => h (.inl (hLn _ hx))
    have hfact : ∀ k, k ≠ b → k < w.heap.size → w'.heap[k]? = w.heap[k]? := by
      intro k hne hk
      have := (st.facts _ (List.mem_cons_of_mem _ (others_mem hk hne))).1
      rw [this]
      simp [hk]
    have hbb := (st.facts _ List.mem_cons_self).1
    refine ⟨v, o', Ln, he, hR, ⟨?_, ?_, ?_, ?_, ?_⟩, hfact, hbb, hnew, hpw⟩
    · exact st.below.os.trans hbel.os.symm
    · exact st.below.tape.trans hbel.tape.symm
    · exact st.below.output.trans hbel.output.symm
    · have : w.heap.size - 1 < w'.heap.size := by
        by_cases hk : w.heap.size - 1 = b
        · rw [hk]; exact (Array.getElem?_eq_some_iff.1 hbb).1
        · have h1 := hfact (w.heap.size - 1) hk (by omega)
          have h2 : w.heap[w.heap.size - 1]? = some w.heap[w.heap.size - 1] := by simp
          rw [h2] at h1
          exact (Array.getElem?_eq_some_iff.1 h1).1
      omega
    · intro k hk
      exact hfact k (by omega) (by omega)
  · intro i u hu
    subst hE
    obtain ⟨_, h2⟩ := lk_envOf args 0 i u hu
    have hi : i < args.length := by
      have := (List.getElem?_eq_some_iff.1 h2).1
      simpa using this
    simp only [Nat.sub_zero] at h2
    simp [Array.getElem?_append, hi]
    simpa [hi] using h2
  · have : args.length ≤ N := by simpa using Nat.le_of_ble_eq_true hn
    simp [hN]
    omega
  · intro e he
    rcases List.mem_cons.1 he with rfl | he
    · exact ⟨hb0, fun _ => by rw [hs1]; exact Nat.le_refl _⟩
    · have := hown e he
      exact ⟨this.2.2, fun h => by rw [this.1] at h; cases h⟩
  · refine List.pairwise_cons.2 ⟨fun e he _ => (hown e he).2.1.symm, ?_⟩
    refine List.Pairwise.imp_of_mem (R := fun _ _ => True) ?_ (List.pairwise_of_forall (fun _ _ => trivial))
    intro x y hx hy _ ho
    rcases ho with ho | ho
    · rw [(hown x hx).1] at ho; cases ho
    · rw [(hown y hy).1] at ho; cases ho
end

/-! ## the source of choices -/
def oSrc (base : Option Addr) (n cap at_ : Nat) (sd : Int) : Obj := .cells [.slice base n cap, .int .i64 at_, .int .u64 sd].toArray 66 (0, 0)
/-- The bytes' block, as a known one, if there is one. -/
theorem RdB.code {w : World} {base : Option Addr} {cs : List Int} {b n cap at_ : Nat} {sd : Int} {base' : Option Addr} (h : RdB w base cs) (hb : w.heap[b]? = some (oSrc base' n cap at_ sd)) :
    ∃ Lk : List Ent, (∀ e ∈ Lk, e.own = false ∧ e.b ≠ b ∧ w.heap[e.b]? = some e.o) ∧ (∀ w' : World, (∀ e ∈ Lk, w'.heap[e.b]? = some e.o) → RdB w' base cs) := by
  by_cases hcs : cs = []
  · exact ⟨[], by simp, fun _ _ => .inl hcs⟩
  rcases h with h | ⟨blk, off, arr, t, fr, h1, h2, h3⟩
  · exact absurd h hcs
  · refine ⟨[⟨blk, false, .cells arr t fr⟩], ?_, fun w' h => .inr ⟨blk, off, arr, t, fr, h1, h ⟨blk, false, .cells arr t fr⟩ (by simp), h3⟩⟩
    intro e he
    simp only [List.mem_singleton] at he
    subst he
    refine ⟨rfl, ?_, h2⟩
    rintro rfl
    have h2 : w.heap[blk]? = some (.cells arr t fr) := h2
    have hb : w.heap[blk]? = some (oSrc base' n cap at_ sd) := hb
    rw [h2] at hb
    cases hb
    cases cs with
    | nil => exact hcs rfl
    | cons c cs =>
      exact src_no_byte (by simp) (h3 0 c rfl)

attribute [local irreducible] Code.wp wpList Oper.wp Calls bodyPost Exit.then Exit.inBlock

set_option maxHeartbeats 16000000 in
theorem l00next_ok (cs : List Int) (hok : okB cs) (hlen : cs.length ≤ 1000000000) (base : Option Addr) (cap at_ : Nat) (hat : at_ ≤ 1000000000) (sd : Int) (b : Nat) (w : World) (hr : RdB w base cs) (hb : w.heap[b]? = some (oSrc base cs.length cap at_ sd)) :
    CUX Tryz.prog 40 [.pointer (some ⟨b, 0, none⟩)] w b (fun v o' => ∃ (x : Nat) (sd' : Int), v = .int .i64 x ∧ x ≤ 255 ∧ o' = oSrc base cs.length cap (at_ + 1) sd') := by
  by_cases hlt : at_ < cs.length
  · rcases hr with rfl | ⟨blk, off, arr, t, fr, rfl, hw, h3⟩
    · simp at hlt
    have hne : blk ≠ b := by
      rintro rfl
      rw [hw] at hb
      cases hb
      exact src_no_byte (by simp) (h3 at_ _ (List.getElem?_eq_getElem hlt))
    have hv := h3 at_ _ (List.getElem?_eq_getElem hlt)
    have hc := hok _ (List.getElem_mem hlt)
    obtain ⟨c, hcc⟩ : ∃ c : Nat, cs[at_] = (c : Int) := ⟨cs[at_].toNat, by omega⟩
    rw [hcc] at hv hc
    have e1 : off + at_ = off + ((at_ : Nat) : Int).toNat * 1 := by simp
    rw [e1] at hv
    have ew : IntKind.i64.wrap ((c : Nat) : Int) = (c : Int) := by rw [IntKind.wrap_i64]; omega
    have ew2 : IntKind.u64.wrap ((c : Nat) : Int) = (c : Int) := wrap_u64 (by omega) (by omega)
    refine enterUX [⟨blk, false, .cells arr t fr⟩] (by intro e he; simp only [List.mem_singleton] at he; subst he; exact ⟨rfl, hne, hw⟩) hb Tryz.func40 rfl rfl rfl rfl ?_
    intro a w0 Lf st
    have st : St w0 _ a w _ (⟨b, true, oSrc (some ⟨blk, off, none⟩) cs.length cap at_ sd⟩ :: ⟨blk, false, .cells arr t fr⟩ :: Lf) := st
    (repeat' (first | refine c_seq ?_ | refine c_region ?_ | refine l_do ?_ | refine l_nil ?_ | refine x_then ?_ | refine x_thenR ?_ | refine x_thenE ?_ | refine wp_ret ?_ | refine wp_skip ?_ | refine c_condT st rfl ?_ | refine c_condF st rfl ?_ | ((first | refine o_move st rfl rfl ?_ | refine o_assign st rfl rfl ?_ | refine o_fieldAddr st rfl rfl ?_ | refine o_loadS st rfl (by repeat constructor) rfl rfl ?_ | refine o_load3 st rfl (by repeat constructor) rfl ?_ | refine o_load2 st rfl (by repeat constructor) rfl ?_ | refine o_load4 st rfl (by repeat constructor) rfl ?_); clear st; intro _ st) | ((first | refine o_storeS st rfl rfl rfl (by repeat constructor) rfl (by dsimp only [List.set]) ?_ | refine o_storeW st rfl rfl (by repeat constructor) rfl rfl rfl ?_); clear st; intro _ _ st) | ((first | refine o_len st rfl rfl ?_ | refine o_add64 st rfl rfl rfl (by omega) (by omega) ?_ | refine o_mulW st rfl rfl rfl ?_ | refine o_nilCheck st rfl rfl ?_ | refine o_fcv0 st rfl rfl ?_ | refine o_intFloat st rfl rfl ?_); clear st; intro _ st) | ((first | refine o_lss st rfl rfl rfl ?_ ?_ | refine o_leq st rfl rfl rfl ?_ ?_) <;> clear st <;> intro _ _ st <;> (try (exfalso; omega)))))
    refine c_drawA (last := 10) hm_ (by decide +kernel) (by decide +kernel) st ?_; clear st; intro _ st
    refine d_v 0 st (by repeat constructor) rfl (by decide +kernel) rfl (v_move st rfl) ?_; clear st; intro _ st
    refine d_v 1 st (by repeat constructor) rfl (by decide +kernel) rfl (v_nilCheck st rfl) ?_; clear st; intro _ st
    refine d_v 2 st (by repeat constructor) rfl (by decide +kernel) rfl (v_fieldAddr st rfl) ?_; clear st; intro _ st
    refine d_v 3 st (by repeat constructor) rfl (by decide +kernel) rfl (by first | exact v_load3 st rfl (by repeat constructor) | exact v_loadS st rfl (by repeat constructor) rfl) ?_; clear st; intro _ st
    refine d_v 4 st (by repeat constructor) rfl (by decide +kernel) rfl (v_move st rfl) ?_; clear st; intro _ st
    refine d_v 5 st (by repeat constructor) rfl (by decide +kernel) rfl (v_nilCheck st rfl) ?_; clear st; intro _ st
    refine d_v 6 st (by repeat constructor) rfl (by decide +kernel) rfl (v_fieldAddr st rfl) ?_; clear st; intro _ st
    refine d_v 7 st (by repeat constructor) rfl (by decide +kernel) rfl (by first | exact v_load3 st rfl (by repeat constructor) | exact v_loadS st rfl (by repeat constructor) rfl) ?_; clear st; intro _ st
    refine d_v 8 st (by repeat constructor) rfl (by decide +kernel) rfl (v_len st rfl) ?_; clear st; intro _ st
    refine d_one 9 (by decide +kernel) rfl ?_
    (first | (refine o_lss st rfl rfl rfl ?_ ?_ <;> clear st <;> intro _ _ st <;> (try (exfalso; omega))))
    refine kh st (by repeat constructor) ?_
    refine d_done (by decide +kernel) ?_
    (repeat' (first | refine c_seq ?_ | refine c_region ?_ | refine l_do ?_ | refine l_nil ?_ | refine x_then ?_ | refine x_thenR ?_ | refine x_thenE ?_ | refine wp_ret ?_ | refine wp_skip ?_ | refine c_condT st rfl ?_ | refine c_condF st rfl ?_ | ((first | refine o_move st rfl rfl ?_ | refine o_assign st rfl rfl ?_ | refine o_fieldAddr st rfl rfl ?_ | refine o_loadS st rfl (by repeat constructor) rfl rfl ?_ | refine o_load3 st rfl (by repeat constructor) rfl ?_ | refine o_load2 st rfl (by repeat constructor) rfl ?_ | refine o_load4 st rfl (by repeat constructor) rfl ?_); clear st; intro _ st) | ((first | refine o_storeS st rfl rfl rfl (by repeat constructor) rfl (by dsimp only [List.set]) ?_ | refine o_storeW st rfl rfl (by repeat constructor) rfl rfl rfl ?_); clear st; intro _ _ st) | ((first | refine o_len st rfl rfl ?_ | refine o_add64 st rfl rfl rfl (by omega) (by omega) ?_ | refine o_mulW st rfl rfl rfl ?_ | refine o_nilCheck st rfl rfl ?_ | refine o_fcv0 st rfl rfl ?_ | refine o_intFloat st rfl rfl ?_); clear st; intro _ st) | ((first | refine o_lss st rfl rfl rfl ?_ ?_ | refine o_leq st rfl rfl rfl ?_ ?_) <;> clear st <;> intro _ _ st <;> (try (exfalso; omega)))))
    refine c_drawA (last := 11) hm_ (by decide +kernel) (by decide +kernel) st ?_; clear st; intro _ st
    refine d_v 0 st (by repeat constructor) rfl (by decide +kernel) rfl (v_move st rfl) ?_; clear st; intro _ st
    refine d_v 1 st (by repeat constructor) rfl (by decide +kernel) rfl (v_nilCheck st rfl) ?_; clear st; intro _ st
    refine d_v 2 st (by repeat constructor) rfl (by decide +kernel) rfl (v_fieldAddr st rfl) ?_; clear st; intro _ st
    refine d_v 3 st (by repeat constructor) rfl (by decide +kernel) rfl (by first | exact v_load3 st rfl (by repeat constructor) | exact v_loadS st rfl (by repeat constructor) rfl) ?_; clear st; intro _ st
    refine d_v 4 st (by repeat constructor) rfl (by decide +kernel) rfl (v_move st rfl) ?_; clear st; intro _ st
    refine d_v 5 st (by repeat constructor) rfl (by decide +kernel) rfl (v_nilCheck st rfl) ?_; clear st; intro _ st
    refine d_v 6 st (by repeat constructor) rfl (by decide +kernel) rfl (v_fieldAddr st rfl) ?_; clear st; intro _ st
    refine d_v 7 st (by repeat constructor) rfl (by decide +kernel) rfl (by first | exact v_load3 st rfl (by repeat constructor) | exact v_loadS st rfl (by repeat constructor) rfl) ?_; clear st; intro _ st
    refine d_v 8 st (by repeat constructor) rfl (by decide +kernel) rfl (v_indexAddr st rfl rfl (by omega) (by omega)) ?_; clear st; intro _ st
    refine d_v 9 st (by repeat constructor) rfl (by decide +kernel) rfl (v_loadS st rfl (by repeat constructor) hv) ?_; clear st; intro _ st
    refine d_one 10 (by decide +kernel) rfl ?_
    refine o_intInt st rfl ew rfl ?_; clear st; intro _ st
    refine kh st (by repeat constructor) ?_
    refine d_one 11 (by decide +kernel) rfl ?_
    (first | (refine o_assign st rfl rfl ?_; clear st; intro _ st))
    refine k_last ?_
    refine d_done (by decide +kernel) ?_
    (repeat' (first | (refine o_intInt st rfl ew2 rfl ?_; clear st; intro _ st) | (refine o_addW (k := .u64) st rfl rfl rfl ?_; clear st; intro _ st) | refine c_seq ?_ | refine c_region ?_ | refine l_do ?_ | refine l_nil ?_ | refine x_then ?_ | refine x_thenR ?_ | refine x_thenE ?_ | refine wp_ret ?_ | refine wp_skip ?_ | refine c_condT st rfl ?_ | refine c_condF st rfl ?_ | ((first | refine o_move st rfl rfl ?_ | refine o_assign st rfl rfl ?_ | refine o_fieldAddr st rfl rfl ?_ | refine o_loadS st rfl (by repeat constructor) rfl rfl ?_ | refine o_load3 st rfl (by repeat constructor) rfl ?_ | refine o_load2 st rfl (by repeat constructor) rfl ?_ | refine o_load4 st rfl (by repeat constructor) rfl ?_); clear st; intro _ st) | ((first | refine o_storeS st rfl rfl rfl (by repeat constructor) rfl (by dsimp only [List.set]) ?_ | refine o_storeW st rfl rfl (by repeat constructor) rfl rfl rfl ?_); clear st; intro _ _ st) | ((first | refine o_len st rfl rfl ?_ | refine o_add64 st rfl rfl rfl (by omega) (by omega) ?_ | refine o_mulW st rfl rfl rfl ?_ | refine o_nilCheck st rfl rfl ?_ | refine o_fcv0 st rfl rfl ?_ | refine o_intFloat st rfl rfl ?_); clear st; intro _ st) | ((first | refine o_lss st rfl rfl rfl ?_ ?_ | refine o_leq st rfl rfl rfl ?_ ?_) <;> clear st <;> intro _ _ st <;> (try (exfalso; omega)))))
    refine c_drawA (last := 10) hm_ (by decide +kernel) (by decide +kernel) st ?_; clear st; intro _ st
    refine d_v 0 st (by repeat constructor) rfl (by decide +kernel) rfl (v_move st rfl) ?_; clear st; intro _ st
    refine d_v 1 st (by repeat constructor) rfl (by decide +kernel) rfl (v_nilCheck st rfl) ?_; clear st; intro _ st
    refine d_v 2 st (by repeat constructor) rfl (by decide +kernel) rfl (v_fieldAddr st rfl) ?_; clear st; intro _ st
    refine d_v 3 st (by repeat constructor) rfl (by decide +kernel) rfl (by first | exact v_load3 st rfl (by repeat constructor) | exact v_loadS st rfl (by repeat constructor) rfl) ?_; clear st; intro _ st
    refine d_v 4 st (by repeat constructor) rfl (by decide +kernel) rfl (v_move st rfl) ?_; clear st; intro _ st
    refine d_v 5 st (by repeat constructor) rfl (by decide +kernel) rfl (v_nilCheck st rfl) ?_; clear st; intro _ st
    refine d_v 6 st (by repeat constructor) rfl (by decide +kernel) rfl (v_fieldAddr st rfl) ?_; clear st; intro _ st
    refine d_v 7 st (by repeat constructor) rfl (by decide +kernel) rfl (by first | exact v_load3 st rfl (by repeat constructor) | exact v_loadS st rfl (by repeat constructor) rfl) ?_; clear st; intro _ st
    refine d_v 8 st (by repeat constructor) rfl (by decide +kernel) rfl (v_len st rfl) ?_; clear st; intro _ st
    refine d_one 9 (by decide +kernel) rfl ?_
    (first | (refine o_leq st rfl rfl rfl ?_ ?_ <;> clear st <;> intro _ _ st <;> (try (exfalso; omega))))
    refine kh st (by repeat constructor) ?_
    refine d_done (by decide +kernel) ?_
    (repeat' (first | refine c_seq ?_ | refine c_region ?_ | refine l_do ?_ | refine l_nil ?_ | refine x_then ?_ | refine x_thenR ?_ | refine x_thenE ?_ | refine wp_ret ?_ | refine wp_skip ?_ | refine c_condT st rfl ?_ | refine c_condF st rfl ?_ | ((first | refine o_move st rfl rfl ?_ | refine o_assign st rfl rfl ?_ | refine o_fieldAddr st rfl rfl ?_ | refine o_loadS st rfl (by repeat constructor) rfl rfl ?_ | refine o_load3 st rfl (by repeat constructor) rfl ?_ | refine o_load2 st rfl (by repeat constructor) rfl ?_ | refine o_load4 st rfl (by repeat constructor) rfl ?_); clear st; intro _ st) | ((first | refine o_storeS st rfl rfl rfl (by repeat constructor) rfl (by dsimp only [List.set]) ?_ | refine o_storeW st rfl rfl (by repeat constructor) rfl rfl rfl ?_); clear st; intro _ _ st) | ((first | refine o_len st rfl rfl ?_ | refine o_add64 st rfl rfl rfl (by omega) (by omega) ?_ | refine o_mulW st rfl rfl rfl ?_ | refine o_nilCheck st rfl rfl ?_ | refine o_fcv0 st rfl rfl ?_ | refine o_intFloat st rfl rfl ?_); clear st; intro _ st) | ((first | refine o_lss st rfl rfl rfl ?_ ?_ | refine o_leq st rfl rfl rfl ?_ ?_) <;> clear st <;> intro _ _ st <;> (try (exfalso; omega)))))
    refine post1 st Tryz.results40 (rd_t st rfl) ?_
    exact ⟨_, _, rfl, ⟨c, _, rfl, by omega, rfl⟩, _, (st.fit (E' := []) trivial).subL (by repeat (first | exact List.Sublist.refl _ | apply List.Sublist.cons_cons | apply List.Sublist.cons | exact List.nil_sublist _))⟩
  · refine enterUX [] (by simp) hb Tryz.func40 rfl rfl rfl rfl ?_
    intro a w0 Lf st
    have st : St w0 _ a w _ (⟨b, true, oSrc base cs.length cap at_ sd⟩ :: Lf) := st
    (repeat' (first | refine c_seq ?_ | refine c_region ?_ | refine l_do ?_ | refine l_nil ?_ | refine x_then ?_ | refine x_thenR ?_ | refine x_thenE ?_ | refine wp_ret ?_ | refine wp_skip ?_ | refine c_condT st rfl ?_ | refine c_condF st rfl ?_ | ((first | refine o_move st rfl rfl ?_ | refine o_assign st rfl rfl ?_ | refine o_fieldAddr st rfl rfl ?_ | refine o_loadS st rfl (by repeat constructor) rfl rfl ?_ | refine o_load3 st rfl (by repeat constructor) rfl ?_ | refine o_load2 st rfl (by repeat constructor) rfl ?_ | refine o_load4 st rfl (by repeat constructor) rfl ?_); clear st; intro _ st) | ((first | refine o_storeS st rfl rfl rfl (by repeat constructor) rfl (by dsimp only [List.set]) ?_ | refine o_storeW st rfl rfl (by repeat constructor) rfl rfl rfl ?_); clear st; intro _ _ st) | ((first | refine o_len st rfl rfl ?_ | refine o_add64 st rfl rfl rfl (by omega) (by omega) ?_ | refine o_mulW st rfl rfl rfl ?_ | refine o_nilCheck st rfl rfl ?_ | refine o_fcv0 st rfl rfl ?_ | refine o_intFloat st rfl rfl ?_); clear st; intro _ st) | ((first | refine o_lss st rfl rfl rfl ?_ ?_ | refine o_leq st rfl rfl rfl ?_ ?_) <;> clear st <;> intro _ _ st <;> (try (exfalso; omega)))))
    refine c_drawA (last := 10) hm_ (by decide +kernel) (by decide +kernel) st ?_; clear st; intro _ st
    refine d_v 0 st (by repeat constructor) rfl (by decide +kernel) rfl (v_move st rfl) ?_; clear st; intro _ st
    refine d_v 1 st (by repeat constructor) rfl (by decide +kernel) rfl (v_nilCheck st rfl) ?_; clear st; intro _ st
    refine d_v 2 st (by repeat constructor) rfl (by decide +kernel) rfl (v_fieldAddr st rfl) ?_; clear st; intro _ st
    refine d_v 3 st (by repeat constructor) rfl (by decide +kernel) rfl (by first | exact v_load3 st rfl (by repeat constructor) | exact v_loadS st rfl (by repeat constructor) rfl) ?_; clear st; intro _ st
    refine d_v 4 st (by repeat constructor) rfl (by decide +kernel) rfl (v_move st rfl) ?_; clear st; intro _ st
    refine d_v 5 st (by repeat constructor) rfl (by decide +kernel) rfl (v_nilCheck st rfl) ?_; clear st; intro _ st
    refine d_v 6 st (by repeat constructor) rfl (by decide +kernel) rfl (v_fieldAddr st rfl) ?_; clear st; intro _ st
    refine d_v 7 st (by repeat constructor) rfl (by decide +kernel) rfl (by first | exact v_load3 st rfl (by repeat constructor) | exact v_loadS st rfl (by repeat constructor) rfl) ?_; clear st; intro _ st
    refine d_v 8 st (by repeat constructor) rfl (by decide +kernel) rfl (v_len st rfl) ?_; clear st; intro _ st
    refine d_one 9 (by decide +kernel) rfl ?_
    (first | (refine o_lss st rfl rfl rfl ?_ ?_ <;> clear st <;> intro _ _ st <;> (try (exfalso; omega))))
    refine kh st (by repeat constructor) ?_
    refine d_done (by decide +kernel) ?_
    (repeat' (first | (refine o_intInt (k := .u64) st rfl rfl rfl ?_; clear st; intro _ st) | (refine o_addW (k := .u64) st rfl rfl rfl ?_; clear st; intro _ st) | refine c_seq ?_ | refine c_region ?_ | refine l_do ?_ | refine l_nil ?_ | refine x_then ?_ | refine x_thenR ?_ | refine x_thenE ?_ | refine wp_ret ?_ | refine wp_skip ?_ | refine c_condT st rfl ?_ | refine c_condF st rfl ?_ | ((first | refine o_move st rfl rfl ?_ | refine o_assign st rfl rfl ?_ | refine o_fieldAddr st rfl rfl ?_ | refine o_loadS st rfl (by repeat constructor) rfl rfl ?_ | refine o_load3 st rfl (by repeat constructor) rfl ?_ | refine o_load2 st rfl (by repeat constructor) rfl ?_ | refine o_load4 st rfl (by repeat constructor) rfl ?_); clear st; intro _ st) | ((first | refine o_storeS st rfl rfl rfl (by repeat constructor) rfl (by dsimp only [List.set]) ?_ | refine o_storeW st rfl rfl (by repeat constructor) rfl rfl rfl ?_); clear st; intro _ _ st) | ((first | refine o_len st rfl rfl ?_ | refine o_add64 st rfl rfl rfl (by omega) (by omega) ?_ | refine o_mulW st rfl rfl rfl ?_ | refine o_nilCheck st rfl rfl ?_ | refine o_fcv0 st rfl rfl ?_ | refine o_intFloat st rfl rfl ?_); clear st; intro _ st) | ((first | refine o_lss st rfl rfl rfl ?_ ?_ | refine o_leq st rfl rfl rfl ?_ ?_) <;> clear st <;> intro _ _ st <;> (try (exfalso; omega)))))
    refine c_drawA (last := 10) hm_ (by decide +kernel) (by decide +kernel) st ?_; clear st; intro _ st
    refine d_v 0 st (by repeat constructor) rfl (by decide +kernel) rfl (v_move st rfl) ?_; clear st; intro _ st
    refine d_v 1 st (by repeat constructor) rfl (by decide +kernel) rfl (v_nilCheck st rfl) ?_; clear st; intro _ st
    refine d_v 2 st (by repeat constructor) rfl (by decide +kernel) rfl (v_fieldAddr st rfl) ?_; clear st; intro _ st
    refine d_v 3 st (by repeat constructor) rfl (by decide +kernel) rfl (by first | exact v_load3 st rfl (by repeat constructor) | exact v_loadS st rfl (by repeat constructor) rfl) ?_; clear st; intro _ st
    refine d_v 4 st (by repeat constructor) rfl (by decide +kernel) rfl (v_move st rfl) ?_; clear st; intro _ st
    refine d_v 5 st (by repeat constructor) rfl (by decide +kernel) rfl (v_nilCheck st rfl) ?_; clear st; intro _ st
    refine d_v 6 st (by repeat constructor) rfl (by decide +kernel) rfl (v_fieldAddr st rfl) ?_; clear st; intro _ st
    refine d_v 7 st (by repeat constructor) rfl (by decide +kernel) rfl (by first | exact v_load3 st rfl (by repeat constructor) | exact v_loadS st rfl (by repeat constructor) rfl) ?_; clear st; intro _ st
    refine d_v 8 st (by repeat constructor) rfl (by decide +kernel) rfl (v_len st rfl) ?_; clear st; intro _ st
    refine d_one 9 (by decide +kernel) rfl ?_
    (first | (refine o_leq st rfl rfl rfl ?_ ?_ <;> clear st <;> intro _ _ st <;> (try (exfalso; omega))))
    refine kh st (by repeat constructor) ?_
    refine d_done (by decide +kernel) ?_
    (repeat' (first | (refine o_shrI (k := .u64) st rfl rfl (by omega) rfl ?_; clear st; intro sr _ st) | (refine o_and255 st rfl rfl rfl ?_; clear st; intro x _ hx st) | (refine o_intInt (k := .i64) st rfl (by rw [IntKind.wrap_i64]; omega) rfl ?_; clear st; intro _ st) | refine c_seq ?_ | refine c_region ?_ | refine l_do ?_ | refine l_nil ?_ | refine x_then ?_ | refine x_thenR ?_ | refine x_thenE ?_ | refine wp_ret ?_ | refine wp_skip ?_ | refine c_condT st rfl ?_ | refine c_condF st rfl ?_ | ((first | refine o_move st rfl rfl ?_ | refine o_assign st rfl rfl ?_ | refine o_fieldAddr st rfl rfl ?_ | refine o_loadS st rfl (by repeat constructor) rfl rfl ?_ | refine o_load3 st rfl (by repeat constructor) rfl ?_ | refine o_load2 st rfl (by repeat constructor) rfl ?_ | refine o_load4 st rfl (by repeat constructor) rfl ?_); clear st; intro _ st) | ((first | refine o_storeS st rfl rfl rfl (by repeat constructor) rfl (by dsimp only [List.set]) ?_ | refine o_storeW st rfl rfl (by repeat constructor) rfl rfl rfl ?_); clear st; intro _ _ st) | ((first | refine o_len st rfl rfl ?_ | refine o_add64 st rfl rfl rfl (by omega) (by omega) ?_ | refine o_mulW st rfl rfl rfl ?_ | refine o_nilCheck st rfl rfl ?_ | refine o_fcv0 st rfl rfl ?_ | refine o_intFloat st rfl rfl ?_); clear st; intro _ st) | ((first | refine o_lss st rfl rfl rfl ?_ ?_ | refine o_leq st rfl rfl rfl ?_ ?_) <;> clear st <;> intro _ _ st <;> (try (exfalso; omega)))))
    refine post1 st Tryz.results40 (rd_t st rfl) ?_
    exact ⟨_, _, rfl, ⟨x, _, rfl, hx, rfl⟩, _, (st.fit (E' := []) trivial).subL (by repeat (first | exact List.Sublist.refl _ | apply List.Sublist.cons_cons | apply List.Sublist.cons | exact List.nil_sublist _))⟩
set_option maxHeartbeats 16000000 in
theorem pick_ok (n : Int) (h1 : 1 < n) (cs : List Int) (hok : okB cs) (hlen : cs.length ≤ 1000000000) (base : Option Addr) (cap at_ : Nat) (hat : at_ ≤ 999999990) (sd : Int) (b : Nat) (w : World) (hr : RdB w base cs) (hb : w.heap[b]? = some (oSrc base cs.length cap at_ sd)) :
    CUX Tryz.prog 22 [.pointer (some ⟨b, 0, none⟩), .int .i64 n] w b (fun v o' => ∃ (x at' : Nat) (sd' : Int), v = .int .i64 x ∧ (x : Int) < n ∧ at_ ≤ at' ∧ at' ≤ at_ + 2 ∧ o' = oSrc base cs.length cap at' sd') := by
  obtain ⟨Lk, hLk, hcode⟩ := hr.code hb
  refine enterUX Lk hLk hb Tryz.func22 rfl rfl rfl rfl ?_
  intro a w0 Lf st
  have hrd : ∀ {a : Act} {w : World} {E : List (Nat × Value)} {o : Obj}, St w0 Tryz.f22.ntmps a w E (⟨b, true, o⟩ :: (Lk ++ Lf)) → RdB w base cs := fun s => hcode _ fun e he => (s.facts e (List.mem_cons_of_mem _ (List.mem_append_left _ he))).1
  (repeat' (first | (refine o_mul64 st rfl rfl rfl (by omega) (by omega) ?_; clear st; intro _ st) | (refine o_callUX (L' := fun o' => ⟨b, true, o'⟩ :: (Lk ++ Lf)) st rfl (l00next_ok cs hok hlen base cap at_ (by omega) sd b _ (hrd st) (st.heap (by repeat constructor))) (fun o' => Upd.here) rfl ?_; clear st; rintro _ _ ⟨x, sd1, rfl, hx, rfl⟩ _ _ st) | refine c_seq ?_ | refine c_region ?_ | refine l_do ?_ | refine l_nil ?_ | refine x_then ?_ | refine x_thenR ?_ | refine x_thenE ?_ | refine wp_ret ?_ | refine wp_skip ?_ | refine c_condT st rfl ?_ | refine c_condF st rfl ?_ | ((first | refine o_move st rfl rfl ?_ | refine o_assign st rfl rfl ?_ | refine o_add64 st rfl rfl rfl (by omega) (by omega) ?_ | refine o_mulW st rfl rfl rfl ?_); clear st; intro _ st) | ((first | refine o_leq st rfl rfl rfl ?_ ?_ | refine o_gtr st rfl rfl rfl ?_ ?_) <;> clear st <;> intro _ _ st <;> (try (exfalso; omega)))))
  · (repeat' (first | (refine o_add64 st rfl rfl rfl (by omega) (by omega) ?_; clear st; intro _ st) | (refine o_callUX (L' := fun o' => ⟨b, true, o'⟩ :: (Lk ++ Lf)) st rfl (l00next_ok cs hok hlen base cap (at_ + 1) (by omega) sd1 b _ (hrd st) (st.heap (by repeat constructor))) (fun o' => Upd.here) rfl ?_; clear st; rintro _ _ ⟨y, sd2, rfl, hy, rfl⟩ _ _ st) | refine c_seq ?_ | refine c_region ?_ | refine l_do ?_ | refine l_nil ?_ | refine x_then ?_ | refine x_thenR ?_ | refine x_thenE ?_ | refine wp_ret ?_ | refine wp_skip ?_ | refine c_condT st rfl ?_ | refine c_condF st rfl ?_ | ((first | refine o_move st rfl rfl ?_ | refine o_assign st rfl rfl ?_ | refine o_add64 st rfl rfl rfl (by omega) (by omega) ?_ | refine o_mulW st rfl rfl rfl ?_); clear st; intro _ st) | ((first | refine o_leq st rfl rfl rfl ?_ ?_ | refine o_gtr st rfl rfl rfl ?_ ?_) <;> clear st <;> intro _ _ st <;> (try (exfalso; omega)))))
    have e1 : (x : Int) * 256 + (y : Int) = ((x * 256 + y : Nat) : Int) := by omega
    rw [e1] at st
    (repeat' (first | (refine o_rem64I st rfl rfl (by omega) rfl ?_; clear st; intro r _ hr st) | refine c_seq ?_ | refine c_region ?_ | refine l_do ?_ | refine l_nil ?_ | refine x_then ?_ | refine x_thenR ?_ | refine x_thenE ?_ | refine wp_ret ?_ | refine wp_skip ?_ | refine c_condT st rfl ?_ | refine c_condF st rfl ?_ | ((first | refine o_move st rfl rfl ?_ | refine o_assign st rfl rfl ?_ | refine o_add64 st rfl rfl rfl (by omega) (by omega) ?_ | refine o_mulW st rfl rfl rfl ?_); clear st; intro _ st) | ((first | refine o_leq st rfl rfl rfl ?_ ?_ | refine o_gtr st rfl rfl rfl ?_ ?_) <;> clear st <;> intro _ _ st <;> (try (exfalso; omega)))))
    refine post1 st Tryz.results22 (rd_t st rfl) ?_
    exact ⟨_, _, rfl, ⟨r, _, sd2, rfl, hr, by omega, by omega, rfl⟩, _, (st.fit (E' := []) trivial).subL (List.Sublist.cons_cons _ (List.sublist_append_right _ _))⟩
  · (repeat' (first | (refine o_rem64I st rfl rfl (by omega) rfl ?_; clear st; intro r _ hr st) | refine c_seq ?_ | refine c_region ?_ | refine l_do ?_ | refine l_nil ?_ | refine x_then ?_ | refine x_thenR ?_ | refine x_thenE ?_ | refine wp_ret ?_ | refine wp_skip ?_ | refine c_condT st rfl ?_ | refine c_condF st rfl ?_ | ((first | refine o_move st rfl rfl ?_ | refine o_assign st rfl rfl ?_ | refine o_add64 st rfl rfl rfl (by omega) (by omega) ?_ | refine o_mulW st rfl rfl rfl ?_); clear st; intro _ st) | ((first | refine o_leq st rfl rfl rfl ?_ ?_ | refine o_gtr st rfl rfl rfl ?_ ?_) <;> clear st <;> intro _ _ st <;> (try (exfalso; omega)))))
    refine post1 st Tryz.results22 (rd_t st rfl) ?_
    exact ⟨_, _, rfl, ⟨r, _, sd1, rfl, hr, by omega, by omega, rfl⟩, _, (st.fit (E' := []) trivial).subL (List.Sublist.cons_cons _ (List.sublist_append_right _ _))⟩

theorem one_ok (n : Int) (h1 : 1 < n) (cs : List Int) (hok : okB cs) (hlen : cs.length ≤ 1000000000) (base : Option Addr) (cap at_ : Nat) (hat : at_ ≤ 999999990) (sd : Int) (b : Nat) (w : World) (hr : RdB w base cs) (hb : w.heap[b]? = some (oSrc base cs.length cap at_ sd)) :
    CUX Tryz.prog 21 [.pointer (some ⟨b, 0, none⟩), .int .i64 n] w b (fun v o' => ∃ (r : Bool) (at' : Nat) (sd' : Int), v = .bool r ∧ at_ ≤ at' ∧ at' ≤ at_ + 2 ∧ o' = oSrc base cs.length cap at' sd') := by
  obtain ⟨Lk, hLk, hcode⟩ := hr.code hb
  refine enterUX Lk hLk hb Tryz.func21 rfl rfl rfl rfl ?_
  intro a w0 Lf st
  have hrd : ∀ {a : Act} {w : World} {E : List (Nat × Value)} {o : Obj}, St w0 Tryz.f21.ntmps a w E (⟨b, true, o⟩ :: (Lk ++ Lf)) → RdB w base cs := fun s => hcode _ fun e he => (s.facts e (List.mem_cons_of_mem _ (List.mem_append_left _ he))).1
  (repeat' (first | (refine o_callUX (L' := fun o' => ⟨b, true, o'⟩ :: (Lk ++ Lf)) st rfl (pick_ok n h1 cs hok hlen base cap at_ hat sd b _ (hrd st) (st.heap (by repeat constructor))) (fun o' => Upd.here) rfl ?_; clear st; rintro _ _ ⟨x, at1, sd1, rfl, hx, ha1, ha2, rfl⟩ _ _ st) | refine c_seq ?_ | refine c_region ?_ | refine l_do ?_ | refine l_nil ?_ | refine x_then ?_ | refine x_thenR ?_ | refine x_thenE ?_ | refine wp_ret ?_ | ((first | refine o_move st rfl rfl ?_ | refine o_assign st rfl rfl ?_); clear st; intro _ st) | (refine o_eqlI st rfl rfl rfl ?_ ?_ <;> clear st <;> intro _ _ st <;> (try (exfalso; omega)))))
  all_goals
    refine post1 st Tryz.results21 (rd_t st rfl) ?_
    exact ⟨_, _, rfl, ⟨_, at1, sd1, rfl, ha1, ha2, rfl⟩, _, (st.fit (E' := []) trivial).subL (List.Sublist.cons_cons _ (List.sublist_append_right _ _))⟩
theorem l00From_ok (base : Option Addr) (n cap : Nat) (w : World) : CM1 Tryz.prog 20 [.slice base n cap] w fun v b o => v = .pointer (some ⟨b, 0, none⟩) ∧ o = oSrc base n cap 0 0 := by
  refine enter Tryz.func20 rfl rfl rfl rfl ?_
  intro a st
  (repeat' (first | (refine o_build1 st rfl rfl rfl ?_; clear st; intro _ st) | refine c_seq ?_ | refine c_region ?_ | refine l_do ?_ | refine l_nil ?_ | refine x_then ?_ | refine x_thenR ?_ | refine x_thenE ?_ | refine wp_ret ?_ | ((first | refine o_move st rfl rfl ?_ | refine o_assign st rfl rfl ?_); clear st; intro _ st) | ((first | refine o_boxA st rfl rfl ?_ | refine o_boxS st rfl rfl rfl ?_); clear st; intro _ _ _ st) | ((first | refine o_build3 st rfl rfl rfl rfl rfl rfl rfl ?_ | refine o_build2 st rfl rfl rfl rfl rfl ?_ | refine o_build0 st rfl ?_); clear st; intro _ st)))
  refine post1 st Tryz.results20 (rd_t st rfl) ?_
  exact ⟨_, _, _, rfl, ⟨rfl, rfl⟩, st.ex1 (by repeat constructor)⟩
end Go.Proofs.YtclgplbikjmopaaGreatDoor
