/-
  Ranges over a function, in the engine: a round's body is walked by the engine's rules; so is what follows the loop (the activation then has a mark among its deferred calls).
-/
import Derived.Test.YtefnlalldgbcaaaDraw
import Derived.RangeFuncFrom
import Derived.RangeFuncLeaves
import Derived.OrdersIn
import Derived.TacticsIn
namespace Go.Proofs.Ytefnlalldgbcaaa
open Go.RowKit

/-- No operation of a list defers a call. -/
def noDefer (l : List Oper) : Bool := l.all fun o => match o.op with
  | .defer _ => false
  | _ => true
theorem noDefer_mem {l : List Oper} (h : noDefer l = true) {o : Oper} (ho : o ∈ l) : ∀ c, o.op ≠ .defer c := by
  intro c hc
  have := List.all_eq_true.1 h o ho
  rw [hc] at this
  cases this

section
variable {P : Program} {w0 w : World} {N : Nat} {a : Act} {E : List (Nat × Value)} {L Lh : List Ent} {K : Act → World → Prop} {Q : Exit → Act → World → Prop}
variable {ops : Array Oper} {r n : Nat}

theorem oper_round {o : Oper} (hd : ∀ c, o.op ≠ .defer c) (h : Oper.wp P o a w K Q) : Oper.wpIn (Fence.wide.inRound r) n P o a w K Q := by
  refine ⟨fun _ _ => trivial, ?_⟩
  have e : (Fence.wide.inRound r).round = some r := rfl
  rw [e, Oper.semAt_some r a.eval o hd]
  unfold Oper.wp at h
  generalize (execOp a.eval o).run P w = res at h
  cases res with
  | ok x w' =>
    cases x with
    | value v => exact h
    | skip => exact h
    | defer d => exact h
    | enter f args =>
      rw [Oper.upon_enter] at h
      rw [Oper.uponIn_enter]
      have hh := (callsIn_wide (n := n - 1)).2 h
      refine ⟨fun hh => (by cases hh), (CallsIn.mono (F := Fence.wide.inRound r) hh ?_)⟩
      intro e w'' he
      cases e <;> exact he
    | row row args =>
      rw [Oper.upon_row] at h
      rw [Oper.uponIn_row]
      refine ⟨fun hh => (by cases hh), ?_⟩
      intro c cs _
      obtain ⟨v, w'', hR, hs⟩ := h c cs
      exact ⟨v, w'', hR, stepsIn_wide.2 hs⟩
    | round l f tmps assign body => exact h.elim
    | _ => exact h.elim
  | halt x w' => cases x <;> exact h

theorem list_round (hq : ¬ LetsOut Q) : ∀ (l : List Oper), noDefer l = true → ∀ (a : Act) (w : World), wpList P ops Q l a w → wpListIn (Fence.wide.inRound r) n P ops Q l a w
  | [], _, _, _, h => h
  | o :: rest, hn, a, w, h => by
    have hn' : noDefer rest = true := by
      unfold noDefer at hn ⊢
      simp only [List.all_cons, Bool.and_eq_true] at hn
      exact hn.2
    unfold wpList at h
    unfold wpListIn
    by_cases hw : Region.wanted o (yielded ops a.tmps) = true
    · rw [if_pos hw] at h ⊢
      rcases h with h | ⟨_, h⟩
      · exact Oper.wpIn_mono (fun a w => list_round hq rest hn' a w) (oper_round (noDefer_mem hn List.mem_cons_self) h)
      · exact (hq h).elim
    · rw [if_neg hw] at h ⊢
      exact ⟨fun _ _ => trivial, list_round hq rest hn' _ _ h⟩

theorem any_round (hq : ¬ LetsOut Q) (hn : noDefer ops.toList = true) : ∀ (fuel : Nat) (listed : Array Bool) (a : Act) (w : World), wpAny P .any ops Q fuel listed a w → wpAnyIn (Fence.wide.inRound r) n P .any ops Q fuel listed a w
  | 0, _, _, _, h => h
  | fuel + 1, listed, a, w, h => by
    refine ⟨h.1, fun i hi => ?_⟩
    have h1 := h.2 i hi
    unfold wpOp at h1
    unfold wpOpIn
    cases ho : ops[i]? with
    | none =>
      simp only [ho] at h1 ⊢
      exact any_round hq hn fuel _ _ _ h1
    | some o =>
      simp only [ho] at h1 ⊢
      have hm : o ∈ ops.toList := by
        rw [← Array.getElem?_toList] at ho
        exact List.mem_of_getElem? ho
      by_cases hw : Region.wanted o (yielded ops a.tmps) = true
      · rw [if_pos hw] at h1 ⊢
        rcases h1 with h1 | ⟨_, h1⟩
        · exact Oper.wpIn_mono (fun a w => any_round hq hn fuel _ a w) (oper_round (noDefer_mem hn hm) h1)
        · exact (hq h1).elim
      · rw [if_neg hw] at h1 ⊢
        exact ⟨fun _ _ => trivial, any_round hq hn fuel _ _ _ h1⟩

/-! ## code in a round -/
theorem r_seq {x y : Code} (h : x.wpIn (Fence.wide.inRound r) n P (Exit.then (y.wpIn (Fence.wide.inRound r) n P Q) Q) a w) : (Code.seq x y).wpIn (Fence.wide.inRound r) n P Q a w := wpIn_seq h
theorem r_condT {x : Operand} {c1 c2 : Code} (st : St w0 N a w E L) (hx : evE E x = some (.bool true)) (h : c1.wpIn (Fence.wide.inRound r) n P Q a w) : (Code.cond x c1 c2).wpIn (Fence.wide.inRound r) n P Q a w := wpIn_cond_true (evE_eval st hx) h
theorem r_condF {x : Operand} {c1 c2 : Code} (st : St w0 N a w E L) (hx : evE E x = some (.bool false)) (h : c2.wpIn (Fence.wide.inRound r) n P Q a w) : (Code.cond x c1 c2).wpIn (Fence.wide.inRound r) n P Q a w := wpIn_cond_false (evE_eval st hx) h
/-- A region of a fixed order; what is asked behind it does not depend on how it ends otherwise. -/
theorem r_region {id : Nat} {l : List Oper} (hn : noDefer l = true) (h : wpList P l.toArray (fun e a w => e = .normal ∧ Q .normal a w) l a w) : (Code.region id l.toArray false).wpIn (Fence.wide.inRound r) n P Q a w := by
  refine wpIn_mono (wpIn_region_lit (list_round ?_ l hn a w h)) fun e a w ⟨he, hQ⟩ => by subst he; exact hQ
  rintro ⟨_, _, h, _⟩
  cases h
theorem r_drawC {id last : Nat} {l : List Oper} (F : List (Nat × Value) → List Ent → Act → World → Prop) (Lh : List Ent) (hm : P.follows .mixedOrders = true) (hns : Region.noSelect l.toArray = true) (hl : waitsAll l.toArray last = true) (hn : noDefer l = true) (st : St w0 N a w E L)
    (h : ∀ w', St w0 N a w' E L → AnyV P l.toArray (NoPanic (fun e a w => e = .normal ∧ F E L a w)) (Held Lh) last l.length (Array.replicate l.length false) a w') (h2 : ∀ a w, F E L a w → Q .normal a w) : (Code.region id l.toArray true).wpIn (Fence.wide.inRound r) n P Q a w := by
  have hns := hns
  have hl := hl
  refine wpIn_mono (wpIn_region_any hm (any_round ?_ (by simpa using hn) _ _ _ _ (any_of_T (S := Held Lh) (last := last) _ _ _ _ (h (w.drewN 1) (st.drewN 1) hl hns)))) ?_
  · rintro ⟨_, _, h⟩
    exact absurd h.1 (by simp)
  · intro e a w hN
    cases e with
    | panic c => exact hN.elim
    | normal => exact h2 a w hN.2
    | _ => exact absurd hN.1 (by simp)

/-! ## code of an activation with deferred calls that no operation touches -/
/-- The activation a is b with some deferred calls more. -/
structure Sh (ds : List Deferred) (a b : Act) : Prop where
  tmps : a.tmps = b.tmps
  defers : a.defers = b.defers ++ ds
theorem Sh.eval {ds : List Deferred} {a b : Act} (h : Sh ds a b) : a.eval = b.eval := by
  funext x
  cases x <;> simp [Act.eval, h.tmps]
theorem Sh.put {ds : List Deferred} {a b : Act} (h : Sh ds a b) (d : Option Tmp) (v : Value) : Sh ds (a.put d v) (b.put d v) := by
  obtain ⟨h1, h2⟩ := h
  cases d with
  | none => exact ⟨h1, h2⟩
  | some d => exact ⟨by simp [Act.put, h1], by simp [Act.put, h2]⟩
theorem Sh.defer {ds : List Deferred} {a b : Act} (h : Sh ds a b) (d : Deferred) : Sh ds { a with defers := d :: a.defers } { b with defers := d :: b.defers } := ⟨h.tmps, by simp [h.defers]⟩

variable {ds : List Deferred} {b : Act}
theorem oper_sh {o : Oper} {K' : Act → World → Prop} {Q' : Exit → Act → World → Prop} (hs : Sh ds a b) (hq : ∀ e a w, Q e a w → e = .normal) (hK : ∀ a b w, Sh ds a b → K b w → K' a w)
    (h : Oper.wp P o b w K Q) : Oper.wp P o a w K' Q' := by
  unfold Oper.wp at h ⊢
  rw [hs.eval]
  generalize (execOp b.eval o).run P w = res at h
  cases res with
  | ok x w' =>
    cases x with
    | value v => exact hK _ _ _ (hs.put _ _) h
    | skip => exact hK _ _ _ (hs.put _ _) h
    | defer d => exact hK _ _ _ ((hs.defer d).put _ _) h
    | enter f args =>
      rw [Oper.upon_enter] at h ⊢
      refine h.mono ?_
      intro e w'' he
      cases e with
      | returned v => exact hK _ _ _ (hs.put _ _) he
      | panicked c => exact absurd (hq _ _ _ he) (by simp)
      | outgrown =>
        obtain ⟨_, _, he⟩ := he
        exact absurd (hq _ _ _ he) (by simp)
    | row row args =>
      rw [Oper.upon_row] at h ⊢
      exact h.mono fun v w'' he => hK _ _ _ (hs.put _ _) he
    | round l f tmps assign body => exact h.elim
    | _ => exact h.elim
  | halt x w' =>
    cases x with
    | panic v => exact absurd (hq _ _ _ h) (by simp)
    | _ => exact h.elim

theorem list_sh {F : Act → World → Prop} (h2 : ∀ a b w, Sh ds a b → F b w → Q .normal a w) : ∀ (l : List Oper) (a b : Act) (w : World), Sh ds a b → wpList P ops (fun e a w => e = .normal ∧ F a w) l b w → wpList P ops Q l a w
  | [], _, _, _, hs, h => h2 _ _ _ hs h.2
  | o :: rest, a, b, w, hs, h => by
    unfold wpList at h ⊢
    rw [hs.tmps]
    by_cases hw : Region.wanted o (yielded ops b.tmps) = true
    · rw [if_pos hw] at h ⊢
      rcases h with h | ⟨_, _, _, h, _⟩
      · exact .inl (oper_sh hs (fun e a w he => he.1) (fun a b w hs hK => list_sh h2 rest a b w hs hK) h)
      · cases h
    · rw [if_neg hw] at h ⊢
      exact list_sh h2 rest _ _ _ (hs.put _ _) h
/-- A region of a fixed order, of an activation with deferred calls. -/
theorem d_region {id : Nat} {l : List Oper} {F : Act → World → Prop} (hs : Sh ds a b) (h2 : ∀ a b w, Sh ds a b → F b w → Q .normal a w) (h : wpList P l.toArray (fun e a w => e = .normal ∧ F a w) l b w) : (Code.region id l.toArray false).wp P Q a w :=
  wp_region_lit (list_sh h2 l a b w hs h)

/-! ## an iterator's own walk: a call of yield -/
theorem oper_wide {o : Oper} (h : Oper.wp P o a w K Q) : Oper.wpIn Fence.wide n P o a w K Q := by
  refine ⟨fun _ _ => trivial, ?_⟩
  have e : Fence.wide.round = none := rfl
  rw [e, Oper.semAt_none a.eval o]
  unfold Oper.wp at h
  generalize (execOp a.eval o).run P w = res at h
  cases res with
  | ok x w' =>
    cases x with
    | value v => exact h
    | skip => exact h
    | defer d => exact h
    | enter f args =>
      rw [Oper.upon_enter] at h
      rw [Oper.uponIn_enter]
      refine ⟨fun hh => (by cases hh), CallsIn.mono ((callsIn_wide (n := n - 1)).2 h) ?_⟩
      intro e w'' he
      cases e <;> exact he
    | row row args =>
      rw [Oper.upon_row] at h
      rw [Oper.uponIn_row]
      refine ⟨fun hh => (by cases hh), ?_⟩
      intro c cs _
      obtain ⟨v, w'', hR, hs⟩ := h c cs
      exact ⟨v, w'', hR, stepsIn_wide.2 hs⟩
    | round l f tmps assign body => exact h.elim
    | _ => exact h.elim
  | halt x w' => cases x <;> exact h

variable {rest : List Oper} {d : Nat} {dd : Option Tmp} {op : Op} {ty : TypeId} {pos : String} {aft : Array Edge} {g : Option (Nat × Bool)}
/-- A region that holds a call of yield: walked in the fenced form. -/
theorem y_region {id : Nat} {l : List Oper} (n : Nat) (h : wpListIn Fence.wide n P l.toArray Q l a w) : (Code.region id l.toArray false).wp P Q a w := wpIn_wide.1 (wpIn_region_lit h)
theorem y_do (h : Oper.wp P ⟨dd, op, ty, pos, aft, none⟩ a w (wpListIn Fence.wide n P ops Q rest) Q) : wpListIn Fence.wide n P ops Q (⟨dd, op, ty, pos, aft, none⟩ :: rest) a w := by
  unfold wpListIn
  rw [if_pos (by simp [Region.wanted])]
  exact oper_wide h
theorem y_nil (h : Q .normal a w) : wpListIn Fence.wide n P ops Q [] a w := h
theorem y_yield {x y : Operand} {l : Nat} {v : Value} {tys : Array TypeId} {R : Ending → World → Prop} (st : St w0 N a w E L) (hx : evE E x = some (.func (.yield l) #[] #[])) (hy : evE E y = some v) (hY : YieldAt Fence.wide (n - 1) P l #[v] w R)
    (h : ∀ e w', R e w' → ∃ u, e = .returned u ∧ wpListIn Fence.wide n P ops Q rest (a.put (some d) u) w') : wpListIn Fence.wide n P ops Q (⟨some d, .call { callee := .value x, args := #[y], argTypes := tys }, ty, pos, aft, none⟩ :: rest) a w := by
  unfold wpListIn
  rw [if_pos (by simp [Region.wanted])]
  refine ⟨fun _ _ => trivial, ?_⟩
  obtain ⟨fn, tmps, assign, body, hr, hR⟩ := hY
  have e : Fence.wide.round = none := rfl
  rw [e, Oper.semAt_none]
  have he : (execOp a.eval ⟨some d, .call { callee := .value x, args := #[y], argTypes := tys }, ty, pos, aft, none⟩).run P w = .ok (.round l fn tmps assign body) w := by
    simp [execOp, resolve, invoke, Deferred.ofValue, evE_eval st hx, evE_eval st hy, hr]
  rw [he, Oper.uponIn_round]
  refine ⟨fun hh => (by cases hh), hR.mono ?_⟩
  intro e w' hRe
  obtain ⟨u, rfl, hk⟩ := h e w' hRe
  exact hk

/-- A function value with captured variables. -/
theorem o_makeFunc {fn : Fn} {xs : List Operand} {vs : List Value} (st : St w0 N a w E L) (hx : evs E xs = some vs) (hd : Nat.blt d N = true)
    (h : ∀ a', St w0 N a' w ((d, .func fn #[] vs.toArray) :: E) L → K a' w) : Oper.wp P ⟨some d, .makeFunc fn #[] xs.toArray, ty, pos, aft, g⟩ a w K Q := by
  refine o_val (v := .func fn #[] vs.toArray) (w' := w) ?_ (h _ (st.put d hd _))
  simp [execOp, Instr.makeFunc, evs_map st hx]
theorem o_minI {x y : Operand} {k : IntKind} {i j : Int} {tys : Array TypeId} (st : St w0 N a w E L) (hx : evE E x = some (.int k i)) (hy : evE E y = some (.int k j)) (hd : Nat.blt d N = true)
    (h : ∀ a', St w0 N a' w ((d, .int k (if j < i then j else i)) :: E) L → K a' w) : Oper.wp P ⟨some d, .call { callee := .builtin .min, args := #[x, y], argTypes := tys }, ty, pos, aft, g⟩ a w K Q := by
  refine o_val (v := .int k (if j < i then j else i)) (w' := w) ?_ (h _ (st.put d hd _))
  simp [execOp, resolve, invoke, builtin, evE_eval st hx, evE_eval st hy, run_min_int2]
theorem o_sliceLHM {t e size bz len cap : Nat} {zs : List Value} {base : Option Addr} {x l h m : Operand} {kl kh km : IntKind} {lo hi mx : Int} [hs : SliceT P t e] [he : ElemT P e size bz zs] (st : St w0 N a w E L)
    (hx : evE E x = some (.slice base len cap)) (hl : evE E l = some (.int kl lo)) (hh : evE E h = some (.int kh hi)) (hm : evE E m = some (.int km mx)) (h0 : 0 ≤ lo) (h1 : lo ≤ hi) (h2 : hi ≤ mx) (h3 : mx ≤ cap) (hd : Nat.blt d N = true)
    (hk : ∀ a', St w0 N a' w ((d, .slice (if mx.toNat = lo.toNat then base else base.map (·.add (lo.toNat * size))) (hi.toNat - lo.toNat) (mx.toNat - lo.toNat)) :: E) L → K a' w) : Oper.wp P ⟨some d, .slice t x (some l) (some h) (some m), ty, pos, aft, g⟩ a w K Q := by
  have hel : P.elem t = e := by simp [Program.elem, hs.u]
  have ht : P.underlying t = some (.slice (P.elem t)) := by rw [hel]; exact hs.u
  have hsz : (sizeOf e).run P w = .ok size w := by
    obtain ⟨i', z', hi, hz, hsz, _⟩ := he.info
    simp [sizeOf, typeInfo, hi, hsz]
  refine o_val (w' := w) ?_ (hk _ (st.put d hd _))
  simp only [execOp, Option.map_some, evE_eval st hx, evE_eval st hl, evE_eval st hh, evE_eval st hm, Sem.run_bind, run_sliceAt_slice (P := P) w t _ _ _ _ ht, run_slice_lhm (P := P) w t base len cap ht kl kh km lo hi mx h0 h1 h2 h3, hel, hsz, Result.andThen_ok, Sem.run_pure]
  rfl

/-! ## walks that begin anew -/
/-- The same frame, in another memory. -/
theorem St.anew {W : World} (st : St w0 N a w E L) (L' : List Ent) (h : ∀ e ∈ L', W.heap[e.b]? = some e.o ∧ e.own = false) : St W N a W E L' := by
  refine ⟨st.env, st.size, st.defers, Below.refl _ _, fun e he => ⟨(h e he).1, fun ho => by rw [(h e he).2] at ho; cases ho⟩, ?_⟩
  refine List.Pairwise.imp_of_mem (R := fun _ _ => True) ?_ (List.pairwise_of_forall (fun _ _ => trivial))
  intro x y hx hy _ ho
  rw [(h x hx).2, (h y hy).2] at ho
  rcases ho with ho | ho <;> cases ho
/-- The frame of one, the memory of another. -/
theorem St.mix {w1 w2 : World} {a1 a2 : Act} {E1 E2 : List (Nat × Value)} {L1 L2 : List Ent} (s1 : St w0 N a1 w1 E1 L1) (s2 : St w0 N a2 w2 E2 L2) : St w0 N a1 w2 E1 L2 := ⟨s1.env, s1.size, s1.defers, s2.below, s2.facts, s2.uniq⟩
/-- Memory that turns nothing of what is known. -/
theorem St.grew {w' : World} {row : Option Nat} (st : St w0 N a w E L) (hL : ∀ e ∈ L, e.o.isCells = true) (hg : w.grownBy w' row) (hr : ∀ r, row = some r → w0.heap.size ≤ r ∧ ∃ o : Obj, w.heap[r]? = some o ∧ o.isCells = false) : St w0 N a w' E L := by
  refine ⟨st.env, st.size, st.defers, st.below.grown hg st.below.size (fun k e => (hr k e).1), ?_, st.uniq⟩
  intro e he
  have hf := st.facts e he
  refine ⟨?_, hf.2⟩
  rw [hg.block e.b (Array.getElem?_eq_some_iff.1 hf.1).1 ?_]
  · exact hf.1
  · intro hrow
    obtain ⟨_, o, ho, hc⟩ := hr e.b hrow.symm
    rw [hf.1] at ho
    cases ho
    rw [hL e he] at hc
    cases hc
theorem grownBy_of_below {w w' : World} {B : Nat} (h : Below B w w') (hB : w.heap.size ≤ B) : w.grownBy w' none := ⟨h.os, h.tape, h.output, h.size, fun k hk _ => h.block k (by omega)⟩

/-- A function with a range over a function in it: how it is entered. -/
theorem enterM {f : FuncId} {fn : Func} {c : Code} {args : List Value} {R : Ending → World → Prop} (n : Nat) (hf : P.funcs[f]? = some fn) (hb : fn.body = some c) (hE : envOf 0 args = E) (hN : fn.ntmps = N) (hn : Nat.ble args.length N = true)
    (h : ∀ a, St w N a w E [] → c.wp P (bodyPostM Fence.wide n P fn R) a w) : Calls P f args.toArray w R := by
  refine (callsIn_wide (n := n)).1 (callsIn_of_wp_marks hf hb trivial (wpIn_wide.2 (h _ ⟨?_, ?_, rfl, Below.refl _ _, by simp, List.Pairwise.nil⟩)))
  · intro i v hv
    subst hE
    obtain ⟨_, h2⟩ := lk_envOf args 0 i v hv
    have hi : i < args.length := by
      have := (List.getElem?_eq_some_iff.1 h2).1
      simpa using this
    simp only [Nat.sub_zero] at h2
    simp [Array.getElem?_append, hi]
    simpa [hi] using h2
  · have : args.length ≤ N := by simpa using Nat.le_of_ble_eq_true hn
    simp [hN]
    omega
/-- How it is left, two results, no loop behind it. -/
theorem postM2 {fn : Func} {R : Ending → World → Prop} {r1 r2 : ResultVar} {v1 v2 : Value} (st : St w0 N a w E L) (hr : fn.results = #[r1, r2]) (h1 : Rd P a w r1 v1) (h2 : Rd P a w r2 v2) (h : R (.returned (.tuple #[v1, v2])) w) : bodyPostM Fence.wide n P fn R .ret a w := by
  show LeavesInM Fence.wide n P fn a.tmps R a.defers .returning w
  rw [st.defers]
  obtain ⟨_, v, hv, hR⟩ := post2 (P := P) (fn := fn) (R := R) st hr h1 h2 h
  exact ⟨v, hv, hR⟩
/-- How it is left, two results, with the loop's mark. -/
theorem postMD2 {fn : Func} {R : Ending → World → Prop} {t1 t2 : Tmp} {v1 v2 : Value} {D : Nat} {a' : Act} (hs : Sh [{ target := .collected D, args := #[] }] a' a) (st : St w0 N a w E L) (hr : fn.results = #[.tmp t1, .tmp t2]) (h1 : lk E t1 = some v1) (h2 : lk E t2 = some v2) (hD : w.heap[D]? = some (.deferred (some [])))
    (h : R (.returned (.tuple #[v1, v2])) (w.putObj D (.deferred none))) : bodyPostM Fence.wide n P fn R .ret a' w := by
  show LeavesInM Fence.wide n P fn a'.tmps R a'.defers .returning w
  rw [hs.defers, st.defers, List.nil_append]
  refine ⟨by simp, .inl ⟨D, w.putObj D (.deferred none), rfl, run_takeDeferred hD, ?_⟩⟩
  have e1 := st.env t1 v1 h1
  have e2 := st.env t2 v2 h2
  refine ⟨.tuple #[v1, v2], ?_, h⟩
  rw [hs.tmps, results_eq (fn := fn) (a := a), hr]
  simp [rdS, Array.getD_eq_getD_getElem?, e1, e2]
end
end Go.Proofs.Ytefnlalldgbcaaa
