/-
  The engine's doors: how a function is entered and left; floats' classes at hand.
-/
import Derived.Test.YtclgplbikjmopaaGreatDoorRules
namespace Go.Proofs.YtclgplbikjmopaaGreatDoor
open Go.RowKit

def envOf : Nat → List Value → List (Nat × Value)
  | _, [] => []
  | i, v :: vs => (i, v) :: envOf (i + 1) vs

theorem lk_envOf : ∀ (vs : List Value) (i j : Nat) (v : Value), lk (envOf i vs) j = some v → i ≤ j ∧ vs[j - i]? = some v
  | [], i, j, v, h => by simp [envOf, lk] at h
  | u :: vs, i, j, v, h => by
    simp only [envOf, lk] at h
    cases hb : Nat.beq i j with
    | true =>
      have := Nat.eq_of_beq_eq_true hb
      subst this
      simp at h
      simp [h]
    | false =>
      have hne := Nat.ne_of_beq_eq_false hb
      simp [hb] at h
      obtain ⟨h1, h2⟩ := lk_envOf vs (i + 1) j v h
      refine ⟨by omega, ?_⟩
      rw [show j - i = (j - (i + 1)) + 1 by omega]
      simpa using h2

section
variable {P : Program} {w0 w : World} {N : Nat} {a : Act} {E : List (Nat × Value)} {L : List Ent} {K : Act → World → Prop} {Q : Exit → Act → World → Prop}

theorem enterL {f : FuncId} {fn : Func} {c : Code} {args : List Value} {R : Ending → World → Prop} (L0 : List Ent) (hL : ∀ e ∈ L0, w.heap[e.b]? = some e.o ∧ e.own = false) (hf : P.funcs[f]? = some fn) (hb : fn.body = some c) (hE : envOf 0 args = E) (hN : fn.ntmps = N) (hn : Nat.ble args.length N = true)
    (h : ∀ a, St w N a w E L0 → c.wp P (bodyPost P fn R) a w) : Calls P f args.toArray w R := by
  refine calls_of_wp hf hb (h _ ⟨?_, ?_, rfl, Below.refl _ _, ?_, ?_⟩)
  · intro i v hv
    subst hE
    obtain ⟨_, h2⟩ := lk_envOf args 0 i v hv
    have hi : i < args.length := by
      have := (List.getElem?_eq_some_iff.1 h2).1
      simpa using this
    simp only [Nat.sub_zero] at h2
    simp [Array.getElem?_append, hi]
    simpa [hi] using h2
  · have : args.length ≤ N := by simpa using Nat.le_of_ble_eq_true hn
    simp [hN]
    omega
  · intro e he
    have := hL e he
    exact ⟨this.1, fun ho => by simp [this.2] at ho⟩
  · refine List.Pairwise.imp_of_mem (R := fun _ _ => True) ?_ (List.pairwise_of_forall (fun _ _ => trivial))
    intro x y hx hy _ ho
    rcases ho with ho | ho
    · simp [(hL x hx).2] at ho
    · simp [(hL y hy).2] at ho

theorem enter {f : FuncId} {fn : Func} {c : Code} {args : List Value} {R : Ending → World → Prop} (hf : P.funcs[f]? = some fn) (hb : fn.body = some c) (hE : envOf 0 args = E) (hN : fn.ntmps = N) (hn : Nat.ble args.length N = true)
    (h : ∀ a, St w N a w E [] → c.wp P (bodyPost P fn R) a w) : Calls P f args.toArray w R :=
  enterL [] (by simp) hf hb hE hN hn h

/-! ## contracts -/
/-- A call that gives v, and leaves old memory alone. -/
def CV (P : Program) (f : FuncId) (vs : List Value) (w : World) (v : Value) : Prop := Calls P f vs.toArray w fun e w' => e = .returned v ∧ Ex w w' []
/-- A call that gives some value of which R holds, and leaves old memory alone. -/
def CR (P : Program) (f : FuncId) (vs : List Value) (w : World) (R : Value → Prop) : Prop := Calls P f vs.toArray w fun e w' => ∃ v, e = .returned v ∧ R v ∧ Ex w w' []
/-- A call that gives some value and some new blocks of which R holds. -/
def CM (P : Program) (f : FuncId) (vs : List Value) (w : World) (R : Value → List Ent → Prop) : Prop := Calls P f vs.toArray w fun e w' => ∃ v L, e = .returned v ∧ R v L ∧ Ex w w' L

theorem o_callV {d : Nat} {ty : TypeId} {pos : String} {aft : Array Edge} {g : Option (Nat × Bool)} {f : FuncId} {args : List Operand} {tys : Array TypeId} {vs : List Value} {v : Value} [hf : FnT P f] (st : St w0 N a w E L) (ha : evs E args = some vs)
    (hc : CV P f vs w v) (hd : Nat.blt d N = true) (h : ∀ a' w', St w0 N a' w' ((d, v) :: E) L → K a' w') : Oper.wp P ⟨some d, .call { callee := .value (.func f), args := args.toArray, argTypes := tys }, ty, pos, aft, g⟩ a w K Q :=
  o_call st ha hc fun _ _ ⟨he, hx⟩ => ⟨_, he, h _ _ ((st.ext0 hx).put d hd _)⟩
theorem o_callB {d : Nat} {ty : TypeId} {pos : String} {aft : Array Edge} {g : Option (Nat × Bool)} {f : FuncId} {args : List Operand} {tys : Array TypeId} {vs : List Value} {b : Bool} [hf : FnT P f] (st : St w0 N a w E L) (ha : evs E args = some vs)
    (hc : CV P f vs w (.bool b)) (hd : Nat.blt d N = true) (hT : b = true → ∀ a' w', St w0 N a' w' ((d, .bool true) :: E) L → K a' w') (hF : b = false → ∀ a' w', St w0 N a' w' ((d, .bool false) :: E) L → K a' w') : Oper.wp P ⟨some d, .call { callee := .value (.func f), args := args.toArray, argTypes := tys }, ty, pos, aft, g⟩ a w K Q := by
  cases b
  · exact o_callV st ha hc hd (hF rfl)
  · exact o_callV st ha hc hd (hT rfl)
theorem o_callR {d : Nat} {ty : TypeId} {pos : String} {aft : Array Edge} {g : Option (Nat × Bool)} {f : FuncId} {args : List Operand} {tys : Array TypeId} {vs : List Value} {R : Value → Prop} [hf : FnT P f] (st : St w0 N a w E L) (ha : evs E args = some vs)
    (hc : CR P f vs w R) (hd : Nat.blt d N = true) (h : ∀ v, R v → ∀ a' w', St w0 N a' w' ((d, v) :: E) L → K a' w') : Oper.wp P ⟨some d, .call { callee := .value (.func f), args := args.toArray, argTypes := tys }, ty, pos, aft, g⟩ a w K Q :=
  o_call st ha hc fun _ _ ⟨v, he, hR, hx⟩ => ⟨v, he, h v hR _ _ ((st.ext0 hx).put d hd _)⟩
theorem o_callM {d : Nat} {ty : TypeId} {pos : String} {aft : Array Edge} {g : Option (Nat × Bool)} {f : FuncId} {args : List Operand} {tys : Array TypeId} {vs : List Value} {R : Value → List Ent → Prop} [hf : FnT P f] (st : St w0 N a w E L) (ha : evs E args = some vs)
    (hc : CM P f vs w R) (hd : Nat.blt d N = true) (h : ∀ v L', R v L' → ∀ a' w', Ex w w' L' → St w0 N a' w' ((d, v) :: E) L → K a' w') : Oper.wp P ⟨some d, .call { callee := .value (.func f), args := args.toArray, argTypes := tys }, ty, pos, aft, g⟩ a w K Q :=
  o_call st ha hc fun _ _ ⟨v, L', he, hR, hx⟩ => ⟨v, he, h v L' hR _ _ hx ((st.ext0 ⟨hx.below, by simp, by simp⟩).put d hd _)⟩

/-- A call of a function value without captured variables. -/
theorem o_callF {d : Nat} {ty : TypeId} {pos : String} {aft : Array Edge} {g : Option (Nat × Bool)} {f : FuncId} {x : Operand} {args : List Operand} {tys : Array TypeId} {vs : List Value} {v : Value} [hf : FnT P f] (st : St w0 N a w E L) (hx : evE E x = some (.func (.func f) #[] #[])) (ha : evs E args = some vs)
    (hc : CV P f vs w v) (hd : Nat.blt d N = true) (h : ∀ a' w', St w0 N a' w' ((d, v) :: E) L → K a' w') : Oper.wp P ⟨some d, .call { callee := .value x, args := args.toArray, argTypes := tys }, ty, pos, aft, g⟩ a w K Q := by
  have he : (execOp a.eval ⟨some d, .call { callee := .value x, args := args.toArray, argTypes := tys }, ty, pos, aft, g⟩).run P w = .ok (.enter f vs.toArray) w := by
    simp [execOp, resolve, invoke, Deferred.ofValue, evE_eval st hx, evs_map st ha, hf.call]
  unfold Oper.wp
  rw [he, Oper.upon_enter]
  refine hc.mono ?_
  rintro e w' ⟨rfl, hx⟩
  exact h _ _ ((st.ext0 hx).put d hd _)
theorem o_callFB {d : Nat} {ty : TypeId} {pos : String} {aft : Array Edge} {g : Option (Nat × Bool)} {f : FuncId} {x : Operand} {args : List Operand} {tys : Array TypeId} {vs : List Value} {b : Bool} [hf : FnT P f] (st : St w0 N a w E L) (hx : evE E x = some (.func (.func f) #[] #[])) (ha : evs E args = some vs)
    (hc : CV P f vs w (.bool b)) (hd : Nat.blt d N = true) (hT : b = true → ∀ a' w', St w0 N a' w' ((d, .bool true) :: E) L → K a' w') (hF : b = false → ∀ a' w', St w0 N a' w' ((d, .bool false) :: E) L → K a' w') : Oper.wp P ⟨some d, .call { callee := .value x, args := args.toArray, argTypes := tys }, ty, pos, aft, g⟩ a w K Q := by
  cases b
  · exact o_callF st hx ha hc hd (hF rfl)
  · exact o_callF st hx ha hc hd (hT rfl)

/-- Every pair of a list is found. -/
def AllLk (E : List (Nat × Value)) : List (Nat × Value) → Prop
  | [] => True
  | p :: F => lk E p.1 = some p.2 ∧ AllLk E F
theorem AllLk.mem {E : List (Nat × Value)} : ∀ {F : List (Nat × Value)}, AllLk E F → ∀ p ∈ F, lk E p.1 = some p.2
  | [], _, p, hp => by cases hp
  | q :: F, h, p, hp => by
    rcases List.mem_cons.1 hp with rfl | hp
    · exact h.1
    · exact AllLk.mem h.2 p hp
theorem St.fit {E' : List (Nat × Value)} (st : St w0 N a w E L) (h : AllLk E E') : St w0 N a w E' L := st.sub h.mem

def rdS (a : Act) : ResultVar → Sem Value
  | .tmp t => pure (a.tmps.getD t undef)
  | .cell p t => do loadVar t (← asAddr (a.tmps.getD p undef))

/-- What a result's place reads as. -/
def Rd (P : Program) (a : Act) (w : World) (rv : ResultVar) (v : Value) : Prop := (rdS a rv).run P w = .ok v w

theorem results_eq (fn : Func) (a : Act) : results fn a.tmps = (do let vs ← fn.results.mapM (rdS a); pure (if h : vs.size = 1 then vs[0] else .tuple vs)) := by
  unfold results
  congr 1

theorem rd_t {t : Tmp} {v : Value} (st : St w0 N a w E L) (h : lk E t = some v) : Rd P a w (.tmp t) v := by
  have := st.env t v h
  simp [Rd, rdS, Array.getD_eq_getD_getElem?, this]

theorem rd_c {p : Tmp} {t t' : TypeId} {n b : Nat} {own : Bool} {cs : List Value} {fr : Nat × Nat} [ht : AggT P t n] (st : St w0 N a w E L) (h : lk E p = some (.pointer (some ⟨b, 0, none⟩))) (hA : At L b own (.cells cs.toArray t' fr)) (hc : Nat.beq cs.length n = true) : Rd P a w (.cell p t) (.agg cs.toArray) := by
  have := st.env p _ h
  have hc' := Nat.eq_of_beq_eq_true hc
  have hl : (loadCells ⟨b, 0, none⟩ n).run P w = .ok cs.toArray w := by
    rw [← hc']
    refine run_loadCells_list (P := P) w ⟨b, 0, none⟩ cs ?_
    intro j u hj
    rw [Addr.add_lit]
    refine (cell_known st hA rfl).trans ?_
    simpa using hj
  simp [Rd, rdS, Array.getD_eq_getD_getElem?, this, asAddr, loadVar, ht.agg, ht.size, hl]

theorem rd_cS {p : Tmp} {t t' : TypeId} {b : Nat} {own : Bool} {v : Value} {fr : Nat × Nat} [ht : ScaT P t] (st : St w0 N a w E L) (h : lk E p = some (.pointer (some ⟨b, 0, none⟩))) (hA : At L b own (.cells [v].toArray t' fr)) : Rd P a w (.cell p t) v := by
  have := st.env p _ h
  have hc : w.cell? ⟨b, 0, none⟩ = some v := (cell_known st hA rfl).trans (by simp)
  simp [Rd, rdS, Array.getD_eq_getD_getElem?, this, asAddr, loadVar, ht.agg, hc]

/-- 'buildSlice' of scalars, all given in order. -/
theorem fill_all : ∀ (vs : List Value) (pre : List Value) (n : Nat), n = pre.length → (∀ v ∈ vs, v.oneCell' = true) → ∀ zs : List Value, zs.length = vs.length →
    Instr.fill (fun i => some (i * 1, 1)) (pre ++ zs).toArray ((vs.zipIdx n).map fun p => (p.2, p.1)) = some (pre ++ vs).toArray
  | [], pre, n, _, _, zs, hz => by
    have : zs = [] := List.eq_nil_of_length_eq_zero (by simpa using hz)
    subst this
    simp [Instr.fill]
  | v :: vs, pre, n, hn, h1, zs, hz => by
    cases zs with
    | nil => simp at hz
    | cons z zs =>
      have hv : v.cells = #[v] := cells_sca (h1 v (by simp))
      have ih := fill_all vs (pre ++ [v]) (n + 1) (by simp [hn]) (fun u hu => h1 u (by simp [hu])) zs (by simpa using hz)
      simp only [List.zipIdx_cons, List.map_cons, Instr.fill, hv]
      have hc : ((#[v] : Array Value).size ≠ 1 || decide (n * 1 + (#[v] : Array Value).size > (pre ++ z :: zs).toArray.size)) = false := by simp [hn]
      rw [if_neg (by simpa using hc)]
      have hset : (Array.zipIdx #[v]).foldl (fun cs (x : Value × Nat) => cs.setIfInBounds (n * 1 + x.2) x.1) (pre ++ z :: zs).toArray = ((pre ++ [v]) ++ zs).toArray := by
        simp [hn]
      simp only [hset]
      simpa using ih

theorem o_buildSlice {d : Nat} {ty : TypeId} {pos : String} {aft : Array Edge} {g : Option (Nat × Bool)} {t e n bz : Nat} {z : Value} {parts : List (Nat × Operand)} {vs : List Value} [hs : SliceT P t e] [he : ElemT P e 1 bz [z]] (st : St w0 N a w E L)
    (hp : parts.map (·.1) = List.range n) (ha : evs E (parts.map (·.2)) = some vs) (h1 : vs.all (·.oneCell') = true) (hn : Nat.ble n 1000 = true) (hn0 : Nat.blt 0 n = true) (hd : Nat.blt d N = true)
    (h : ∀ b a' w', St w0 N a' w' ((d, .slice (some ⟨b, 0, none⟩) n n) :: E) (⟨b, true, .cells vs.toArray e (0, 0)⟩ :: L) → K a' w') : Oper.wp P ⟨some d, .buildSlice t n parts.toArray, ty, pos, aft, g⟩ a w K Q := by
  obtain ⟨i', z', hi, hz, hsz, _, hzc, _, _⟩ := he.info
  have hn' : n ≤ 1000 := Nat.le_of_ble_eq_true hn
  have hn0' : 0 < n := by simpa [Nat.blt_eq] using hn0
  have hmap := evs_map st ha
  have hl : vs.length = n := by
    have h1 := congrArg List.length hmap
    have h2 := congrArg List.length hp
    simp at h1 h2
    omega
  have hparts : (parts.map fun p => (p.1, a.eval p.2)) = (vs.zipIdx 0).map fun p => (p.2, p.1) := by
    apply List.ext_getElem?
    intro j
    have hm : (parts.map fun p => a.eval p.2) = vs := by rw [← hmap]; simp
    have e1 : (parts.map (·.1))[j]? = (List.range n)[j]? := by rw [hp]
    have e2 : (parts.map fun p => a.eval p.2)[j]? = vs[j]? := by rw [hm]
    simp only [List.getElem?_map, List.getElem?_zipIdx] at e1 e2 ⊢
    cases hpj : parts[j]? with
    | none => rw [hpj] at e2; simp at e2; simp [e2]
    | some p =>
      rw [hpj] at e1 e2
      simp only [Option.map_some] at e1 e2
      have hj : j < n := by
        have := (List.getElem?_eq_some_iff.1 hpj).1
        have h2 := congrArg List.length hp
        simp at h2
        omega
      rw [List.getElem?_range hj] at e1
      cases e1
      simp [← e2]
  have hfill := fill_all vs [] 0 rfl (by simpa using h1) (List.replicate n z) (by simp [hl])
  refine o_val (v := .slice (some ⟨w.heap.size, 0, none⟩) n n) (w' := w.alloc (.cells vs.toArray e)) ?_ (h _ _ _ ((st.alloc _).put d hd _))
  have hzero : (Array.range n).map (fun x => (#[z] : Array Value)[x % 1]!) = Array.replicate n z := by
    apply Array.ext
    · simp
    · intro i h1 h2; simp [Nat.mod_one]
  have hzs : z'.cells = #[z] := hzc
  simp only [List.nil_append, Nat.mul_one] at hfill
  rw [show (List.replicate n z).toArray = Array.replicate n z from by simp] at hfill
  have hzr : (zeroValue e).run P w = .ok z' w := by simp [zeroValue, typeInfo, hi, hz]
  simp only [execOp, List.map_toArray, hparts, Instr.buildSlice, Sem.run_bind, run_underlying hs.u, Result.andThen_ok, sizeOf, typeInfo, run_program, hi, Sem.run_pure, hsz, Nat.mul_one]
  rw [if_neg (by omega), if_neg (by omega)]
  simp only [Sem.run_pure, Sem.run_bind, Result.andThen_ok, hzr, hzs, show (#[z] : Array Value).size = 1 from rfl, hzero, hfill]
  simp [newRow]

theorem post1 {fn : Func} {R : Ending → World → Prop} {r : ResultVar} {v : Value} (st : St w0 N a w E L) (hr : fn.results = #[r]) (h1 : Rd P a w r v) (h : R (.returned v) w) : bodyPost P fn R .ret a w := by
  refine ⟨st.defers, v, ?_, h⟩
  unfold Rd at h1
  rw [results_eq, hr]
  generalize rdS a = F at h1
  simp [h1]
theorem post2 {fn : Func} {R : Ending → World → Prop} {r1 r2 : ResultVar} {v1 v2 : Value} (st : St w0 N a w E L) (hr : fn.results = #[r1, r2]) (h1 : Rd P a w r1 v1) (h2 : Rd P a w r2 v2) (h : R (.returned (.tuple #[v1, v2])) w) : bodyPost P fn R .ret a w := by
  refine ⟨st.defers, .tuple #[v1, v2], ?_, h⟩
  unfold Rd at h1 h2
  rw [results_eq, hr]
  generalize rdS a = F at h1 h2
  simp [h1, h2]
theorem post3 {fn : Func} {R : Ending → World → Prop} {r1 r2 r3 : ResultVar} {v1 v2 v3 : Value} (st : St w0 N a w E L) (hr : fn.results = #[r1, r2, r3]) (h1 : Rd P a w r1 v1) (h2 : Rd P a w r2 v2) (h3 : Rd P a w r3 v3) (h : R (.returned (.tuple #[v1, v2, v3])) w) : bodyPost P fn R .ret a w := by
  refine ⟨st.defers, .tuple #[v1, v2, v3], ?_, h⟩
  unfold Rd at h1 h2 h3
  rw [results_eq, hr]
  generalize rdS a = F at h1 h2 h3
  simp [h1, h2, h3]
end
end Go.Proofs.YtclgplbikjmopaaGreatDoor
