/-
  Functions that change one block of their caller.
-/
import Derived.Test.YtefnlalldgbcaaaN
namespace Go.Proofs.Ytefnlalldgbcaaa
open Go.RowKit

section
variable {P : Program} {w0 w : World} {N : Nat} {a : Act} {E : List (Nat × Value)} {L : List Ent} {K : Act → World → Prop} {Q : Exit → Act → World → Prop}

/-- A call that gives v and changes just the block b, to o'. -/
def CU (P : Program) (f : FuncId) (vs : List Value) (w : World) (v : Value) (b : Nat) (o' : Obj) : Prop :=
  Calls P f vs.toArray w fun e w' => e = .returned v ∧ Below b w w' ∧ (∀ k, k ≠ b → k < w.heap.size → w'.heap[k]? = w.heap[k]?) ∧ w'.heap[b]? = some o'

theorem o_callU {d : Nat} {ty : TypeId} {pos : String} {aft : Array Edge} {g : Option (Nat × Bool)} {f : FuncId} {args : List Operand} {tys : Array TypeId} {vs : List Value} {v : Value} {b : Nat} {o o' : Obj} {L' : List Ent} [hf : FnT P f] (st : St w0 N a w E L) (ha : evs E args = some vs)
    (hc : CU P f vs w v b o') (hU : Upd L b o o' L') (hd : Nat.blt d N = true) (h : ∀ a' w', St w0 N a' w' ((d, v) :: E) L' → K a' w') : Oper.wp P ⟨some d, .call { callee := .value (.func f), args := args.toArray, argTypes := tys }, ty, pos, aft, g⟩ a w K Q :=
  o_call st ha hc fun _ _ ⟨he, hb, hk, hn⟩ => ⟨_, he, h _ _ ((st.upd hU hb hk hn).put d hd _)⟩

/-- The other blocks. -/
def others (w : World) (b : Nat) : List Ent := (List.range w.heap.size).filterMap fun k => if k = b then none else (w.heap[k]?).map fun o => ⟨k, false, o⟩

theorem mem_others {w : World} {b : Nat} {e : Ent} (h : e ∈ others w b) : e.own = false ∧ e.b ≠ b ∧ w.heap[e.b]? = some e.o := by
  unfold others at h
  obtain ⟨k, hk, he⟩ := List.mem_filterMap.1 h
  split at he
  · cases he
  · cases ho : w.heap[k]? with
    | none => rw [ho] at he; cases he
    | some o => rw [ho] at he; cases he; exact ⟨rfl, ‹_›, ho⟩
theorem others_mem {w : World} {b k : Nat} (hk : k < w.heap.size) (hne : k ≠ b) : (⟨k, false, w.heap[k]⟩ : Ent) ∈ others w b := by
  unfold others
  refine List.mem_filterMap.2 ⟨k, List.mem_range.2 hk, ?_⟩
  rw [if_neg hne]
  simp [hk]

theorem enterU {f : FuncId} {fn : Func} {c : Code} {args : List Value} {v : Value} {b : Nat} {o o' : Obj} (hb0 : w.heap[b]? = some o) (hf : P.funcs[f]? = some fn) (hb : fn.body = some c) (hE : envOf 0 args = E) (hN : fn.ntmps = N) (hn : Nat.ble args.length N = true)
    (h : ∀ a w0 Lf, St w0 N a w E (⟨b, true, o⟩ :: Lf) → c.wp P (bodyPost P fn (fun e w' => e = .returned v ∧ ∃ a', St w0 N a' w' [] (⟨b, true, o'⟩ :: Lf))) a w) : CU P f args w v b o' := by
  have hlt : b < w.heap.size := (Array.getElem?_eq_some_iff.1 hb0).1
  let w1 : World := { w with heap := w.heap.extract 0 b }
  have hs1 : w1.heap.size = b := by simp [w1]; omega
  have hbel : Below w1.heap.size w1 w := by
    refine ⟨rfl, rfl, rfl, by rw [hs1]; omega, ?_⟩
    intro k hk
    rw [hs1] at hk
    show w.heap[k]? = (w.heap.extract 0 b)[k]?
    rw [Array.getElem?_extract, if_pos (by omega), Nat.zero_add]
  have hent : ∀ st0, Calls P f args.toArray w (fun e w' => e = .returned v ∧ ∃ a', St w1 N a' w' [] (⟨b, true, o'⟩ :: others w b)) := fun st0 => calls_of_wp hf hb (h _ w1 (others w b) st0)
  refine (hent ⟨?_, ?_, rfl, hbel, ?_, ?_⟩).mono ?_
  rotate_left 4
  · rintro e w' ⟨he, a', st⟩
    have hfact : ∀ k, k ≠ b → k < w.heap.size → w'.heap[k]? = w.heap[k]? := by
      intro k hne hk
      have := (st.facts _ (List.mem_cons_of_mem _ (others_mem hk hne))).1
      rw [this]
      simp [hk]
    have hbb := (st.facts _ List.mem_cons_self).1
    refine ⟨he, ⟨?_, ?_, ?_, ?_, ?_⟩, hfact, hbb⟩
    · exact st.below.os.trans hbel.os.symm
    · exact st.below.tape.trans hbel.tape.symm
    · exact st.below.output.trans hbel.output.symm
    · have : w.heap.size - 1 < w'.heap.size := by
        by_cases hk : w.heap.size - 1 = b
        · rw [hk]; exact (Array.getElem?_eq_some_iff.1 hbb).1
        · have h1 := hfact (w.heap.size - 1) hk (by omega)
          have h2 : w.heap[w.heap.size - 1]? = some w.heap[w.heap.size - 1] := by simp
          rw [h2] at h1
          exact (Array.getElem?_eq_some_iff.1 h1).1
      omega
    · intro k hk
      exact hfact k (by omega) (by omega)
  · intro i u hu
    subst hE
    obtain ⟨_, h2⟩ := lk_envOf args 0 i u hu
    have hi : i < args.length := by
      have := (List.getElem?_eq_some_iff.1 h2).1
      simpa using this
    simp only [Nat.sub_zero] at h2
    simp [Array.getElem?_append, hi]
    simpa [hi] using h2
  · have : args.length ≤ N := by simpa using Nat.le_of_ble_eq_true hn
    simp [hN]
    omega
  · intro e he
    rcases List.mem_cons.1 he with rfl | he
    · exact ⟨hb0, fun _ => by rw [hs1]; exact Nat.le_refl _⟩
    · have := mem_others he
      exact ⟨this.2.2, fun h => by rw [this.1] at h; cases h⟩
  · refine List.pairwise_cons.2 ⟨fun e he _ => (mem_others he).2.1.symm, ?_⟩
    refine List.Pairwise.imp_of_mem (R := fun _ _ => True) ?_ (List.pairwise_of_forall (fun _ _ => trivial))
    intro x y hx hy _ ho
    rcases ho with ho | ho
    · rw [(mem_others hx).1] at ho; cases ho
    · rw [(mem_others hy).1] at ho; cases ho
end
end Go.Proofs.Ytefnlalldgbcaaa
