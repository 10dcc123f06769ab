/-
  Contracts: the corners of tiles of a sheet.
-/
import Derived.Test.YtefnlalldgbcaaaX
import Derived.Test.YtefnlalldgbcaaaQ
namespace Go.Proofs.Ytefnlalldgbcaaa
open Go.RowKit
attribute [local irreducible] Code.wp wpList Oper.wp Calls bodyPost Exit.then Exit.inBlock

theorem IsSL.push {bs : List B3} {b : B3} {ss : List S3} {s : S3} (h : IsSL bs ss) (hb : IsS b s) : IsSL (bs ++ [b]) (ss ++ [s]) := by
  have hl := h.len
  refine ⟨by simp [hl], ?_⟩
  intro i b' s' hi hs
  rcases Nat.lt_or_ge i bs.length with hlt | hge
  · rw [List.getElem?_append_left hlt] at hi
    rw [List.getElem?_append_left (by omega)] at hs
    exact h.get i b' s' hi hs
  · rw [List.getElem?_append_right hge] at hi
    rw [List.getElem?_append_right (by omega)] at hs
    have h0 : i - bs.length = 0 := by
      have := (List.getElem?_eq_some_iff.1 hi).1
      simp at this
      omega
    rw [h0] at hi
    rw [show i - ss.length = 0 by omega] at hs
    simp at hi hs
    subst hi
    subst hs
    exact hb

theorem ifSpots_ok (bs : List B3) (ss : List S3) (h : IsSL bs ss) (base : Option Addr) (cap : Nat) (w : World) (hr : RdS w base bs) (hlen : bs.length < 1000000000) :
    CV Try.prog 129 [.slice base bs.length cap] w (if finL ss then .tuple #[.slice base bs.length cap, .bool true] else .tuple #[.slice none 0 0, .bool false]) := by
  refine enter Try.func129 rfl rfl rfl rfl ?_
  intro a st
  have hc := fun (w : World) hr => areSpots_ok bs ss h base cap w hr hlen
  generalize finL ss = q at hc ⊢
  cases q
  all_goals
    (repeat' (first | (refine o_callV st rfl (hc _ (hr.mono st.below)) rfl ?_; clear st; intro _ _ st)  | refine c_seq ?_  | refine c_region ?_  | refine l_do ?_  | refine l_nil ?_  | refine x_then ?_  | refine x_thenR ?_  | refine wp_ret ?_  | refine wp_skip ?_  | refine c_condT st rfl ?_  | refine c_condF st rfl ?_  | ((first | refine o_move st rfl rfl ?_  | refine o_assign st rfl rfl ?_  | refine o_notT st rfl rfl ?_  | refine o_notF st rfl rfl ?_); clear st; intro _ st)))
    refine post2 st Try.results129 (rd_t st rfl) (rd_t st rfl) ?_
    exact ⟨rfl, st.ex0⟩

/-! ## by any number of workers -/
end Go.Proofs.Ytefnlalldgbcaaa
