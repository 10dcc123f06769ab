/-
  Contracts: patches: are spots a patch, where a spot of a patch lies.
-/
import Derived.Test.YtefnlalldgbcaaaX
namespace Go.Proofs.Ytefnlalldgbcaaa
open Go.RowKit
attribute [local irreducible] Code.wp wpList Oper.wp Calls bodyPost Exit.then Exit.inBlock

/-- Are spots a patch of a degree up to most. -/
def patchC (ss : List S3) (d most : Int) : Bool := inB d 1 most && (((ss.length : Int) == (d + 1) * (d + 2) / 2) && finL ss)

set_option maxHeartbeats 8000000 in
theorem isPatch_ok (bs : List B3) (ss : List S3) (h : IsSL bs ss) (base : Option Addr) (cap : Nat) (d most : Int) (hm : most ≤ 3) (w : World) (hr : RdS w base bs) (hlen : bs.length < 1000000000) :
    CV Try.prog 125 [.slice base bs.length cap, .int .i64 d, .int .i64 most] w (.bool (patchC ss d most)) := by
  refine enter Try.func125 rfl rfl rfl rfl ?_
  intro a st
  have hl := h.len
  have hin := fun w => within_ok d 1 most w
  have hf := fun (w : World) hr => areSpots_ok bs ss h base cap w hr hlen
  unfold patchC
  cases hi : inB d 1 most
  · rw [hi] at hin
    (repeat' (first | (refine o_callV st rfl (hin _) rfl ?_; clear st; intro _ _ st)  | refine c_seq ?_  | refine c_region ?_  | refine l_do ?_  | refine l_doG st rfl rfl ?_  | ((first | refine l_skip st rfl rfl rfl rfl ?_); clear st; intro _ st)  | refine l_nil ?_  | refine x_then ?_  | refine wp_ret ?_  | ((first | refine o_move st rfl rfl ?_  | refine o_assign st rfl rfl ?_  | refine o_pickT st rfl rfl rfl ?_  | refine o_pickF st rfl rfl rfl ?_  | refine o_len st rfl rfl ?_  | refine o_add64 st rfl rfl rfl (by omega) (by omega) ?_ ); clear st; intro _ st)  | (refine o_eqlI st rfl rfl rfl ?_ ?_ <;> clear st <;> intro _ _ st <;> (try (exfalso; omega)))))
    refine post1 st Try.results125 (rd_t st rfl) ?_
    exact ⟨rfl, st.ex0⟩
  · rw [hi] at hin
    simp only [inB, Bool.and_eq_true, decide_eq_true_eq] at hi
    rw [← hl]
    generalize finL ss = q at hf ⊢
    have hcase : d = 1 ∨ d = 2 ∨ d = 3 := by omega
    rcases hcase with rfl | rfl | rfl
    · by_cases hn : bs.length = 3
      · have hb : ((bs.length : Int) == (1 + 1) * (1 + 2) / 2) = true := by rw [hn]; rfl
        rw [hb]
        cases q
        all_goals
          (repeat' (first | (refine o_callV st rfl (hin _) rfl ?_; clear st; intro _ _ st)  | (refine o_mul64 st rfl rfl rfl (by omega) (by omega) ?_; clear st; intro _ st)  | (refine o_quo64 (i := 6) (j := 2) st rfl rfl (by decide) (by decide) rfl ?_; clear st; intro _ st)  | (refine o_callV st rfl (hf _ (hr.mono st.below)) rfl ?_; clear st; intro _ _ st)  | refine c_seq ?_  | refine c_region ?_  | refine l_do ?_  | refine l_doG st rfl rfl ?_  | ((first | refine l_skip st rfl rfl rfl rfl ?_); clear st; intro _ st)  | refine l_nil ?_  | refine x_then ?_  | refine wp_ret ?_  | ((first | refine o_move st rfl rfl ?_  | refine o_assign st rfl rfl ?_  | refine o_pickT st rfl rfl rfl ?_  | refine o_pickF st rfl rfl rfl ?_  | refine o_len st rfl rfl ?_  | refine o_add64 st rfl rfl rfl (by omega) (by omega) ?_ ); clear st; intro _ st)  | (refine o_eqlI st rfl rfl rfl ?_ ?_ <;> clear st <;> intro _ _ st <;> (try (exfalso; omega)))))
          refine post1 st Try.results125 (rd_t st rfl) ?_
          exact ⟨rfl, st.ex0⟩
      · have hb : ((bs.length : Int) == (1 + 1) * (1 + 2) / 2) = false := by simp; omega
        rw [hb]
        (repeat' (first | (refine o_callV st rfl (hin _) rfl ?_; clear st; intro _ _ st)  | (refine o_mul64 st rfl rfl rfl (by omega) (by omega) ?_; clear st; intro _ st)  | (refine o_quo64 (i := 6) (j := 2) st rfl rfl (by decide) (by decide) rfl ?_; clear st; intro _ st)  | (refine o_callV st rfl (hf _ (hr.mono st.below)) rfl ?_; clear st; intro _ _ st)  | refine c_seq ?_  | refine c_region ?_  | refine l_do ?_  | refine l_doG st rfl rfl ?_  | ((first | refine l_skip st rfl rfl rfl rfl ?_); clear st; intro _ st)  | refine l_nil ?_  | refine x_then ?_  | refine wp_ret ?_  | ((first | refine o_move st rfl rfl ?_  | refine o_assign st rfl rfl ?_  | refine o_pickT st rfl rfl rfl ?_  | refine o_pickF st rfl rfl rfl ?_  | refine o_len st rfl rfl ?_  | refine o_add64 st rfl rfl rfl (by omega) (by omega) ?_ ); clear st; intro _ st)  | (refine o_eqlI st rfl rfl rfl ?_ ?_ <;> clear st <;> intro _ _ st <;> (try (exfalso; omega)))))
        refine post1 st Try.results125 (rd_t st rfl) ?_
        exact ⟨rfl, st.ex0⟩
    · by_cases hn : bs.length = 6
      · have hb : ((bs.length : Int) == (2 + 1) * (2 + 2) / 2) = true := by rw [hn]; rfl
        rw [hb]
        cases q
        all_goals
          (repeat' (first | (refine o_callV st rfl (hin _) rfl ?_; clear st; intro _ _ st)  | (refine o_mul64 st rfl rfl rfl (by omega) (by omega) ?_; clear st; intro _ st)  | (refine o_quo64 (i := 12) (j := 2) st rfl rfl (by decide) (by decide) rfl ?_; clear st; intro _ st)  | (refine o_callV st rfl (hf _ (hr.mono st.below)) rfl ?_; clear st; intro _ _ st)  | refine c_seq ?_  | refine c_region ?_  | refine l_do ?_  | refine l_doG st rfl rfl ?_  | ((first | refine l_skip st rfl rfl rfl rfl ?_); clear st; intro _ st)  | refine l_nil ?_  | refine x_then ?_  | refine wp_ret ?_  | ((first | refine o_move st rfl rfl ?_  | refine o_assign st rfl rfl ?_  | refine o_pickT st rfl rfl rfl ?_  | refine o_pickF st rfl rfl rfl ?_  | refine o_len st rfl rfl ?_  | refine o_add64 st rfl rfl rfl (by omega) (by omega) ?_ ); clear st; intro _ st)  | (refine o_eqlI st rfl rfl rfl ?_ ?_ <;> clear st <;> intro _ _ st <;> (try (exfalso; omega)))))
          refine post1 st Try.results125 (rd_t st rfl) ?_
          exact ⟨rfl, st.ex0⟩
      · have hb : ((bs.length : Int) == (2 + 1) * (2 + 2) / 2) = false := by simp; omega
        rw [hb]
        (repeat' (first | (refine o_callV st rfl (hin _) rfl ?_; clear st; intro _ _ st)  | (refine o_mul64 st rfl rfl rfl (by omega) (by omega) ?_; clear st; intro _ st)  | (refine o_quo64 (i := 12) (j := 2) st rfl rfl (by decide) (by decide) rfl ?_; clear st; intro _ st)  | (refine o_callV st rfl (hf _ (hr.mono st.below)) rfl ?_; clear st; intro _ _ st)  | refine c_seq ?_  | refine c_region ?_  | refine l_do ?_  | refine l_doG st rfl rfl ?_  | ((first | refine l_skip st rfl rfl rfl rfl ?_); clear st; intro _ st)  | refine l_nil ?_  | refine x_then ?_  | refine wp_ret ?_  | ((first | refine o_move st rfl rfl ?_  | refine o_assign st rfl rfl ?_  | refine o_pickT st rfl rfl rfl ?_  | refine o_pickF st rfl rfl rfl ?_  | refine o_len st rfl rfl ?_  | refine o_add64 st rfl rfl rfl (by omega) (by omega) ?_ ); clear st; intro _ st)  | (refine o_eqlI st rfl rfl rfl ?_ ?_ <;> clear st <;> intro _ _ st <;> (try (exfalso; omega)))))
        refine post1 st Try.results125 (rd_t st rfl) ?_
        exact ⟨rfl, st.ex0⟩
    · by_cases hn : bs.length = 10
      · have hb : ((bs.length : Int) == (3 + 1) * (3 + 2) / 2) = true := by rw [hn]; rfl
        rw [hb]
        cases q
        all_goals
          (repeat' (first | (refine o_callV st rfl (hin _) rfl ?_; clear st; intro _ _ st)  | (refine o_mul64 st rfl rfl rfl (by omega) (by omega) ?_; clear st; intro _ st)  | (refine o_quo64 (i := 20) (j := 2) st rfl rfl (by decide) (by decide) rfl ?_; clear st; intro _ st)  | (refine o_callV st rfl (hf _ (hr.mono st.below)) rfl ?_; clear st; intro _ _ st)  | refine c_seq ?_  | refine c_region ?_  | refine l_do ?_  | refine l_doG st rfl rfl ?_  | ((first | refine l_skip st rfl rfl rfl rfl ?_); clear st; intro _ st)  | refine l_nil ?_  | refine x_then ?_  | refine wp_ret ?_  | ((first | refine o_move st rfl rfl ?_  | refine o_assign st rfl rfl ?_  | refine o_pickT st rfl rfl rfl ?_  | refine o_pickF st rfl rfl rfl ?_  | refine o_len st rfl rfl ?_  | refine o_add64 st rfl rfl rfl (by omega) (by omega) ?_ ); clear st; intro _ st)  | (refine o_eqlI st rfl rfl rfl ?_ ?_ <;> clear st <;> intro _ _ st <;> (try (exfalso; omega)))))
          refine post1 st Try.results125 (rd_t st rfl) ?_
          exact ⟨rfl, st.ex0⟩
      · have hb : ((bs.length : Int) == (3 + 1) * (3 + 2) / 2) = false := by simp; omega
        rw [hb]
        (repeat' (first | (refine o_callV st rfl (hin _) rfl ?_; clear st; intro _ _ st)  | (refine o_mul64 st rfl rfl rfl (by omega) (by omega) ?_; clear st; intro _ st)  | (refine o_quo64 (i := 20) (j := 2) st rfl rfl (by decide) (by decide) rfl ?_; clear st; intro _ st)  | (refine o_callV st rfl (hf _ (hr.mono st.below)) rfl ?_; clear st; intro _ _ st)  | refine c_seq ?_  | refine c_region ?_  | refine l_do ?_  | refine l_doG st rfl rfl ?_  | ((first | refine l_skip st rfl rfl rfl rfl ?_); clear st; intro _ st)  | refine l_nil ?_  | refine x_then ?_  | refine wp_ret ?_  | ((first | refine o_move st rfl rfl ?_  | refine o_assign st rfl rfl ?_  | refine o_pickT st rfl rfl rfl ?_  | refine o_pickF st rfl rfl rfl ?_  | refine o_len st rfl rfl ?_  | refine o_add64 st rfl rfl rfl (by omega) (by omega) ?_ ); clear st; intro _ st)  | (refine o_eqlI st rfl rfl rfl ?_ ?_ <;> clear st <;> intro _ _ st <;> (try (exfalso; omega)))))
        refine post1 st Try.results125 (rd_t st rfl) ?_
        exact ⟨rfl, st.ex0⟩

/-- Where a spot of a patch lies. -/
def plc (d i j : Nat) : Nat := j * (d + 1) - j * (j - 1) / 2 + i
end Go.Proofs.Ytefnlalldgbcaaa
