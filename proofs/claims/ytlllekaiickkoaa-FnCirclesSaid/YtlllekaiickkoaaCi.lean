/-
  FnCircles: roots, finite narrow numbers (walks).
-/
import Derived.Test.YtlllekaiickkoaaCh
namespace Go.Proofs.Ytlllekaiickkoaa
open Go.RowKit
attribute [local irreducible] Code.wp wpList Oper.wp Calls bodyPost Exit.then Exit.inBlock

def rootW (x : Nat) : Wd := FloatKind.f64.format.sqrt x
theorem ext_root (x r : Nat) (h : rootW x = some r) (w : World) : (callFunc 33 [.float .f64 x].toArray).run Try.prog w = .ok (.value (.float .f64 r)) w := by
  rw [run_callFunc_extern (fn := Try.f33) (e := Extern.MathSqrt.sqrt) Try.func33 (by kernel_rfl) (by kernel_rfl) (by kernel_rfl) (by kernel_rfl)]
  have hd : Extern.MathSqrt.sqrt [.float .f64 x].toArray = (match FloatKind.f64.format.sqrt x with
    | some r => pure (.float .f64 r)
    | none => do pure (.float .f64 (← choose (.nanBits .f64 x x)))) := rfl
  have h : FloatKind.f64.format.sqrt x = some r := h
  rw [hd, h]
  rfl
theorem Sqrt_ok (x r : Nat) (h : rootW x = some r) (w : World) : CV Try.prog 29 [.float .f64 x] w (.float .f64 r) := by
  refine enter Try.func29 rfl rfl rfl rfl ?_
  intro y st
  (repeat' (first | (refine o_extV st rfl (ext_root x r h _) rfl ?_; clear st; intro _ st) | refine c_seq ?_ | refine c_region ?_ | refine l_do ?_ | refine l_nil ?_ | refine x_then ?_ | refine x_thenR ?_ | refine x_thenE ?_ | refine wp_ret ?_ | ((first | refine o_move st rfl rfl ?_ | refine o_assign st rfl rfl ?_); clear st; intro _ st)))
  refine post1 st Try.results29 (rd_t st rfl) ?_
  exact ⟨rfl, st.ex0⟩
def fin32 (x : Nat) : Option Bool := bw (fop .sub .f32 (some x) (some x)) fun z => some (feqB .f32 (some z) (some 0))
theorem IsFinite_ok (x : Nat) (r : Bool) (h : fin32 x = some r) (w : World) : CV Try.prog 23 [.float .f32 x] w (.bool r) := by
  unfold fin32 at h
  obtain ⟨z, hz, h⟩ := bw_some h
  have h : feqB .f32 (some z) (some 0) = r := Option.some.inj h
  refine enter Try.func23 rfl rfl rfl rfl ?_
  intro y st
  (repeat' (first | (refine o_fopK st rfl rfl hz rfl ?_; clear st; intro _ st) | (refine o_feqlW st rfl rfl (fop_is hz) (Is_lit (by decide +kernel)) h rfl ?_; clear st; intro _ st) | refine c_seq ?_ | refine c_region ?_ | refine l_do ?_ | refine l_nil ?_ | refine x_then ?_ | refine x_thenR ?_ | refine x_thenE ?_ | refine wp_ret ?_ | ((first | refine o_move st rfl rfl ?_ | refine o_assign st rfl rfl ?_); clear st; intro _ st) | (refine o_fop rfl st rfl rfl (by first | assumption | exact Is_ofInt _ _ | exact Is_lit (by decide +kernel)) (by first | assumption | exact Is_ofInt _ _ | exact Is_lit (by decide +kernel)) rfl ?_; clear st; intro _ _ _ _ st) | (refine o_feql st rfl rfl (by first | assumption | exact Is_ofInt _ _ | exact Is_lit (by decide +kernel)) (by first | assumption | exact Is_ofInt _ _ | exact Is_lit (by decide +kernel)) rfl ?_ ?_ <;> clear st <;> intro _ _ st <;> (try simp_all))))
  refine post1 st Try.results23 (rd_t st rfl) ?_
  exact ⟨rfl, st.ex0⟩
end Go.Proofs.Ytlllekaiickkoaa
