/-
  FnLoops: the other phasors (walks).
-/
import Derived.Test.YtonbcbhnnflohaaLa
import Derived.Test.YtonbcbhnnflohaaYm
namespace Go.Proofs.Ytonbcbhnnflohaa
open Go.RowKit

/-- A condition that must hold. -/
def ck {α : Type} (b : Bool) (k : Option α) : Option α := if b = true then k else none
theorem ck_some {α : Type} {b : Bool} {k : Option α} {v : α} (h : ck b k = some v) : b = true ∧ k = some v := by
  unfold ck at h
  cases b with
  | false => cases h
  | true => exact ⟨rfl, h⟩
/-- A number that is finite, small, and from 0 to less than 1. -/
def chkF (x : Nat) : Bool := chk .f64 x && (match fop .sub .f64 (some x) (some x) with
  | none => false
  | some z => chk .f64 z && feqB .f64 (some z) (some 0)) && !fgeB .f64 (some x) (some 4841369599423283200) && !fleB .f64 (some x) (some 14064741636278059008) && (i64W x == some 0)
structure FinS (x : Nat) : Prop where
  is : Is .f64 x (some x)
  z : ∃ z, fop .sub .f64 (some x) (some x) = some z ∧ Is .f64 z (some z) ∧ feqB .f64 (some z) (some 0) = true
  ge : fgeB .f64 (some x) (some 4841369599423283200) = false
  le : fleB .f64 (some x) (some 14064741636278059008) = false
  i : floatToIntVal .f64 x .i64 = some 0
theorem chkF_ok {x : Nat} (h : chkF x = true) : FinS x := by
  unfold chkF at h
  simp only [Bool.and_eq_true, Bool.not_eq_true'] at h
  obtain ⟨⟨⟨⟨h1, h2⟩, h3⟩, h4⟩, h5⟩ := h
  split at h2
  · cases h2
  · rename_i z hz
    rw [Bool.and_eq_true] at h2
    exact ⟨chk_is h1, ⟨z, hz, chk_is h2.1, h2.2⟩, h3, h4, eq_of_beq h5⟩
def sinL (u : Nat) : Nat → Nat → Wd
  | 0, p => some p
  | k + 1, p => bw (mulW u p) fun m => bw (quoW m (ofIntW (2 * ((k : Int) + 1) * (2 * ((k : Int) + 1) + 1)))) fun q => bw (subW w1 q) fun p' => sinL u k p'
def sineS (x : Nat) : Wd :=
  ck (chkF x) <|
  bw (subW x (ofIntW 0)) fun s =>
  ck (!ltW s 0 && !geW s w05 && !gtW s w025) <|
  bw (mulW s wTau) fun y =>
  bw (mulW y y) fun u =>
  bw (sinL u 8 w1) fun p =>
  mulW y p
def phS (x : Nat) : Option (Nat × Nat) :=
  ck (chkF x) <|
  bw (subW x (ofIntW 0)) fun f =>
  ck (!ltW f 0) <|
  bw2 (quarters 5 f 0) fun g q =>
  bw (subW w025 g) fun h =>
  bw (sineS h) fun c =>
  bw (sineS g) fun s =>
  bw (subW 0 c) fun nc =>
  bw (subW 0 s) fun ns =>
  bw (nar (if q = 1 then ns else if q = 2 then nc else if q = 3 then s else c)) fun a' =>
  bw (nar (if q = 1 then c else if q = 2 then ns else if q = 3 then nc else s)) fun b' =>
  some (a', b')
attribute [local irreducible] Code.wp wpList Oper.wp Calls bodyPost Exit.then Exit.inBlock
attribute [local irreducible] fop fltB fgtB feqB fgeB fleB floatOfInt floatToFloatBits floatToIntVal

theorem i64_0 : Is .f64 0 (some 0) := Is_lit (by decide +kernel)
theorem i64_C1 : Is .f64 4841369599423283200 (some 4841369599423283200) := Is_lit (by decide +kernel)
theorem i64_C2 : Is .f64 14064741636278059008 (some 14064741636278059008) := Is_lit (by decide +kernel)
theorem i64_025 : Is .f64 4598175219545276416 (some 4598175219545276416) := Is_lit (by decide +kernel)
theorem i64_05 : Is .f64 4602678819172646912 (some 4602678819172646912) := Is_lit (by decide +kernel)
theorem l01Narrow_ok (x r : Nat) (h : floatToFloatBits .f64 x .f32 = some r) (w : World) : CV Try.prog 109 [.float .f64 x] w (.float .f32 r) := by
  refine enter Try.func109 rfl rfl rfl rfl ?_
  intro a st
  (repeat' (first | (refine o_fcvW st rfl h rfl ?_; clear st; intro _ st)  | refine c_seq ?_  | refine c_region ?_  | refine l_do ?_  | refine l_nil ?_  | refine x_then ?_  | refine wp_ret ?_  | ((first | refine o_move st rfl rfl ?_  | refine o_assign st rfl rfl ?_ ); clear st; intro _ st)))
  refine post1 st Try.results109 (rd_t st rfl) ?_
  exact ⟨rfl, st.ex0⟩
set_option maxHeartbeats 16000000 in
theorem sineS_ok (x r : Nat) (h : sineS x = some r) (w : World) : CV Try.prog 108 [.float .f64 x] w (.float .f64 r) := by
  unfold sineS at h
  obtain ⟨hx, h⟩ := ck_some h
  obtain ⟨s, hs, h⟩ := bw_some h
  obtain ⟨hb, h⟩ := ck_some h
  obtain ⟨y, hy, h⟩ := bw_some h
  obtain ⟨u, hu, h⟩ := bw_some h
  obtain ⟨p, hp, h⟩ := bw_some h
  simp only [Bool.and_eq_true, Bool.not_eq_true'] at hb
  obtain ⟨⟨b1, b2⟩, b3⟩ := hb
  obtain ⟨ix, ⟨z, hz, iz, hz0⟩, ge, le, ii⟩ := chkF_ok hx
  have hs : fop .sub .f64 (some x) (some (floatOfInt .f64 0)) = some s := subF_some hs
  have is := fop_is hs
  have hy := mulF_some hy
  have hu := mulF_some hu
  have h := mulF_some h
  have b1 : fltB .f64 (some s) (some 0) = false := b1
  have b2 : fgeB .f64 (some s) (some 4602678819172646912) = false := b2
  have b3 : fgtB .f64 (some s) (some 4598175219545276416) = false := b3
  refine enter Try.func108 rfl rfl rfl rfl ?_
  intro a st
  (repeat' (first | (refine o_fneqW st rfl rfl iz i64_0 hz0 rfl ?_; clear st; intro _ st)  | (refine o_fgeqW st rfl rfl ix i64_C1 ge rfl ?_; clear st; intro _ st)  | (refine o_fleqW st rfl rfl ix i64_C2 le rfl ?_; clear st; intro _ st)  | (refine o_floatInt (dst := 2) Try.underlying2 st rfl ii rfl ?_; clear st; intro _ st)  | (refine o_flssW st rfl rfl is i64_0 b1 rfl ?_; clear st; intro _ st)  | (refine o_fgeqW st rfl rfl is i64_05 b2 rfl ?_; clear st; intro _ st)  | (refine o_fgtrW st rfl rfl is i64_025 b3 rfl ?_; clear st; intro _ st)  | (refine o_fopK st rfl rfl hz rfl ?_; clear st; intro _ st)  | (refine o_fopK st rfl rfl hs rfl ?_; clear st; intro _ st)  | (refine o_fopK st rfl rfl hy rfl ?_; clear st; intro _ st)  | (refine o_fopK st rfl rfl hu rfl ?_; clear st; intro _ st)  | refine c_seq ?_  | refine c_region ?_  | refine l_do ?_  | refine l_doG st rfl rfl ?_  | refine l_nil ?_  | refine x_then ?_  | refine x_thenE ?_  | refine x_blkN ?_  | refine x_blkE ?_  | refine wp_ret ?_  | refine wp_skip ?_  | refine wp_block ?_  | refine wp_exit ?_  | refine c_condT st rfl ?_  | refine c_condF st rfl ?_  | ((first | refine o_move st rfl rfl ?_  | refine o_assign st rfl rfl ?_  | refine o_pickF st rfl rfl rfl ?_  | refine o_add64 st rfl rfl rfl (by omega) (by omega) ?_  | refine o_sub64 st rfl rfl rfl (by omega) (by omega) ?_ ); clear st; intro _ st)  | ((first | refine o_intFloat st rfl rfl ?_); clear st; intro _ st)  | (refine o_geq st rfl rfl rfl ?_ ?_ <;> clear st <;> intro _ _ st <;> (try (exfalso; omega))) ))
  refine wp_loop_ghost (fun n a w' => ∃ q : Nat, sinL u n q = some p ∧ n ≤ 8 ∧ St w Try.f108.ntmps a w' [(4, .bool false), (5, .float .f64 y), (6, .float .f64 u), (7, .float .f64 q), (8, .int .i64 (n : Nat))] []) 8 ⟨_, hp, by omega, (st.fit (by repeat (first | exact trivial  | refine And.intro rfl ?_))).subL (by repeat (first | exact List.Sublist.refl _  | apply List.Sublist.cons_cons  | apply List.Sublist.cons  | exact List.nil_sublist _))⟩ ?_
  clear st
  rintro n a w' ⟨q, hq, hn, st⟩
  cases n with
  | zero =>
    obtain rfl := Option.some.inj hq
    (repeat' (first | (refine o_fopK st rfl rfl h rfl ?_; clear st; intro _ st)  | refine c_seq ?_  | refine c_region ?_  | refine l_do ?_  | refine l_doG st rfl rfl ?_  | refine l_nil ?_  | refine x_then ?_  | refine x_thenE ?_  | refine x_blkN ?_  | refine x_blkE ?_  | refine wp_ret ?_  | refine wp_skip ?_  | refine wp_block ?_  | refine wp_exit ?_  | refine c_condT st rfl ?_  | refine c_condF st rfl ?_  | ((first | refine o_move st rfl rfl ?_  | refine o_assign st rfl rfl ?_  | refine o_pickF st rfl rfl rfl ?_  | refine o_add64 st rfl rfl rfl (by omega) (by omega) ?_  | refine o_sub64 st rfl rfl rfl (by omega) (by omega) ?_ ); clear st; intro _ st)  | ((first | refine o_intFloat st rfl rfl ?_); clear st; intro _ st)  | (refine o_geq st rfl rfl rfl ?_ ?_ <;> clear st <;> intro _ _ st <;> (try (exfalso; omega))) ))
    refine post1 st Try.results108 (rd_t st rfl) ?_
    exact ⟨rfl, st.ex0⟩
  | succ n =>
    obtain ⟨m, hm, hq⟩ := bw_some hq
    obtain ⟨d, hd, hq⟩ := bw_some hq
    obtain ⟨p', hp', hq⟩ := bw_some hq
    have hm := mulF_some hm
    have hd : fop .quo .f64 (some m) (some (floatOfInt .f64 (2 * (((n + 1 : Nat) : Int)) * (2 * ((n + 1 : Nat) : Int) + 1)))) = some d := quoW_some hd
    have hp' := subF_some hp'
    have e : 2 * ((n + 1 : Nat) : Int) * (2 * ((n + 1 : Nat) : Int) + 1) ≤ 1000000 := by
      have := Int.mul_le_mul (show 2 * ((n + 1 : Nat) : Int) ≤ 18 by omega) (show 2 * ((n + 1 : Nat) : Int) + 1 ≤ 19 by omega) (by omega) (by omega)
      omega
    have e0 : 0 ≤ 2 * ((n + 1 : Nat) : Int) * (2 * ((n + 1 : Nat) : Int) + 1) := Int.mul_nonneg (by omega) (by omega)
    (repeat' (first | (refine o_mul64 st rfl rfl rfl (by omega) (by omega) ?_; clear st; intro _ st)  | (refine o_fopK st rfl rfl hm rfl ?_; clear st; intro _ st)  | (refine o_fopK st rfl rfl hd rfl ?_; clear st; intro _ st)  | (refine o_fopK st rfl rfl hp' rfl ?_; clear st; intro _ st)  | refine c_seq ?_  | refine c_region ?_  | refine l_do ?_  | refine l_doG st rfl rfl ?_  | refine l_nil ?_  | refine x_then ?_  | refine x_thenE ?_  | refine x_blkN ?_  | refine x_blkE ?_  | refine wp_ret ?_  | refine wp_skip ?_  | refine wp_block ?_  | refine wp_exit ?_  | refine c_condT st rfl ?_  | refine c_condF st rfl ?_  | ((first | refine o_move st rfl rfl ?_  | refine o_assign st rfl rfl ?_  | refine o_pickF st rfl rfl rfl ?_  | refine o_add64 st rfl rfl rfl (by omega) (by omega) ?_  | refine o_sub64 st rfl rfl rfl (by omega) (by omega) ?_ ); clear st; intro _ st)  | ((first | refine o_intFloat st rfl rfl ?_); clear st; intro _ st)  | (refine o_geq st rfl rfl rfl ?_ ?_ <;> clear st <;> intro _ _ st <;> (try (exfalso; omega))) ))
    have e2 : ((n + 1 : Nat) : Int) - 1 = (n : Nat) := by omega
    rw [e2] at st
    exact ⟨n, by omega, p', hq, by omega, (st.fit (by repeat (first | exact trivial  | refine And.intro rfl ?_))).subL (by repeat (first | exact List.Sublist.refl _  | apply List.Sublist.cons_cons  | apply List.Sublist.cons  | exact List.nil_sublist _))⟩
set_option maxHeartbeats 16000000 in
theorem phS_ok (x : Nat) (r : Nat × Nat) (h : phS x = some r) (w : World) : CV Try.prog 59 [.float .f64 x] w (.complex .f32 r.1 r.2) := by
  unfold phS at h
  obtain ⟨hx, h⟩ := ck_some h
  obtain ⟨f, hf, h⟩ := bw_some h
  obtain ⟨hb, h⟩ := ck_some h
  obtain ⟨gg, q, hq, h⟩ := bw2_some h
  obtain ⟨hh, h1, h⟩ := bw_some h
  obtain ⟨c, h2, h⟩ := bw_some h
  obtain ⟨s, h3, h⟩ := bw_some h
  obtain ⟨nc, h4, h⟩ := bw_some h
  obtain ⟨ns, h5, h⟩ := bw_some h
  obtain ⟨a', h6, h⟩ := bw_some h
  obtain ⟨b', h7, h⟩ := bw_some h
  have h : (a', b') = r := Option.some.inj h
  subst h
  rw [Bool.not_eq_true'] at hb
  have hb : fltB .f64 (some f) (some 0) = false := hb
  obtain ⟨ix, ⟨z, hz, iz, hz0⟩, ge, le, ii⟩ := chkF_ok hx
  have hf : fop .sub .f64 (some x) (some (floatOfInt .f64 0)) = some f := subF_some hf
  have if0 := fop_is hf
  have h1 := subF_some h1
  have h4 := subF_some h4
  have h5 := subF_some h5
  have k4 := fun w => sineS_ok hh c h2 w
  have k5 := fun w => sineS_ok gg s h3 w
  refine enter Try.func59 rfl rfl rfl rfl ?_
  intro a st
  (repeat' (first | (refine o_fneqW st rfl rfl iz i64_0 hz0 rfl ?_; clear st; intro _ st)  | (refine o_fgeqW st rfl rfl ix i64_C1 ge rfl ?_; clear st; intro _ st)  | (refine o_fleqW st rfl rfl ix i64_C2 le rfl ?_; clear st; intro _ st)  | (refine o_floatInt (dst := 2) Try.underlying2 st rfl ii rfl ?_; clear st; intro _ st)  | (refine o_flssW st rfl rfl if0 i64_0 hb rfl ?_; clear st; intro _ st)  | (refine o_fopK st rfl rfl hz rfl ?_; clear st; intro _ st)  | (refine o_fopK st rfl rfl hf rfl ?_; clear st; intro _ st)  | refine c_seq ?_  | refine c_region ?_  | refine l_do ?_  | refine l_doG st rfl rfl ?_  | refine l_nil ?_  | refine x_then ?_  | refine x_thenR ?_  | refine x_thenE ?_  | refine x_blkN ?_  | refine x_blkR ?_  | refine x_blkE ?_  | refine wp_ret ?_  | refine wp_skip ?_  | refine wp_block ?_  | refine wp_exit ?_  | refine c_condT st rfl ?_  | refine c_condF st rfl ?_  | ((first | refine o_move st rfl rfl ?_  | refine o_assign st rfl rfl ?_  | refine o_pickF st rfl rfl rfl ?_  | refine o_add64 st rfl rfl rfl (by omega) (by omega) ?_); clear st; intro _ st)  | ((first | refine o_intFloat st rfl rfl ?_); clear st; intro _ st)  | (refine o_eqlI st rfl rfl rfl ?_ ?_ <;> clear st <;> intro _ _ st <;> (try (exfalso; omega))) ))
  refine wp_loop_ghost (fun n a w' => ∃ (f' j : Nat), quarters n f' j = some (gg, q) ∧ j + n = 5 ∧ Is .f64 f' (some f') ∧ St w Try.f59.ntmps a w' [(3, .float .f64 f'), (4, .int .i64 (j : Int))] []) 5 ⟨f, 0, hq, rfl, if0, (st.fit (by repeat (first | exact trivial  | refine And.intro rfl ?_))).subL (by repeat (first | exact List.Sublist.refl _  | apply List.Sublist.cons_cons  | apply List.Sublist.cons  | exact List.nil_sublist _))⟩ ?_
  clear st
  rintro n a w' ⟨f', j, hs, hj, ik, st⟩
  cases n with
  | zero => cases hs
  | succ n =>
    rw [quarters] at hs
    cases hge : geW f' w025
    · rw [hge] at hs
      simp only [Bool.false_eq_true, if_false, Option.some.injEq, Prod.mk.injEq] at hs
      obtain ⟨rfl, rfl⟩ := hs
      have hge : fgeB .f64 (some f') (some 4598175219545276416) = false := hge
      have hcase : j = 0 ∨ j = 1 ∨ j = 2 ∨ j = 3 ∨ j = 4 := by omega
      rcases hcase with rfl | rfl | rfl | rfl | rfl
      all_goals
        have h6 : floatToFloatBits .f64 _ .f32 = some a' := h6
        have h7 : floatToFloatBits .f64 _ .f32 = some b' := h7
        have k6 := fun w => l01Narrow_ok _ a' h6 w
        have k7 := fun w => l01Narrow_ok _ b' h7 w
        (repeat' (first | (refine o_fgeqW st rfl rfl ik i64_025 hge rfl ?_; clear st; intro _ st)  | (refine o_callV st rfl (k4 _) rfl ?_; clear st; intro _ _ st)  | (refine o_callV st rfl (k5 _) rfl ?_; clear st; intro _ _ st)  | (refine o_fopK st rfl rfl h1 rfl ?_; clear st; intro _ st)  | (refine o_fopK st rfl rfl h4 rfl ?_; clear st; intro _ st)  | (refine o_fopK st rfl rfl h5 rfl ?_; clear st; intro _ st)  | (refine o_callV st rfl (k6 _) rfl ?_; clear st; intro _ _ st)  | (refine o_callV st rfl (k7 _) rfl ?_; clear st; intro _ _ st)  | (refine o_complex st rfl rfl rfl ?_; clear st; intro _ st)  | refine c_seq ?_  | refine c_region ?_  | refine l_do ?_  | refine l_doG st rfl rfl ?_  | refine l_nil ?_  | refine x_then ?_  | refine x_thenR ?_  | refine x_thenE ?_  | refine x_blkN ?_  | refine x_blkR ?_  | refine x_blkE ?_  | refine wp_ret ?_  | refine wp_skip ?_  | refine wp_block ?_  | refine wp_exit ?_  | refine c_condT st rfl ?_  | refine c_condF st rfl ?_  | ((first | refine o_move st rfl rfl ?_  | refine o_assign st rfl rfl ?_  | refine o_pickF st rfl rfl rfl ?_  | refine o_add64 st rfl rfl rfl (by omega) (by omega) ?_); clear st; intro _ st)  | ((first | refine o_intFloat st rfl rfl ?_); clear st; intro _ st)  | (refine o_eqlI st rfl rfl rfl ?_ ?_ <;> clear st <;> intro _ _ st <;> (try (exfalso; omega))) ))
        refine post1 st Try.results59 (rd_t st rfl) ?_
        exact ⟨rfl, st.ex0⟩
    · rw [hge] at hs
      simp only [if_true] at hs
      obtain ⟨f2, hf2, hs⟩ := bw_some hs
      have hf2 := subF_some hf2
      have hge : fgeB .f64 (some f') (some 4598175219545276416) = true := hge
      (repeat' (first | (refine o_fgeqW st rfl rfl ik i64_025 hge rfl ?_; clear st; intro _ st)  | (refine o_fopK st rfl rfl hf2 rfl ?_; clear st; intro _ st)  | refine c_seq ?_  | refine c_region ?_  | refine l_do ?_  | refine l_doG st rfl rfl ?_  | refine l_nil ?_  | refine x_then ?_  | refine x_thenR ?_  | refine x_thenE ?_  | refine x_blkN ?_  | refine x_blkR ?_  | refine x_blkE ?_  | refine wp_ret ?_  | refine wp_skip ?_  | refine wp_block ?_  | refine wp_exit ?_  | refine c_condT st rfl ?_  | refine c_condF st rfl ?_  | ((first | refine o_move st rfl rfl ?_  | refine o_assign st rfl rfl ?_  | refine o_pickF st rfl rfl rfl ?_  | refine o_add64 st rfl rfl rfl (by omega) (by omega) ?_); clear st; intro _ st)  | ((first | refine o_intFloat st rfl rfl ?_); clear st; intro _ st)  | (refine o_eqlI st rfl rfl rfl ?_ ?_ <;> clear st <;> intro _ _ st <;> (try (exfalso; omega))) ))
      exact ⟨n, by omega, f2, j + 1, hs, by omega, fop_is hf2, (st.fit (by repeat (first | exact trivial  | refine And.intro rfl ?_))).subL (by repeat (first | exact List.Sublist.refl _  | apply List.Sublist.cons_cons  | apply List.Sublist.cons  | exact List.nil_sublist _))⟩
theorem SPhasorOf_ok (x : Nat) (r : Nat × Nat) (h : phS x = some r) (w : World) : CV Try.prog 20 [.float .f64 x] w (.complex .f32 r.1 r.2) := by
  have c1 := fun w => phS_ok x r h w
  refine enter Try.func20 rfl rfl rfl rfl ?_
  intro a st
  (repeat' (first | (refine o_callV st rfl (c1 _) rfl ?_; clear st; intro _ _ st)  | refine c_seq ?_  | refine c_region ?_  | refine l_do ?_  | refine l_nil ?_  | refine x_then ?_  | refine wp_ret ?_  | ((first | refine o_move st rfl rfl ?_  | refine o_assign st rfl rfl ?_); clear st; intro _ st)))
  refine post1 st Try.results20 (rd_t st rfl) ?_
  exact ⟨rfl, st.ex0⟩
theorem SScale_ok (a : Nat × Nat) (x : Nat) (r : Nat × Nat) (h : scaledC a x = some r) (w : World) : CV Try.prog 19 [.complex .f32 a.1 a.2, .float .f32 x] w (.complex .f32 r.1 r.2) := by
  obtain ⟨u, hu, h⟩ := ob h
  obtain ⟨v, hv, h⟩ := ob h
  obtain rfl := Option.some.inj h
  have c1 : ∀ w, CV Try.prog 58 [.complex .f32 a.1 a.2, .float .f32 x] w (.complex .f32 u v) := by
    intro w
    refine enter Try.func58 rfl rfl rfl rfl ?_
    intro y st
    (repeat' (first | (refine o_real st rfl rfl ?_; clear st; intro _ st)  | (refine o_imag st rfl rfl ?_; clear st; intro _ st)  | (refine o_complex st rfl rfl rfl ?_; clear st; intro _ st)  | (refine o_fopK st rfl rfl hu rfl ?_; clear st; intro _ st)  | (refine o_fopK st rfl rfl hv rfl ?_; clear st; intro _ st)  | refine c_seq ?_  | refine c_region ?_  | refine l_do ?_  | refine l_nil ?_  | refine x_then ?_  | refine wp_ret ?_  | ((first | refine o_move st rfl rfl ?_  | refine o_assign st rfl rfl ?_); clear st; intro _ st) ))
    refine post1 st Try.results58 (rd_t st rfl) ?_
    exact ⟨rfl, st.ex0⟩
  refine enter Try.func19 rfl rfl rfl rfl ?_
  intro y st
  (repeat' (first | (refine o_callV st rfl (c1 _) rfl ?_; clear st; intro _ _ st)  | refine c_seq ?_  | refine c_region ?_  | refine l_do ?_  | refine l_nil ?_  | refine x_then ?_  | refine wp_ret ?_  | ((first | refine o_move st rfl rfl ?_  | refine o_assign st rfl rfl ?_); clear st; intro _ st)))
  refine post1 st Try.results19 (rd_t st rfl) ?_
  exact ⟨rfl, st.ex0⟩
end Go.Proofs.Ytonbcbhnnflohaa

namespace Go.Proofs.Ytonbcbhnnflohaa
open Go.RowKit
section
variable {P : Program} {w0 w : World} {N : Nat} {a : Act} {E : List (Nat × Value)} {L Lh : List Ent} {K : Act → World → Prop} {Q : Exit → Act → World → Prop}
variable {d : Nat} {ty : TypeId} {pos : String} {aft : Array Edge} {g : Option (Nat × Bool)}
theorem o_cadd {x y : Operand} {t ys : TypeId} {k : FloatKind} {i j i' j' u v : Nat} (st : St w0 N a w E L) (hx : evE E x = some (.complex k i j)) (hy : evE E y = some (.complex k i' j')) (hu : fop .add k (some i) (some i') = some u) (hv : fop .add k (some j) (some j') = some v) (hd : Nat.blt d N = true)
    (h : ∀ a', St w0 N a' w ((d, .complex k u v) :: E) L → K a' w) : Oper.wp P ⟨some d, .binOp .add t x y ys, ty, pos, aft, g⟩ a w K Q := by
  have hu : floatBits .add k i i' = some u := hu
  have hv : floatBits .add k j j' = some v := hv
  refine o_val (v := .complex k u v) (w' := w) ?_ (h _ (st.put d hd _))
  have := run_complex_sum (P := P) w .add (.inl rfl) t k i j i' j' u v (by simp [cSumBits, hu, hv])
  simp [execOp, evE_eval st hx, evE_eval st hy, eqGuard, this]
end
theorem GV.own {e : TypeId} {v : Value} {c : List Kn} {f : Kn → Value} {Ls : List Ent} (h : GV e v (c.map f) Ls) (h0 : 0 < c.length) : ∃ b cp pad, v = .slice (some ⟨b, 0, none⟩) c.length cp ∧ Ls = [⟨b, true, oV e (c.map f) pad⟩] := by
  rcases h with ⟨_, hn, _⟩ | ⟨b, cp, pad, _, rfl, rfl, _⟩
  · have := congrArg List.length hn
    rw [List.length_map] at this
    simp at this
    subst this
    simp at h0
  · exact ⟨b, cp, pad, by rw [List.length_map], rfl⟩
/-- A curve in a variable. -/
def AtP (w : World) (p : Nat) (c : List Kn) : Prop := ∃ x : CC, w.heap[p]? = some (.cells [.slice (some ⟨x.b1, x.o1, none⟩) c.length x.cp, .slice (some ⟨x.b2, x.o2, none⟩) c.length x.cw].toArray 27 (0, 0)) ∧ x.has c ∧ w.heap[x.b1]? = some (.cells x.a1 x.t1 x.f1) ∧ w.heap[x.b2]? = some (.cells x.a2 x.t2 x.f2)
attribute [local irreducible] Code.wp wpList Oper.wp Calls bodyPost Exit.then Exit.inBlock

theorem l01Finite_ok (x : Nat) (h : Gd x) (w : World) : CV Try.prog 118 [.float .f32 x] w (.bool true) := by
  obtain ⟨z, hz, h1⟩ := h.fin
  refine enter Try.func118 rfl rfl rfl rfl ?_
  intro y st
  (repeat' (first | (refine o_fopK st rfl rfl hz rfl ?_; clear st; intro _ st)  | (refine o_feqlW st rfl rfl (fop_is hz) i32_0 h1 rfl ?_; clear st; intro _ st)  | refine c_seq ?_  | refine c_region ?_  | refine l_do ?_  | refine l_nil ?_  | refine x_then ?_  | refine wp_ret ?_  | ((first | refine o_move st rfl rfl ?_  | refine o_assign st rfl rfl ?_); clear st; intro _ st) ))
  refine post1 st Try.results118 (rd_t st rfl) ?_
  exact ⟨rfl, st.ex0⟩
theorem l01CFinite_ok (x : Nat × Nat) (h : Gd x.1) (h' : Gd x.2) (w : World) : CV Try.prog 81 [.complex .f32 x.1 x.2] w (.bool true) := by
  have c1 := fun w => l01Finite_ok x.1 h w
  have c2 := fun w => l01Finite_ok x.2 h' w
  refine enter Try.func81 rfl rfl rfl rfl ?_
  intro y st
  (repeat' (first | (refine o_callV st rfl (c1 _) rfl ?_; clear st; intro _ _ st)  | (refine o_callV st rfl (c2 _) rfl ?_; clear st; intro _ _ st)  | (refine o_real st rfl rfl ?_; clear st; intro _ st)  | (refine o_imag st rfl rfl ?_; clear st; intro _ st)  | refine c_seq ?_  | refine c_region ?_  | refine l_do ?_  | refine l_doG st rfl rfl ?_  | refine l_nil ?_  | refine x_then ?_  | refine wp_ret ?_  | ((first | refine o_move st rfl rfl ?_  | refine o_assign st rfl rfl ?_  | refine o_pickT st rfl rfl rfl ?_ ); clear st; intro _ st)))
  refine post1 st Try.results81 (rd_t st rfl) ?_
  exact ⟨rfl, st.ex0⟩
theorem l02Above_ok (x : Nat) (h : Wt x) (w : World) : CV Try.prog 115 [.float .f32 x] w (.bool true) := by
  have c1 := fun w => l01Finite_ok x h.gd w
  have i := h.gd.is
  have h2 := h.gt
  refine enter Try.func115 rfl rfl rfl rfl ?_
  intro y st
  (repeat' (first | (refine o_callV st rfl (c1 _) rfl ?_; clear st; intro _ _ st)  | (refine o_fgtrW st rfl rfl i i32_0 h2 rfl ?_; clear st; intro _ st)  | refine c_seq ?_  | refine c_region ?_  | refine l_do ?_  | refine l_doG st rfl rfl ?_  | refine l_nil ?_  | refine x_then ?_  | refine wp_ret ?_  | ((first | refine o_move st rfl rfl ?_  | refine o_assign st rfl rfl ?_  | refine o_pickT st rfl rfl rfl ?_ ); clear st; intro _ st) ))
  refine post1 st Try.results115 (rd_t st rfl) ?_
  exact ⟨rfl, st.ex0⟩
theorem l02Is_ok (c : List Kn) (h : GC c) (p : Nat) (w : World) (hp : AtP w p c) : CV Try.prog 72 [.pointer (some ⟨p, 0, none⟩)] w (.bool true) := by
  have h0 := h.lo
  have h1 := h.hi
  obtain ⟨x, hw, hx, h3, h4⟩ := hp
  refine enter Try.func72 rfl rfl rfl rfl ?_
  intro a st
  have st := ((st.addOld h3).addOld h4).addOld hw
  (repeat' (first | refine c_seq ?_  | refine c_region ?_  | refine l_do ?_  | refine l_doG st rfl rfl ?_  | refine l_nil ?_  | refine x_then ?_  | refine x_thenE ?_  | refine x_blkN ?_  | refine x_blkE ?_  | refine wp_ret ?_  | refine wp_skip ?_  | refine wp_block ?_  | refine wp_exit ?_  | refine c_condT st rfl ?_  | refine c_condF st rfl ?_  | ((first | refine o_move st rfl rfl ?_  | refine o_assign st rfl rfl ?_  | refine o_pickF st rfl rfl rfl ?_  | refine o_fieldAddr st rfl rfl ?_  | refine o_loadS st rfl (by repeat constructor) rfl rfl ?_  | refine o_len st rfl rfl ?_  | refine o_add64 st rfl rfl rfl (by omega) (by omega) ?_  | refine o_nilCheck st rfl rfl ?_  | refine o_notT st rfl rfl ?_ ); clear st; intro _ st)  | ((first | refine o_lss st rfl rfl rfl ?_ ?_  | refine o_gtr st rfl rfl rfl ?_ ?_  | refine o_neqI st rfl rfl rfl ?_ ?_) <;> clear st <;> intro _ _ st <;> (try (exfalso; omega)))))
  refine wp_loop_ghost (fun z a w' => ∃ i : Nat, i ≤ c.length ∧ z = c.length - i ∧ St w Try.f72.ntmps a w' [(0, .pointer (some ⟨p, 0, none⟩)), (3, .int .i64 c.length), (4, .int .i64 (i : Nat))] [⟨p, false, .cells [.slice (some ⟨x.b1, x.o1, none⟩) c.length x.cp, .slice (some ⟨x.b2, x.o2, none⟩) c.length x.cw].toArray 27 (0, 0)⟩, ⟨x.b2, false, .cells x.a2 x.t2 x.f2⟩, ⟨x.b1, false, .cells x.a1 x.t1 x.f1⟩]) c.length ⟨0, by omega, by omega, (st.fit (by repeat (first | exact trivial  | refine And.intro rfl ?_))).subL (by repeat (first | exact List.Sublist.refl _  | apply List.Sublist.cons_cons  | apply List.Sublist.cons  | exact List.nil_sublist _))⟩ ?_
  clear st
  rintro z a w' ⟨i, hi, rfl, st⟩
  by_cases hlt : i < c.length
  · have g1 := hx.at1 (k := i) (j := (i : Nat)) hlt rfl
    have g2 := hx.at2 (k := i) (j := (i : Nat)) hlt rfl
    have hm := List.getElem_mem hlt
    have c1 := fun w => l01CFinite_ok (c[i].1, c[i].2.1) (h.pt _ hm).1 (h.pt _ hm).2 w
    have c2 := fun w => l02Above_ok c[i].2.2 (h.wt _ hm) w
    (repeat' (first | (refine o_indexAddr st rfl rfl (by omega) (by omega) rfl ?_; clear st; intro _ st)  | (refine o_loadS st rfl (by repeat constructor) g1 rfl ?_; clear st; intro _ st)  | (refine o_loadS st rfl (by repeat constructor) g2 rfl ?_; clear st; intro _ st)  | (refine o_callV st rfl (c1 _) rfl ?_; clear st; intro _ _ st)  | (refine o_callV st rfl (c2 _) rfl ?_; clear st; intro _ _ st)  | refine c_seq ?_  | refine c_region ?_  | refine l_do ?_  | refine l_doG st rfl rfl ?_  | refine l_nil ?_  | refine x_then ?_  | refine x_thenE ?_  | refine x_blkN ?_  | refine x_blkE ?_  | refine wp_ret ?_  | refine wp_skip ?_  | refine wp_block ?_  | refine wp_exit ?_  | refine c_condT st rfl ?_  | refine c_condF st rfl ?_  | ((first | refine o_move st rfl rfl ?_  | refine o_assign st rfl rfl ?_  | refine o_pickF st rfl rfl rfl ?_  | refine o_fieldAddr st rfl rfl ?_  | refine o_loadS st rfl (by repeat constructor) rfl rfl ?_  | refine o_len st rfl rfl ?_  | refine o_add64 st rfl rfl rfl (by omega) (by omega) ?_  | refine o_nilCheck st rfl rfl ?_  | refine o_notT st rfl rfl ?_ ); clear st; intro _ st)  | ((first | refine o_lss st rfl rfl rfl ?_ ?_  | refine o_gtr st rfl rfl rfl ?_ ?_  | refine o_neqI st rfl rfl rfl ?_ ?_) <;> clear st <;> intro _ _ st <;> (try (exfalso; omega)))))
    exact ⟨c.length - (i + 1), by omega, i + 1, by omega, rfl, (st.fit (by repeat (first | exact trivial  | refine And.intro rfl ?_))).subL (by repeat (first | exact List.Sublist.refl _  | apply List.Sublist.cons_cons  | apply List.Sublist.cons  | exact List.nil_sublist _))⟩
  · obtain rfl : i = c.length := by omega
    (repeat' (first | refine c_seq ?_  | refine c_region ?_  | refine l_do ?_  | refine l_doG st rfl rfl ?_  | refine l_nil ?_  | refine x_then ?_  | refine x_thenE ?_  | refine x_blkN ?_  | refine x_blkE ?_  | refine wp_ret ?_  | refine wp_skip ?_  | refine wp_block ?_  | refine wp_exit ?_  | refine c_condT st rfl ?_  | refine c_condF st rfl ?_  | ((first | refine o_move st rfl rfl ?_  | refine o_assign st rfl rfl ?_  | refine o_pickF st rfl rfl rfl ?_  | refine o_fieldAddr st rfl rfl ?_  | refine o_loadS st rfl (by repeat constructor) rfl rfl ?_  | refine o_len st rfl rfl ?_  | refine o_add64 st rfl rfl rfl (by omega) (by omega) ?_  | refine o_nilCheck st rfl rfl ?_  | refine o_notT st rfl rfl ?_ ); clear st; intro _ st)  | ((first | refine o_lss st rfl rfl rfl ?_ ?_  | refine o_gtr st rfl rfl rfl ?_ ?_  | refine o_neqI st rfl rfl rfl ?_ ?_) <;> clear st <;> intro _ _ st <;> (try (exfalso; omega)))))
    refine post1 st Try.results72 (rd_t st rfl) ?_
    exact ⟨rfl, st.ex0⟩
end Go.Proofs.Ytonbcbhnnflohaa
