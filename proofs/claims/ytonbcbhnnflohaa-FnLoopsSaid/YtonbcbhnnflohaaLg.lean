/-
  FnLoops: the law's walk over words. (printed by a program)
-/
import Derived.Test.YtonbcbhnnflohaaLf
namespace Go.Proofs.Ytonbcbhnnflohaa
open Go.RowKit

structure RgD where
  ring : List Kn
  moved : List Kn
  qs : List Kn
  l : Nat → Nat
  m : Nat → Nat × Nat
  g : Nat → Nat
  s : Nat → Nat
  qs' : List Kn
  l' : Nat → Nat
  m' : Nat → Nat × Nat
  g' : Nat → Nat
  s' : Nat → Nat
  a1 : Nat
  a2 : Nat
  a3 : Nat
  b1 : Nat
  b2 : Nat
  c1 : Nat
  c2 : Nat
  c3 : Nat
  y1 : Nat
  y2 : Nat
  y3 : Nat
  y4 : Nat
/-- What is told about the ring, the ring backwards and the ring moved. -/
structure RgOk (n : Nat) (z : Nat × Nat) (d : RgD) : Prop where
  n3 : 3 ≤ n
  n10 : n ≤ 10
  lr : d.ring.length = n
  lm : d.moved.length = n
  hr : ∀ i, i < n → ∃ f p, fop .quo .f64 (some (floatOfInt .f64 (i : Int))) (some (floatOfInt .f64 (n : Int))) = some f ∧ phS f = some p ∧ scaledC p 1073741824 = some (pAt d.ring i)
  hm : ∀ i, i < n → fop .add .f32 (some (pAt d.ring i).1) (some z.1) = some (pAt d.moved i).1 ∧ fop .add .f32 (some (pAt d.ring i).2) (some z.2) = some (pAt d.moved i).2
  o1 : LoopOk d.ring
  o2 : LoopOk d.moved
  o3 : LoopOk d.ring.reverse
  t1 : TurnsOk d.ring d.qs d.l d.m d.g d.s
  t2 : TurnsOk d.ring.reverse d.qs' d.l' d.m' d.g' d.s'
  w1 : windL (pAt d.ring) d.ring.length (1040187392, 1031798784) d.ring.length 0 0 = some 1
  w2 : windL (pAt d.ring) d.ring.length (1084227584, 1031798784) d.ring.length 0 0 = some 0
  w3 : windL (pAt d.ring.reverse) d.ring.reverse.length (1040187392, 1031798784) d.ring.reverse.length 0 0 = some (-1)
  a1 : areaS d.ring = some d.a1
  a2 : areaS d.moved = some d.a2
  a3 : areaS d.ring.reverse = some d.a3
  g1 : Gd d.a1
  g2 : Gd d.a2
  g3 : Gd d.a3
  p1 : Is .f32 d.a1 (some d.a1) ∧ fgtB .f32 (some d.a1) (some 0) = true
  b1 : cvW .f32 (d.s d.ring.length) .f64 = some d.b1 ∧ Is .f64 d.b1 (some d.b1)
  b2 : cvW .f32 (d.s' d.ring.reverse.length) .f64 = some d.b2 ∧ Is .f64 d.b2 (some d.b2)
  c1 : cvW .f32 d.a1 .f64 = some d.c1 ∧ Is .f64 d.c1 (some d.c1) ∧ Is .f64 (Op.negFloat .f64 d.c1) (some (Op.negFloat .f64 d.c1))
  c2 : cvW .f32 d.a2 .f64 = some d.c2 ∧ Is .f64 d.c2 (some d.c2)
  c3 : cvW .f32 d.a3 .f64 = some d.c3 ∧ Is .f64 d.c3 (some d.c3)
  y1 : gapW d.b1 4607182418800017408 = some d.y1 ∧ LtD d.y1 4562254508917369340
  y2 : gapW d.b2 13830554455654793216 = some d.y2 ∧ LtD d.y2 4562254508917369340
  y3 : gapW d.c2 d.c1 = some d.y3 ∧ LtD d.y3 4576918229304087675
  y4 : gapW d.c3 (Op.negFloat .f64 d.c1) = some d.y4 ∧ LtD d.y4 4562254508917369340
structure UnD where
  ts : List Nat
  ks : List Kn
  ms : List Kn
  u : Nat
  o : Nat
  c1 : Nat
  c2 : Nat
  y : Nat
/-- What is told about a curve and the curve backwards. -/
structure UnOk (c : List Kn) (d : UnD) : Prop where
  p1 : PtsOk c 12 d.ts d.ks
  p2 : PtsOk c.reverse 12 d.ts d.ms
  u : underS d.ks 12 = some d.u ∧ Gd d.u
  o : underS d.ms 12 = some d.o ∧ Gd d.o
  c1 : cvW .f32 d.u .f64 = some d.c1 ∧ Is .f64 d.c1 (some d.c1)
  c2 : cvW .f32 d.o .f64 = some d.c2 ∧ Is .f64 (Op.negFloat .f64 d.c2) (some (Op.negFloat .f64 d.c2))
  y : gapW d.c1 (Op.negFloat .f64 d.c2) = some d.y ∧ LtD d.y 4576918229304087675
theorem i64_one : Is .f64 4607182418800017408 (some 4607182418800017408) := Is_lit (by decide +kernel)
theorem i64_mone : Is .f64 13830554455654793216 (some 13830554455654793216) := Is_lit (by decide +kernel)
theorem gdz1 : Gd 1040187392 ∧ Gd 1031798784 := ⟨Gd_lit (by decide +kernel), Gd_lit (by decide +kernel)⟩
theorem gdz2 : Gd 1084227584 ∧ Gd 1031798784 := ⟨Gd_lit (by decide +kernel), Gd_lit (by decide +kernel)⟩
attribute [local irreducible] Code.wp wpList Oper.wp Calls bodyPost Exit.then Exit.inBlock
attribute [local irreducible] fop fltB fgtB feqB fgeB fleB floatOfInt floatToFloatBits floatToIntVal longW mulC angleW phS scaledC areaS windL underS

theorem FnLoops_long (n m : Nat) (hn : n ≤ 9223372036854775807) (hm : m ≤ 9223372036854775807) (hl : (decide (1048576 < n) || decide (1048576 < m)) = true) (base base' : Option Addr) (cap cap' : Nat) (w : World) :
    CV Try.prog 4 [.slice base n cap, .slice base' m cap'] w (.bool true) := by
  have cL := fun w => b10Long_ok n m cap cap' base base' hn hm w
  rw [hl] at cL
  refine enter Try.func4 rfl rfl rfl rfl ?_
  intro a st
  (repeat' (first | (refine o_callV st rfl (cL _) rfl ?_; clear st; intro _ _ st)  | refine c_seq ?_  | refine c_region ?_  | refine l_do ?_  | refine l_nil ?_  | refine x_then ?_  | refine x_thenR ?_  | refine wp_ret ?_  | refine wp_skip ?_  | refine wp_block ?_  | refine wp_exit ?_  | refine c_condT st rfl ?_  | ((first | refine o_move st rfl rfl ?_  | refine o_assign st rfl rfl ?_ ); clear st; intro _ st) ))
  refine post1 st Try.results4 (rd_t st rfl) ?_
  exact ⟨rfl, st.ex0⟩
set_option maxRecDepth 100000 in
set_option maxHeartbeats 64000000 in
theorem FnLoops_ok (hring : ∀ n x y : Nat, 3 ≤ n → n ≤ 10 → x < 17 → y < 17 → ∃ d, RgOk n (qv ((x : Int) - 8), qv ((y : Int) - 8)) d)
    (hlaw : ∀ c, 2 ≤ c.length → c.length ≤ 5 → (∀ k ∈ c, BK 19 k) → ∃ d, UnOk c d)
    (code more : List Int) (hok : okB code) (hok' : okB more) (hlen : code.length ≤ 9223372036854775807) (hlen' : more.length ≤ 9223372036854775807) (hlong : (decide (1048576 < code.length) || decide (1048576 < more.length)) = false) (base base' : Option Addr) (cap cap' : Nat) (w : World) (hr : RdB w base code) (hr' : RdB w base' more) :
    CV Try.prog 4 [.slice base code.length cap, .slice base' more.length cap'] w (.bool true) := by
  have cL := fun w => b10Long_ok code.length more.length cap cap' base base' hlen hlen' w
  rw [hlong] at cL
  rw [Bool.or_eq_false_iff, decide_eq_false_iff_not, decide_eq_false_iff_not] at hlong
  obtain ⟨hl1, hl2⟩ := hlong
  have cC := fun n hn w hr => B10Curve_ok n hn code hok (by omega) base cap w hr
  have cA := fun k hk (n : Int) h1 w hr => b10At_ok more hok' (by omega) base' cap' k hk n h1 w hr
  have hqx : ∀ x : Nat, (x : Int) < 17 → fop .quo .f32 (some (floatOfInt .f32 ((x : Int) - 8))) (some 1082130432) = some (qv ((x : Int) - 8)) := fun x hx => qB_ok (by omega) (by omega)
  refine enter Try.func4 rfl rfl rfl rfl ?_
  intro a st
  refine c_meet (fun a w' => St w Try.f4.ntmps a w' [(0, .slice base code.length cap), (1, .slice base' more.length cap')] []) ⟨?_⟩ ?_
  · (repeat' (first | refine c_seq ?_  | refine c_region ?_  | refine l_do ?_  | refine l_doG st rfl rfl ?_  | refine l_nil ?_  | refine x_then ?_  | refine x_thenE ?_  | refine x_blkN ?_  | refine x_blkE ?_  | refine wp_ret ?_  | refine wp_skip ?_  | refine wp_block ?_  | refine wp_exit ?_  | refine c_condT st rfl ?_  | refine c_condF st rfl ?_  | ((first | refine o_move st rfl rfl ?_  | refine o_assign st rfl rfl ?_  | refine o_pickT st rfl rfl rfl ?_ ); clear st; intro _ st)  | (refine o_alloc st rfl ?_; clear st; intro _ _ _ st)  | ((first | refine o_loadS st rfl (by repeat constructor) rfl rfl ?_  | refine o_load2 st rfl (by repeat constructor) rfl ?_ ); clear st; intro _ st)  | ((first | refine o_storeW st rfl rfl (by repeat constructor) rfl rfl rfl ?_); clear st; intro _ _ st)  | ((first | refine o_extract st rfl rfl rfl ?_  | refine o_add64 st rfl rfl rfl (by omega) (by omega) ?_  | refine o_sub64 st rfl rfl rfl (by omega) (by omega) ?_); clear st; intro _ st)  | ((first | refine o_intFloat st rfl rfl ?_); clear st; intro _ st)  | ((first | refine o_lss st rfl rfl rfl ?_ ?_  | refine o_geq st rfl rfl rfl ?_ ?_  | refine o_eqlI st rfl rfl rfl ?_ ?_) <;> clear st <;> intro _ _ st <;> (try (exfalso; omega))) ))
    exact ⟨rfl, (st.fit (by repeat (first | exact trivial  | refine And.intro rfl ?_))).subL (by repeat (first | exact List.Sublist.refl _  | apply List.Sublist.cons_cons  | apply List.Sublist.cons  | exact List.nil_sublist _))⟩
  clear st
  rintro _ _ st
  refine c_meet (fun a w' => St w Try.f4.ntmps a w' [(0, .slice base code.length cap), (1, .slice base' more.length cap')] []) ⟨?_⟩ ?_
  · (repeat' (first | (refine o_callV st rfl (cL _) rfl ?_; clear st; intro _ _ st)  | refine c_seq ?_  | refine c_region ?_  | refine l_do ?_  | refine l_doG st rfl rfl ?_  | refine l_nil ?_  | refine x_then ?_  | refine x_thenE ?_  | refine x_blkN ?_  | refine x_blkE ?_  | refine wp_ret ?_  | refine wp_skip ?_  | refine wp_block ?_  | refine wp_exit ?_  | refine c_condT st rfl ?_  | refine c_condF st rfl ?_  | ((first | refine o_move st rfl rfl ?_  | refine o_assign st rfl rfl ?_  | refine o_pickT st rfl rfl rfl ?_ ); clear st; intro _ st)  | (refine o_alloc st rfl ?_; clear st; intro _ _ _ st)  | ((first | refine o_loadS st rfl (by repeat constructor) rfl rfl ?_  | refine o_load2 st rfl (by repeat constructor) rfl ?_ ); clear st; intro _ st)  | ((first | refine o_storeW st rfl rfl (by repeat constructor) rfl rfl rfl ?_); clear st; intro _ _ st)  | ((first | refine o_extract st rfl rfl rfl ?_  | refine o_add64 st rfl rfl rfl (by omega) (by omega) ?_  | refine o_sub64 st rfl rfl rfl (by omega) (by omega) ?_); clear st; intro _ st)  | ((first | refine o_intFloat st rfl rfl ?_); clear st; intro _ st)  | ((first | refine o_lss st rfl rfl rfl ?_ ?_  | refine o_geq st rfl rfl rfl ?_ ?_  | refine o_eqlI st rfl rfl rfl ?_ ?_) <;> clear st <;> intro _ _ st <;> (try (exfalso; omega))) ))
    exact ⟨rfl, (st.fit (by repeat (first | exact trivial  | refine And.intro rfl ?_))).subL (by repeat (first | exact List.Sublist.refl _  | apply List.Sublist.cons_cons  | apply List.Sublist.cons  | exact List.nil_sublist _))⟩
  clear st
  rintro _ _ st
  refine c_meet (fun a w' => ∃ n : Nat, 3 ≤ n ∧ n ≤ 10 ∧ St w Try.f4.ntmps a w' [(0, .slice base code.length cap), (1, .slice base' more.length cap'), (5, .int .i64 (n : Nat))] []) ⟨?_⟩ ?_
  · (repeat' (first | (refine o_callR st rfl (cA 0 (by omega) 8 (by omega) _ (hr'.mono st.below)) rfl ?_; clear st; rintro _ ⟨n, rfl, hn⟩ _ _ st)  | refine c_seq ?_  | refine c_region ?_  | refine l_do ?_  | refine l_doG st rfl rfl ?_  | refine l_nil ?_  | refine x_then ?_  | refine x_thenE ?_  | refine x_blkN ?_  | refine x_blkE ?_  | refine wp_ret ?_  | refine wp_skip ?_  | refine wp_block ?_  | refine wp_exit ?_  | refine c_condT st rfl ?_  | refine c_condF st rfl ?_  | ((first | refine o_move st rfl rfl ?_  | refine o_assign st rfl rfl ?_  | refine o_pickT st rfl rfl rfl ?_ ); clear st; intro _ st)  | (refine o_alloc st rfl ?_; clear st; intro _ _ _ st)  | ((first | refine o_loadS st rfl (by repeat constructor) rfl rfl ?_  | refine o_load2 st rfl (by repeat constructor) rfl ?_ ); clear st; intro _ st)  | ((first | refine o_storeW st rfl rfl (by repeat constructor) rfl rfl rfl ?_); clear st; intro _ _ st)  | ((first | refine o_extract st rfl rfl rfl ?_  | refine o_add64 st rfl rfl rfl (by omega) (by omega) ?_  | refine o_sub64 st rfl rfl rfl (by omega) (by omega) ?_); clear st; intro _ st)  | ((first | refine o_intFloat st rfl rfl ?_); clear st; intro _ st)  | ((first | refine o_lss st rfl rfl rfl ?_ ?_  | refine o_geq st rfl rfl rfl ?_ ?_  | refine o_eqlI st rfl rfl rfl ?_ ?_) <;> clear st <;> intro _ _ st <;> (try (exfalso; omega))) ))
    have e0 : (3 : Int) + (n : Int) = ((3 + n : Nat) : Int) := by omega
    rw [e0] at st
    exact ⟨rfl, 3 + n, by omega, by omega, (st.fit (by repeat (first | exact trivial  | refine And.intro rfl ?_))).subL (by repeat (first | exact List.Sublist.refl _  | apply List.Sublist.cons_cons  | apply List.Sublist.cons  | exact List.nil_sublist _))⟩
  clear st
  rintro _ _ ⟨n, hn3, hn10, st⟩
  refine c_meet (fun a w' => ∃ (r0 : Nat), St w Try.f4.ntmps a w' [(0, .slice base code.length cap), (1, .slice base' more.length cap'), (5, .int .i64 (n : Nat)), (6, .slice (some ⟨r0, 0, none⟩) 0 0)] [⟨r0, true, oV 31 [] []⟩]) ⟨?_⟩ ?_
  · (repeat' (first | (refine o_buildSlice0 st rfl ?_; clear st; intro r0 _ _ st)  | refine c_seq ?_  | refine c_region ?_  | refine l_do ?_  | refine l_doG st rfl rfl ?_  | refine l_nil ?_  | refine x_then ?_  | refine x_thenE ?_  | refine x_blkN ?_  | refine x_blkE ?_  | refine wp_ret ?_  | refine wp_skip ?_  | refine wp_block ?_  | refine wp_exit ?_  | refine c_condT st rfl ?_  | refine c_condF st rfl ?_  | ((first | refine o_move st rfl rfl ?_  | refine o_assign st rfl rfl ?_  | refine o_pickT st rfl rfl rfl ?_ ); clear st; intro _ st)  | (refine o_alloc st rfl ?_; clear st; intro _ _ _ st)  | ((first | refine o_loadS st rfl (by repeat constructor) rfl rfl ?_  | refine o_load2 st rfl (by repeat constructor) rfl ?_ ); clear st; intro _ st)  | ((first | refine o_storeW st rfl rfl (by repeat constructor) rfl rfl rfl ?_); clear st; intro _ _ st)  | ((first | refine o_extract st rfl rfl rfl ?_  | refine o_add64 st rfl rfl rfl (by omega) (by omega) ?_  | refine o_sub64 st rfl rfl rfl (by omega) (by omega) ?_); clear st; intro _ st)  | ((first | refine o_intFloat st rfl rfl ?_); clear st; intro _ st)  | ((first | refine o_lss st rfl rfl rfl ?_ ?_  | refine o_geq st rfl rfl rfl ?_ ?_  | refine o_eqlI st rfl rfl rfl ?_ ?_) <;> clear st <;> intro _ _ st <;> (try (exfalso; omega))) ))
    exact ⟨rfl, r0, (st.fit (by repeat (first | exact trivial  | refine And.intro rfl ?_))).subL (by repeat (first | exact List.Sublist.refl _  | apply List.Sublist.cons_cons  | apply List.Sublist.cons  | exact List.nil_sublist _))⟩
  clear st
  rintro _ _ ⟨r0, st⟩
  refine c_meet (fun a w' => ∃ b0 : Nat, St w Try.f4.ntmps a w' [(0, .slice base code.length cap), (1, .slice base' more.length cap'), (5, .int .i64 (n : Nat)), (6, .slice (some ⟨r0, 0, none⟩) 0 0), (7, .slice (some ⟨b0, 0, none⟩) 0 0)] [⟨r0, true, oV 31 [] []⟩, ⟨b0, true, oV 31 [] []⟩]) ⟨?_⟩ ?_
  · (repeat' (first | (refine o_buildSlice0 st rfl ?_; clear st; intro b0 _ _ st)  | refine c_seq ?_  | refine c_region ?_  | refine l_do ?_  | refine l_doG st rfl rfl ?_  | refine l_nil ?_  | refine x_then ?_  | refine x_thenE ?_  | refine x_blkN ?_  | refine x_blkE ?_  | refine wp_ret ?_  | refine wp_skip ?_  | refine wp_block ?_  | refine wp_exit ?_  | refine c_condT st rfl ?_  | refine c_condF st rfl ?_  | ((first | refine o_move st rfl rfl ?_  | refine o_assign st rfl rfl ?_  | refine o_pickT st rfl rfl rfl ?_ ); clear st; intro _ st)  | (refine o_alloc st rfl ?_; clear st; intro _ _ _ st)  | ((first | refine o_loadS st rfl (by repeat constructor) rfl rfl ?_  | refine o_load2 st rfl (by repeat constructor) rfl ?_ ); clear st; intro _ st)  | ((first | refine o_storeW st rfl rfl (by repeat constructor) rfl rfl rfl ?_); clear st; intro _ _ st)  | ((first | refine o_extract st rfl rfl rfl ?_  | refine o_add64 st rfl rfl rfl (by omega) (by omega) ?_  | refine o_sub64 st rfl rfl rfl (by omega) (by omega) ?_); clear st; intro _ st)  | ((first | refine o_intFloat st rfl rfl ?_); clear st; intro _ st)  | ((first | refine o_lss st rfl rfl rfl ?_ ?_  | refine o_geq st rfl rfl rfl ?_ ?_  | refine o_eqlI st rfl rfl rfl ?_ ?_) <;> clear st <;> intro _ _ st <;> (try (exfalso; omega))) ))
    exact ⟨rfl, b0, (st.swap2.fit (by repeat (first | exact trivial  | refine And.intro rfl ?_))).subL (by repeat (first | exact List.Sublist.refl _  | apply List.Sublist.cons_cons  | apply List.Sublist.cons  | exact List.nil_sublist _))⟩
  clear st
  rintro _ _ ⟨b0, st⟩
  refine c_meet (fun a w' => ∃ m0 : Nat, St w Try.f4.ntmps a w' [(0, .slice base code.length cap), (1, .slice base' more.length cap'), (5, .int .i64 (n : Nat)), (6, .slice (some ⟨r0, 0, none⟩) 0 0), (7, .slice (some ⟨b0, 0, none⟩) 0 0), (8, .slice (some ⟨m0, 0, none⟩) 0 0)] [⟨m0, true, oV 31 [] []⟩, ⟨r0, true, oV 31 [] []⟩, ⟨b0, true, oV 31 [] []⟩]) ⟨?_⟩ ?_
  · (repeat' (first | (refine o_buildSlice0 st rfl ?_; clear st; intro m0 _ _ st)  | refine c_seq ?_  | refine c_region ?_  | refine l_do ?_  | refine l_doG st rfl rfl ?_  | refine l_nil ?_  | refine x_then ?_  | refine x_thenE ?_  | refine x_blkN ?_  | refine x_blkE ?_  | refine wp_ret ?_  | refine wp_skip ?_  | refine wp_block ?_  | refine wp_exit ?_  | refine c_condT st rfl ?_  | refine c_condF st rfl ?_  | ((first | refine o_move st rfl rfl ?_  | refine o_assign st rfl rfl ?_  | refine o_pickT st rfl rfl rfl ?_ ); clear st; intro _ st)  | (refine o_alloc st rfl ?_; clear st; intro _ _ _ st)  | ((first | refine o_loadS st rfl (by repeat constructor) rfl rfl ?_  | refine o_load2 st rfl (by repeat constructor) rfl ?_ ); clear st; intro _ st)  | ((first | refine o_storeW st rfl rfl (by repeat constructor) rfl rfl rfl ?_); clear st; intro _ _ st)  | ((first | refine o_extract st rfl rfl rfl ?_  | refine o_add64 st rfl rfl rfl (by omega) (by omega) ?_  | refine o_sub64 st rfl rfl rfl (by omega) (by omega) ?_); clear st; intro _ st)  | ((first | refine o_intFloat st rfl rfl ?_); clear st; intro _ st)  | ((first | refine o_lss st rfl rfl rfl ?_ ?_  | refine o_geq st rfl rfl rfl ?_ ?_  | refine o_eqlI st rfl rfl rfl ?_ ?_) <;> clear st <;> intro _ _ st <;> (try (exfalso; omega))) ))
    exact ⟨rfl, m0, (st.fit (by repeat (first | exact trivial  | refine And.intro rfl ?_))).subL (by repeat (first | exact List.Sublist.refl _  | apply List.Sublist.cons_cons  | apply List.Sublist.cons  | exact List.nil_sublist _))⟩
  clear st
  rintro _ _ ⟨m0, st⟩
  refine c_meet (fun a w' => ∃ x y : Nat, x < 17 ∧ y < 17 ∧ St w Try.f4.ntmps a w' [(0, .slice base code.length cap), (1, .slice base' more.length cap'), (5, .int .i64 (n : Nat)), (6, .slice (some ⟨r0, 0, none⟩) 0 0), (7, .slice (some ⟨b0, 0, none⟩) 0 0), (8, .slice (some ⟨m0, 0, none⟩) 0 0), (9, .complex .f32 (qv ((x : Int) - 8)) (qv ((y : Int) - 8)))] [⟨m0, true, oV 31 [] []⟩, ⟨r0, true, oV 31 [] []⟩, ⟨b0, true, oV 31 [] []⟩]) ⟨?_⟩ ?_
  · (repeat' (first | (refine o_callR (d := 46) st rfl (cA 1 (by omega) 17 (by omega) _ (hr'.mono st.below)) rfl ?_; clear st; rintro _ ⟨x, rfl, hx⟩ _ _ st)  | (refine o_callR (d := 51) st rfl (cA 2 (by omega) 17 (by omega) _ (hr'.mono st.below)) rfl ?_; clear st; rintro _ ⟨y, rfl, hy⟩ _ _ st)  | (refine o_fopK st rfl rfl (hqx x hx) rfl ?_; clear st; intro _ st)  | (refine o_fopK st rfl rfl (hqx y hy) rfl ?_; clear st; intro _ st)  | (refine o_complex st rfl rfl rfl ?_; clear st; intro _ st)  | refine c_seq ?_  | refine c_region ?_  | refine l_do ?_  | refine l_doG st rfl rfl ?_  | refine l_nil ?_  | refine x_then ?_  | refine x_thenE ?_  | refine x_blkN ?_  | refine x_blkE ?_  | refine wp_ret ?_  | refine wp_skip ?_  | refine wp_block ?_  | refine wp_exit ?_  | refine c_condT st rfl ?_  | refine c_condF st rfl ?_  | ((first | refine o_move st rfl rfl ?_  | refine o_assign st rfl rfl ?_  | refine o_pickT st rfl rfl rfl ?_ ); clear st; intro _ st)  | (refine o_alloc st rfl ?_; clear st; intro _ _ _ st)  | ((first | refine o_loadS st rfl (by repeat constructor) rfl rfl ?_  | refine o_load2 st rfl (by repeat constructor) rfl ?_ ); clear st; intro _ st)  | ((first | refine o_storeW st rfl rfl (by repeat constructor) rfl rfl rfl ?_); clear st; intro _ _ st)  | ((first | refine o_extract st rfl rfl rfl ?_  | refine o_add64 st rfl rfl rfl (by omega) (by omega) ?_  | refine o_sub64 st rfl rfl rfl (by omega) (by omega) ?_); clear st; intro _ st)  | ((first | refine o_intFloat st rfl rfl ?_); clear st; intro _ st)  | ((first | refine o_lss st rfl rfl rfl ?_ ?_  | refine o_geq st rfl rfl rfl ?_ ?_  | refine o_eqlI st rfl rfl rfl ?_ ?_) <;> clear st <;> intro _ _ st <;> (try (exfalso; omega))) ))
    exact ⟨rfl, x, y, by omega, by omega, (st.fit (by repeat (first | exact trivial  | refine And.intro rfl ?_))).subL (by repeat (first | exact List.Sublist.refl _  | apply List.Sublist.cons_cons  | apply List.Sublist.cons  | exact List.nil_sublist _))⟩
  clear st
  rintro _ _ ⟨x, y, hx, hy, st⟩
  obtain ⟨d, h⟩ := hring n x y hn3 hn10 hx hy
  obtain ⟨z, hz⟩ : ∃ z : Nat × Nat, z = (qv ((x : Int) - 8), qv ((y : Int) - 8)) := ⟨_, rfl⟩
  rw [← hz] at h
  have hz1 : qv ((x : Int) - 8) = z.1 := by rw [hz]
  have hz2 : qv ((y : Int) - 8) = z.2 := by rw [hz]
  rw [hz1, hz2] at st
  clear hz1 hz2 hz
  obtain ⟨ring, hring'⟩ : ∃ ring, ring = d.ring := ⟨_, rfl⟩
  obtain ⟨moved, hmoved'⟩ : ∃ moved, moved = d.moved := ⟨_, rfl⟩
  have h_lr := h.lr
  have h_lm := h.lm
  have h_hr := h.hr
  have h_hm := h.hm
  have h_o1 := h.o1
  have h_o2 := h.o2
  have h_o3 := h.o3
  have h_t1 := h.t1
  have h_t2 := h.t2
  have h_w1 := h.w1
  have h_w2 := h.w2
  have h_w3 := h.w3
  have h_a1 := h.a1
  have h_a2 := h.a2
  have h_a3 := h.a3
  have h_g1 := h.g1
  have h_g2 := h.g2
  have h_g3 := h.g3
  have e_b1 := h.b1
  have e_b2 := h.b2
  simp only [← hring', ← hmoved'] at h_lr h_lm h_hr h_hm h_o1 h_o2 h_o3 h_t1 h_t2 h_w1 h_w2 h_w3 h_a1 h_a2 h_a3 e_b1 e_b2
  refine c_meet (fun a w' => ∃ (r1 m1 c1 c2 : Nat) (d1 d2 : List Value), St w Try.f4.ntmps a w' [(0, .slice base code.length cap), (1, .slice base' more.length cap'), (5, .int .i64 (n : Nat)), (6, .slice (some ⟨r1, 0, none⟩) n c1), (7, .slice (some ⟨b0, 0, none⟩) 0 0), (8, .slice (some ⟨m1, 0, none⟩) n c2), (9, .complex .f32 z.1 z.2)] [⟨m1, true, oV 31 (moved.map vPt) d2⟩, ⟨r1, true, oV 31 (ring.map vPt) d1⟩, ⟨b0, true, oV 31 [] []⟩]) ⟨?_⟩ ?_
  · (repeat' (first | refine c_seq ?_  | refine c_region ?_  | refine l_do ?_  | refine l_doG st rfl rfl ?_  | refine l_nil ?_  | refine x_then ?_  | refine x_thenE ?_  | refine x_blkN ?_  | refine x_blkE ?_  | refine wp_ret ?_  | refine wp_skip ?_  | refine wp_block ?_  | refine wp_exit ?_  | refine c_condT st rfl ?_  | refine c_condF st rfl ?_  | ((first | refine o_move st rfl rfl ?_  | refine o_assign st rfl rfl ?_  | refine o_pickT st rfl rfl rfl ?_ ); clear st; intro _ st)  | (refine o_alloc st rfl ?_; clear st; intro _ _ _ st)  | ((first | refine o_loadS st rfl (by repeat constructor) rfl rfl ?_  | refine o_load2 st rfl (by repeat constructor) rfl ?_ ); clear st; intro _ st)  | ((first | refine o_storeW st rfl rfl (by repeat constructor) rfl rfl rfl ?_); clear st; intro _ _ st)  | ((first | refine o_extract st rfl rfl rfl ?_  | refine o_add64 st rfl rfl rfl (by omega) (by omega) ?_  | refine o_sub64 st rfl rfl rfl (by omega) (by omega) ?_); clear st; intro _ st)  | ((first | refine o_intFloat st rfl rfl ?_); clear st; intro _ st)  | ((first | refine o_lss st rfl rfl rfl ?_ ?_  | refine o_geq st rfl rfl rfl ?_ ?_  | refine o_eqlI st rfl rfl rfl ?_ ?_) <;> clear st <;> intro _ _ st <;> (try (exfalso; omega))) ))
    refine wp_loop_ghost (fun y0 a w' => ∃ (i r1 m1 c1 c2 : Nat) (d1 d2 : List Value), i + y0 = n ∧ ((ring.take i).map vPt ++ d1).length = c1 ∧ ((moved.take i).map vPt ++ d2).length = c2 ∧ St w Try.f4.ntmps a w' [(0, .slice base code.length cap), (1, .slice base' more.length cap'), (5, .int .i64 (n : Nat)), (6, .slice (some ⟨r1, 0, none⟩) i c1), (7, .slice (some ⟨b0, 0, none⟩) 0 0), (8, .slice (some ⟨m1, 0, none⟩) i c2), (9, .complex .f32 z.1 z.2), (10, .int .i64 (i : Nat))] [⟨m1, true, oV 31 ((moved.take i).map vPt) d2⟩, ⟨r1, true, oV 31 ((ring.take i).map vPt) d1⟩, ⟨b0, true, oV 31 [] []⟩]) n ⟨0, r0, m0, 0, 0, [], [], by omega, rfl, rfl, (st.fit (by repeat (first | exact trivial  | refine And.intro rfl ?_))).subL (by repeat (first | exact List.Sublist.refl _  | apply List.Sublist.cons_cons  | apply List.Sublist.cons  | exact List.nil_sublist _))⟩ ?_
    clear st
    rintro y0 a w' ⟨i, r1, m1, c1, c2, d1, d2, hi, hp1, hp2, st⟩
    have hk1 : ((ring.take i).map vPt).length = i := by rw [List.length_map, List.length_take]; omega
    have hk2 : ((moved.take i).map vPt).length = i := by rw [List.length_map, List.length_take]; omega
    cases y0 with
    | succ y0 =>
      have hlt : i < n := by omega
      obtain ⟨f, p, hf, hp, hs⟩ := h_hr i hlt
      obtain ⟨hm1, hm2⟩ := h_hm i hlt
      rw [pAt_eq (show i < ring.length by omega)] at hs hm1 hm2
      rw [pAt_eq (show i < moved.length by omega)] at hm1 hm2
      have k1 := fun w => SPhasorOf_ok f p hp w
      have k2 := fun w => SScale_ok p 1073741824 _ hs w
      (repeat' (first | (refine o_fopK st rfl rfl hf rfl ?_; clear st; intro _ st)  | (refine o_callV st rfl (k1 _) rfl ?_; clear st; intro _ _ st)  | (refine o_callV st rfl (k2 _) rfl ?_; clear st; intro _ _ st)  | (refine o_cadd (t := 31) st rfl rfl hm1 hm2 rfl ?_; clear st; intro _ st)  | (refine o_buildSlice st rfl rfl rfl rfl rfl rfl ?_; clear st; intro _ _ _ st)  | (refine o_append1V (d := 71) rfl st rfl rfl (by repeat constructor) (by repeat constructor) hk1 hp1 rfl (by omega) rfl ?_; clear st; intro r2 cap1 pad1 _ _ hq1 st)  | (refine o_append1V (d := 77) rfl st rfl rfl (by repeat constructor) (by repeat constructor) hk2 hp2 rfl (by omega) rfl ?_; clear st; intro m2 cap2 pad2 _ _ hq2 st)  | refine c_seq ?_  | refine c_region ?_  | refine l_do ?_  | refine l_doG st rfl rfl ?_  | refine l_nil ?_  | refine x_then ?_  | refine x_thenE ?_  | refine x_blkN ?_  | refine x_blkE ?_  | refine wp_ret ?_  | refine wp_skip ?_  | refine wp_block ?_  | refine wp_exit ?_  | refine c_condT st rfl ?_  | refine c_condF st rfl ?_  | ((first | refine o_move st rfl rfl ?_  | refine o_assign st rfl rfl ?_  | refine o_pickT st rfl rfl rfl ?_ ); clear st; intro _ st)  | (refine o_alloc st rfl ?_; clear st; intro _ _ _ st)  | ((first | refine o_loadS st rfl (by repeat constructor) rfl rfl ?_  | refine o_load2 st rfl (by repeat constructor) rfl ?_ ); clear st; intro _ st)  | ((first | refine o_storeW st rfl rfl (by repeat constructor) rfl rfl rfl ?_); clear st; intro _ _ st)  | ((first | refine o_extract st rfl rfl rfl ?_  | refine o_add64 st rfl rfl rfl (by omega) (by omega) ?_  | refine o_sub64 st rfl rfl rfl (by omega) (by omega) ?_); clear st; intro _ st)  | ((first | refine o_intFloat st rfl rfl ?_); clear st; intro _ st)  | ((first | refine o_lss st rfl rfl rfl ?_ ?_  | refine o_geq st rfl rfl rfl ?_ ?_  | refine o_eqlI st rfl rfl rfl ?_ ?_) <;> clear st <;> intro _ _ st <;> (try (exfalso; omega))) ))
      have e1 := take_map_one (c' := ring) (f := vPt) (i := i) (by omega)
      have e2 := take_map_one (c' := moved) (f := vPt) (i := i) (by omega)
      refine ⟨y0, by omega, i + 1, r2, m2, cap1, cap2, pad1, pad2, by omega, by rw [← e1]; exact hq1, by rw [← e2]; exact hq2, ?_⟩
      rw [← e1, ← e2]
      exact (st.fit (by repeat (first | exact trivial  | refine And.intro rfl ?_))).subL (by repeat (first | exact List.Sublist.refl _  | apply List.Sublist.cons_cons  | apply List.Sublist.cons  | exact List.nil_sublist _))
    | zero =>
      have hin : i = n := by omega
      subst hin
      have e1 : ring.take i = ring := List.take_of_length_le (by omega)
      have e2 : moved.take i = moved := List.take_of_length_le (by omega)
      rw [e1, e2] at st
      (repeat' (first | refine c_seq ?_  | refine c_region ?_  | refine l_do ?_  | refine l_doG st rfl rfl ?_  | refine l_nil ?_  | refine x_then ?_  | refine x_thenE ?_  | refine x_blkN ?_  | refine x_blkE ?_  | refine wp_ret ?_  | refine wp_skip ?_  | refine wp_block ?_  | refine wp_exit ?_  | refine c_condT st rfl ?_  | refine c_condF st rfl ?_  | ((first | refine o_move st rfl rfl ?_  | refine o_assign st rfl rfl ?_  | refine o_pickT st rfl rfl rfl ?_ ); clear st; intro _ st)  | (refine o_alloc st rfl ?_; clear st; intro _ _ _ st)  | ((first | refine o_loadS st rfl (by repeat constructor) rfl rfl ?_  | refine o_load2 st rfl (by repeat constructor) rfl ?_ ); clear st; intro _ st)  | ((first | refine o_storeW st rfl rfl (by repeat constructor) rfl rfl rfl ?_); clear st; intro _ _ st)  | ((first | refine o_extract st rfl rfl rfl ?_  | refine o_add64 st rfl rfl rfl (by omega) (by omega) ?_  | refine o_sub64 st rfl rfl rfl (by omega) (by omega) ?_); clear st; intro _ st)  | ((first | refine o_intFloat st rfl rfl ?_); clear st; intro _ st)  | ((first | refine o_lss st rfl rfl rfl ?_ ?_  | refine o_geq st rfl rfl rfl ?_ ?_  | refine o_eqlI st rfl rfl rfl ?_ ?_) <;> clear st <;> intro _ _ st <;> (try (exfalso; omega))) ))
      exact ⟨rfl, r1, m1, c1, c2, d1, d2, (st.fit (by repeat (first | exact trivial  | refine And.intro rfl ?_))).subL (by repeat (first | exact List.Sublist.refl _  | apply List.Sublist.cons_cons  | apply List.Sublist.cons  | exact List.nil_sublist _))⟩
  clear st
  rintro _ _ ⟨r1, m1, c1, c2, d1, d2, st⟩
  have gq : ∀ (j : Nat) (hj : j < ring.length), (ring.map vPt ++ d1).toArray[0 + ((j : Nat) : Int).toNat * 1]? = some (vPt ring[j]) := by
    intro j hj
    have := oV_get (pad := d1) (vs := ring.map vPt) (k := j) (by rw [List.length_map]; omega)
    rw [this, List.getElem_map]
  have st := St.back2 (L := [_]) st
  simp only [List.cons_append, List.nil_append] at st
  refine c_meet (fun a w' => ∃ (b1 c3 : Nat) (d3 : List Value), St w Try.f4.ntmps a w' [(0, .slice base code.length cap), (1, .slice base' more.length cap'), (5, .int .i64 (n : Nat)), (6, .slice (some ⟨r1, 0, none⟩) n c1), (7, .slice (some ⟨b1, 0, none⟩) n c3), (8, .slice (some ⟨m1, 0, none⟩) n c2), (9, .complex .f32 z.1 z.2)] [⟨b1, true, oV 31 (ring.reverse.map vPt) d3⟩, ⟨m1, true, oV 31 (moved.map vPt) d2⟩, ⟨r1, true, oV 31 (ring.map vPt) d1⟩]) ⟨?_⟩ ?_
  · (repeat' (first | refine c_seq ?_  | refine c_region ?_  | refine l_do ?_  | refine l_doG st rfl rfl ?_  | refine l_nil ?_  | refine x_then ?_  | refine x_thenE ?_  | refine x_blkN ?_  | refine x_blkE ?_  | refine wp_ret ?_  | refine wp_skip ?_  | refine wp_block ?_  | refine wp_exit ?_  | refine c_condT st rfl ?_  | refine c_condF st rfl ?_  | ((first | refine o_move st rfl rfl ?_  | refine o_assign st rfl rfl ?_  | refine o_pickT st rfl rfl rfl ?_ ); clear st; intro _ st)  | (refine o_alloc st rfl ?_; clear st; intro _ _ _ st)  | ((first | refine o_loadS st rfl (by repeat constructor) rfl rfl ?_  | refine o_load2 st rfl (by repeat constructor) rfl ?_ ); clear st; intro _ st)  | ((first | refine o_storeW st rfl rfl (by repeat constructor) rfl rfl rfl ?_); clear st; intro _ _ st)  | ((first | refine o_extract st rfl rfl rfl ?_  | refine o_add64 st rfl rfl rfl (by omega) (by omega) ?_  | refine o_sub64 st rfl rfl rfl (by omega) (by omega) ?_); clear st; intro _ st)  | ((first | refine o_intFloat st rfl rfl ?_); clear st; intro _ st)  | ((first | refine o_lss st rfl rfl rfl ?_ ?_  | refine o_geq st rfl rfl rfl ?_ ?_  | refine o_eqlI st rfl rfl rfl ?_ ?_) <;> clear st <;> intro _ _ st <;> (try (exfalso; omega))) ))
    refine wp_loop_ghost (fun y0 a w' => ∃ (b1 c3 : Nat) (d3 : List Value), y0 ≤ n ∧ ((ring.reverse.take (n - y0)).map vPt ++ d3).length = c3 ∧ St w Try.f4.ntmps a w' [(0, .slice base code.length cap), (1, .slice base' more.length cap'), (5, .int .i64 (n : Nat)), (6, .slice (some ⟨r1, 0, none⟩) n c1), (7, .slice (some ⟨b1, 0, none⟩) (n - y0) c3), (8, .slice (some ⟨m1, 0, none⟩) n c2), (9, .complex .f32 z.1 z.2), (12, .int .i64 ((y0 : Int) - 1))] [⟨b1, true, oV 31 ((ring.reverse.take (n - y0)).map vPt) d3⟩, ⟨m1, true, oV 31 (moved.map vPt) d2⟩, ⟨r1, true, oV 31 (ring.map vPt) d1⟩]) n ⟨b0, 0, [], by omega, by rw [Nat.sub_self]; rfl, by rw [Nat.sub_self]; exact (st.fit (by repeat (first | exact trivial  | refine And.intro rfl ?_))).subL (by repeat (first | exact List.Sublist.refl _  | apply List.Sublist.cons_cons  | apply List.Sublist.cons  | exact List.nil_sublist _))⟩ ?_
    clear st
    rintro y0 a w' ⟨b1, c3, d3, hy0, hp3, st⟩
    have hk3 : ((ring.reverse.take (n - y0)).map vPt).length = n - y0 := by rw [List.length_map, List.length_take, List.length_reverse]; omega
    cases y0 with
    | succ i =>
      have hlt : i < ring.length := by omega
      have g1 := gq i hlt
      rw [show ((i : Nat) : Int) = ((i + 1 : Nat) : Int) - 1 by omega] at g1
      have er := take_rev hlt
      rw [show ring.length - 1 - i = n - (i + 1) by omega, show ring.length - i = n - i by omega] at er
      (repeat' (first | (refine o_indexAddr st rfl rfl (by omega) (by omega) rfl ?_; clear st; intro _ st)  | (refine o_loadS st rfl (by repeat constructor) g1 rfl ?_; clear st; intro _ st)  | (refine o_buildSlice st rfl rfl rfl rfl rfl rfl ?_; clear st; intro _ _ _ st)  | (refine o_append1V (d := 90) rfl st rfl rfl (by repeat constructor) (by repeat constructor) hk3 hp3 rfl (by omega) rfl ?_; clear st; intro b2 cap3 pad3 _ _ hq3 st)  | refine c_seq ?_  | refine c_region ?_  | refine l_do ?_  | refine l_doG st rfl rfl ?_  | refine l_nil ?_  | refine x_then ?_  | refine x_thenE ?_  | refine x_blkN ?_  | refine x_blkE ?_  | refine wp_ret ?_  | refine wp_skip ?_  | refine wp_block ?_  | refine wp_exit ?_  | refine c_condT st rfl ?_  | refine c_condF st rfl ?_  | ((first | refine o_move st rfl rfl ?_  | refine o_assign st rfl rfl ?_  | refine o_pickT st rfl rfl rfl ?_ ); clear st; intro _ st)  | (refine o_alloc st rfl ?_; clear st; intro _ _ _ st)  | ((first | refine o_loadS st rfl (by repeat constructor) rfl rfl ?_  | refine o_load2 st rfl (by repeat constructor) rfl ?_ ); clear st; intro _ st)  | ((first | refine o_storeW st rfl rfl (by repeat constructor) rfl rfl rfl ?_); clear st; intro _ _ st)  | ((first | refine o_extract st rfl rfl rfl ?_  | refine o_add64 st rfl rfl rfl (by omega) (by omega) ?_  | refine o_sub64 st rfl rfl rfl (by omega) (by omega) ?_); clear st; intro _ st)  | ((first | refine o_intFloat st rfl rfl ?_); clear st; intro _ st)  | ((first | refine o_lss st rfl rfl rfl ?_ ?_  | refine o_geq st rfl rfl rfl ?_ ?_  | refine o_eqlI st rfl rfl rfl ?_ ?_) <;> clear st <;> intro _ _ st <;> (try (exfalso; omega))) ))
      have e1 : (ring.reverse.take (n - (i + 1))).map vPt ++ [vPt ring[i]] = (ring.reverse.take (n - i)).map vPt := by rw [← er, List.map_append]; rfl
      have e3 : ((i + 1 : Nat) : Int) - 1 - 1 = (i : Int) - 1 := by omega
      have e4 : n - (i + 1) + 1 = n - i := by omega
      rw [e3, e4] at st
      refine ⟨i, by omega, b2, cap3, pad3, by omega, by rw [← e1]; exact hq3, ?_⟩
      rw [← e1]
      exact (st.fit (by repeat (first | exact trivial  | refine And.intro rfl ?_))).subL (by repeat (first | exact List.Sublist.refl _  | apply List.Sublist.cons_cons  | apply List.Sublist.cons  | exact List.nil_sublist _))
    | zero =>
      rw [Nat.sub_zero] at st
      have e1 : ring.reverse.take n = ring.reverse := List.take_of_length_le (by rw [List.length_reverse]; omega)
      rw [e1] at st
      (repeat' (first | refine c_seq ?_  | refine c_region ?_  | refine l_do ?_  | refine l_doG st rfl rfl ?_  | refine l_nil ?_  | refine x_then ?_  | refine x_thenE ?_  | refine x_blkN ?_  | refine x_blkE ?_  | refine wp_ret ?_  | refine wp_skip ?_  | refine wp_block ?_  | refine wp_exit ?_  | refine c_condT st rfl ?_  | refine c_condF st rfl ?_  | ((first | refine o_move st rfl rfl ?_  | refine o_assign st rfl rfl ?_  | refine o_pickT st rfl rfl rfl ?_ ); clear st; intro _ st)  | (refine o_alloc st rfl ?_; clear st; intro _ _ _ st)  | ((first | refine o_loadS st rfl (by repeat constructor) rfl rfl ?_  | refine o_load2 st rfl (by repeat constructor) rfl ?_ ); clear st; intro _ st)  | ((first | refine o_storeW st rfl rfl (by repeat constructor) rfl rfl rfl ?_); clear st; intro _ _ st)  | ((first | refine o_extract st rfl rfl rfl ?_  | refine o_add64 st rfl rfl rfl (by omega) (by omega) ?_  | refine o_sub64 st rfl rfl rfl (by omega) (by omega) ?_); clear st; intro _ st)  | ((first | refine o_intFloat st rfl rfl ?_); clear st; intro _ st)  | ((first | refine o_lss st rfl rfl rfl ?_ ?_  | refine o_geq st rfl rfl rfl ?_ ?_  | refine o_eqlI st rfl rfl rfl ?_ ?_) <;> clear st <;> intro _ _ st <;> (try (exfalso; omega))) ))
      exact ⟨rfl, b1, c3, d3, (st.fit (by repeat (first | exact trivial  | refine And.intro rfl ?_))).subL (by repeat (first | exact List.Sublist.refl _  | apply List.Sublist.cons_cons  | apply List.Sublist.cons  | exact List.nil_sublist _))⟩
  clear st
  rintro _ _ ⟨b1, c3, d3, st⟩
  have h_lb : ring.reverse.length = n := by rw [List.length_reverse]; exact h_lr
  have q := fun bs cp w hr => TurnsOfLoop_ok ring _ _ _ _ _ h_o1 h_t1 bs cp w hr
  rw [h_lr] at q
  refine c_meet (fun a w' => St w Try.f4.ntmps a w' [(0, .slice base code.length cap), (1, .slice base' more.length cap'), (6, .slice (some ⟨r1, 0, none⟩) n c1), (7, .slice (some ⟨b1, 0, none⟩) n c3), (8, .slice (some ⟨m1, 0, none⟩) n c2), (13, .float .f32 (d.s n)), (14, .bool true)] [⟨b1, true, oV 31 (ring.reverse.map vPt) d3⟩, ⟨m1, true, oV 31 (moved.map vPt) d2⟩, ⟨r1, true, oV 31 (ring.map vPt) d1⟩]) ⟨?_⟩ ?_
  · (repeat' (first | (refine o_callV st rfl (q _ _ _ (RdV.of (st.heap (by repeat constructor)))) rfl ?_; clear st; intro _ _ st)  | refine c_seq ?_  | refine c_region ?_  | refine l_do ?_  | refine l_doG st rfl rfl ?_  | refine l_nil ?_  | refine x_then ?_  | refine x_thenE ?_  | refine x_blkN ?_  | refine x_blkE ?_  | refine wp_ret ?_  | refine wp_skip ?_  | refine wp_block ?_  | refine wp_exit ?_  | refine c_condT st rfl ?_  | refine c_condF st rfl ?_  | ((first | refine o_move st rfl rfl ?_  | refine o_assign st rfl rfl ?_  | refine o_pickT st rfl rfl rfl ?_ ); clear st; intro _ st)  | (refine o_alloc st rfl ?_; clear st; intro _ _ _ st)  | ((first | refine o_loadS st rfl (by repeat constructor) rfl rfl ?_  | refine o_load2 st rfl (by repeat constructor) rfl ?_ ); clear st; intro _ st)  | ((first | refine o_storeW st rfl rfl (by repeat constructor) rfl rfl rfl ?_); clear st; intro _ _ st)  | ((first | refine o_extract st rfl rfl rfl ?_  | refine o_add64 st rfl rfl rfl (by omega) (by omega) ?_  | refine o_sub64 st rfl rfl rfl (by omega) (by omega) ?_); clear st; intro _ st)  | ((first | refine o_intFloat st rfl rfl ?_); clear st; intro _ st)  | ((first | refine o_lss st rfl rfl rfl ?_ ?_  | refine o_geq st rfl rfl rfl ?_ ?_  | refine o_eqlI st rfl rfl rfl ?_ ?_) <;> clear st <;> intro _ _ st <;> (try (exfalso; omega))) ))
    exact ⟨rfl, (st.fit (by repeat (first | exact trivial  | refine And.intro rfl ?_))).subL (by repeat (first | exact List.Sublist.refl _  | apply List.Sublist.cons_cons  | apply List.Sublist.cons  | exact List.nil_sublist _))⟩
  clear st
  rintro _ _ st
  have q := fun bs cp w hr => TurnsOfLoop_ok ring.reverse _ _ _ _ _ h_o3 h_t2 bs cp w hr
  rw [h_lb] at q
  refine c_meet (fun a w' => St w Try.f4.ntmps a w' [(0, .slice base code.length cap), (1, .slice base' more.length cap'), (6, .slice (some ⟨r1, 0, none⟩) n c1), (7, .slice (some ⟨b1, 0, none⟩) n c3), (8, .slice (some ⟨m1, 0, none⟩) n c2), (13, .float .f32 (d.s n)), (14, .bool true), (15, .float .f32 (d.s' n)), (16, .bool true)] [⟨b1, true, oV 31 (ring.reverse.map vPt) d3⟩, ⟨m1, true, oV 31 (moved.map vPt) d2⟩, ⟨r1, true, oV 31 (ring.map vPt) d1⟩]) ⟨?_⟩ ?_
  · (repeat' (first | (refine o_callV st rfl (q _ _ _ (RdV.of (st.heap (by repeat constructor)))) rfl ?_; clear st; intro _ _ st)  | refine c_seq ?_  | refine c_region ?_  | refine l_do ?_  | refine l_doG st rfl rfl ?_  | refine l_nil ?_  | refine x_then ?_  | refine x_thenE ?_  | refine x_blkN ?_  | refine x_blkE ?_  | refine wp_ret ?_  | refine wp_skip ?_  | refine wp_block ?_  | refine wp_exit ?_  | refine c_condT st rfl ?_  | refine c_condF st rfl ?_  | ((first | refine o_move st rfl rfl ?_  | refine o_assign st rfl rfl ?_  | refine o_pickT st rfl rfl rfl ?_ ); clear st; intro _ st)  | (refine o_alloc st rfl ?_; clear st; intro _ _ _ st)  | ((first | refine o_loadS st rfl (by repeat constructor) rfl rfl ?_  | refine o_load2 st rfl (by repeat constructor) rfl ?_ ); clear st; intro _ st)  | ((first | refine o_storeW st rfl rfl (by repeat constructor) rfl rfl rfl ?_); clear st; intro _ _ st)  | ((first | refine o_extract st rfl rfl rfl ?_  | refine o_add64 st rfl rfl rfl (by omega) (by omega) ?_  | refine o_sub64 st rfl rfl rfl (by omega) (by omega) ?_); clear st; intro _ st)  | ((first | refine o_intFloat st rfl rfl ?_); clear st; intro _ st)  | ((first | refine o_lss st rfl rfl rfl ?_ ?_  | refine o_geq st rfl rfl rfl ?_ ?_  | refine o_eqlI st rfl rfl rfl ?_ ?_) <;> clear st <;> intro _ _ st <;> (try (exfalso; omega))) ))
    exact ⟨rfl, (st.fit (by repeat (first | exact trivial  | refine And.intro rfl ?_))).subL (by repeat (first | exact List.Sublist.refl _  | apply List.Sublist.cons_cons  | apply List.Sublist.cons  | exact List.nil_sublist _))⟩
  clear st
  rintro _ _ st
  have q := fun bs cp w hr => WindingAt_ok ring h_o1 (1040187392, 1031798784) gdz1 1 h_w1 bs cp w hr
  rw [h_lr] at q
  refine c_meet (fun a w' => St w Try.f4.ntmps a w' [(0, .slice base code.length cap), (1, .slice base' more.length cap'), (6, .slice (some ⟨r1, 0, none⟩) n c1), (7, .slice (some ⟨b1, 0, none⟩) n c3), (8, .slice (some ⟨m1, 0, none⟩) n c2), (13, .float .f32 (d.s n)), (14, .bool true), (15, .float .f32 (d.s' n)), (16, .bool true), (17, .int .i64 1), (18, .bool true)] [⟨b1, true, oV 31 (ring.reverse.map vPt) d3⟩, ⟨m1, true, oV 31 (moved.map vPt) d2⟩, ⟨r1, true, oV 31 (ring.map vPt) d1⟩]) ⟨?_⟩ ?_
  · (repeat' (first | (refine o_callV st rfl (q _ _ _ (RdV.of (st.heap (by repeat constructor)))) rfl ?_; clear st; intro _ _ st)  | refine c_seq ?_  | refine c_region ?_  | refine l_do ?_  | refine l_doG st rfl rfl ?_  | refine l_nil ?_  | refine x_then ?_  | refine x_thenE ?_  | refine x_blkN ?_  | refine x_blkE ?_  | refine wp_ret ?_  | refine wp_skip ?_  | refine wp_block ?_  | refine wp_exit ?_  | refine c_condT st rfl ?_  | refine c_condF st rfl ?_  | ((first | refine o_move st rfl rfl ?_  | refine o_assign st rfl rfl ?_  | refine o_pickT st rfl rfl rfl ?_ ); clear st; intro _ st)  | (refine o_alloc st rfl ?_; clear st; intro _ _ _ st)  | ((first | refine o_loadS st rfl (by repeat constructor) rfl rfl ?_  | refine o_load2 st rfl (by repeat constructor) rfl ?_ ); clear st; intro _ st)  | ((first | refine o_storeW st rfl rfl (by repeat constructor) rfl rfl rfl ?_); clear st; intro _ _ st)  | ((first | refine o_extract st rfl rfl rfl ?_  | refine o_add64 st rfl rfl rfl (by omega) (by omega) ?_  | refine o_sub64 st rfl rfl rfl (by omega) (by omega) ?_); clear st; intro _ st)  | ((first | refine o_intFloat st rfl rfl ?_); clear st; intro _ st)  | ((first | refine o_lss st rfl rfl rfl ?_ ?_  | refine o_geq st rfl rfl rfl ?_ ?_  | refine o_eqlI st rfl rfl rfl ?_ ?_) <;> clear st <;> intro _ _ st <;> (try (exfalso; omega))) ))
    exact ⟨rfl, (st.fit (by repeat (first | exact trivial  | refine And.intro rfl ?_))).subL (by repeat (first | exact List.Sublist.refl _  | apply List.Sublist.cons_cons  | apply List.Sublist.cons  | exact List.nil_sublist _))⟩
  clear st
  rintro _ _ st
  have q := fun bs cp w hr => WindingAt_ok ring h_o1 (1084227584, 1031798784) gdz2 0 h_w2 bs cp w hr
  rw [h_lr] at q
  refine c_meet (fun a w' => St w Try.f4.ntmps a w' [(0, .slice base code.length cap), (1, .slice base' more.length cap'), (6, .slice (some ⟨r1, 0, none⟩) n c1), (7, .slice (some ⟨b1, 0, none⟩) n c3), (8, .slice (some ⟨m1, 0, none⟩) n c2), (13, .float .f32 (d.s n)), (14, .bool true), (15, .float .f32 (d.s' n)), (16, .bool true), (17, .int .i64 1), (18, .bool true), (19, .int .i64 0), (20, .bool true)] [⟨b1, true, oV 31 (ring.reverse.map vPt) d3⟩, ⟨m1, true, oV 31 (moved.map vPt) d2⟩, ⟨r1, true, oV 31 (ring.map vPt) d1⟩]) ⟨?_⟩ ?_
  · (repeat' (first | (refine o_callV st rfl (q _ _ _ (RdV.of (st.heap (by repeat constructor)))) rfl ?_; clear st; intro _ _ st)  | refine c_seq ?_  | refine c_region ?_  | refine l_do ?_  | refine l_doG st rfl rfl ?_  | refine l_nil ?_  | refine x_then ?_  | refine x_thenE ?_  | refine x_blkN ?_  | refine x_blkE ?_  | refine wp_ret ?_  | refine wp_skip ?_  | refine wp_block ?_  | refine wp_exit ?_  | refine c_condT st rfl ?_  | refine c_condF st rfl ?_  | ((first | refine o_move st rfl rfl ?_  | refine o_assign st rfl rfl ?_  | refine o_pickT st rfl rfl rfl ?_ ); clear st; intro _ st)  | (refine o_alloc st rfl ?_; clear st; intro _ _ _ st)  | ((first | refine o_loadS st rfl (by repeat constructor) rfl rfl ?_  | refine o_load2 st rfl (by repeat constructor) rfl ?_ ); clear st; intro _ st)  | ((first | refine o_storeW st rfl rfl (by repeat constructor) rfl rfl rfl ?_); clear st; intro _ _ st)  | ((first | refine o_extract st rfl rfl rfl ?_  | refine o_add64 st rfl rfl rfl (by omega) (by omega) ?_  | refine o_sub64 st rfl rfl rfl (by omega) (by omega) ?_); clear st; intro _ st)  | ((first | refine o_intFloat st rfl rfl ?_); clear st; intro _ st)  | ((first | refine o_lss st rfl rfl rfl ?_ ?_  | refine o_geq st rfl rfl rfl ?_ ?_  | refine o_eqlI st rfl rfl rfl ?_ ?_) <;> clear st <;> intro _ _ st <;> (try (exfalso; omega))) ))
    exact ⟨rfl, (st.fit (by repeat (first | exact trivial  | refine And.intro rfl ?_))).subL (by repeat (first | exact List.Sublist.refl _  | apply List.Sublist.cons_cons  | apply List.Sublist.cons  | exact List.nil_sublist _))⟩
  clear st
  rintro _ _ st
  have q := fun bs cp w hr => WindingAt_ok ring.reverse h_o3 (1040187392, 1031798784) gdz1 (-1) h_w3 bs cp w hr
  rw [h_lb] at q
  refine c_meet (fun a w' => St w Try.f4.ntmps a w' [(0, .slice base code.length cap), (1, .slice base' more.length cap'), (6, .slice (some ⟨r1, 0, none⟩) n c1), (7, .slice (some ⟨b1, 0, none⟩) n c3), (8, .slice (some ⟨m1, 0, none⟩) n c2), (13, .float .f32 (d.s n)), (14, .bool true), (15, .float .f32 (d.s' n)), (16, .bool true), (17, .int .i64 1), (18, .bool true), (19, .int .i64 0), (20, .bool true), (21, .int .i64 (-1)), (22, .bool true)] [⟨b1, true, oV 31 (ring.reverse.map vPt) d3⟩, ⟨m1, true, oV 31 (moved.map vPt) d2⟩, ⟨r1, true, oV 31 (ring.map vPt) d1⟩]) ⟨?_⟩ ?_
  · (repeat' (first | (refine o_callV st rfl (q _ _ _ (RdV.of (st.heap (by repeat constructor)))) rfl ?_; clear st; intro _ _ st)  | refine c_seq ?_  | refine c_region ?_  | refine l_do ?_  | refine l_doG st rfl rfl ?_  | refine l_nil ?_  | refine x_then ?_  | refine x_thenE ?_  | refine x_blkN ?_  | refine x_blkE ?_  | refine wp_ret ?_  | refine wp_skip ?_  | refine wp_block ?_  | refine wp_exit ?_  | refine c_condT st rfl ?_  | refine c_condF st rfl ?_  | ((first | refine o_move st rfl rfl ?_  | refine o_assign st rfl rfl ?_  | refine o_pickT st rfl rfl rfl ?_ ); clear st; intro _ st)  | (refine o_alloc st rfl ?_; clear st; intro _ _ _ st)  | ((first | refine o_loadS st rfl (by repeat constructor) rfl rfl ?_  | refine o_load2 st rfl (by repeat constructor) rfl ?_ ); clear st; intro _ st)  | ((first | refine o_storeW st rfl rfl (by repeat constructor) rfl rfl rfl ?_); clear st; intro _ _ st)  | ((first | refine o_extract st rfl rfl rfl ?_  | refine o_add64 st rfl rfl rfl (by omega) (by omega) ?_  | refine o_sub64 st rfl rfl rfl (by omega) (by omega) ?_); clear st; intro _ st)  | ((first | refine o_intFloat st rfl rfl ?_); clear st; intro _ st)  | ((first | refine o_lss st rfl rfl rfl ?_ ?_  | refine o_geq st rfl rfl rfl ?_ ?_  | refine o_eqlI st rfl rfl rfl ?_ ?_) <;> clear st <;> intro _ _ st <;> (try (exfalso; omega))) ))
    exact ⟨rfl, (st.fit (by repeat (first | exact trivial  | refine And.intro rfl ?_))).subL (by repeat (first | exact List.Sublist.refl _  | apply List.Sublist.cons_cons  | apply List.Sublist.cons  | exact List.nil_sublist _))⟩
  clear st
  rintro _ _ st
  have q := fun bs cp w hr => AreaOfLoop_ok ring h_o1 d.a1 h_a1 h_g1 bs cp w hr
  rw [h_lr] at q
  refine c_meet (fun a w' => St w Try.f4.ntmps a w' [(0, .slice base code.length cap), (1, .slice base' more.length cap'), (6, .slice (some ⟨r1, 0, none⟩) n c1), (7, .slice (some ⟨b1, 0, none⟩) n c3), (8, .slice (some ⟨m1, 0, none⟩) n c2), (13, .float .f32 (d.s n)), (14, .bool true), (15, .float .f32 (d.s' n)), (16, .bool true), (17, .int .i64 1), (18, .bool true), (19, .int .i64 0), (20, .bool true), (21, .int .i64 (-1)), (22, .bool true), (23, .float .f32 d.a1), (24, .bool true)] [⟨b1, true, oV 31 (ring.reverse.map vPt) d3⟩, ⟨m1, true, oV 31 (moved.map vPt) d2⟩, ⟨r1, true, oV 31 (ring.map vPt) d1⟩]) ⟨?_⟩ ?_
  · (repeat' (first | (refine o_callV st rfl (q _ _ _ (RdV.of (st.heap (by repeat constructor)))) rfl ?_; clear st; intro _ _ st)  | refine c_seq ?_  | refine c_region ?_  | refine l_do ?_  | refine l_doG st rfl rfl ?_  | refine l_nil ?_  | refine x_then ?_  | refine x_thenE ?_  | refine x_blkN ?_  | refine x_blkE ?_  | refine wp_ret ?_  | refine wp_skip ?_  | refine wp_block ?_  | refine wp_exit ?_  | refine c_condT st rfl ?_  | refine c_condF st rfl ?_  | ((first | refine o_move st rfl rfl ?_  | refine o_assign st rfl rfl ?_  | refine o_pickT st rfl rfl rfl ?_ ); clear st; intro _ st)  | (refine o_alloc st rfl ?_; clear st; intro _ _ _ st)  | ((first | refine o_loadS st rfl (by repeat constructor) rfl rfl ?_  | refine o_load2 st rfl (by repeat constructor) rfl ?_ ); clear st; intro _ st)  | ((first | refine o_storeW st rfl rfl (by repeat constructor) rfl rfl rfl ?_); clear st; intro _ _ st)  | ((first | refine o_extract st rfl rfl rfl ?_  | refine o_add64 st rfl rfl rfl (by omega) (by omega) ?_  | refine o_sub64 st rfl rfl rfl (by omega) (by omega) ?_); clear st; intro _ st)  | ((first | refine o_intFloat st rfl rfl ?_); clear st; intro _ st)  | ((first | refine o_lss st rfl rfl rfl ?_ ?_  | refine o_geq st rfl rfl rfl ?_ ?_  | refine o_eqlI st rfl rfl rfl ?_ ?_) <;> clear st <;> intro _ _ st <;> (try (exfalso; omega))) ))
    exact ⟨rfl, (st.fit (by repeat (first | exact trivial  | refine And.intro rfl ?_))).subL (by repeat (first | exact List.Sublist.refl _  | apply List.Sublist.cons_cons  | apply List.Sublist.cons  | exact List.nil_sublist _))⟩
  clear st
  rintro _ _ st
  have q := fun bs cp w hr => AreaOfLoop_ok moved h_o2 d.a2 h_a2 h_g2 bs cp w hr
  rw [h_lm] at q
  refine c_meet (fun a w' => St w Try.f4.ntmps a w' [(0, .slice base code.length cap), (1, .slice base' more.length cap'), (6, .slice (some ⟨r1, 0, none⟩) n c1), (7, .slice (some ⟨b1, 0, none⟩) n c3), (8, .slice (some ⟨m1, 0, none⟩) n c2), (13, .float .f32 (d.s n)), (14, .bool true), (15, .float .f32 (d.s' n)), (16, .bool true), (17, .int .i64 1), (18, .bool true), (19, .int .i64 0), (20, .bool true), (21, .int .i64 (-1)), (22, .bool true), (23, .float .f32 d.a1), (24, .bool true), (25, .float .f32 d.a2), (26, .bool true)] [⟨b1, true, oV 31 (ring.reverse.map vPt) d3⟩, ⟨m1, true, oV 31 (moved.map vPt) d2⟩, ⟨r1, true, oV 31 (ring.map vPt) d1⟩]) ⟨?_⟩ ?_
  · (repeat' (first | (refine o_callV st rfl (q _ _ _ (RdV.of (st.heap (by repeat constructor)))) rfl ?_; clear st; intro _ _ st)  | refine c_seq ?_  | refine c_region ?_  | refine l_do ?_  | refine l_doG st rfl rfl ?_  | refine l_nil ?_  | refine x_then ?_  | refine x_thenE ?_  | refine x_blkN ?_  | refine x_blkE ?_  | refine wp_ret ?_  | refine wp_skip ?_  | refine wp_block ?_  | refine wp_exit ?_  | refine c_condT st rfl ?_  | refine c_condF st rfl ?_  | ((first | refine o_move st rfl rfl ?_  | refine o_assign st rfl rfl ?_  | refine o_pickT st rfl rfl rfl ?_ ); clear st; intro _ st)  | (refine o_alloc st rfl ?_; clear st; intro _ _ _ st)  | ((first | refine o_loadS st rfl (by repeat constructor) rfl rfl ?_  | refine o_load2 st rfl (by repeat constructor) rfl ?_ ); clear st; intro _ st)  | ((first | refine o_storeW st rfl rfl (by repeat constructor) rfl rfl rfl ?_); clear st; intro _ _ st)  | ((first | refine o_extract st rfl rfl rfl ?_  | refine o_add64 st rfl rfl rfl (by omega) (by omega) ?_  | refine o_sub64 st rfl rfl rfl (by omega) (by omega) ?_); clear st; intro _ st)  | ((first | refine o_intFloat st rfl rfl ?_); clear st; intro _ st)  | ((first | refine o_lss st rfl rfl rfl ?_ ?_  | refine o_geq st rfl rfl rfl ?_ ?_  | refine o_eqlI st rfl rfl rfl ?_ ?_) <;> clear st <;> intro _ _ st <;> (try (exfalso; omega))) ))
    exact ⟨rfl, (st.fit (by repeat (first | exact trivial  | refine And.intro rfl ?_))).subL (by repeat (first | exact List.Sublist.refl _  | apply List.Sublist.cons_cons  | apply List.Sublist.cons  | exact List.nil_sublist _))⟩
  clear st
  rintro _ _ st
  have q := fun bs cp w hr => AreaOfLoop_ok ring.reverse h_o3 d.a3 h_a3 h_g3 bs cp w hr
  rw [h_lb] at q
  refine c_meet (fun a w' => St w Try.f4.ntmps a w' [(0, .slice base code.length cap), (1, .slice base' more.length cap'), (6, .slice (some ⟨r1, 0, none⟩) n c1), (7, .slice (some ⟨b1, 0, none⟩) n c3), (8, .slice (some ⟨m1, 0, none⟩) n c2), (13, .float .f32 (d.s n)), (14, .bool true), (15, .float .f32 (d.s' n)), (16, .bool true), (17, .int .i64 1), (18, .bool true), (19, .int .i64 0), (20, .bool true), (21, .int .i64 (-1)), (22, .bool true), (23, .float .f32 d.a1), (24, .bool true), (25, .float .f32 d.a2), (26, .bool true), (27, .float .f32 d.a3), (28, .bool true)] [⟨b1, true, oV 31 (ring.reverse.map vPt) d3⟩, ⟨m1, true, oV 31 (moved.map vPt) d2⟩, ⟨r1, true, oV 31 (ring.map vPt) d1⟩]) ⟨?_⟩ ?_
  · (repeat' (first | (refine o_callV st rfl (q _ _ _ (RdV.of (st.heap (by repeat constructor)))) rfl ?_; clear st; intro _ _ st)  | refine c_seq ?_  | refine c_region ?_  | refine l_do ?_  | refine l_doG st rfl rfl ?_  | refine l_nil ?_  | refine x_then ?_  | refine x_thenE ?_  | refine x_blkN ?_  | refine x_blkE ?_  | refine wp_ret ?_  | refine wp_skip ?_  | refine wp_block ?_  | refine wp_exit ?_  | refine c_condT st rfl ?_  | refine c_condF st rfl ?_  | ((first | refine o_move st rfl rfl ?_  | refine o_assign st rfl rfl ?_  | refine o_pickT st rfl rfl rfl ?_ ); clear st; intro _ st)  | (refine o_alloc st rfl ?_; clear st; intro _ _ _ st)  | ((first | refine o_loadS st rfl (by repeat constructor) rfl rfl ?_  | refine o_load2 st rfl (by repeat constructor) rfl ?_ ); clear st; intro _ st)  | ((first | refine o_storeW st rfl rfl (by repeat constructor) rfl rfl rfl ?_); clear st; intro _ _ st)  | ((first | refine o_extract st rfl rfl rfl ?_  | refine o_add64 st rfl rfl rfl (by omega) (by omega) ?_  | refine o_sub64 st rfl rfl rfl (by omega) (by omega) ?_); clear st; intro _ st)  | ((first | refine o_intFloat st rfl rfl ?_); clear st; intro _ st)  | ((first | refine o_lss st rfl rfl rfl ?_ ?_  | refine o_geq st rfl rfl rfl ?_ ?_  | refine o_eqlI st rfl rfl rfl ?_ ?_) <;> clear st <;> intro _ _ st <;> (try (exfalso; omega))) ))
    exact ⟨rfl, (st.fit (by repeat (first | exact trivial  | refine And.intro rfl ?_))).subL (by repeat (first | exact List.Sublist.refl _  | apply List.Sublist.cons_cons  | apply List.Sublist.cons  | exact List.nil_sublist _))⟩
  clear st
  rintro _ _ st
  refine c_meet (fun a w' => ∃ (c : List Kn) (b1 b2 cap1 cap2 p5 : Nat) (pad1 pad2 : List Value), 2 ≤ c.length ∧ c.length ≤ 5 ∧ (∀ k ∈ c, BK 19 k) ∧ St w Try.f4.ntmps a w' [(13, .float .f32 (d.s n)), (14, .bool true), (15, .float .f32 (d.s' n)), (16, .bool true), (17, .int .i64 1), (18, .bool true), (19, .int .i64 0), (20, .bool true), (21, .int .i64 (-1)), (22, .bool true), (23, .float .f32 d.a1), (24, .bool true), (25, .float .f32 d.a2), (26, .bool true), (27, .float .f32 d.a3), (28, .bool true), (29, .pointer (some ⟨p5, 0, none⟩))] [eP p5 (.slice (some ⟨b1, 0, none⟩) c.length cap1) (.slice (some ⟨b2, 0, none⟩) c.length cap2), ⟨b1, true, oV 31 (c.map vPt) pad1⟩, ⟨b2, true, oV 29 (c.map vWt) pad2⟩]) ⟨?_⟩ ?_
  · (repeat' (first | (refine o_callR st rfl (cA 3 (by omega) 4 (by omega) _ (hr'.mono st.below)) rfl ?_; clear st; rintro _ ⟨x, rfl, hx⟩ _ _ st)  | refine c_seq ?_  | refine c_region ?_  | refine l_do ?_  | refine l_doG st rfl rfl ?_  | refine l_nil ?_  | refine x_then ?_  | refine x_thenE ?_  | refine x_blkN ?_  | refine x_blkE ?_  | refine wp_ret ?_  | refine wp_skip ?_  | refine wp_block ?_  | refine wp_exit ?_  | refine c_condT st rfl ?_  | refine c_condF st rfl ?_  | ((first | refine o_move st rfl rfl ?_  | refine o_assign st rfl rfl ?_  | refine o_pickT st rfl rfl rfl ?_ ); clear st; intro _ st)  | (refine o_alloc st rfl ?_; clear st; intro _ _ _ st)  | ((first | refine o_loadS st rfl (by repeat constructor) rfl rfl ?_  | refine o_load2 st rfl (by repeat constructor) rfl ?_ ); clear st; intro _ st)  | ((first | refine o_storeW st rfl rfl (by repeat constructor) rfl rfl rfl ?_); clear st; intro _ _ st)  | ((first | refine o_extract st rfl rfl rfl ?_  | refine o_add64 st rfl rfl rfl (by omega) (by omega) ?_  | refine o_sub64 st rfl rfl rfl (by omega) (by omega) ?_); clear st; intro _ st)  | ((first | refine o_intFloat st rfl rfl ?_); clear st; intro _ st)  | ((first | refine o_lss st rfl rfl rfl ?_ ?_  | refine o_geq st rfl rfl rfl ?_ ?_  | refine o_eqlI st rfl rfl rfl ?_ ?_) <;> clear st <;> intro _ _ st <;> (try (exfalso; omega))) ))
    have e0 : (1 : Int) + (x : Int) = ((1 + x : Nat) : Int) := by omega
    rw [e0] at st
    (repeat' (first | (refine o_callM2 st rfl (cC (1 + x) (by omega) _ (hr.mono st.below)) rfl ?_; clear st; rintro _ b1 _ b2 _ ⟨c, ⟨cap1, cap2, pad1, pad2, rfl, rfl, rfl⟩, hcl, hQ⟩ _ _ st)  | (refine o_alloc (d := 29) st rfl ?_; clear st; intro p5 _ _ st)  | refine c_seq ?_  | refine c_region ?_  | refine l_do ?_  | refine l_doG st rfl rfl ?_  | refine l_nil ?_  | refine x_then ?_  | refine x_thenE ?_  | refine x_blkN ?_  | refine x_blkE ?_  | refine wp_ret ?_  | refine wp_skip ?_  | refine wp_block ?_  | refine wp_exit ?_  | refine c_condT st rfl ?_  | refine c_condF st rfl ?_  | ((first | refine o_move st rfl rfl ?_  | refine o_assign st rfl rfl ?_  | refine o_pickT st rfl rfl rfl ?_ ); clear st; intro _ st)  | (refine o_alloc st rfl ?_; clear st; intro _ _ _ st)  | ((first | refine o_loadS st rfl (by repeat constructor) rfl rfl ?_  | refine o_load2 st rfl (by repeat constructor) rfl ?_ ); clear st; intro _ st)  | ((first | refine o_storeW st rfl rfl (by repeat constructor) rfl rfl rfl ?_); clear st; intro _ _ st)  | ((first | refine o_extract st rfl rfl rfl ?_  | refine o_add64 st rfl rfl rfl (by omega) (by omega) ?_  | refine o_sub64 st rfl rfl rfl (by omega) (by omega) ?_); clear st; intro _ st)  | ((first | refine o_intFloat st rfl rfl ?_); clear st; intro _ st)  | ((first | refine o_lss st rfl rfl rfl ?_ ?_  | refine o_geq st rfl rfl rfl ?_ ?_  | refine o_eqlI st rfl rfl rfl ?_ ?_) <;> clear st <;> intro _ _ st <;> (try (exfalso; omega))) ))
    exact ⟨rfl, c, b1, b2, cap1, cap2, p5, pad1, pad2, by omega, by omega, fun k hk => (hQ k hk).mono (by omega), (st.fit (by repeat (first | exact trivial  | refine And.intro rfl ?_))).subL (by repeat (first | exact List.Sublist.refl _  | apply List.Sublist.cons_cons  | apply List.Sublist.cons  | exact List.nil_sublist _))⟩
  clear st
  rintro _ _ ⟨c, b1, b2, cap1, cap2, p5, pad1, pad2, hc2, hc5, hQ, st⟩
  obtain ⟨e, he⟩ := hlaw c hc2 hc5 hQ
  have q := fun v w hv => AreaUnder_ok c 12 e.ts e.ks he.p1 e.u he.u.1 he.u.2 v w hv
  refine c_meet (fun a w' => St w Try.f4.ntmps a w' [(13, .float .f32 (d.s n)), (14, .bool true), (15, .float .f32 (d.s' n)), (16, .bool true), (17, .int .i64 1), (18, .bool true), (19, .int .i64 0), (20, .bool true), (21, .int .i64 (-1)), (22, .bool true), (23, .float .f32 d.a1), (24, .bool true), (25, .float .f32 d.a2), (26, .bool true), (27, .float .f32 d.a3), (28, .bool true), (29, .pointer (some ⟨p5, 0, none⟩)), (30, .float .f32 e.u), (31, .bool true)] [eP p5 (.slice (some ⟨b1, 0, none⟩) c.length cap1) (.slice (some ⟨b2, 0, none⟩) c.length cap2), ⟨b1, true, oV 31 (c.map vPt) pad1⟩, ⟨b2, true, oV 29 (c.map vWt) pad2⟩]) ⟨?_⟩ ?_
  · (repeat' (first | (refine o_callV st rfl (q _ _ (crv_own (st.heap (by repeat constructor)) (st.heap (by repeat constructor)))) rfl ?_; clear st; intro _ _ st)  | refine c_seq ?_  | refine c_region ?_  | refine l_do ?_  | refine l_doG st rfl rfl ?_  | refine l_nil ?_  | refine x_then ?_  | refine x_thenE ?_  | refine x_blkN ?_  | refine x_blkE ?_  | refine wp_ret ?_  | refine wp_skip ?_  | refine wp_block ?_  | refine wp_exit ?_  | refine c_condT st rfl ?_  | refine c_condF st rfl ?_  | ((first | refine o_move st rfl rfl ?_  | refine o_assign st rfl rfl ?_  | refine o_pickT st rfl rfl rfl ?_ ); clear st; intro _ st)  | (refine o_alloc st rfl ?_; clear st; intro _ _ _ st)  | ((first | refine o_loadS st rfl (by repeat constructor) rfl rfl ?_  | refine o_load2 st rfl (by repeat constructor) rfl ?_ ); clear st; intro _ st)  | ((first | refine o_storeW st rfl rfl (by repeat constructor) rfl rfl rfl ?_); clear st; intro _ _ st)  | ((first | refine o_extract st rfl rfl rfl ?_  | refine o_add64 st rfl rfl rfl (by omega) (by omega) ?_  | refine o_sub64 st rfl rfl rfl (by omega) (by omega) ?_); clear st; intro _ st)  | ((first | refine o_intFloat st rfl rfl ?_); clear st; intro _ st)  | ((first | refine o_lss st rfl rfl rfl ?_ ?_  | refine o_geq st rfl rfl rfl ?_ ?_  | refine o_eqlI st rfl rfl rfl ?_ ?_) <;> clear st <;> intro _ _ st <;> (try (exfalso; omega))) ))
    exact ⟨rfl, (st.fit (by repeat (first | exact trivial  | refine And.intro rfl ?_))).subL (by repeat (first | exact List.Sublist.refl _  | apply List.Sublist.cons_cons  | apply List.Sublist.cons  | exact List.nil_sublist _))⟩
  clear st
  rintro _ _ st
  have q := fun v w hv => SBackCurve_ok c he.p1.gc v w hv
  refine c_meet (fun a w' => ∃ (b3 b4 cap3 cap4 p6 : Nat) (pad3 pad4 : List Value), St w Try.f4.ntmps a w' [(13, .float .f32 (d.s n)), (14, .bool true), (15, .float .f32 (d.s' n)), (16, .bool true), (17, .int .i64 1), (18, .bool true), (19, .int .i64 0), (20, .bool true), (21, .int .i64 (-1)), (22, .bool true), (23, .float .f32 d.a1), (24, .bool true), (25, .float .f32 d.a2), (26, .bool true), (27, .float .f32 d.a3), (28, .bool true), (30, .float .f32 e.u), (31, .bool true), (32, .pointer (some ⟨p6, 0, none⟩)), (33, .bool true)] [eP p6 (.slice (some ⟨b3, 0, none⟩) c.reverse.length cap3) (.slice (some ⟨b4, 0, none⟩) c.reverse.length cap4), ⟨b3, true, oV 31 (c.reverse.map vPt) pad3⟩, ⟨b4, true, oV 29 (c.reverse.map vWt) pad4⟩]) ⟨?_⟩ ?_
  · (repeat' (first | (refine o_callM2 st rfl (q _ _ (crv_own (st.heap (by repeat constructor)) (st.heap (by repeat constructor)))) rfl ?_; clear st; rintro _ b3 _ b4 _ ⟨_, rfl, cap3, cap4, pad3, pad4, rfl, rfl, rfl⟩ _ _ st)  | (refine o_alloc (d := 32) st rfl ?_; clear st; intro p6 _ _ st)  | refine c_seq ?_  | refine c_region ?_  | refine l_do ?_  | refine l_doG st rfl rfl ?_  | refine l_nil ?_  | refine x_then ?_  | refine x_thenE ?_  | refine x_blkN ?_  | refine x_blkE ?_  | refine wp_ret ?_  | refine wp_skip ?_  | refine wp_block ?_  | refine wp_exit ?_  | refine c_condT st rfl ?_  | refine c_condF st rfl ?_  | ((first | refine o_move st rfl rfl ?_  | refine o_assign st rfl rfl ?_  | refine o_pickT st rfl rfl rfl ?_ ); clear st; intro _ st)  | (refine o_alloc st rfl ?_; clear st; intro _ _ _ st)  | ((first | refine o_loadS st rfl (by repeat constructor) rfl rfl ?_  | refine o_load2 st rfl (by repeat constructor) rfl ?_ ); clear st; intro _ st)  | ((first | refine o_storeW st rfl rfl (by repeat constructor) rfl rfl rfl ?_); clear st; intro _ _ st)  | ((first | refine o_extract st rfl rfl rfl ?_  | refine o_add64 st rfl rfl rfl (by omega) (by omega) ?_  | refine o_sub64 st rfl rfl rfl (by omega) (by omega) ?_); clear st; intro _ st)  | ((first | refine o_intFloat st rfl rfl ?_); clear st; intro _ st)  | ((first | refine o_lss st rfl rfl rfl ?_ ?_  | refine o_geq st rfl rfl rfl ?_ ?_  | refine o_eqlI st rfl rfl rfl ?_ ?_) <;> clear st <;> intro _ _ st <;> (try (exfalso; omega))) ))
    exact ⟨rfl, b3, b4, cap3, cap4, p6, pad3, pad4, (st.fit (by repeat (first | exact trivial  | refine And.intro rfl ?_))).subL (by repeat (first | exact List.Sublist.refl _  | apply List.Sublist.cons_cons  | apply List.Sublist.cons  | exact List.nil_sublist _))⟩
  clear st
  rintro _ _ ⟨b3, b4, cap3, cap4, p6, pad3, pad4, st⟩
  have q := fun v w hv => AreaUnder_ok c.reverse 12 e.ts e.ms he.p2 e.o he.o.1 he.o.2 v w hv
  refine c_meet (fun a w' => St w Try.f4.ntmps a w' [(13, .float .f32 (d.s n)), (14, .bool true), (15, .float .f32 (d.s' n)), (16, .bool true), (17, .int .i64 1), (18, .bool true), (19, .int .i64 0), (20, .bool true), (21, .int .i64 (-1)), (22, .bool true), (23, .float .f32 d.a1), (24, .bool true), (25, .float .f32 d.a2), (26, .bool true), (27, .float .f32 d.a3), (28, .bool true), (30, .float .f32 e.u), (31, .bool true), (32, .pointer (some ⟨p6, 0, none⟩)), (33, .bool true), (34, .float .f32 e.o), (35, .bool true)] [eP p6 (.slice (some ⟨b3, 0, none⟩) c.reverse.length cap3) (.slice (some ⟨b4, 0, none⟩) c.reverse.length cap4), ⟨b3, true, oV 31 (c.reverse.map vPt) pad3⟩, ⟨b4, true, oV 29 (c.reverse.map vWt) pad4⟩]) ⟨?_⟩ ?_
  · (repeat' (first | (refine o_callV st rfl (q _ _ (crv_own (st.heap (by repeat constructor)) (st.heap (by repeat constructor)))) rfl ?_; clear st; intro _ _ st)  | refine c_seq ?_  | refine c_region ?_  | refine l_do ?_  | refine l_doG st rfl rfl ?_  | refine l_nil ?_  | refine x_then ?_  | refine x_thenE ?_  | refine x_blkN ?_  | refine x_blkE ?_  | refine wp_ret ?_  | refine wp_skip ?_  | refine wp_block ?_  | refine wp_exit ?_  | refine c_condT st rfl ?_  | refine c_condF st rfl ?_  | ((first | refine o_move st rfl rfl ?_  | refine o_assign st rfl rfl ?_  | refine o_pickT st rfl rfl rfl ?_ ); clear st; intro _ st)  | (refine o_alloc st rfl ?_; clear st; intro _ _ _ st)  | ((first | refine o_loadS st rfl (by repeat constructor) rfl rfl ?_  | refine o_load2 st rfl (by repeat constructor) rfl ?_ ); clear st; intro _ st)  | ((first | refine o_storeW st rfl rfl (by repeat constructor) rfl rfl rfl ?_); clear st; intro _ _ st)  | ((first | refine o_extract st rfl rfl rfl ?_  | refine o_add64 st rfl rfl rfl (by omega) (by omega) ?_  | refine o_sub64 st rfl rfl rfl (by omega) (by omega) ?_); clear st; intro _ st)  | ((first | refine o_intFloat st rfl rfl ?_); clear st; intro _ st)  | ((first | refine o_lss st rfl rfl rfl ?_ ?_  | refine o_geq st rfl rfl rfl ?_ ?_  | refine o_eqlI st rfl rfl rfl ?_ ?_) <;> clear st <;> intro _ _ st <;> (try (exfalso; omega))) ))
    exact ⟨rfl, (st.fit (by repeat (first | exact trivial  | refine And.intro rfl ?_))).subL (by repeat (first | exact List.Sublist.refl _  | apply List.Sublist.cons_cons  | apply List.Sublist.cons  | exact List.nil_sublist _))⟩
  clear st
  rintro _ _ st
  obtain ⟨f_b1, i_b1⟩ := e_b1
  obtain ⟨f_b2, i_b2⟩ := e_b2
  rw [h_lr] at f_b1
  rw [h_lb] at f_b2
  obtain ⟨f_c1, i_c1, j_c1⟩ := h.c1
  obtain ⟨f_c2, i_c2⟩ := h.c2
  obtain ⟨f_c3, i_c3⟩ := h.c3
  obtain ⟨f_u, i_u⟩ := he.c1
  obtain ⟨f_o, i_o⟩ := he.c2
  have q1 := fun w => b10Gap_ok _ _ _ h.y1.1 i_b1 i64_one w
  have q2 := fun w => b10Gap_ok _ _ _ h.y2.1 i_b2 i64_mone w
  have q3 := fun w => b10Gap_ok _ _ _ h.y3.1 i_c2 i_c1 w
  have q4 := fun w => b10Gap_ok _ _ _ h.y4.1 i_c3 j_c1 w
  have q5 := fun w => b10Gap_ok _ _ _ he.y.1 i_u i_o w
  have l1 := h.y1.2
  have l2 := h.y2.2
  have l3 := h.y3.2
  have l4 := h.y4.2
  have l5 := he.y.2
  obtain ⟨i_p1, p_1⟩ := h.p1
  (repeat' (first | (refine o_callV st rfl (q1 _) rfl ?_; clear st; intro _ _ st)  | (refine o_callV st rfl (q2 _) rfl ?_; clear st; intro _ _ st)  | (refine o_callV st rfl (q3 _) rfl ?_; clear st; intro _ _ st)  | (refine o_callV st rfl (q4 _) rfl ?_; clear st; intro _ _ st)  | (refine o_callV st rfl (q5 _) rfl ?_; clear st; intro _ _ st)  | (refine o_fcvW st rfl f_b1 rfl ?_; clear st; intro _ st)  | (refine o_fcvW st rfl f_b2 rfl ?_; clear st; intro _ st)  | (refine o_fcvW st rfl f_c1 rfl ?_; clear st; intro _ st)  | (refine o_fcvW st rfl f_c2 rfl ?_; clear st; intro _ st)  | (refine o_fcvW st rfl f_c3 rfl ?_; clear st; intro _ st)  | (refine o_fcvW st rfl f_u rfl ?_; clear st; intro _ st)  | (refine o_fcvW st rfl f_o rfl ?_; clear st; intro _ st)  | (refine o_fneg st rfl rfl ?_; clear st; intro _ st)  | (refine o_fgtrW st rfl rfl i_p1 i32_0 p_1 rfl ?_; clear st; intro _ st)  | (refine o_flssW st rfl rfl l1.is i64_001 l1.lt rfl ?_; clear st; intro _ st)  | (refine o_flssW st rfl rfl l2.is i64_001 l2.lt rfl ?_; clear st; intro _ st)  | (refine o_flssW st rfl rfl l4.is i64_001 l4.lt rfl ?_; clear st; intro _ st)  | (refine o_flssW st rfl rfl l3.is i64_01 l3.lt rfl ?_; clear st; intro _ st)  | (refine o_flssW st rfl rfl l5.is i64_01 l5.lt rfl ?_; clear st; intro _ st)  | refine c_seq ?_  | refine c_region ?_  | refine l_do ?_  | refine l_doG st rfl rfl ?_  | refine l_nil ?_  | refine x_then ?_  | refine x_thenE ?_  | refine x_blkN ?_  | refine x_blkE ?_  | refine wp_ret ?_  | refine wp_skip ?_  | refine wp_block ?_  | refine wp_exit ?_  | refine c_condT st rfl ?_  | refine c_condF st rfl ?_  | ((first | refine o_move st rfl rfl ?_  | refine o_assign st rfl rfl ?_  | refine o_pickT st rfl rfl rfl ?_ ); clear st; intro _ st)  | (refine o_alloc st rfl ?_; clear st; intro _ _ _ st)  | ((first | refine o_loadS st rfl (by repeat constructor) rfl rfl ?_  | refine o_load2 st rfl (by repeat constructor) rfl ?_ ); clear st; intro _ st)  | ((first | refine o_storeW st rfl rfl (by repeat constructor) rfl rfl rfl ?_); clear st; intro _ _ st)  | ((first | refine o_extract st rfl rfl rfl ?_  | refine o_add64 st rfl rfl rfl (by omega) (by omega) ?_  | refine o_sub64 st rfl rfl rfl (by omega) (by omega) ?_); clear st; intro _ st)  | ((first | refine o_intFloat st rfl rfl ?_); clear st; intro _ st)  | ((first | refine o_lss st rfl rfl rfl ?_ ?_  | refine o_geq st rfl rfl rfl ?_ ?_  | refine o_eqlI st rfl rfl rfl ?_ ?_) <;> clear st <;> intro _ _ st <;> (try (exfalso; omega))) ))
  refine post1 st Try.results4 (rd_t st rfl) ?_
  exact ⟨rfl, st.ex0⟩
end Go.Proofs.Ytonbcbhnnflohaa
