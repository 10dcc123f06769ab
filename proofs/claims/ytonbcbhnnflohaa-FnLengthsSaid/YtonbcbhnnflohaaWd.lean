/-
  FnLengths: the law's walk over words. (printed by a program)
-/
import Derived.Test.YtonbcbhnnflohaaWb
import Derived.Test.YtonbcbhnnflohaaWc
namespace Go.Proofs.Ytonbcbhnnflohaa
open Go.RowKit

section
variable {P : Program} {w0 w : World} {N : Nat} {a : Act} {E : List (Nat × Value)} {L Lh : List Ent}
theorem v_gtrR {x y : Operand} {t ys : TypeId} {k : IntKind} {i j : Int} {r : Bool} (st : St w0 N a w E L) (hx : evE E x = some (.int k i)) (hy : evE E y = some (.int k j)) (hr : decide (i > j) = r) : Vl P a Lh (.binOp .gtr t x y ys) (.bool r) := by
  intro d ty pos aft g w' _
  subst hr
  simp [execOp, evE_eval st hx, evE_eval st hy, binOp_gtr, eqGuard_gtr]
end
section
variable {P : Program} {w0 w : World} {N : Nat} {a : Act} {E : List (Nat × Value)} {L Lh : List Ent}
theorem v_fcvW {x : Operand} {src dst : TypeId} {s k : FloatKind} {i r : Nat} [hs : FloatT P src s] [hk : FloatT P dst k] (st : St w0 N a w E L) (hx : evE E x = some (.float s i)) (hr : floatToFloatBits s i k = some r) : Vl P a Lh (.convert src dst x) (.float k r) := by
  intro d ty pos aft g w' _
  simp only [execOp, evE_eval st hx, Sem.run_bind, Sem.run_pure, Result.andThen_ok, run_convert_float_float w' src dst s k i r (by simp [hs.u]) hk.u hr]
end
abbrev near0 : Nat := 1031798784
theorem near0_wt : Wt near0 := ⟨⟨Is_lit (by decide +kernel), 0, by decide +kernel, by decide +kernel⟩, by decide +kernel⟩
/-- The points, the lengths, the sums of a curve in pieces. -/
structure ChD where
  ts : List Nat
  ks : List Kn
  ls : List Nat
  s : Nat → Nat
structure ChOk (c : List Kn) (n : Nat) (d : ChD) : Prop where
  p : PtsOk c n d.ts d.ks
  g : GapsOk d.ks d.ls
  s : SumsOk d.ls d.s
  f : ∀ k, k ≤ n → Gd (d.s k)
theorem ChOk.len {c : List Kn} {n : Nat} {d : ChD} (h : ChOk c n d) : d.ls.length = n := by
  have h1 := h.g.len
  have h2 := h.p.lk
  omega
/-- A number from 0 to 1. -/
structure In01 (x : Nat) : Prop where
  lo : fltB .f32 (some x) (some 0) = false
  hi : fgtB .f32 (some x) (some 1065353216) = false
structure FlD where
  C : ChD
  fl : List Nat
  fs : Nat → Nat
  nv : Nat
  np : Nat
  eu : Nat
  ev : Nat
  el : Nat
  e6 : Nat
  x6 : Nat
  f6 : Nat
  n6 : Nat
  hi : Nat
  lo : Nat
structure FlOk (c : List Kn) (n : Nat) (d : FlD) : Prop where
  gc : GC c
  ch : ChOk c n d.C
  fg : GapsOk c d.fl
  fs : SumsOk d.fl d.fs
  ff : Gd (d.fs d.fl.length)
  nr : LookR near0 8 c 0 0 d.nv d.np
  ng : Gd d.nv
  np : 1 ≤ d.np ∧ d.np ≤ 256
  eu : ∀ (_ : c.length - 1 < c.length) (_ : 0 < c.length), fop .sub .f32 (some c[c.length - 1].1) (some c[0].1) = some d.eu
  ev : ∀ (_ : c.length - 1 < c.length) (_ : 0 < c.length), fop .sub .f32 (some c[c.length - 1].2.1) (some c[0].2.1) = some d.ev
  el : longW d.eu d.ev = some d.el
  e6 : cvW .f32 d.el .f64 = some d.e6
  x6 : cvW .f32 (d.C.s n) .f64 = some d.x6
  f6 : cvW .f32 (d.fs d.fl.length) .f64 = some d.f6
  n6 : cvW .f32 d.nv .f64 = some d.n6
  ix : Is .f64 d.x6 (some d.x6)
  in_ : Is .f64 d.n6 (some d.n6)
  hi : fop .add .f64 (some d.f6) (some 4562254508917369340) = some d.hi
  lo : fop .sub .f64 (some d.e6) (some 4562254508917369340) = some d.lo
  b1 : fgtB .f64 (some d.x6) (some d.hi) = false
  b2 : fltB .f64 (some d.x6) (some d.lo) = false
  b3 : fgtB .f64 (some d.n6) (some d.hi) = false
  b4 : fltB .f64 (some d.n6) (some d.lo) = false
  t0 : ∀ k, k ≤ n → fltB .f32 (some (d.C.s k)) (some 0) = false
  t1 : ∀ k, 0 < k → k ≤ n → fltB .f32 (some (d.C.s k)) (some (d.C.s (k - 1))) = false
/-- Even times. -/
structure EvD where
  sh : Nat → Nat
  D : Nat → TmD
  H : TmD
  w : Nat
  g : Nat
structure EvOk (s : Nat → Nat) (n m : Nat) (d : EvD) : Prop where
  sh : ∀ k, k < m → shareW (k : Nat) ((m : Int) - 1) = some (d.sh k)
  D : ∀ k, k < m → TmOk s n (d.sh k) (d.D k)
  H : TmOk s n 1056964608 d.H
  h01 : In01 d.H.t
  z : feqB .f32 (some (d.D 0).t) (some 0) = true
  w : cvW .f32 (d.D (m - 1)).t .f64 = some d.w
  iw : Is .f64 d.w (some d.w)
  g : gapW d.w 4607182418800017408 = some d.g
  gl : LeD d.g 4562254508917369340
  t01 : ∀ k, k < m → In01 (d.D k).t
  up : ∀ k, 0 < k → k < m → fltB .f32 (some (d.D k).t) (some (d.D (k - 1)).t) = false
/-- A line. -/
structure LnD where
  C : ChD
  x : Nat
  u : Nat
  v : Nat
  l : Nat
  y : Nat
  g : Nat
structure LnOk (c : List Kn) (n : Nat) (d : LnD) : Prop where
  ch : ChOk c n d.C
  x : cvW .f32 (d.C.s n) .f64 = some d.x
  u : ∀ (_ : 1 < c.length) (_ : 0 < c.length), fop .sub .f32 (some c[1].1) (some c[0].1) = some d.u
  v : ∀ (_ : 1 < c.length) (_ : 0 < c.length), fop .sub .f32 (some c[1].2.1) (some c[0].2.1) = some d.v
  l : longW d.u d.v = some d.l
  y : cvW .f32 d.l .f64 = some d.y
  ix : Is .f64 d.x (some d.x)
  iy : Is .f64 d.y (some d.y)
  g : gapW d.x d.y = some d.g
  gl : LtD d.g 4562254508917369340
theorem i64_1' : Is .f64 4607182418800017408 (some 4607182418800017408) := Is_lit (by decide +kernel)
attribute [local irreducible] Code.wp wpList Oper.wp Calls bodyPost Exit.then Exit.inBlock
attribute [local irreducible] fop fltB fgtB feqB fleB fgeB floatOfInt floatToFloatBits longW

theorem ext_bits32 (x : Nat) (w : World) : (callFunc 135 [.float .f32 x].toArray).run Try.prog w = .ok (.value (.int .u32 (x : Int))) w := by
  rw [run_callFunc_extern (fn := Try.f135) (e := Extern.MathFloatBits.float32bits) Try.func135 (by kernel_rfl) (by kernel_rfl) (by kernel_rfl) (by kernel_rfl)]
  rfl
theorem Bits_ok (x : Nat) (ix : Is .f32 x (some x)) (w : World) : CV Try.prog 122 [.float .f32 x] w (.int .i64 (x : Int)) := by
  have hl : x < 4294967296 := ix.1
  have ew : IntKind.i64.wrap ((x : Nat) : Int) = (x : Int) := by rw [IntKind.wrap_i64]; omega
  have he := feqB_self' ix
  refine enter Try.func122 rfl rfl rfl rfl ?_
  intro y st
  (repeat' (first | (refine o_fneqW st rfl rfl ix ix he rfl ?_; clear st; intro _ st)  | (refine o_ext st rfl (ext_bits32 x _) rfl ?_; clear st; intro _ st)  | (refine o_intInt st rfl ew rfl ?_; clear st; intro _ st)  | refine c_seq ?_  | refine c_region ?_  | refine l_do ?_  | refine l_nil ?_  | refine x_then ?_  | refine wp_ret ?_  | refine wp_skip ?_  | refine c_condF st rfl ?_  | ((first | refine o_move st rfl rfl ?_  | refine o_assign st rfl rfl ?_ ); clear st; intro _ st) ))
  refine post1 st Try.results122 (rd_t st rfl) ?_
  exact ⟨rfl, st.ex0⟩
theorem SpecSame_ok (x : Nat) (ix : Is .f32 x (some x)) (w : World) : CV Try.prog 39 [.float .f32 x, .float .f32 x] w (.bool true) := by
  have c1 := fun w => Bits_ok x ix w
  have c3 : ∀ w, CV Try.prog 92 [.float .f32 x, .float .f32 x] w (.bool true) := by
    intro w
    refine enter Try.func92 rfl rfl rfl rfl ?_
    intro y st
    (repeat' (first | (refine o_callV st rfl (c1 _) rfl ?_; clear st; intro _ _ st)  | refine c_seq ?_  | refine c_region ?_  | refine l_do ?_  | refine l_nil ?_  | refine x_then ?_  | refine wp_ret ?_  | ((first | refine o_move st rfl rfl ?_  | refine o_assign st rfl rfl ?_); clear st; intro _ st)  | (refine o_eqlI st rfl rfl rfl ?_ ?_ <;> clear st <;> intro _ _ st <;> (try (exfalso; omega)))))
    refine post1 st Try.results92 (rd_t st rfl) ?_
    exact ⟨rfl, st.ex0⟩
  refine enter Try.func39 rfl rfl rfl rfl ?_
  intro y st
  (repeat' (first | (refine o_callV st rfl (c3 _) rfl ?_; clear st; intro _ _ st)  | refine c_seq ?_  | refine c_region ?_  | refine l_do ?_  | refine l_nil ?_  | refine x_then ?_  | refine wp_ret ?_  | ((first | refine o_move st rfl rfl ?_  | refine o_assign st rfl rfl ?_); clear st; intro _ st)))
  refine post1 st Try.results39 (rd_t st rfl) ?_
  exact ⟨rfl, st.ex0⟩
/-- The i-th point that is drawn. -/
def BKi (i : Nat) (k : Kn) : Prop := ∃ p j : Int, 0 ≤ p ∧ p ≤ 3 ∧ -8 ≤ j ∧ j ≤ 8 ∧ k = (qv (4 * (i : Int) + p), qv j, 1065353216)
set_option maxRecDepth 100000 in
set_option maxHeartbeats 32000000 in
theorem B10Curve2_ok (n : Nat) (hn : n ≤ 5) (cs : List Int) (hok : okB cs) (hlen : cs.length ≤ 1000000000) (base : Option Addr) (cap : Nat) (w : World) (hr : RdB w base cs) :
    CM2 Try.prog 24 [.slice base cs.length cap, .int .i64 n] w fun v b o b' o' => ∃ c, OwnC c v b o b' o' ∧ c.length = n + 1 ∧ ∀ i (_ : i < c.length), BKi i c[i] := by
  refine enter Try.func24 rfl rfl rfl rfl ?_
  intro a st
  (repeat' (first | (refine o_alloc (d := 4) st rfl ?_; clear st; intro p4 _ _ st)  | (refine o_callM1 st rfl (l00From_ok base cs.length cap _) rfl ?_; clear st; rintro _ sb _ ⟨rfl, rfl⟩ _ _ st)  | (refine o_buildSlice0 st rfl ?_; clear st; intro blk0 _ _ st)  | refine c_seq ?_  | refine c_region ?_  | refine l_do ?_  | refine l_nil ?_  | refine x_then ?_  | refine x_thenE ?_  | refine x_blkN ?_  | refine x_blkE ?_  | refine wp_ret ?_  | refine wp_skip ?_  | refine wp_block ?_  | refine wp_exit ?_  | refine c_condT st rfl ?_  | refine c_condF st rfl ?_  | ((first | refine o_move st rfl rfl ?_  | refine o_assign st rfl rfl ?_); clear st; intro _ st)  | (refine o_alloc st rfl ?_; clear st; intro _ _ _ st)  | ((first | refine o_storeW st rfl rfl (by repeat constructor) rfl rfl rfl ?_); clear st; intro _ _ st)  | ((first | refine o_add64 st rfl rfl rfl (by omega) (by omega) ?_  | refine o_sub64 st rfl rfl rfl (by omega) (by omega) ?_ ); clear st; intro _ st)  | ((first | refine o_intFloat st rfl rfl ?_); clear st; intro _ st)  | (refine o_leq st rfl rfl rfl ?_ ?_ <;> clear st <;> intro _ _ st <;> (try (exfalso; omega)))))
  refine wp_loop_ghost (fun z a w' => ∃ (k blk cp at' : Nat) (sd' : Int) (ps : List Kn) (pad : List Value), k ≤ n + 1 ∧ z = n + 1 - k ∧ ps.length = k ∧ (∀ i (_ : i < ps.length), BKi i ps[i]) ∧ (ps.map vPt ++ pad).length = cp ∧ at' ≤ 4 * k ∧ St w Try.f24.ntmps a w' [(1, .int .i64 n), (4, .pointer (some ⟨p4, 0, none⟩)), (5, .pointer (some ⟨sb, 0, none⟩)), (6, .slice (some ⟨blk, 0, none⟩) k cp), (7, .int .i64 (k : Nat))] (⟨blk, true, oV 31 (ps.map vPt) pad⟩ :: ⟨sb, true, oSrc base cs.length cap at' sd'⟩ :: eP p4 (.slice none 0 0) (.slice none 0 0) :: [])) (n + 1) ⟨0, blk0, 0, 0, 0, [], [], by omega, by omega, rfl, by simp, rfl, by omega, (st.fit (by repeat (first | exact trivial  | refine And.intro rfl ?_))).subL (by repeat (first | exact List.Sublist.refl _  | apply List.Sublist.cons_cons  | apply List.Sublist.cons  | exact List.nil_sublist _))⟩ ?_
  clear st
  rintro z a w' ⟨k, blk, cp, at', sd', ps, pad, hk, rfl, hpl, hQ, hp, hat', st⟩
  by_cases hlt : k < n + 1
  · have hq : ∀ x : Nat, (x : Int) < 4 → fop .quo .f32 (some (floatOfInt .f32 (4 * (k : Int) + (x : Int)))) (some 1082130432) = some (qv (4 * (k : Int) + (x : Int))) := fun x hx => qB_ok (by omega) (by omega)
    have hq2 : ∀ x : Nat, (x : Int) < 17 → fop .quo .f32 (some (floatOfInt .f32 ((x : Int) - 8))) (some 1082130432) = some (qv ((x : Int) - 8)) := fun x hx => qB_ok (by omega) (by omega)
    (repeat' (first | (refine o_mul64 st rfl rfl rfl (by omega) (by omega) ?_; clear st; intro _ st)  | (refine o_callUX (L' := fun o' => ⟨blk, true, oV 31 (ps.map vPt) pad⟩ :: ⟨sb, true, o'⟩ :: _ :: []) st rfl (pick_ok 4 (by omega) cs hok hlen base cap at' (by omega) sd' sb _ (hr.mono st.below) (st.heap (by repeat constructor))) (fun o' => Upd.there Upd.here) rfl ?_; clear st; rintro _ _ ⟨x, at1, sd1, rfl, hx, hax, hax2, rfl⟩ _ _ st)  | (refine o_fopK st rfl rfl (hq x hx) rfl ?_; clear st; intro _ st)  | (refine o_callUX (L' := fun o' => ⟨blk, true, oV 31 (ps.map vPt) pad⟩ :: ⟨sb, true, o'⟩ :: _ :: []) st rfl (pick_ok 17 (by omega) cs hok hlen base cap at1 (by omega) sd1 sb _ (hr.mono st.below) (st.heap (by repeat constructor))) (fun o' => Upd.there Upd.here) rfl ?_; clear st; rintro _ _ ⟨y, at2, sd2, rfl, hy, hay, hay2, rfl⟩ _ _ st)  | (refine o_fopK st rfl rfl (hq2 y hy) rfl ?_; clear st; intro _ st)  | (refine o_complex st rfl rfl rfl ?_; clear st; intro _ st)  | (refine o_buildSlice st rfl rfl rfl rfl rfl rfl ?_; clear st; intro _ _ _ st)  | (refine o_append1V rfl st rfl rfl (by repeat constructor) (by repeat constructor) (by rw [List.length_map]; exact hpl) hp rfl (by omega) rfl ?_; clear st; intro blk1 cap1 pad1 _ _ hp1 st)  | refine c_seq ?_  | refine c_region ?_  | refine l_do ?_  | refine l_nil ?_  | refine x_then ?_  | refine x_thenE ?_  | refine x_blkN ?_  | refine x_blkE ?_  | refine wp_ret ?_  | refine wp_skip ?_  | refine wp_block ?_  | refine wp_exit ?_  | refine c_condT st rfl ?_  | refine c_condF st rfl ?_  | ((first | refine o_move st rfl rfl ?_  | refine o_assign st rfl rfl ?_); clear st; intro _ st)  | (refine o_alloc st rfl ?_; clear st; intro _ _ _ st)  | ((first | refine o_storeW st rfl rfl (by repeat constructor) rfl rfl rfl ?_); clear st; intro _ _ st)  | ((first | refine o_add64 st rfl rfl rfl (by omega) (by omega) ?_  | refine o_sub64 st rfl rfl rfl (by omega) (by omega) ?_ ); clear st; intro _ st)  | ((first | refine o_intFloat st rfl rfl ?_); clear st; intro _ st)  | (refine o_leq st rfl rfl rfl ?_ ?_ <;> clear st <;> intro _ _ st <;> (try (exfalso; omega)))))
    have e2 := map_one ps (qv (4 * (k : Int) + (x : Int)), qv ((y : Int) - 8), 1065353216) vPt
    refine ⟨n + 1 - (k + 1), by omega, k + 1, blk1, cap1, at2, sd2, ps ++ [(qv (4 * (k : Int) + (x : Int)), qv ((y : Int) - 8), 1065353216)], pad1, by omega, rfl, by simp [hpl], ?_, by rw [← e2]; exact hp1, by omega, ?_⟩
    · intro i hi
      by_cases hik : i < ps.length
      · rw [List.getElem_append_left hik]
        exact hQ i hik
      · obtain rfl : i = k := by simp at hi; omega
        rw [List.getElem_append_right (by omega)]
        simp only [hpl, Nat.sub_self, List.getElem_cons_zero]
        exact ⟨(x : Int), (y : Int) - 8, by omega, by omega, by omega, by omega, rfl⟩
    · rw [← e2]
      exact (st.fit (by repeat (first | exact trivial  | refine And.intro rfl ?_))).subL (by repeat (first | exact List.Sublist.refl _  | apply List.Sublist.cons_cons  | apply List.Sublist.cons  | exact List.nil_sublist _))
  · obtain rfl : k = n + 1 := by omega
    have hps : ∀ k ∈ ps, k.2.2 = 1065353216 := by
      intro k hk
      obtain ⟨i, hi, rfl⟩ := List.mem_iff_getElem.1 hk
      obtain ⟨p, j, _, _, _, _, e⟩ := hQ i hi
      rw [e]
    have c1 := fun base cap w hr => l02Plain_ok ps hps (by omega) (by omega) base cap w hr
    rw [hpl] at c1
    (repeat' (first | (refine o_callM2 st rfl (c1 _ _ _ (RdV.of (st.heap (by repeat constructor)))) rfl ?_; clear st; rintro _ b1 _ b2 _ ⟨cap1, cap2, pad1, pad2, rfl, rfl, rfl⟩ _ _ st)  | refine c_seq ?_  | refine c_region ?_  | refine l_do ?_  | refine l_nil ?_  | refine x_then ?_  | refine x_thenE ?_  | refine x_blkN ?_  | refine x_blkE ?_  | refine wp_ret ?_  | refine wp_skip ?_  | refine wp_block ?_  | refine wp_exit ?_  | refine c_condT st rfl ?_  | refine c_condF st rfl ?_  | ((first | refine o_move st rfl rfl ?_  | refine o_assign st rfl rfl ?_); clear st; intro _ st)  | (refine o_alloc st rfl ?_; clear st; intro _ _ _ st)  | ((first | refine o_storeW st rfl rfl (by repeat constructor) rfl rfl rfl ?_); clear st; intro _ _ st)  | ((first | refine o_add64 st rfl rfl rfl (by omega) (by omega) ?_  | refine o_sub64 st rfl rfl rfl (by omega) (by omega) ?_ ); clear st; intro _ st)  | ((first | refine o_intFloat st rfl rfl ?_); clear st; intro _ st)  | (refine o_leq st rfl rfl rfl ?_ ?_ <;> clear st <;> intro _ _ st <;> (try (exfalso; omega)))))
    refine post1 st Try.results24 (rd_c st rfl (by repeat constructor) rfl) ?_
    have hne := st.ne_of (e1 := ⟨b1, true, oV 31 (ps.map vPt) pad1⟩) (e2 := ⟨b2, true, oV 29 (ps.map vWt) pad2⟩) rfl (by repeat (first | exact List.Sublist.refl _  | apply List.Sublist.cons_cons  | apply List.Sublist.cons  | exact List.nil_sublist _))
    exact ⟨_, b1, _, b2, _, rfl, ⟨ps, ⟨cap1, cap2, pad1, pad2, rfl, rfl, rfl⟩, hpl, hQ⟩, st.ex2 (by repeat constructor) (by repeat constructor) hne⟩
theorem FnLengths_long (n m : Nat) (hn : n ≤ 9223372036854775807) (hm : m ≤ 9223372036854775807) (hl : (decide (1048576 < n) || decide (1048576 < m)) = true) (base base' : Option Addr) (cap cap' : Nat) (w : World) :
    CV Try.prog 6 [.slice base n cap, .slice base' m cap'] w (.bool true) := by
  have cL := fun w => b10Long_ok n m cap cap' base base' hn hm w
  rw [hl] at cL
  refine enter Try.func6 rfl rfl rfl rfl ?_
  intro a st
  (repeat' (first | (refine o_callV st rfl (cL _) rfl ?_; clear st; intro _ _ st)  | refine c_seq ?_  | refine c_region ?_  | refine l_do ?_  | refine l_nil ?_  | refine x_then ?_  | refine x_thenR ?_  | refine wp_ret ?_  | refine wp_skip ?_  | refine wp_block ?_  | refine wp_exit ?_  | refine c_condT st rfl ?_  | ((first | refine o_move st rfl rfl ?_  | refine o_assign st rfl rfl ?_ ); clear st; intro _ st) ))
  refine post1 st Try.results6 (rd_t st rfl) ?_
  exact ⟨rfl, st.ex0⟩
set_option maxRecDepth 100000 in
set_option maxHeartbeats 64000000 in
theorem FnLengths_ok (hlaw : ∀ c : List Kn, 2 ≤ c.length → c.length ≤ 6 → (∀ i (_ : i < c.length), BKi i c[i]) → ∀ n, 1 ≤ n → n ≤ 16 → ∃ d, FlOk c n d ∧ ∀ m, 2 ≤ m → m ≤ 7 → ∃ e, EvOk d.C.s n m e)
    (hline : ∀ c : List Kn, c.length = 2 → (∀ i (_ : i < c.length), BKi i c[i]) → ∀ n, 1 ≤ n → n ≤ 16 → ∃ d, LnOk c n d)
    (code more : List Int) (hok : okB code) (hok' : okB more) (hlen : code.length ≤ 9223372036854775807) (hlen' : more.length ≤ 9223372036854775807) (hlong : (decide (1048576 < code.length) || decide (1048576 < more.length)) = false) (base base' : Option Addr) (cap cap' : Nat) (w : World) (hr : RdB w base code) (hr' : RdB w base' more) :
    CV Try.prog 6 [.slice base code.length cap, .slice base' more.length cap'] w (.bool true) := by
  have cL := fun w => b10Long_ok code.length more.length cap cap' base base' hlen hlen' w
  rw [hlong] at cL
  rw [Bool.or_eq_false_iff, decide_eq_false_iff_not, decide_eq_false_iff_not] at hlong
  obtain ⟨hl1, hl2⟩ := hlong
  have cC := fun n hn w hr => B10Curve2_ok n hn code hok (by omega) base cap w hr
  have cA := fun k hk (n : Int) h1 w hr => b10At_ok more hok' (by omega) base' cap' k hk n h1 w hr
  refine enter Try.func6 rfl rfl rfl rfl ?_
  intro a st
  refine c_meet (fun a w' => St w Try.f6.ntmps a w' [(0, .slice base code.length cap), (1, .slice base' more.length cap')] []) ⟨?_⟩ ?_
  · (repeat' (first | refine c_seq ?_  | refine c_region ?_  | refine l_do ?_  | refine l_doG st rfl rfl ?_  | refine l_nil ?_  | refine x_then ?_  | refine x_thenE ?_  | refine x_blkN ?_  | refine x_blkE ?_  | refine wp_ret ?_  | refine wp_skip ?_  | refine wp_block ?_  | refine wp_exit ?_  | refine c_condT st rfl ?_  | refine c_condF st rfl ?_  | ((first | refine o_move st rfl rfl ?_  | refine o_assign st rfl rfl ?_  | refine o_pickF st rfl rfl rfl ?_); clear st; intro _ st)  | (refine o_alloc st rfl ?_; clear st; intro _ _ _ st)  | ((first | refine o_loadS st rfl (by repeat constructor) rfl rfl ?_  | refine o_load2 st rfl (by repeat constructor) rfl ?_ ); clear st; intro _ st)  | ((first | refine o_storeW st rfl rfl (by repeat constructor) rfl rfl rfl ?_); clear st; intro _ _ st)  | ((first | refine o_extract st rfl rfl rfl ?_  | refine o_len st rfl rfl ?_  | refine o_add64 st rfl rfl rfl (by omega) (by omega) ?_  | refine o_sub64 st rfl rfl rfl (by omega) (by omega) ?_  | refine o_notT st rfl rfl ?_ ); clear st; intro _ st)  | ((first | refine o_lss st rfl rfl rfl ?_ ?_  | refine o_gtr st rfl rfl rfl ?_ ?_  | refine o_neqI st rfl rfl rfl ?_ ?_) <;> clear st <;> intro _ _ st <;> (try (exfalso; omega))) ))
    exact ⟨rfl, (st.fit (by repeat (first | exact trivial  | refine And.intro rfl ?_))).subL (by repeat (first | exact List.Sublist.refl _  | apply List.Sublist.cons_cons  | apply List.Sublist.cons  | exact List.nil_sublist _))⟩
  clear st
  rintro _ _ st
  refine c_meet (fun a w' => St w Try.f6.ntmps a w' [(0, .slice base code.length cap), (1, .slice base' more.length cap')] []) ⟨?_⟩ ?_
  · (repeat' (first | (refine o_callV st rfl (cL _) rfl ?_; clear st; intro _ _ st)  | refine c_seq ?_  | refine c_region ?_  | refine l_do ?_  | refine l_doG st rfl rfl ?_  | refine l_nil ?_  | refine x_then ?_  | refine x_thenE ?_  | refine x_blkN ?_  | refine x_blkE ?_  | refine wp_ret ?_  | refine wp_skip ?_  | refine wp_block ?_  | refine wp_exit ?_  | refine c_condT st rfl ?_  | refine c_condF st rfl ?_  | ((first | refine o_move st rfl rfl ?_  | refine o_assign st rfl rfl ?_  | refine o_pickF st rfl rfl rfl ?_); clear st; intro _ st)  | (refine o_alloc st rfl ?_; clear st; intro _ _ _ st)  | ((first | refine o_loadS st rfl (by repeat constructor) rfl rfl ?_  | refine o_load2 st rfl (by repeat constructor) rfl ?_ ); clear st; intro _ st)  | ((first | refine o_storeW st rfl rfl (by repeat constructor) rfl rfl rfl ?_); clear st; intro _ _ st)  | ((first | refine o_extract st rfl rfl rfl ?_  | refine o_len st rfl rfl ?_  | refine o_add64 st rfl rfl rfl (by omega) (by omega) ?_  | refine o_sub64 st rfl rfl rfl (by omega) (by omega) ?_  | refine o_notT st rfl rfl ?_ ); clear st; intro _ st)  | ((first | refine o_lss st rfl rfl rfl ?_ ?_  | refine o_gtr st rfl rfl rfl ?_ ?_  | refine o_neqI st rfl rfl rfl ?_ ?_) <;> clear st <;> intro _ _ st <;> (try (exfalso; omega))) ))
    exact ⟨rfl, (st.fit (by repeat (first | exact trivial  | refine And.intro rfl ?_))).subL (by repeat (first | exact List.Sublist.refl _  | apply List.Sublist.cons_cons  | apply List.Sublist.cons  | exact List.nil_sublist _))⟩
  clear st
  rintro _ _ st
  refine c_meet (fun a w' => ∃ (c : List Kn) (b1 b2 cap1 cap2 p5 : Nat) (pad1 pad2 : List Value), 2 ≤ c.length ∧ c.length ≤ 6 ∧ (∀ i (_ : i < c.length), BKi i c[i]) ∧ St w Try.f6.ntmps a w' [(0, .slice base code.length cap), (1, .slice base' more.length cap'), (5, .pointer (some ⟨p5, 0, none⟩))] [eP p5 (.slice (some ⟨b1, 0, none⟩) c.length cap1) (.slice (some ⟨b2, 0, none⟩) c.length cap2), ⟨b1, true, oV 31 (c.map vPt) pad1⟩, ⟨b2, true, oV 29 (c.map vWt) pad2⟩]) ⟨?_⟩ ?_
  · (repeat' (first | (refine o_callR st rfl (cA 0 (by omega) 5 (by omega) _ (hr'.mono st.below)) rfl ?_; clear st; rintro _ ⟨x, rfl, hx⟩ _ _ st)  | refine c_seq ?_  | refine c_region ?_  | refine l_do ?_  | refine l_doG st rfl rfl ?_  | refine l_nil ?_  | refine x_then ?_  | refine x_thenE ?_  | refine x_blkN ?_  | refine x_blkE ?_  | refine wp_ret ?_  | refine wp_skip ?_  | refine wp_block ?_  | refine wp_exit ?_  | refine c_condT st rfl ?_  | refine c_condF st rfl ?_  | ((first | refine o_move st rfl rfl ?_  | refine o_assign st rfl rfl ?_  | refine o_pickF st rfl rfl rfl ?_); clear st; intro _ st)  | (refine o_alloc st rfl ?_; clear st; intro _ _ _ st)  | ((first | refine o_loadS st rfl (by repeat constructor) rfl rfl ?_  | refine o_load2 st rfl (by repeat constructor) rfl ?_ ); clear st; intro _ st)  | ((first | refine o_storeW st rfl rfl (by repeat constructor) rfl rfl rfl ?_); clear st; intro _ _ st)  | ((first | refine o_extract st rfl rfl rfl ?_  | refine o_len st rfl rfl ?_  | refine o_add64 st rfl rfl rfl (by omega) (by omega) ?_  | refine o_sub64 st rfl rfl rfl (by omega) (by omega) ?_  | refine o_notT st rfl rfl ?_ ); clear st; intro _ st)  | ((first | refine o_lss st rfl rfl rfl ?_ ?_  | refine o_gtr st rfl rfl rfl ?_ ?_  | refine o_neqI st rfl rfl rfl ?_ ?_) <;> clear st <;> intro _ _ st <;> (try (exfalso; omega))) ))
    have e0 : (1 : Int) + (x : Int) = ((1 + x : Nat) : Int) := by omega
    rw [e0] at st
    (repeat' (first | (refine o_callM2 st rfl (cC (1 + x) (by omega) _ (hr.mono st.below)) rfl ?_; clear st; rintro _ b1 _ b2 _ ⟨c, ⟨cap1, cap2, pad1, pad2, rfl, rfl, rfl⟩, hcl, hQ⟩ _ _ st)  | (refine o_alloc (d := 5) st rfl ?_; clear st; intro p5 _ _ st)  | refine c_seq ?_  | refine c_region ?_  | refine l_do ?_  | refine l_doG st rfl rfl ?_  | refine l_nil ?_  | refine x_then ?_  | refine x_thenE ?_  | refine x_blkN ?_  | refine x_blkE ?_  | refine wp_ret ?_  | refine wp_skip ?_  | refine wp_block ?_  | refine wp_exit ?_  | refine c_condT st rfl ?_  | refine c_condF st rfl ?_  | ((first | refine o_move st rfl rfl ?_  | refine o_assign st rfl rfl ?_  | refine o_pickF st rfl rfl rfl ?_); clear st; intro _ st)  | (refine o_alloc st rfl ?_; clear st; intro _ _ _ st)  | ((first | refine o_loadS st rfl (by repeat constructor) rfl rfl ?_  | refine o_load2 st rfl (by repeat constructor) rfl ?_ ); clear st; intro _ st)  | ((first | refine o_storeW st rfl rfl (by repeat constructor) rfl rfl rfl ?_); clear st; intro _ _ st)  | ((first | refine o_extract st rfl rfl rfl ?_  | refine o_len st rfl rfl ?_  | refine o_add64 st rfl rfl rfl (by omega) (by omega) ?_  | refine o_sub64 st rfl rfl rfl (by omega) (by omega) ?_  | refine o_notT st rfl rfl ?_ ); clear st; intro _ st)  | ((first | refine o_lss st rfl rfl rfl ?_ ?_  | refine o_gtr st rfl rfl rfl ?_ ?_  | refine o_neqI st rfl rfl rfl ?_ ?_) <;> clear st <;> intro _ _ st <;> (try (exfalso; omega))) ))
    exact ⟨rfl, c, b1, b2, cap1, cap2, p5, pad1, pad2, by omega, by omega, hQ, (st.fit (by repeat (first | exact trivial  | refine And.intro rfl ?_))).subL (by repeat (first | exact List.Sublist.refl _  | apply List.Sublist.cons_cons  | apply List.Sublist.cons  | exact List.nil_sublist _))⟩
  clear st
  rintro _ _ ⟨c, b1, b2, cap1, cap2, p5, pad1, pad2, hc2, hc6, hQ, st⟩
  refine c_meet (fun a w' => ∃ n : Nat, 1 ≤ n ∧ n ≤ 16 ∧ St w Try.f6.ntmps a w' [(0, .slice base code.length cap), (1, .slice base' more.length cap'), (5, .pointer (some ⟨p5, 0, none⟩)), (6, .int .i64 (n : Nat))] [eP p5 (.slice (some ⟨b1, 0, none⟩) c.length cap1) (.slice (some ⟨b2, 0, none⟩) c.length cap2), ⟨b1, true, oV 31 (c.map vPt) pad1⟩, ⟨b2, true, oV 29 (c.map vWt) pad2⟩]) ⟨?_⟩ ?_
  · (repeat' (first | (refine o_callR st rfl (cA 1 (by omega) 16 (by omega) _ (hr'.mono st.below)) rfl ?_; clear st; rintro _ ⟨x, rfl, hx⟩ _ _ st)  | refine c_seq ?_  | refine c_region ?_  | refine l_do ?_  | refine l_doG st rfl rfl ?_  | refine l_nil ?_  | refine x_then ?_  | refine x_thenE ?_  | refine x_blkN ?_  | refine x_blkE ?_  | refine wp_ret ?_  | refine wp_skip ?_  | refine wp_block ?_  | refine wp_exit ?_  | refine c_condT st rfl ?_  | refine c_condF st rfl ?_  | ((first | refine o_move st rfl rfl ?_  | refine o_assign st rfl rfl ?_  | refine o_pickF st rfl rfl rfl ?_); clear st; intro _ st)  | (refine o_alloc st rfl ?_; clear st; intro _ _ _ st)  | ((first | refine o_loadS st rfl (by repeat constructor) rfl rfl ?_  | refine o_load2 st rfl (by repeat constructor) rfl ?_ ); clear st; intro _ st)  | ((first | refine o_storeW st rfl rfl (by repeat constructor) rfl rfl rfl ?_); clear st; intro _ _ st)  | ((first | refine o_extract st rfl rfl rfl ?_  | refine o_len st rfl rfl ?_  | refine o_add64 st rfl rfl rfl (by omega) (by omega) ?_  | refine o_sub64 st rfl rfl rfl (by omega) (by omega) ?_  | refine o_notT st rfl rfl ?_ ); clear st; intro _ st)  | ((first | refine o_lss st rfl rfl rfl ?_ ?_  | refine o_gtr st rfl rfl rfl ?_ ?_  | refine o_neqI st rfl rfl rfl ?_ ?_) <;> clear st <;> intro _ _ st <;> (try (exfalso; omega))) ))
    have e0 : (1 : Int) + (x : Int) = ((1 + x : Nat) : Int) := by omega
    rw [e0] at st
    exact ⟨rfl, 1 + x, by omega, by omega, (st.fit (by repeat (first | exact trivial  | refine And.intro rfl ?_))).subL (by repeat (first | exact List.Sublist.refl _  | apply List.Sublist.cons_cons  | apply List.Sublist.cons  | exact List.nil_sublist _))⟩
  clear st
  rintro _ _ ⟨n, hn1, hn16, st⟩
  obtain ⟨d, h, hev⟩ := hlaw c hc2 hc6 hQ n hn1 hn16
  have hls := h.ch.len
  have hgn := h.ch.f n (Nat.le_refl _)
  have q := fun v w hv => ChordLong_ok c n d.C.ts d.C.ks d.C.ls d.C.s h.ch.p h.ch.g h.ch.s (by rw [hls]; exact hgn) v w hv
  rw [hls] at q
  refine c_meet (fun a w' => St w Try.f6.ntmps a w' [(0, .slice base code.length cap), (1, .slice base' more.length cap'), (5, .pointer (some ⟨p5, 0, none⟩)), (6, .int .i64 (n : Nat)), (7, .float .f32 (d.C.s n)), (8, .bool true)] [eP p5 (.slice (some ⟨b1, 0, none⟩) c.length cap1) (.slice (some ⟨b2, 0, none⟩) c.length cap2), ⟨b1, true, oV 31 (c.map vPt) pad1⟩, ⟨b2, true, oV 29 (c.map vWt) pad2⟩]) ⟨?_⟩ ?_
  · (repeat' (first | (refine o_callV st rfl (q _ _ (crv_own (st.heap (by repeat constructor)) (st.heap (by repeat constructor)))) rfl ?_; clear st; intro _ _ st)  | refine c_seq ?_  | refine c_region ?_  | refine l_do ?_  | refine l_doG st rfl rfl ?_  | refine l_nil ?_  | refine x_then ?_  | refine x_thenE ?_  | refine x_blkN ?_  | refine x_blkE ?_  | refine wp_ret ?_  | refine wp_skip ?_  | refine wp_block ?_  | refine wp_exit ?_  | refine c_condT st rfl ?_  | refine c_condF st rfl ?_  | ((first | refine o_move st rfl rfl ?_  | refine o_assign st rfl rfl ?_  | refine o_pickF st rfl rfl rfl ?_); clear st; intro _ st)  | (refine o_alloc st rfl ?_; clear st; intro _ _ _ st)  | ((first | refine o_loadS st rfl (by repeat constructor) rfl rfl ?_  | refine o_load2 st rfl (by repeat constructor) rfl ?_ ); clear st; intro _ st)  | ((first | refine o_storeW st rfl rfl (by repeat constructor) rfl rfl rfl ?_); clear st; intro _ _ st)  | ((first | refine o_extract st rfl rfl rfl ?_  | refine o_len st rfl rfl ?_  | refine o_add64 st rfl rfl rfl (by omega) (by omega) ?_  | refine o_sub64 st rfl rfl rfl (by omega) (by omega) ?_  | refine o_notT st rfl rfl ?_ ); clear st; intro _ st)  | ((first | refine o_lss st rfl rfl rfl ?_ ?_  | refine o_gtr st rfl rfl rfl ?_ ?_  | refine o_neqI st rfl rfl rfl ?_ ?_) <;> clear st <;> intro _ _ st <;> (try (exfalso; omega))) ))
    exact ⟨rfl, (st.fit (by repeat (first | exact trivial  | refine And.intro rfl ?_))).subL (by repeat (first | exact List.Sublist.refl _  | apply List.Sublist.cons_cons  | apply List.Sublist.cons  | exact List.nil_sublist _))⟩
  clear st
  rintro _ _ st
  have q := fun v w hv => FrameLong_ok c h.gc d.fl d.fs h.fg h.fs h.ff v w hv
  refine c_meet (fun a w' => St w Try.f6.ntmps a w' [(0, .slice base code.length cap), (1, .slice base' more.length cap'), (5, .pointer (some ⟨p5, 0, none⟩)), (6, .int .i64 (n : Nat)), (7, .float .f32 (d.C.s n)), (8, .bool true), (9, .float .f32 (d.fs d.fl.length)), (10, .bool true)] [eP p5 (.slice (some ⟨b1, 0, none⟩) c.length cap1) (.slice (some ⟨b2, 0, none⟩) c.length cap2), ⟨b1, true, oV 31 (c.map vPt) pad1⟩, ⟨b2, true, oV 29 (c.map vWt) pad2⟩]) ⟨?_⟩ ?_
  · (repeat' (first | (refine o_callV st rfl (q _ _ (crv_own (st.heap (by repeat constructor)) (st.heap (by repeat constructor)))) rfl ?_; clear st; intro _ _ st)  | refine c_seq ?_  | refine c_region ?_  | refine l_do ?_  | refine l_doG st rfl rfl ?_  | refine l_nil ?_  | refine x_then ?_  | refine x_thenE ?_  | refine x_blkN ?_  | refine x_blkE ?_  | refine wp_ret ?_  | refine wp_skip ?_  | refine wp_block ?_  | refine wp_exit ?_  | refine c_condT st rfl ?_  | refine c_condF st rfl ?_  | ((first | refine o_move st rfl rfl ?_  | refine o_assign st rfl rfl ?_  | refine o_pickF st rfl rfl rfl ?_); clear st; intro _ st)  | (refine o_alloc st rfl ?_; clear st; intro _ _ _ st)  | ((first | refine o_loadS st rfl (by repeat constructor) rfl rfl ?_  | refine o_load2 st rfl (by repeat constructor) rfl ?_ ); clear st; intro _ st)  | ((first | refine o_storeW st rfl rfl (by repeat constructor) rfl rfl rfl ?_); clear st; intro _ _ st)  | ((first | refine o_extract st rfl rfl rfl ?_  | refine o_len st rfl rfl ?_  | refine o_add64 st rfl rfl rfl (by omega) (by omega) ?_  | refine o_sub64 st rfl rfl rfl (by omega) (by omega) ?_  | refine o_notT st rfl rfl ?_ ); clear st; intro _ st)  | ((first | refine o_lss st rfl rfl rfl ?_ ?_  | refine o_gtr st rfl rfl rfl ?_ ?_  | refine o_neqI st rfl rfl rfl ?_ ?_) <;> clear st <;> intro _ _ st <;> (try (exfalso; omega))) ))
    exact ⟨rfl, (st.fit (by repeat (first | exact trivial  | refine And.intro rfl ?_))).subL (by repeat (first | exact List.Sublist.refl _  | apply List.Sublist.cons_cons  | apply List.Sublist.cons  | exact List.nil_sublist _))⟩
  clear st
  rintro _ _ st
  have q := fun v w hv => NearLong_ok c h.gc near0 d.nv d.np near0_wt h.nr h.ng v w hv
  refine c_meet (fun a w' => St w Try.f6.ntmps a w' [(0, .slice base code.length cap), (1, .slice base' more.length cap'), (5, .pointer (some ⟨p5, 0, none⟩)), (6, .int .i64 (n : Nat)), (7, .float .f32 (d.C.s n)), (8, .bool true), (9, .float .f32 (d.fs d.fl.length)), (10, .bool true), (11, .float .f32 d.nv), (12, .int .i64 (d.np : Nat)), (13, .bool true)] [eP p5 (.slice (some ⟨b1, 0, none⟩) c.length cap1) (.slice (some ⟨b2, 0, none⟩) c.length cap2), ⟨b1, true, oV 31 (c.map vPt) pad1⟩, ⟨b2, true, oV 29 (c.map vWt) pad2⟩]) ⟨?_⟩ ?_
  · (repeat' (first | (refine o_callV st rfl (q _ _ (crv_own (st.heap (by repeat constructor)) (st.heap (by repeat constructor)))) rfl ?_; clear st; intro _ _ st)  | refine c_seq ?_  | refine c_region ?_  | refine l_do ?_  | refine l_doG st rfl rfl ?_  | refine l_nil ?_  | refine x_then ?_  | refine x_thenE ?_  | refine x_blkN ?_  | refine x_blkE ?_  | refine wp_ret ?_  | refine wp_skip ?_  | refine wp_block ?_  | refine wp_exit ?_  | refine c_condT st rfl ?_  | refine c_condF st rfl ?_  | ((first | refine o_move st rfl rfl ?_  | refine o_assign st rfl rfl ?_  | refine o_pickF st rfl rfl rfl ?_); clear st; intro _ st)  | (refine o_alloc st rfl ?_; clear st; intro _ _ _ st)  | ((first | refine o_loadS st rfl (by repeat constructor) rfl rfl ?_  | refine o_load2 st rfl (by repeat constructor) rfl ?_ ); clear st; intro _ st)  | ((first | refine o_storeW st rfl rfl (by repeat constructor) rfl rfl rfl ?_); clear st; intro _ _ st)  | ((first | refine o_extract st rfl rfl rfl ?_  | refine o_len st rfl rfl ?_  | refine o_add64 st rfl rfl rfl (by omega) (by omega) ?_  | refine o_sub64 st rfl rfl rfl (by omega) (by omega) ?_  | refine o_notT st rfl rfl ?_ ); clear st; intro _ st)  | ((first | refine o_lss st rfl rfl rfl ?_ ?_  | refine o_gtr st rfl rfl rfl ?_ ?_  | refine o_neqI st rfl rfl rfl ?_ ?_) <;> clear st <;> intro _ _ st <;> (try (exfalso; omega))) ))
    exact ⟨rfl, (st.fit (by repeat (first | exact trivial  | refine And.intro rfl ?_))).subL (by repeat (first | exact List.Sublist.refl _  | apply List.Sublist.cons_cons  | apply List.Sublist.cons  | exact List.nil_sublist _))⟩
  clear st
  rintro _ _ st
  have q := fun v w hv => LongTable_ok c n d.C.ts d.C.ks d.C.ls d.C.s h.ch.p h.ch.g h.ch.s h.ch.f v w hv
  refine c_meet (fun a w' => ∃ (bT capT : Nat) (padT : List Value), St w Try.f6.ntmps a w' [(0, .slice base code.length cap), (1, .slice base' more.length cap'), (5, .pointer (some ⟨p5, 0, none⟩)), (6, .int .i64 (n : Nat)), (7, .float .f32 (d.C.s n)), (8, .bool true), (9, .float .f32 (d.fs d.fl.length)), (10, .bool true), (11, .float .f32 d.nv), (12, .int .i64 (d.np : Nat)), (13, .bool true), (14, .slice (some ⟨bT, 0, none⟩) (n + 1) capT), (15, .bool true)] [⟨bT, true, oV 29 ((tabL d.C.s n).map vF) padT⟩, eP p5 (.slice (some ⟨b1, 0, none⟩) c.length cap1) (.slice (some ⟨b2, 0, none⟩) c.length cap2), ⟨b1, true, oV 31 (c.map vPt) pad1⟩, ⟨b2, true, oV 29 (c.map vWt) pad2⟩]) ⟨?_⟩ ?_
  · (repeat' (first | (refine o_callM1 st rfl (q _ _ (crv_own (st.heap (by repeat constructor)) (st.heap (by repeat constructor)))) rfl ?_; clear st; rintro _ bT _ ⟨capT, padT, rfl, rfl⟩ _ _ st)  | refine c_seq ?_  | refine c_region ?_  | refine l_do ?_  | refine l_doG st rfl rfl ?_  | refine l_nil ?_  | refine x_then ?_  | refine x_thenE ?_  | refine x_blkN ?_  | refine x_blkE ?_  | refine wp_ret ?_  | refine wp_skip ?_  | refine wp_block ?_  | refine wp_exit ?_  | refine c_condT st rfl ?_  | refine c_condF st rfl ?_  | ((first | refine o_move st rfl rfl ?_  | refine o_assign st rfl rfl ?_  | refine o_pickF st rfl rfl rfl ?_); clear st; intro _ st)  | (refine o_alloc st rfl ?_; clear st; intro _ _ _ st)  | ((first | refine o_loadS st rfl (by repeat constructor) rfl rfl ?_  | refine o_load2 st rfl (by repeat constructor) rfl ?_ ); clear st; intro _ st)  | ((first | refine o_storeW st rfl rfl (by repeat constructor) rfl rfl rfl ?_); clear st; intro _ _ st)  | ((first | refine o_extract st rfl rfl rfl ?_  | refine o_len st rfl rfl ?_  | refine o_add64 st rfl rfl rfl (by omega) (by omega) ?_  | refine o_sub64 st rfl rfl rfl (by omega) (by omega) ?_  | refine o_notT st rfl rfl ?_ ); clear st; intro _ st)  | ((first | refine o_lss st rfl rfl rfl ?_ ?_  | refine o_gtr st rfl rfl rfl ?_ ?_  | refine o_neqI st rfl rfl rfl ?_ ?_) <;> clear st <;> intro _ _ st <;> (try (exfalso; omega))) ))
    exact ⟨rfl, bT, capT, padT, (st.fit (by repeat (first | exact trivial  | refine And.intro rfl ?_))).subL (by repeat (first | exact List.Sublist.refl _  | apply List.Sublist.cons_cons  | apply List.Sublist.cons  | exact List.nil_sublist _))⟩
  clear st
  rintro _ _ ⟨bT, capT, padT, st⟩
  have q := fun r hr1 hr8 bl w hb hv => LongsShared_ok c n d.C.ts d.C.ks d.C.ls d.C.s h.ch.p h.ch.g h.ch.s (by rw [hls]; exact hgn) r hr1 hr8 (some ⟨b1, 0, none⟩) (some ⟨b2, 0, none⟩) c.length c.length cap1 cap2 bl w hb hv
  rw [hls] at q
  refine c_meet (fun a w' => ∃ (bS capS : Nat) (padS : List Value), St w Try.f6.ntmps a w' [(0, .slice base code.length cap), (1, .slice base' more.length cap'), (5, .pointer (some ⟨p5, 0, none⟩)), (6, .int .i64 (n : Nat)), (7, .float .f32 (d.C.s n)), (8, .bool true), (9, .float .f32 (d.fs d.fl.length)), (10, .bool true), (11, .float .f32 d.nv), (12, .int .i64 (d.np : Nat)), (13, .bool true), (14, .slice (some ⟨bT, 0, none⟩) (n + 1) capT), (15, .bool true), (16, .slice (some ⟨bS, 0, none⟩) 2 capS), (17, .bool true)] [⟨bS, true, oV 29 ([d.C.s n, d.C.s n].map vF) padS⟩, ⟨bT, true, oV 29 ((tabL d.C.s n).map vF) padT⟩, eP p5 (.slice (some ⟨b1, 0, none⟩) c.length cap1) (.slice (some ⟨b2, 0, none⟩) c.length cap2), ⟨b1, true, oV 31 (c.map vPt) pad1⟩, ⟨b2, true, oV 29 (c.map vWt) pad2⟩]) ⟨?_⟩ ?_
  · skip
    refine c_drawA (last := 12) hm_ (by decide +kernel) (by decide +kernel) st ?_; clear st; intro _ st
    refine d_v 0 st (by repeat constructor) rfl (by decide +kernel) rfl (v_load2 st rfl (by repeat constructor)) ?_; clear st; intro _ st
    refine d_v 1 st (by repeat constructor) rfl (by decide +kernel) rfl (v_load2 st rfl (by repeat constructor)) ?_; clear st; intro _ st
    refine d_v 3 st (by repeat constructor) rfl (by decide +kernel) rfl (v_move st rfl) ?_; clear st; intro _ st
    refine d_v 4 st (by repeat constructor) rfl (by decide +kernel) rfl (v_move st rfl) ?_; clear st; intro _ st
    refine d_two 2 5 (by decide +kernel) rfl rfl ?_ ?_
    · skip
      refine o_buildSlice22 st rfl rfl rfl ?_; clear st; intro bl _ _ st
      refine kh st (by repeat constructor) ?_
      refine d_one 5 (by decide +kernel) rfl ?_
      refine o_callR st rfl (cA 2 (by omega) 8 (by omega) _ (hr'.mono st.below)) rfl ?_; clear st; rintro _ ⟨r, rfl, hr8⟩ _ _ st
      refine kh st (by repeat constructor) ?_
      refine d_v 6 st (by repeat constructor) rfl (by decide +kernel) rfl (v_add64 st rfl rfl (by omega) (by omega)) ?_; clear st; intro _ st
      refine d_one 7 (by decide +kernel) rfl ?_
      have e0 : (1 : Int) + (r : Int) = ((1 + r : Nat) : Int) := (by omega); rw [e0] at st; refine o_callM1 st rfl (q (1 + r) (by omega) (by omega) bl _ (st.heap (by repeat constructor)) (crv_own (st.heap (by repeat constructor)) (st.heap (by repeat constructor)))) rfl ?_; clear st; rintro _ bS _ ⟨capS, padS, rfl, rfl⟩ _ _ st
      refine kh st (by repeat constructor) ?_
      refine d_v 8 st (by repeat constructor) rfl (by decide +kernel) rfl (v_move st rfl) ?_; clear st; intro _ st
      refine d_v 9 st (by repeat constructor) rfl (by decide +kernel) rfl (v_extract st rfl rfl) ?_; clear st; intro _ st
      refine d_v 10 st (by repeat constructor) rfl (by decide +kernel) rfl (v_extract st rfl rfl) ?_; clear st; intro _ st
      refine d_v 11 st (by repeat constructor) rfl (by decide +kernel) rfl (v_assign st rfl) ?_; clear st; intro _ st
      refine d_one 12 (by decide +kernel) rfl ?_
      (first | (refine o_assign st rfl rfl ?_; clear st; intro _ st))
      refine k_last ?_
      refine d_done (by decide +kernel) ?_
      exact ⟨rfl, bS, capS, padS, (st.fit (by repeat (first | exact trivial  | refine And.intro rfl ?_))).subL (by repeat (first | exact List.Sublist.refl _  | apply List.Sublist.cons_cons  | apply List.Sublist.cons  | exact List.nil_sublist _))⟩
    · skip
      refine o_callR st rfl (cA 2 (by omega) 8 (by omega) _ (hr'.mono st.below)) rfl ?_; clear st; rintro _ ⟨r, rfl, hr8⟩ _ _ st
      refine kh st (by repeat constructor) ?_
      refine d_v 6 st (by repeat constructor) rfl (by decide +kernel) rfl (v_add64 st rfl rfl (by omega) (by omega)) ?_; clear st; intro _ st
      refine d_one 2 (by decide +kernel) rfl ?_
      refine o_buildSlice22 st rfl rfl rfl ?_; clear st; intro bl _ _ st
      refine kh st (by repeat constructor) ?_
      refine d_one 7 (by decide +kernel) rfl ?_
      have e0 : (1 : Int) + (r : Int) = ((1 + r : Nat) : Int) := (by omega); rw [e0] at st; refine o_callM1 st rfl (q (1 + r) (by omega) (by omega) bl _ (st.heap (by repeat constructor)) (crv_own (st.heap (by repeat constructor)) (st.heap (by repeat constructor)))) rfl ?_; clear st; rintro _ bS _ ⟨capS, padS, rfl, rfl⟩ _ _ st
      refine kh st (by repeat constructor) ?_
      refine d_v 8 st (by repeat constructor) rfl (by decide +kernel) rfl (v_move st rfl) ?_; clear st; intro _ st
      refine d_v 9 st (by repeat constructor) rfl (by decide +kernel) rfl (v_extract st rfl rfl) ?_; clear st; intro _ st
      refine d_v 10 st (by repeat constructor) rfl (by decide +kernel) rfl (v_extract st rfl rfl) ?_; clear st; intro _ st
      refine d_v 11 st (by repeat constructor) rfl (by decide +kernel) rfl (v_assign st rfl) ?_; clear st; intro _ st
      refine d_one 12 (by decide +kernel) rfl ?_
      (first | (refine o_assign st rfl rfl ?_; clear st; intro _ st))
      refine k_last ?_
      refine d_done (by decide +kernel) ?_
      exact ⟨rfl, bS, capS, padS, (st.fit (by repeat (first | exact trivial  | refine And.intro rfl ?_))).subL (by repeat (first | exact List.Sublist.refl _  | apply List.Sublist.cons_cons  | apply List.Sublist.cons  | exact List.nil_sublist _))⟩
  clear st
  rintro _ _ ⟨bS, capS, padS, st⟩
  have q := fun w => SpecSame_ok (d.C.s n) hgn.is w
  obtain ⟨hp1, hp2⟩ := h.np
  have gT : ∀ (k : Nat) (j : Int), k ≤ n → j = (k : Int) → ((tabL d.C.s n).map vF ++ padT).toArray[0 + j.toNat * 1]? = some (vF (d.C.s k)) := by
    rintro k j hk rfl
    have := oV_get (pad := padT) (vs := (tabL d.C.s n).map vF) (k := k) (by rw [List.length_map, tabL_len]; omega)
    rw [this, List.getElem_map, tabL_get]
  have gS0 : ([d.C.s n, d.C.s n].map vF ++ padS).toArray[0 + (0 : Int).toNat * 1]? = some (vF (d.C.s n)) := by simp
  have gS1 : ([d.C.s n, d.C.s n].map vF ++ padS).toArray[0 + (1 : Int).toNat * 1]? = some (vF (d.C.s n)) := by simp
  have gTn := gT n (n : Nat) (Nat.le_refl _) rfl
  refine c_meet (fun a w' => St w Try.f6.ntmps a w' [(0, .slice base code.length cap), (1, .slice base' more.length cap'), (5, .pointer (some ⟨p5, 0, none⟩)), (6, .int .i64 (n : Nat)), (7, .float .f32 (d.C.s n)), (9, .float .f32 (d.fs d.fl.length)), (11, .float .f32 d.nv), (14, .slice (some ⟨bT, 0, none⟩) (n + 1) capT)] [⟨bT, true, oV 29 ((tabL d.C.s n).map vF) padT⟩, eP p5 (.slice (some ⟨b1, 0, none⟩) c.length cap1) (.slice (some ⟨b2, 0, none⟩) c.length cap2), ⟨b1, true, oV 31 (c.map vPt) pad1⟩, ⟨b2, true, oV 29 (c.map vWt) pad2⟩]) ⟨?_⟩ ?_
  · (repeat' (first | (refine o_callV st rfl (q _) rfl ?_; clear st; intro _ _ st)  | (refine o_indexAddr st rfl rfl (by omega) (by omega) rfl ?_; clear st; intro _ st)  | (refine o_loadS st rfl (by repeat constructor) gS0 rfl ?_; clear st; intro _ st)  | (refine o_loadS st rfl (by repeat constructor) gS1 rfl ?_; clear st; intro _ st)  | (refine o_loadS st rfl (by repeat constructor) gTn rfl ?_; clear st; intro _ st)  | refine c_seq ?_  | refine c_region ?_  | refine l_do ?_  | refine l_doG st rfl rfl ?_  | refine l_nil ?_  | refine x_then ?_  | refine x_thenE ?_  | refine x_blkN ?_  | refine x_blkE ?_  | refine wp_ret ?_  | refine wp_skip ?_  | refine wp_block ?_  | refine wp_exit ?_  | refine c_condT st rfl ?_  | refine c_condF st rfl ?_  | ((first | refine o_move st rfl rfl ?_  | refine o_assign st rfl rfl ?_  | refine o_pickF st rfl rfl rfl ?_); clear st; intro _ st)  | (refine o_alloc st rfl ?_; clear st; intro _ _ _ st)  | ((first | refine o_loadS st rfl (by repeat constructor) rfl rfl ?_  | refine o_load2 st rfl (by repeat constructor) rfl ?_ ); clear st; intro _ st)  | ((first | refine o_storeW st rfl rfl (by repeat constructor) rfl rfl rfl ?_); clear st; intro _ _ st)  | ((first | refine o_extract st rfl rfl rfl ?_  | refine o_len st rfl rfl ?_  | refine o_add64 st rfl rfl rfl (by omega) (by omega) ?_  | refine o_sub64 st rfl rfl rfl (by omega) (by omega) ?_  | refine o_notT st rfl rfl ?_ ); clear st; intro _ st)  | ((first | refine o_lss st rfl rfl rfl ?_ ?_  | refine o_gtr st rfl rfl rfl ?_ ?_  | refine o_neqI st rfl rfl rfl ?_ ?_) <;> clear st <;> intro _ _ st <;> (try (exfalso; omega))) ))
    exact ⟨rfl, (st.fit (by repeat (first | exact trivial  | refine And.intro rfl ?_))).subL (by repeat (first | exact List.Sublist.refl _  | apply List.Sublist.cons_cons  | apply List.Sublist.cons  | exact List.nil_sublist _))⟩
  clear st
  rintro _ _ st
  have gL : (c.map vPt ++ pad1).toArray[0 + ((c.length : Int) - 1).toNat * 1]? = some (vPt c[c.length - 1]) := by
    have := oV_get (pad := pad1) (vs := c.map vPt) (k := c.length - 1) (by rw [List.length_map]; omega)
    rw [show ((c.length : Int) - 1) = ((c.length - 1 : Nat) : Int) by omega, this, List.getElem_map]
  have g0 : (c.map vPt ++ pad1).toArray[0 + (0 : Int).toNat * 1]? = some (vPt c[0]) := by
    have := oV_get (pad := pad1) (vs := c.map vPt) (k := 0) (by rw [List.length_map]; omega)
    rw [show (0 : Int) = ((0 : Nat) : Int) from rfl, this, List.getElem_map]
  have heu := h.eu (by omega) (by omega)
  have hev' := h.ev (by omega) (by omega)
  have q := fun w => SLongOf_ok d.eu d.ev d.el h.el w
  refine c_meet (fun a w' => St w Try.f6.ntmps a w' [(0, .slice base code.length cap), (1, .slice base' more.length cap'), (5, .pointer (some ⟨p5, 0, none⟩)), (6, .int .i64 (n : Nat)), (7, .float .f32 (d.C.s n)), (9, .float .f32 (d.fs d.fl.length)), (11, .float .f32 d.nv), (14, .slice (some ⟨bT, 0, none⟩) (n + 1) capT), (18, .float .f64 d.e6)] [⟨bT, true, oV 29 ((tabL d.C.s n).map vF) padT⟩, eP p5 (.slice (some ⟨b1, 0, none⟩) c.length cap1) (.slice (some ⟨b2, 0, none⟩) c.length cap2), ⟨b1, true, oV 31 (c.map vPt) pad1⟩, ⟨b2, true, oV 29 (c.map vWt) pad2⟩]) ⟨?_⟩ ?_
  · skip
    refine c_drawA (last := 15) hm_ (by decide +kernel) (by decide +kernel) st ?_; clear st; intro _ st
    refine d_v 0 st (by repeat constructor) rfl (by decide +kernel) rfl (v_fieldAddr st rfl) ?_; clear st; intro _ st
    refine d_v 1 st (by repeat constructor) rfl (by decide +kernel) rfl (by first | exact v_load3 st rfl (by repeat constructor) | exact v_loadS st rfl (by repeat constructor) rfl) ?_; clear st; intro _ st
    refine d_v 2 st (by repeat constructor) rfl (by decide +kernel) rfl (v_fieldAddr st rfl) ?_; clear st; intro _ st
    refine d_v 3 st (by repeat constructor) rfl (by decide +kernel) rfl (by first | exact v_load3 st rfl (by repeat constructor) | exact v_loadS st rfl (by repeat constructor) rfl) ?_; clear st; intro _ st
    refine d_v 4 st (by repeat constructor) rfl (by decide +kernel) rfl (v_len st rfl) ?_; clear st; intro _ st
    refine d_v 5 st (by repeat constructor) rfl (by decide +kernel) rfl (v_sub64 st rfl rfl (by omega) (by omega)) ?_; clear st; intro _ st
    refine d_v 6 st (by repeat constructor) rfl (by decide +kernel) rfl (v_indexAddr st rfl rfl (by omega) (by omega)) ?_; clear st; intro _ st
    refine d_v 7 st (by repeat constructor) rfl (by decide +kernel) rfl (v_loadS st rfl (by repeat constructor) gL) ?_; clear st; intro _ st
    refine d_v 8 st (by repeat constructor) rfl (by decide +kernel) rfl (v_fieldAddr st rfl) ?_; clear st; intro _ st
    refine d_v 9 st (by repeat constructor) rfl (by decide +kernel) rfl (by first | exact v_load3 st rfl (by repeat constructor) | exact v_loadS st rfl (by repeat constructor) rfl) ?_; clear st; intro _ st
    refine d_v 10 st (by repeat constructor) rfl (by decide +kernel) rfl (v_indexAddr st rfl rfl (by omega) (by omega)) ?_; clear st; intro _ st
    refine d_v 11 st (by repeat constructor) rfl (by decide +kernel) rfl (v_loadS st rfl (by repeat constructor) g0) ?_; clear st; intro _ st
    refine d_one 12 (by decide +kernel) rfl ?_
    refine o_csub (t := 31) st rfl rfl heu hev' rfl ?_; clear st; intro _ st
    refine kh st (by repeat constructor) ?_
    refine d_one 13 (by decide +kernel) rfl ?_
    refine o_callV st rfl (q _) rfl ?_; clear st; intro _ _ st
    refine kh st (by repeat constructor) ?_
    refine d_one 14 (by decide +kernel) rfl ?_
    refine o_fcvW st rfl h.e6 rfl ?_; clear st; intro _ st
    refine kh st (by repeat constructor) ?_
    refine d_one 15 (by decide +kernel) rfl ?_
    (first | (refine o_assign st rfl rfl ?_; clear st; intro _ st))
    refine k_last ?_
    refine d_done (by decide +kernel) ?_
    exact ⟨rfl, (st.fit (by repeat (first | exact trivial  | refine And.intro rfl ?_))).subL (by repeat (first | exact List.Sublist.refl _  | apply List.Sublist.cons_cons  | apply List.Sublist.cons  | exact List.nil_sublist _))⟩
  clear st
  rintro _ _ st
  have il := fop_is h.lo
  have ih := fop_is h.hi
  have ixx := h.ix
  have inn := h.in_
  have b1' := h.b1
  have b2' := h.b2
  have b3' := h.b3
  have b4' := h.b4
  refine c_meet (fun a w' => St w Try.f6.ntmps a w' [(0, .slice base code.length cap), (1, .slice base' more.length cap'), (5, .pointer (some ⟨p5, 0, none⟩)), (6, .int .i64 (n : Nat)), (14, .slice (some ⟨bT, 0, none⟩) (n + 1) capT)] [⟨bT, true, oV 29 ((tabL d.C.s n).map vF) padT⟩, eP p5 (.slice (some ⟨b1, 0, none⟩) c.length cap1) (.slice (some ⟨b2, 0, none⟩) c.length cap2), ⟨b1, true, oV 31 (c.map vPt) pad1⟩, ⟨b2, true, oV 29 (c.map vWt) pad2⟩]) ⟨?_⟩ ?_
  · (repeat' (first | (refine o_fcvW st rfl h.x6 rfl ?_; clear st; intro _ st)  | (refine o_fcvW st rfl h.f6 rfl ?_; clear st; intro _ st)  | (refine o_fcvW st rfl h.n6 rfl ?_; clear st; intro _ st)  | (refine o_fopK st rfl rfl h.hi rfl ?_; clear st; intro _ st)  | (refine o_fopK st rfl rfl h.lo rfl ?_; clear st; intro _ st)  | (refine o_fgtrW st rfl rfl ixx ih b1' rfl ?_; clear st; intro _ st)  | (refine o_flssW st rfl rfl ixx il b2' rfl ?_; clear st; intro _ st)  | (refine o_fgtrW st rfl rfl inn ih b3' rfl ?_; clear st; intro _ st)  | (refine o_flssW st rfl rfl inn il b4' rfl ?_; clear st; intro _ st)  | refine c_seq ?_  | refine c_region ?_  | refine l_do ?_  | refine l_doG st rfl rfl ?_  | refine l_nil ?_  | refine x_then ?_  | refine x_thenE ?_  | refine x_blkN ?_  | refine x_blkE ?_  | refine wp_ret ?_  | refine wp_skip ?_  | refine wp_block ?_  | refine wp_exit ?_  | refine c_condT st rfl ?_  | refine c_condF st rfl ?_  | ((first | refine o_move st rfl rfl ?_  | refine o_assign st rfl rfl ?_  | refine o_pickF st rfl rfl rfl ?_); clear st; intro _ st)  | (refine o_alloc st rfl ?_; clear st; intro _ _ _ st)  | ((first | refine o_loadS st rfl (by repeat constructor) rfl rfl ?_  | refine o_load2 st rfl (by repeat constructor) rfl ?_ ); clear st; intro _ st)  | ((first | refine o_storeW st rfl rfl (by repeat constructor) rfl rfl rfl ?_); clear st; intro _ _ st)  | ((first | refine o_extract st rfl rfl rfl ?_  | refine o_len st rfl rfl ?_  | refine o_add64 st rfl rfl rfl (by omega) (by omega) ?_  | refine o_sub64 st rfl rfl rfl (by omega) (by omega) ?_  | refine o_notT st rfl rfl ?_ ); clear st; intro _ st)  | ((first | refine o_lss st rfl rfl rfl ?_ ?_  | refine o_gtr st rfl rfl rfl ?_ ?_  | refine o_neqI st rfl rfl rfl ?_ ?_) <;> clear st <;> intro _ _ st <;> (try (exfalso; omega))) ))
    exact ⟨rfl, (st.fit (by repeat (first | exact trivial  | refine And.intro rfl ?_))).subL (by repeat (first | exact List.Sublist.refl _  | apply List.Sublist.cons_cons  | apply List.Sublist.cons  | exact List.nil_sublist _))⟩
  clear st
  rintro _ _ st
  refine c_meet (fun a w' => St w Try.f6.ntmps a w' [(0, .slice base code.length cap), (1, .slice base' more.length cap'), (5, .pointer (some ⟨p5, 0, none⟩)), (6, .int .i64 (n : Nat))] [eP p5 (.slice (some ⟨b1, 0, none⟩) c.length cap1) (.slice (some ⟨b2, 0, none⟩) c.length cap2), ⟨b1, true, oV 31 (c.map vPt) pad1⟩, ⟨b2, true, oV 29 (c.map vWt) pad2⟩]) ⟨?_⟩ ?_
  · (repeat' (first | refine c_seq ?_  | refine c_region ?_  | refine l_do ?_  | refine l_doG st rfl rfl ?_  | refine l_nil ?_  | refine x_then ?_  | refine x_thenE ?_  | refine x_blkN ?_  | refine x_blkE ?_  | refine wp_ret ?_  | refine wp_skip ?_  | refine wp_block ?_  | refine wp_exit ?_  | refine c_condT st rfl ?_  | refine c_condF st rfl ?_  | ((first | refine o_move st rfl rfl ?_  | refine o_assign st rfl rfl ?_  | refine o_pickF st rfl rfl rfl ?_); clear st; intro _ st)  | (refine o_alloc st rfl ?_; clear st; intro _ _ _ st)  | ((first | refine o_loadS st rfl (by repeat constructor) rfl rfl ?_  | refine o_load2 st rfl (by repeat constructor) rfl ?_ ); clear st; intro _ st)  | ((first | refine o_storeW st rfl rfl (by repeat constructor) rfl rfl rfl ?_); clear st; intro _ _ st)  | ((first | refine o_extract st rfl rfl rfl ?_  | refine o_len st rfl rfl ?_  | refine o_add64 st rfl rfl rfl (by omega) (by omega) ?_  | refine o_sub64 st rfl rfl rfl (by omega) (by omega) ?_  | refine o_notT st rfl rfl ?_ ); clear st; intro _ st)  | ((first | refine o_lss st rfl rfl rfl ?_ ?_  | refine o_gtr st rfl rfl rfl ?_ ?_  | refine o_neqI st rfl rfl rfl ?_ ?_) <;> clear st <;> intro _ _ st <;> (try (exfalso; omega))) ))
    refine wp_loop_ghost (fun y0 a w' => ∃ k : Nat, k ≤ n + 1 ∧ y0 = n + 1 - k ∧ St w Try.f6.ntmps a w' [(0, .slice base code.length cap), (1, .slice base' more.length cap'), (5, .pointer (some ⟨p5, 0, none⟩)), (6, .int .i64 (n : Nat)), (14, .slice (some ⟨bT, 0, none⟩) (n + 1) capT), (181, .int .i64 ((n + 1 : Nat) : Int)), (182, .int .i64 (k : Nat))] [⟨bT, true, oV 29 ((tabL d.C.s n).map vF) padT⟩, eP p5 (.slice (some ⟨b1, 0, none⟩) c.length cap1) (.slice (some ⟨b2, 0, none⟩) c.length cap2), ⟨b1, true, oV 31 (c.map vPt) pad1⟩, ⟨b2, true, oV 29 (c.map vWt) pad2⟩]) (n + 1) ⟨0, by omega, by omega, (st.fit (by repeat (first | exact trivial  | refine And.intro rfl ?_))).subL (by repeat (first | exact List.Sublist.refl _  | apply List.Sublist.cons_cons  | apply List.Sublist.cons  | exact List.nil_sublist _))⟩ ?_
    clear st
    rintro _ a w' ⟨k, hk, rfl, st⟩
    by_cases hlt : k < n + 1
    · have gk := gT k (k : Nat) (by omega) rfl
      have t0 := h.t0 k (by omega)
      have ik := (h.ch.f k (by omega)).is
      by_cases hk0 : k = 0
      · (repeat' (first | refine c_seq ?_  | refine c_region ?_  | refine l_do ?_  | refine l_doG st rfl rfl ?_  | refine l_nil ?_  | refine x_then ?_  | refine x_thenE ?_  | refine x_blkN ?_  | refine x_blkE ?_  | refine wp_ret ?_  | refine wp_skip ?_  | refine wp_block ?_  | refine wp_exit ?_  | refine c_condT st rfl ?_  | refine c_condF st rfl ?_  | ((first | refine o_move st rfl rfl ?_  | refine o_assign st rfl rfl ?_  | refine o_pickF st rfl rfl rfl ?_); clear st; intro _ st)  | (refine o_alloc st rfl ?_; clear st; intro _ _ _ st)  | ((first | refine o_loadS st rfl (by repeat constructor) rfl rfl ?_  | refine o_load2 st rfl (by repeat constructor) rfl ?_ ); clear st; intro _ st)  | ((first | refine o_storeW st rfl rfl (by repeat constructor) rfl rfl rfl ?_); clear st; intro _ _ st)  | ((first | refine o_extract st rfl rfl rfl ?_  | refine o_len st rfl rfl ?_  | refine o_add64 st rfl rfl rfl (by omega) (by omega) ?_  | refine o_sub64 st rfl rfl rfl (by omega) (by omega) ?_  | refine o_notT st rfl rfl ?_ ); clear st; intro _ st)  | ((first | refine o_lss st rfl rfl rfl ?_ ?_  | refine o_gtr st rfl rfl rfl ?_ ?_  | refine o_neqI st rfl rfl rfl ?_ ?_) <;> clear st <;> intro _ _ st <;> (try (exfalso; omega))) ))
        refine c_drawA (last := 21) hm_ (by decide +kernel) (by decide +kernel) st ?_; clear st; intro _ st
        refine d_v 0 st (by repeat constructor) rfl (by decide +kernel) rfl (v_move st rfl) ?_; clear st; intro _ st
        refine d_v 1 st (by repeat constructor) rfl (by decide +kernel) rfl (v_move st rfl) ?_; clear st; intro _ st
        refine d_v 2 st (by repeat constructor) rfl (by decide +kernel) rfl (v_indexAddr st rfl rfl (by omega) (by omega)) ?_; clear st; intro _ st
        refine d_v 3 st (by repeat constructor) rfl (by decide +kernel) rfl (v_loadS st rfl (by repeat constructor) gk) ?_; clear st; intro _ st
        refine d_one 4 (by decide +kernel) rfl ?_
        refine o_flssW st rfl rfl ik i32_0 t0 rfl ?_; clear st; intro _ st
        refine kh st (by repeat constructor) ?_
        refine d_v 5 st (by repeat constructor) rfl (by decide +kernel) rfl (v_move st rfl) ?_; clear st; intro _ st
        (first | refine d_g 6 st (by repeat constructor) rfl (by decide +kernel) rfl rfl rfl (v_move st rfl) ?_  | refine d_s 6 st (by repeat constructor) rfl (by decide +kernel) rfl rfl rfl rfl ?_ ); clear st; intro _ st
        (first | refine d_g 7 st (by repeat constructor) rfl (by decide +kernel) rfl rfl rfl (v_gtrR (r := false) st rfl rfl (decide_eq_false (by omega))) ?_  | refine d_s 7 st (by repeat constructor) rfl (by decide +kernel) rfl rfl rfl rfl ?_ ); clear st; intro _ st
        (first | refine d_g 8 st (by repeat constructor) rfl (by decide +kernel) rfl rfl rfl (v_move st rfl) ?_  | refine d_s 8 st (by repeat constructor) rfl (by decide +kernel) rfl rfl rfl rfl ?_ ); clear st; intro _ st
        (first | refine d_g 9 st (by repeat constructor) rfl (by decide +kernel) rfl rfl rfl (v_move st rfl) ?_  | refine d_s 9 st (by repeat constructor) rfl (by decide +kernel) rfl rfl rfl rfl ?_ ); clear st; intro _ st
        (first | refine d_g 10 st (by repeat constructor) rfl (by decide +kernel) rfl rfl rfl (v_move st rfl) ?_  | refine d_s 10 st (by repeat constructor) rfl (by decide +kernel) rfl rfl rfl rfl ?_ ); clear st; intro _ st
        (first | refine d_g 11 st (by repeat constructor) rfl (by decide +kernel) rfl rfl rfl (v_indexAddr st rfl rfl (by omega) (by omega)) ?_  | refine d_s 11 st (by repeat constructor) rfl (by decide +kernel) rfl rfl rfl rfl ?_ ); clear st; intro _ st
        (first | refine d_g 12 st (by repeat constructor) rfl (by decide +kernel) rfl rfl rfl (by first | exact v_load3 st rfl (by repeat constructor) | exact v_loadS st rfl (by repeat constructor) rfl) ?_  | refine d_s 12 st (by repeat constructor) rfl (by decide +kernel) rfl rfl rfl rfl ?_ ); clear st; intro _ st
        (first | refine d_g 13 st (by repeat constructor) rfl (by decide +kernel) rfl rfl rfl (v_move st rfl) ?_  | refine d_s 13 st (by repeat constructor) rfl (by decide +kernel) rfl rfl rfl rfl ?_ ); clear st; intro _ st
        (first | refine d_g 14 st (by repeat constructor) rfl (by decide +kernel) rfl rfl rfl (v_move st rfl) ?_  | refine d_s 14 st (by repeat constructor) rfl (by decide +kernel) rfl rfl rfl rfl ?_ ); clear st; intro _ st
        (first | refine d_g 15 st (by repeat constructor) rfl (by decide +kernel) rfl rfl rfl (v_sub64 st rfl rfl (by omega) (by omega)) ?_  | refine d_s 15 st (by repeat constructor) rfl (by decide +kernel) rfl rfl rfl rfl ?_ ); clear st; intro _ st
        (first | refine d_g 16 st (by repeat constructor) rfl (by decide +kernel) rfl rfl rfl (v_indexAddr st rfl rfl (by omega) (by omega)) ?_  | refine d_s 16 st (by repeat constructor) rfl (by decide +kernel) rfl rfl rfl rfl ?_ ); clear st; intro _ st
        (first | refine d_g 17 st (by repeat constructor) rfl (by decide +kernel) rfl rfl rfl (by first | exact v_load3 st rfl (by repeat constructor) | exact v_loadS st rfl (by repeat constructor) rfl) ?_  | refine d_s 17 st (by repeat constructor) rfl (by decide +kernel) rfl rfl rfl rfl ?_ ); clear st; intro _ st
        (first | (refine d_s 18 st (by repeat constructor) rfl (by decide +kernel) rfl rfl rfl rfl ?_; clear st; intro _ st)  | (refine d_oneG 18 (by decide +kernel) rfl st rfl rfl ?_; (first | fail); refine kh st (by repeat constructor) ?_))
        (first | refine d_g 19 st (by repeat constructor) rfl (by decide +kernel) rfl rfl rfl (by first | exact v_pickT st rfl rfl | exact v_pickF st rfl rfl) ?_  | refine d_s 19 st (by repeat constructor) rfl (by decide +kernel) rfl rfl rfl rfl ?_ ); clear st; intro _ st
        refine d_v 20 st (by repeat constructor) rfl (by decide +kernel) rfl (by first | exact v_pickT st rfl rfl | exact v_pickF st rfl rfl) ?_; clear st; intro _ st
        refine d_done (by decide +kernel) ?_
        (repeat' (first | refine c_seq ?_  | refine c_region ?_  | refine l_do ?_  | refine l_doG st rfl rfl ?_  | refine l_nil ?_  | refine x_then ?_  | refine x_thenE ?_  | refine x_blkN ?_  | refine x_blkE ?_  | refine wp_ret ?_  | refine wp_skip ?_  | refine wp_block ?_  | refine wp_exit ?_  | refine c_condT st rfl ?_  | refine c_condF st rfl ?_  | ((first | refine o_move st rfl rfl ?_  | refine o_assign st rfl rfl ?_  | refine o_pickF st rfl rfl rfl ?_); clear st; intro _ st)  | (refine o_alloc st rfl ?_; clear st; intro _ _ _ st)  | ((first | refine o_loadS st rfl (by repeat constructor) rfl rfl ?_  | refine o_load2 st rfl (by repeat constructor) rfl ?_ ); clear st; intro _ st)  | ((first | refine o_storeW st rfl rfl (by repeat constructor) rfl rfl rfl ?_); clear st; intro _ _ st)  | ((first | refine o_extract st rfl rfl rfl ?_  | refine o_len st rfl rfl ?_  | refine o_add64 st rfl rfl rfl (by omega) (by omega) ?_  | refine o_sub64 st rfl rfl rfl (by omega) (by omega) ?_  | refine o_notT st rfl rfl ?_ ); clear st; intro _ st)  | ((first | refine o_lss st rfl rfl rfl ?_ ?_  | refine o_gtr st rfl rfl rfl ?_ ?_  | refine o_neqI st rfl rfl rfl ?_ ?_) <;> clear st <;> intro _ _ st <;> (try (exfalso; omega))) ))
        exact ⟨n + 1 - (k + 1), by omega, k + 1, by omega, rfl, (st.fit (by repeat (first | exact trivial  | refine And.intro rfl ?_))).subL (by repeat (first | exact List.Sublist.refl _  | apply List.Sublist.cons_cons  | apply List.Sublist.cons  | exact List.nil_sublist _))⟩
      · have gk1 := gT (k - 1) ((k : Int) - 1) (by omega) (by omega)
        have t1 := h.t1 k (by omega) (by omega)
        have ik1 := (h.ch.f (k - 1) (by omega)).is
        (repeat' (first | refine c_seq ?_  | refine c_region ?_  | refine l_do ?_  | refine l_doG st rfl rfl ?_  | refine l_nil ?_  | refine x_then ?_  | refine x_thenE ?_  | refine x_blkN ?_  | refine x_blkE ?_  | refine wp_ret ?_  | refine wp_skip ?_  | refine wp_block ?_  | refine wp_exit ?_  | refine c_condT st rfl ?_  | refine c_condF st rfl ?_  | ((first | refine o_move st rfl rfl ?_  | refine o_assign st rfl rfl ?_  | refine o_pickF st rfl rfl rfl ?_); clear st; intro _ st)  | (refine o_alloc st rfl ?_; clear st; intro _ _ _ st)  | ((first | refine o_loadS st rfl (by repeat constructor) rfl rfl ?_  | refine o_load2 st rfl (by repeat constructor) rfl ?_ ); clear st; intro _ st)  | ((first | refine o_storeW st rfl rfl (by repeat constructor) rfl rfl rfl ?_); clear st; intro _ _ st)  | ((first | refine o_extract st rfl rfl rfl ?_  | refine o_len st rfl rfl ?_  | refine o_add64 st rfl rfl rfl (by omega) (by omega) ?_  | refine o_sub64 st rfl rfl rfl (by omega) (by omega) ?_  | refine o_notT st rfl rfl ?_ ); clear st; intro _ st)  | ((first | refine o_lss st rfl rfl rfl ?_ ?_  | refine o_gtr st rfl rfl rfl ?_ ?_  | refine o_neqI st rfl rfl rfl ?_ ?_) <;> clear st <;> intro _ _ st <;> (try (exfalso; omega))) ))
        refine c_drawA (last := 21) hm_ (by decide +kernel) (by decide +kernel) st ?_; clear st; intro _ st
        refine d_v 0 st (by repeat constructor) rfl (by decide +kernel) rfl (v_move st rfl) ?_; clear st; intro _ st
        refine d_v 1 st (by repeat constructor) rfl (by decide +kernel) rfl (v_move st rfl) ?_; clear st; intro _ st
        refine d_v 2 st (by repeat constructor) rfl (by decide +kernel) rfl (v_indexAddr st rfl rfl (by omega) (by omega)) ?_; clear st; intro _ st
        refine d_v 3 st (by repeat constructor) rfl (by decide +kernel) rfl (v_loadS st rfl (by repeat constructor) gk) ?_; clear st; intro _ st
        refine d_one 4 (by decide +kernel) rfl ?_
        refine o_flssW st rfl rfl ik i32_0 t0 rfl ?_; clear st; intro _ st
        refine kh st (by repeat constructor) ?_
        refine d_v 5 st (by repeat constructor) rfl (by decide +kernel) rfl (v_move st rfl) ?_; clear st; intro _ st
        (first | refine d_g 6 st (by repeat constructor) rfl (by decide +kernel) rfl rfl rfl (v_move st rfl) ?_  | refine d_s 6 st (by repeat constructor) rfl (by decide +kernel) rfl rfl rfl rfl ?_ ); clear st; intro _ st
        (first | refine d_g 7 st (by repeat constructor) rfl (by decide +kernel) rfl rfl rfl (v_gtrR (r := true) st rfl rfl (decide_eq_true (by omega))) ?_  | refine d_s 7 st (by repeat constructor) rfl (by decide +kernel) rfl rfl rfl rfl ?_ ); clear st; intro _ st
        (first | refine d_g 8 st (by repeat constructor) rfl (by decide +kernel) rfl rfl rfl (v_move st rfl) ?_  | refine d_s 8 st (by repeat constructor) rfl (by decide +kernel) rfl rfl rfl rfl ?_ ); clear st; intro _ st
        (first | refine d_g 9 st (by repeat constructor) rfl (by decide +kernel) rfl rfl rfl (v_move st rfl) ?_  | refine d_s 9 st (by repeat constructor) rfl (by decide +kernel) rfl rfl rfl rfl ?_ ); clear st; intro _ st
        (first | refine d_g 10 st (by repeat constructor) rfl (by decide +kernel) rfl rfl rfl (v_move st rfl) ?_  | refine d_s 10 st (by repeat constructor) rfl (by decide +kernel) rfl rfl rfl rfl ?_ ); clear st; intro _ st
        (first | refine d_g 11 st (by repeat constructor) rfl (by decide +kernel) rfl rfl rfl (v_indexAddr st rfl rfl (by omega) (by omega)) ?_  | refine d_s 11 st (by repeat constructor) rfl (by decide +kernel) rfl rfl rfl rfl ?_ ); clear st; intro _ st
        (first | refine d_g 12 st (by repeat constructor) rfl (by decide +kernel) rfl rfl rfl (v_loadS st rfl (by repeat constructor) gk) ?_  | refine d_s 12 st (by repeat constructor) rfl (by decide +kernel) rfl rfl rfl rfl ?_ ); clear st; intro _ st
        (first | refine d_g 13 st (by repeat constructor) rfl (by decide +kernel) rfl rfl rfl (v_move st rfl) ?_  | refine d_s 13 st (by repeat constructor) rfl (by decide +kernel) rfl rfl rfl rfl ?_ ); clear st; intro _ st
        (first | refine d_g 14 st (by repeat constructor) rfl (by decide +kernel) rfl rfl rfl (v_move st rfl) ?_  | refine d_s 14 st (by repeat constructor) rfl (by decide +kernel) rfl rfl rfl rfl ?_ ); clear st; intro _ st
        (first | refine d_g 15 st (by repeat constructor) rfl (by decide +kernel) rfl rfl rfl (v_sub64 st rfl rfl (by omega) (by omega)) ?_  | refine d_s 15 st (by repeat constructor) rfl (by decide +kernel) rfl rfl rfl rfl ?_ ); clear st; intro _ st
        (first | refine d_g 16 st (by repeat constructor) rfl (by decide +kernel) rfl rfl rfl (v_indexAddr st rfl rfl (by omega) (by omega)) ?_  | refine d_s 16 st (by repeat constructor) rfl (by decide +kernel) rfl rfl rfl rfl ?_ ); clear st; intro _ st
        (first | refine d_g 17 st (by repeat constructor) rfl (by decide +kernel) rfl rfl rfl (v_loadS st rfl (by repeat constructor) gk1) ?_  | refine d_s 17 st (by repeat constructor) rfl (by decide +kernel) rfl rfl rfl rfl ?_ ); clear st; intro _ st
        (first | (refine d_s 18 st (by repeat constructor) rfl (by decide +kernel) rfl rfl rfl rfl ?_; clear st; intro _ st)  | (refine d_oneG 18 (by decide +kernel) rfl st rfl rfl ?_; refine o_flssW st rfl rfl ik ik1 t1 rfl ?_; clear st; intro _ st; refine kh st (by repeat constructor) ?_))
        (first | refine d_g 19 st (by repeat constructor) rfl (by decide +kernel) rfl rfl rfl (by first | exact v_pickT st rfl rfl | exact v_pickF st rfl rfl) ?_  | refine d_s 19 st (by repeat constructor) rfl (by decide +kernel) rfl rfl rfl rfl ?_ ); clear st; intro _ st
        refine d_v 20 st (by repeat constructor) rfl (by decide +kernel) rfl (by first | exact v_pickT st rfl rfl | exact v_pickF st rfl rfl) ?_; clear st; intro _ st
        refine d_done (by decide +kernel) ?_
        (repeat' (first | refine c_seq ?_  | refine c_region ?_  | refine l_do ?_  | refine l_doG st rfl rfl ?_  | refine l_nil ?_  | refine x_then ?_  | refine x_thenE ?_  | refine x_blkN ?_  | refine x_blkE ?_  | refine wp_ret ?_  | refine wp_skip ?_  | refine wp_block ?_  | refine wp_exit ?_  | refine c_condT st rfl ?_  | refine c_condF st rfl ?_  | ((first | refine o_move st rfl rfl ?_  | refine o_assign st rfl rfl ?_  | refine o_pickF st rfl rfl rfl ?_); clear st; intro _ st)  | (refine o_alloc st rfl ?_; clear st; intro _ _ _ st)  | ((first | refine o_loadS st rfl (by repeat constructor) rfl rfl ?_  | refine o_load2 st rfl (by repeat constructor) rfl ?_ ); clear st; intro _ st)  | ((first | refine o_storeW st rfl rfl (by repeat constructor) rfl rfl rfl ?_); clear st; intro _ _ st)  | ((first | refine o_extract st rfl rfl rfl ?_  | refine o_len st rfl rfl ?_  | refine o_add64 st rfl rfl rfl (by omega) (by omega) ?_  | refine o_sub64 st rfl rfl rfl (by omega) (by omega) ?_  | refine o_notT st rfl rfl ?_ ); clear st; intro _ st)  | ((first | refine o_lss st rfl rfl rfl ?_ ?_  | refine o_gtr st rfl rfl rfl ?_ ?_  | refine o_neqI st rfl rfl rfl ?_ ?_) <;> clear st <;> intro _ _ st <;> (try (exfalso; omega))) ))
        exact ⟨n + 1 - (k + 1), by omega, k + 1, by omega, rfl, (st.fit (by repeat (first | exact trivial  | refine And.intro rfl ?_))).subL (by repeat (first | exact List.Sublist.refl _  | apply List.Sublist.cons_cons  | apply List.Sublist.cons  | exact List.nil_sublist _))⟩
    · obtain rfl : k = n + 1 := by omega
      (repeat' (first | refine c_seq ?_  | refine c_region ?_  | refine l_do ?_  | refine l_doG st rfl rfl ?_  | refine l_nil ?_  | refine x_then ?_  | refine x_thenE ?_  | refine x_blkN ?_  | refine x_blkE ?_  | refine wp_ret ?_  | refine wp_skip ?_  | refine wp_block ?_  | refine wp_exit ?_  | refine c_condT st rfl ?_  | refine c_condF st rfl ?_  | ((first | refine o_move st rfl rfl ?_  | refine o_assign st rfl rfl ?_  | refine o_pickF st rfl rfl rfl ?_); clear st; intro _ st)  | (refine o_alloc st rfl ?_; clear st; intro _ _ _ st)  | ((first | refine o_loadS st rfl (by repeat constructor) rfl rfl ?_  | refine o_load2 st rfl (by repeat constructor) rfl ?_ ); clear st; intro _ st)  | ((first | refine o_storeW st rfl rfl (by repeat constructor) rfl rfl rfl ?_); clear st; intro _ _ st)  | ((first | refine o_extract st rfl rfl rfl ?_  | refine o_len st rfl rfl ?_  | refine o_add64 st rfl rfl rfl (by omega) (by omega) ?_  | refine o_sub64 st rfl rfl rfl (by omega) (by omega) ?_  | refine o_notT st rfl rfl ?_ ); clear st; intro _ st)  | ((first | refine o_lss st rfl rfl rfl ?_ ?_  | refine o_gtr st rfl rfl rfl ?_ ?_  | refine o_neqI st rfl rfl rfl ?_ ?_) <;> clear st <;> intro _ _ st <;> (try (exfalso; omega))) ))
      exact ⟨rfl, (st.fit (by repeat (first | exact trivial  | refine And.intro rfl ?_))).subL (by repeat (first | exact List.Sublist.refl _  | apply List.Sublist.cons_cons  | apply List.Sublist.cons  | exact List.nil_sublist _))⟩
  clear st
  rintro _ _ st
  refine c_meet (fun a w' => ∃ m : Nat, 2 ≤ m ∧ m ≤ 7 ∧ St w Try.f6.ntmps a w' [(0, .slice base code.length cap), (1, .slice base' more.length cap'), (5, .pointer (some ⟨p5, 0, none⟩)), (6, .int .i64 (n : Nat)), (20, .int .i64 (m : Nat))] [eP p5 (.slice (some ⟨b1, 0, none⟩) c.length cap1) (.slice (some ⟨b2, 0, none⟩) c.length cap2), ⟨b1, true, oV 31 (c.map vPt) pad1⟩, ⟨b2, true, oV 29 (c.map vWt) pad2⟩]) ⟨?_⟩ ?_
  · (repeat' (first | (refine o_callR st rfl (cA 3 (by omega) 6 (by omega) _ (hr'.mono st.below)) rfl ?_; clear st; rintro _ ⟨x, rfl, hx⟩ _ _ st)  | refine c_seq ?_  | refine c_region ?_  | refine l_do ?_  | refine l_doG st rfl rfl ?_  | refine l_nil ?_  | refine x_then ?_  | refine x_thenE ?_  | refine x_blkN ?_  | refine x_blkE ?_  | refine wp_ret ?_  | refine wp_skip ?_  | refine wp_block ?_  | refine wp_exit ?_  | refine c_condT st rfl ?_  | refine c_condF st rfl ?_  | ((first | refine o_move st rfl rfl ?_  | refine o_assign st rfl rfl ?_  | refine o_pickF st rfl rfl rfl ?_); clear st; intro _ st)  | (refine o_alloc st rfl ?_; clear st; intro _ _ _ st)  | ((first | refine o_loadS st rfl (by repeat constructor) rfl rfl ?_  | refine o_load2 st rfl (by repeat constructor) rfl ?_ ); clear st; intro _ st)  | ((first | refine o_storeW st rfl rfl (by repeat constructor) rfl rfl rfl ?_); clear st; intro _ _ st)  | ((first | refine o_extract st rfl rfl rfl ?_  | refine o_len st rfl rfl ?_  | refine o_add64 st rfl rfl rfl (by omega) (by omega) ?_  | refine o_sub64 st rfl rfl rfl (by omega) (by omega) ?_  | refine o_notT st rfl rfl ?_ ); clear st; intro _ st)  | ((first | refine o_lss st rfl rfl rfl ?_ ?_  | refine o_gtr st rfl rfl rfl ?_ ?_  | refine o_neqI st rfl rfl rfl ?_ ?_) <;> clear st <;> intro _ _ st <;> (try (exfalso; omega))) ))
    have e0 : (2 : Int) + (x : Int) = ((2 + x : Nat) : Int) := by omega
    rw [e0] at st
    exact ⟨rfl, 2 + x, by omega, by omega, (st.fit (by repeat (first | exact trivial  | refine And.intro rfl ?_))).subL (by repeat (first | exact List.Sublist.refl _  | apply List.Sublist.cons_cons  | apply List.Sublist.cons  | exact List.nil_sublist _))⟩
  clear st
  rintro _ _ ⟨m, hm2, hm7, st⟩
  obtain ⟨e, he⟩ := hev m hm2 hm7
  have q := fun v w hv => EvenTimes_ok c n d.C.ts d.C.ks d.C.ls d.C.s h.ch.p h.ch.g h.ch.s h.ch.f m hm2 (by omega) e.sh e.D he.sh he.D v w hv
  refine c_meet (fun a w' => ∃ (bE capE : Nat) (padE : List Value), St w Try.f6.ntmps a w' [(0, .slice base code.length cap), (5, .pointer (some ⟨p5, 0, none⟩)), (6, .int .i64 (n : Nat)), (20, .int .i64 (m : Nat)), (21, .slice (some ⟨bE, 0, none⟩) m capE), (22, .bool true)] [⟨bE, true, oV 29 (((List.range m).map fun k => (e.D k).t).map vF) padE⟩, eP p5 (.slice (some ⟨b1, 0, none⟩) c.length cap1) (.slice (some ⟨b2, 0, none⟩) c.length cap2), ⟨b1, true, oV 31 (c.map vPt) pad1⟩, ⟨b2, true, oV 29 (c.map vWt) pad2⟩]) ⟨?_⟩ ?_
  · (repeat' (first | (refine o_callM1 st rfl (q _ _ (crv_own (st.heap (by repeat constructor)) (st.heap (by repeat constructor)))) rfl ?_; clear st; rintro _ bE _ ⟨capE, padE, rfl, rfl⟩ _ _ st)  | refine c_seq ?_  | refine c_region ?_  | refine l_do ?_  | refine l_doG st rfl rfl ?_  | refine l_nil ?_  | refine x_then ?_  | refine x_thenE ?_  | refine x_blkN ?_  | refine x_blkE ?_  | refine wp_ret ?_  | refine wp_skip ?_  | refine wp_block ?_  | refine wp_exit ?_  | refine c_condT st rfl ?_  | refine c_condF st rfl ?_  | ((first | refine o_move st rfl rfl ?_  | refine o_assign st rfl rfl ?_  | refine o_pickF st rfl rfl rfl ?_); clear st; intro _ st)  | (refine o_alloc st rfl ?_; clear st; intro _ _ _ st)  | ((first | refine o_loadS st rfl (by repeat constructor) rfl rfl ?_  | refine o_load2 st rfl (by repeat constructor) rfl ?_ ); clear st; intro _ st)  | ((first | refine o_storeW st rfl rfl (by repeat constructor) rfl rfl rfl ?_); clear st; intro _ _ st)  | ((first | refine o_extract st rfl rfl rfl ?_  | refine o_len st rfl rfl ?_  | refine o_add64 st rfl rfl rfl (by omega) (by omega) ?_  | refine o_sub64 st rfl rfl rfl (by omega) (by omega) ?_  | refine o_notT st rfl rfl ?_ ); clear st; intro _ st)  | ((first | refine o_lss st rfl rfl rfl ?_ ?_  | refine o_gtr st rfl rfl rfl ?_ ?_  | refine o_neqI st rfl rfl rfl ?_ ?_) <;> clear st <;> intro _ _ st <;> (try (exfalso; omega))) ))
    exact ⟨rfl, bE, capE, padE, (st.fit (by repeat (first | exact trivial  | refine And.intro rfl ?_))).subL (by repeat (first | exact List.Sublist.refl _  | apply List.Sublist.cons_cons  | apply List.Sublist.cons  | exact List.nil_sublist _))⟩
  clear st
  rintro _ _ ⟨bE, capE, padE, st⟩
  have q := fun v w hv => TimeAlong_ok c n d.C.ts d.C.ks d.C.ls d.C.s h.ch.p h.ch.g h.ch.s h.ch.f 1056964608 e.H he.H v w hv
  refine c_meet (fun a w' => St w Try.f6.ntmps a w' [(0, .slice base code.length cap), (5, .pointer (some ⟨p5, 0, none⟩)), (6, .int .i64 (n : Nat)), (20, .int .i64 (m : Nat)), (21, .slice (some ⟨bE, 0, none⟩) m capE), (22, .bool true), (23, .float .f32 e.H.t), (24, .bool true)] [⟨bE, true, oV 29 (((List.range m).map fun k => (e.D k).t).map vF) padE⟩, eP p5 (.slice (some ⟨b1, 0, none⟩) c.length cap1) (.slice (some ⟨b2, 0, none⟩) c.length cap2), ⟨b1, true, oV 31 (c.map vPt) pad1⟩, ⟨b2, true, oV 29 (c.map vWt) pad2⟩]) ⟨?_⟩ ?_
  · (repeat' (first | (refine o_callV st rfl (q _ _ (crv_own (st.heap (by repeat constructor)) (st.heap (by repeat constructor)))) rfl ?_; clear st; intro _ _ st)  | refine c_seq ?_  | refine c_region ?_  | refine l_do ?_  | refine l_doG st rfl rfl ?_  | refine l_nil ?_  | refine x_then ?_  | refine x_thenE ?_  | refine x_blkN ?_  | refine x_blkE ?_  | refine wp_ret ?_  | refine wp_skip ?_  | refine wp_block ?_  | refine wp_exit ?_  | refine c_condT st rfl ?_  | refine c_condF st rfl ?_  | ((first | refine o_move st rfl rfl ?_  | refine o_assign st rfl rfl ?_  | refine o_pickF st rfl rfl rfl ?_); clear st; intro _ st)  | (refine o_alloc st rfl ?_; clear st; intro _ _ _ st)  | ((first | refine o_loadS st rfl (by repeat constructor) rfl rfl ?_  | refine o_load2 st rfl (by repeat constructor) rfl ?_ ); clear st; intro _ st)  | ((first | refine o_storeW st rfl rfl (by repeat constructor) rfl rfl rfl ?_); clear st; intro _ _ st)  | ((first | refine o_extract st rfl rfl rfl ?_  | refine o_len st rfl rfl ?_  | refine o_add64 st rfl rfl rfl (by omega) (by omega) ?_  | refine o_sub64 st rfl rfl rfl (by omega) (by omega) ?_  | refine o_notT st rfl rfl ?_ ); clear st; intro _ st)  | ((first | refine o_lss st rfl rfl rfl ?_ ?_  | refine o_gtr st rfl rfl rfl ?_ ?_  | refine o_neqI st rfl rfl rfl ?_ ?_) <;> clear st <;> intro _ _ st <;> (try (exfalso; omega))) ))
    exact ⟨rfl, (st.fit (by repeat (first | exact trivial  | refine And.intro rfl ?_))).subL (by repeat (first | exact List.Sublist.refl _  | apply List.Sublist.cons_cons  | apply List.Sublist.cons  | exact List.nil_sublist _))⟩
  clear st
  rintro _ _ st
  have gE : ∀ (k : Nat) (j : Int), k < m → j = (k : Int) → (((List.range m).map fun k => (e.D k).t).map vF ++ padE).toArray[0 + j.toNat * 1]? = some (vF (e.D k).t) := by
    rintro k j hk rfl
    have := oV_get (pad := padE) (vs := ((List.range m).map fun k => (e.D k).t).map vF) (k := k) (by rw [List.length_map, List.length_map, List.length_range]; omega)
    rw [this, List.getElem_map, List.getElem_map, List.getElem_range]
  have gE0 := gE 0 0 (by omega) rfl
  have gEm := gE (m - 1) ((m : Int) - 1) (by omega) (by omega)
  have q := fun w => b10Gap_ok e.w 4607182418800017408 e.g he.g he.iw i64_1' w
  have iH := he.H.gd.is
  have hH1 := he.h01.lo
  have hH2 := he.h01.hi
  have i00 := (he.D 0 (by omega)).gd.is
  have hz := he.z
  have hgl := he.gl
  refine c_meet (fun a w' => St w Try.f6.ntmps a w' [(0, .slice base code.length cap), (5, .pointer (some ⟨p5, 0, none⟩)), (6, .int .i64 (n : Nat)), (21, .slice (some ⟨bE, 0, none⟩) m capE)] [⟨bE, true, oV 29 (((List.range m).map fun k => (e.D k).t).map vF) padE⟩, eP p5 (.slice (some ⟨b1, 0, none⟩) c.length cap1) (.slice (some ⟨b2, 0, none⟩) c.length cap2), ⟨b1, true, oV 31 (c.map vPt) pad1⟩, ⟨b2, true, oV 29 (c.map vWt) pad2⟩]) ⟨?_⟩ ?_
  · (repeat' (first | (refine o_callV st rfl (q _) rfl ?_; clear st; intro _ _ st)  | (refine o_flssW st rfl rfl iH i32_0 hH1 rfl ?_; clear st; intro _ st)  | (refine o_fgtrW st rfl rfl iH i32_1 hH2 rfl ?_; clear st; intro _ st)  | (refine o_fneqW st rfl rfl i00 i32_0 hz rfl ?_; clear st; intro _ st)  | (refine o_indexAddr st rfl rfl (by omega) (by omega) rfl ?_; clear st; intro _ st)  | (refine o_loadS st rfl (by repeat constructor) gE0 rfl ?_; clear st; intro _ st)  | (refine o_loadS st rfl (by repeat constructor) gEm rfl ?_; clear st; intro _ st)  | (refine o_fcvW st rfl he.w rfl ?_; clear st; intro _ st)  | (refine o_fgtrW st rfl rfl hgl.is i64_001 hgl.le rfl ?_; clear st; intro _ st)  | refine c_seq ?_  | refine c_region ?_  | refine l_do ?_  | refine l_doG st rfl rfl ?_  | refine l_nil ?_  | refine x_then ?_  | refine x_thenE ?_  | refine x_blkN ?_  | refine x_blkE ?_  | refine wp_ret ?_  | refine wp_skip ?_  | refine wp_block ?_  | refine wp_exit ?_  | refine c_condT st rfl ?_  | refine c_condF st rfl ?_  | ((first | refine o_move st rfl rfl ?_  | refine o_assign st rfl rfl ?_  | refine o_pickF st rfl rfl rfl ?_); clear st; intro _ st)  | (refine o_alloc st rfl ?_; clear st; intro _ _ _ st)  | ((first | refine o_loadS st rfl (by repeat constructor) rfl rfl ?_  | refine o_load2 st rfl (by repeat constructor) rfl ?_ ); clear st; intro _ st)  | ((first | refine o_storeW st rfl rfl (by repeat constructor) rfl rfl rfl ?_); clear st; intro _ _ st)  | ((first | refine o_extract st rfl rfl rfl ?_  | refine o_len st rfl rfl ?_  | refine o_add64 st rfl rfl rfl (by omega) (by omega) ?_  | refine o_sub64 st rfl rfl rfl (by omega) (by omega) ?_  | refine o_notT st rfl rfl ?_ ); clear st; intro _ st)  | ((first | refine o_lss st rfl rfl rfl ?_ ?_  | refine o_gtr st rfl rfl rfl ?_ ?_  | refine o_neqI st rfl rfl rfl ?_ ?_) <;> clear st <;> intro _ _ st <;> (try (exfalso; omega))) ))
    exact ⟨rfl, (st.fit (by repeat (first | exact trivial  | refine And.intro rfl ?_))).subL (by repeat (first | exact List.Sublist.refl _  | apply List.Sublist.cons_cons  | apply List.Sublist.cons  | exact List.nil_sublist _))⟩
  clear st
  rintro _ _ st
  refine c_meet (fun a w' => St w Try.f6.ntmps a w' [(0, .slice base code.length cap), (6, .int .i64 (n : Nat))] []) ⟨?_⟩ ?_
  · (repeat' (first | refine c_seq ?_  | refine c_region ?_  | refine l_do ?_  | refine l_doG st rfl rfl ?_  | refine l_nil ?_  | refine x_then ?_  | refine x_thenE ?_  | refine x_blkN ?_  | refine x_blkE ?_  | refine wp_ret ?_  | refine wp_skip ?_  | refine wp_block ?_  | refine wp_exit ?_  | refine c_condT st rfl ?_  | refine c_condF st rfl ?_  | ((first | refine o_move st rfl rfl ?_  | refine o_assign st rfl rfl ?_  | refine o_pickF st rfl rfl rfl ?_); clear st; intro _ st)  | (refine o_alloc st rfl ?_; clear st; intro _ _ _ st)  | ((first | refine o_loadS st rfl (by repeat constructor) rfl rfl ?_  | refine o_load2 st rfl (by repeat constructor) rfl ?_ ); clear st; intro _ st)  | ((first | refine o_storeW st rfl rfl (by repeat constructor) rfl rfl rfl ?_); clear st; intro _ _ st)  | ((first | refine o_extract st rfl rfl rfl ?_  | refine o_len st rfl rfl ?_  | refine o_add64 st rfl rfl rfl (by omega) (by omega) ?_  | refine o_sub64 st rfl rfl rfl (by omega) (by omega) ?_  | refine o_notT st rfl rfl ?_ ); clear st; intro _ st)  | ((first | refine o_lss st rfl rfl rfl ?_ ?_  | refine o_gtr st rfl rfl rfl ?_ ?_  | refine o_neqI st rfl rfl rfl ?_ ?_) <;> clear st <;> intro _ _ st <;> (try (exfalso; omega))) ))
    refine wp_loop_ghost (fun y0 a w' => ∃ k : Nat, k ≤ m ∧ y0 = m - k ∧ St w Try.f6.ntmps a w' [(0, .slice base code.length cap), (5, .pointer (some ⟨p5, 0, none⟩)), (6, .int .i64 (n : Nat)), (21, .slice (some ⟨bE, 0, none⟩) m capE), (260, .int .i64 (m : Nat)), (261, .int .i64 (k : Nat))] [⟨bE, true, oV 29 (((List.range m).map fun k => (e.D k).t).map vF) padE⟩, eP p5 (.slice (some ⟨b1, 0, none⟩) c.length cap1) (.slice (some ⟨b2, 0, none⟩) c.length cap2), ⟨b1, true, oV 31 (c.map vPt) pad1⟩, ⟨b2, true, oV 29 (c.map vWt) pad2⟩]) m ⟨0, by omega, by omega, (st.fit (by repeat (first | exact trivial  | refine And.intro rfl ?_))).subL (by repeat (first | exact List.Sublist.refl _  | apply List.Sublist.cons_cons  | apply List.Sublist.cons  | exact List.nil_sublist _))⟩ ?_
    clear st
    rintro _ a w' ⟨k, hk, rfl, st⟩
    by_cases hlt : k < m
    · have gk := gE k (k : Nat) hlt rfl
      have t0 := (he.t01 k hlt).lo
      have t1 := (he.t01 k hlt).hi
      have ik := (he.D k hlt).gd.is
      by_cases hk0 : k = 0
      · (repeat' (first | refine c_seq ?_  | refine c_region ?_  | refine l_do ?_  | refine l_doG st rfl rfl ?_  | refine l_nil ?_  | refine x_then ?_  | refine x_thenE ?_  | refine x_blkN ?_  | refine x_blkE ?_  | refine wp_ret ?_  | refine wp_skip ?_  | refine wp_block ?_  | refine wp_exit ?_  | refine c_condT st rfl ?_  | refine c_condF st rfl ?_  | ((first | refine o_move st rfl rfl ?_  | refine o_assign st rfl rfl ?_  | refine o_pickF st rfl rfl rfl ?_); clear st; intro _ st)  | (refine o_alloc st rfl ?_; clear st; intro _ _ _ st)  | ((first | refine o_loadS st rfl (by repeat constructor) rfl rfl ?_  | refine o_load2 st rfl (by repeat constructor) rfl ?_ ); clear st; intro _ st)  | ((first | refine o_storeW st rfl rfl (by repeat constructor) rfl rfl rfl ?_); clear st; intro _ _ st)  | ((first | refine o_extract st rfl rfl rfl ?_  | refine o_len st rfl rfl ?_  | refine o_add64 st rfl rfl rfl (by omega) (by omega) ?_  | refine o_sub64 st rfl rfl rfl (by omega) (by omega) ?_  | refine o_notT st rfl rfl ?_ ); clear st; intro _ st)  | ((first | refine o_lss st rfl rfl rfl ?_ ?_  | refine o_gtr st rfl rfl rfl ?_ ?_  | refine o_neqI st rfl rfl rfl ?_ ?_) <;> clear st <;> intro _ _ st <;> (try (exfalso; omega))) ))
        refine c_drawA (last := 28) hm_ (by decide +kernel) (by decide +kernel) st ?_; clear st; intro _ st
        refine d_v 0 st (by repeat constructor) rfl (by decide +kernel) rfl (v_move st rfl) ?_; clear st; intro _ st
        refine d_v 1 st (by repeat constructor) rfl (by decide +kernel) rfl (v_move st rfl) ?_; clear st; intro _ st
        refine d_v 2 st (by repeat constructor) rfl (by decide +kernel) rfl (v_indexAddr st rfl rfl (by omega) (by omega)) ?_; clear st; intro _ st
        refine d_v 3 st (by repeat constructor) rfl (by decide +kernel) rfl (v_loadS st rfl (by repeat constructor) gk) ?_; clear st; intro _ st
        refine d_one 4 (by decide +kernel) rfl ?_
        refine o_flssW st rfl rfl ik i32_0 t0 rfl ?_; clear st; intro _ st
        refine kh st (by repeat constructor) ?_
        refine d_v 5 st (by repeat constructor) rfl (by decide +kernel) rfl (v_move st rfl) ?_; clear st; intro _ st
        (first | refine d_g 6 st (by repeat constructor) rfl (by decide +kernel) rfl rfl rfl (v_move st rfl) ?_  | refine d_s 6 st (by repeat constructor) rfl (by decide +kernel) rfl rfl rfl rfl ?_ ); clear st; intro _ st
        (first | refine d_g 7 st (by repeat constructor) rfl (by decide +kernel) rfl rfl rfl (v_move st rfl) ?_  | refine d_s 7 st (by repeat constructor) rfl (by decide +kernel) rfl rfl rfl rfl ?_ ); clear st; intro _ st
        (first | refine d_g 8 st (by repeat constructor) rfl (by decide +kernel) rfl rfl rfl (v_indexAddr st rfl rfl (by omega) (by omega)) ?_  | refine d_s 8 st (by repeat constructor) rfl (by decide +kernel) rfl rfl rfl rfl ?_ ); clear st; intro _ st
        (first | refine d_g 9 st (by repeat constructor) rfl (by decide +kernel) rfl rfl rfl (v_loadS st rfl (by repeat constructor) gk) ?_  | refine d_s 9 st (by repeat constructor) rfl (by decide +kernel) rfl rfl rfl rfl ?_ ); clear st; intro _ st
        (first | (refine d_s 10 st (by repeat constructor) rfl (by decide +kernel) rfl rfl rfl rfl ?_; clear st; intro _ st)  | (refine d_oneG 10 (by decide +kernel) rfl st rfl rfl ?_; refine o_fgtrW st rfl rfl ik i32_1 t1 rfl ?_; clear st; intro _ st; refine kh st (by repeat constructor) ?_))
        refine d_v 11 st (by repeat constructor) rfl (by decide +kernel) rfl (by first | exact v_pickT st rfl rfl | exact v_pickF st rfl rfl) ?_; clear st; intro _ st
        refine d_v 12 st (by repeat constructor) rfl (by decide +kernel) rfl (v_move st rfl) ?_; clear st; intro _ st
        (first | refine d_g 13 st (by repeat constructor) rfl (by decide +kernel) rfl rfl rfl (v_move st rfl) ?_  | refine d_s 13 st (by repeat constructor) rfl (by decide +kernel) rfl rfl rfl rfl ?_ ); clear st; intro _ st
        (first | refine d_g 14 st (by repeat constructor) rfl (by decide +kernel) rfl rfl rfl (v_gtrR (r := false) st rfl rfl (decide_eq_false (by omega))) ?_  | refine d_s 14 st (by repeat constructor) rfl (by decide +kernel) rfl rfl rfl rfl ?_ ); clear st; intro _ st
        (first | refine d_g 15 st (by repeat constructor) rfl (by decide +kernel) rfl rfl rfl (v_move st rfl) ?_  | refine d_s 15 st (by repeat constructor) rfl (by decide +kernel) rfl rfl rfl rfl ?_ ); clear st; intro _ st
        (first | refine d_g 16 st (by repeat constructor) rfl (by decide +kernel) rfl rfl rfl (v_move st rfl) ?_  | refine d_s 16 st (by repeat constructor) rfl (by decide +kernel) rfl rfl rfl rfl ?_ ); clear st; intro _ st
        (first | refine d_g 17 st (by repeat constructor) rfl (by decide +kernel) rfl rfl rfl (v_move st rfl) ?_  | refine d_s 17 st (by repeat constructor) rfl (by decide +kernel) rfl rfl rfl rfl ?_ ); clear st; intro _ st
        (first | refine d_g 18 st (by repeat constructor) rfl (by decide +kernel) rfl rfl rfl (v_indexAddr st rfl rfl (by omega) (by omega)) ?_  | refine d_s 18 st (by repeat constructor) rfl (by decide +kernel) rfl rfl rfl rfl ?_ ); clear st; intro _ st
        (first | refine d_g 19 st (by repeat constructor) rfl (by decide +kernel) rfl rfl rfl (by first | exact v_load3 st rfl (by repeat constructor) | exact v_loadS st rfl (by repeat constructor) rfl) ?_  | refine d_s 19 st (by repeat constructor) rfl (by decide +kernel) rfl rfl rfl rfl ?_ ); clear st; intro _ st
        (first | refine d_g 20 st (by repeat constructor) rfl (by decide +kernel) rfl rfl rfl (v_move st rfl) ?_  | refine d_s 20 st (by repeat constructor) rfl (by decide +kernel) rfl rfl rfl rfl ?_ ); clear st; intro _ st
        (first | refine d_g 21 st (by repeat constructor) rfl (by decide +kernel) rfl rfl rfl (v_move st rfl) ?_  | refine d_s 21 st (by repeat constructor) rfl (by decide +kernel) rfl rfl rfl rfl ?_ ); clear st; intro _ st
        (first | refine d_g 22 st (by repeat constructor) rfl (by decide +kernel) rfl rfl rfl (v_sub64 st rfl rfl (by omega) (by omega)) ?_  | refine d_s 22 st (by repeat constructor) rfl (by decide +kernel) rfl rfl rfl rfl ?_ ); clear st; intro _ st
        (first | refine d_g 23 st (by repeat constructor) rfl (by decide +kernel) rfl rfl rfl (v_indexAddr st rfl rfl (by omega) (by omega)) ?_  | refine d_s 23 st (by repeat constructor) rfl (by decide +kernel) rfl rfl rfl rfl ?_ ); clear st; intro _ st
        (first | refine d_g 24 st (by repeat constructor) rfl (by decide +kernel) rfl rfl rfl (by first | exact v_load3 st rfl (by repeat constructor) | exact v_loadS st rfl (by repeat constructor) rfl) ?_  | refine d_s 24 st (by repeat constructor) rfl (by decide +kernel) rfl rfl rfl rfl ?_ ); clear st; intro _ st
        (first | (refine d_s 25 st (by repeat constructor) rfl (by decide +kernel) rfl rfl rfl rfl ?_; clear st; intro _ st)  | (refine d_oneG 25 (by decide +kernel) rfl st rfl rfl ?_; (first | fail); refine kh st (by repeat constructor) ?_))
        (first | refine d_g 26 st (by repeat constructor) rfl (by decide +kernel) rfl rfl rfl (by first | exact v_pickT st rfl rfl | exact v_pickF st rfl rfl) ?_  | refine d_s 26 st (by repeat constructor) rfl (by decide +kernel) rfl rfl rfl rfl ?_ ); clear st; intro _ st
        refine d_v 27 st (by repeat constructor) rfl (by decide +kernel) rfl (by first | exact v_pickT st rfl rfl | exact v_pickF st rfl rfl) ?_; clear st; intro _ st
        refine d_done (by decide +kernel) ?_
        (repeat' (first | refine c_seq ?_  | refine c_region ?_  | refine l_do ?_  | refine l_doG st rfl rfl ?_  | refine l_nil ?_  | refine x_then ?_  | refine x_thenE ?_  | refine x_blkN ?_  | refine x_blkE ?_  | refine wp_ret ?_  | refine wp_skip ?_  | refine wp_block ?_  | refine wp_exit ?_  | refine c_condT st rfl ?_  | refine c_condF st rfl ?_  | ((first | refine o_move st rfl rfl ?_  | refine o_assign st rfl rfl ?_  | refine o_pickF st rfl rfl rfl ?_); clear st; intro _ st)  | (refine o_alloc st rfl ?_; clear st; intro _ _ _ st)  | ((first | refine o_loadS st rfl (by repeat constructor) rfl rfl ?_  | refine o_load2 st rfl (by repeat constructor) rfl ?_ ); clear st; intro _ st)  | ((first | refine o_storeW st rfl rfl (by repeat constructor) rfl rfl rfl ?_); clear st; intro _ _ st)  | ((first | refine o_extract st rfl rfl rfl ?_  | refine o_len st rfl rfl ?_  | refine o_add64 st rfl rfl rfl (by omega) (by omega) ?_  | refine o_sub64 st rfl rfl rfl (by omega) (by omega) ?_  | refine o_notT st rfl rfl ?_ ); clear st; intro _ st)  | ((first | refine o_lss st rfl rfl rfl ?_ ?_  | refine o_gtr st rfl rfl rfl ?_ ?_  | refine o_neqI st rfl rfl rfl ?_ ?_) <;> clear st <;> intro _ _ st <;> (try (exfalso; omega))) ))
        exact ⟨m - (k + 1), by omega, k + 1, by omega, rfl, (st.fit (by repeat (first | exact trivial  | refine And.intro rfl ?_))).subL (by repeat (first | exact List.Sublist.refl _  | apply List.Sublist.cons_cons  | apply List.Sublist.cons  | exact List.nil_sublist _))⟩
      · have gk1 := gE (k - 1) ((k : Int) - 1) (by omega) (by omega)
        have t2 := he.up k (by omega) (by omega)
        have ik1 := (he.D (k - 1) (by omega)).gd.is
        (repeat' (first | refine c_seq ?_  | refine c_region ?_  | refine l_do ?_  | refine l_doG st rfl rfl ?_  | refine l_nil ?_  | refine x_then ?_  | refine x_thenE ?_  | refine x_blkN ?_  | refine x_blkE ?_  | refine wp_ret ?_  | refine wp_skip ?_  | refine wp_block ?_  | refine wp_exit ?_  | refine c_condT st rfl ?_  | refine c_condF st rfl ?_  | ((first | refine o_move st rfl rfl ?_  | refine o_assign st rfl rfl ?_  | refine o_pickF st rfl rfl rfl ?_); clear st; intro _ st)  | (refine o_alloc st rfl ?_; clear st; intro _ _ _ st)  | ((first | refine o_loadS st rfl (by repeat constructor) rfl rfl ?_  | refine o_load2 st rfl (by repeat constructor) rfl ?_ ); clear st; intro _ st)  | ((first | refine o_storeW st rfl rfl (by repeat constructor) rfl rfl rfl ?_); clear st; intro _ _ st)  | ((first | refine o_extract st rfl rfl rfl ?_  | refine o_len st rfl rfl ?_  | refine o_add64 st rfl rfl rfl (by omega) (by omega) ?_  | refine o_sub64 st rfl rfl rfl (by omega) (by omega) ?_  | refine o_notT st rfl rfl ?_ ); clear st; intro _ st)  | ((first | refine o_lss st rfl rfl rfl ?_ ?_  | refine o_gtr st rfl rfl rfl ?_ ?_  | refine o_neqI st rfl rfl rfl ?_ ?_) <;> clear st <;> intro _ _ st <;> (try (exfalso; omega))) ))
        refine c_drawA (last := 28) hm_ (by decide +kernel) (by decide +kernel) st ?_; clear st; intro _ st
        refine d_v 0 st (by repeat constructor) rfl (by decide +kernel) rfl (v_move st rfl) ?_; clear st; intro _ st
        refine d_v 1 st (by repeat constructor) rfl (by decide +kernel) rfl (v_move st rfl) ?_; clear st; intro _ st
        refine d_v 2 st (by repeat constructor) rfl (by decide +kernel) rfl (v_indexAddr st rfl rfl (by omega) (by omega)) ?_; clear st; intro _ st
        refine d_v 3 st (by repeat constructor) rfl (by decide +kernel) rfl (v_loadS st rfl (by repeat constructor) gk) ?_; clear st; intro _ st
        refine d_one 4 (by decide +kernel) rfl ?_
        refine o_flssW st rfl rfl ik i32_0 t0 rfl ?_; clear st; intro _ st
        refine kh st (by repeat constructor) ?_
        refine d_v 5 st (by repeat constructor) rfl (by decide +kernel) rfl (v_move st rfl) ?_; clear st; intro _ st
        (first | refine d_g 6 st (by repeat constructor) rfl (by decide +kernel) rfl rfl rfl (v_move st rfl) ?_  | refine d_s 6 st (by repeat constructor) rfl (by decide +kernel) rfl rfl rfl rfl ?_ ); clear st; intro _ st
        (first | refine d_g 7 st (by repeat constructor) rfl (by decide +kernel) rfl rfl rfl (v_move st rfl) ?_  | refine d_s 7 st (by repeat constructor) rfl (by decide +kernel) rfl rfl rfl rfl ?_ ); clear st; intro _ st
        (first | refine d_g 8 st (by repeat constructor) rfl (by decide +kernel) rfl rfl rfl (v_indexAddr st rfl rfl (by omega) (by omega)) ?_  | refine d_s 8 st (by repeat constructor) rfl (by decide +kernel) rfl rfl rfl rfl ?_ ); clear st; intro _ st
        (first | refine d_g 9 st (by repeat constructor) rfl (by decide +kernel) rfl rfl rfl (v_loadS st rfl (by repeat constructor) gk) ?_  | refine d_s 9 st (by repeat constructor) rfl (by decide +kernel) rfl rfl rfl rfl ?_ ); clear st; intro _ st
        (first | (refine d_s 10 st (by repeat constructor) rfl (by decide +kernel) rfl rfl rfl rfl ?_; clear st; intro _ st)  | (refine d_oneG 10 (by decide +kernel) rfl st rfl rfl ?_; refine o_fgtrW st rfl rfl ik i32_1 t1 rfl ?_; clear st; intro _ st; refine kh st (by repeat constructor) ?_))
        refine d_v 11 st (by repeat constructor) rfl (by decide +kernel) rfl (by first | exact v_pickT st rfl rfl | exact v_pickF st rfl rfl) ?_; clear st; intro _ st
        refine d_v 12 st (by repeat constructor) rfl (by decide +kernel) rfl (v_move st rfl) ?_; clear st; intro _ st
        (first | refine d_g 13 st (by repeat constructor) rfl (by decide +kernel) rfl rfl rfl (v_move st rfl) ?_  | refine d_s 13 st (by repeat constructor) rfl (by decide +kernel) rfl rfl rfl rfl ?_ ); clear st; intro _ st
        (first | refine d_g 14 st (by repeat constructor) rfl (by decide +kernel) rfl rfl rfl (v_gtrR (r := true) st rfl rfl (decide_eq_true (by omega))) ?_  | refine d_s 14 st (by repeat constructor) rfl (by decide +kernel) rfl rfl rfl rfl ?_ ); clear st; intro _ st
        (first | refine d_g 15 st (by repeat constructor) rfl (by decide +kernel) rfl rfl rfl (v_move st rfl) ?_  | refine d_s 15 st (by repeat constructor) rfl (by decide +kernel) rfl rfl rfl rfl ?_ ); clear st; intro _ st
        (first | refine d_g 16 st (by repeat constructor) rfl (by decide +kernel) rfl rfl rfl (v_move st rfl) ?_  | refine d_s 16 st (by repeat constructor) rfl (by decide +kernel) rfl rfl rfl rfl ?_ ); clear st; intro _ st
        (first | refine d_g 17 st (by repeat constructor) rfl (by decide +kernel) rfl rfl rfl (v_move st rfl) ?_  | refine d_s 17 st (by repeat constructor) rfl (by decide +kernel) rfl rfl rfl rfl ?_ ); clear st; intro _ st
        (first | refine d_g 18 st (by repeat constructor) rfl (by decide +kernel) rfl rfl rfl (v_indexAddr st rfl rfl (by omega) (by omega)) ?_  | refine d_s 18 st (by repeat constructor) rfl (by decide +kernel) rfl rfl rfl rfl ?_ ); clear st; intro _ st
        (first | refine d_g 19 st (by repeat constructor) rfl (by decide +kernel) rfl rfl rfl (v_loadS st rfl (by repeat constructor) gk) ?_  | refine d_s 19 st (by repeat constructor) rfl (by decide +kernel) rfl rfl rfl rfl ?_ ); clear st; intro _ st
        (first | refine d_g 20 st (by repeat constructor) rfl (by decide +kernel) rfl rfl rfl (v_move st rfl) ?_  | refine d_s 20 st (by repeat constructor) rfl (by decide +kernel) rfl rfl rfl rfl ?_ ); clear st; intro _ st
        (first | refine d_g 21 st (by repeat constructor) rfl (by decide +kernel) rfl rfl rfl (v_move st rfl) ?_  | refine d_s 21 st (by repeat constructor) rfl (by decide +kernel) rfl rfl rfl rfl ?_ ); clear st; intro _ st
        (first | refine d_g 22 st (by repeat constructor) rfl (by decide +kernel) rfl rfl rfl (v_sub64 st rfl rfl (by omega) (by omega)) ?_  | refine d_s 22 st (by repeat constructor) rfl (by decide +kernel) rfl rfl rfl rfl ?_ ); clear st; intro _ st
        (first | refine d_g 23 st (by repeat constructor) rfl (by decide +kernel) rfl rfl rfl (v_indexAddr st rfl rfl (by omega) (by omega)) ?_  | refine d_s 23 st (by repeat constructor) rfl (by decide +kernel) rfl rfl rfl rfl ?_ ); clear st; intro _ st
        (first | refine d_g 24 st (by repeat constructor) rfl (by decide +kernel) rfl rfl rfl (v_loadS st rfl (by repeat constructor) gk1) ?_  | refine d_s 24 st (by repeat constructor) rfl (by decide +kernel) rfl rfl rfl rfl ?_ ); clear st; intro _ st
        (first | (refine d_s 25 st (by repeat constructor) rfl (by decide +kernel) rfl rfl rfl rfl ?_; clear st; intro _ st)  | (refine d_oneG 25 (by decide +kernel) rfl st rfl rfl ?_; refine o_flssW st rfl rfl ik ik1 t2 rfl ?_; clear st; intro _ st; refine kh st (by repeat constructor) ?_))
        (first | refine d_g 26 st (by repeat constructor) rfl (by decide +kernel) rfl rfl rfl (by first | exact v_pickT st rfl rfl | exact v_pickF st rfl rfl) ?_  | refine d_s 26 st (by repeat constructor) rfl (by decide +kernel) rfl rfl rfl rfl ?_ ); clear st; intro _ st
        refine d_v 27 st (by repeat constructor) rfl (by decide +kernel) rfl (by first | exact v_pickT st rfl rfl | exact v_pickF st rfl rfl) ?_; clear st; intro _ st
        refine d_done (by decide +kernel) ?_
        (repeat' (first | refine c_seq ?_  | refine c_region ?_  | refine l_do ?_  | refine l_doG st rfl rfl ?_  | refine l_nil ?_  | refine x_then ?_  | refine x_thenE ?_  | refine x_blkN ?_  | refine x_blkE ?_  | refine wp_ret ?_  | refine wp_skip ?_  | refine wp_block ?_  | refine wp_exit ?_  | refine c_condT st rfl ?_  | refine c_condF st rfl ?_  | ((first | refine o_move st rfl rfl ?_  | refine o_assign st rfl rfl ?_  | refine o_pickF st rfl rfl rfl ?_); clear st; intro _ st)  | (refine o_alloc st rfl ?_; clear st; intro _ _ _ st)  | ((first | refine o_loadS st rfl (by repeat constructor) rfl rfl ?_  | refine o_load2 st rfl (by repeat constructor) rfl ?_ ); clear st; intro _ st)  | ((first | refine o_storeW st rfl rfl (by repeat constructor) rfl rfl rfl ?_); clear st; intro _ _ st)  | ((first | refine o_extract st rfl rfl rfl ?_  | refine o_len st rfl rfl ?_  | refine o_add64 st rfl rfl rfl (by omega) (by omega) ?_  | refine o_sub64 st rfl rfl rfl (by omega) (by omega) ?_  | refine o_notT st rfl rfl ?_ ); clear st; intro _ st)  | ((first | refine o_lss st rfl rfl rfl ?_ ?_  | refine o_gtr st rfl rfl rfl ?_ ?_  | refine o_neqI st rfl rfl rfl ?_ ?_) <;> clear st <;> intro _ _ st <;> (try (exfalso; omega))) ))
        exact ⟨m - (k + 1), by omega, k + 1, by omega, rfl, (st.fit (by repeat (first | exact trivial  | refine And.intro rfl ?_))).subL (by repeat (first | exact List.Sublist.refl _  | apply List.Sublist.cons_cons  | apply List.Sublist.cons  | exact List.nil_sublist _))⟩
    · obtain rfl : k = m := by omega
      (repeat' (first | refine c_seq ?_  | refine c_region ?_  | refine l_do ?_  | refine l_doG st rfl rfl ?_  | refine l_nil ?_  | refine x_then ?_  | refine x_thenE ?_  | refine x_blkN ?_  | refine x_blkE ?_  | refine wp_ret ?_  | refine wp_skip ?_  | refine wp_block ?_  | refine wp_exit ?_  | refine c_condT st rfl ?_  | refine c_condF st rfl ?_  | ((first | refine o_move st rfl rfl ?_  | refine o_assign st rfl rfl ?_  | refine o_pickF st rfl rfl rfl ?_); clear st; intro _ st)  | (refine o_alloc st rfl ?_; clear st; intro _ _ _ st)  | ((first | refine o_loadS st rfl (by repeat constructor) rfl rfl ?_  | refine o_load2 st rfl (by repeat constructor) rfl ?_ ); clear st; intro _ st)  | ((first | refine o_storeW st rfl rfl (by repeat constructor) rfl rfl rfl ?_); clear st; intro _ _ st)  | ((first | refine o_extract st rfl rfl rfl ?_  | refine o_len st rfl rfl ?_  | refine o_add64 st rfl rfl rfl (by omega) (by omega) ?_  | refine o_sub64 st rfl rfl rfl (by omega) (by omega) ?_  | refine o_notT st rfl rfl ?_ ); clear st; intro _ st)  | ((first | refine o_lss st rfl rfl rfl ?_ ?_  | refine o_gtr st rfl rfl rfl ?_ ?_  | refine o_neqI st rfl rfl rfl ?_ ?_) <;> clear st <;> intro _ _ st <;> (try (exfalso; omega))) ))
      exact ⟨rfl, (st.fit (by repeat (first | exact trivial  | refine And.intro rfl ?_))).subL (by repeat (first | exact List.Sublist.refl _  | apply List.Sublist.cons_cons  | apply List.Sublist.cons  | exact List.nil_sublist _))⟩
  clear st
  rintro _ _ st
  refine c_meet (fun a w' => ∃ (l : List Kn) (b3 b4 cap3 cap4 p26 : Nat) (pad3 pad4 : List Value), l.length = 2 ∧ (∀ i (_ : i < l.length), BKi i l[i]) ∧ St w Try.f6.ntmps a w' [(6, .int .i64 (n : Nat)), (26, .pointer (some ⟨p26, 0, none⟩))] [eP p26 (.slice (some ⟨b3, 0, none⟩) l.length cap3) (.slice (some ⟨b4, 0, none⟩) l.length cap4), ⟨b3, true, oV 31 (l.map vPt) pad3⟩, ⟨b4, true, oV 29 (l.map vWt) pad4⟩]) ⟨?_⟩ ?_
  · (repeat' (first | (refine o_callM2 st rfl (cC 1 (by omega) _ (hr.mono st.below)) rfl ?_; clear st; rintro _ b3 _ b4 _ ⟨l, ⟨cap3, cap4, pad3, pad4, rfl, rfl, rfl⟩, hcl, hQ'⟩ _ _ st)  | (refine o_alloc (d := 26) st rfl ?_; clear st; intro p26 _ _ st)  | refine c_seq ?_  | refine c_region ?_  | refine l_do ?_  | refine l_doG st rfl rfl ?_  | refine l_nil ?_  | refine x_then ?_  | refine x_thenE ?_  | refine x_blkN ?_  | refine x_blkE ?_  | refine wp_ret ?_  | refine wp_skip ?_  | refine wp_block ?_  | refine wp_exit ?_  | refine c_condT st rfl ?_  | refine c_condF st rfl ?_  | ((first | refine o_move st rfl rfl ?_  | refine o_assign st rfl rfl ?_  | refine o_pickF st rfl rfl rfl ?_); clear st; intro _ st)  | (refine o_alloc st rfl ?_; clear st; intro _ _ _ st)  | ((first | refine o_loadS st rfl (by repeat constructor) rfl rfl ?_  | refine o_load2 st rfl (by repeat constructor) rfl ?_ ); clear st; intro _ st)  | ((first | refine o_storeW st rfl rfl (by repeat constructor) rfl rfl rfl ?_); clear st; intro _ _ st)  | ((first | refine o_extract st rfl rfl rfl ?_  | refine o_len st rfl rfl ?_  | refine o_add64 st rfl rfl rfl (by omega) (by omega) ?_  | refine o_sub64 st rfl rfl rfl (by omega) (by omega) ?_  | refine o_notT st rfl rfl ?_ ); clear st; intro _ st)  | ((first | refine o_lss st rfl rfl rfl ?_ ?_  | refine o_gtr st rfl rfl rfl ?_ ?_  | refine o_neqI st rfl rfl rfl ?_ ?_) <;> clear st <;> intro _ _ st <;> (try (exfalso; omega))) ))
    exact ⟨rfl, l, b3, b4, cap3, cap4, p26, pad3, pad4, by omega, hQ', (st.fit (by repeat (first | exact trivial  | refine And.intro rfl ?_))).subL (by repeat (first | exact List.Sublist.refl _  | apply List.Sublist.cons_cons  | apply List.Sublist.cons  | exact List.nil_sublist _))⟩
  clear st
  rintro _ _ ⟨l, b3, b4, cap3, cap4, p26, pad3, pad4, hl2, hQ', st⟩
  obtain ⟨D, hD⟩ := hline l hl2 hQ' n hn1 hn16
  have hls' := hD.ch.len
  have q := fun v w hv => ChordLong_ok l n D.C.ts D.C.ks D.C.ls D.C.s hD.ch.p hD.ch.g hD.ch.s (by rw [hls']; exact hD.ch.f n (Nat.le_refl _)) v w hv
  rw [hls'] at q
  refine c_meet (fun a w' => St w Try.f6.ntmps a w' [(26, .pointer (some ⟨p26, 0, none⟩)), (27, .float .f32 (D.C.s n)), (28, .bool true)] [eP p26 (.slice (some ⟨b3, 0, none⟩) l.length cap3) (.slice (some ⟨b4, 0, none⟩) l.length cap4), ⟨b3, true, oV 31 (l.map vPt) pad3⟩, ⟨b4, true, oV 29 (l.map vWt) pad4⟩]) ⟨?_⟩ ?_
  · (repeat' (first | (refine o_callV st rfl (q _ _ (crv_own (st.heap (by repeat constructor)) (st.heap (by repeat constructor)))) rfl ?_; clear st; intro _ _ st)  | refine c_seq ?_  | refine c_region ?_  | refine l_do ?_  | refine l_doG st rfl rfl ?_  | refine l_nil ?_  | refine x_then ?_  | refine x_thenE ?_  | refine x_blkN ?_  | refine x_blkE ?_  | refine wp_ret ?_  | refine wp_skip ?_  | refine wp_block ?_  | refine wp_exit ?_  | refine c_condT st rfl ?_  | refine c_condF st rfl ?_  | ((first | refine o_move st rfl rfl ?_  | refine o_assign st rfl rfl ?_  | refine o_pickF st rfl rfl rfl ?_); clear st; intro _ st)  | (refine o_alloc st rfl ?_; clear st; intro _ _ _ st)  | ((first | refine o_loadS st rfl (by repeat constructor) rfl rfl ?_  | refine o_load2 st rfl (by repeat constructor) rfl ?_ ); clear st; intro _ st)  | ((first | refine o_storeW st rfl rfl (by repeat constructor) rfl rfl rfl ?_); clear st; intro _ _ st)  | ((first | refine o_extract st rfl rfl rfl ?_  | refine o_len st rfl rfl ?_  | refine o_add64 st rfl rfl rfl (by omega) (by omega) ?_  | refine o_sub64 st rfl rfl rfl (by omega) (by omega) ?_  | refine o_notT st rfl rfl ?_ ); clear st; intro _ st)  | ((first | refine o_lss st rfl rfl rfl ?_ ?_  | refine o_gtr st rfl rfl rfl ?_ ?_  | refine o_neqI st rfl rfl rfl ?_ ?_) <;> clear st <;> intro _ _ st <;> (try (exfalso; omega))) ))
    exact ⟨rfl, (st.fit (by repeat (first | exact trivial  | refine And.intro rfl ?_))).subL (by repeat (first | exact List.Sublist.refl _  | apply List.Sublist.cons_cons  | apply List.Sublist.cons  | exact List.nil_sublist _))⟩
  clear st
  rintro _ _ st
  have hu := hD.u (by omega) (by omega)
  have hv := hD.v (by omega) (by omega)
  have q0 := fun w => SLongOf_ok D.u D.v D.l hD.l w
  have q1 := fun w => b10Gap_ok D.x D.y D.g hD.g hD.ix hD.iy w
  have gl := hD.gl
  have g1' : (l.map vPt ++ pad3).toArray[0 + (1 : Int).toNat * 1]? = some (vPt l[1]) := by
    have := oV_get (pad := pad3) (vs := l.map vPt) (k := 1) (by rw [List.length_map]; omega)
    rw [show (1 : Int) = ((1 : Nat) : Int) from rfl, this, List.getElem_map]
  have g0' : (l.map vPt ++ pad3).toArray[0 + (0 : Int).toNat * 1]? = some (vPt l[0]) := by
    have := oV_get (pad := pad3) (vs := l.map vPt) (k := 0) (by rw [List.length_map]; omega)
    rw [show (0 : Int) = ((0 : Nat) : Int) from rfl, this, List.getElem_map]
  (repeat' (first | refine c_seq ?_  | refine c_region ?_  | refine l_do ?_  | refine l_doG st rfl rfl ?_  | refine l_nil ?_  | refine x_then ?_  | refine x_thenE ?_  | refine x_blkN ?_  | refine x_blkE ?_  | refine wp_ret ?_  | refine wp_skip ?_  | refine wp_block ?_  | refine wp_exit ?_  | refine c_condT st rfl ?_  | refine c_condF st rfl ?_  | ((first | refine o_move st rfl rfl ?_  | refine o_assign st rfl rfl ?_  | refine o_pickF st rfl rfl rfl ?_); clear st; intro _ st)  | (refine o_alloc st rfl ?_; clear st; intro _ _ _ st)  | ((first | refine o_loadS st rfl (by repeat constructor) rfl rfl ?_  | refine o_load2 st rfl (by repeat constructor) rfl ?_ ); clear st; intro _ st)  | ((first | refine o_storeW st rfl rfl (by repeat constructor) rfl rfl rfl ?_); clear st; intro _ _ st)  | ((first | refine o_extract st rfl rfl rfl ?_  | refine o_len st rfl rfl ?_  | refine o_add64 st rfl rfl rfl (by omega) (by omega) ?_  | refine o_sub64 st rfl rfl rfl (by omega) (by omega) ?_  | refine o_notT st rfl rfl ?_ ); clear st; intro _ st)  | ((first | refine o_lss st rfl rfl rfl ?_ ?_  | refine o_gtr st rfl rfl rfl ?_ ?_  | refine o_neqI st rfl rfl rfl ?_ ?_) <;> clear st <;> intro _ _ st <;> (try (exfalso; omega))) ))
  refine c_drawA (last := 18) hm_ (by decide +kernel) (by decide +kernel) st ?_; clear st; intro _ st
  refine d_v 0 st (by repeat constructor) rfl (by decide +kernel) rfl (v_move st rfl) ?_; clear st; intro _ st
  refine d_v 1 st (by repeat constructor) rfl (by decide +kernel) rfl (v_move st rfl) ?_; clear st; intro _ st
  (first | refine d_g 2 st (by repeat constructor) rfl (by decide +kernel) rfl rfl rfl (v_move st rfl) ?_  | refine d_s 2 st (by repeat constructor) rfl (by decide +kernel) rfl rfl rfl rfl ?_ ); clear st; intro _ st
  (first | refine d_g 3 st (by repeat constructor) rfl (by decide +kernel) rfl rfl rfl (v_fcvW st rfl hD.x) ?_  | refine d_s 3 st (by repeat constructor) rfl (by decide +kernel) rfl rfl rfl rfl ?_ ); clear st; intro _ st
  (first | refine d_g 4 st (by repeat constructor) rfl (by decide +kernel) rfl rfl rfl (v_fieldAddr st rfl) ?_  | refine d_s 4 st (by repeat constructor) rfl (by decide +kernel) rfl rfl rfl rfl ?_ ); clear st; intro _ st
  (first | refine d_g 5 st (by repeat constructor) rfl (by decide +kernel) rfl rfl rfl (by first | exact v_load3 st rfl (by repeat constructor) | exact v_loadS st rfl (by repeat constructor) rfl) ?_  | refine d_s 5 st (by repeat constructor) rfl (by decide +kernel) rfl rfl rfl rfl ?_ ); clear st; intro _ st
  (first | refine d_g 6 st (by repeat constructor) rfl (by decide +kernel) rfl rfl rfl (v_indexAddr st rfl rfl (by omega) (by omega)) ?_  | refine d_s 6 st (by repeat constructor) rfl (by decide +kernel) rfl rfl rfl rfl ?_ ); clear st; intro _ st
  (first | refine d_g 7 st (by repeat constructor) rfl (by decide +kernel) rfl rfl rfl (v_loadS st rfl (by repeat constructor) g1') ?_  | refine d_s 7 st (by repeat constructor) rfl (by decide +kernel) rfl rfl rfl rfl ?_ ); clear st; intro _ st
  (first | refine d_g 8 st (by repeat constructor) rfl (by decide +kernel) rfl rfl rfl (v_fieldAddr st rfl) ?_  | refine d_s 8 st (by repeat constructor) rfl (by decide +kernel) rfl rfl rfl rfl ?_ ); clear st; intro _ st
  (first | refine d_g 9 st (by repeat constructor) rfl (by decide +kernel) rfl rfl rfl (by first | exact v_load3 st rfl (by repeat constructor) | exact v_loadS st rfl (by repeat constructor) rfl) ?_  | refine d_s 9 st (by repeat constructor) rfl (by decide +kernel) rfl rfl rfl rfl ?_ ); clear st; intro _ st
  (first | refine d_g 10 st (by repeat constructor) rfl (by decide +kernel) rfl rfl rfl (v_indexAddr st rfl rfl (by omega) (by omega)) ?_  | refine d_s 10 st (by repeat constructor) rfl (by decide +kernel) rfl rfl rfl rfl ?_ ); clear st; intro _ st
  (first | refine d_g 11 st (by repeat constructor) rfl (by decide +kernel) rfl rfl rfl (v_loadS st rfl (by repeat constructor) g0') ?_  | refine d_s 11 st (by repeat constructor) rfl (by decide +kernel) rfl rfl rfl rfl ?_ ); clear st; intro _ st
  (first | (refine d_s 12 st (by repeat constructor) rfl (by decide +kernel) rfl rfl rfl rfl ?_; clear st; intro _ st)  | (refine d_oneG 12 (by decide +kernel) rfl st rfl rfl ?_; refine o_csub (t := 31) st rfl rfl hu hv rfl ?_; clear st; intro _ st; refine kh st (by repeat constructor) ?_))
  (first | (refine d_s 13 st (by repeat constructor) rfl (by decide +kernel) rfl rfl rfl rfl ?_; clear st; intro _ st)  | (refine d_oneG 13 (by decide +kernel) rfl st rfl rfl ?_; refine o_callV st rfl (q0 _) rfl ?_; clear st; intro _ _ st; refine kh st (by repeat constructor) ?_))
  (first | (refine d_s 14 st (by repeat constructor) rfl (by decide +kernel) rfl rfl rfl rfl ?_; clear st; intro _ st)  | (refine d_oneG 14 (by decide +kernel) rfl st rfl rfl ?_; refine o_fcvW st rfl hD.y rfl ?_; clear st; intro _ st; refine kh st (by repeat constructor) ?_))
  (first | (refine d_s 15 st (by repeat constructor) rfl (by decide +kernel) rfl rfl rfl rfl ?_; clear st; intro _ st)  | (refine d_oneG 15 (by decide +kernel) rfl st rfl rfl ?_; refine o_callV st rfl (q1 _) rfl ?_; clear st; intro _ _ st; refine kh st (by repeat constructor) ?_))
  (first | (refine d_s 16 st (by repeat constructor) rfl (by decide +kernel) rfl rfl rfl rfl ?_; clear st; intro _ st)  | (refine d_oneG 16 (by decide +kernel) rfl st rfl rfl ?_; refine o_flssW st rfl rfl gl.is i64_001 gl.lt rfl ?_; clear st; intro _ st; refine kh st (by repeat constructor) ?_))
  refine d_v 17 st (by repeat constructor) rfl (by decide +kernel) rfl (by first | exact v_pickT st rfl rfl | exact v_pickF st rfl rfl) ?_; clear st; intro _ st
  refine d_one 18 (by decide +kernel) rfl ?_
  (first | (refine o_assign st rfl rfl ?_; clear st; intro _ st))
  refine k_last ?_
  refine d_done (by decide +kernel) ?_
  (repeat' (first | refine c_seq ?_  | refine c_region ?_  | refine l_do ?_  | refine l_doG st rfl rfl ?_  | refine l_nil ?_  | refine x_then ?_  | refine x_thenE ?_  | refine x_blkN ?_  | refine x_blkE ?_  | refine wp_ret ?_  | refine wp_skip ?_  | refine wp_block ?_  | refine wp_exit ?_  | refine c_condT st rfl ?_  | refine c_condF st rfl ?_  | ((first | refine o_move st rfl rfl ?_  | refine o_assign st rfl rfl ?_  | refine o_pickF st rfl rfl rfl ?_); clear st; intro _ st)  | (refine o_alloc st rfl ?_; clear st; intro _ _ _ st)  | ((first | refine o_loadS st rfl (by repeat constructor) rfl rfl ?_  | refine o_load2 st rfl (by repeat constructor) rfl ?_ ); clear st; intro _ st)  | ((first | refine o_storeW st rfl rfl (by repeat constructor) rfl rfl rfl ?_); clear st; intro _ _ st)  | ((first | refine o_extract st rfl rfl rfl ?_  | refine o_len st rfl rfl ?_  | refine o_add64 st rfl rfl rfl (by omega) (by omega) ?_  | refine o_sub64 st rfl rfl rfl (by omega) (by omega) ?_  | refine o_notT st rfl rfl ?_ ); clear st; intro _ st)  | ((first | refine o_lss st rfl rfl rfl ?_ ?_  | refine o_gtr st rfl rfl rfl ?_ ?_  | refine o_neqI st rfl rfl rfl ?_ ?_) <;> clear st <;> intro _ _ st <;> (try (exfalso; omega))) ))
  refine post1 st Try.results6 (rd_t st rfl) ?_
  exact ⟨rfl, st.ex0⟩
end Go.Proofs.Ytonbcbhnnflohaa
