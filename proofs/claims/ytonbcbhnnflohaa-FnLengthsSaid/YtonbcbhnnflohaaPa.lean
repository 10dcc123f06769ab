/-
  FnCurves: curves that are drawn from bytes.
-/
import Derived.Test.YtonbcbhnnflohaaYk
import Derived.Test.YtonbcbhnnflohaaZe
namespace Go.Proofs.Ytonbcbhnnflohaa
open Go.RowKit

/-- A quarter of a number. -/
def qW (i : Int) : Option Nat := fop .quo .f32 (some (floatOfInt .f32 i)) (some 1082130432)
def qv (i : Int) : Nat := (qW i).getD 0
attribute [local irreducible] Code.wp wpList Oper.wp Calls bodyPost Exit.then Exit.inBlock

theorem l02Plain_ok (ps : List Kn) (h1 : ∀ k ∈ ps, k.2.2 = 1065353216) (h0 : 0 < ps.length) (hl : ps.length ≤ 1000) (base : Option Addr) (cap : Nat) (w : World) (hr : RdV w base (ps.map vPt)) : CM2 Try.prog 70 [.slice base ps.length cap] w (OwnC ps) := by
  obtain ⟨blk, off, arr, t, fr, rfl, hw, h3⟩ := hr.get (by intro h; have := congrArg List.length h; rw [List.length_map] at this; simp at this; subst this; simp at h0)
  refine enter Try.func70 rfl rfl rfl rfl ?_
  intro a st
  have hcell : ∀ {a : Act} {w' : World} {E : List (Nat × Value)} {L : List Ent}, St w Try.f70.ntmps a w' E L → ∀ j u, (ps.map vPt)[j]? = some u → w'.cell? ⟨blk, off + j, none⟩ = some u := by
    intro a w' E L st j u hj
    obtain ⟨hjl, rfl⟩ := List.getElem?_eq_some_iff.1 hj
    rw [cell_known (st.addOld hw) At.here rfl]
    exact h3 j hjl
  (repeat' (first | (refine o_buildSlice0 (t := 24) st rfl ?_; clear st; intro _ _ _ st)  | (refine o_appendF (size := 1) (news := ps.map vPt) st rfl rfl (hcell st) (by rw [List.length_map]; omega) (one_vPt ps) h0 (by omega) (by omega) rfl ?_; clear st; intro bP capP padP _ _ hpP st)  | (refine o_buildSlice0 (t := 25) st rfl ?_; clear st; intro bW _ _ st)  | (refine o_alloc (d := 3) st rfl ?_; clear st; intro p3 _ _ st)  | (refine o_alloc (d := 2) st rfl ?_; clear st; intro p2 _ _ st)  | refine c_seq ?_  | refine c_region ?_  | refine l_do ?_  | refine l_nil ?_  | refine x_then ?_  | refine x_thenE ?_  | refine x_blkN ?_  | refine x_blkE ?_  | refine wp_ret ?_  | refine wp_skip ?_  | refine wp_block ?_  | refine wp_exit ?_  | refine c_condT st rfl ?_  | refine c_condF st rfl ?_  | ((first | refine o_move st rfl rfl ?_  | refine o_assign st rfl rfl ?_); clear st; intro _ st)  | (refine o_alloc st rfl ?_; clear st; intro _ _ _ st)  | ((first | refine o_fieldAddr st rfl rfl ?_  | refine o_loadS st rfl (by repeat constructor) rfl rfl ?_  | refine o_load2 st rfl (by repeat constructor) rfl ?_ ); clear st; intro _ st)  | ((first | refine o_storeS st rfl rfl rfl (by repeat constructor) rfl (by dsimp only [List.set]) ?_  | refine o_storeW st rfl rfl (by repeat constructor) rfl rfl rfl ?_); clear st; intro _ _ st)  | ((first | refine o_build3 st rfl rfl rfl rfl rfl rfl rfl ?_  | refine o_build2 st rfl rfl rfl rfl rfl ?_  | refine o_len st rfl rfl ?_  | refine o_add64 st rfl rfl rfl (by omega) (by omega) ?_); clear st; intro _ st)  | (refine o_lss st rfl rfl rfl ?_ ?_ <;> clear st <;> intro _ _ st <;> (try (exfalso; omega)))))
  have st : St w _ _ _ _ (eP p3 _ _ :: ⟨bW, true, oV 29 ((ps.take 0).map vWt) []⟩ :: ⟨bP, true, _⟩ :: _ :: _ :: []) := st
  refine wp_loop_ghost (fun z a w' => ∃ (i bW capW : Nat) (padW : List Value), i ≤ ps.length ∧ z = ps.length - i ∧ ((ps.take i).map vWt ++ padW).length = capW ∧ St w Try.f70.ntmps a w' [(0, .slice (some ⟨blk, off, none⟩) ps.length cap), (2, .pointer (some ⟨p2, 0, none⟩)), (3, .pointer (some ⟨p3, 0, none⟩)), (4, .int .i64 (i : Nat))] (eP p3 (.slice (some ⟨bP, 0, none⟩) ps.length capP) (.slice (some ⟨bW, 0, none⟩) i capW) :: ⟨bW, true, oV 29 ((ps.take i).map vWt) padW⟩ :: ⟨bP, true, oV 31 (ps.map vPt) padP⟩ :: eP p2 (.slice none 0 0) (.slice none 0 0) :: [])) ps.length ⟨0, bW, 0, [], by omega, by omega, rfl, (st.fit (by repeat (first | exact trivial  | refine And.intro rfl ?_))).subL (by repeat (first | exact List.Sublist.refl _  | apply List.Sublist.cons_cons  | apply List.Sublist.cons  | exact List.nil_sublist _))⟩ ?_
  clear st
  rintro z a w' ⟨i, bW, capW, padW, hi, rfl, hp, st⟩
  have hli : ((ps.take i).map vWt).length = i := by rw [List.length_map, List.length_take]; omega
  by_cases hlt : i < ps.length
  · (repeat' (first | (refine o_buildSlice st rfl rfl rfl rfl rfl rfl ?_; clear st; intro _ _ _ st)  | (refine o_append1V rfl st rfl rfl (by repeat constructor) (by repeat constructor) hli hp rfl (by omega) rfl ?_; clear st; intro bW1 capW1 padW1 _ _ hp1 st)  | refine c_seq ?_  | refine c_region ?_  | refine l_do ?_  | refine l_nil ?_  | refine x_then ?_  | refine x_thenE ?_  | refine x_blkN ?_  | refine x_blkE ?_  | refine wp_ret ?_  | refine wp_skip ?_  | refine wp_block ?_  | refine wp_exit ?_  | refine c_condT st rfl ?_  | refine c_condF st rfl ?_  | ((first | refine o_move st rfl rfl ?_  | refine o_assign st rfl rfl ?_); clear st; intro _ st)  | (refine o_alloc st rfl ?_; clear st; intro _ _ _ st)  | ((first | refine o_fieldAddr st rfl rfl ?_  | refine o_loadS st rfl (by repeat constructor) rfl rfl ?_  | refine o_load2 st rfl (by repeat constructor) rfl ?_ ); clear st; intro _ st)  | ((first | refine o_storeS st rfl rfl rfl (by repeat constructor) rfl (by dsimp only [List.set]) ?_  | refine o_storeW st rfl rfl (by repeat constructor) rfl rfl rfl ?_); clear st; intro _ _ st)  | ((first | refine o_build3 st rfl rfl rfl rfl rfl rfl rfl ?_  | refine o_build2 st rfl rfl rfl rfl rfl ?_  | refine o_len st rfl rfl ?_  | refine o_add64 st rfl rfl rfl (by omega) (by omega) ?_); clear st; intro _ st)  | (refine o_lss st rfl rfl rfl ?_ ?_ <;> clear st <;> intro _ _ st <;> (try (exfalso; omega)))))
    have e1 : vWt ps[i] = .float .f32 1065353216 := by rw [vWt, h1 _ (List.getElem_mem hlt)]
    have e2 := take_map_one (f := vWt) hlt
    rw [e1] at e2
    refine ⟨ps.length - (i + 1), by omega, i + 1, bW1, capW1, padW1, by omega, rfl, by rw [← e2]; exact hp1, ?_⟩
    rw [← e2]
    have st : St w _ _ _ _ (⟨bW1, true, _⟩ :: eP p3 _ _ :: ⟨bP, true, _⟩ :: eP p2 _ _ :: []) := st.subL (by repeat (first | exact List.Sublist.refl _  | apply List.Sublist.cons_cons  | apply List.Sublist.cons  | exact List.nil_sublist _))
    exact st.swap2.fit (by repeat (first | exact trivial  | refine And.intro rfl ?_))
  · obtain rfl : i = ps.length := by omega
    rw [List.take_length] at st
    (repeat' (first | refine c_seq ?_  | refine c_region ?_  | refine l_do ?_  | refine l_nil ?_  | refine x_then ?_  | refine x_thenE ?_  | refine x_blkN ?_  | refine x_blkE ?_  | refine wp_ret ?_  | refine wp_skip ?_  | refine wp_block ?_  | refine wp_exit ?_  | refine c_condT st rfl ?_  | refine c_condF st rfl ?_  | ((first | refine o_move st rfl rfl ?_  | refine o_assign st rfl rfl ?_); clear st; intro _ st)  | (refine o_alloc st rfl ?_; clear st; intro _ _ _ st)  | ((first | refine o_fieldAddr st rfl rfl ?_  | refine o_loadS st rfl (by repeat constructor) rfl rfl ?_  | refine o_load2 st rfl (by repeat constructor) rfl ?_ ); clear st; intro _ st)  | ((first | refine o_storeS st rfl rfl rfl (by repeat constructor) rfl (by dsimp only [List.set]) ?_  | refine o_storeW st rfl rfl (by repeat constructor) rfl rfl rfl ?_); clear st; intro _ _ st)  | ((first | refine o_build3 st rfl rfl rfl rfl rfl rfl rfl ?_  | refine o_build2 st rfl rfl rfl rfl rfl ?_  | refine o_len st rfl rfl ?_  | refine o_add64 st rfl rfl rfl (by omega) (by omega) ?_); clear st; intro _ st)  | (refine o_lss st rfl rfl rfl ?_ ?_ <;> clear st <;> intro _ _ st <;> (try (exfalso; omega)))))
    refine post1 st Try.results70 (rd_c st rfl (by repeat constructor) rfl) ?_
    have hne := st.ne_of (e1 := ⟨bW, true, oV 29 (ps.map vWt) padW⟩) (e2 := ⟨bP, true, oV 31 (ps.map vPt) padP⟩) rfl (by repeat (first | exact List.Sublist.refl _  | apply List.Sublist.cons_cons  | apply List.Sublist.cons  | exact List.nil_sublist _))
    exact ⟨_, bP, _, bW, _, rfl, ⟨capP, capW, padP, padW, rfl, rfl, rfl⟩, st.ex2 (by repeat constructor) (by repeat constructor) hne.symm⟩
end Go.Proofs.Ytonbcbhnnflohaa

namespace Go.Proofs.Ytonbcbhnnflohaa
open Go.RowKit
attribute [local irreducible] Code.wp wpList Oper.wp Calls bodyPost Exit.then Exit.inBlock

theorem l00From_ok (base : Option Addr) (n cap : Nat) (w : World) : CM1 Try.prog 42 [.slice base n cap] w fun v b o => v = .pointer (some ⟨b, 0, none⟩) ∧ o = oSrc base n cap 0 0 := by
  refine enter Try.func42 rfl rfl rfl rfl ?_
  intro a st
  (repeat' (first | (refine o_build1 st rfl rfl rfl ?_; clear st; intro _ st)  | refine c_seq ?_  | refine c_region ?_  | refine l_do ?_  | refine l_nil ?_  | refine x_then ?_  | refine wp_ret ?_  | ((first | refine o_move st rfl rfl ?_  | refine o_assign st rfl rfl ?_); clear st; intro _ st)  | ((first | refine o_boxA st rfl rfl ?_ ); clear st; intro _ _ _ st)  | ((first | refine o_build3 st rfl rfl rfl rfl rfl rfl rfl ?_ ); clear st; intro _ st)))
  refine post1 st Try.results42 (rd_t st rfl) ?_
  exact ⟨_, _, _, rfl, ⟨rfl, rfl⟩, st.ex1 (by repeat constructor)⟩
section
variable {P : Program} {w : World} {a : Act} {Q : Exit → Act → World → Prop}
end
/-! ## numbers that an input chooses -/
end Go.Proofs.Ytonbcbhnnflohaa

namespace Go.Proofs.Ytonbcbhnnflohaa
open Go.RowKit

def maxW (x y : Nat) : Option Nat := match FloatKind.f32.format.order x y with
  | none => none
  | some .gt => some x
  | some .lt => some y
  | some .eq => some (if (FloatKind.f32.decode x).neg then y else x)
section
variable {P : Program} {w0 w : World} {N : Nat} {a : Act} {E : List (Nat × Value)} {L Lh : List Ent} {K : Act → World → Prop} {Q : Exit → Act → World → Prop}
variable {d : Nat} {ty : TypeId} {pos : String} {aft : Array Edge} {g : Option (Nat × Bool)}
theorem o_max {x y : Operand} {tys : Array TypeId} {i j r : Nat} (st : St w0 N a w E L) (hx : evE E x = some (.float .f32 i)) (hy : evE E y = some (.float .f32 j)) (hr : maxW i j = some r) (hd : Nat.blt d N = true)
    (h : ∀ a', St w0 N a' w ((d, .float .f32 r) :: E) L → K a' w) : Oper.wp P ⟨some d, .call { callee := .builtin .max, args := #[x, y], argTypes := tys }, ty, pos, aft, g⟩ a w K Q := by
  refine o_val (v := .float .f32 r) (w' := w) ?_ (h _ (st.put d hd _))
  unfold maxW at hr
  cases ho : FloatKind.f32.format.order i j with
  | none => rw [ho] at hr; cases hr
  | some o =>
    rw [ho] at hr
    cases o <;> (simp at hr; subst hr; simp [execOp, resolve, invoke, builtin, evE_eval st hx, evE_eval st hy, Builtin.max_, Builtin.max2, ho])
end
/-- A distance that is no more than a bound, or less. -/
structure LeD (z b : Nat) : Prop where
  is : Is .f64 z (some z)
  le : fgtB .f64 (some z) (some b) = false
structure LtD (z b : Nat) : Prop where
  is : Is .f64 z (some z)
  lt : fltB .f64 (some z) (some b) = true
/-- A point that is told at a time. -/
structure AtOk (c : List Kn) (t : Nat) (k : Kn) : Prop where
  tm : Tm t
  at_ : atK (c.length - 1) c t = some k
  gd : Gd k.1 ∧ Gd k.2.1
abbrev pt (k : Kn) : Nat × Nat := (k.1, k.2.1)
theorem i64_001 : Is .f64 4562254508917369340 (some 4562254508917369340) := Is_lit (by decide +kernel)
attribute [local irreducible] Code.wp wpList Oper.wp Calls bodyPost Exit.then Exit.inBlock

end Go.Proofs.Ytonbcbhnnflohaa

namespace Go.Proofs.Ytonbcbhnnflohaa
open Go.RowKit

/-! ## quarters, sixteenths, shares -/
/-! ## the smaller, the greater number -/
theorem ord_iff {a b : Nat} (ha : G a) (hb : G b) : FloatKind.f32.format.order a b = some (compare (Go.Proofs.Ytonbcbhnnflohaa.val FloatKind.f32.format a) (Go.Proofs.Ytonbcbhnnflohaa.val FloatKind.f32.format b)) := ford_fin (k := .f32) ha hb
theorem max_ok {a b : Nat} (ha : G a) (hb : G b) (ia : Is .f32 a (some a)) (ib : Is .f32 b (some b)) : ∃ r, maxW a b = some r ∧ G r ∧ Is .f32 r (some r) ∧ rF a ≤ rF r ∧ rF b ≤ rF r ∧ (r = a ∨ r = b) := by
  have ho := ord_iff ha hb
  have h1 := rv_lt (k := .f32) ha hb
  have h2 := rv_lt (k := .f32) hb ha
  unfold maxW
  rw [ho]
  rcases Int.lt_trichotomy (Go.Proofs.Ytonbcbhnnflohaa.val FloatKind.f32.format a) (Go.Proofs.Ytonbcbhnnflohaa.val FloatKind.f32.format b) with h | h | h
  · rw [show compare (Go.Proofs.Ytonbcbhnnflohaa.val FloatKind.f32.format a) (Go.Proofs.Ytonbcbhnnflohaa.val FloatKind.f32.format b) = .lt from Int.compare_eq_lt.2 h]
    have := h1.2 h
    exact ⟨b, rfl, hb, ib, by show rv .f32 a ≤ rv .f32 b; grind, Rat.le_refl, .inr rfl⟩
  · have e1 : ¬ rv .f32 a < rv .f32 b := fun hl => by have := h1.1 hl; omega
    have e2 : ¬ rv .f32 b < rv .f32 a := fun hl => by have := h2.1 hl; omega
    rw [show compare (Go.Proofs.Ytonbcbhnnflohaa.val FloatKind.f32.format a) (Go.Proofs.Ytonbcbhnnflohaa.val FloatKind.f32.format b) = .eq from Int.compare_eq_eq.2 h]
    by_cases hn : (FloatKind.f32.decode a).neg = true
    · exact ⟨b, by simp [hn], hb, ib, by show rv .f32 a ≤ rv .f32 b; grind, Rat.le_refl, .inr rfl⟩
    · exact ⟨a, by simp [hn], ha, ia, Rat.le_refl, by show rv .f32 b ≤ rv .f32 a; grind, .inl rfl⟩
  · rw [show compare (Go.Proofs.Ytonbcbhnnflohaa.val FloatKind.f32.format a) (Go.Proofs.Ytonbcbhnnflohaa.val FloatKind.f32.format b) = .gt from Int.compare_eq_gt.2 h]
    have := h2.2 h
    exact ⟨a, rfl, ha, ia, Rat.le_refl, by show rv .f32 b ≤ rv .f32 a; grind, .inl rfl⟩
end Go.Proofs.Ytonbcbhnnflohaa

namespace Go.Proofs.Ytonbcbhnnflohaa
open Go.RowKit

end Go.Proofs.Ytonbcbhnnflohaa

namespace Go.Proofs.Ytonbcbhnnflohaa
open Go.RowKit
section
variable {P : Program} {w0 w : World} {N : Nat} {a : Act} {E : List (Nat × Value)} {L Lh : List Ent} {K : Act → World → Prop} {Q : Exit → Act → World → Prop}
variable {d : Nat} {ty : TypeId} {pos : String} {aft : Array Edge} {g : Option (Nat × Bool)}
end
attribute [local irreducible] Code.wp wpList Oper.wp Calls bodyPost Exit.then Exit.inBlock

end Go.Proofs.Ytonbcbhnnflohaa
