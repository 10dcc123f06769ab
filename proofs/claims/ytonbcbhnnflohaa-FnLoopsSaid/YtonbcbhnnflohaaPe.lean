/-
  FnLoops: turns over words (walk).
-/
import Derived.Test.YtonbcbhnnflohaaLd
import Derived.Test.YtonbcbhnnflohaaPb
import Derived.Laws.Small
import Derived.Test.YtonbcbhnnflohaaYm
namespace Go.Proofs.Ytonbcbhnnflohaa
open Go.RowKit
attribute [local irreducible] Code.wp wpList Oper.wp Calls bodyPost Exit.then Exit.inBlock
attribute [local irreducible] fop fltB fgtB feqB fgeB fleB floatOfInt floatToFloatBits floatToIntVal longW mulC angleW

set_option maxHeartbeats 16000000 in
theorem TurnsOfLoop_ok (ps qs : List Kn) (l : Nat → Nat) (m : Nat → Nat × Nat) (g s : Nat → Nat) (hl : LoopOk ps) (h : TurnsOk ps qs l m g s) (base : Option Addr) (cap : Nat) (w : World) (hr : RdV w base (ps.map vPt)) : CV Try.prog 21 [.slice base ps.length cap] w (.tuple #[.float .f32 (s ps.length), .bool true]) := by
  have h3 := hl.lo
  have h64 := hl.hi
  have lk := h.lk
  have c1 := fun w hr => isLoop_ok ps hl base cap w hr
  have c9 := fun w => ifNumber_ok (s ps.length) h.gs w
  have hr0 := hr
  obtain ⟨blk, off, arr, t, fr, rfl, hw, hg⟩ := hr.get (by intro h; have := congrArg List.length h; rw [List.length_map] at this; simp at this; subst this; simp at h3)
  have gt : ∀ (j : Nat) (hj : j < ps.length), arr[off + ((j : Nat) : Int).toNat * 1]? = some (vPt ps[j]) := by
    intro j hj
    have := hg j (by rw [List.length_map]; exact hj)
    rw [List.getElem_map] at this
    simpa using this
  refine enter Try.func21 rfl rfl rfl rfl ?_
  intro a st
  have st := st.addOld hw
  (repeat' (first | (refine o_callV st rfl (c1 _ (hr0.mono st.below)) rfl ?_; clear st; intro _ _ st)  | (refine o_buildSlice0 st rfl ?_; clear st; intro blk0 _ _ st)  | refine c_seq ?_  | refine c_region ?_  | refine l_do ?_  | refine l_nil ?_  | refine x_then ?_  | refine x_thenE ?_  | refine x_blkN ?_  | refine x_blkE ?_  | refine wp_ret ?_  | refine wp_skip ?_  | refine wp_block ?_  | refine wp_exit ?_  | refine c_condT st rfl ?_  | refine c_condF st rfl ?_  | ((first | refine o_move st rfl rfl ?_  | refine o_assign st rfl rfl ?_  | refine o_loadS st rfl (by repeat constructor) rfl rfl ?_  | refine o_extract st rfl rfl rfl ?_  | refine o_len st rfl rfl ?_  | refine o_add64 st rfl rfl rfl (by omega) (by omega) ?_  | refine o_sub64 st rfl rfl rfl (by omega) (by omega) ?_  | refine o_notT st rfl rfl ?_ ); clear st; intro _ st)  | (refine o_lss st rfl rfl rfl ?_ ?_ <;> clear st <;> intro _ _ st <;> (try (exfalso; omega))) ))
  refine wp_loop_ghost (fun y a w' => ∃ (i b1 cp : Nat) (pad : List Value), i + y = ps.length ∧ ((qs.take i).map vPt ++ pad).length = cp ∧ St w Try.f21.ntmps a w' [(0, .slice (some ⟨blk, off, none⟩) ps.length cap), (4, .int .i64 ps.length), (5, .slice (some ⟨b1, 0, none⟩) i cp), (18, .slice (some ⟨blk, off, none⟩) ps.length cap), (19, .int .i64 ps.length), (20, .int .i64 (i : Nat))] [⟨b1, true, oV 31 ((qs.take i).map vPt) pad⟩, ⟨blk, false, .cells arr t fr⟩]) ps.length ⟨0, blk0, 0, [], by omega, rfl, (st.fit (by repeat (first | exact trivial  | refine And.intro rfl ?_))).subL (by repeat (first | exact List.Sublist.refl _  | apply List.Sublist.cons_cons  | apply List.Sublist.cons  | exact List.nil_sublist _))⟩ ?_
  clear st
  rintro y a w' ⟨i, b1, cp, pad, hi, hp, st⟩
  have hlk : ((qs.take i).map vPt).length = i := by rw [List.length_map, List.length_take]; omega
  cases y with
  | succ y =>
    have hlt : i < ps.length := by omega
    have hmod : (i + 1) % ps.length < ps.length := Nat.mod_lt _ (by omega)
    have hq := h.hq i hlt
    obtain ⟨hl1, il, gl⟩ := h.hl i hlt
    rw [pAt_eq hlt, pAt_eq hmod, pAt_eq (show i < qs.length by omega)] at hq
    rw [pAt_eq (show i < qs.length by omega)] at hl1
    have k1 := fun w => minus_ok _ _ _ hq w
    have k2 := fun w => LongOf_ok _ _ _ hl1 w
    have g1 := gt i hlt
    have g2 := gt ((i + 1) % ps.length) hmod
    (repeat' (first | (refine o_indexAddr st rfl rfl (by omega) (by omega) rfl ?_; clear st; intro _ st)  | (refine o_loadS st rfl (by repeat constructor) g1 rfl ?_; clear st; intro _ st)  | (refine o_loadS st rfl (by repeat constructor) g2 rfl ?_; clear st; intro _ st)  | (refine o_remJ (i + 1) ps.length st rfl rfl (by omega) rfl (by omega) rfl ?_; clear st; intro _ st)  | (refine o_callV st rfl (k1 _) rfl ?_; clear st; intro _ _ st)  | (refine o_callV st rfl (k2 _) rfl ?_; clear st; intro _ _ st)  | (refine o_fgtrW st rfl rfl il i32_0 gl rfl ?_; clear st; intro _ st)  | (refine o_buildSlice st rfl rfl rfl rfl rfl rfl ?_; clear st; intro _ _ _ st)  | (refine o_append1V rfl st rfl rfl (by repeat constructor) (by repeat constructor) hlk hp rfl (by omega) rfl ?_; clear st; intro b2 cap2 pad2 _ _ hp2 st)  | refine c_seq ?_  | refine c_region ?_  | refine l_do ?_  | refine l_nil ?_  | refine x_then ?_  | refine x_thenE ?_  | refine x_blkN ?_  | refine x_blkE ?_  | refine wp_ret ?_  | refine wp_skip ?_  | refine wp_block ?_  | refine wp_exit ?_  | refine c_condT st rfl ?_  | refine c_condF st rfl ?_  | ((first | refine o_move st rfl rfl ?_  | refine o_assign st rfl rfl ?_  | refine o_loadS st rfl (by repeat constructor) rfl rfl ?_  | refine o_extract st rfl rfl rfl ?_  | refine o_len st rfl rfl ?_  | refine o_add64 st rfl rfl rfl (by omega) (by omega) ?_  | refine o_sub64 st rfl rfl rfl (by omega) (by omega) ?_  | refine o_notT st rfl rfl ?_ ); clear st; intro _ st)  | (refine o_lss st rfl rfl rfl ?_ ?_ <;> clear st <;> intro _ _ st <;> (try (exfalso; omega))) ))
    have e1 := take_map_one (c' := qs) (f := vPt) (i := i) (by omega)
    refine ⟨y, by omega, i + 1, b2, cap2, pad2, by omega, by rw [← e1]; exact hp2, ?_⟩
    rw [← e1]
    exact (st.fit (by repeat (first | exact trivial  | refine And.intro rfl ?_))).subL (by repeat (first | exact List.Sublist.refl _  | apply List.Sublist.cons_cons  | apply List.Sublist.cons  | exact List.nil_sublist _))
  | zero =>
    obtain rfl : i = ps.length := by omega
    rw [← lk, List.take_length, lk] at st
    have s0 := h.s0
    have gq : ∀ (j : Nat) (hj : j < qs.length), (qs.map vPt ++ pad).toArray[0 + ((j : Nat) : Int).toNat * 1]? = some (vPt qs[j]) := by
      intro j hj
      have := oV_get (pad := pad) (vs := qs.map vPt) (k := j) (by rw [List.length_map]; omega)
      rw [this, List.getElem_map]
    (repeat' (first | refine c_seq ?_  | refine c_region ?_  | refine l_do ?_  | refine l_nil ?_  | refine x_then ?_  | refine x_thenE ?_  | refine x_blkN ?_  | refine x_blkE ?_  | refine wp_ret ?_  | refine wp_skip ?_  | refine wp_block ?_  | refine wp_exit ?_  | refine c_condT st rfl ?_  | refine c_condF st rfl ?_  | ((first | refine o_move st rfl rfl ?_  | refine o_assign st rfl rfl ?_  | refine o_loadS st rfl (by repeat constructor) rfl rfl ?_  | refine o_extract st rfl rfl rfl ?_  | refine o_len st rfl rfl ?_  | refine o_add64 st rfl rfl rfl (by omega) (by omega) ?_  | refine o_sub64 st rfl rfl rfl (by omega) (by omega) ?_  | refine o_notT st rfl rfl ?_ ); clear st; intro _ st)  | (refine o_lss st rfl rfl rfl ?_ ?_ <;> clear st <;> intro _ _ st <;> (try (exfalso; omega))) ))
    refine wp_loop_ghost (fun y a w' => ∃ i : Nat, i + y = ps.length ∧ St w Try.f21.ntmps a w' [(4, .int .i64 ps.length), (5, .slice (some ⟨b1, 0, none⟩) ps.length cp), (9, .float .f32 (s i)), (43, .slice (some ⟨b1, 0, none⟩) ps.length cp), (44, .int .i64 ps.length), (45, .int .i64 (i : Nat))] [⟨b1, true, oV 31 (qs.map vPt) pad⟩]) ps.length ⟨0, by omega, by rw [s0]; exact (st.fit (by repeat (first | exact trivial  | refine And.intro rfl ?_))).subL (by repeat (first | exact List.Sublist.refl _  | apply List.Sublist.cons_cons  | apply List.Sublist.cons  | exact List.nil_sublist _))⟩ ?_
    clear st
    rintro y a w' ⟨i, hi, st⟩
    cases y with
    | succ y =>
      have hlt : i < ps.length := by omega
      have hmod : (i + ps.length - 1) % ps.length < ps.length := Nat.mod_lt _ (by omega)
      have hm := h.hm i hlt
      obtain ⟨a1, a2, a3, a4, a5, a6⟩ := h.ha i hlt
      have hs := h.hs i hlt
      rw [pAt_eq (show i < qs.length by omega), pAt_eq (show (i + ps.length - 1) % ps.length < qs.length by omega)] at hm
      have k1 := fun w => Conj_ok (qs[(i + ps.length - 1) % ps.length].1, qs[(i + ps.length - 1) % ps.length].2.1) w
      have k2 := fun w => MulComplex_ok _ _ _ hm w
      have k3 := fun w => AngleOf_ok (m i) (g i) (fun w => AngleTurns_ok (m i).2 (m i).1 (g i) a1 a2 a3 a4 a5 a6 w) w
      have g1 := gq i (by omega)
      have g2 := gq ((i + ps.length - 1) % ps.length) (by omega)
      (repeat' (first | (refine o_indexAddr st rfl rfl (by omega) (by omega) rfl ?_; clear st; intro _ st)  | (refine o_loadS st rfl (by repeat constructor) g1 rfl ?_; clear st; intro _ st)  | (refine o_loadS st rfl (by repeat constructor) g2 rfl ?_; clear st; intro _ st)  | (refine o_remJ (i + ps.length - 1) ps.length st rfl rfl (by omega) rfl (by omega) rfl ?_; clear st; intro _ st)  | (refine o_callV st rfl (k1 _) rfl ?_; clear st; intro _ _ st)  | (refine o_callV st rfl (k2 _) rfl ?_; clear st; intro _ _ st)  | (refine o_callV st rfl (k3 _) rfl ?_; clear st; intro _ _ st)  | (refine o_fopK st rfl rfl hs rfl ?_; clear st; intro _ st)  | refine c_seq ?_  | refine c_region ?_  | refine l_do ?_  | refine l_nil ?_  | refine x_then ?_  | refine x_thenE ?_  | refine x_blkN ?_  | refine x_blkE ?_  | refine wp_ret ?_  | refine wp_skip ?_  | refine wp_block ?_  | refine wp_exit ?_  | refine c_condT st rfl ?_  | refine c_condF st rfl ?_  | ((first | refine o_move st rfl rfl ?_  | refine o_assign st rfl rfl ?_  | refine o_loadS st rfl (by repeat constructor) rfl rfl ?_  | refine o_extract st rfl rfl rfl ?_  | refine o_len st rfl rfl ?_  | refine o_add64 st rfl rfl rfl (by omega) (by omega) ?_  | refine o_sub64 st rfl rfl rfl (by omega) (by omega) ?_  | refine o_notT st rfl rfl ?_ ); clear st; intro _ st)  | (refine o_lss st rfl rfl rfl ?_ ?_ <;> clear st <;> intro _ _ st <;> (try (exfalso; omega))) ))
      exact ⟨y, by omega, i + 1, by omega, (st.fit (by repeat (first | exact trivial  | refine And.intro rfl ?_))).subL (by repeat (first | exact List.Sublist.refl _  | apply List.Sublist.cons_cons  | apply List.Sublist.cons  | exact List.nil_sublist _))⟩
    | zero =>
      obtain rfl : i = ps.length := by omega
      (repeat' (first | (refine o_callV st rfl (c9 _) rfl ?_; clear st; intro _ _ st)  | refine c_seq ?_  | refine c_region ?_  | refine l_do ?_  | refine l_nil ?_  | refine x_then ?_  | refine x_thenE ?_  | refine x_blkN ?_  | refine x_blkE ?_  | refine wp_ret ?_  | refine wp_skip ?_  | refine wp_block ?_  | refine wp_exit ?_  | refine c_condT st rfl ?_  | refine c_condF st rfl ?_  | ((first | refine o_move st rfl rfl ?_  | refine o_assign st rfl rfl ?_  | refine o_loadS st rfl (by repeat constructor) rfl rfl ?_  | refine o_extract st rfl rfl rfl ?_  | refine o_len st rfl rfl ?_  | refine o_add64 st rfl rfl rfl (by omega) (by omega) ?_  | refine o_sub64 st rfl rfl rfl (by omega) (by omega) ?_  | refine o_notT st rfl rfl ?_ ); clear st; intro _ st)  | (refine o_lss st rfl rfl rfl ?_ ?_ <;> clear st <;> intro _ _ st <;> (try (exfalso; omega))) ))
      refine post2 st Try.results21 (rd_t st rfl) (rd_t st rfl) ?_
      exact ⟨rfl, st.ex0⟩
end Go.Proofs.Ytonbcbhnnflohaa

namespace Go.Proofs.Ytonbcbhnnflohaa
open Go.RowKit
section
variable {P : Program} {w0 w : World} {N : Nat} {a : Act} {E : List (Nat × Value)} {L Lh : List Ent} {K : Act → World → Prop} {Q : Exit → Act → World → Prop}
variable {d : Nat} {ty : TypeId} {pos : String} {aft : Array Edge} {g : Option (Nat × Bool)}
end
attribute [local irreducible] Code.wp wpList Oper.wp Calls bodyPost Exit.then Exit.inBlock

end Go.Proofs.Ytonbcbhnnflohaa

namespace Go.Proofs.Ytonbcbhnnflohaa
open Go.RowKit

section
variable {P : Program} {w0 w : World} {N : Nat} {a : Act} {E : List (Nat × Value)} {L Lh : List Ent} {K : Act → World → Prop} {Q : Exit → Act → World → Prop}
variable {d : Nat} {ty : TypeId} {pos : String} {aft : Array Edge} {g : Option (Nat × Bool)}
end
structure LtD (z b : Nat) : Prop where
  is : Is .f64 z (some z)
  lt : fltB .f64 (some z) (some b) = true
/-- A point that is told at a time. -/
structure AtOk (c : List Kn) (t : Nat) (k : Kn) : Prop where
  tm : Tm t
  at_ : atK (c.length - 1) c t = some k
  gd : Gd k.1 ∧ Gd k.2.1
abbrev pt (k : Kn) : Nat × Nat := (k.1, k.2.1)
theorem i64_001 : Is .f64 4562254508917369340 (some 4562254508917369340) := Is_lit (by decide +kernel)
theorem i64_01 : Is .f64 4576918229304087675 (some 4576918229304087675) := Is_lit (by decide +kernel)
attribute [local irreducible] Code.wp wpList Oper.wp Calls bodyPost Exit.then Exit.inBlock

end Go.Proofs.Ytonbcbhnnflohaa

namespace Go.Proofs.Ytonbcbhnnflohaa
open Go.RowKit

attribute [local irreducible] Code.wp wpList Oper.wp Calls bodyPost Exit.then Exit.inBlock

end Go.Proofs.Ytonbcbhnnflohaa

namespace Go.Proofs.Ytonbcbhnnflohaa
open Go.RowKit
attribute [local irreducible] Code.wp wpList Oper.wp Calls bodyPost Exit.then Exit.inBlock

/-- The points of a curve. -/
structure PtsOk (c : List Kn) (n : Nat) (ts : List Nat) (ks : List Kn) : Prop where
  gc : GC c
  h1 : 1 ≤ n
  h64 : n ≤ 64
  lt : ts.length = n + 1
  lk : ks.length = n + 1
  ht : ∀ k (hk : k < ts.length), shareW (k : Nat) (n : Nat) = some ts[k]
  hk : ∀ k (_ : k < ts.length) (_ : k < ks.length), atK (c.length - 1) c ts[k] = some ks[k]
  hgd : ∀ k ∈ ks, Gd k.1 ∧ Gd k.2.1
end Go.Proofs.Ytonbcbhnnflohaa
