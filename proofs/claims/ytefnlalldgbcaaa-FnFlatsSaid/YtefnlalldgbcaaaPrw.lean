/-
  Contracts: the corners of tiles of a sheet.
-/
import Derived.Test.YtefnlalldgbcaaaX
import Derived.Test.YtefnlalldgbcaaaQ
namespace Go.Proofs.Ytefnlalldgbcaaa
open Go.RowKit
attribute [local irreducible] Code.wp wpList Oper.wp Calls bodyPost Exit.then Exit.inBlock

theorem IsSL.push {bs : List B3} {b : B3} {ss : List S3} {s : S3} (h : IsSL bs ss) (hb : IsS b s) : IsSL (bs ++ [b]) (ss ++ [s]) := by
  have hl := h.len
  refine ⟨by simp [hl], ?_⟩
  intro i b' s' hi hs
  rcases Nat.lt_or_ge i bs.length with hlt | hge
  · rw [List.getElem?_append_left hlt] at hi
    rw [List.getElem?_append_left (by omega)] at hs
    exact h.get i b' s' hi hs
  · rw [List.getElem?_append_right hge] at hi
    rw [List.getElem?_append_right (by omega)] at hs
    have h0 : i - bs.length = 0 := by
      have := (List.getElem?_eq_some_iff.1 hi).1
      simp at this
      omega
    rw [h0] at hi
    rw [show i - ss.length = 0 by omega] at hs
    simp at hi hs
    subst hi
    subst hs
    exact hb

/-- The share of a number. -/
def shr (i m : Int) : Option Nat := fop .quo .f32 (some (floatOfInt .f32 i)) (some (floatOfInt .f32 m))
/-- The first i corners of a row of tiles. -/
def tRow (ss : List S3) (M K : Nat) (m n : Int) (j i : Nat) : List S3 := (List.range i).map fun (i : Nat) => atL ss M K (shr i m) (shr j n)
/-- The first j rows of corners of tiles. -/
def tAll (ss : List S3) (M K : Nat) (m n : Int) (c j : Nat) : List S3 := (List.range j).flatMap fun (j : Nat) => tRow ss M K m n j c
theorem tRow_succ (ss : List S3) (M K : Nat) (m n : Int) (j i : Nat) : tRow ss M K m n j (i + 1) = tRow ss M K m n j i ++ [atL ss M K (shr i m) (shr j n)] := by simp [tRow, List.range_succ]
theorem tAll_succ (ss : List S3) (M K : Nat) (m n : Int) (c j : Nat) : tAll ss M K m n c (j + 1) = tAll ss M K m n c j ++ tRow ss M K m n j c := by simp [tAll, List.range_succ]
theorem tRow_length (ss : List S3) (M K : Nat) (m n : Int) (j i : Nat) : (tRow ss M K m n j i).length = i := by simp [tRow]
theorem tAll_length (ss : List S3) (M K : Nat) (m n : Int) (c j : Nat) : (tAll ss M K m n c j).length = j * c := by
  induction j with
  | zero => simp [tAll]
  | succ j ih => rw [tAll_succ, List.length_append, ih, tRow_length, Nat.add_mul, Nat.one_mul]

theorem ifSpots_ok (bs : List B3) (ss : List S3) (h : IsSL bs ss) (base : Option Addr) (cap : Nat) (w : World) (hr : RdS w base bs) (hlen : bs.length < 1000000000) :
    CV Try.prog 129 [.slice base bs.length cap] w (if finL ss then .tuple #[.slice base bs.length cap, .bool true] else .tuple #[.slice none 0 0, .bool false]) := by
  refine enter Try.func129 rfl rfl rfl rfl ?_
  intro a st
  have hc := fun (w : World) hr => areSpots_ok bs ss h base cap w hr hlen
  generalize finL ss = q at hc ⊢
  cases q
  all_goals
    (repeat' (first | (refine o_callV st rfl (hc _ (hr.mono st.below)) rfl ?_; clear st; intro _ _ st)  | refine c_seq ?_  | refine c_region ?_  | refine l_do ?_  | refine l_nil ?_  | refine x_then ?_  | refine x_thenR ?_  | refine wp_ret ?_  | refine wp_skip ?_  | refine c_condT st rfl ?_  | refine c_condF st rfl ?_  | ((first | refine o_move st rfl rfl ?_  | refine o_assign st rfl rfl ?_  | refine o_notT st rfl rfl ?_  | refine o_notF st rfl rfl ?_); clear st; intro _ st)))
    refine post2 st Try.results129 (rd_t st rfl) (rd_t st rfl) ?_
    exact ⟨rfl, st.ex0⟩

/-- A call that makes a list of spots and gives it if all are finite. -/
def CLs (P : Program) (f : FuncId) (vs : List Value) (w : World) (ss : List S3) : Prop := CM1 P f vs w fun v b o => ∃ bs cap pad, v = (if finL ss then .tuple #[.slice (some ⟨b, 0, none⟩) bs.length cap, .bool true] else .tuple #[.slice none 0 0, .bool false]) ∧ o = oS bs pad ∧ IsSL bs ss
theorem CLs.yes {P : Program} {f : FuncId} {vs : List Value} {w : World} {ss : List S3} (h : CLs P f vs w ss) (hf : finL ss = true) : CLsY P f vs w ss :=
  Calls.mono h fun _ _ ⟨v, b, o, he, ⟨bs, cap, pad, hv, ho, hI⟩, hx⟩ => ⟨v, b, o, he, ⟨bs, cap, pad, by rw [hv, hf]; rfl, ho, hI⟩, hx⟩
def tilesL (m n : Int) (ss : List S3) (p q : Int) : List S3 := tAll ss m.toNat n.toNat p q (p.toNat + 1) (q.toNat + 1)
/-- May tiles be made. -/
def tilesCan (m n : Int) (ss : List S3) (p q : Int) : Bool := validC m n ss && (inB p 1 12 && inB q 1 12)
def tilesOk (m n : Int) (ss : List S3) (p q : Int) : Bool := tilesCan m n ss p q && finL (tilesL m n ss p q)

theorem tiles_nums {p q : Int} (h : (inB p 1 12 && inB q 1 12) = true) : ∃ A B : Nat, p = A ∧ q = B ∧ 1 ≤ A ∧ A ≤ 12 ∧ 1 ≤ B ∧ B ≤ 12 := by
  simp only [inB, Bool.and_eq_true, decide_eq_true_eq] at h
  exact ⟨p.toNat, q.toNat, by omega, by omega, by omega, by omega, by omega, by omega⟩

set_option maxHeartbeats 16000000 in
theorem implTiles_ok (m n : Int) (bs : List B3) (ss : List S3) (h : IsSL bs ss) (base : Option Addr) (cap : Nat) (hcap : bs.length ≤ cap) (p q : Int) (hq : tilesCan m n ss p q = true) (w : World) (hr : RdS w base bs) (hlen : bs.length < 1000000000) :
    CLs Try.prog 91 [vSh m n base bs.length cap, .int .i64 p, .int .i64 q] w (tilesL m n ss p q) := by
  refine enter Try.func91 rfl rfl rfl rfl ?_
  intro a st
  have hc := fun (w : World) hr => implValid_ok m n bs ss h base cap w hr hlen
  have hs := fun w => areTiles_ok p q w
  unfold tilesCan at hq
  rw [Bool.and_eq_true] at hq
  obtain ⟨hv, hz⟩ := hq
  rw [hv] at hc
  rw [hz] at hs
  obtain ⟨M, K, rfl, rfl, hm0, hm1, hn0, hn1, hl, h36, _⟩ := valid_nums hv
  obtain ⟨A, B, rfl, rfl, ha0, ha1, hb0, hb1⟩ := tiles_nums hz
  have hT : tilesL M K ss A B = tAll ss M K A B (A + 1) (B + 1) := rfl
  rw [hT]
  have hTl := tAll_length ss M K A B (A + 1) (B + 1)
  have hTb : (B + 1) * (A + 1) ≤ 13 * 13 := Nat.mul_le_mul (by omega) (by omega)
  (repeat' (first | (refine o_callV st rfl (hc _ (hr.mono st.below)) rfl ?_; clear st; intro _ _ st)  | (refine o_callV st rfl (hs _) rfl ?_; clear st; intro _ _ st)  | (refine o_buildSlice0S st rfl ?_; clear st; intro blk0 _ _ st)  | refine c_seq ?_  | refine c_region ?_  | refine l_do ?_  | refine l_doG st rfl rfl ?_  | refine l_nil ?_  | refine x_then ?_  | refine x_thenE ?_  | refine x_blkN ?_  | refine x_blkE ?_  | refine wp_ret ?_  | refine wp_skip ?_  | refine wp_block ?_  | refine wp_exit ?_  | refine c_condT st rfl ?_  | refine c_condF st rfl ?_  | ((first | refine o_move st rfl rfl ?_  | refine o_assign st rfl rfl ?_  | refine o_pickF st rfl rfl rfl ?_); clear st; intro _ st)  | ((first | refine o_boxA st rfl rfl ?_ ); clear st; intro _ _ _ st)  | ((first | refine o_load3 st rfl (by repeat constructor) rfl ?_  | refine o_extract st rfl rfl rfl ?_  | refine o_add64 st rfl rfl rfl (by omega) (by omega) ?_  | refine o_notT st rfl rfl ?_ ); clear st; intro _ st)  | (refine o_fop rfl st rfl rfl (by first | assumption | exact Is_ofInt _ _ | exact Is_lit (by decide +kernel)) (by first | assumption | exact Is_ofInt _ _ | exact Is_lit (by decide +kernel)) rfl ?_; clear st; intro _ _ _ _ st)  | ((first | refine o_intFloat st rfl rfl ?_); clear st; intro _ st)  | (refine o_lss st rfl rfl rfl ?_ ?_ <;> clear st <;> intro _ _ st <;> (try (exfalso; omega)))))
  refine wp_loop_ghost (fun z a w' => ∃ (j blk cp pb : Nat) (os : List B3) (pad : List Value), j ≤ B + 1 ∧ z = B + 1 - j ∧ IsSL os (tAll ss M K A B (A + 1) j) ∧ (cS os ++ pad).length = cp * 3 ∧ St w Try.f91.ntmps a w' [(1, .int .i64 A), (2, .int .i64 B), (3, .pointer (some ⟨pb, 0, none⟩)), (8, .slice (some ⟨blk, 0, none⟩) os.length cp), (22, .int .i64 ((B : Int) + 1)), (23, .int .i64 (j : Int))] [⟨blk, true, oS os pad⟩, ⟨pb, true, .cells [.int .i64 M, .int .i64 K, .slice base bs.length cap].toArray 46 (0, 0)⟩]) (B + 1) ⟨0, blk0, 0, _, [], [], by omega, by omega, IsSL_nil, rfl, (st.fit (by repeat (first | exact trivial  | refine And.intro rfl ?_))).subL (by repeat (first | exact List.Sublist.refl _  | apply List.Sublist.cons_cons  | apply List.Sublist.cons  | exact List.nil_sublist _))⟩ ?_
  clear st
  rintro z a w' ⟨j, blk, cp, pb, os, pad, hj, rfl, hI, hp, st⟩
  have hl1 := hI.len
  rw [tAll_length] at hl1
  have hjb : j * (A + 1) ≤ 13 * 13 := Nat.mul_le_mul (by omega) (by omega)
  by_cases hlt : j < B + 1
  · (repeat' (first | refine c_seq ?_  | refine c_region ?_  | refine l_do ?_  | refine l_doG st rfl rfl ?_  | refine l_nil ?_  | refine x_then ?_  | refine x_thenE ?_  | refine x_blkN ?_  | refine x_blkE ?_  | refine wp_ret ?_  | refine wp_skip ?_  | refine wp_block ?_  | refine wp_exit ?_  | refine c_condT st rfl ?_  | refine c_condF st rfl ?_  | ((first | refine o_move st rfl rfl ?_  | refine o_assign st rfl rfl ?_  | refine o_pickF st rfl rfl rfl ?_); clear st; intro _ st)  | ((first | refine o_boxA st rfl rfl ?_ ); clear st; intro _ _ _ st)  | ((first | refine o_load3 st rfl (by repeat constructor) rfl ?_  | refine o_extract st rfl rfl rfl ?_  | refine o_add64 st rfl rfl rfl (by omega) (by omega) ?_  | refine o_notT st rfl rfl ?_ ); clear st; intro _ st)  | (refine o_fop rfl st rfl rfl (by first | assumption | exact Is_ofInt _ _ | exact Is_lit (by decide +kernel)) (by first | assumption | exact Is_ofInt _ _ | exact Is_lit (by decide +kernel)) rfl ?_; clear st; intro _ _ _ _ st)  | ((first | refine o_intFloat st rfl rfl ?_); clear st; intro _ st)  | (refine o_lss st rfl rfl rfl ?_ ?_ <;> clear st <;> intro _ _ st <;> (try (exfalso; omega)))))
    refine wp_loop_ghost (fun z a w' => ∃ (i blk cp pb : Nat) (os : List B3) (pad : List Value), i ≤ A + 1 ∧ z = A + 1 - i ∧ IsSL os (tAll ss M K A B (A + 1) j ++ tRow ss M K A B j i) ∧ (cS os ++ pad).length = cp * 3 ∧ St w Try.f91.ntmps a w' [(1, .int .i64 A), (2, .int .i64 B), (3, .pointer (some ⟨pb, 0, none⟩)), (8, .slice (some ⟨blk, 0, none⟩) os.length cp), (9, .int .i64 (j : Int)), (22, .int .i64 ((B : Int) + 1)), (23, .int .i64 (j : Int)), (27, .int .i64 ((A : Int) + 1)), (28, .int .i64 (i : Int))] [⟨blk, true, oS os pad⟩, ⟨pb, true, .cells [.int .i64 M, .int .i64 K, .slice base bs.length cap].toArray 46 (0, 0)⟩]) (A + 1) ⟨0, blk, cp, pb, os, pad, by omega, by omega, by simpa [tRow] using hI, hp, (st.fit (by repeat (first | exact trivial  | refine And.intro rfl ?_))).subL (by repeat (first | exact List.Sublist.refl _  | apply List.Sublist.cons_cons  | apply List.Sublist.cons  | exact List.nil_sublist _))⟩ ?_
    clear st hp hI hl1 blk cp pb os pad
    rintro z a w' ⟨i, blk, cp, pb, os, pad, hi, rfl, hI, hp, st⟩
    have hl1 := hI.len
    rw [List.length_append, tAll_length, tRow_length] at hl1
    by_cases hlt' : i < A + 1
    · (repeat' (first | (refine o_callSb st rfl (at_ok M K bs ss h base cap hl hm0 hn0 h36 hcap _ _ _ _ (by first | assumption | exact Is_ofInt _ _ | exact Is_lit (by decide +kernel)) (by first | assumption | exact Is_ofInt _ _ | exact Is_lit (by decide +kernel)) _ (hr.mono st.below)) rfl ?_; clear st; intro b1 hb1 _ _ st)  | (refine o_buildSliceS [_] st rfl rfl rfl rfl rfl ?_; clear st; intro _ _ _ st)  | (refine o_append1 rfl st rfl rfl (by repeat constructor) (by repeat constructor) hp (by omega) rfl ?_; clear st; intro blk1 cap1 pad1 _ _ hp1 st)  | refine c_seq ?_  | refine c_region ?_  | refine l_do ?_  | refine l_doG st rfl rfl ?_  | refine l_nil ?_  | refine x_then ?_  | refine x_thenE ?_  | refine x_blkN ?_  | refine x_blkE ?_  | refine wp_ret ?_  | refine wp_skip ?_  | refine wp_block ?_  | refine wp_exit ?_  | refine c_condT st rfl ?_  | refine c_condF st rfl ?_  | ((first | refine o_move st rfl rfl ?_  | refine o_assign st rfl rfl ?_  | refine o_pickF st rfl rfl rfl ?_); clear st; intro _ st)  | ((first | refine o_boxA st rfl rfl ?_ ); clear st; intro _ _ _ st)  | ((first | refine o_load3 st rfl (by repeat constructor) rfl ?_  | refine o_extract st rfl rfl rfl ?_  | refine o_add64 st rfl rfl rfl (by omega) (by omega) ?_  | refine o_notT st rfl rfl ?_ ); clear st; intro _ st)  | (refine o_fop rfl st rfl rfl (by first | assumption | exact Is_ofInt _ _ | exact Is_lit (by decide +kernel)) (by first | assumption | exact Is_ofInt _ _ | exact Is_lit (by decide +kernel)) rfl ?_; clear st; intro _ _ _ _ st)  | ((first | refine o_intFloat st rfl rfl ?_); clear st; intro _ st)  | (refine o_lss st rfl rfl rfl ?_ ?_ <;> clear st <;> intro _ _ st <;> (try (exfalso; omega)))))
      refine ⟨A + 1 - (i + 1), by omega, i + 1, blk1, cap1, pb, os ++ [b1], pad1, by omega, rfl, ?_, hp1, (st.fit (by repeat (first | exact trivial  | refine And.intro rfl ?_))).subL (by repeat (first | exact List.Sublist.refl _  | apply List.Sublist.cons_cons  | apply List.Sublist.cons  | exact List.nil_sublist _))⟩
      rw [tRow_succ, ← List.append_assoc]
      exact hI.push hb1
    · have hi' : i = A + 1 := by omega
      subst hi'
      rw [← tAll_succ] at hI
      (repeat' (first | refine c_seq ?_  | refine c_region ?_  | refine l_do ?_  | refine l_doG st rfl rfl ?_  | refine l_nil ?_  | refine x_then ?_  | refine x_thenE ?_  | refine x_blkN ?_  | refine x_blkE ?_  | refine wp_ret ?_  | refine wp_skip ?_  | refine wp_block ?_  | refine wp_exit ?_  | refine c_condT st rfl ?_  | refine c_condF st rfl ?_  | ((first | refine o_move st rfl rfl ?_  | refine o_assign st rfl rfl ?_  | refine o_pickF st rfl rfl rfl ?_); clear st; intro _ st)  | ((first | refine o_boxA st rfl rfl ?_ ); clear st; intro _ _ _ st)  | ((first | refine o_load3 st rfl (by repeat constructor) rfl ?_  | refine o_extract st rfl rfl rfl ?_  | refine o_add64 st rfl rfl rfl (by omega) (by omega) ?_  | refine o_notT st rfl rfl ?_ ); clear st; intro _ st)  | (refine o_fop rfl st rfl rfl (by first | assumption | exact Is_ofInt _ _ | exact Is_lit (by decide +kernel)) (by first | assumption | exact Is_ofInt _ _ | exact Is_lit (by decide +kernel)) rfl ?_; clear st; intro _ _ _ _ st)  | ((first | refine o_intFloat st rfl rfl ?_); clear st; intro _ st)  | (refine o_lss st rfl rfl rfl ?_ ?_ <;> clear st <;> intro _ _ st <;> (try (exfalso; omega)))))
      exact ⟨B + 1 - (j + 1), by omega, j + 1, blk, cp, pb, os, pad, by omega, rfl, hI, hp, (st.fit (by repeat (first | exact trivial  | refine And.intro rfl ?_))).subL (by repeat (first | exact List.Sublist.refl _  | apply List.Sublist.cons_cons  | apply List.Sublist.cons  | exact List.nil_sublist _))⟩
  · have hj' : j = B + 1 := by omega
    subst hj'
    have hf := fun (w : World) hr => ifSpots_ok os _ hI (some ⟨blk, 0, none⟩) cp w hr (by omega)
    generalize hg : finL (tAll ss M K A B (A + 1) (B + 1)) = g at hf
    cases g
    all_goals
      (repeat' (first | (refine o_callV st rfl (hf _ (RdS.of (st.heap (by repeat constructor)) (spotsIn0p _ _))) rfl ?_; clear st; intro _ _ st)  | refine c_seq ?_  | refine c_region ?_  | refine l_do ?_  | refine l_doG st rfl rfl ?_  | refine l_nil ?_  | refine x_then ?_  | refine x_thenE ?_  | refine x_blkN ?_  | refine x_blkE ?_  | refine wp_ret ?_  | refine wp_skip ?_  | refine wp_block ?_  | refine wp_exit ?_  | refine c_condT st rfl ?_  | refine c_condF st rfl ?_  | ((first | refine o_move st rfl rfl ?_  | refine o_assign st rfl rfl ?_  | refine o_pickF st rfl rfl rfl ?_); clear st; intro _ st)  | ((first | refine o_boxA st rfl rfl ?_ ); clear st; intro _ _ _ st)  | ((first | refine o_load3 st rfl (by repeat constructor) rfl ?_  | refine o_extract st rfl rfl rfl ?_  | refine o_add64 st rfl rfl rfl (by omega) (by omega) ?_  | refine o_notT st rfl rfl ?_ ); clear st; intro _ st)  | (refine o_fop rfl st rfl rfl (by first | assumption | exact Is_ofInt _ _ | exact Is_lit (by decide +kernel)) (by first | assumption | exact Is_ofInt _ _ | exact Is_lit (by decide +kernel)) rfl ?_; clear st; intro _ _ _ _ st)  | ((first | refine o_intFloat st rfl rfl ?_); clear st; intro _ st)  | (refine o_lss st rfl rfl rfl ?_ ?_ <;> clear st <;> intro _ _ st <;> (try (exfalso; omega)))))
      refine post2 st Try.results91 (rd_t st rfl) (rd_t st rfl) ?_
      exact ⟨_, blk, _, rfl, ⟨os, cp, pad, by first | rfl | (rw [hg]; rfl), rfl, hI⟩, st.ex1 (by repeat constructor)⟩

theorem implTiles_yes (m n : Int) (bs : List B3) (ss : List S3) (h : IsSL bs ss) (base : Option Addr) (cap : Nat) (hcap : bs.length ≤ cap) (p q : Int) (hq : tilesOk m n ss p q = true) (w : World) (hr : RdS w base bs) (hlen : bs.length < 1000000000) :
    CLsY Try.prog 91 [vSh m n base bs.length cap, .int .i64 p, .int .i64 q] w (tilesL m n ss p q) := by
  unfold tilesOk at hq
  rw [Bool.and_eq_true] at hq
  exact (implTiles_ok m n bs ss h base cap hcap p q hq.1 w hr hlen).yes hq.2
/-! ## by any number of workers -/
end Go.Proofs.Ytefnlalldgbcaaa

namespace Go.Proofs.Ytefnlalldgbcaaa
open Go.RowKit

section
variable {P : Program} {w0 w w' : World} {N : Nat} {a a' : Act} {E E' : List (Nat × Value)} {L L' : List Ent} {K : Act → World → Prop} {Q : Exit → Act → World → Prop}
variable {d : Nat} {ty : TypeId} {pos : String} {aft : Array Edge} {g : Option (Nat × Bool)}
/-- What is known, as old. -/
def asOld (L : List Ent) : List Ent := L.map fun e => ⟨e.b, false, e.o⟩
theorem mem_asOld {L : List Ent} {e : Ent} (h : e ∈ asOld L) : e.own = false ∧ ∃ ow, (⟨e.b, ow, e.o⟩ : Ent) ∈ L := by
  obtain ⟨f, hf, rfl⟩ := List.mem_map.1 h
  exact ⟨rfl, f.own, hf⟩
end

/-! ## the rows of a patch -/
attribute [local irreducible] Code.wp wpList Oper.wp Calls bodyPost Exit.then Exit.inBlock
end Go.Proofs.Ytefnlalldgbcaaa
