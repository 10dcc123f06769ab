/-
  Contracts: a spot of a sheet is moved; rows and columns of a sheet.
-/
import Derived.Test.YtefnlalldgbcaaaS
import Derived.Test.YtefnlalldgbcaaaT
import Derived.Test.YtefnlalldgbcaaaU
namespace Go.Proofs.Ytefnlalldgbcaaa
open Go.RowKit

section
variable {P : Program} {w0 w : World} {N : Nat} {a : Act} {E : List (Nat × Value)} {L Lh : List Ent} {K : Act → World → Prop} {Q : Exit → Act → World → Prop}
variable {d : Nat} {ty : TypeId} {pos : String} {aft : Array Edge} {g : Option (Nat × Bool)}

theorem cS_setAt (bs : List B3) (pad : List Value) (i : Nat) (b1 : B3) (hi : i < bs.length) : (cS bs ++ pad).take (i * 3) ++ cB b1 ++ (cS bs ++ pad).drop (i * 3 + 3) = cS (bs.set i b1) ++ pad := by
  have hs : bs = bs.take i ++ bs[i] :: bs.drop (i + 1) := by rw [← List.drop_eq_getElem_cons hi, List.take_append_drop]
  have hl : (cS (bs.take i)).length = i * 3 := by rw [cS_length, List.length_take, Nat.min_eq_left (by omega)]
  have hset : bs.set i b1 = bs.take i ++ b1 :: bs.drop (i + 1) := by rw [List.set_eq_take_append_cons_drop, if_pos hi]
  rw [hset]
  have e1 : (cS bs ++ pad).take (i * 3) = cS (bs.take i) := by
    conv => lhs; rw [hs]
    rw [cS_append, List.append_assoc, ← hl, List.take_left]
  have e2 : (cS bs ++ pad).drop (i * 3 + 3) = cS (bs.drop (i + 1)) ++ pad := by
    conv => lhs; rw [hs]
    rw [cS_append, List.append_assoc, ← List.drop_drop, ← hl, List.drop_left]
    rfl
  rw [e1, e2, cS_append]
  simp [cS]

/-- A store of a spot into an element of an own list. -/
theorem o_storeSp {t : TypeId} {x y : Operand} {b off i : Nat} {bs : List B3} {pad : List Value} {b1 : B3} {L' : List Ent} [ht : AggT P t 3] (st : St w0 N a w E L)
    (hx : evE E x = some (.pointer (some ⟨b, off, none⟩))) (hoff : off = i * 3) (hy : evE E y = some (vS b1)) (hU : Upd L b (oS bs pad) (oS (bs.set i b1) pad) L') (hi : i < bs.length)
    (h : ∀ a' w', St w0 N a' w' E L' → K a' w') : Oper.wp P ⟨none, .store t x y, ty, pos, aft, g⟩ a w K Q := by
  subst hoff
  refine o_storeM (n := 3) (vs := cB b1) (cs := cS bs ++ pad) (t' := 26) st hx hy (L' := L') ?_ ?_ rfl rfl h
  · rw [cS_setAt bs pad i b1 hi]
    exact hU
  · simp only [List.length_append, cS_length]
    omega

/-- A part of a list. -/
theorem o_slicePart {t e size bz len cap blk off : Nat} {zs : List Value} {x l h : Operand} {kl kh : IntKind} {lo hi : Int} (k n : Nat) [hs : SliceT P t e] [he : ElemT P e size bz zs] (st : St w0 N a w E L)
    (hx : evE E x = some (.slice (some ⟨blk, off, none⟩) len cap)) (hl : evE E l = some (.int kl lo)) (hh : evE E h = some (.int kh hi)) (hlo : lo = (k : Int)) (hhi : hi = ((k + n : Nat) : Int)) (hn : 0 < n) (hc : k + n ≤ cap) (hd : Nat.blt d N = true)
    (hk : ∀ a', St w0 N a' w ((d, .slice (some ⟨blk, off + k * size, none⟩) n (cap - k)) :: E) L → K a' w) : Oper.wp P ⟨some d, .slice t x (some l) (some h) none, ty, pos, aft, g⟩ a w K Q := by
  subst hlo
  subst hhi
  refine o_sliceLH st hx hl hh (by omega) (by omega) (by omega) hd ?_
  intro a' st'
  rw [if_neg (by omega)] at st'
  simp only [Option.map_some, Addr.add_lit, Int.toNat_natCast, Nat.add_sub_cancel_left] at st'
  exact hk a' st'
end

attribute [local irreducible] Code.wp wpList Oper.wp Calls bodyPost Exit.then Exit.inBlock

/-- The numbers of a valid sheet. -/
theorem valid_nums {m n : Int} {ss : List S3} (h : validC m n ss = true) : ∃ M N : Nat, m = M ∧ n = N ∧ 2 ≤ M ∧ M ≤ 6 ∧ 2 ≤ N ∧ N ≤ 6 ∧ ss.length = M * N ∧ M * N ≤ 36 ∧ finL ss = true := by
  simp only [validC, inB, Bool.and_eq_true, decide_eq_true_eq, beq_iff_eq] at h
  obtain ⟨⟨⟨hm0, hm1⟩, hn0, hn1⟩, hl, hf⟩ := h
  obtain ⟨M, rfl⟩ : ∃ k : Nat, m = k := ⟨m.toNat, by omega⟩
  obtain ⟨K, rfl⟩ : ∃ k : Nat, n = k := ⟨n.toNat, by omega⟩
  have h36 : M * K ≤ 6 * 6 := Nat.mul_le_mul (by omega) (by omega)
  rw [← Int.natCast_mul] at hl
  generalize hq : M * K = q at hl h36
  rw [show IntKind.i64.wrap (q : Int) = (q : Int) by rw [IntKind.wrap_i64]; omega] at hl
  exact ⟨M, K, rfl, rfl, by omega, by omega, by omega, by omega, by omega, by omega, hf⟩

theorem IsSL.set {bs : List B3} {ss : List S3} (h : IsSL bs ss) (i : Nat) {b : B3} {s : S3} (hb : IsS b s) : IsSL (bs.set i b) (ss.set i s) := by
  refine ⟨by simp [h.len], ?_⟩
  intro j b' s' hj hs
  rw [List.getElem?_set] at hj hs
  by_cases hij : i = j
  · subst hij
    have hl := h.len
    simp only [if_true] at hj hs
    split at hj <;> split at hs <;> simp_all
  · rw [if_neg hij] at hj hs
    exact h.get j b' s' hj hs

/-- May the spot be moved. -/
def mvOk (m n : Int) (ss : List S3) (i : Int) (s : S3) : Bool := validC m n ss && (inB i 0 ((ss.length : Int) - 1) && finS s)

set_option maxHeartbeats 8000000 in
theorem implMove_yes (m n : Int) (bs : List B3) (ss : List S3) (h : IsSL bs ss) (base : Option Addr) (cap : Nat) (i : Int) (b1 : B3) (s1 : S3) (h1 : IsS b1 s1) (hq : mvOk m n ss i s1 = true) (w : World) (hr : RdS w base bs) (hlen : bs.length < 1000000000) :
    CShY Try.prog 72 [vSh m n base bs.length cap, .int .i64 i, vS b1] w m n (ss.set i.toNat s1) := by
  refine enter Try.func72 rfl rfl rfl rfl ?_
  intro a st
  have hc := fun (w : World) hr => implValid_ok m n bs ss h base cap w hr hlen
  unfold mvOk at hq
  rw [Bool.and_eq_true, Bool.and_eq_true] at hq
  obtain ⟨hv, hi, hf⟩ := hq
  rw [hv] at hc
  obtain ⟨M, K, rfl, rfl, hm0, hm1, hn0, hn1, hl, h36, _⟩ := valid_nums hv
  have hin := fun w => within_ok i 0 ((bs.length : Int) - 1) w
  rw [h.len, hi, ← h.len] at hin
  have hfin := fun w => implIsSpot_ok b1 s1 h1 w
  rw [hf] at hfin
  simp only [inB, Bool.and_eq_true, decide_eq_true_eq] at hi
  have hl' := h.len
  have hpos : 0 < bs.length := by
    have : 0 < M * K := Nat.mul_pos (by omega) (by omega)
    omega
  rcases id hr with rfl | ⟨b0, off, cs, t, fr, rfl, hw, hsp⟩
  · simp at hpos
  (repeat' (first | (refine o_callV st rfl (hc _ (hr.mono st.below)) rfl ?_; clear st; intro _ _ st)  | (refine o_callV st rfl (hin _) rfl ?_; clear st; intro _ _ st)  | (refine o_callV st rfl (hfin _) rfl ?_; clear st; intro _ _ st)  | (refine o_callM1 st rfl (clone_ok bs b0 off cap _ (hr.mono st.below) hpos hlen) rfl ?_; clear st; rintro _ blk _ ⟨cap1, pad1, rfl, rfl, hp1⟩ _ _ st)  | (refine o_indexAddr st rfl rfl (by omega) (by omega) rfl ?_; clear st; intro _ st)  | (refine o_storeSp (i := i.toNat) st rfl (by omega) rfl (by repeat constructor) (by omega) ?_; clear st; intro _ _ st)  | refine c_seq ?_  | refine c_region ?_  | refine l_do ?_  | refine l_doG st rfl rfl ?_  | refine l_nil ?_  | refine x_then ?_  | refine wp_ret ?_  | refine wp_skip ?_  | refine c_condF st rfl ?_  | ((first | refine o_move st rfl rfl ?_  | refine o_assign st rfl rfl ?_  | refine o_pickF st rfl rfl rfl ?_); clear st; intro _ st)  | ((first | refine o_alloc st rfl ?_  | refine o_boxA st rfl rfl ?_ ); clear st; intro _ _ _ st)  | ((first | refine o_fieldAddr st rfl rfl ?_  | refine o_loadS st rfl (by repeat constructor) rfl rfl ?_  | refine o_load3 st rfl (by repeat constructor) rfl ?_ ); clear st; intro _ st)  | ((first | refine o_storeS st rfl rfl rfl (by repeat constructor) rfl (by dsimp only [List.set]) ?_  | refine o_storeW st rfl rfl (by repeat constructor) rfl rfl rfl ?_); clear st; intro _ _ st)  | ((first | refine o_len st rfl rfl ?_  | refine o_sub64 st rfl rfl rfl (by omega) (by omega) ?_  | refine o_notT st rfl rfl ?_ ); clear st; intro _ st)))
  refine post2 st Try.results72 (rd_c st rfl (by repeat constructor) rfl) (rd_t st rfl) ?_
  exact ⟨_, blk, _, rfl, ⟨bs.set i.toNat b1, cap1, pad1, by rw [List.length_set]; rfl, rfl, h.set _ h1⟩, st.ex1 (by repeat constructor)⟩

/-! ## rows and columns -/
def rowL (ss : List S3) (M j : Nat) : List S3 := (ss.drop (j * M)).take M
def colL (ss : List S3) (M K i : Nat) : List S3 := (List.range K).map fun j => ss.getD (j * M + i) z3
theorem colL_length (ss : List S3) (M K i : Nat) : (colL ss M K i).length = K := by simp [colL]
theorem mul_add_lt {j K M i : Nat} (hj : j < K) (hi : i < M) : j * M + i < M * K := by
  have h1 : (j + 1) * M ≤ K * M := Nat.mul_le_mul_right _ hj
  rw [Nat.mul_comm K M, Nat.add_mul] at h1
  omega
theorem rowL_length (ss : List S3) (M K j : Nat) (hl : ss.length = M * K) (hj : j < K) : (rowL ss M j).length = M := by
  have h1 : (j + 1) * M ≤ K * M := Nat.mul_le_mul_right _ hj
  rw [Nat.mul_comm K M, Nat.add_mul] at h1
  simp only [rowL, List.length_take, List.length_drop]
  omega

set_option maxHeartbeats 8000000 in
theorem row_ok (M K j : Nat) (bs : List B3) (ss : List S3) (h : IsSL bs ss) (base : Option Addr) (cap : Nat) (hl : ss.length = M * K) (hM : 2 ≤ M) (h36 : M * K ≤ 36) (hj : j < K) (hcap : bs.length ≤ cap) (w : World) (hr : RdS w base bs) :
    COw Try.prog 151 [vSh M K base bs.length cap, .int .i64 j] w (rowL ss M j) := by
  refine enter Try.func151 rfl rfl rfl rfl ?_
  intro a st
  have hl' := h.len
  have hK1 : 1 * K ≤ M * K := Nat.mul_le_mul_right _ (by omega)
  have hsum : (j + 1) * M ≤ M * K := by
    have h1 : (j + 1) * M ≤ K * M := Nat.mul_le_mul_right _ hj
    rwa [Nat.mul_comm K M] at h1
  have hsum' : j * M + M ≤ M * K := by rw [Nat.add_mul] at hsum; omega
  have e0 : (j : Int) * (M : Int) = ((j * M : Nat) : Int) := (Int.natCast_mul _ _).symm
  have e1 : ((j : Int) + 1) * (M : Int) = ((j * M + M : Nat) : Int) := by rw [Int.add_mul, e0]; omega
  have b0 : -9223372036854775808 ≤ (j : Int) * (M : Int) := by omega
  have b1 : (j : Int) * (M : Int) ≤ 9223372036854775807 := by omega
  have b2 : -9223372036854775808 ≤ ((j : Int) + 1) * (M : Int) := by omega
  have b3 : ((j : Int) + 1) * (M : Int) ≤ 9223372036854775807 := by omega
  have hpl : ((bs.drop (j * M)).take M).length = M := by simp only [List.length_take, List.length_drop]; omega
  rcases id hr with rfl | ⟨blk, off, cs, t, fr, rfl, hw, hsp⟩
  · simp at hl'; omega
  have hcl := fun (w : World) cap hr => clone_ok ((bs.drop (j * M)).take M) blk (off + j * M * 3) cap w hr (by omega) (by omega)
  rw [hpl] at hcl
  (repeat' (first | (refine o_mul64 st rfl rfl rfl b0 b1 ?_; clear st; intro _ st)  | (refine o_mul64 st rfl rfl rfl b2 b3 ?_; clear st; intro _ st)  | (refine o_slicePart (j * M) M st rfl rfl rfl e0 e1 (by omega) (by omega) rfl ?_; clear st; intro _ st)  | (refine o_callM1 st rfl (hcl _ _ ((hr.mono st.below).part _ _)) rfl ?_; clear st; rintro _ nb _ ⟨cap1, pad1, rfl, rfl, hp1⟩ _ _ st)  | refine c_seq ?_  | refine c_region ?_  | refine l_do ?_  | refine l_nil ?_  | refine x_then ?_  | refine wp_ret ?_  | ((first | refine o_move st rfl rfl ?_  | refine o_assign st rfl rfl ?_); clear st; intro _ st)  | ((first | refine o_boxA st rfl rfl ?_ ); clear st; intro _ _ _ st)  | ((first | refine o_fieldAddr st rfl rfl ?_  | refine o_loadS st rfl (by repeat constructor) rfl rfl ?_  | refine o_add64 st rfl rfl rfl (by omega) (by omega) ?_ ); clear st; intro _ st)))
  refine post1 st Try.results151 (rd_t st rfl) ?_
  exact ⟨_, nb, _, rfl, ⟨(bs.drop (j * M)).take M, cap1, pad1, by rw [hpl], rfl, hp1, h.part _ _⟩, st.ex1 (by repeat constructor)⟩

set_option maxHeartbeats 8000000 in
theorem column_ok (M K i : Nat) (bs : List B3) (ss : List S3) (h : IsSL bs ss) (base : Option Addr) (cap : Nat) (hl : ss.length = M * K) (hi : i < M) (hK : 2 ≤ K) (h36 : M * K ≤ 36) (w : World) (hr : RdS w base bs) :
    COw Try.prog 149 [vSh M K base bs.length cap, .int .i64 i] w (colL ss M K i) := by
  refine enter Try.func149 rfl rfl rfl rfl ?_
  intro a st
  have hl' := h.len
  have hcl := colL_length ss M K i
  have hMK : M * 1 ≤ M * K := Nat.mul_le_mul_left _ (by omega)
  have hKM : 1 * K ≤ M * K := Nat.mul_le_mul_right _ (by omega)
  rcases id hr with rfl | ⟨b0, off, cs, t, fr, rfl, hw, hsp⟩
  · simp at hl'; omega
  (repeat' (first | (refine o_buildSlice0S st rfl ?_; clear st; intro blk0 _ _ st)  | refine c_seq ?_  | refine c_region ?_  | refine l_do ?_  | refine l_nil ?_  | refine x_then ?_  | refine x_thenE ?_  | refine x_blkN ?_  | refine x_blkE ?_  | refine wp_ret ?_  | refine wp_skip ?_  | refine wp_block ?_  | refine wp_exit ?_  | refine c_condT st rfl ?_  | refine c_condF st rfl ?_  | ((first | refine o_move st rfl rfl ?_  | refine o_assign st rfl rfl ?_); clear st; intro _ st)  | ((first | refine o_boxA st rfl rfl ?_ ); clear st; intro _ _ _ st)  | ((first | refine o_fieldAddr st rfl rfl ?_  | refine o_loadS st rfl (by repeat constructor) rfl rfl ?_  | refine o_add64 st rfl rfl rfl (by omega) (by omega) ?_ ); clear st; intro _ st)  | (refine o_lss st rfl rfl rfl ?_ ?_ <;> clear st <;> intro _ _ st <;> (try (exfalso; omega)))))
  refine wp_loop_ghost (fun n a w' => ∃ (k blk cp pb : Nat) (os : List B3) (pad : List Value), os.length = k ∧ k ≤ K ∧ n = K - k ∧ IsSL os ((colL ss M K i).take os.length) ∧ (cS os ++ pad).length = cp * 3 ∧ St w Try.f149.ntmps a w' [(1, .int .i64 i), (2, .pointer (some ⟨pb, 0, none⟩)), (5, .slice (some ⟨blk, 0, none⟩) os.length cp), (9, .int .i64 K), (10, .int .i64 (k : Int))] [⟨blk, true, oS os pad⟩, ⟨pb, true, .cells [.int .i64 M, .int .i64 K, .slice (some ⟨b0, off, none⟩) bs.length cap].toArray 46 (0, 0)⟩]) K ⟨0, blk0, 0, _, [], [], rfl, by omega, by omega, IsSL.nil _, rfl, (st.fit (by repeat (first | exact trivial  | refine And.intro rfl ?_))).subL (by repeat (first | exact List.Sublist.refl _  | apply List.Sublist.cons_cons  | apply List.Sublist.cons  | exact List.nil_sublist _))⟩ ?_
  clear st
  rintro n a w' ⟨k, blk, cp, pb, os, pad, hos, hk, rfl, hI, hp, st⟩
  by_cases hlt : k < K
  · have hin : k * M + i < M * K := mul_add_lt hlt hi
    have e0 : (k : Int) * (M : Int) = ((k * M : Nat) : Int) := (Int.natCast_mul _ _).symm
    have b0' : -9223372036854775808 ≤ (k : Int) * (M : Int) := by omega
    have b1' : (k : Int) * (M : Int) ≤ 9223372036854775807 := by omega
    have b2' : -9223372036854775808 ≤ (k : Int) * (M : Int) + (i : Int) := by omega
    have b3' : (k : Int) * (M : Int) + (i : Int) ≤ 9223372036854775807 := by omega
    have b4' : 0 ≤ (k : Int) * (M : Int) + (i : Int) := by omega
    have b5' : (k : Int) * (M : Int) + (i : Int) < bs.length := by omega
    have e : ((k : Int) * (M : Int) + (i : Int)).toNat = k * M + i := by omega
    have hb : k * M + i < bs.length := by omega
    have hv : cs[off + ((k : Int) * (M : Int) + (i : Int)).toNat * 3]? = some (.float .f32 bs[k * M + i].1) ∧ cs[off + ((k : Int) * (M : Int) + (i : Int)).toNat * 3 + 1]? = some (.float .f32 bs[k * M + i].2.1) ∧ cs[off + ((k : Int) * (M : Int) + (i : Int)).toNat * 3 + 2]? = some (.float .f32 bs[k * M + i].2.2) := by
      rw [e]; exact hsp _ _ (by simp [hb])
    have hsb : k * M + i < ss.length := by omega
    have hIb : IsS bs[k * M + i] ss[k * M + i] := h.get (k * M + i) _ _ (by simp [hb]) (by simp [hsb])
    have hg : (colL ss M K i)[k]? = some (ss[k * M + i]'(by omega)) := by
      have : k * M + i < ss.length := by omega
      simp [colL, hlt, List.getD_eq_getElem?_getD, this]
    (repeat' (first | (refine o_mul64 st rfl rfl rfl b0' b1' ?_; clear st; intro _ st)  | (refine o_add64 st rfl rfl rfl b2' b3' ?_; clear st; intro _ st)  | (refine o_indexAddr st rfl rfl b4' b5' rfl ?_; clear st; intro _ st)  | (refine o_loadOld st rfl hw hv rfl ?_; clear st; intro _ st)  | (refine o_buildSliceS [_] st rfl rfl rfl rfl rfl ?_; clear st; intro _ _ _ st)  | (refine o_append1 rfl st rfl rfl (by repeat constructor) (by repeat constructor) hp (by omega) rfl ?_; clear st; intro blk1 cap1 pad1 _ _ hp1 st)  | refine c_seq ?_  | refine c_region ?_  | refine l_do ?_  | refine l_nil ?_  | refine x_then ?_  | refine x_thenE ?_  | refine x_blkN ?_  | refine x_blkE ?_  | refine wp_ret ?_  | refine wp_skip ?_  | refine wp_block ?_  | refine wp_exit ?_  | refine c_condT st rfl ?_  | refine c_condF st rfl ?_  | ((first | refine o_move st rfl rfl ?_  | refine o_assign st rfl rfl ?_); clear st; intro _ st)  | ((first | refine o_boxA st rfl rfl ?_ ); clear st; intro _ _ _ st)  | ((first | refine o_fieldAddr st rfl rfl ?_  | refine o_loadS st rfl (by repeat constructor) rfl rfl ?_  | refine o_add64 st rfl rfl rfl (by omega) (by omega) ?_ ); clear st; intro _ st)  | (refine o_lss st rfl rfl rfl ?_ ?_ <;> clear st <;> intro _ _ st <;> (try (exfalso; omega)))))
    refine ⟨K - (k + 1), by omega, k + 1, blk1, cap1, pb, os ++ [bs[k * M + i]], pad1, by simp [hos], by omega, rfl, hI.snoc (by rw [hos]; exact hg) hIb, hp1, (st.fit (by repeat (first | exact trivial  | refine And.intro rfl ?_))).subL (by repeat (first | exact List.Sublist.refl _  | apply List.Sublist.cons_cons  | apply List.Sublist.cons  | exact List.nil_sublist _))⟩
  · (repeat' (first | refine c_seq ?_  | refine c_region ?_  | refine l_do ?_  | refine l_nil ?_  | refine x_then ?_  | refine x_thenE ?_  | refine x_blkN ?_  | refine x_blkE ?_  | refine wp_ret ?_  | refine wp_skip ?_  | refine wp_block ?_  | refine wp_exit ?_  | refine c_condT st rfl ?_  | refine c_condF st rfl ?_  | ((first | refine o_move st rfl rfl ?_  | refine o_assign st rfl rfl ?_); clear st; intro _ st)  | ((first | refine o_boxA st rfl rfl ?_ ); clear st; intro _ _ _ st)  | ((first | refine o_fieldAddr st rfl rfl ?_  | refine o_loadS st rfl (by repeat constructor) rfl rfl ?_  | refine o_add64 st rfl rfl rfl (by omega) (by omega) ?_ ); clear st; intro _ st)  | (refine o_lss st rfl rfl rfl ?_ ?_ <;> clear st <;> intro _ _ st <;> (try (exfalso; omega)))))
    refine post1 st Try.results149 (rd_t st rfl) ?_
    exact ⟨_, blk, _, rfl, ⟨os, cp, pad, rfl, rfl, hp, hI.all (by omega)⟩, st.ex1 (by repeat constructor)⟩
end Go.Proofs.Ytefnlalldgbcaaa

namespace Go.Proofs.Ytefnlalldgbcaaa
open Go.RowKit
/-- A call that makes a sheet, with its room, and gives it, and true. -/
def CShYC (P : Program) (f : FuncId) (vs : List Value) (w : World) (m n : Int) (ss : List S3) : Prop := CM1 P f vs w fun v b o => ∃ bs cap pad, bs.length ≤ cap ∧ v = .tuple #[vSh m n (some ⟨b, 0, none⟩) bs.length cap, .bool true] ∧ o = oS bs pad ∧ IsSL bs ss
attribute [local irreducible] Code.wp wpList Oper.wp Calls bodyPost Exit.then Exit.inBlock

/-! ## flipped lists -/
section
variable {P : Program} {w0 w : World} {N : Nat} {a : Act} {E : List (Nat × Value)} {L Lh : List Ent} {K : Act → World → Prop} {Q : Exit → Act → World → Prop}
variable {d : Nat} {ty : TypeId} {pos : String} {aft : Array Edge} {g : Option (Nat × Bool)}
end

section
variable {P : Program} {w0 w : World} {N : Nat} {a : Act} {E : List (Nat × Value)} {L Lh : List Ent}
end

/-! ## edges -/
section
variable {P : Program} {w0 w : World} {N : Nat} {a : Act} {E : List (Nat × Value)} {L Lh : List Ent} {K : Act → World → Prop} {Q : Exit → Act → World → Prop}
variable {d : Nat} {ty : TypeId} {pos : String} {aft : Array Edge} {g : Option (Nat × Bool)}
end

end Go.Proofs.Ytefnlalldgbcaaa
