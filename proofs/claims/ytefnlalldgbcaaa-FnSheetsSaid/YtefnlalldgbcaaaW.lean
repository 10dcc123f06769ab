/-
  Contracts: sheets flipped; edges of sheets.
-/
import Derived.Test.YtefnlalldgbcaaaV
namespace Go.Proofs.Ytefnlalldgbcaaa
open Go.RowKit
/-- A call that makes a sheet, with its room, and gives it, and true. -/
def CShYC (P : Program) (f : FuncId) (vs : List Value) (w : World) (m n : Int) (ss : List S3) : Prop := CM1 P f vs w fun v b o => ∃ bs cap pad, bs.length ≤ cap ∧ v = .tuple #[vSh m n (some ⟨b, 0, none⟩) bs.length cap, .bool true] ∧ o = oS bs pad ∧ IsSL bs ss
attribute [local irreducible] Code.wp wpList Oper.wp Calls bodyPost Exit.then Exit.inBlock

/-! ## flipped lists -/
def flipG (ss : List S3) (M K k : Nat) : S3 := ss.getD (k % K * M + k / K) z3
def flipL (ss : List S3) (M K : Nat) : List S3 := (List.range (M * K)).map (flipG ss M K)
theorem flipL_length (ss : List S3) (M K : Nat) : (flipL ss M K).length = M * K := by simp [flipL]
theorem flipL_get (ss : List S3) (M K k : Nat) (hl : ss.length = M * K) (hk : k < M * K) (hK : 0 < K) : ∃ h : k % K * M + k / K < ss.length, (flipL ss M K)[k]? = some ss[k % K * M + k / K] := by
  have h1 : k / K < M := Nat.div_lt_of_lt_mul (by rw [Nat.mul_comm]; exact hk)
  have h2 := mul_add_lt (M := M) (Nat.mod_lt k hK) h1
  refine ⟨by omega, ?_⟩
  have h3 : k % K * M + k / K < ss.length := by omega
  simp [flipL, hk, flipG, List.getD_eq_getElem?_getD, h3]
theorem flipG_col (ss : List S3) (M K i j : Nat) (hj : j < K) : flipG ss M K (i * K + j) = ss.getD (j * M + i) z3 := by
  unfold flipG
  rw [Nat.mul_comm i K, Nat.mul_add_mod, Nat.mod_eq_of_lt hj, Nat.mul_add_div (by omega), Nat.div_eq_of_lt hj, Nat.add_zero]
/-- The first i columns, one behind the other. -/
theorem flip_cols (ss : List S3) (M K : Nat) : ∀ i : Nat, (List.range (i * K)).map (flipG ss M K) = (List.range i).flatMap (colL ss M K)
  | 0 => by simp
  | i + 1 => by
    rw [Nat.add_mul, Nat.one_mul, List.range_add, List.map_append, flip_cols ss M K i, List.range_succ, List.flatMap_append]
    congr 1
    simp only [List.map_map, List.flatMap_cons, List.flatMap_nil, List.append_nil, colL]
    apply List.map_congr_left
    intro j hj
    exact flipG_col ss M K i j (List.mem_range.1 hj)
theorem flipL_take (ss : List S3) (M K i : Nat) (hi : i ≤ M) : (flipL ss M K).take (i * K) = (List.range i).flatMap (colL ss M K) := by
  rw [← flip_cols, flipL, ← List.map_take, List.take_range, Nat.min_eq_left (Nat.mul_le_mul_right _ hi)]
theorem IsSL.appendTake {bs cs : List B3} {ss ts : List S3} (h : IsSL bs (ss.take bs.length)) (h' : IsSL cs ts) (he : ss.take (bs ++ cs).length = ss.take bs.length ++ ts) : IsSL (bs ++ cs) (ss.take (bs ++ cs).length) := by
  rw [he]
  have hl := h.len
  have hl2 := h'.len
  refine ⟨by rw [List.length_append, List.length_append, ← hl, ← hl2], ?_⟩
  intro i b s hb hs
  rcases Nat.lt_or_ge i bs.length with hi | hi
  · rw [List.getElem?_append_left hi] at hb
    rw [List.getElem?_append_left (by omega)] at hs
    exact h.get i b s hb hs
  · rw [List.getElem?_append_right hi] at hb
    rw [List.getElem?_append_right (by omega), ← hl] at hs
    exact h'.get _ b s hb hs

/-- A call that gives a sheet of its own. -/
def CSh (P : Program) (f : FuncId) (vs : List Value) (w : World) (m n : Int) (ss : List S3) : Prop := CM1 P f vs w fun v b o => ∃ bs cap pad, v = vSh m n (some ⟨b, 0, none⟩) bs.length cap ∧ o = oS bs pad ∧ IsSL bs ss ∧ bs.length ≤ cap
section
variable {P : Program} {w0 w : World} {N : Nat} {a : Act} {E : List (Nat × Value)} {L Lh : List Ent} {K : Act → World → Prop} {Q : Exit → Act → World → Prop}
variable {d : Nat} {ty : TypeId} {pos : String} {aft : Array Edge} {g : Option (Nat × Bool)}
theorem o_callSh {f : FuncId} {args : List Operand} {tys : Array TypeId} {vs : List Value} {m n : Int} {ss : List S3} [hf : FnT P f] (st : St w0 N a w E L) (ha : evs E args = some vs)
    (hc : CSh P f vs w m n ss) (hd : Nat.blt d N = true) (h : ∀ b bs cap pad, IsSL bs ss → bs.length = ss.length → bs.length ≤ cap → ∀ a' w', St w0 N a' w' ((d, vSh m n (some ⟨b, 0, none⟩) bs.length cap) :: E) (⟨b, true, oS bs pad⟩ :: L) → K a' w') : Oper.wp P ⟨some d, .call { callee := .value (.func f), args := args.toArray, argTypes := tys }, ty, pos, aft, g⟩ a w K Q :=
  o_callM1 st ha hc hd fun v b o ⟨bs, cap, pad, hv, ho, hI, hcp⟩ => by subst hv; subst ho; exact h b bs cap pad hI hI.len hcp
end

section
variable {P : Program} {w0 w : World} {N : Nat} {a : Act} {E : List (Nat × Value)} {L Lh : List Ent}
end

set_option maxRecDepth 100000 in
set_option maxHeartbeats 16000000 in
theorem implFlip_yesC (m n : Int) (bs : List B3) (ss : List S3) (h : IsSL bs ss) (base : Option Addr) (cap : Nat) (hq : validC m n ss = true) (w : World) (hr : RdS w base bs) (hlen : bs.length < 1000000000) :
    CShYC Try.prog 74 [vSh m n base bs.length cap] w n m (flipL ss m.toNat n.toNat) := by
  refine enter Try.func74 rfl rfl rfl rfl ?_
  intro a st
  have hc := fun (w : World) hr => implValid_ok m n bs ss h base cap w hr hlen
  rw [hq] at hc
  obtain ⟨M, K, rfl, rfl, hm0, hm1, hn0, hn1, hl, h36, _⟩ := valid_nums hq
  have hl' := h.len
  have hfl := flipL_length ss M K
  have hpos : 0 < M * K := Nat.mul_pos (by omega) (by omega)
  rcases id hr with rfl | ⟨b0, off, cs, t0, fr0, rfl, hw, hsp⟩
  · simp at hl'; omega
  (repeat' (first | (refine o_callV st rfl (hc _ (hr.mono st.below)) rfl ?_; clear st; intro _ _ st)  | refine c_seq ?_  | refine c_region ?_  | refine l_do ?_  | refine l_nil ?_  | refine x_then ?_  | refine x_thenE ?_  | refine x_blkN ?_  | refine x_blkE ?_  | refine wp_ret ?_  | refine wp_skip ?_  | refine wp_block ?_  | refine wp_exit ?_  | refine c_condT st rfl ?_  | refine c_condF st rfl ?_  | ((first | refine o_move st rfl rfl ?_  | refine o_assign st rfl rfl ?_); clear st; intro _ st)  | ((first | refine o_alloc st rfl ?_  | refine o_boxA st rfl rfl ?_ ); clear st; intro _ _ _ st)  | ((first | refine o_fieldAddr st rfl rfl ?_  | refine o_loadS st rfl (by repeat constructor) rfl rfl ?_  | refine o_load3 st rfl (by repeat constructor) rfl ?_ ); clear st; intro _ st)  | ((first | refine o_storeS st rfl rfl rfl (by repeat constructor) rfl (by dsimp only [List.set]) ?_  | refine o_storeW st rfl rfl (by repeat constructor) rfl rfl rfl ?_); clear st; intro _ _ st)  | ((first | refine o_build2 st rfl rfl rfl rfl rfl ?_  | refine o_add64 st rfl rfl rfl (by omega) (by omega) ?_  | refine o_notT st rfl rfl ?_ ); clear st; intro _ st)  | (refine o_lss st rfl rfl rfl ?_ ?_ <;> clear st <;> intro _ _ st <;> (try (exfalso; omega)))))
  refine wp_loop_ghost (fun n a w' => ∃ (k p1 p2 p4 : Nat) (os : List B3) (v : Value) (Ls : List Ent), os.length = k * K ∧ k ≤ M ∧ n = M - k ∧ IsSL os ((flipL ss M K).take os.length) ∧ ((v = .slice none 0 0 ∧ os = [] ∧ Ls = []) ∨ (∃ blk cp pad, 0 < k ∧ v = .slice (some ⟨blk, 0, none⟩) os.length cp ∧ Ls = [⟨blk, true, oS os pad⟩] ∧ (cS os ++ pad).length = cp * 3)) ∧ St w Try.f74.ntmps a w' [(1, .pointer (some ⟨p1, 0, none⟩)), (2, .pointer (some ⟨p2, 0, none⟩)), (4, .pointer (some ⟨p4, 0, none⟩)), (16, .int .i64 (M : Int)), (17, .int .i64 (k : Int))] (Ls ++ [⟨p4, true, .cells [.int .i64 K, .int .i64 M, v].toArray 46 (0, 0)⟩, ⟨p2, true, .cells [.int .i64 0, .int .i64 0, .slice none 0 0].toArray 46 (0, 0)⟩, ⟨p1, true, .cells [.int .i64 M, .int .i64 K, .slice (some ⟨b0, off, none⟩) bs.length cap].toArray 46 (0, 0)⟩])) M ⟨0, _, _, _, [], .slice none 0 0, [], by simp, by omega, by omega, IsSL.nil _, .inl ⟨rfl, rfl, rfl⟩, (st.fit (by repeat (first | exact trivial  | refine And.intro rfl ?_))).subL (by repeat (first | exact List.Sublist.refl _  | apply List.Sublist.cons_cons  | apply List.Sublist.cons  | exact List.nil_sublist _))⟩ ?_
  clear st
  rintro n a w' ⟨k, p1, p2, p4, os, v, Ls, hos, hk, rfl, hI, hv, st⟩
  by_cases hlt : k < M
  · have hcl := colL_length ss M K k
    have hle : (k + 1) * K ≤ M * K := Nat.mul_le_mul_right _ hlt
    rw [Nat.add_mul, Nat.one_mul] at hle
    have he : ∀ osc : List B3, osc.length = K → (flipL ss M K).take (os ++ osc).length = (flipL ss M K).take os.length ++ colL ss M K k := by
      intro osc ho
      rw [List.length_append, hos, ho]
      have h1 := flipL_take ss M K (k + 1) (by omega)
      rw [Nat.add_mul, Nat.one_mul] at h1
      rw [h1, flipL_take ss M K k (by omega), List.range_succ, List.flatMap_append]
      simp
    rcases hv with ⟨rfl, rfl, rfl⟩ | ⟨blk, cp, pad, hk0, rfl, rfl, hp1⟩
    · rw [List.nil_append] at st
      have hk0 : k = 0 := by
        rcases Nat.eq_zero_or_pos k with h | h
        · exact h
        · have := Nat.mul_pos h (show 0 < K by omega); simp at hos; omega
      (repeat' (first | refine c_seq ?_  | refine c_region ?_  | refine l_do ?_  | refine l_nil ?_  | refine x_then ?_  | refine x_thenE ?_  | refine x_blkN ?_  | refine x_blkE ?_  | refine wp_ret ?_  | refine wp_skip ?_  | refine wp_block ?_  | refine wp_exit ?_  | refine c_condT st rfl ?_  | refine c_condF st rfl ?_  | ((first | refine o_move st rfl rfl ?_  | refine o_assign st rfl rfl ?_); clear st; intro _ st)  | ((first | refine o_alloc st rfl ?_  | refine o_boxA st rfl rfl ?_ ); clear st; intro _ _ _ st)  | ((first | refine o_fieldAddr st rfl rfl ?_  | refine o_loadS st rfl (by repeat constructor) rfl rfl ?_  | refine o_load3 st rfl (by repeat constructor) rfl ?_ ); clear st; intro _ st)  | ((first | refine o_storeS st rfl rfl rfl (by repeat constructor) rfl (by dsimp only [List.set]) ?_  | refine o_storeW st rfl rfl (by repeat constructor) rfl rfl rfl ?_); clear st; intro _ _ st)  | ((first | refine o_build2 st rfl rfl rfl rfl rfl ?_  | refine o_add64 st rfl rfl rfl (by omega) (by omega) ?_  | refine o_notT st rfl rfl ?_ ); clear st; intro _ st)  | (refine o_lss st rfl rfl rfl ?_ ?_ <;> clear st <;> intro _ _ st <;> (try (exfalso; omega)))))
      refine c_drawA (last := 7) hm_ (by decide +kernel) (by decide +kernel) st ?_; clear st; intro _ st
      refine d_v 0 st (by repeat constructor) rfl (by decide +kernel) rfl (v_fieldAddr st rfl) ?_; clear st; intro _ st
      refine d_v 1 st (by repeat constructor) rfl (by decide +kernel) rfl (by first | exact v_load3 st rfl (by repeat constructor) | exact v_loadS st rfl (by repeat constructor) rfl) ?_; clear st; intro _ st
      refine d_v 2 st (by repeat constructor) rfl (by decide +kernel) rfl (by first | exact v_load3 st rfl (by repeat constructor) | exact v_loadS st rfl (by repeat constructor) rfl) ?_; clear st; intro _ st
      refine d_v 3 st (by repeat constructor) rfl (by decide +kernel) rfl (v_move st rfl) ?_; clear st; intro _ st
      refine d_one 4 (by decide +kernel) rfl ?_
      refine o_callOw st rfl (column_ok M K k bs ss h _ cap hl hlt hn0 h36 _ (hr.mono st.below)) rfl ?_; clear st; intro blkc osc capc padc hIc hpc _ _ _ st; have hcl2 := hIc.len
      refine kh st (by repeat constructor) ?_
      refine d_one 5 (by decide +kernel) rfl ?_
      refine o_appendFp rfl st rfl rfl (RdS.of (st.heap (by repeat constructor)) (spotsIn0p _ _)) (by omega) (by omega) rfl ?_; clear st; intro blk1 cap1 pad1 _ _ hp1 st
      refine kh st (by repeat constructor) ?_
      refine d_v 6 st (by repeat constructor) rfl (by decide +kernel) rfl (v_fieldAddr st rfl) ?_; clear st; intro _ st
      refine d_one 7 (by decide +kernel) rfl ?_
      (first | ((first | refine o_storeS st rfl rfl rfl (by repeat constructor) rfl (by dsimp only [List.set]) ?_  | refine o_storeW st rfl rfl (by repeat constructor) rfl rfl rfl ?_); clear st; intro _ _ st))
      refine k_last ?_
      refine d_done (by decide +kernel) ?_
      (repeat' (first | refine c_seq ?_  | refine c_region ?_  | refine l_do ?_  | refine l_nil ?_  | refine x_then ?_  | refine x_thenE ?_  | refine x_blkN ?_  | refine x_blkE ?_  | refine wp_ret ?_  | refine wp_skip ?_  | refine wp_block ?_  | refine wp_exit ?_  | refine c_condT st rfl ?_  | refine c_condF st rfl ?_  | ((first | refine o_move st rfl rfl ?_  | refine o_assign st rfl rfl ?_); clear st; intro _ st)  | ((first | refine o_alloc st rfl ?_  | refine o_boxA st rfl rfl ?_ ); clear st; intro _ _ _ st)  | ((first | refine o_fieldAddr st rfl rfl ?_  | refine o_loadS st rfl (by repeat constructor) rfl rfl ?_  | refine o_load3 st rfl (by repeat constructor) rfl ?_ ); clear st; intro _ st)  | ((first | refine o_storeS st rfl rfl rfl (by repeat constructor) rfl (by dsimp only [List.set]) ?_  | refine o_storeW st rfl rfl (by repeat constructor) rfl rfl rfl ?_); clear st; intro _ _ st)  | ((first | refine o_build2 st rfl rfl rfl rfl rfl ?_  | refine o_add64 st rfl rfl rfl (by omega) (by omega) ?_  | refine o_notT st rfl rfl ?_ ); clear st; intro _ st)  | (refine o_lss st rfl rfl rfl ?_ ?_ <;> clear st <;> intro _ _ st <;> (try (exfalso; omega)))))
      refine ⟨M - (k + 1), by omega, k + 1, p1, p2, p4, osc, _, [⟨blk1, true, oS osc pad1⟩], by rw [hk0]; omega, by omega, rfl, IsSL.appendTake hI hIc (he osc (by omega)), .inr ⟨blk1, cap1, pad1, by omega, rfl, rfl, hp1⟩, ?_⟩
      have st := St.front 4 st rfl (by repeat constructor)
      have st := St.swap2 st
      exact (st.fit (by repeat (first | exact trivial  | refine And.intro rfl ?_))).subL (by repeat (first | exact List.Sublist.refl _  | apply List.Sublist.cons_cons  | apply List.Sublist.cons  | exact List.nil_sublist _))
    · rw [List.cons_append, List.nil_append] at st
      (repeat' (first | refine c_seq ?_  | refine c_region ?_  | refine l_do ?_  | refine l_nil ?_  | refine x_then ?_  | refine x_thenE ?_  | refine x_blkN ?_  | refine x_blkE ?_  | refine wp_ret ?_  | refine wp_skip ?_  | refine wp_block ?_  | refine wp_exit ?_  | refine c_condT st rfl ?_  | refine c_condF st rfl ?_  | ((first | refine o_move st rfl rfl ?_  | refine o_assign st rfl rfl ?_); clear st; intro _ st)  | ((first | refine o_alloc st rfl ?_  | refine o_boxA st rfl rfl ?_ ); clear st; intro _ _ _ st)  | ((first | refine o_fieldAddr st rfl rfl ?_  | refine o_loadS st rfl (by repeat constructor) rfl rfl ?_  | refine o_load3 st rfl (by repeat constructor) rfl ?_ ); clear st; intro _ st)  | ((first | refine o_storeS st rfl rfl rfl (by repeat constructor) rfl (by dsimp only [List.set]) ?_  | refine o_storeW st rfl rfl (by repeat constructor) rfl rfl rfl ?_); clear st; intro _ _ st)  | ((first | refine o_build2 st rfl rfl rfl rfl rfl ?_  | refine o_add64 st rfl rfl rfl (by omega) (by omega) ?_  | refine o_notT st rfl rfl ?_ ); clear st; intro _ st)  | (refine o_lss st rfl rfl rfl ?_ ?_ <;> clear st <;> intro _ _ st <;> (try (exfalso; omega)))))
      refine c_draw (Lh := [⟨p4, true, .cells [.int .i64 K, .int .i64 M, .slice (some ⟨blk, 0, none⟩) os.length cp].toArray 46 (0, 0)⟩, ⟨p1, true, .cells [.int .i64 M, .int .i64 K, .slice (some ⟨b0, off, none⟩) bs.length cap].toArray 46 (0, 0)⟩]) (last := 7) hm_ (by decide +kernel) (by decide +kernel) st ?_; clear st; intro _ st
      refine d_v 0 st (by repeat constructor) rfl (by decide +kernel) rfl (v_fieldAddr st rfl) ?_; clear st; intro _ st
      refine d_v 1 st (by repeat constructor) rfl (by decide +kernel) rfl (by first | exact v_load3 st rfl (by repeat constructor) | exact v_loadS st rfl (by repeat constructor) rfl) ?_; clear st; intro _ st
      refine d_v 2 st (by repeat constructor) rfl (by decide +kernel) rfl (by first | exact v_load3 st rfl (by repeat constructor) | exact v_loadS st rfl (by repeat constructor) rfl) ?_; clear st; intro _ st
      refine d_v 3 st (by repeat constructor) rfl (by decide +kernel) rfl (v_move st rfl) ?_; clear st; intro _ st
      refine d_one 4 (by decide +kernel) rfl ?_
      refine o_callOw st rfl (column_ok M K k bs ss h _ cap hl hlt hn0 h36 _ (hr.mono st.below)) rfl ?_; clear st; intro blkc osc capc padc hIc hpc _ _ _ st; have hcl2 := hIc.len
      refine kh st (by repeat constructor) ?_
      refine d_one 5 (by decide +kernel) rfl ?_
      refine o_appendSp rfl st rfl rfl (by repeat constructor) (RdS.of (st.heap (by repeat constructor)) (spotsIn0p _ _)) hp1 (by omega) rfl ?_; clear st; intro blk1 cap1 pad1 _ _ hp1 st
      refine kh st (by repeat constructor) ?_
      refine d_v 6 st (by repeat constructor) rfl (by decide +kernel) rfl (v_fieldAddr st rfl) ?_; clear st; intro _ st
      refine d_one 7 (by decide +kernel) rfl ?_
      (first | ((first | refine o_storeS st rfl rfl rfl (by repeat constructor) rfl (by dsimp only [List.set]) ?_  | refine o_storeW st rfl rfl (by repeat constructor) rfl rfl rfl ?_); clear st; intro _ _ st))
      refine k_last ?_
      refine d_done (by decide +kernel) ?_
      (repeat' (first | refine c_seq ?_  | refine c_region ?_  | refine l_do ?_  | refine l_nil ?_  | refine x_then ?_  | refine x_thenE ?_  | refine x_blkN ?_  | refine x_blkE ?_  | refine wp_ret ?_  | refine wp_skip ?_  | refine wp_block ?_  | refine wp_exit ?_  | refine c_condT st rfl ?_  | refine c_condF st rfl ?_  | ((first | refine o_move st rfl rfl ?_  | refine o_assign st rfl rfl ?_); clear st; intro _ st)  | ((first | refine o_alloc st rfl ?_  | refine o_boxA st rfl rfl ?_ ); clear st; intro _ _ _ st)  | ((first | refine o_fieldAddr st rfl rfl ?_  | refine o_loadS st rfl (by repeat constructor) rfl rfl ?_  | refine o_load3 st rfl (by repeat constructor) rfl ?_ ); clear st; intro _ st)  | ((first | refine o_storeS st rfl rfl rfl (by repeat constructor) rfl (by dsimp only [List.set]) ?_  | refine o_storeW st rfl rfl (by repeat constructor) rfl rfl rfl ?_); clear st; intro _ _ st)  | ((first | refine o_build2 st rfl rfl rfl rfl rfl ?_  | refine o_add64 st rfl rfl rfl (by omega) (by omega) ?_  | refine o_notT st rfl rfl ?_ ); clear st; intro _ st)  | (refine o_lss st rfl rfl rfl ?_ ?_ <;> clear st <;> intro _ _ st <;> (try (exfalso; omega)))))
      refine ⟨M - (k + 1), by omega, k + 1, p1, p2, p4, os ++ osc, _, [⟨blk1, true, oS (os ++ osc) pad1⟩], by rw [List.length_append, hos, Nat.add_mul]; omega, by omega, rfl, IsSL.appendTake hI hIc (he osc (by omega)), .inr ⟨blk1, cap1, pad1, by omega, rfl, rfl, hp1⟩, ?_⟩
      exact (st.fit (by repeat (first | exact trivial  | refine And.intro rfl ?_))).subL (by repeat (first | exact List.Sublist.refl _  | apply List.Sublist.cons_cons  | apply List.Sublist.cons  | exact List.nil_sublist _))
  · have hkM : k = M := by omega
    rw [hkM] at hos
    rcases hv with ⟨_, rfl, _⟩ | ⟨blk, cp, pad, _, rfl, rfl, hp1⟩
    · simp at hos; omega
    (repeat' (first | refine c_seq ?_  | refine c_region ?_  | refine l_do ?_  | refine l_nil ?_  | refine x_then ?_  | refine x_thenE ?_  | refine x_blkN ?_  | refine x_blkE ?_  | refine wp_ret ?_  | refine wp_skip ?_  | refine wp_block ?_  | refine wp_exit ?_  | refine c_condT st rfl ?_  | refine c_condF st rfl ?_  | ((first | refine o_move st rfl rfl ?_  | refine o_assign st rfl rfl ?_); clear st; intro _ st)  | ((first | refine o_alloc st rfl ?_  | refine o_boxA st rfl rfl ?_ ); clear st; intro _ _ _ st)  | ((first | refine o_fieldAddr st rfl rfl ?_  | refine o_loadS st rfl (by repeat constructor) rfl rfl ?_  | refine o_load3 st rfl (by repeat constructor) rfl ?_ ); clear st; intro _ st)  | ((first | refine o_storeS st rfl rfl rfl (by repeat constructor) rfl (by dsimp only [List.set]) ?_  | refine o_storeW st rfl rfl (by repeat constructor) rfl rfl rfl ?_); clear st; intro _ _ st)  | ((first | refine o_build2 st rfl rfl rfl rfl rfl ?_  | refine o_add64 st rfl rfl rfl (by omega) (by omega) ?_  | refine o_notT st rfl rfl ?_ ); clear st; intro _ st)  | (refine o_lss st rfl rfl rfl ?_ ?_ <;> clear st <;> intro _ _ st <;> (try (exfalso; omega)))))
    refine post2 st Try.results74 (rd_c st rfl (by repeat constructor) rfl) (rd_t st rfl) ?_
    exact ⟨_, blk, _, rfl, ⟨os, cp, pad, by rw [List.length_append, cS_length] at hp1; omega, rfl, rfl, hI.all (by rw [hos]; exact hfl.symm)⟩, st.ex1 (by repeat constructor)⟩
/-! ## edges -/
section
variable {P : Program} {w0 w : World} {N : Nat} {a : Act} {E : List (Nat × Value)} {L Lh : List Ent} {K : Act → World → Prop} {Q : Exit → Act → World → Prop}
variable {d : Nat} {ty : TypeId} {pos : String} {aft : Array Edge} {g : Option (Nat × Bool)}
theorem o_subN {x y : Operand} {t ys : TypeId} {i : Nat} (j : Nat) (st : St w0 N a w E L) (hx : evE E x = some (.int .i64 (i : Int))) (hy : evE E y = some (.int .i64 (j : Int))) (hj : j ≤ i) (hi : i ≤ 9223372036854775807) (hd : Nat.blt d N = true)
    (h : ∀ a', St w0 N a' w ((d, .int .i64 ((i - j : Nat) : Int)) :: E) L → K a' w) : Oper.wp P ⟨some d, .binOp .sub t x y ys, ty, pos, aft, g⟩ a w K Q := by
  rw [Int.ofNat_sub hj] at h
  exact o_sub64 st hx hy hd (by omega) (by omega) h
end

def edgeOk (m n : Int) (ss : List S3) (side : Int) : Bool := validC m n ss && inB side 0 3
def edgeL (ss : List S3) (M K : Nat) (side : Int) : List S3 := if side = 0 then rowL ss M 0 else if side = 1 then rowL ss M (K - 1) else if side = 2 then colL ss M K 0 else colL ss M K (M - 1)
set_option maxHeartbeats 16000000 in
theorem implEdge_yes (m n : Int) (bs : List B3) (ss : List S3) (h : IsSL bs ss) (base : Option Addr) (cap : Nat) (side : Int) (hq : edgeOk m n ss side = true) (hcap : bs.length ≤ cap) (w : World) (hr : RdS w base bs) (hlen : bs.length < 1000000000) :
    CLsY Try.prog 79 [vSh m n base bs.length cap, .int .i64 side] w (edgeL ss m.toNat n.toNat side) := by
  refine enter Try.func79 rfl rfl rfl rfl ?_
  intro a st
  have hc := fun (w : World) hr => implValid_ok m n bs ss h base cap w hr hlen
  unfold edgeOk at hq
  rw [Bool.and_eq_true] at hq
  obtain ⟨hv, hs⟩ := hq
  rw [hv] at hc
  simp only [inB, Bool.and_eq_true, decide_eq_true_eq] at hs
  obtain ⟨M, K, rfl, rfl, hm0, hm1, hn0, hn1, hl, h36, _⟩ := valid_nums hv
  have hcase : side = 0 ∨ side = 1 ∨ side = 2 ∨ side = 3 := by omega
  rcases hcase with rfl | rfl | rfl | rfl
  all_goals
    (repeat' (first | (refine o_callV st rfl (hc _ (hr.mono st.below)) rfl ?_; clear st; intro _ _ st)  | (refine o_subN 1 st rfl rfl (by omega) (by omega) rfl ?_; clear st; intro _ st)  | (refine o_callOw st rfl (row_ok M K 0 bs ss h base cap hl hm0 h36 (by omega) hcap _ (hr.mono st.below)) rfl ?_; clear st; intro blk os cp pad hI _ _ _ _ st)  | (refine o_callOw st rfl (row_ok M K (K - 1) bs ss h base cap hl hm0 h36 (by omega) hcap _ (hr.mono st.below)) rfl ?_; clear st; intro blk os cp pad hI _ _ _ _ st)  | (refine o_callOw st rfl (column_ok M K 0 bs ss h base cap hl (by omega) hn0 h36 _ (hr.mono st.below)) rfl ?_; clear st; intro blk os cp pad hI _ _ _ _ st)  | (refine o_callOw st rfl (column_ok M K (M - 1) bs ss h base cap hl (by omega) hn0 h36 _ (hr.mono st.below)) rfl ?_; clear st; intro blk os cp pad hI _ _ _ _ st)  | refine c_seq ?_  | refine c_region ?_  | refine l_do ?_  | refine l_nil ?_  | refine x_then ?_  | refine x_thenR ?_  | refine x_blkR ?_  | refine wp_ret ?_  | refine wp_skip ?_  | refine wp_block ?_  | refine wp_exit ?_  | refine c_condT st rfl ?_  | refine c_condF st rfl ?_  | ((first | refine o_move st rfl rfl ?_  | refine o_assign st rfl rfl ?_); clear st; intro _ st)  | ((first | refine o_boxA st rfl rfl ?_ ); clear st; intro _ _ _ st)  | ((first | refine o_fieldAddr st rfl rfl ?_  | refine o_loadS st rfl (by repeat constructor) rfl rfl ?_  | refine o_load3 st rfl (by repeat constructor) rfl ?_  | refine o_notT st rfl rfl ?_ ); clear st; intro _ st)  | (refine o_eqlI st rfl rfl rfl ?_ ?_ <;> clear st <;> intro _ _ st <;> (try (exfalso; omega)))))
    refine post2 st Try.results79 (rd_t st rfl) (rd_t st rfl) ?_
    exact ⟨_, blk, _, rfl, ⟨os, cp, pad, rfl, rfl, hI⟩, st.ex1 (by repeat constructor)⟩

end Go.Proofs.Ytefnlalldgbcaaa
