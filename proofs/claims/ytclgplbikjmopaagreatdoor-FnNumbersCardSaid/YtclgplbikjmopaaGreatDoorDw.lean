/-
  FnNumbers: numbers out of their digits; lists out of texts (walks).
-/
import Derived.Test.YtclgplbikjmopaaGreatDoorDv
namespace Go.Proofs.YtclgplbikjmopaaGreatDoor
open Go.RowKit
set_option maxRecDepth 100000
attribute [local irreducible] Code.wp wpList Oper.wp Calls bodyPost Exit.then Exit.inBlock

section
variable {P : Program} {w0 w : World} {N : Nat} {a : Act} {E : List (Nat × Value)} {L Lh : List Ent} {K : Act → World → Prop} {Q : Exit → Act → World → Prop}
variable {d : Nat} {ty : TypeId} {pos : String} {aft : Array Edge} {g : Option (Nat × Bool)}
theorem o_shlK {x y : Operand} {t ys : TypeId} {k q : IntKind} {i j : Int} (st : St w0 N a w E L) (hx : evE E x = some (.int k i)) (hy : evE E y = some (.int q j)) (hj : 0 ≤ j) (hd : Nat.blt d N = true)
    (h : ∀ a', St w0 N a' w ((d, .int k (k.wrap (i * 2 ^ min j.toNat k.bits))) :: E) L → K a' w) : Oper.wp P ⟨some d, .binOp .shl t x y ys, ty, pos, aft, g⟩ a w K Q :=
  o_val (v := .int k (k.wrap (i * 2 ^ min j.toNat k.bits))) (w' := w) (by simp [execOp, evE_eval st hx, evE_eval st hy, binOp_shl, shift_shl_any, hj, eqGuard]) (h _ (st.put d hd _))
end
theorem lower_ok (c : Int) (h1 : 97 ≤ c) (h2 : c ≤ 102) (w : World) : CV Tryz.prog 75 [.int .u8 c] w (.int .u8 c) := by
  have e : borW .u8 c 32 = c := by
    have : c = 97 ∨ c = 98 ∨ c = 99 ∨ c = 100 ∨ c = 101 ∨ c = 102 := by omega
    rcases this with rfl | rfl | rfl | rfl | rfl | rfl <;> decide
  refine enter Tryz.func75 rfl rfl rfl rfl ?_
  intro a st
  (repeat' (first | (refine o_orK (k := .u8) (j := 32) st rfl rfl rfl ?_; clear st; intro _ st; rw [e] at st) | refine c_seq ?_ | refine c_region ?_ | refine l_do ?_ | refine l_nil ?_ | refine x_then ?_ | refine x_thenR ?_ | refine x_thenE ?_ | refine wp_ret ?_ | ((first | refine o_move st rfl rfl ?_ | refine o_assign st rfl rfl ?_); clear st; intro _ st)))
  refine post1 st Tryz.results75 (rd_t st rfl) ?_
  exact ⟨rfl, st.ex0⟩
theorem dg_val : ∀ d : Nat, d < 16 → (dg d).toNat = if d < 10 then 48 + d else 87 + d := by decide
theorem wrap_u8 {n : Int} (h0 : 0 ≤ n) (h1 : n ≤ 255) : IntKind.u8.wrap n = n := wrap_in (by show (0 : Int) ≤ n; exact h0) (by show n ≤ 255; exact h1)
/-- What k digits stand for, read from the left. -/
theorem fx_get : ∀ (k n i : Nat), i < k → (fx k n)[i]? = some (dg (n / 16 ^ (k - 1 - i) % 16))
  | k + 1, n, i, h => by
    rw [fx]
    by_cases h1 : i < k
    · rw [List.getElem?_append_left (by rw [fx_length]; exact h1), fx_get k (n / 16) i h1, Nat.div_div_eq_div_mul, Nat.mul_comm, ← Nat.pow_succ]
      congr 5
      omega
    · obtain rfl : i = k := by omega
      rw [List.getElem?_append_right (by rw [fx_length]; exact Nat.le_refl _), fx_length]
      simp
set_option maxHeartbeats 16000000 in
theorem ParseUint_ok (n : Nat) (hn : n < 4294967296) (w : World) : CV Tryz.prog 61 [sV (hex8 n), .int .i64 16, .int .i64 32] w (.tuple #[.int .u64 (n : Int), .nilIface]) := by
  have hlen : (hex8 n).length = 8 := fx_length 8 n
  have hne : (hex8 n == []) = false := by
    rw [beq_eq_false_iff_ne]
    intro h
    rw [h] at hlen
    cases hlen
  have e1 : IntKind.u64.wrap (4294967296 - 1) = 4294967295 := by decide
  have e0 : IntKind.u64.wrap ((1 : Int) * 2 ^ min (32 : Int).toNat IntKind.u64.bits) = 4294967296 := by decide
  refine enter Tryz.func61 rfl rfl rfl rfl ?_
  intro a st
  (repeat' (first | (refine o_eqS (m := []) st rfl rfl hne rfl ?_; clear st; intro _ st) | (refine o_intInt (k := .u64) st rfl (by decide) rfl ?_; clear st; intro _ st) | (refine o_shlK (k := .u64) st rfl rfl (by decide) rfl ?_; clear st; intro _ st; rw [e0] at st) | (refine o_subW (k := .u64) st rfl rfl rfl ?_; clear st; intro _ st; rw [e1] at st) | (refine o_convSB (e := 5) Tryz.underlying5 st rfl rfl ?_; clear st; intro cb cc arr fr _ _ harr st) | refine c_seq ?_ | refine c_region ?_ | refine l_do ?_ | refine l_doG st rfl rfl ?_ | ((first | refine l_skipU st rfl rfl rfl ?_ | refine l_skip st rfl rfl rfl rfl ?_); clear st; intro _ st) | refine l_nil ?_ | refine x_then ?_ | refine x_thenR ?_ | refine x_thenE ?_ | refine x_blkN ?_ | refine x_blkR ?_ | refine x_blkE ?_ | refine x_blkO rfl ?_ | refine wp_ret ?_ | refine wp_skip ?_ | refine wp_block ?_ | refine wp_exit ?_ | refine c_condT st rfl ?_ | refine c_condF st rfl ?_ | ((first | refine o_move st rfl rfl ?_ | refine o_assign st rfl rfl ?_ | refine o_pickT st rfl rfl rfl ?_ | refine o_pickF st rfl rfl rfl ?_ | refine o_loadS st rfl (by repeat constructor) rfl rfl ?_ | refine o_load3 st rfl (by repeat constructor) rfl ?_ | refine o_load2 st rfl (by repeat constructor) rfl ?_ | refine o_load4 st rfl (by repeat constructor) rfl ?_ | refine o_len st rfl rfl ?_ | refine o_add64 st rfl rfl rfl (by omega) (by omega) ?_ | refine o_sub64 st rfl rfl rfl (by omega) (by omega) ?_ | refine o_mulW st rfl rfl rfl ?_ | refine o_notT st rfl rfl ?_ | refine o_notF st rfl rfl ?_ | refine o_fcv0 st rfl rfl ?_ | refine o_intFloat st rfl rfl ?_); clear st; intro _ st) | ((first | refine o_lss st rfl rfl rfl ?_ ?_ | refine o_leq st rfl rfl rfl ?_ ?_ | refine o_gtr st rfl rfl rfl ?_ ?_ | refine o_geq st rfl rfl rfl ?_ ?_ | refine o_eqlI st rfl rfl rfl ?_ ?_) <;> clear st <;> intro _ _ st <;> (try (exfalso; omega)))))
  rw [hlen] at st
  refine wp_loop_ghost (fun z a w' => ∃ (i m : Nat), i ≤ 8 ∧ z = 8 - i ∧ m = n / 16 ^ (8 - i) ∧ St w Tryz.f61.ntmps a w' [(1, .int .i64 16), (8, .bool false), (10, .int .u64 1152921504606846976), (11, .int .u64 4294967295), (12, .bool false), (13, .int .u64 (m : Nat)), (99, .slice (some ⟨cb, 0, none⟩) 8 cc), (100, .int .i64 (8 : Nat)), (101, .int .i64 (i : Nat))] [⟨cb, true, .cells arr 5 fr⟩]) 8 ⟨0, 0, by omega, by omega, (Nat.div_eq_of_lt (by omega)).symm, st.fit (by repeat (first | exact trivial | refine And.intro rfl ?_))⟩ ?_
  clear st
  rintro z a w' ⟨i, m, hi, rfl, hm, st⟩
  by_cases hlt : i < 8
  · obtain ⟨q, hq⟩ : ∃ q, q = n / 16 ^ (7 - i) := ⟨_, rfl⟩
    obtain ⟨d, hd⟩ : ∃ d, d = q % 16 := ⟨_, rfl⟩
    have hqm : m = q / 16 := by
      rw [hm, hq, Nat.div_div_eq_div_mul, ← Nat.pow_succ]
      congr 2
      omega
    have hqn : q ≤ n := by rw [hq]; exact Nat.div_le_self _ _
    have hsum : m * 16 + d = q := by omega
    have hd16 : d < 16 := by omega
    have hg := harr i (by rw [hlen]; exact hlt)
    have hgi : (hex8 n)[i]'(by rw [hlen]; exact hlt) = dg d := by
      have h1 := fx_get 8 n i hlt
      have h2 : (hex8 n)[i]? = some ((hex8 n)[i]'(by rw [hlen]; exact hlt)) := List.getElem?_eq_getElem _
      have h3 : (hex8 n)[i]? = some (dg (n / 16 ^ (8 - 1 - i) % 16)) := h1
      rw [h2] at h3
      have h4 := Option.some.inj h3
      rw [h4, hd, hq]
    rw [hgi, dg_val d hd16] at hg
    have ei : 0 + ((i : Nat) : Int).toNat * 1 = i := by omega
    have hfin : n / 16 ^ (8 - (i + 1)) = q := by rw [hq, show 8 - (i + 1) = 7 - i by omega]
    by_cases h10 : d < 10
    · rw [if_pos h10] at hg
      have s1 : IntKind.u8.wrap (((48 + d : Nat) : Int) - 48) = (d : Int) := by rw [wrap_u8 (by omega) (by omega)]; omega
      have s2 : IntKind.u64.wrap ((m : Int) * 16) = ((m * 16 : Nat) : Int) := by rw [wrap_u64 (by omega) (by omega)]; omega
      have s3 : IntKind.u64.wrap (((m * 16 : Nat) : Int) + (d : Int)) = (q : Int) := by rw [wrap_u64 (by omega) (by omega)]; omega
      (repeat' (first | (refine o_indexAddr st rfl rfl (by omega) (by omega) rfl ?_; clear st; intro _ st; rw [ei] at st) | (refine o_loadS st rfl (by repeat constructor) hg rfl ?_; clear st; intro _ st) | (refine o_subW (k := .u8) (j := 48) st rfl rfl rfl ?_; clear st; intro _ st; rw [s1] at st) | (refine o_intInt (k := .u8) st rfl (by decide) rfl ?_; clear st; intro _ st) | (refine o_intInt (k := .u64) (n := 16) st rfl (by decide) rfl ?_; clear st; intro _ st) | (refine o_mulW (k := .u64) st rfl rfl rfl ?_; clear st; intro _ st; rw [s2] at st) | (refine o_intInt (k := .u64) (n := (d : Int)) st rfl (wrap_u64 (by omega) (by omega)) rfl ?_; clear st; intro _ st) | (refine o_addW (k := .u64) st rfl rfl rfl ?_; clear st; intro _ st; rw [s3] at st) | refine c_seq ?_ | refine c_region ?_ | refine l_do ?_ | refine l_doG st rfl rfl ?_ | ((first | refine l_skipU st rfl rfl rfl ?_ | refine l_skip st rfl rfl rfl rfl ?_); clear st; intro _ st) | refine l_nil ?_ | refine x_then ?_ | refine x_thenR ?_ | refine x_thenE ?_ | refine x_blkN ?_ | refine x_blkR ?_ | refine x_blkE ?_ | refine x_blkO rfl ?_ | refine wp_ret ?_ | refine wp_skip ?_ | refine wp_block ?_ | refine wp_exit ?_ | refine c_condT st rfl ?_ | refine c_condF st rfl ?_ | ((first | refine o_move st rfl rfl ?_ | refine o_assign st rfl rfl ?_ | refine o_pickT st rfl rfl rfl ?_ | refine o_pickF st rfl rfl rfl ?_ | refine o_loadS st rfl (by repeat constructor) rfl rfl ?_ | refine o_load3 st rfl (by repeat constructor) rfl ?_ | refine o_load2 st rfl (by repeat constructor) rfl ?_ | refine o_load4 st rfl (by repeat constructor) rfl ?_ | refine o_len st rfl rfl ?_ | refine o_add64 st rfl rfl rfl (by omega) (by omega) ?_ | refine o_sub64 st rfl rfl rfl (by omega) (by omega) ?_ | refine o_mulW st rfl rfl rfl ?_ | refine o_notT st rfl rfl ?_ | refine o_notF st rfl rfl ?_ | refine o_fcv0 st rfl rfl ?_ | refine o_intFloat st rfl rfl ?_); clear st; intro _ st) | ((first | refine o_lss st rfl rfl rfl ?_ ?_ | refine o_leq st rfl rfl rfl ?_ ?_ | refine o_gtr st rfl rfl rfl ?_ ?_ | refine o_geq st rfl rfl rfl ?_ ?_ | refine o_eqlI st rfl rfl rfl ?_ ?_) <;> clear st <;> intro _ _ st <;> (try (exfalso; omega)))))
      exact ⟨8 - (i + 1), by omega, i + 1, q, by omega, rfl, hfin.symm, st.fit (by repeat (first | exact trivial | refine And.intro rfl ?_))⟩
    · rw [if_neg h10] at hg
      have s0 : IntKind.u8.wrap (((87 + d : Nat) : Int) - 97) = (d : Int) - 10 := by rw [wrap_u8 (by omega) (by omega)]; omega
      have s1 : IntKind.u8.wrap ((d : Int) - 10 + 10) = (d : Int) := by rw [wrap_u8 (by omega) (by omega)]; omega
      have s2 : IntKind.u64.wrap ((m : Int) * 16) = ((m * 16 : Nat) : Int) := by rw [wrap_u64 (by omega) (by omega)]; omega
      have s3 : IntKind.u64.wrap (((m * 16 : Nat) : Int) + (d : Int)) = (q : Int) := by rw [wrap_u64 (by omega) (by omega)]; omega
      (repeat' (first | (refine o_indexAddr st rfl rfl (by omega) (by omega) rfl ?_; clear st; intro _ st; rw [ei] at st) | (refine o_loadS st rfl (by repeat constructor) hg rfl ?_; clear st; intro _ st) | (refine o_callV st rfl (lower_ok _ (by omega) (by omega) _) rfl ?_; clear st; intro _ _ st) | (refine o_subW (k := .u8) (j := 97) st rfl rfl rfl ?_; clear st; intro _ st; rw [s0] at st) | (refine o_addW (k := .u8) st rfl rfl rfl ?_; clear st; intro _ st; rw [s1] at st) | (refine o_intInt (k := .u8) st rfl (by decide) rfl ?_; clear st; intro _ st) | (refine o_intInt (k := .u64) (n := 16) st rfl (by decide) rfl ?_; clear st; intro _ st) | (refine o_mulW (k := .u64) st rfl rfl rfl ?_; clear st; intro _ st; rw [s2] at st) | (refine o_intInt (k := .u64) (n := (d : Int)) st rfl (wrap_u64 (by omega) (by omega)) rfl ?_; clear st; intro _ st) | (refine o_addW (k := .u64) st rfl rfl rfl ?_; clear st; intro _ st; rw [s3] at st) | refine c_seq ?_ | refine c_region ?_ | refine l_do ?_ | refine l_doG st rfl rfl ?_ | ((first | refine l_skipU st rfl rfl rfl ?_ | refine l_skip st rfl rfl rfl rfl ?_); clear st; intro _ st) | refine l_nil ?_ | refine x_then ?_ | refine x_thenR ?_ | refine x_thenE ?_ | refine x_blkN ?_ | refine x_blkR ?_ | refine x_blkE ?_ | refine x_blkO rfl ?_ | refine wp_ret ?_ | refine wp_skip ?_ | refine wp_block ?_ | refine wp_exit ?_ | refine c_condT st rfl ?_ | refine c_condF st rfl ?_ | ((first | refine o_move st rfl rfl ?_ | refine o_assign st rfl rfl ?_ | refine o_pickT st rfl rfl rfl ?_ | refine o_pickF st rfl rfl rfl ?_ | refine o_loadS st rfl (by repeat constructor) rfl rfl ?_ | refine o_load3 st rfl (by repeat constructor) rfl ?_ | refine o_load2 st rfl (by repeat constructor) rfl ?_ | refine o_load4 st rfl (by repeat constructor) rfl ?_ | refine o_len st rfl rfl ?_ | refine o_add64 st rfl rfl rfl (by omega) (by omega) ?_ | refine o_sub64 st rfl rfl rfl (by omega) (by omega) ?_ | refine o_mulW st rfl rfl rfl ?_ | refine o_notT st rfl rfl ?_ | refine o_notF st rfl rfl ?_ | refine o_fcv0 st rfl rfl ?_ | refine o_intFloat st rfl rfl ?_); clear st; intro _ st) | ((first | refine o_lss st rfl rfl rfl ?_ ?_ | refine o_leq st rfl rfl rfl ?_ ?_ | refine o_gtr st rfl rfl rfl ?_ ?_ | refine o_geq st rfl rfl rfl ?_ ?_ | refine o_eqlI st rfl rfl rfl ?_ ?_) <;> clear st <;> intro _ _ st <;> (try (exfalso; omega)))))
      exact ⟨8 - (i + 1), by omega, i + 1, q, by omega, rfl, hfin.symm, st.fit (by repeat (first | exact trivial | refine And.intro rfl ?_))⟩
  · obtain rfl : i = 8 := by omega
    have hm : m = n := by rw [hm]; simp
    subst hm
    (repeat' (first | refine c_seq ?_ | refine c_region ?_ | refine l_do ?_ | refine l_doG st rfl rfl ?_ | ((first | refine l_skipU st rfl rfl rfl ?_ | refine l_skip st rfl rfl rfl rfl ?_); clear st; intro _ st) | refine l_nil ?_ | refine x_then ?_ | refine x_thenR ?_ | refine x_thenE ?_ | refine x_blkN ?_ | refine x_blkR ?_ | refine x_blkE ?_ | refine x_blkO rfl ?_ | refine wp_ret ?_ | refine wp_skip ?_ | refine wp_block ?_ | refine wp_exit ?_ | refine c_condT st rfl ?_ | refine c_condF st rfl ?_ | ((first | refine o_move st rfl rfl ?_ | refine o_assign st rfl rfl ?_ | refine o_pickT st rfl rfl rfl ?_ | refine o_pickF st rfl rfl rfl ?_ | refine o_loadS st rfl (by repeat constructor) rfl rfl ?_ | refine o_load3 st rfl (by repeat constructor) rfl ?_ | refine o_load2 st rfl (by repeat constructor) rfl ?_ | refine o_load4 st rfl (by repeat constructor) rfl ?_ | refine o_len st rfl rfl ?_ | refine o_add64 st rfl rfl rfl (by omega) (by omega) ?_ | refine o_sub64 st rfl rfl rfl (by omega) (by omega) ?_ | refine o_mulW st rfl rfl rfl ?_ | refine o_notT st rfl rfl ?_ | refine o_notF st rfl rfl ?_ | refine o_fcv0 st rfl rfl ?_ | refine o_intFloat st rfl rfl ?_); clear st; intro _ st) | ((first | refine o_lss st rfl rfl rfl ?_ ?_ | refine o_leq st rfl rfl rfl ?_ ?_ | refine o_gtr st rfl rfl rfl ?_ ?_ | refine o_geq st rfl rfl rfl ?_ ?_ | refine o_eqlI st rfl rfl rfl ?_ ?_) <;> clear st <;> intro _ _ st <;> (try (exfalso; omega)))))
    refine post2 st Tryz.results61 (rd_t st rfl) (rd_t st rfl) ?_
    exact ⟨rfl, st.ex0⟩
end Go.Proofs.YtclgplbikjmopaaGreatDoor
