/-
  FnNumbers: hexadecimal digits; numbers' texts (walks).
-/
import Derived.Test.YtclgplbikjmopaaGreatDoorDt
namespace Go.Proofs.YtclgplbikjmopaaGreatDoor
open Go.RowKit
set_option maxRecDepth 100000

/-! ## digits -/
def dg (d : Nat) : UInt8 := if d < 10 then UInt8.ofNat (48 + d) else UInt8.ofNat (87 + d)
def digs : List UInt8 := [48, 49, 50, 51, 52, 53, 54, 55, 56, 57, 97, 98, 99, 100, 101, 102, 103, 104, 105, 106, 107, 108, 109, 110, 111, 112, 113, 114, 115, 116, 117, 118, 119, 120, 121, 122]
theorem digs_get : ∀ d : Nat, d < 16 → digs[d]? = some (dg d) := by decide
/-- The digits of a number, no more than f + 1. -/
def hx : Nat → Nat → List UInt8
  | 0, n => [dg n]
  | f + 1, n => if n < 16 then [dg n] else hx f (n / 16) ++ [dg (n % 16)]
/-- k digits of a number. -/
def fx : Nat → Nat → List UInt8
  | 0, _ => []
  | k + 1, n => fx k (n / 16) ++ [dg (n % 16)]
theorem fx_length : ∀ k n, (fx k n).length = k
  | 0, _ => rfl
  | k + 1, n => by simp [fx, fx_length k]
theorem fx_zero : ∀ k, fx k 0 = List.replicate k 48
  | 0 => rfl
  | k + 1 => by
    rw [fx, Nat.zero_div, fx_zero k, List.replicate_succ', Nat.zero_mod]
    rfl
theorem hx_fx : ∀ (f n : Nat), n < 16 ^ (f + 1) → (hx f n).length ≤ f + 1 ∧ 0 < (hx f n).length ∧ List.replicate (f + 1 - (hx f n).length) 48 ++ hx f n = fx (f + 1) n
  | 0, n, h => by
    have h : n < 16 := by simpa using h
    refine ⟨by simp [hx], by simp [hx], ?_⟩
    simp [hx, fx, Nat.mod_eq_of_lt h]
  | f + 1, n, h => by
    rw [hx]
    by_cases h1 : n < 16
    · rw [if_pos h1]
      refine ⟨by simp, by simp, ?_⟩
      rw [fx, Nat.div_eq_of_lt h1, Nat.mod_eq_of_lt h1, fx_zero]
      simp
    · rw [if_neg h1]
      have hd : n / 16 < 16 ^ (f + 1) := by
        rw [Nat.div_lt_iff_lt_mul (by decide), ← Nat.pow_succ]
        exact h
      obtain ⟨a1, a2, a3⟩ := hx_fx f (n / 16) hd
      refine ⟨by simp; omega, by simp, ?_⟩
      rw [fx, ← a3, List.length_append, List.length_singleton, ← List.append_assoc]
      congr 3
      omega
/-- The text of a number: 8 digits. -/
def hex8 (n : Nat) : List UInt8 := fx 8 n
theorem repeat_one : ∀ c, Lib.repeatL [48] c = List.replicate c 48
  | 0 => rfl
  | c + 1 => by rw [Lib.repeatL, repeat_one c]; rfl
theorem bitW_15 (m : Nat) (h : m < 18446744073709551616) : bitW .u64 (m : Int) 15 = ((m % 16 : Nat) : Int) := by
  have e : (BitVec.ofInt IntKind.u64.bits (m : Int) &&& BitVec.ofInt IntKind.u64.bits 15).toNat = m % 16 := by
    show (BitVec.ofInt 64 (m : Int) &&& BitVec.ofInt 64 15).toNat = m % 16
    rw [BitVec.toNat_and]
    have e1 : (BitVec.ofInt 64 (m : Int)).toNat = m := by
      rw [BitVec.toNat_ofInt]
      omega
    have e2 : (BitVec.ofInt 64 15).toNat = 15 := by decide
    rw [e1, e2]
    exact Nat.and_two_pow_sub_one_eq_mod m 4
  unfold bitW
  rw [e, wrap_u64 (by omega) (by omega)]
abbrev bV (b : UInt8) : Value := .int .u8 (b.toNat : Int)
theorem set_last {l : List Value} (v : Value) : ∀ (pre : List Value) (k : Nat), pre.length = k + 1 → (pre ++ l).set k v = pre.take k ++ v :: l
  | [], _, h => by cases h
  | [_], 0, _ => rfl
  | [_], _ + 1, h => by cases h
  | _ :: _ :: _, 0, h => by cases h
  | x :: y :: pre, k + 1, h => by
    have := set_last (l := l) v (y :: pre) k (by simpa using h)
    simpa using this

/-! ## the table of trailing zeros -/
def Tab (w : World) : Prop := ∃ arr t fr, w.heap[6]? = some (.cells arr t fr) ∧ arr[15]? = some (Value.int .u8 4)
theorem Tab.mono {w w' : World} (h : Tab w) (hb : Below w.heap.size w w') : Tab w' := by
  obtain ⟨arr, t, fr, h1, h2⟩ := h
  exact ⟨arr, t, fr, by rw [hb.block 6 (Array.getElem?_eq_some_iff.1 h1).1]; exact h1, h2⟩
instance : ZeroT Tryz.prog 116 (List.replicate 65 (.int .u8 0)) := ⟨⟨_, Tryz.zeroValue116, by rfl⟩⟩
attribute [local irreducible] Code.wp wpList Oper.wp Calls bodyPost Exit.then Exit.inBlock
theorem pow2_ok (w : World) : CV Tryz.prog 84 [.int .i64 16] w (.bool true) := by
  have e : bitW .i64 16 15 = 0 := by decide
  refine enter Tryz.func84 rfl rfl rfl rfl ?_
  intro a st
  (repeat' (first | (refine o_andK (i := 16) (j := 15) st rfl rfl rfl ?_; clear st; intro _ st; rw [e] at st) | refine c_seq ?_ | refine c_region ?_ | refine l_do ?_ | refine l_nil ?_ | refine x_then ?_ | refine x_thenR ?_ | refine x_thenE ?_ | refine wp_ret ?_ | ((first | refine o_move st rfl rfl ?_ | refine o_assign st rfl rfl ?_ | refine o_sub64 st rfl rfl rfl (by omega) (by omega) ?_); clear st; intro _ st) | (refine o_eqlI st rfl rfl rfl ?_ ?_ <;> clear st <;> intro _ _ st <;> (try (exfalso; omega)))))
  refine post1 st Tryz.results84 (rd_t st rfl) ?_
  exact ⟨rfl, st.ex0⟩
theorem TZ64_ok (w : World) (hT : Tab w) : CV Tryz.prog 96 [.int .u64 16] w (.int .i64 4) := by
  obtain ⟨arr, t, fr, h1, h2⟩ := hT
  have e1 : IntKind.u64.wrap (-16) = 18446744073709551600 := by decide
  have e2 : bitW .u64 16 18446744073709551600 = 16 := by decide
  have e3 : IntKind.u64.wrap (16 * 285870213051353865) = 4573923408821661840 := by decide
  have e4 : (4573923408821661840 : Int) / 2 ^ min (58 : Int).toNat IntKind.u64.bits = 15 := by decide
  refine enterL [⟨6, false, .cells arr t fr⟩] (by intro e he; simp only [List.mem_singleton] at he; subst he; exact ⟨h1, rfl⟩) Tryz.func96 rfl rfl rfl rfl ?_
  intro a st
  (repeat' (first | (refine o_negW (k := .u64) st rfl rfl ?_; clear st; intro _ st; rw [e1] at st) | (refine o_andK (k := .u64) st rfl rfl rfl ?_; clear st; intro _ st; rw [e2] at st) | (refine o_mulW (k := .u64) st rfl rfl rfl ?_; clear st; intro _ st; rw [e3] at st) | (refine o_shrU (k := .u64) st rfl rfl (by decide) rfl ?_; clear st; intro _ st; rw [e4] at st) | (refine o_indexArr (n := 64) (e := 5) Tryz.underlying135 st rfl rfl (by decide) (by decide) rfl ?_; clear st; intro _ st) | (refine o_loadS st rfl (by repeat constructor) h2 rfl ?_; clear st; intro _ st) | (refine o_intInt (k := .i64) st rfl (by decide) rfl ?_; clear st; intro _ st) | refine c_seq ?_ | refine c_region ?_ | refine l_do ?_ | refine l_nil ?_ | refine x_then ?_ | refine x_thenR ?_ | refine x_thenE ?_ | refine wp_ret ?_ | refine wp_skip ?_ | refine c_condT st rfl ?_ | refine c_condF st rfl ?_ | ((first | refine o_move st rfl rfl ?_ | refine o_assign st rfl rfl ?_ | refine o_loadS st rfl (by repeat constructor) rfl rfl ?_ | refine o_load3 st rfl (by repeat constructor) rfl ?_ | refine o_load2 st rfl (by repeat constructor) rfl ?_ | refine o_load4 st rfl (by repeat constructor) rfl ?_ | refine o_mulW st rfl rfl rfl ?_ | refine o_fcv0 st rfl rfl ?_ | refine o_intFloat st rfl rfl ?_); clear st; intro _ st) | (refine o_eqlI st rfl rfl rfl ?_ ?_ <;> clear st <;> intro _ _ st <;> (try (exfalso; omega)))))
  refine post1 st Tryz.results96 (rd_t st rfl) ?_
  exact ⟨rfl, st.ex0⟩
theorem TZ_ok (w : World) (hT : Tab w) : CV Tryz.prog 85 [.int .u64 16] w (.int .i64 4) := by
  refine enter Tryz.func85 rfl rfl rfl rfl ?_
  intro a st
  (repeat' (first | (refine o_callV st rfl (TZ64_ok _ (hT.mono st.below)) rfl ?_; clear st; intro _ _ st) | refine c_seq ?_ | refine c_region ?_ | refine l_do ?_ | refine l_nil ?_ | refine x_then ?_ | refine x_thenR ?_ | refine x_thenE ?_ | refine wp_ret ?_ | refine wp_skip ?_ | refine c_condT st rfl ?_ | refine c_condF st rfl ?_ | ((first | refine o_move st rfl rfl ?_ | refine o_assign st rfl rfl ?_ | refine o_fcv0 st rfl rfl ?_ | refine o_intFloat st rfl rfl ?_); clear st; intro _ st)))
  refine post1 st Tryz.results85 (rd_t st rfl) ?_
  exact ⟨rfl, st.ex0⟩
theorem shr4 (m : Nat) : ((m : Nat) : Int) / 2 ^ min (4 : Int).toNat IntKind.u64.bits = ((m / 16 : Nat) : Int) := by
  have e : min (4 : Int).toNat IntKind.u64.bits = 4 := by decide
  rw [e]
  omega
theorem text_cells {pre : List Value} {l : List UInt8} {i : Nat} (hi : i < l.length) : (pre ++ l.map bV).toArray[pre.length + i]? = some (bV l[i]) := by
  rw [List.getElem?_toArray, List.getElem?_append_right (by omega)]
  simp [hi]
set_option maxHeartbeats 16000000 in
theorem formatBits_ok (n : Nat) (hn : n < 4294967296) (w : World) (hT : Tab w) : CV Tryz.prog 66 [.slice none 0 0, .int .u64 (n : Int), .int .i64 16, .bool false, .bool false] w (.tuple #[.slice none 0 0, sV (hx 8 n)]) := by
  refine enter Tryz.func66 rfl rfl rfl rfl ?_
  intro a st
  (repeat' (first | (refine o_callV st rfl (pow2_ok _) rfl ?_; clear st; intro _ _ st) | (refine o_callV st rfl (TZ_ok _ (hT.mono st.below)) rfl ?_; clear st; intro _ _ st) | (refine o_intInt (k := .u64) st rfl (by decide) rfl ?_; clear st; intro _ st) | (refine o_subW (k := .u64) st rfl rfl rfl ?_; clear st; intro _ st) | (refine o_alloc (d := 12) st rfl ?_; clear st; intro ab _ _ st) | refine c_seq ?_ | refine c_region ?_ | refine l_do ?_ | refine l_doG st rfl rfl ?_ | ((first | refine l_skipU st rfl rfl rfl ?_ | refine l_skip st rfl rfl rfl rfl ?_); clear st; intro _ st) | refine l_nil ?_ | refine x_then ?_ | refine x_thenR ?_ | refine x_thenE ?_ | refine x_blkN ?_ | refine x_blkR ?_ | refine x_blkE ?_ | refine x_blkO rfl ?_ | refine wp_ret ?_ | refine wp_skip ?_ | refine wp_block ?_ | refine wp_exit ?_ | refine c_condT st rfl ?_ | refine c_condF st rfl ?_ | ((first | refine o_move st rfl rfl ?_ | refine o_assign st rfl rfl ?_ | refine o_pickT st rfl rfl rfl ?_ | refine o_pickF st rfl rfl rfl ?_); clear st; intro _ st) | (refine o_alloc st rfl ?_; clear st; intro _ _ _ st) | ((first | refine o_storeS st rfl rfl rfl (by repeat constructor) rfl (by dsimp only [List.set]) ?_ | refine o_storeW st rfl rfl (by repeat constructor) rfl rfl rfl ?_); clear st; intro _ _ st) | ((first | refine o_sub64 st rfl rfl rfl (by omega) (by omega) ?_ | refine o_mulW st rfl rfl rfl ?_ | refine o_fcv0 st rfl rfl ?_ | refine o_intFloat st rfl rfl ?_); clear st; intro _ st) | ((first | refine o_lss st rfl rfl rfl ?_ ?_ | refine o_gtr st rfl rfl rfl ?_ ?_ | refine o_geq st rfl rfl rfl ?_ ?_ | refine o_eqlI st rfl rfl rfl ?_ ?_) <;> clear st <;> intro _ _ st <;> (try (exfalso; omega)))))
  have e15 : IntKind.u64.wrap (16 - 1) = 15 := by decide
  rw [e15] at st
  refine wp_loop_ghost (fun f a w' => ∃ (m j : Nat) (pre : List Value) (low : List UInt8), f ≤ 8 ∧ j + f = 8 ∧ m < 16 ^ (f + 1) ∧ pre.length = 65 - j ∧ low.length = j ∧ hx 8 n = hx f m ++ low ∧ St w Tryz.f66.ntmps a w' [(1, .int .u64 (m : Nat)), (3, .bool false), (4, .bool false), (10, .slice none 0 0), (12, .pointer (some ⟨ab, 0, none⟩)), (13, .int .i64 (65 - (j : Int))), (14, .int .u64 4), (15, .int .u64 16), (16, .int .u64 15)] [⟨ab, true, .cells (pre ++ low.map bV).toArray 116 (0, 0)⟩]) 8 ⟨n, 0, List.replicate 65 (.int .u8 0), [], by omega, by omega, by omega, by simp, rfl, by simp, st.fit (by repeat (first | exact trivial | refine And.intro rfl ?_))⟩ ?_
  clear st
  rintro f a w' ⟨m, j, pre, low, hf, hj, hm, hpre, hlow, hxx, st⟩
  have hm64 : m < 18446744073709551616 := Nat.lt_of_lt_of_le hm (Nat.le_trans (Nat.pow_le_pow_right (by decide) (show f + 1 ≤ 9 by omega)) (by decide))
  have eo : 0 + (65 - (j : Int) - 1).toNat * 1 = 64 - j := by omega
  have hlen : 64 - j < (pre ++ low.map bV).length := by rw [List.length_append]; omega
  by_cases h16 : 16 ≤ m
  · cases f with
    | zero => simp at hm; omega
    | succ f =>
      have hdg := digs_get (m % 16) (Nat.mod_lt _ (by decide))
      have hst := set_last (l := low.map bV) (bV (dg (m % 16))) pre (64 - j) (by omega)
      (repeat' (first | (refine o_andK (k := .u64) (i := (m : Int)) (j := 15) st rfl rfl rfl ?_; clear st; intro _ st; rw [bitW_15 m hm64] at st) | (refine o_idxS (l := digs) (b := dg (m % 16)) st rfl rfl (by omega) (by rw [Int.toNat_natCast]; exact hdg) rfl ?_; clear st; intro _ st) | (refine o_indexArr (n := 65) (e := 5) Tryz.underlying116 st rfl rfl (by omega) (by omega) rfl ?_; clear st; intro _ st; rw [eo] at st) | (refine o_storeC _ st rfl rfl rfl (by repeat constructor) hlen hst ?_; clear st; intro _ _ st) | (refine o_shrU (k := .u64) (i := (m : Int)) (j := 4) st rfl rfl (by decide) rfl ?_; clear st; intro _ st; rw [shr4 m] at st) | refine c_seq ?_ | refine c_region ?_ | refine l_do ?_ | refine l_doG st rfl rfl ?_ | ((first | refine l_skipU st rfl rfl rfl ?_ | refine l_skip st rfl rfl rfl rfl ?_); clear st; intro _ st) | refine l_nil ?_ | refine x_then ?_ | refine x_thenR ?_ | refine x_thenE ?_ | refine x_blkN ?_ | refine x_blkR ?_ | refine x_blkE ?_ | refine x_blkO rfl ?_ | refine wp_ret ?_ | refine wp_skip ?_ | refine wp_block ?_ | refine wp_exit ?_ | refine c_condT st rfl ?_ | refine c_condF st rfl ?_ | ((first | refine o_move st rfl rfl ?_ | refine o_assign st rfl rfl ?_ | refine o_pickT st rfl rfl rfl ?_ | refine o_pickF st rfl rfl rfl ?_); clear st; intro _ st) | (refine o_alloc st rfl ?_; clear st; intro _ _ _ st) | ((first | refine o_storeS st rfl rfl rfl (by repeat constructor) rfl (by dsimp only [List.set]) ?_ | refine o_storeW st rfl rfl (by repeat constructor) rfl rfl rfl ?_); clear st; intro _ _ st) | ((first | refine o_sub64 st rfl rfl rfl (by omega) (by omega) ?_ | refine o_mulW st rfl rfl rfl ?_ | refine o_fcv0 st rfl rfl ?_ | refine o_intFloat st rfl rfl ?_); clear st; intro _ st) | ((first | refine o_lss st rfl rfl rfl ?_ ?_ | refine o_gtr st rfl rfl rfl ?_ ?_ | refine o_geq st rfl rfl rfl ?_ ?_ | refine o_eqlI st rfl rfl rfl ?_ ?_) <;> clear st <;> intro _ _ st <;> (try (exfalso; omega)))))
      have ej : 65 - (j : Int) - 1 = 65 - ((j + 1 : Nat) : Int) := by omega
      rw [ej] at st
      refine ⟨f, by omega, m / 16, j + 1, pre.take (64 - j), dg (m % 16) :: low, by omega, by omega, ?_, by rw [List.length_take]; omega, by simp [hlow], ?_, st.fit (by repeat (first | exact trivial | refine And.intro rfl ?_))⟩
      · rw [Nat.div_lt_iff_lt_mul (by decide), ← Nat.pow_succ]
        exact hm
      · rw [hxx, hx, if_neg (by omega)]
        simp
  · have hdg := digs_get m (by omega)
    have hst := set_last (l := low.map bV) (bV (dg m)) pre (64 - j) (by omega)
    have hx1 : hx f m = [dg m] := by
      cases f with
      | zero => rfl
      | succ f => rw [hx, if_pos (by omega)]
    have hl1 : (dg m :: low).length = 65 - (65 - (j : Int) - 1).toNat := by rw [List.length_cons]; omega
    have hpl : (pre.take (64 - j)).length = (65 - (j : Int) - 1).toNat * 1 := by rw [List.length_take]; omega
    have hc : ∀ i (hi : i < (dg m :: low).length), (pre.take (64 - j) ++ (dg m :: low).map bV).toArray[(65 - (j : Int) - 1).toNat * 1 + i]? = some (Value.int .u8 ((dg m :: low)[i].toNat : Int)) := by
      intro i hi
      rw [← hpl]
      exact text_cells hi
    (repeat' (first | (refine o_idxS (l := digs) (b := dg m) st rfl rfl (by omega) (by rw [Int.toNat_natCast]; exact hdg) rfl ?_; clear st; intro _ st) | (refine o_indexArr (n := 65) (e := 5) Tryz.underlying116 st rfl rfl (by omega) (by omega) rfl ?_; clear st; intro _ st; rw [eo] at st) | (refine o_storeC _ st rfl rfl rfl (by repeat constructor) hlen hst ?_; clear st; intro _ _ st) | (refine o_sliceArr (n := 65) (e := 5) Tryz.underlying116 st rfl rfl (by omega) (by omega) rfl ?_; clear st; intro _ st) | (refine o_convBS (e := 5) Tryz.underlying5 st rfl (by repeat constructor) hl1 hc rfl ?_; clear st; intro _ st) | refine c_seq ?_ | refine c_region ?_ | refine l_do ?_ | refine l_doG st rfl rfl ?_ | ((first | refine l_skipU st rfl rfl rfl ?_ | refine l_skip st rfl rfl rfl rfl ?_); clear st; intro _ st) | refine l_nil ?_ | refine x_then ?_ | refine x_thenR ?_ | refine x_thenE ?_ | refine x_blkN ?_ | refine x_blkR ?_ | refine x_blkE ?_ | refine x_blkO rfl ?_ | refine wp_ret ?_ | refine wp_skip ?_ | refine wp_block ?_ | refine wp_exit ?_ | refine c_condT st rfl ?_ | refine c_condF st rfl ?_ | ((first | refine o_move st rfl rfl ?_ | refine o_assign st rfl rfl ?_ | refine o_pickT st rfl rfl rfl ?_ | refine o_pickF st rfl rfl rfl ?_); clear st; intro _ st) | (refine o_alloc st rfl ?_; clear st; intro _ _ _ st) | ((first | refine o_storeS st rfl rfl rfl (by repeat constructor) rfl (by dsimp only [List.set]) ?_ | refine o_storeW st rfl rfl (by repeat constructor) rfl rfl rfl ?_); clear st; intro _ _ st) | ((first | refine o_sub64 st rfl rfl rfl (by omega) (by omega) ?_ | refine o_mulW st rfl rfl rfl ?_ | refine o_fcv0 st rfl rfl ?_ | refine o_intFloat st rfl rfl ?_); clear st; intro _ st) | ((first | refine o_lss st rfl rfl rfl ?_ ?_ | refine o_gtr st rfl rfl rfl ?_ ?_ | refine o_geq st rfl rfl rfl ?_ ?_ | refine o_eqlI st rfl rfl rfl ?_ ?_) <;> clear st <;> intro _ _ st <;> (try (exfalso; omega)))))
    refine post2 st Tryz.results66 (rd_t st rfl) (rd_t st rfl) ?_
    rw [hxx, hx1]
    exact ⟨rfl, st.ex0⟩
theorem FormatInt_ok (n : Nat) (hn : n < 4294967296) (w : World) (hT : Tab w) : CV Tryz.prog 45 [.int .i64 (n : Int), .int .i64 16] w (sV (hx 8 n)) := by
  have c1 : ∀ w, Tab w → CV Tryz.prog 53 [.int .i64 (n : Int), .int .i64 16] w (sV (hx 8 n)) := by
    intro w hT
    refine enter Tryz.func53 rfl rfl rfl rfl ?_
    intro a st
    (repeat' (first | (refine o_intInt (k := .u64) st rfl (wrap_u64 (by omega) (by omega)) rfl ?_; clear st; intro _ st) | (refine o_lss st rfl rfl rfl (fun h => by omega) (fun _ => ?_); clear st; intro _ st) | (refine o_callV st rfl (formatBits_ok n hn _ (hT.mono st.below)) rfl ?_; clear st; intro _ _ st) | refine c_seq ?_ | refine c_region ?_ | refine l_do ?_ | refine l_doG st rfl rfl ?_ | ((first | refine l_skipU st rfl rfl rfl ?_ | refine l_skip st rfl rfl rfl rfl ?_); clear st; intro _ st) | refine l_nil ?_ | refine x_then ?_ | refine x_thenR ?_ | refine x_thenE ?_ | refine wp_ret ?_ | refine wp_skip ?_ | refine c_condT st rfl ?_ | refine c_condF st rfl ?_ | ((first | refine o_move st rfl rfl ?_ | refine o_assign st rfl rfl ?_ | refine o_pickT st rfl rfl rfl ?_ | refine o_pickF st rfl rfl rfl ?_); clear st; intro _ st) | (refine o_alloc st rfl ?_; clear st; intro _ _ _ st) | ((first | refine o_storeS st rfl rfl rfl (by repeat constructor) rfl (by dsimp only [List.set]) ?_ | refine o_storeW st rfl rfl (by repeat constructor) rfl rfl rfl ?_); clear st; intro _ _ st) | ((first | refine o_extract st rfl rfl rfl ?_ | refine o_add64 st rfl rfl rfl (by omega) (by omega) ?_ | refine o_fcv0 st rfl rfl ?_ | refine o_intFloat st rfl rfl ?_); clear st; intro _ st) | ((first | refine o_lss st rfl rfl rfl ?_ ?_ | refine o_leq st rfl rfl rfl ?_ ?_ | refine o_eqlI st rfl rfl rfl ?_ ?_) <;> clear st <;> intro _ _ st <;> (try (exfalso; omega)))))
    refine post1 st Tryz.results53 (rd_t st rfl) ?_
    exact ⟨rfl, st.ex0⟩
  refine enter Tryz.func45 rfl rfl rfl rfl ?_
  intro a st
  (repeat' (first | (refine o_callV st rfl (c1 _ (hT.mono st.below)) rfl ?_; clear st; intro _ _ st) | refine c_seq ?_ | refine c_region ?_ | refine l_do ?_ | refine l_nil ?_ | refine x_then ?_ | refine x_thenR ?_ | refine x_thenE ?_ | refine wp_ret ?_ | ((first | refine o_move st rfl rfl ?_ | refine o_assign st rfl rfl ?_); clear st; intro _ st)))
  refine post1 st Tryz.results45 (rd_t st rfl) ?_
  exact ⟨rfl, st.ex0⟩
theorem Ex.of_below {w w' : World} (h : Below w.heap.size w w') : Ex w w' [] := ⟨h, by simp, by simp⟩
theorem Repeat_ok (c : Nat) (hc : c ≤ 8) (w : World) : CV Tryz.prog 46 [sV [48], .int .i64 (c : Int)] w (sV (List.replicate c 48)) := by
  refine (Tryz.strings_Repeat ⟨#[48]⟩ c w (by omega) (by show 1 * c ≤ _; omega)).mono ?_
  rintro e w' ⟨rfl, hb⟩
  refine ⟨?_, Ex.of_below hb⟩
  show Ending.returned (Value.string ⟨(Lib.repeatL [48] c).toArray⟩) = _
  rw [repeat_one]
theorem hx_more : ∀ (f n : Nat), n < 16 ^ (f + 1) → hx (f + 1) n = hx f n
  | 0, n, h => by
    show (if n < 16 then [dg n] else hx 0 (n / 16) ++ [dg (n % 16)]) = [dg n]
    rw [if_pos (by simpa using h)]
  | f + 1, n, h => by
    have ih := hx_more f (n / 16)
    show (if n < 16 then [dg n] else hx (f + 1) (n / 16) ++ [dg (n % 16)]) = (if n < 16 then [dg n] else hx f (n / 16) ++ [dg (n % 16)])
    by_cases h1 : n < 16
    · rw [if_pos h1, if_pos h1]
    · rw [if_neg h1, if_neg h1, ih (by rw [Nat.div_lt_iff_lt_mul (by decide), ← Nat.pow_succ]; exact h)]
theorem hexOf_ok (x : Nat) (h : x < 2 ^ 32) (w : World) (hT : Tab w) : CV Tryz.prog 30 [vF x] w (sV (hex8 (nb x))) := by
  have hn := nb_lt h
  have e7 := hx_more 7 (nb x) (Nat.lt_of_lt_of_le hn (by decide))
  obtain ⟨hl, _, e8⟩ := hx_fx 7 (nb x) (Nat.lt_of_lt_of_le hn (by decide))
  rw [← e7] at hl e8
  have hl : (hx 8 (nb x)).length ≤ 8 := hl
  have e8 : List.replicate (8 - (hx 8 (nb x)).length) 48 ++ hx 8 (nb x) = hex8 (nb x) := e8
  have ec : (8 : Int) - ((hx 8 (nb x)).length : Int) = ((8 - (hx 8 (nb x)).length : Nat) : Int) := by omega
  refine enter Tryz.func30 rfl rfl rfl rfl ?_
  intro a st
  (repeat' (first | (refine o_callV st rfl (BitsOf_ok x h _) rfl ?_; clear st; intro _ _ st) | (refine o_callV st rfl (FormatInt_ok (nb x) hn _ (hT.mono st.below)) rfl ?_; clear st; intro _ _ st) | (refine o_lenS st rfl rfl ?_; clear st; intro _ st) | (refine o_sub64 st rfl rfl rfl (by omega) (by omega) ?_; clear st; intro _ st; rw [ec] at st) | (refine o_callV st rfl (Repeat_ok _ (by omega) _) rfl ?_; clear st; intro _ _ st) | (refine o_addS st rfl rfl (by simp; omega) (by omega) rfl ?_; clear st; intro _ st; rw [e8] at st) | refine c_seq ?_ | refine c_region ?_ | refine l_do ?_ | refine l_nil ?_ | refine x_then ?_ | refine x_thenR ?_ | refine x_thenE ?_ | refine wp_ret ?_ | ((first | refine o_move st rfl rfl ?_ | refine o_assign st rfl rfl ?_ | refine o_len st rfl rfl ?_ | refine o_add64 st rfl rfl rfl (by omega) (by omega) ?_ | refine o_sub64 st rfl rfl rfl (by omega) (by omega) ?_); clear st; intro _ st)))
  refine post1 st Tryz.results30 (rd_t st rfl) ?_
  exact ⟨rfl, st.ex0⟩
end Go.Proofs.YtclgplbikjmopaaGreatDoor
