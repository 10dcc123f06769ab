/-
  Contracts: sheets read in, sheets compared, sheets that are sheets.
-/
import Derived.Test.YtefnlalldgbcaaaI
namespace Go.Proofs.Ytefnlalldgbcaaa
open Go.RowKit
attribute [local irreducible] Code.wp wpList Oper.wp Calls bodyPost Exit.then Exit.inBlock

def inB (i lo hi : Int) : Bool := decide (lo ≤ i) && decide (i ≤ hi)

theorem l00In_ok (i lo hi : Int) (w : World) : CV Try.prog 144 [.int .i64 i, .int .i64 lo, .int .i64 hi] w (.bool (inB i lo hi)) := by
  refine enter Try.func144 rfl rfl rfl rfl ?_
  intro a st
  (repeat' (first | (refine c_seq ?_) | (refine c_region ?_) | (refine l_do ?_) | (refine l_doG st rfl rfl ?_) | (refine l_skipU st rfl rfl rfl ?_; clear st; intro _ st) | (refine l_skip st rfl rfl rfl rfl ?_; clear st; intro _ st) | (refine l_nil ?_) | (refine x_then ?_) | (refine x_thenR ?_) | (refine x_thenE ?_) | (refine wp_ret ?_) | (refine o_move st rfl rfl ?_; clear st; intro _ st) | (refine o_assign st rfl rfl ?_; clear st; intro _ st) | (refine o_pickT st rfl rfl rfl ?_; clear st; intro _ st) | (refine o_pickF st rfl rfl rfl ?_; clear st; intro _ st) | (refine o_leq st rfl rfl rfl ?_ ?_ <;> clear st <;> intro _ _ st <;> (try (exfalso; omega))) | (refine o_geq st rfl rfl rfl ?_ ?_ <;> clear st <;> intro _ _ st <;> (try (exfalso; omega)))))
  all_goals
    refine post1 st Try.results144 (rd_t st rfl) ?_
    exact ⟨by simp [inB]; omega, st.ex0⟩
theorem within_ok (i lo hi : Int) (w : World) : CV Try.prog 146 [.int .i64 i, .int .i64 lo, .int .i64 hi] w (.bool (inB i lo hi)) := by
  refine enter Try.func146 rfl rfl rfl rfl ?_
  intro a st
  (repeat' (first | (refine c_seq ?_) | (refine c_region ?_) | (refine l_do ?_) | (refine l_doG st rfl rfl ?_) | (refine l_skipU st rfl rfl rfl ?_; clear st; intro _ st) | (refine l_skip st rfl rfl rfl rfl ?_; clear st; intro _ st) | (refine l_nil ?_) | (refine x_then ?_) | (refine x_thenR ?_) | (refine x_thenE ?_) | (refine wp_ret ?_) | (refine o_move st rfl rfl ?_; clear st; intro _ st) | (refine o_assign st rfl rfl ?_; clear st; intro _ st) | (refine o_pickT st rfl rfl rfl ?_; clear st; intro _ st) | (refine o_pickF st rfl rfl rfl ?_; clear st; intro _ st) | (refine o_leq st rfl rfl rfl ?_ ?_ <;> clear st <;> intro _ _ st <;> (try (exfalso; omega))) | (refine o_geq st rfl rfl rfl ?_ ?_ <;> clear st <;> intro _ _ st <;> (try (exfalso; omega)))))
  all_goals
    refine post1 st Try.results146 (rd_t st rfl) ?_
    exact ⟨by simp [inB]; omega, st.ex0⟩
theorem l04Counts_ok (m n : Int) (w : World) : CV Try.prog 141 [.int .i64 m, .int .i64 n] w (.bool (inB m 2 6 && inB n 2 6)) := by
  refine enter Try.func141 rfl rfl rfl rfl ?_
  intro a st
  (repeat' (first | (refine o_callB st rfl (l00In_ok _ _ _ _) rfl ?_ ?_ <;> clear st <;> intro _ _ _ st) | (refine c_seq ?_) | (refine c_region ?_) | (refine l_do ?_) | (refine l_doG st rfl rfl ?_) | (refine l_skipU st rfl rfl rfl ?_; clear st; intro _ st) | (refine l_skip st rfl rfl rfl rfl ?_; clear st; intro _ st) | (refine l_nil ?_) | (refine x_then ?_) | (refine x_thenR ?_) | (refine x_thenE ?_) | (refine wp_ret ?_) | (refine o_move st rfl rfl ?_; clear st; intro _ st) | (refine o_assign st rfl rfl ?_; clear st; intro _ st) | (refine o_pickT st rfl rfl rfl ?_; clear st; intro _ st) | (refine o_pickF st rfl rfl rfl ?_; clear st; intro _ st)))
  all_goals
    refine post1 st Try.results141 (rd_t st rfl) ?_
    exact ⟨by simp_all, st.ex0⟩
theorem isAcross_ok (m : Int) (w : World) : CV Try.prog 114 [.int .i64 m] w (.bool (inB m 2 6)) := by
  refine enter Try.func114 rfl rfl rfl rfl ?_
  intro a st
  (repeat' (first | (refine o_callV st rfl (within_ok _ _ _ _) rfl ?_; clear st; intro _ _ st) | (refine c_seq ?_) | (refine c_region ?_) | (refine l_do ?_) | (refine l_nil ?_) | (refine x_then ?_) | (refine x_thenR ?_) | (refine x_thenE ?_) | (refine wp_ret ?_) | (refine o_move st rfl rfl ?_; clear st; intro _ st) | (refine o_assign st rfl rfl ?_; clear st; intro _ st)))
  all_goals
    refine post1 st Try.results114 (rd_t st rfl) ?_
    exact ⟨rfl, st.ex0⟩

theorem cS_step (bs : List B3) (k : Nat) (b : B3) (hb : bs[k]? = some b) (z : Value) :
    (cS (bs.take k) ++ List.replicate ((bs.length - k) * 3) z).take (0 + k * 3) ++ [.float .f32 b.1, .float .f32 b.2.1, .float .f32 b.2.2] ++ (cS (bs.take k) ++ List.replicate ((bs.length - k) * 3) z).drop (0 + k * 3 + 3) = cS (bs.take (k + 1)) ++ List.replicate ((bs.length - (k + 1)) * 3) z := by
  have hk : k < bs.length := (List.getElem?_eq_some_iff.1 hb).1
  have hbk : bs[k] = b := (List.getElem?_eq_some_iff.1 hb).2
  have hl : (cS (bs.take k)).length = k * 3 := by rw [cS_length, List.length_take, Nat.min_eq_left (by omega)]
  have h1 : (cS (bs.take k) ++ List.replicate ((bs.length - k) * 3) z).take (0 + k * 3) = cS (bs.take k) := by
    rw [Nat.zero_add, ← hl, List.take_left]
  have h2 : (cS (bs.take k) ++ List.replicate ((bs.length - k) * 3) z).drop (0 + k * 3 + 3) = List.replicate ((bs.length - (k + 1)) * 3) z := by
    rw [List.drop_append, List.drop_eq_nil_of_le (by omega), List.nil_append, List.drop_replicate, hl]
    congr 1
    omega
  rw [h1, h2, List.take_succ_eq_append_getElem hk, cS_append, hbk]
  rfl

set_option maxHeartbeats 4000000 in
theorem toSpotS_ok (bs : List B3) (base : Option Addr) (cap : Nat) (w : World) (hr : RdS w base bs) (hlen : bs.length < 1000000000) :
    CM1 Try.prog 52 [.slice base bs.length cap] w fun v b o => v = .slice (some ⟨b, 0, none⟩) bs.length bs.length ∧ o = .cells (cS bs).toArray 26 (0, 0) := by
  refine enter Try.func52 rfl rfl rfl rfl ?_
  intro a st
  (repeat' (first | (refine o_make3 st rfl rfl (by omega) (by omega) rfl ?_; clear st; intro blk _ _ st) | (refine c_seq ?_) | (refine c_region ?_) | (refine l_do ?_) | (refine l_nil ?_) | (refine x_then ?_) | (refine x_thenR ?_) | (refine x_thenE ?_) | (refine x_blkN ?_) | (refine x_blkR ?_) | (refine x_blkE ?_) | (refine x_blkO rfl ?_) | (refine wp_ret ?_) | (refine wp_skip ?_) | (refine wp_block ?_) | (refine wp_exit ?_) | (refine c_condT st rfl ?_) | (refine c_condF st rfl ?_) | (refine o_move st rfl rfl ?_; clear st; intro _ st) | (refine o_assign st rfl rfl ?_; clear st; intro _ st) | (refine o_loadS st rfl (by repeat (first | exact At.here | apply At.there)) rfl rfl ?_; clear st; intro _ st) | (refine o_load3 st rfl (by repeat (first | exact At.here | apply At.there)) rfl ?_; clear st; intro _ st) | (refine o_load2 st rfl (by repeat (first | exact At.here | apply At.there)) rfl ?_; clear st; intro _ st) | (refine o_load4 st rfl (by repeat (first | exact At.here | apply At.there)) rfl ?_; clear st; intro _ st) | (refine o_storeS st rfl rfl rfl (by repeat (first | exact Upd.here | apply Upd.there)) rfl (by dsimp only [List.set]) ?_; clear st; intro _ _ st) | (refine o_storeW st rfl rfl (by repeat (first | exact Upd.here | apply Upd.there)) rfl rfl rfl ?_; clear st; intro _ _ st) | (refine o_len st rfl rfl ?_; clear st; intro _ st) | (refine o_add64 st rfl rfl rfl (by omega) (by omega) ?_; clear st; intro _ st) | (refine o_lss st rfl rfl rfl ?_ ?_ <;> clear st <;> intro _ _ st <;> (try (exfalso; omega)))))
  refine wp_loop_ghost (fun n a w' => ∃ k : Nat, k ≤ bs.length ∧ n = bs.length - k ∧ St w Try.f52.ntmps a w' [(0, .slice base bs.length cap), (3, .slice (some ⟨blk, 0, none⟩) bs.length bs.length), (4, .int .i64 k)] [⟨blk, true, .cells (cS (bs.take k) ++ List.replicate ((bs.length - k) * 3) (Value.float .f32 0)).toArray 26 (0, 0)⟩]) bs.length ⟨0, by omega, by omega, st.fit (by repeat (first | exact trivial | refine And.intro rfl ?_))⟩ ?_
  clear st
  rintro n a w' ⟨k, hk, rfl, st⟩
  by_cases hlt : k < bs.length
  · rcases hr with rfl | ⟨b0, off, cs, t, fr, rfl, hw, hsp⟩
    · simp at hlt
    have hb : bs[k]? = some bs[k] := by simp [hlt]
    have hv := hsp k bs[k] hb
    have hc : 0 + k * 3 + 3 ≤ (cS (bs.take k) ++ List.replicate ((bs.length - k) * 3) (Value.float .f32 0)).length := by
      rw [List.length_append, cS_length, List.length_take, List.length_replicate, Nat.min_eq_left (by omega)]
      omega
    (repeat' (first | (refine o_indexAddr st rfl rfl (by omega) (by omega) rfl ?_; clear st; intro _ st) | (refine o_loadOld st rfl hw hv rfl ?_; clear st; intro _ st) | (refine o_callV st rfl (toSpot_ok _ _) rfl ?_; clear st; intro _ _ st) | (refine o_storeM (n := 3) (vs := [.float .f32 bs[k].1, .float .f32 bs[k].2.1, .float .f32 bs[k].2.2]) st rfl rfl (by repeat (first | exact Upd.here | apply Upd.there)) hc rfl rfl ?_; clear st; intro _ _ st; simp only [Int.toNat_natCast] at st; rw [cS_step bs k _ hb] at st) | (refine c_seq ?_) | (refine c_region ?_) | (refine l_do ?_) | (refine l_nil ?_) | (refine x_then ?_) | (refine x_thenR ?_) | (refine x_thenE ?_) | (refine x_blkN ?_) | (refine x_blkR ?_) | (refine x_blkE ?_) | (refine x_blkO rfl ?_) | (refine wp_ret ?_) | (refine wp_skip ?_) | (refine wp_block ?_) | (refine wp_exit ?_) | (refine c_condT st rfl ?_) | (refine c_condF st rfl ?_) | (refine o_move st rfl rfl ?_; clear st; intro _ st) | (refine o_assign st rfl rfl ?_; clear st; intro _ st) | (refine o_loadS st rfl (by repeat (first | exact At.here | apply At.there)) rfl rfl ?_; clear st; intro _ st) | (refine o_load3 st rfl (by repeat (first | exact At.here | apply At.there)) rfl ?_; clear st; intro _ st) | (refine o_load2 st rfl (by repeat (first | exact At.here | apply At.there)) rfl ?_; clear st; intro _ st) | (refine o_load4 st rfl (by repeat (first | exact At.here | apply At.there)) rfl ?_; clear st; intro _ st) | (refine o_storeS st rfl rfl rfl (by repeat (first | exact Upd.here | apply Upd.there)) rfl (by dsimp only [List.set]) ?_; clear st; intro _ _ st) | (refine o_storeW st rfl rfl (by repeat (first | exact Upd.here | apply Upd.there)) rfl rfl rfl ?_; clear st; intro _ _ st) | (refine o_len st rfl rfl ?_; clear st; intro _ st) | (refine o_add64 st rfl rfl rfl (by omega) (by omega) ?_; clear st; intro _ st) | (refine o_lss st rfl rfl rfl ?_ ?_ <;> clear st <;> intro _ _ st <;> (try (exfalso; omega)))))
    exact ⟨bs.length - (k + 1), by omega, k + 1, by omega, rfl, st.fit (by repeat (first | exact trivial | refine And.intro rfl ?_))⟩
  · have hk' : k = bs.length := by omega
    subst hk'
    rw [List.take_length, Nat.sub_self, Nat.zero_mul, List.replicate_zero, List.append_nil] at st
    (repeat' (first | (refine c_seq ?_) | (refine c_region ?_) | (refine l_do ?_) | (refine l_nil ?_) | (refine x_then ?_) | (refine x_thenR ?_) | (refine x_thenE ?_) | (refine x_blkN ?_) | (refine x_blkR ?_) | (refine x_blkE ?_) | (refine x_blkO rfl ?_) | (refine wp_ret ?_) | (refine wp_skip ?_) | (refine wp_block ?_) | (refine wp_exit ?_) | (refine c_condT st rfl ?_) | (refine c_condF st rfl ?_) | (refine o_move st rfl rfl ?_; clear st; intro _ st) | (refine o_assign st rfl rfl ?_; clear st; intro _ st) | (refine o_loadS st rfl (by repeat (first | exact At.here | apply At.there)) rfl rfl ?_; clear st; intro _ st) | (refine o_load3 st rfl (by repeat (first | exact At.here | apply At.there)) rfl ?_; clear st; intro _ st) | (refine o_load2 st rfl (by repeat (first | exact At.here | apply At.there)) rfl ?_; clear st; intro _ st) | (refine o_load4 st rfl (by repeat (first | exact At.here | apply At.there)) rfl ?_; clear st; intro _ st) | (refine o_storeS st rfl rfl rfl (by repeat (first | exact Upd.here | apply Upd.there)) rfl (by dsimp only [List.set]) ?_; clear st; intro _ _ st) | (refine o_storeW st rfl rfl (by repeat (first | exact Upd.here | apply Upd.there)) rfl rfl rfl ?_; clear st; intro _ _ st) | (refine o_len st rfl rfl ?_; clear st; intro _ st) | (refine o_add64 st rfl rfl rfl (by omega) (by omega) ?_; clear st; intro _ st) | (refine o_lss st rfl rfl rfl ?_ ?_ <;> clear st <;> intro _ _ st <;> (try (exfalso; omega)))))
    refine post1 st Try.results52 (rd_t st rfl) ?_
    exact ⟨_, blk, _, rfl, ⟨rfl, rfl⟩, st.ex1 (by repeat (first | exact At.here | apply At.there))⟩

/-- A sheet's value. -/
def vSh (m n : Int) (base : Option Addr) (len cap : Nat) : Value := .agg [.int .i64 m, .int .i64 n, .slice base len cap].toArray

set_option maxHeartbeats 4000000 in
theorem toSheet_ok (m n : Int) (bs : List B3) (base : Option Addr) (cap : Nat) (w : World) (hr : RdS w base bs) (hlen : bs.length < 1000000000) :
    CM1 Try.prog 45 [vSh m n base bs.length cap] w fun v b o => v = vSh m n (some ⟨b, 0, none⟩) bs.length bs.length ∧ o = .cells (cS bs).toArray 26 (0, 0) := by
  refine enter Try.func45 rfl rfl rfl rfl ?_
  intro a st
  (repeat' (first | (refine o_callM1 st rfl (toSpotS_ok bs base cap _ (hr.mono st.below) hlen) rfl ?_; clear st; rintro _ blk _ ⟨rfl, rfl⟩ _ _ st) | (refine c_seq ?_) | (refine c_region ?_) | (refine l_do ?_) | (refine l_nil ?_) | (refine x_then ?_) | (refine x_thenR ?_) | (refine x_thenE ?_) | (refine wp_ret ?_) | (refine o_alloc st rfl ?_; clear st; intro _ _ _ st) | (refine o_boxA st rfl rfl ?_; clear st; intro _ _ _ st) | (refine o_boxS st rfl rfl rfl ?_; clear st; intro _ _ _ st) | (refine o_fieldAddr st rfl rfl ?_; clear st; intro _ st) | (refine o_loadS st rfl (by repeat (first | exact At.here | apply At.there)) rfl rfl ?_; clear st; intro _ st) | (refine o_load3 st rfl (by repeat (first | exact At.here | apply At.there)) rfl ?_; clear st; intro _ st) | (refine o_load2 st rfl (by repeat (first | exact At.here | apply At.there)) rfl ?_; clear st; intro _ st) | (refine o_load4 st rfl (by repeat (first | exact At.here | apply At.there)) rfl ?_; clear st; intro _ st) | (refine o_storeS st rfl rfl rfl (by repeat (first | exact Upd.here | apply Upd.there)) rfl (by dsimp only [List.set]) ?_; clear st; intro _ _ st) | (refine o_storeW st rfl rfl (by repeat (first | exact Upd.here | apply Upd.there)) rfl rfl rfl ?_; clear st; intro _ _ st)))
  refine post1 st Try.results45 (rd_c st rfl (by repeat (first | exact At.here | apply At.there)) rfl) ?_
  exact ⟨_, _, _, rfl, ⟨rfl, rfl⟩, st.ex1 (by repeat (first | exact At.here | apply At.there))⟩

theorem szSpotS_ok (len cap : Nat) (base : Option Addr) (n : Int) (w : World) (h0 : 0 ≤ n) (h1 : n ≤ 1048576) (hl : len ≤ 9223372036854775807) :
    CV Try.prog 50 [.slice base len cap, .int .i64 n] w (.int .i64 (if n - len < 0 then -1 else n - len)) := by
  refine enter Try.func50 rfl rfl rfl rfl ?_
  intro a st
  (repeat' (first | (refine c_seq ?_) | (refine c_region ?_) | (refine l_do ?_) | (refine l_nil ?_) | (refine x_then ?_) | (refine x_thenR ?_) | (refine x_thenE ?_) | (refine wp_ret ?_) | (refine wp_skip ?_) | (refine c_condT st rfl ?_) | (refine c_condF st rfl ?_) | (refine o_move st rfl rfl ?_; clear st; intro _ st) | (refine o_assign st rfl rfl ?_; clear st; intro _ st) | (refine o_len st rfl rfl ?_; clear st; intro _ st) | (refine o_sub64 st rfl rfl rfl (by omega) (by omega) ?_; clear st; intro _ st) | (refine o_lss st rfl rfl rfl ?_ ?_ <;> clear st <;> intro _ _ st <;> (try (exfalso; omega)))))
  all_goals
    refine post1 st Try.results50 (rd_t st rfl) ?_
    first
      | (refine ⟨?_, st.ex0⟩; rw [if_pos (by omega)]; done)
      | (refine ⟨?_, st.ex0⟩; rw [if_neg (by omega)]; done)
theorem szSheet_ok (m k : Int) (len cap : Nat) (base : Option Addr) (n : Int) (w : World) (h0 : 0 ≤ n) (h1 : n ≤ 1048576) (hl : len ≤ 9223372036854775807) :
    CV Try.prog 43 [vSh m k base len cap, .int .i64 n] w (.int .i64 (if n - len < 0 then -1 else n - len)) := by
  refine enter Try.func43 rfl rfl rfl rfl ?_
  intro a st
  have hc := fun w => szSpotS_ok len cap base n w h0 h1 hl
  by_cases hs : n - len < 0
  · rw [if_pos hs] at hc ⊢
    (repeat' (first | (refine o_callV st rfl (hc _) rfl ?_; clear st; intro _ _ st) | (refine c_seq ?_) | (refine c_region ?_) | (refine l_do ?_) | (refine l_nil ?_) | (refine x_then ?_) | (refine x_thenR ?_) | (refine x_thenE ?_) | (refine wp_ret ?_) | (refine wp_skip ?_) | (refine c_condT st rfl ?_) | (refine c_condF st rfl ?_) | (refine o_move st rfl rfl ?_; clear st; intro _ st) | (refine o_assign st rfl rfl ?_; clear st; intro _ st) | (refine o_boxA st rfl rfl ?_; clear st; intro _ _ _ st) | (refine o_boxS st rfl rfl rfl ?_; clear st; intro _ _ _ st) | (refine o_fieldAddr st rfl rfl ?_; clear st; intro _ st) | (refine o_loadS st rfl (by repeat (first | exact At.here | apply At.there)) rfl rfl ?_; clear st; intro _ st) | (refine o_load3 st rfl (by repeat (first | exact At.here | apply At.there)) rfl ?_; clear st; intro _ st) | (refine o_load2 st rfl (by repeat (first | exact At.here | apply At.there)) rfl ?_; clear st; intro _ st) | (refine o_load4 st rfl (by repeat (first | exact At.here | apply At.there)) rfl ?_; clear st; intro _ st) | (refine o_lss st rfl rfl rfl ?_ ?_ <;> clear st <;> intro _ _ st <;> (try (exfalso; omega)))))
    refine post1 st Try.results43 (rd_t st rfl) ?_
    exact ⟨rfl, st.ex0⟩
  · rw [if_neg hs] at hc ⊢
    (repeat' (first | (refine o_callV st rfl (hc _) rfl ?_; clear st; intro _ _ st) | (refine c_seq ?_) | (refine c_region ?_) | (refine l_do ?_) | (refine l_nil ?_) | (refine x_then ?_) | (refine x_thenR ?_) | (refine x_thenE ?_) | (refine wp_ret ?_) | (refine wp_skip ?_) | (refine c_condT st rfl ?_) | (refine c_condF st rfl ?_) | (refine o_move st rfl rfl ?_; clear st; intro _ st) | (refine o_assign st rfl rfl ?_; clear st; intro _ st) | (refine o_boxA st rfl rfl ?_; clear st; intro _ _ _ st) | (refine o_boxS st rfl rfl rfl ?_; clear st; intro _ _ _ st) | (refine o_fieldAddr st rfl rfl ?_; clear st; intro _ st) | (refine o_loadS st rfl (by repeat (first | exact At.here | apply At.there)) rfl rfl ?_; clear st; intro _ st) | (refine o_load3 st rfl (by repeat (first | exact At.here | apply At.there)) rfl ?_; clear st; intro _ st) | (refine o_load2 st rfl (by repeat (first | exact At.here | apply At.there)) rfl ?_; clear st; intro _ st) | (refine o_load4 st rfl (by repeat (first | exact At.here | apply At.there)) rfl ?_; clear st; intro _ st) | (refine o_lss st rfl rfl rfl ?_ ?_ <;> clear st <;> intro _ _ st <;> (try (exfalso; omega)))))
    refine post1 st Try.results43 (rd_t st rfl) ?_
    exact ⟨rfl, st.ex0⟩
end Go.Proofs.Ytefnlalldgbcaaa
