/-
  Sheets that are drawn from bytes.
-/
import Derived.Test.YtefnlalldgbcaaaDrawn
import Derived.Test.YtefnlalldgbcaaaSn
namespace Go.Proofs.Ytefnlalldgbcaaa
open Go.RowKit
attribute [local irreducible] Code.wp wpList Oper.wp Calls bodyPost Exit.then Exit.inBlock

theorem one_ok (n : Int) (h1 : 1 < n) (cs : List Int) (hok : okB cs) (hlen : cs.length ≤ 1000000000) (base : Option Addr) (cap at_ : Nat) (hat : at_ ≤ 999999990) (sd : Int) (b : Nat) (w : World) (hr : RdB w base cs) (hb : w.heap[b]? = some (oSrc base cs.length cap at_ sd)) :
    CUX Try.prog 187 [.pointer (some ⟨b, 0, none⟩), .int .i64 n] w b (fun v o' => ∃ (r : Bool) (at' : Nat) (sd' : Int), v = .bool r ∧ at_ ≤ at' ∧ at' ≤ at_ + 2 ∧ o' = oSrc base cs.length cap at' sd') := by
  obtain ⟨Lk, hLk, hcode⟩ := hr.code hb
  refine enterUX Lk hLk hb Try.func187 rfl rfl rfl rfl ?_
  intro a w0 Lf st
  have hrd : ∀ {a : Act} {w : World} {E : List (Nat × Value)} {o : Obj}, St w0 Try.f187.ntmps a w E (⟨b, true, o⟩ :: (Lk ++ Lf)) → RdB w base cs := fun s => hcode _ fun e he => (s.facts e (List.mem_cons_of_mem _ (List.mem_append_left _ he))).1
  (repeat' (first | (refine o_callUX (L' := fun o' => ⟨b, true, o'⟩ :: (Lk ++ Lf)) st rfl (pick_ok n h1 cs hok hlen base cap at_ hat sd b _ (hrd st) (st.heap (by repeat constructor))) (fun o' => Upd.here) rfl ?_; clear st; rintro _ _ ⟨x, at1, sd1, rfl, hx, hx1, hx2, rfl⟩ _ _ st)  | refine c_seq ?_  | refine c_region ?_  | refine l_do ?_  | refine l_nil ?_  | refine x_then ?_  | refine wp_ret ?_  | ((first | refine o_move st rfl rfl ?_  | refine o_assign st rfl rfl ?_); clear st; intro _ st)  | (refine o_eqlI st rfl rfl rfl ?_ ?_ <;> clear st <;> intro _ _ st <;> (try (exfalso; omega)))))
  all_goals
    refine post1 st Try.results187 (rd_t st rfl) ?_
    exact ⟨_, _, rfl, ⟨_, _, sd1, rfl, hx1, hx2, rfl⟩, _, (st.fit (E' := []) trivial).subL (List.Sublist.cons_cons _ (List.sublist_append_right _ _))⟩

/-- A sheet that is drawn. -/
def DrS (v : Value) (nb : Nat) (no : Obj) : Prop := ∃ (M K : Nat) (os : List B3) (ss : List S3) (cp : Nat) (pad : List Value), v = vSh M K (some ⟨nb, 0, none⟩) os.length cp ∧ no = oS os pad ∧ os.length ≤ cp ∧ IsSL os ss ∧ (2 ≤ M ∧ M ≤ 4 ∧ 2 ≤ K ∧ K ≤ 4) ∧ ss.length = M * K ∧ (∀ s ∈ ss, is4 s)

set_option maxHeartbeats 16000000 in
theorem drawOk_ok (cs : List Int) (hok : okB cs) (hlen : cs.length ≤ 1000000000) (base : Option Addr) (cap at_ : Nat) (hat : at_ ≤ 1000) (sd : Int) (b : Nat) (w : World) (hr : RdB w base cs) (hb : w.heap[b]? = some (oSrc base cs.length cap at_ sd)) :
    CUM Try.prog 173 [.pointer (some ⟨b, 0, none⟩)] w b (fun v nb no o' => DrS v nb no ∧ ∃ (at' : Nat) (sd' : Int), o' = oSrc base cs.length cap at' sd') := by
  obtain ⟨Lk, hLk, hcode⟩ := hr.code hb
  refine enterUM Lk hLk hb Try.func173 rfl rfl rfl rfl ?_
  intro a w0 Lf st
  have hrd : ∀ {a : Act} {w : World} {E : List (Nat × Value)} {L : List Ent}, St w0 Try.f173.ntmps a w E L → List.Sublist Lk L → RdB w base cs := fun s hs => hcode _ fun e he => (s.facts e (hs.mem he)).1
  (repeat' (first | (refine o_alloc st rfl ?_; clear st; intro p2 _ _ st)  | (refine o_callUX (L' := fun o' => ⟨p2, true, _⟩ :: ⟨b, true, o'⟩ :: (Lk ++ Lf)) st rfl (pick_ok 3 (by omega) cs hok hlen base cap at_ (by omega) sd b _ (hrd st (by repeat (first | exact List.sublist_append_left _ _  | apply List.Sublist.cons))) (st.heap (by repeat constructor))) (fun o' => Upd.there Upd.here) rfl ?_; clear st; rintro _ _ ⟨x, at1, sd1, rfl, hx, hx1, hx2, rfl⟩ _ _ st)  | (refine o_callUX (L' := fun o' => ⟨p2, true, _⟩ :: ⟨b, true, o'⟩ :: (Lk ++ Lf)) st rfl (pick_ok 3 (by omega) cs hok hlen base cap at1 (by omega) sd1 b _ (hrd st (by repeat (first | exact List.sublist_append_left _ _  | apply List.Sublist.cons))) (st.heap (by repeat constructor))) (fun o' => Upd.there Upd.here) rfl ?_; clear st; rintro _ _ ⟨y, at2, sd2, rfl, hy, hy1, hy2, rfl⟩ _ _ st)  | refine c_seq ?_  | refine c_region ?_  | refine l_do ?_  | refine l_nil ?_  | refine x_then ?_  | refine x_thenR ?_  | refine wp_ret ?_  | refine wp_skip ?_  | refine c_condT st rfl ?_  | refine c_condF st rfl ?_  | ((first | refine o_move st rfl rfl ?_  | refine o_assign st rfl rfl ?_); clear st; intro _ st)  | (refine o_alloc st rfl ?_; clear st; intro _ _ _ st)  | ((first | refine o_storeW st rfl rfl (by repeat constructor) rfl rfl rfl ?_); clear st; intro _ _ st)  | ((first | refine o_build3 st rfl rfl rfl rfl rfl rfl rfl ?_  | refine o_add64 st rfl rfl rfl (by omega) (by omega) ?_ ); clear st; intro _ st)))
  obtain ⟨M, hM, hM4, eM⟩ : ∃ M : Nat, 2 ≤ M ∧ M ≤ 4 ∧ (2 : Int) + (x : Int) = (M : Int) := ⟨2 + x, by omega, by omega, by omega⟩
  obtain ⟨K, hK, hK4, eK⟩ : ∃ K : Nat, 2 ≤ K ∧ K ≤ 4 ∧ (2 : Int) + (y : Int) = (K : Int) := ⟨2 + y, by omega, by omega, by omega⟩
  rw [eM, eK] at st
  have eMK : (M : Int) * (K : Int) = ((M * K : Nat) : Int) := (Int.natCast_mul _ _).symm
  have h16 : M * K ≤ 4 * 4 := Nat.mul_le_mul hM4 hK4
  have d0 : -9223372036854775808 ≤ (M : Int) * (K : Int) := by omega
  have d1 : (M : Int) * (K : Int) ≤ 9223372036854775807 := by omega
  (repeat' (first | (refine o_callUX (L' := fun o' => ⟨p2, true, _⟩ :: ⟨b, true, o'⟩ :: (Lk ++ Lf)) st rfl (one_ok 3 (by omega) cs hok hlen base cap at2 (by omega) sd2 b _ (hrd st (by repeat (first | exact List.sublist_append_left _ _  | apply List.Sublist.cons))) (st.heap (by repeat constructor))) (fun o' => Upd.there Upd.here) rfl ?_; clear st; rintro _ _ ⟨r, at3, sd3, rfl, hr1, hr2, rfl⟩ _ _ st; cases r)  | (refine o_callSh st rfl (l04Flat_ok M K 1082130432 1073741824 _ _ (Is_lit (by decide +kernel)) (Is_lit (by decide +kernel)) hM (by omega) hK (by omega) _) rfl ?_; clear st; intro fb fs fcap fpad hF hFl hFc _ _ st)  | (refine o_mul64 st rfl rfl rfl d0 d1 ?_; clear st; intro _ st; rw [eMK] at st)  | (refine o_callUM st rfl (drawSpots_ok (M * K) (by omega) cs hok hlen base cap at3 (by omega) sd3 b _ (hrd st (by repeat (first | exact List.sublist_append_left _ _  | apply List.Sublist.cons))) (st.heap (by repeat constructor))) (fun o' => Upd.there Upd.here) rfl ?_; clear st; rintro _ nb _ _ ⟨os, ss, cp, at4, pad, sd4, rfl, rfl, hp, hI, hsl, hQ, rfl, _⟩ _ _ st)  | refine c_seq ?_  | refine c_region ?_  | refine l_do ?_  | refine l_nil ?_  | refine x_then ?_  | refine x_thenR ?_  | refine wp_ret ?_  | refine wp_skip ?_  | refine c_condT st rfl ?_  | refine c_condF st rfl ?_  | ((first | refine o_move st rfl rfl ?_  | refine o_assign st rfl rfl ?_); clear st; intro _ st)  | (refine o_alloc st rfl ?_; clear st; intro _ _ _ st)  | ((first | refine o_storeW st rfl rfl (by repeat constructor) rfl rfl rfl ?_); clear st; intro _ _ st)  | ((first | refine o_build3 st rfl rfl rfl rfl rfl rfl rfl ?_  | refine o_add64 st rfl rfl rfl (by omega) (by omega) ?_ ); clear st; intro _ st)))
  · refine post1 st Try.results173 (rd_c st rfl (by repeat constructor) rfl) ?_
    rw [List.length_append, cS_length] at hp
    exact ⟨_, nb, _, _, rfl, ⟨⟨M, K, os, ss, cp, pad, rfl, rfl, by omega, hI, ⟨hM, hM4, hK, hK4⟩, hsl, fun s hs => isQ_4 (hQ s hs)⟩, _, _, rfl⟩, _, (st.fit (E' := []) trivial).subL (List.Sublist.cons_cons _ (List.Sublist.cons _ (List.Sublist.cons_cons _ (List.sublist_append_right _ _))))⟩
  · refine post1 st Try.results173 (rd_c st rfl (by repeat constructor) rfl) ?_
    exact ⟨_, fb, _, _, rfl, ⟨⟨M, K, fs, _, fcap, fpad, rfl, rfl, hFc, hF, ⟨hM, hM4, hK, hK4⟩, by simp [flatC], flat_4 hM hM4 hK hK4⟩, _, _, rfl⟩, _, (st.fit (E' := []) trivial).subL (List.Sublist.cons_cons _ (List.Sublist.cons _ (List.Sublist.cons_cons _ (List.sublist_append_right _ _))))⟩

theorem R8Sheet_ok (cs : List Int) (hok : okB cs) (hlen : cs.length ≤ 1000000000) (base : Option Addr) (cap : Nat) (w : World) (hr : RdB w base cs) :
    CM1 Try.prog 99 [.slice base cs.length cap] w DrS := by
  refine enter Try.func99 rfl rfl rfl rfl ?_
  intro a st
  (repeat' (first | (refine o_callM1 st rfl (l00From_ok base cs.length cap _) rfl ?_; clear st; rintro _ sb _ ⟨rfl, rfl⟩ _ _ st)  | (refine o_callUM st rfl (drawOk_ok cs hok hlen base cap 0 (by omega) 0 sb _ (hr.mono st.below) (st.heap (by repeat constructor))) (fun o' => Upd.here) rfl ?_; clear st; rintro _ nb _ _ ⟨⟨M, K, os, ss, cp, pad, rfl, rfl, hcp, hI, hb, hl, h4⟩, at1, sd1, rfl⟩ _ _ st)  | refine c_seq ?_  | refine c_region ?_  | refine l_do ?_  | refine l_nil ?_  | refine x_then ?_  | refine wp_ret ?_  | ((first | refine o_move st rfl rfl ?_  | refine o_assign st rfl rfl ?_); clear st; intro _ st)  | (refine o_alloc st rfl ?_; clear st; intro _ _ _ st)  | ((first | refine o_storeW st rfl rfl (by repeat constructor) rfl rfl rfl ?_); clear st; intro _ _ st)))
  refine post1 st Try.results99 (rd_c st rfl (by repeat constructor) rfl) ?_
  exact ⟨_, nb, _, rfl, ⟨M, K, os, ss, cp, pad, rfl, rfl, hcp, hI, hb, hl, h4⟩, st.ex1 (by repeat constructor)⟩
end Go.Proofs.Ytefnlalldgbcaaa
