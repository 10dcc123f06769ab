/-
  Spots that are drawn; numbers that an input chooses.
-/
import Derived.Test.YtefnlalldgbcaaaCut
namespace Go.Proofs.Ytefnlalldgbcaaa
open Go.RowKit

section
variable {P : Program} {w0 w : World} {N : Nat} {a : Act} {E : List (Nat × Value)} {L Lh : List Ent} {K : Act → World → Prop} {Q : Exit → Act → World → Prop}
theorem enterUM {f : FuncId} {fn : Func} {c : Code} {args : List Value} {R : Value → Nat → Obj → Obj → Prop} {b : Nat} {o : Obj} (Lk : List Ent) (hLk : ∀ e ∈ Lk, e.own = false ∧ e.b ≠ b ∧ w.heap[e.b]? = some e.o) (hb0 : w.heap[b]? = some o) (hf : P.funcs[f]? = some fn) (hb : fn.body = some c) (hE : envOf 0 args = E) (hN : fn.ntmps = N) (hn : Nat.ble args.length N = true)
    (h : ∀ a w0 Lf, St w0 N a w E (⟨b, true, o⟩ :: (Lk ++ Lf)) → c.wp P (bodyPost P fn (fun e w' => ∃ v nb no o', e = .returned v ∧ R v nb no o' ∧ ∃ a', St w0 N a' w' [] (⟨nb, true, no⟩ :: ⟨b, true, o'⟩ :: Lf))) a w) : CUM P f args w b R := by
  have hlt : b < w.heap.size := (Array.getElem?_eq_some_iff.1 hb0).1
  let w1 : World := { w with heap := w.heap.extract 0 b }
  have hs1 : w1.heap.size = b := by simp [w1]; omega
  have hbel : Below w1.heap.size w1 w := by
    refine ⟨rfl, rfl, rfl, by rw [hs1]; omega, ?_⟩
    intro k hk
    rw [hs1] at hk
    show w.heap[k]? = (w.heap.extract 0 b)[k]?
    rw [Array.getElem?_extract, if_pos (by omega), Nat.zero_add]
  have hent : ∀ st0, Calls P f args.toArray w (fun e w' => ∃ v nb no o', e = .returned v ∧ R v nb no o' ∧ ∃ a', St w1 N a' w' [] (⟨nb, true, no⟩ :: ⟨b, true, o'⟩ :: others w b)) := fun st0 => calls_of_wp hf hb (h _ w1 (others w b) st0)
  have hown : ∀ e ∈ Lk ++ others w b, e.own = false ∧ e.b ≠ b ∧ w.heap[e.b]? = some e.o := fun e he => by
    rcases List.mem_append.1 he with he | he
    · exact hLk e he
    · exact mem_others he
  refine (hent ⟨?_, ?_, rfl, hbel, ?_, ?_⟩).mono ?_
  rotate_left 4
  · rintro e w' ⟨v, nb, no, o', he, hR, a', st0⟩
    have st := st0.subL (L' := ⟨b, true, o'⟩ :: others w b) (List.Sublist.cons _ (List.Sublist.refl _))
    have hnb : w.heap.size ≤ nb := by
      obtain ⟨hu, _⟩ := List.pairwise_cons.1 st0.uniq
      apply Nat.le_of_not_lt
      intro hlt2
      by_cases hk : nb = b
      · exact hu _ List.mem_cons_self (.inl rfl) hk
      · exact hu _ (List.mem_cons_of_mem _ (others_mem hlt2 hk)) (.inl rfl) rfl
    have hfact : ∀ k, k ≠ b → k < w.heap.size → w'.heap[k]? = w.heap[k]? := by
      intro k hne hk
      have := (st.facts _ (List.mem_cons_of_mem _ (others_mem hk hne))).1
      rw [this]
      simp [hk]
    have hbb := (st.facts _ List.mem_cons_self).1
    refine ⟨v, nb, no, o', he, hR, ⟨?_, ?_, ?_, ?_, ?_⟩, hfact, hbb, (st0.facts _ List.mem_cons_self).1, hnb⟩
    · exact st.below.os.trans hbel.os.symm
    · exact st.below.tape.trans hbel.tape.symm
    · exact st.below.output.trans hbel.output.symm
    · have : w.heap.size - 1 < w'.heap.size := by
        by_cases hk : w.heap.size - 1 = b
        · rw [hk]; exact (Array.getElem?_eq_some_iff.1 hbb).1
        · have h1 := hfact (w.heap.size - 1) hk (by omega)
          have h2 : w.heap[w.heap.size - 1]? = some w.heap[w.heap.size - 1] := by simp
          rw [h2] at h1
          exact (Array.getElem?_eq_some_iff.1 h1).1
      omega
    · intro k hk
      exact hfact k (by omega) (by omega)
  · intro i u hu
    subst hE
    obtain ⟨_, h2⟩ := lk_envOf args 0 i u hu
    have hi : i < args.length := by
      have := (List.getElem?_eq_some_iff.1 h2).1
      simpa using this
    simp only [Nat.sub_zero] at h2
    simp [Array.getElem?_append, hi]
    simpa [hi] using h2
  · have : args.length ≤ N := by simpa using Nat.le_of_ble_eq_true hn
    simp [hN]
    omega
  · intro e he
    rcases List.mem_cons.1 he with rfl | he
    · exact ⟨hb0, fun _ => by rw [hs1]; exact Nat.le_refl _⟩
    · have := hown e he
      exact ⟨this.2.2, fun h => by rw [this.1] at h; cases h⟩
  · refine List.pairwise_cons.2 ⟨fun e he _ => (hown e he).2.1.symm, ?_⟩
    refine List.Pairwise.imp_of_mem (R := fun _ _ => True) ?_ (List.pairwise_of_forall (fun _ _ => trivial))
    intro x y hx hy _ ho
    rcases ho with ho | ho
    · rw [(hown x hx).1] at ho; cases ho
    · rw [(hown y hy).1] at ho; cases ho
end

attribute [local irreducible] Code.wp wpList Oper.wp Calls bodyPost Exit.then Exit.inBlock

theorem isQ_of {x y z : Nat} (hx : (x : Int) < 33) (hy : (y : Int) < 33) (hz : (z : Int) < 17) : isQ (qC ((x : Int) - 16), qC ((y : Int) - 16), qC ((z : Int) - 8)) := ⟨_, _, _, rfl, by omega, by omega, by omega, by omega, by omega, by omega⟩
theorem IsSL_nilB : IsSL [] [] := ⟨rfl, by simp⟩

set_option maxRecDepth 100000 in
set_option maxHeartbeats 32000000 in
theorem drawSpots_ok (n : Nat) (hn : n ≤ 1000) (cs : List Int) (hok : okB cs) (hlen : cs.length ≤ 1000000000) (base : Option Addr) (cap at_ : Nat) (hat : at_ ≤ 1000000) (sd : Int) (b : Nat) (w : World) (hr : RdB w base cs) (hb : w.heap[b]? = some (oSrc base cs.length cap at_ sd)) :
    CUM Try.prog 124 [.pointer (some ⟨b, 0, none⟩), .int .i64 n] w b (fun v nb no o' => ∃ (os : List B3) (ss : List S3) (cp at' : Nat) (pad : List Value) (sd' : Int), v = .slice (some ⟨nb, 0, none⟩) os.length cp ∧ no = oS os pad ∧ (cS os ++ pad).length = cp * 3 ∧ IsSL os ss ∧ ss.length = n ∧ (∀ s ∈ ss, isQ s) ∧ o' = oSrc base cs.length cap at' sd' ∧ at' ≤ at_ + 6 * n) := by
  obtain ⟨Lk, hLk, hcode⟩ := hr.code hb
  refine enterUM Lk hLk hb Try.func124 rfl rfl rfl rfl ?_
  intro a w0 Lf st
  have hrd : ∀ {a : Act} {w : World} {E : List (Nat × Value)} {L : List Ent}, St w0 Try.f124.ntmps a w E L → List.Sublist Lk L → RdB w base cs := fun s hs => hcode _ fun e he => (s.facts e (hs.mem he)).1
  have e0 : (n : Int) = (n : Int) - ((0 : Nat) : Int) := by omega
  have st := st.fit (E' := [(0, .pointer (some ⟨b, 0, none⟩)), (1, .int .i64 ((n : Int) - ((0 : Nat) : Int)))]) ⟨rfl, by rw [← e0]; exact rfl, trivial⟩
  (repeat' (first | (refine o_buildSlice0S st rfl ?_; clear st; intro blk0 _ _ st)  | refine c_seq ?_  | refine c_region ?_  | refine l_do ?_  | refine l_nil ?_  | refine x_then ?_  | refine x_thenE ?_  | refine x_blkN ?_  | refine x_blkE ?_  | refine wp_ret ?_  | refine wp_skip ?_  | refine wp_block ?_  | refine wp_exit ?_  | refine c_condT st rfl ?_  | refine c_condF st rfl ?_  | ((first | refine o_move st rfl rfl ?_  | refine o_assign st rfl rfl ?_); clear st; intro _ st)  | (refine o_alloc st rfl ?_; clear st; intro _ _ _ st)  | ((first | refine o_fieldAddr st rfl rfl ?_  | refine o_load3 st rfl (by repeat constructor) rfl ?_ ); clear st; intro _ st)  | ((first | refine o_storeS st rfl rfl rfl (by repeat constructor) rfl (by dsimp only [List.set]) ?_  | refine o_storeW st rfl rfl (by repeat constructor) rfl rfl rfl ?_); clear st; intro _ _ st)  | ((first | refine o_sub64 st rfl rfl rfl (by omega) (by omega) ?_); clear st; intro _ st)  | (refine o_fop rfl st rfl rfl (by first | assumption | exact Is_ofInt _ _ | exact Is_lit (by decide +kernel)) (by first | assumption | exact Is_ofInt _ _ | exact Is_lit (by decide +kernel)) rfl ?_; clear st; intro _ _ _ _ st)  | ((first | refine o_intFloat st rfl rfl ?_); clear st; intro _ st)  | (refine o_gtr st rfl rfl rfl ?_ ?_ <;> clear st <;> intro _ _ st <;> (try (exfalso; omega)))))
  refine wp_loop_ghost (fun z a w' => ∃ (k blk cp at' : Nat) (sd' : Int) (os : List B3) (ss : List S3) (pad : List Value), k ≤ n ∧ z = n - k ∧ IsSL os ss ∧ ss.length = k ∧ (∀ s ∈ ss, isQ s) ∧ (cS os ++ pad).length = cp * 3 ∧ at' ≤ at_ + 6 * k ∧ St w0 Try.f124.ntmps a w' [(0, .pointer (some ⟨b, 0, none⟩)), (1, .int .i64 ((n : Int) - (k : Int))), (5, .slice (some ⟨blk, 0, none⟩) os.length cp)] (⟨blk, true, oS os pad⟩ :: ⟨b, true, oSrc base cs.length cap at' sd'⟩ :: (Lk ++ Lf))) n ⟨0, blk0, 0, at_, sd, [], [], [], by omega, by omega, IsSL_nilB, rfl, by simp, rfl, by omega, st.fit (by repeat (first | exact trivial  | refine And.intro rfl ?_))⟩ ?_
  clear st
  rintro z a w' ⟨k, blk, cp, at', sd', os, ss, pad, hk, rfl, hI, hsl, hQ, hp, hat', st⟩
  have hol := hI.len
  by_cases hlt : k < n
  · (repeat' (first | (refine o_callUX (L' := fun o' => ⟨blk, true, oS os pad⟩ :: ⟨b, true, o'⟩ :: (Lk ++ Lf)) st rfl (pick_ok 33 (by omega) cs hok hlen base cap at' (by omega) sd' b _ (hrd st (by repeat (first | exact List.sublist_append_left _ _  | apply List.Sublist.cons))) (st.heap (by repeat constructor))) (fun o' => Upd.there Upd.here) rfl ?_; clear st; rintro _ _ ⟨x, at1, sd1, rfl, hx, hax, hax2, rfl⟩ _ _ st)  | (refine o_fop (ci := some (floatOfInt .f32 ((x : Int) - 16))) rfl st rfl rfl (Is_ofInt _ _) (Is_lit (by decide +kernel)) rfl ?_; clear st; intro rx _ _ hrx st)  | (refine o_build1 st rfl rfl rfl ?_; clear st; intro _ st)  | (refine o_alloc st rfl ?_; clear st; intro pp _ _ st)  | (refine o_callUX (L' := fun o' => ⟨pp, true, _⟩ :: ⟨blk, true, oS os pad⟩ :: ⟨b, true, o'⟩ :: (Lk ++ Lf)) st rfl (pick_ok 33 (by omega) cs hok hlen base cap at1 (by omega) sd1 b _ (hrd st (by repeat (first | exact List.sublist_append_left _ _  | apply List.Sublist.cons))) (st.heap (by repeat constructor))) (fun o' => Upd.there (Upd.there Upd.here)) rfl ?_; clear st; rintro _ _ ⟨y, at2, sd2, rfl, hy, hay, hay2, rfl⟩ _ _ st)  | (refine o_fop (ci := some (floatOfInt .f32 ((y : Int) - 16))) rfl st rfl rfl (Is_ofInt _ _) (Is_lit (by decide +kernel)) rfl ?_; clear st; intro ry _ _ hry st)  | (refine o_callUX (L' := fun o' => ⟨pp, true, _⟩ :: ⟨blk, true, oS os pad⟩ :: ⟨b, true, o'⟩ :: (Lk ++ Lf)) st rfl (pick_ok 17 (by omega) cs hok hlen base cap at2 (by omega) sd2 b _ (hrd st (by repeat (first | exact List.sublist_append_left _ _  | apply List.Sublist.cons))) (st.heap (by repeat constructor))) (fun o' => Upd.there (Upd.there Upd.here)) rfl ?_; clear st; rintro _ _ ⟨q, at3, sd3, rfl, hq, haq, haq2, rfl⟩ _ _ st)  | (refine o_fop (ci := some (floatOfInt .f32 ((q : Int) - 8))) rfl st rfl rfl (Is_ofInt _ _) (Is_lit (by decide +kernel)) rfl ?_; clear st; intro rq _ _ hrq st)  | (refine o_buildSliceS [(rx, ry, rq)] st rfl rfl rfl rfl rfl ?_; clear st; intro _ _ _ st)  | (refine o_append1 rfl st rfl rfl (by repeat constructor) (by repeat constructor) hp (by omega) rfl ?_; clear st; intro blk1 cap1 pad1 _ _ hp1 st)  | refine c_seq ?_  | refine c_region ?_  | refine l_do ?_  | refine l_nil ?_  | refine x_then ?_  | refine x_thenE ?_  | refine x_blkN ?_  | refine x_blkE ?_  | refine wp_ret ?_  | refine wp_skip ?_  | refine wp_block ?_  | refine wp_exit ?_  | refine c_condT st rfl ?_  | refine c_condF st rfl ?_  | ((first | refine o_move st rfl rfl ?_  | refine o_assign st rfl rfl ?_); clear st; intro _ st)  | (refine o_alloc st rfl ?_; clear st; intro _ _ _ st)  | ((first | refine o_fieldAddr st rfl rfl ?_  | refine o_load3 st rfl (by repeat constructor) rfl ?_ ); clear st; intro _ st)  | ((first | refine o_storeS st rfl rfl rfl (by repeat constructor) rfl (by dsimp only [List.set]) ?_  | refine o_storeW st rfl rfl (by repeat constructor) rfl rfl rfl ?_); clear st; intro _ _ st)  | ((first | refine o_sub64 st rfl rfl rfl (by omega) (by omega) ?_); clear st; intro _ st)  | (refine o_fop rfl st rfl rfl (by first | assumption | exact Is_ofInt _ _ | exact Is_lit (by decide +kernel)) (by first | assumption | exact Is_ofInt _ _ | exact Is_lit (by decide +kernel)) rfl ?_; clear st; intro _ _ _ _ st)  | ((first | refine o_intFloat st rfl rfl ?_); clear st; intro _ st)  | (refine o_gtr st rfl rfl rfl ?_ ?_ <;> clear st <;> intro _ _ st <;> (try (exfalso; omega)))))
    have e1 : (n : Int) - (k : Int) - 1 = (n : Int) - ((k + 1 : Nat) : Int) := by omega
    rw [e1] at st
    have hS : IsS (rx, ry, rq) (qC ((x : Int) - 16), qC ((y : Int) - 16), qC ((q : Int) - 8)) := ⟨hrx, hry, hrq⟩
    refine ⟨n - (k + 1), by omega, k + 1, blk1, cap1, at3, sd3, os ++ [(rx, ry, rq)], ss ++ [(qC ((x : Int) - 16), qC ((y : Int) - 16), qC ((q : Int) - 8))], pad1, by omega, rfl, hI.push hS, by simp [hsl], ?_, hp1, by omega, (st.fit (by repeat (first | exact trivial  | refine And.intro rfl ?_))).subL (by repeat (first | exact List.Sublist.refl _  | apply List.Sublist.cons_cons  | apply List.Sublist.cons  | exact List.nil_sublist _))⟩
    intro s hs
    rcases List.mem_append.1 hs with hs | hs
    · exact hQ s hs
    · simp only [List.mem_singleton] at hs
      subst hs
      exact isQ_of hx hy hq
  · have hkn : k = n := by omega
    subst hkn
    (repeat' (first | refine c_seq ?_  | refine c_region ?_  | refine l_do ?_  | refine l_nil ?_  | refine x_then ?_  | refine x_thenE ?_  | refine x_blkN ?_  | refine x_blkE ?_  | refine wp_ret ?_  | refine wp_skip ?_  | refine wp_block ?_  | refine wp_exit ?_  | refine c_condT st rfl ?_  | refine c_condF st rfl ?_  | ((first | refine o_move st rfl rfl ?_  | refine o_assign st rfl rfl ?_); clear st; intro _ st)  | (refine o_alloc st rfl ?_; clear st; intro _ _ _ st)  | ((first | refine o_fieldAddr st rfl rfl ?_  | refine o_load3 st rfl (by repeat constructor) rfl ?_ ); clear st; intro _ st)  | ((first | refine o_storeS st rfl rfl rfl (by repeat constructor) rfl (by dsimp only [List.set]) ?_  | refine o_storeW st rfl rfl (by repeat constructor) rfl rfl rfl ?_); clear st; intro _ _ st)  | ((first | refine o_sub64 st rfl rfl rfl (by omega) (by omega) ?_); clear st; intro _ st)  | (refine o_fop rfl st rfl rfl (by first | assumption | exact Is_ofInt _ _ | exact Is_lit (by decide +kernel)) (by first | assumption | exact Is_ofInt _ _ | exact Is_lit (by decide +kernel)) rfl ?_; clear st; intro _ _ _ _ st)  | ((first | refine o_intFloat st rfl rfl ?_); clear st; intro _ st)  | (refine o_gtr st rfl rfl rfl ?_ ?_ <;> clear st <;> intro _ _ st <;> (try (exfalso; omega)))))
    refine post1 st Try.results124 (rd_t st rfl) ?_
    exact ⟨_, blk, _, _, rfl, ⟨os, ss, cp, at', pad, sd', rfl, rfl, hp, hI, hsl, hQ, rfl, by omega⟩, _, (st.fit (E' := []) trivial).subL (List.Sublist.cons_cons _ (List.Sublist.cons_cons _ (List.sublist_append_right _ _)))⟩

theorem l00From_ok (base : Option Addr) (n cap : Nat) (w : World) : CM1 Try.prog 123 [.slice base n cap] w fun v b o => v = .pointer (some ⟨b, 0, none⟩) ∧ o = oSrc base n cap 0 0 := by
  refine enter Try.func123 rfl rfl rfl rfl ?_
  intro a st
  (repeat' (first | (refine o_build1 st rfl rfl rfl ?_; clear st; intro _ st)  | refine c_seq ?_  | refine c_region ?_  | refine l_do ?_  | refine l_nil ?_  | refine x_then ?_  | refine wp_ret ?_  | ((first | refine o_move st rfl rfl ?_  | refine o_assign st rfl rfl ?_); clear st; intro _ st)  | ((first | refine o_boxA st rfl rfl ?_ ); clear st; intro _ _ _ st) ))
  refine post1 st Try.results123 (rd_t st rfl) ?_
  exact ⟨_, _, _, rfl, ⟨rfl, rfl⟩, st.ex1 (by repeat constructor)⟩
/-- Spots that are drawn from bytes. -/
theorem R8Spots_ok (n : Nat) (hn : n ≤ 1000) (cs : List Int) (hok : okB cs) (hlen : cs.length ≤ 1000000000) (base : Option Addr) (cap : Nat) (w : World) (hr : RdB w base cs) :
    CM1 Try.prog 57 [.slice base cs.length cap, .int .i64 n] w fun v b o => ∃ (os : List B3) (ss : List S3) (cp : Nat) (pad : List Value), v = .slice (some ⟨b, 0, none⟩) os.length cp ∧ o = oS os pad ∧ os.length ≤ cp ∧ IsSL os ss ∧ ss.length = n ∧ (∀ s ∈ ss, isQ s) := by
  refine enter Try.func57 rfl rfl rfl rfl ?_
  intro a st
  (repeat' (first | (refine o_callM1 st rfl (l00From_ok base cs.length cap _) rfl ?_; clear st; rintro _ sb _ ⟨rfl, rfl⟩ _ _ st)  | (refine o_callUM st rfl (drawSpots_ok n hn cs hok hlen base cap 0 (by omega) 0 sb _ (hr.mono st.below) (st.heap (by repeat constructor))) (fun o' => Upd.here) rfl ?_; clear st; rintro _ nb _ _ ⟨os, ss, cp, at1, pad, sd1, rfl, rfl, hp, hI, hsl, hQ, rfl, _⟩ _ _ st)  | refine c_seq ?_  | refine c_region ?_  | refine l_do ?_  | refine l_nil ?_  | refine x_then ?_  | refine wp_ret ?_  | ((first | refine o_move st rfl rfl ?_  | refine o_assign st rfl rfl ?_); clear st; intro _ st)))
  refine post1 st Try.results57 (rd_t st rfl) ?_
  refine ⟨_, nb, _, rfl, ⟨os, ss, cp, pad, rfl, rfl, ?_, hI, hsl, hQ⟩, st.ex1 (by repeat constructor)⟩
  rw [List.length_append, cS_length] at hp
  omega

/-! ## numbers that an input chooses -/
theorem r8Long_ok (n m cap cap' : Nat) (base base' : Option Addr) (hn : n ≤ 9223372036854775807) (hm : m ≤ 9223372036854775807) (w : World) : CV Try.prog 55 [.slice base n cap, .slice base' m cap'] w (.bool (decide (48 < n) || decide (48 < m))) := by
  refine enter Try.func55 rfl rfl rfl rfl ?_
  intro a st
  by_cases h1 : 48 < n
  · (repeat' (first | refine c_seq ?_  | refine c_region ?_  | refine l_do ?_  | refine l_doG st rfl rfl ?_  | ((first | refine l_skip st rfl rfl rfl rfl ?_); clear st; intro _ st)  | refine l_nil ?_  | refine x_then ?_  | refine wp_ret ?_  | ((first | refine o_move st rfl rfl ?_  | refine o_assign st rfl rfl ?_  | refine o_pickT st rfl rfl rfl ?_  | refine o_pickF st rfl rfl rfl ?_  | refine o_len st rfl rfl ?_); clear st; intro _ st)  | (refine o_gtr st rfl rfl rfl ?_ ?_ <;> clear st <;> intro _ _ st <;> (try (exfalso; omega)))))
    refine post1 st Try.results55 (rd_t st rfl) ?_
    exact ⟨by simp [h1], st.ex0⟩
  · by_cases h2 : 48 < m
    · (repeat' (first | refine c_seq ?_  | refine c_region ?_  | refine l_do ?_  | refine l_doG st rfl rfl ?_  | ((first | refine l_skip st rfl rfl rfl rfl ?_); clear st; intro _ st)  | refine l_nil ?_  | refine x_then ?_  | refine wp_ret ?_  | ((first | refine o_move st rfl rfl ?_  | refine o_assign st rfl rfl ?_  | refine o_pickT st rfl rfl rfl ?_  | refine o_pickF st rfl rfl rfl ?_  | refine o_len st rfl rfl ?_); clear st; intro _ st)  | (refine o_gtr st rfl rfl rfl ?_ ?_ <;> clear st <;> intro _ _ st <;> (try (exfalso; omega)))))
      refine post1 st Try.results55 (rd_t st rfl) ?_
      exact ⟨by simp [h2], st.ex0⟩
    · (repeat' (first | refine c_seq ?_  | refine c_region ?_  | refine l_do ?_  | refine l_doG st rfl rfl ?_  | ((first | refine l_skip st rfl rfl rfl rfl ?_); clear st; intro _ st)  | refine l_nil ?_  | refine x_then ?_  | refine wp_ret ?_  | ((first | refine o_move st rfl rfl ?_  | refine o_assign st rfl rfl ?_  | refine o_pickT st rfl rfl rfl ?_  | refine o_pickF st rfl rfl rfl ?_  | refine o_len st rfl rfl ?_); clear st; intro _ st)  | (refine o_gtr st rfl rfl rfl ?_ ?_ <;> clear st <;> intro _ _ st <;> (try (exfalso; omega)))))
      refine post1 st Try.results55 (rd_t st rfl) ?_
      exact ⟨by simp [h1, h2], st.ex0⟩
theorem r8At_ok (cs : List Int) (hok : okB cs) (hlen : cs.length ≤ 1000000000) (base : Option Addr) (cap k : Nat) (n : Int) (h1 : 1 < n) (w : World) (hr : RdB w base cs) : CR Try.prog 56 [.slice base cs.length cap, .int .i64 k, .int .i64 n] w fun v => ∃ x : Nat, v = .int .i64 x ∧ (x : Int) < n := by
  refine enter Try.func56 rfl rfl rfl rfl ?_
  intro a st
  by_cases hlt : k < cs.length
  · rcases id hr with rfl | ⟨blk, off, arr, t, fr, rfl, hw, h3⟩
    · simp at hlt
    have st := st.addOld hw
    have hv := h3 k _ (List.getElem?_eq_getElem hlt)
    have hc := hok _ (List.getElem_mem hlt)
    obtain ⟨c, hcc⟩ : ∃ c : Nat, cs[k] = (c : Int) := ⟨cs[k].toNat, by omega⟩
    rw [hcc] at hv hc
    have e1 : off + k = off + ((k : Nat) : Int).toNat * 1 := by simp
    rw [e1] at hv
    have ew : IntKind.i64.wrap ((c : Nat) : Int) = (c : Int) := by rw [IntKind.wrap_i64]; omega
    (repeat' (first | (refine o_indexAddr st rfl rfl (by omega) (by omega) rfl ?_; clear st; intro _ st)  | (refine o_loadS st rfl (by repeat constructor) hv rfl ?_; clear st; intro _ st)  | (refine o_intInt st rfl ew rfl ?_; clear st; intro _ st)  | (refine o_rem64I st rfl rfl (by omega) rfl ?_; clear st; intro r _ hr' st)  | refine c_seq ?_  | refine c_region ?_  | refine l_do ?_  | refine l_doG st rfl rfl ?_  | refine l_nil ?_  | refine x_then ?_  | refine x_thenR ?_  | refine wp_ret ?_  | refine wp_skip ?_  | refine c_condT st rfl ?_  | refine c_condF st rfl ?_  | ((first | refine o_move st rfl rfl ?_  | refine o_assign st rfl rfl ?_  | refine o_pickF st rfl rfl rfl ?_  | refine o_loadS st rfl (by repeat constructor) rfl rfl ?_  | refine o_len st rfl rfl ?_ ); clear st; intro _ st)  | ((first | refine o_leq st rfl rfl rfl ?_ ?_  | refine o_geq st rfl rfl rfl ?_ ?_) <;> clear st <;> intro _ _ st <;> (try (exfalso; omega)))))
    refine post1 st Try.results56 (rd_t st rfl) ?_
    exact ⟨_, rfl, ⟨r, rfl, hr'⟩, st.ex0⟩
  · (repeat' (first | refine c_seq ?_  | refine c_region ?_  | refine l_do ?_  | refine l_doG st rfl rfl ?_  | refine l_nil ?_  | refine x_then ?_  | refine x_thenR ?_  | refine wp_ret ?_  | refine wp_skip ?_  | refine c_condT st rfl ?_  | refine c_condF st rfl ?_  | ((first | refine o_move st rfl rfl ?_  | refine o_assign st rfl rfl ?_  | refine o_pickF st rfl rfl rfl ?_  | refine o_loadS st rfl (by repeat constructor) rfl rfl ?_  | refine o_len st rfl rfl ?_ ); clear st; intro _ st)  | ((first | refine o_leq st rfl rfl rfl ?_ ?_  | refine o_geq st rfl rfl rfl ?_ ?_) <;> clear st <;> intro _ _ st <;> (try (exfalso; omega)))))
    refine post1 st Try.results56 (rd_t st rfl) ?_
    exact ⟨_, rfl, ⟨0, rfl, by omega⟩, st.ex0⟩
end Go.Proofs.Ytefnlalldgbcaaa
