/-
  FnNumbers: a number out of a text; lists out of texts (walks).
-/
import Derived.Test.YtclgplbikjmopaaGreatDoorDw
namespace Go.Proofs.YtclgplbikjmopaaGreatDoor
open Go.RowKit
set_option maxRecDepth 100000

theorem sParseUint_ok (n : Nat) (hn : n < 4294967296) (w : World) : CV Tryz.prog 49 [sV (hex8 n), .int .i64 16, .int .i64 32] w (.tuple #[.int .u64 (n : Int), .nilIface]) := by
  have hc : ∀ w, Calls Tryz.prog 61 #[sV (hex8 n), .int .i64 16, .int .i64 32] w fun e w' => e = .returned (.tuple #[.int .u64 (n : Int), .nilIface]) ∧ Ex w w' [] := fun w => ParseUint_ok n hn w
  show Calls Tryz.prog 49 #[sV (hex8 n), .int .i64 16, .int .i64 32] w fun e w' => e = .returned (.tuple #[.int .u64 (n : Int), .nilIface]) ∧ Ex w w' []
  go_enter Tryz.func49, Tryz.ntmps49
  go_wp2_with (go_at_call 61; refine (hc _).mono ?_; rintro e W1 ⟨rfl, hW⟩)
  go_ret2
  exact ⟨rfl, hW⟩
attribute [local irreducible] Code.wp wpList Oper.wp Calls bodyPost Exit.then Exit.inBlock
theorem readHex_ok (n : Nat) (hn : n < 4294967296) (w : World) : CV Tryz.prog 33 [sV (hex8 n)] w (vF n) := by
  refine enter Tryz.func33 rfl rfl rfl rfl ?_
  intro a st
  (repeat' (first | (refine o_callV st rfl (sParseUint_ok n hn _) rfl ?_; clear st; intro _ _ st) | (refine o_intInt (k := .u32) st rfl (wrap_u32 (by omega) (by omega)) rfl ?_; clear st; intro _ st) | (refine o_extV st rfl (ext_from32 _ _) rfl ?_; clear st; intro _ st) | refine c_seq ?_ | refine c_region ?_ | refine l_do ?_ | refine l_nil ?_ | refine x_then ?_ | refine x_thenR ?_ | refine x_thenE ?_ | refine wp_ret ?_ | ((first | refine o_move st rfl rfl ?_ | refine o_assign st rfl rfl ?_ | refine o_extract st rfl rfl rfl ?_ | refine o_fcv0 st rfl rfl ?_ | refine o_intFloat st rfl rfl ?_); clear st; intro _ st)))
  refine post1 st Tryz.results33 (rd_t st rfl) ?_
  exact ⟨rfl, st.ex0⟩
theorem hex8_len (n : Nat) : (hex8 n).length = 8 := fx_length 8 n
theorem nbs {ns : List Nat} (h : ∀ n ∈ ns, nb n = n) : ns.map nb = ns := by
  induction ns with
  | nil => rfl
  | cons n ns ih => rw [List.map_cons, h n List.mem_cons_self, ih fun x hx => h x (List.mem_cons_of_mem _ hx)]
theorem beq_text (l : List UInt8) : (!(l == l)) = false := by simp
/-- The list that a call gives back beside a sign. -/
abbrev OutL (ns : List Nat) (v : Value) (b : Nat) (o : Obj) : Prop := ∃ cp pad, v = .tuple #[.slice (some ⟨b, 0, none⟩) ns.length cp, .bool true] ∧ o = oV 24 (ns.map vF) pad
theorem ReadNone_ok (w : World) (hT : Tab w) : CM1 Tryz.prog 13 [sV [110, 111, 110, 101]] w (OutL []) := by
  have hx0 : okW [] := by intro x hx; cases hx
  refine enter Tryz.func13 rfl rfl rfl rfl ?_
  intro a st
  (repeat' (first | (refine o_buildSlice0 st rfl ?_; clear st; intro blk0 _ _ st) | (refine o_callV st rfl (piecesNone_ok _) rfl ?_; clear st; intro _ _ st) | refine c_seq ?_ | refine c_region ?_ | refine l_do ?_ | refine l_doG st rfl rfl ?_ | ((first | refine l_skipU st rfl rfl rfl ?_ | refine l_skip st rfl rfl rfl rfl ?_); clear st; intro _ st) | refine l_nil ?_ | refine x_then ?_ | refine x_thenR ?_ | refine x_thenE ?_ | refine x_blkN ?_ | refine x_blkR ?_ | refine x_blkE ?_ | refine x_blkO rfl ?_ | refine wp_ret ?_ | refine wp_skip ?_ | refine wp_block ?_ | refine wp_exit ?_ | refine c_condT st rfl ?_ | refine c_condF st rfl ?_ | ((first | refine o_move st rfl rfl ?_ | refine o_assign st rfl rfl ?_ | refine o_pickT st rfl rfl rfl ?_ | refine o_pickF st rfl rfl rfl ?_ | refine o_loadS st rfl (by repeat constructor) rfl rfl ?_ | refine o_load3 st rfl (by repeat constructor) rfl ?_ | refine o_load2 st rfl (by repeat constructor) rfl ?_ | refine o_load4 st rfl (by repeat constructor) rfl ?_ | refine o_extract st rfl rfl rfl ?_ | refine o_len st rfl rfl ?_ | refine o_add64 st rfl rfl rfl (by omega) (by omega) ?_ | refine o_notT st rfl rfl ?_ | refine o_notF st rfl rfl ?_); clear st; intro _ st) | ((first | refine o_lss st rfl rfl rfl ?_ ?_ | refine o_eqlI st rfl rfl rfl ?_ ?_ | refine o_neqI st rfl rfl rfl ?_ ?_) <;> clear st <;> intro _ _ st <;> (try (exfalso; omega)))))
  refine wp_loop_ghost (fun z a w' => z = 0 ∧ St w Tryz.f13.ntmps a w' [(0, sV [110, 111, 110, 101]), (4, .slice (some ⟨blk0, 0, none⟩) (([] : List Nat)).length 0), (11, .slice none 0 0), (12, .int .i64 (0 : Nat)), (13, .int .i64 0)] [⟨blk0, true, oV 24 (([] : List Nat).map vF) []⟩]) 0 ⟨rfl, st.fit (by repeat (first | exact trivial | refine And.intro rfl ?_))⟩ ?_
  clear st
  rintro z a w' ⟨rfl, st⟩
  (repeat' (first | (refine o_callV st rfl (NumbersText_ok [] hx0 (by decide) _ _ _ _ (st.heap (by repeat constructor)) (hT.mono st.below)) rfl ?_; clear st; intro _ _ st) | (refine o_neqS (l := [110, 111, 110, 101]) (m := [110, 111, 110, 101]) (r := false) st rfl rfl rfl rfl ?_; clear st; intro _ st) | refine c_seq ?_ | refine c_region ?_ | refine l_do ?_ | refine l_doG st rfl rfl ?_ | ((first | refine l_skipU st rfl rfl rfl ?_ | refine l_skip st rfl rfl rfl rfl ?_); clear st; intro _ st) | refine l_nil ?_ | refine x_then ?_ | refine x_thenR ?_ | refine x_thenE ?_ | refine x_blkN ?_ | refine x_blkR ?_ | refine x_blkE ?_ | refine x_blkO rfl ?_ | refine wp_ret ?_ | refine wp_skip ?_ | refine wp_block ?_ | refine wp_exit ?_ | refine c_condT st rfl ?_ | refine c_condF st rfl ?_ | ((first | refine o_move st rfl rfl ?_ | refine o_assign st rfl rfl ?_ | refine o_pickT st rfl rfl rfl ?_ | refine o_pickF st rfl rfl rfl ?_ | refine o_loadS st rfl (by repeat constructor) rfl rfl ?_ | refine o_load3 st rfl (by repeat constructor) rfl ?_ | refine o_load2 st rfl (by repeat constructor) rfl ?_ | refine o_load4 st rfl (by repeat constructor) rfl ?_ | refine o_extract st rfl rfl rfl ?_ | refine o_len st rfl rfl ?_ | refine o_add64 st rfl rfl rfl (by omega) (by omega) ?_ | refine o_notT st rfl rfl ?_ | refine o_notF st rfl rfl ?_); clear st; intro _ st) | ((first | refine o_lss st rfl rfl rfl ?_ ?_ | refine o_eqlI st rfl rfl rfl ?_ ?_ | refine o_neqI st rfl rfl rfl ?_ ?_) <;> clear st <;> intro _ _ st <;> (try (exfalso; omega)))))
  refine post2 st Tryz.results13 (rd_t st rfl) (rd_t st rfl) ?_
  exact ⟨_, blk0, _, rfl, ⟨0, [], rfl, rfl⟩, st.ex1 (by repeat constructor)⟩
set_option maxHeartbeats 16000000 in
theorem ReadSome_ok (n : Nat) (ns : List Nat) (hl : (n :: ns).length ≤ 200) (hx : okW (n :: ns)) (hn : ∀ x ∈ n :: ns, nb x = x) (w : World) (hT : Tab w) : CM1 Tryz.prog 13 [sV (textOf (n :: ns))] w (OutL (n :: ns)) := by
  have hp := pieces_ok n ns (by rw [List.length_cons] at hl; omega)
  have hnb := nbs hn
  generalize hq : n :: ns = xs at *
  refine enter Tryz.func13 rfl rfl rfl rfl ?_
  intro a st
  (repeat' (first | (refine o_buildSlice0 st rfl ?_; clear st; intro blk0 _ _ st) | (refine o_callM1 st rfl (hp _) rfl ?_; clear st; rintro _ pb _ ⟨rfl, rfl⟩ _ _ st) | refine c_seq ?_ | refine c_region ?_ | refine l_do ?_ | refine l_doG st rfl rfl ?_ | ((first | refine l_skipU st rfl rfl rfl ?_ | refine l_skip st rfl rfl rfl rfl ?_); clear st; intro _ st) | refine l_nil ?_ | refine x_then ?_ | refine x_thenR ?_ | refine x_thenE ?_ | refine x_blkN ?_ | refine x_blkR ?_ | refine x_blkE ?_ | refine x_blkO rfl ?_ | refine wp_ret ?_ | refine wp_skip ?_ | refine wp_block ?_ | refine wp_exit ?_ | refine c_condT st rfl ?_ | refine c_condF st rfl ?_ | ((first | refine o_move st rfl rfl ?_ | refine o_assign st rfl rfl ?_ | refine o_pickT st rfl rfl rfl ?_ | refine o_pickF st rfl rfl rfl ?_ | refine o_loadS st rfl (by repeat constructor) rfl rfl ?_ | refine o_load3 st rfl (by repeat constructor) rfl ?_ | refine o_load2 st rfl (by repeat constructor) rfl ?_ | refine o_load4 st rfl (by repeat constructor) rfl ?_ | refine o_extract st rfl rfl rfl ?_ | refine o_len st rfl rfl ?_ | refine o_add64 st rfl rfl rfl (by omega) (by omega) ?_ | refine o_notT st rfl rfl ?_ | refine o_notF st rfl rfl ?_); clear st; intro _ st) | ((first | refine o_lss st rfl rfl rfl ?_ ?_ | refine o_eqlI st rfl rfl rfl ?_ ?_ | refine o_neqI st rfl rfl rfl ?_ ?_) <;> clear st <;> intro _ _ st <;> (try (exfalso; omega)))))
  refine wp_loop_ghost (fun z a w' => ∃ (i tb cp : Nat) (tp : List Value), i ≤ xs.length ∧ z = xs.length - i ∧ ((xs.take i).map vF ++ tp).length = cp ∧ St w Tryz.f13.ntmps a w' [(0, sV (textOf xs)), (4, .slice (some ⟨tb, 0, none⟩) i cp), (11, .slice (some ⟨pb, 0, none⟩) xs.length xs.length), (12, .int .i64 (xs.length : Nat)), (13, .int .i64 (i : Nat))] [⟨tb, true, oV 24 ((xs.take i).map vF) tp⟩, ⟨pb, true, oV 9 ((xs.map hex8).map sV) []⟩]) xs.length ⟨0, blk0, 0, [], by omega, by omega, rfl, st.swap2.fit (by repeat (first | exact trivial | refine And.intro rfl ?_))⟩ ?_
  clear st
  rintro z a w' ⟨i, tb, cp, tp, hi, rfl, hpp, st⟩
  by_cases hlt : i < xs.length
  · have hg : ((xs.map hex8).map sV ++ []).toArray[0 + ((i : Nat) : Int).toNat * 1]? = some (sV (hex8 xs[i])) := by
      have h' : i < ((xs.map hex8).map sV).length := by rw [List.length_map, List.length_map]; exact hlt
      rw [oV_get h', List.getElem_map, List.getElem_map]
    have hw : xs[i] < 4294967296 := hx _ (List.getElem_mem hlt)
    have hlen : ((xs.take i).map vF).length = i := by rw [List.length_map, List.length_take]; omega
    (repeat' (first | (refine o_indexAddr st rfl rfl (by omega) (by omega) rfl ?_; clear st; intro _ st) | (refine o_loadS st rfl (by repeat constructor) hg rfl ?_; clear st; intro _ st) | (refine o_lenS st rfl rfl ?_; clear st; intro _ st; rw [hex8_len] at st) | (refine o_callV st rfl (readHex_ok _ hw _) rfl ?_; clear st; intro _ _ st) | (refine o_buildSlice st rfl rfl rfl rfl rfl rfl ?_; clear st; intro _ _ _ st) | (refine o_append1V rfl st rfl rfl (by repeat constructor) (by repeat constructor) hlen hpp rfl (by omega) rfl ?_; clear st; intro blk1 cap1 pad1 _ _ hp1 st) | refine c_seq ?_ | refine c_region ?_ | refine l_do ?_ | refine l_doG st rfl rfl ?_ | ((first | refine l_skipU st rfl rfl rfl ?_ | refine l_skip st rfl rfl rfl rfl ?_); clear st; intro _ st) | refine l_nil ?_ | refine x_then ?_ | refine x_thenR ?_ | refine x_thenE ?_ | refine x_blkN ?_ | refine x_blkR ?_ | refine x_blkE ?_ | refine x_blkO rfl ?_ | refine wp_ret ?_ | refine wp_skip ?_ | refine wp_block ?_ | refine wp_exit ?_ | refine c_condT st rfl ?_ | refine c_condF st rfl ?_ | ((first | refine o_move st rfl rfl ?_ | refine o_assign st rfl rfl ?_ | refine o_pickT st rfl rfl rfl ?_ | refine o_pickF st rfl rfl rfl ?_ | refine o_loadS st rfl (by repeat constructor) rfl rfl ?_ | refine o_load3 st rfl (by repeat constructor) rfl ?_ | refine o_load2 st rfl (by repeat constructor) rfl ?_ | refine o_load4 st rfl (by repeat constructor) rfl ?_ | refine o_extract st rfl rfl rfl ?_ | refine o_len st rfl rfl ?_ | refine o_add64 st rfl rfl rfl (by omega) (by omega) ?_ | refine o_notT st rfl rfl ?_ | refine o_notF st rfl rfl ?_); clear st; intro _ st) | ((first | refine o_lss st rfl rfl rfl ?_ ?_ | refine o_eqlI st rfl rfl rfl ?_ ?_ | refine o_neqI st rfl rfl rfl ?_ ?_) <;> clear st <;> intro _ _ st <;> (try (exfalso; omega)))))
    have e1 : (xs.take i).map vF ++ [vF xs[i]] = (xs.take (i + 1)).map vF := by
      rw [List.take_succ_eq_append_getElem hlt, List.map_append]
      rfl
    rw [e1] at hp1 st
    exact ⟨xs.length - (i + 1), by omega, i + 1, blk1, cap1, pad1, by omega, rfl, hp1, (st.fit (by repeat (first | exact trivial | refine And.intro rfl ?_))).subL (by repeat (first | exact List.Sublist.refl _ | apply List.Sublist.cons_cons | apply List.Sublist.cons | exact List.nil_sublist _))⟩
  · obtain rfl : i = xs.length := by omega
    rw [List.take_length] at hpp st
    have c1 := fun w hb hT => NumbersText_ok xs hx (by omega) tb cp tp w hb hT
    rw [hnb] at c1
    (repeat' (first | (refine o_callV st rfl (c1 _ (st.heap (by repeat constructor)) (hT.mono st.below)) rfl ?_; clear st; intro _ _ st) | (refine o_neqS st rfl rfl (beq_text _) rfl ?_; clear st; intro _ st) | refine c_seq ?_ | refine c_region ?_ | refine l_do ?_ | refine l_doG st rfl rfl ?_ | ((first | refine l_skipU st rfl rfl rfl ?_ | refine l_skip st rfl rfl rfl rfl ?_); clear st; intro _ st) | refine l_nil ?_ | refine x_then ?_ | refine x_thenR ?_ | refine x_thenE ?_ | refine x_blkN ?_ | refine x_blkR ?_ | refine x_blkE ?_ | refine x_blkO rfl ?_ | refine wp_ret ?_ | refine wp_skip ?_ | refine wp_block ?_ | refine wp_exit ?_ | refine c_condT st rfl ?_ | refine c_condF st rfl ?_ | ((first | refine o_move st rfl rfl ?_ | refine o_assign st rfl rfl ?_ | refine o_pickT st rfl rfl rfl ?_ | refine o_pickF st rfl rfl rfl ?_ | refine o_loadS st rfl (by repeat constructor) rfl rfl ?_ | refine o_load3 st rfl (by repeat constructor) rfl ?_ | refine o_load2 st rfl (by repeat constructor) rfl ?_ | refine o_load4 st rfl (by repeat constructor) rfl ?_ | refine o_extract st rfl rfl rfl ?_ | refine o_len st rfl rfl ?_ | refine o_add64 st rfl rfl rfl (by omega) (by omega) ?_ | refine o_notT st rfl rfl ?_ | refine o_notF st rfl rfl ?_); clear st; intro _ st) | ((first | refine o_lss st rfl rfl rfl ?_ ?_ | refine o_eqlI st rfl rfl rfl ?_ ?_ | refine o_neqI st rfl rfl rfl ?_ ?_) <;> clear st <;> intro _ _ st <;> (try (exfalso; omega)))))
    refine post2 st Tryz.results13 (rd_t st rfl) (rd_t st rfl) ?_
    exact ⟨_, tb, _, rfl, ⟨cp, tp, rfl, rfl⟩, st.ex1 (by repeat constructor)⟩
theorem ReadNumbers_ok (ns : List Nat) (hl : ns.length ≤ 200) (hx : okW ns) (hn : ∀ x ∈ ns, nb x = x) (w : World) (hT : Tab w) : CM1 Tryz.prog 13 [sV (textOf ns)] w (OutL ns) := by
  cases ns with
  | nil => exact ReadNone_ok w hT
  | cons n ns => exact ReadSome_ok n ns hl hx hn w hT
end Go.Proofs.YtclgplbikjmopaaGreatDoor
