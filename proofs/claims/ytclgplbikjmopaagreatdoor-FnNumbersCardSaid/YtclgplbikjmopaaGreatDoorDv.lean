/-
  FnNumbers: texts of lists; lists out of texts (walks).
-/
import Derived.Test.YtclgplbikjmopaaGreatDoorDu
import Derived.Lib.SplitLaws
import Derived.Lib.IndexBytes
namespace Go.Proofs.YtclgplbikjmopaaGreatDoor
open Go.RowKit
set_option maxRecDepth 100000

/-! ## pieces between commas -/
def NoC (l : List UInt8) : Prop := ∀ b ∈ l, b ≠ 44
theorem dg_noC : ∀ d : Nat, d < 16 → dg d ≠ 44 := by decide
theorem fx_noC : ∀ k n, NoC (fx k n)
  | 0, _ => by intro b hb; cases hb
  | k + 1, n => by
    intro b hb
    rcases List.mem_append.1 hb with hb | hb
    · exact fx_noC k _ b hb
    · simp only [List.mem_singleton] at hb
      subst hb
      exact dg_noC _ (Nat.mod_lt _ (by decide))
theorem indexByte_at : ∀ (p r : List UInt8), NoC p → Lib.indexByte (p ++ 44 :: r) 44 = (p.length : Int)
  | [], r, _ => by simp [Lib.indexByte]
  | b :: p, r, h => by
    have hb : b ≠ 44 := h b List.mem_cons_self
    have ih := indexByte_at p r fun x hx => h x (List.mem_cons_of_mem _ hx)
    show (if b == 44 then (0 : Int) else if Lib.indexByte (p ++ 44 :: r) 44 == -1 then -1 else Lib.indexByte (p ++ 44 :: r) 44 + 1) = _
    rw [ih, if_neg (by simpa using hb), if_neg (by simp)]
    simp
theorem join_two (x y : List UInt8) (r : List (List UInt8)) : Lib.join (x :: y :: r) [44] = x ++ 44 :: Lib.join (y :: r) [44] := by
  rw [Lib.join_cons, Lib.join_cons]
  simp [Lib.joinTail]
theorem splitK_join : ∀ (r : List (List UInt8)) (x : List UInt8), (∀ p ∈ x :: r, NoC p) → Lib.splitK [44] 0 r.length (Lib.join (x :: r) [44]) = x :: r
  | [], x, _ => by rw [Lib.join_one]; rfl
  | y :: r, x, h => by
    have hx := h x List.mem_cons_self
    have ih := splitK_join r y fun p hp => h p (List.mem_cons_of_mem _ hp)
    rw [join_two, List.length_cons, Lib.splitK, Lib.index_one, indexByte_at _ _ hx, if_neg (by simp)]
    have e1 : ((x.length : Int)).toNat = x.length := by omega
    rw [e1, Nat.add_zero, List.take_left, List.length_singleton]
    have e2 : (x ++ 44 :: Lib.join (y :: r) [44]).drop (x.length + 1) = Lib.join (y :: r) [44] := by
      rw [← List.drop_drop, List.drop_left]
      rfl
    rw [e2, ih]
theorem count_noC {p : List UInt8} (h : NoC p) : p.count 44 = 0 := by
  rw [List.count_eq_zero]
  intro hm
  exact h 44 hm rfl
theorem count_join : ∀ (r : List (List UInt8)) (x : List UInt8), (∀ p ∈ x :: r, NoC p) → (Lib.join (x :: r) [44]).count 44 = r.length
  | [], x, h => by rw [Lib.join_one, count_noC (h x List.mem_cons_self)]; rfl
  | y :: r, x, h => by
    rw [join_two, List.count_append, List.count_cons, count_noC (h x List.mem_cons_self), count_join r y fun p hp => h p (List.mem_cons_of_mem _ hp)]
    simp
theorem join_len : ∀ (r : List (List UInt8)) (x : List UInt8), (∀ p ∈ x :: r, p.length = 8) → (Lib.join (x :: r) [44]).length = 9 * r.length + 8
  | [], x, h => by rw [Lib.join_one, h x List.mem_cons_self]; rfl
  | y :: r, x, h => by
    rw [join_two, List.length_append, List.length_cons, join_len r y fun p hp => h p (List.mem_cons_of_mem _ hp), h x List.mem_cons_self, List.length_cons]
    omega
/-- The text of a list of numbers. -/
def textOf (ns : List Nat) : List UInt8 := if ns = [] then [110, 111, 110, 101] else Lib.join (ns.map hex8) [44]
theorem hexs_noC (ns : List Nat) : ∀ p ∈ ns.map hex8, NoC p := by
  intro p hp
  obtain ⟨n, _, rfl⟩ := List.mem_map.1 hp
  exact fx_noC 8 n
theorem hexs_len (ns : List Nat) : ∀ p ∈ ns.map hex8, p.length = 8 := by
  intro p hp
  obtain ⟨n, _, rfl⟩ := List.mem_map.1 hp
  exact fx_length 8 n
theorem text_len (n : Nat) (ns : List Nat) : (textOf (n :: ns)).length = 9 * ns.length + 8 := by
  have h := hexs_len (n :: ns)
  unfold textOf
  rw [if_neg (by simp), List.map_cons, join_len _ _ (by rw [← List.map_cons]; exact h), List.length_map]
theorem bytes_map (ss : List (List UInt8)) : (ss.map fun l => (⟨l.toArray⟩ : ByteArray)).map (·.data.toList) = ss := by
  rw [List.map_map]
  have : ((fun x : ByteArray => x.data.toList) ∘ fun l : List UInt8 => (⟨l.toArray⟩ : ByteArray)) = id := rfl
  rw [this, List.map_id]
attribute [local irreducible] Code.wp wpList Oper.wp Calls bodyPost Exit.then Exit.inBlock

theorem Join_ok (x : List UInt8) (r : List (List UInt8)) (h8 : ∀ p ∈ x :: r, p.length = 8) (hl : r.length ≤ 1000) (b cap : Nat) (pad : List Value) (w : World) (hb : w.heap[b]? = some (oV 9 ((x :: r).map sV) pad)) (hp : ((x :: r).map sV ++ pad).length = cap) : CV Tryz.prog 47 [.slice (some ⟨b, 0, none⟩) (x :: r).length cap, sV [44]] w (sV (Lib.join (x :: r) [44])) := by
  have hlen := join_len r x h8
  have hm := bytes_map (x :: r)
  have hc := Tryz.strings_Join b 0 cap ((x :: r).map fun l => (⟨l.toArray⟩ : ByteArray)) ⟨#[44]⟩ w (by
      intro j y hj
      rw [List.getElem?_map] at hj
      obtain ⟨l, h1, rfl⟩ := Option.map_eq_some_iff.1 hj
      obtain ⟨hjl, h2⟩ := List.getElem?_eq_some_iff.1 h1
      have hg : ((x :: r).map sV ++ pad).toArray[0 + j]? = some (sV l) := by
        rw [List.getElem?_toArray, Nat.zero_add, List.getElem?_append_left (by rw [List.length_map]; exact hjl), List.getElem?_map, h1]
        rfl
      rw [cell_of_row w b (0 + j) _ 9 (0, 0) hb]
      exact hg) (Array.getElem?_eq_some_iff.1 hb).1 (by rw [List.length_map, List.length_cons]; omega) (by rw [List.length_map]; rw [List.length_append, List.length_map] at hp; omega) (by rw [hm]; show (Lib.join (x :: r) [44]).length ≤ _; rw [hlen]; omega)
  rw [hm, List.length_map] at hc
  refine hc.mono ?_
  rintro e w' ⟨rfl, hb⟩
  exact ⟨rfl, Ex.of_below hb⟩
theorem joined_ok (ns : List Nat) (hl : ns.length ≤ 1000) (b cap : Nat) (pad : List Value) (w : World) (hb : w.heap[b]? = some (oV 9 ((ns.map hex8).map sV) pad)) (hp : ((ns.map hex8).map sV ++ pad).length = cap) : CV Tryz.prog 31 [.slice (some ⟨b, 0, none⟩) ns.length cap] w (sV (textOf ns)) := by
  refine enterL [⟨b, false, oV 9 ((ns.map hex8).map sV) pad⟩] (by intro e he; simp only [List.mem_singleton] at he; subst he; exact ⟨hb, rfl⟩) Tryz.func31 rfl rfl rfl rfl ?_
  intro a st
  cases ns with
  | nil =>
    (repeat' (first | (refine o_eqlI st rfl rfl rfl (fun _ => ?_) (fun h => by simp at h); clear st; intro _ st) | refine c_seq ?_ | refine c_region ?_ | refine l_do ?_ | refine l_nil ?_ | refine x_then ?_ | refine x_thenR ?_ | refine x_thenE ?_ | refine wp_ret ?_ | refine wp_skip ?_ | refine c_condT st rfl ?_ | refine c_condF st rfl ?_ | ((first | refine o_move st rfl rfl ?_ | refine o_assign st rfl rfl ?_ | refine o_len st rfl rfl ?_); clear st; intro _ st) | (refine o_eqlI st rfl rfl rfl ?_ ?_ <;> clear st <;> intro _ _ st <;> (try (exfalso; omega)))))
    refine post1 st Tryz.results31 (rd_t st rfl) ?_
    exact ⟨rfl, st.ex0⟩
  | cons n ns =>
    have h8 := hexs_len (n :: ns)
    have c1 := fun w hb => Join_ok (hex8 n) (ns.map hex8) (by rw [← List.map_cons]; exact h8) (by rw [List.length_map]; rw [List.length_cons] at hl; omega) b cap pad w hb hp
    rw [List.length_cons, List.length_map] at c1
    have et : textOf (n :: ns) = Lib.join (hex8 n :: ns.map hex8) [44] := by unfold textOf; rw [if_neg (by simp), List.map_cons]
    (repeat' (first | (refine o_eqlI st rfl rfl rfl (fun h => by rw [List.length_cons] at h; omega) (fun _ => ?_); clear st; intro _ st) | (refine o_callV st rfl (c1 _ (st.heap (by repeat constructor))) rfl ?_; clear st; intro _ _ st) | refine c_seq ?_ | refine c_region ?_ | refine l_do ?_ | refine l_nil ?_ | refine x_then ?_ | refine x_thenR ?_ | refine x_thenE ?_ | refine wp_ret ?_ | refine wp_skip ?_ | refine c_condT st rfl ?_ | refine c_condF st rfl ?_ | ((first | refine o_move st rfl rfl ?_ | refine o_assign st rfl rfl ?_ | refine o_len st rfl rfl ?_); clear st; intro _ st) | (refine o_eqlI st rfl rfl rfl ?_ ?_ <;> clear st <;> intro _ _ st <;> (try (exfalso; omega)))))
    refine post1 st Tryz.results31 (rd_t st rfl) ?_
    rw [et]
    exact ⟨rfl, st.ex0⟩
theorem one_sV (ns : List Nat) : ∀ v ∈ (ns.map hex8).map sV, v.oneCell' = true := by
  intro v hv
  obtain ⟨l, _, rfl⟩ := List.mem_map.1 hv
  rfl
theorem NumbersText_ok (xs : List Nat) (hx : okW xs) (hl : xs.length ≤ 256) (b cap : Nat) (pad : List Value) (w : World) (hb : w.heap[b]? = some (oV 24 (xs.map vF) pad)) (hT : Tab w) : CV Tryz.prog 12 [.slice (some ⟨b, 0, none⟩) xs.length cap] w (.tuple #[sV (textOf (xs.map nb)), .bool true]) := by
  refine enterL [⟨b, false, oV 24 (xs.map vF) pad⟩] (by intro e he; simp only [List.mem_singleton] at he; subst he; exact ⟨hb, rfl⟩) Tryz.func12 rfl rfl rfl rfl ?_
  intro a st
  (repeat' (first | (refine o_buildSlice0 st rfl ?_; clear st; intro blk0 _ _ st) | refine c_seq ?_ | refine c_region ?_ | refine l_do ?_ | refine l_nil ?_ | refine x_then ?_ | refine x_thenR ?_ | refine x_thenE ?_ | refine x_blkN ?_ | refine x_blkR ?_ | refine x_blkE ?_ | refine x_blkO rfl ?_ | refine wp_ret ?_ | refine wp_skip ?_ | refine wp_block ?_ | refine wp_exit ?_ | refine c_condT st rfl ?_ | refine c_condF st rfl ?_ | ((first | refine o_move st rfl rfl ?_ | refine o_assign st rfl rfl ?_ | refine o_loadS st rfl (by repeat constructor) rfl rfl ?_ | refine o_load3 st rfl (by repeat constructor) rfl ?_ | refine o_load2 st rfl (by repeat constructor) rfl ?_ | refine o_load4 st rfl (by repeat constructor) rfl ?_ | refine o_len st rfl rfl ?_ | refine o_add64 st rfl rfl rfl (by omega) (by omega) ?_); clear st; intro _ st) | ((first | refine o_lss st rfl rfl rfl ?_ ?_ | refine o_gtr st rfl rfl rfl ?_ ?_) <;> clear st <;> intro _ _ st <;> (try (exfalso; omega)))))
  refine wp_loop_ghost (fun z a w' => ∃ (i tb cp : Nat) (tp : List Value), i ≤ xs.length ∧ z = xs.length - i ∧ ((((xs.take i).map nb).map hex8).map sV ++ tp).length = cp ∧ St w Tryz.f12.ntmps a w' [(11, .slice (some ⟨b, 0, none⟩) xs.length cap), (12, .int .i64 (xs.length : Nat)), (13, .int .i64 (i : Nat)), (4, .slice (some ⟨tb, 0, none⟩) i cp)] [⟨tb, true, oV 9 ((((xs.take i).map nb).map hex8).map sV) tp⟩, ⟨b, false, oV 24 (xs.map vF) pad⟩]) xs.length ⟨0, blk0, 0, [], by omega, by omega, rfl, st.fit (by repeat (first | exact trivial | refine And.intro rfl ?_))⟩ ?_
  clear st
  rintro z a w' ⟨i, tb, cp, tp, hi, rfl, hp, st⟩
  by_cases hlt : i < xs.length
  · have hg := getF xs pad i hlt
    have hw : xs[i] < 2 ^ 32 := hx _ (List.getElem_mem hlt)
    have hlen : ((((xs.take i).map nb).map hex8).map sV).length = i := by simp; omega
    (repeat' (first | (refine o_indexAddr st rfl rfl (by omega) (by omega) rfl ?_; clear st; intro _ st) | (refine o_loadS st rfl (by repeat constructor) hg rfl ?_; clear st; intro _ st) | (refine o_callV st rfl (hexOf_ok _ hw _ (hT.mono st.below)) rfl ?_; clear st; intro _ _ st) | (refine o_buildSlice st rfl rfl rfl rfl rfl rfl ?_; clear st; intro _ _ _ st) | (refine o_append1V rfl st rfl rfl (by repeat constructor) (by repeat constructor) hlen hp rfl (by omega) rfl ?_; clear st; intro blk1 cap1 pad1 _ _ hp1 st) | refine c_seq ?_ | refine c_region ?_ | refine l_do ?_ | refine l_nil ?_ | refine x_then ?_ | refine x_thenR ?_ | refine x_thenE ?_ | refine x_blkN ?_ | refine x_blkR ?_ | refine x_blkE ?_ | refine x_blkO rfl ?_ | refine wp_ret ?_ | refine wp_skip ?_ | refine wp_block ?_ | refine wp_exit ?_ | refine c_condT st rfl ?_ | refine c_condF st rfl ?_ | ((first | refine o_move st rfl rfl ?_ | refine o_assign st rfl rfl ?_ | refine o_loadS st rfl (by repeat constructor) rfl rfl ?_ | refine o_load3 st rfl (by repeat constructor) rfl ?_ | refine o_load2 st rfl (by repeat constructor) rfl ?_ | refine o_load4 st rfl (by repeat constructor) rfl ?_ | refine o_len st rfl rfl ?_ | refine o_add64 st rfl rfl rfl (by omega) (by omega) ?_); clear st; intro _ st) | ((first | refine o_lss st rfl rfl rfl ?_ ?_ | refine o_gtr st rfl rfl rfl ?_ ?_) <;> clear st <;> intro _ _ st <;> (try (exfalso; omega)))))
    have e1 : (((xs.take i).map nb).map hex8).map sV ++ [sV (hex8 (nb xs[i]))] = (((xs.take (i + 1)).map nb).map hex8).map sV := by
      rw [List.take_succ_eq_append_getElem hlt, List.map_append, List.map_append, List.map_append]
      rfl
    rw [e1] at hp1 st
    exact ⟨xs.length - (i + 1), by omega, i + 1, blk1, cap1, pad1, by omega, rfl, hp1, (st.fit (by repeat (first | exact trivial | refine And.intro rfl ?_))).subL (by repeat (first | exact List.Sublist.refl _ | apply List.Sublist.cons_cons | apply List.Sublist.cons | exact List.nil_sublist _))⟩
  · obtain rfl : i = xs.length := by omega
    rw [List.take_length] at hp st
    have c1 := fun w hb => joined_ok (xs.map nb) (by rw [List.length_map]; omega) tb cp tp w hb hp
    rw [List.length_map] at c1
    (repeat' (first | (refine o_callV st rfl (c1 _ (st.heap (by repeat constructor))) rfl ?_; clear st; intro _ _ st) | refine c_seq ?_ | refine c_region ?_ | refine l_do ?_ | refine l_nil ?_ | refine x_then ?_ | refine x_thenR ?_ | refine x_thenE ?_ | refine x_blkN ?_ | refine x_blkR ?_ | refine x_blkE ?_ | refine x_blkO rfl ?_ | refine wp_ret ?_ | refine wp_skip ?_ | refine wp_block ?_ | refine wp_exit ?_ | refine c_condT st rfl ?_ | refine c_condF st rfl ?_ | ((first | refine o_move st rfl rfl ?_ | refine o_assign st rfl rfl ?_ | refine o_loadS st rfl (by repeat constructor) rfl rfl ?_ | refine o_load3 st rfl (by repeat constructor) rfl ?_ | refine o_load2 st rfl (by repeat constructor) rfl ?_ | refine o_load4 st rfl (by repeat constructor) rfl ?_ | refine o_len st rfl rfl ?_ | refine o_add64 st rfl rfl rfl (by omega) (by omega) ?_); clear st; intro _ st) | ((first | refine o_lss st rfl rfl rfl ?_ ?_ | refine o_gtr st rfl rfl rfl ?_ ?_) <;> clear st <;> intro _ _ st <;> (try (exfalso; omega)))))
    refine post2 st Tryz.results12 (rd_t st rfl) (rd_t st rfl) ?_
    exact ⟨rfl, st.ex0⟩

/-! ## lists out of texts -/
theorem Split_ok (n : Nat) (ns : List Nat) (hl : ns.length ≤ 1000) (w : World) : CM1 Tryz.prog 48 [sV (textOf (n :: ns)), sV [44]] w fun v b o => v = .slice (some ⟨b, 0, none⟩) (n :: ns).length (n :: ns).length ∧ o = oV 9 (((n :: ns).map hex8).map sV) [] := by
  have et : textOf (n :: ns) = Lib.join (hex8 n :: ns.map hex8) [44] := by unfold textOf; rw [if_neg (by simp), List.map_cons]
  have hC := hexs_noC (n :: ns)
  rw [List.map_cons] at hC
  have hlen := text_len n ns
  have hcount : Lib.countB ⟨(textOf (n :: ns)).toArray⟩ ⟨#[44]⟩ = ns.length := by
    show Lib.count (textOf (n :: ns)) [44] = _
    rw [Lib.count_one, et, count_join _ _ hC, List.length_map]
  have hpieces : (Lib.splitB ⟨#[44]⟩ 0 ns.length ⟨(textOf (n :: ns)).toArray⟩) = ((n :: ns).map hex8).map fun l => (⟨l.toArray⟩ : ByteArray) := by
    have h1 := Lib.splitB_data ⟨#[44]⟩ 0 ns.length ⟨(textOf (n :: ns)).toArray⟩
    have h2 : Lib.splitK [44] 0 ns.length (textOf (n :: ns)) = (n :: ns).map hex8 := by
      have := splitK_join (ns.map hex8) (hex8 n) hC
      rw [List.length_map] at this
      rw [et, this, List.map_cons]
    have h3 : (Lib.splitB ⟨#[44]⟩ 0 ns.length ⟨(textOf (n :: ns)).toArray⟩).map (·.data.toList) = (n :: ns).map hex8 := h1.trans h2
    rw [← h3, List.map_map]
    have : ((fun l : List UInt8 => (⟨l.toArray⟩ : ByteArray)) ∘ fun x : ByteArray => x.data.toList) = id := by
      funext x
      rfl
    rw [this, List.map_id]
  have hsz : (⟨(textOf (n :: ns)).toArray⟩ : ByteArray).size = 9 * ns.length + 8 := by rw [size_sV, hlen]
  have hc : ∀ w, CM1 Tryz.prog 60 [sV (textOf (n :: ns)), sV [44], .int .i64 0, .int .i64 (-1)] w fun v b o => v = .slice (some ⟨b, 0, none⟩) (n :: ns).length (n :: ns).length ∧ o = oV 9 (((n :: ns).map hex8).map sV) [] := by
    intro w
    have h := Tryz.strings_genSplit_one ⟨(textOf (n :: ns)).toArray⟩ 44 (ns.length + 1) w (by rw [hsz]; omega) (by rw [hcount, hsz, if_pos (by decide)]; omega)
    rw [Nat.add_sub_cancel, hpieces] at h
    refine h.mono ?_
    rintro e w' ⟨rfl, rfl⟩
    have hlm : (((n :: ns).map hex8).map fun l => (⟨l.toArray⟩ : ByteArray)).length = ns.length + 1 := by simp
    have hfull : Lib.cellsOf (((n :: ns).map hex8).map fun l => (⟨l.toArray⟩ : ByteArray)) (ns.length + 1) = (((n :: ns).map hex8).map sV).toArray := by
      have := Lib.cellsOf_full (((n :: ns).map hex8).map fun l => (⟨l.toArray⟩ : ByteArray))
      rw [hlm] at this
      rw [this, List.map_map]
      rfl
    rw [hlm, hfull]
    refine ⟨_, w.heap.size, _, rfl, ⟨rfl, by rw [oV, List.append_nil]⟩, ?_⟩
    exact ⟨(Below.refl _ w).alloc (Nat.le_refl _) _, by intro e he; simp only [List.mem_singleton] at he; subst he; exact ⟨heap_alloc_new w _, Nat.le_refl _⟩, by simp⟩
  refine enter Tryz.func48 rfl rfl rfl rfl ?_
  intro a st
  (repeat' (first | (refine o_callM1 st rfl (hc _) rfl ?_; clear st; rintro _ b _ ⟨rfl, rfl⟩ _ _ st) | refine c_seq ?_ | refine c_region ?_ | refine l_do ?_ | refine l_nil ?_ | refine x_then ?_ | refine x_thenR ?_ | refine x_thenE ?_ | refine wp_ret ?_ | ((first | refine o_move st rfl rfl ?_ | refine o_assign st rfl rfl ?_); clear st; intro _ st)))
  refine post1 st Tryz.results48 (rd_t st rfl) ?_
  exact ⟨_, b, _, rfl, ⟨rfl, rfl⟩, st.ex1 (by repeat constructor)⟩
theorem piecesNone_ok (w : World) : CV Tryz.prog 32 [sV [110, 111, 110, 101]] w (.slice none 0 0) := by
  refine enter Tryz.func32 rfl rfl rfl rfl ?_
  intro a st
  (repeat' (first | (refine o_eqS (l := [110, 111, 110, 101]) (m := [110, 111, 110, 101]) (r := true) st rfl rfl rfl rfl ?_; clear st; intro _ st) | refine c_seq ?_ | refine c_region ?_ | refine l_do ?_ | refine l_nil ?_ | refine x_then ?_ | refine x_thenR ?_ | refine x_thenE ?_ | refine wp_ret ?_ | refine wp_skip ?_ | refine c_condT st rfl ?_ | refine c_condF st rfl ?_ | ((first | refine o_move st rfl rfl ?_ | refine o_assign st rfl rfl ?_); clear st; intro _ st) | (refine o_eqlI st rfl rfl rfl ?_ ?_ <;> clear st <;> intro _ _ st <;> (try (exfalso; omega)))))
  refine post1 st Tryz.results32 (rd_t st rfl) ?_
  exact ⟨rfl, st.ex0⟩
theorem pieces_ok (n : Nat) (ns : List Nat) (hl : ns.length ≤ 1000) (w : World) : CM1 Tryz.prog 32 [sV (textOf (n :: ns))] w fun v b o => v = .slice (some ⟨b, 0, none⟩) (n :: ns).length (n :: ns).length ∧ o = oV 9 (((n :: ns).map hex8).map sV) [] := by
  have hne : (textOf (n :: ns) == [110, 111, 110, 101]) = false := by
    rw [beq_eq_false_iff_ne]
    intro h
    have := congrArg List.length h
    rw [text_len] at this
    simp at this
  refine enter Tryz.func32 rfl rfl rfl rfl ?_
  intro a st
  (repeat' (first | (refine o_eqS (m := [110, 111, 110, 101]) st rfl rfl hne rfl ?_; clear st; intro _ st) | (refine o_callM1 st rfl (Split_ok n ns hl _) rfl ?_; clear st; rintro _ b _ ⟨rfl, rfl⟩ _ _ st) | refine c_seq ?_ | refine c_region ?_ | refine l_do ?_ | refine l_nil ?_ | refine x_then ?_ | refine x_thenR ?_ | refine x_thenE ?_ | refine wp_ret ?_ | refine wp_skip ?_ | refine c_condT st rfl ?_ | refine c_condF st rfl ?_ | ((first | refine o_move st rfl rfl ?_ | refine o_assign st rfl rfl ?_); clear st; intro _ st) | (refine o_eqlI st rfl rfl rfl ?_ ?_ <;> clear st <;> intro _ _ st <;> (try (exfalso; omega)))))
  refine post1 st Tryz.results32 (rd_t st rfl) ?_
  exact ⟨_, b, _, rfl, ⟨rfl, rfl⟩, st.ex1 (by repeat constructor)⟩
end Go.Proofs.YtclgplbikjmopaaGreatDoor
