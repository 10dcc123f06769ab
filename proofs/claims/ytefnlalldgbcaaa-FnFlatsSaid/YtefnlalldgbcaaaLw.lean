/-
  Contracts: where a plane cuts tiles, in the program.
-/
import Derived.Test.YtefnlalldgbcaaaFu
import Derived.Test.YtefnlalldgbcaaaAreaI
import Derived.Sort.LoopGhostIn
namespace Go.Proofs.Ytefnlalldgbcaaa
open Go.RowKit

/-! ## lists of floats, with room -/
def oFl (fs : List Nat) (pad : List Value) : Obj := .cells (fs.map (Value.float .f32) ++ pad).toArray 22 (0, 0)
theorem oFl_get {fs : List Nat} (pad : List Value) {k : Nat} (h : k < fs.length) : (fs.map (Value.float .f32) ++ pad).toArray[0 + k * 1]? = some (.float .f32 fs[k]) := by
  simp only [List.getElem?_toArray, Nat.zero_add, Nat.mul_one]
  rw [List.getElem?_append_left (by simpa using h), List.getElem?_map, List.getElem?_eq_getElem h]
  rfl
theorem IsL.push : ∀ {bs : List Nat} {cs : List (Option Nat)}, IsL bs cs → ∀ {b : Nat} {c : Option Nat}, Is .f32 b c → IsL (bs ++ [b]) (cs ++ [c])
  | [], [], _, _, _, h => ⟨h, trivial⟩
  | _ :: _, _ :: _, h, _, _, h' => ⟨h.1, IsL.push h.2 h'⟩
  | [], _ :: _, h, _, _, _ => h.elim
  | _ :: _, [], h, _, _, _ => h.elim

section
variable {P : Program} {w0 w : World} {N : Nat} {a : Act} {E : List (Nat × Value)} {L Lh : List Ent} {K : Act → World → Prop} {Q : Exit → Act → World → Prop}
variable {d : Nat} {ty : TypeId} {pos : String} {aft : Array Edge} {g : Option (Nat × Bool)}
/-- 'append' of a float to an own list. -/
theorem o_appendFlt {t cap c b ba bz : Nat} {fs : List Nat} {f : Nat} {zs pad : List Value} {x y : Operand} {Lr : List Ent} {ow : Bool} [hs : SliceT P t 22] [he : ElemT P 22 1 bz zs] (hbz : Nat.ble bz 1000 = true) (st : St w0 N a w E L)
    (hx : evE E x = some (.slice (some ⟨b, 0, none⟩) fs.length cap)) (hy : evE E y = some (.slice (some ⟨ba, 0, none⟩) 1 c)) (hR : Rem L b (oFl fs pad) Lr)
    (hA : At L ba ow (.cells [.float .f32 f].toArray 22 (0, 0))) (hp : (fs.map (Value.float .f32) ++ pad).length = cap) (hlim : fs.length ≤ 100000000) (hd : Nat.blt d N = true)
    (h : ∀ b' cap' pad' a' w', ((fs ++ [f]).map (Value.float .f32) ++ pad').length = cap' → St w0 N a' w' ((d, .slice (some ⟨b', 0, none⟩) (fs ++ [f]).length cap') :: E) (⟨b', true, oFl (fs ++ [f]) pad'⟩ :: Lr) → K a' w') :
    Oper.wp P ⟨some d, .call { callee := .builtin .append, args := #[x, y], argTypes := #[t, t] }, ty, pos, aft, g⟩ a w K Q := by
  have hbz' : bz ≤ 1000 := Nat.le_of_ble_eq_true hbz
  refine o_append (size := 1) (news := [Value.float .f32 f]) (olds := fs.map (Value.float .f32)) st hx hy hR ?_ (by simp) (by rw [hp]; omega) (by simp) (by simp [Value.oneCell']) (by omega) ?_ hd ?_
  · intro j u hj
    rw [cell_known st hA rfl]
    match j with
    | 0 => simpa using hj
    | j + 1 => simp at hj
  · calc (fs.length + 1) * bz ≤ (fs.length + 1) * 1000 := Nat.mul_le_mul_left _ hbz'
      _ ≤ 140737488355328 := by omega
  · intro b' cap' pad' a' w' hl st'
    have e1 : fs.length + 1 = (fs ++ [f]).length := by simp
    have e2 : fs.map (Value.float .f32) ++ [Value.float .f32 f] = (fs ++ [f]).map (Value.float .f32) := by simp
    rw [e1] at st'
    rw [e2] at st' hl
    exact h b' cap' pad' a' w' (by omega) st'
theorem o_fgeqK {x y : Operand} {t ys : TypeId} {k : FloatKind} {i j : Nat} {ci cj : Option Nat} {r : Bool} (st : St w0 N a w E L) (hx : evE E x = some (.float k i)) (hy : evE E y = some (.float k j)) (hi : Is k i ci) (hj : Is k j cj) (hr : fgeB k ci cj = r) (hd : Nat.blt d N = true)
    (h : ∀ a', St w0 N a' w ((d, .bool r) :: E) L → K a' w) : Oper.wp P ⟨some d, .binOp .geq t x y ys, ty, pos, aft, g⟩ a w K Q := by
  cases r
  · exact o_fgeq st hx hy hi hj hd (fun ht => by rw [hr] at ht; cases ht) fun _ => h
  · exact o_fgeq st hx hy hi hj hd (fun _ => h) fun ht => by rw [hr] at ht; cases ht

/-! ## blocks that a round must keep -/
def others2 (w : World) (b c : Nat) : List Ent := (others w b).filter fun e => !(e.b == c)
theorem mem_others2 {w : World} {b c : Nat} {e : Ent} (h : e ∈ others2 w b c) : e.own = false ∧ e.b ≠ b ∧ e.b ≠ c ∧ w.heap[e.b]? = some e.o := by
  unfold others2 at h
  obtain ⟨h1, h2⟩ := List.mem_filter.1 h
  obtain ⟨x, y, z⟩ := mem_others h1
  exact ⟨x, y, by simpa using h2, z⟩
theorem others2_mem {w : World} {b c k : Nat} (hk : k < w.heap.size) (hne : k ≠ b) (hnc : k ≠ c) : (⟨k, false, w.heap[k]⟩ : Ent) ∈ others2 w b c := by
  unfold others2
  exact List.mem_filter.2 ⟨others_mem hk hne, by simpa using hnc⟩
theorem St.withOthers2 {b c : Nat} {o o' : Obj} (st : St w0 N a w E (⟨c, true, o'⟩ :: ⟨b, true, o⟩ :: L)) (hL : ∀ e ∈ L, e.own = false) : St w0 N a w E (⟨c, true, o'⟩ :: ⟨b, true, o⟩ :: (L ++ others2 w b c)) := by
  obtain ⟨h1, h2⟩ := List.pairwise_cons.1 st.uniq
  obtain ⟨h3, _⟩ := List.pairwise_cons.1 h2
  have hown : ∀ e ∈ L ++ others2 w b c, e.own = false := fun e he => by
    rcases List.mem_append.1 he with he | he
    · exact hL e he
    · exact (mem_others2 he).1
  refine ⟨st.env, st.size, st.defers, st.below, ?_, ?_⟩
  · intro e he
    rcases List.mem_cons.1 he with rfl | he
    · exact st.facts _ List.mem_cons_self
    rcases List.mem_cons.1 he with rfl | he
    · exact st.facts _ (List.mem_cons_of_mem _ List.mem_cons_self)
    · refine ⟨?_, fun h => by rw [hown e he] at h; cases h⟩
      rcases List.mem_append.1 he with he | he
      · exact (st.facts _ (List.mem_cons_of_mem _ (List.mem_cons_of_mem _ he))).1
      · exact (mem_others2 he).2.2.2
  · refine List.pairwise_cons.2 ⟨?_, List.pairwise_cons.2 ⟨?_, ?_⟩⟩
    · intro e he _
      rcases List.mem_cons.1 he with rfl | he
      · exact h1 _ List.mem_cons_self (.inl rfl)
      rcases List.mem_append.1 he with he | he
      · exact h1 e (List.mem_cons_of_mem _ he) (.inl rfl)
      · exact (mem_others2 he).2.2.1.symm
    · intro e he _
      rcases List.mem_append.1 he with he | he
      · exact h3 e he (.inl rfl)
      · exact (mem_others2 he).2.1.symm
    · refine List.Pairwise.imp_of_mem (R := fun _ _ => True) ?_ (List.pairwise_of_forall (fun _ _ => trivial))
      intro x y hx hy _ ho
      rw [hown x hx, hown y hy] at ho
      rcases ho with ho | ho <;> cases ho
theorem keeps_of_others2 {W : World} {b c nb : Nat} {cs cs' : Array Value} {t t' : TypeId} {fr fr' : Nat × Nat} {o o2 : Obj} (st : St w0 N a w E (⟨nb, true, o⟩ :: ⟨b, true, o2⟩ :: L)) (hsub : List.Sublist (others2 W b c) L) (hb : W.heap[b]? = some (.cells cs t fr)) (hc : W.heap[c]? = some (.cells cs' t' fr')) : KeepsOthers W w := by
  obtain ⟨h1, _⟩ := List.pairwise_cons.1 st.uniq
  have hf : ∀ (k : Nat) (o : Obj), W.heap[k]? = some o → k ≠ b → k ≠ c → w.heap[k]? = some o := by
    intro k o hk hne hnc
    obtain ⟨hlt, he⟩ := Array.getElem?_eq_some_iff.1 hk
    have hm := hsub.mem (others2_mem hlt hne hnc)
    rw [he] at hm
    exact (st.facts _ (List.mem_cons_of_mem _ (List.mem_cons_of_mem _ hm))).1
  have hnb : nb < w.heap.size := (Array.getElem?_eq_some_iff.1 (st.facts _ List.mem_cons_self).1).1
  have hbb : b < w.heap.size := (Array.getElem?_eq_some_iff.1 (st.facts _ (List.mem_cons_of_mem _ List.mem_cons_self)).1).1
  have hnbb : nb ≠ b := h1 _ List.mem_cons_self (.inl rfl)
  refine ⟨?_, ?_⟩
  · rcases Nat.eq_zero_or_pos W.heap.size with h | h
    · omega
    · have hk : W.heap.size - 1 < W.heap.size := by omega
      by_cases e : W.heap.size - 1 = b
      · omega
      by_cases e2 : W.heap.size - 1 = c
      · -- the new block lies behind the old ones, or is the old one
        by_cases e3 : nb = c
        · omega
        · have : W.heap.size ≤ nb := by
            apply Classical.byContradiction
            intro hlt
            have hm := hsub.mem (others2_mem (show nb < W.heap.size by omega) hnbb e3)
            exact h1 _ (List.mem_cons_of_mem _ hm) (.inl rfl) rfl
          omega
      · have := (Array.getElem?_eq_some_iff.1 (hf _ _ (Array.getElem?_eq_getElem hk) e e2)).1
        omega
  · intro k o' hk ho
    by_cases e : k = b
    · subst e
      rw [hb] at hk
      cases hk
      cases ho
    by_cases e2 : k = c
    · subst e2
      rw [hc] at hk
      cases hk
      cases ho
    · exact hf k o' hk e e2
end

attribute [local irreducible] Code.wp wpList Oper.wp Calls bodyPost Exit.then Exit.inBlock

theorem indexFuncP (bs : List Nat) (pad : List Value) (cs : List (Option Nat)) (h : IsL bs cs) (hc : cs.all finC = true) (b cap : Nat) (w : World) (hb : w.heap[b]? = some (oFl bs pad)) (hlen : bs.length < 1000000000) :
    CV Try.prog 188 [.slice (some ⟨b, 0, none⟩) bs.length cap, .func (.func 175) #[] #[]] w (.int .i64 (-1)) := by
  refine enterL [⟨b, false, oFl bs pad⟩] (by simp [hb]) Try.func188 rfl rfl rfl rfl ?_
  intro a st
  have hl := h.length
  (repeat' (first | refine c_seq ?_  | refine c_region ?_  | refine l_do ?_  | refine l_nil ?_  | refine x_then ?_  | refine x_thenE ?_  | refine x_blkN ?_  | refine x_blkE ?_  | refine wp_ret ?_  | refine wp_skip ?_  | refine wp_block ?_  | refine wp_exit ?_  | refine c_condT st rfl ?_  | refine c_condF st rfl ?_  | ((first | refine o_move st rfl rfl ?_  | refine o_assign st rfl rfl ?_  | refine o_loadS st rfl (by repeat constructor) rfl rfl ?_  | refine o_len st rfl rfl ?_  | refine o_add64 st rfl rfl rfl (by omega) (by omega) ?_); clear st; intro _ st)  | (refine o_lss st rfl rfl rfl ?_ ?_ <;> clear st <;> intro _ _ st <;> (try (exfalso; omega)))))
  refine wp_loop_ghost (fun n a w' => ∃ k : Nat, k ≤ bs.length ∧ n = bs.length - k ∧ St w Try.f188.ntmps a w' [(0, .slice (some ⟨b, 0, none⟩) bs.length cap), (1, .func (.func 175) #[] #[]), (7, .int .i64 bs.length), (8, .int .i64 k)] [⟨b, false, oFl bs pad⟩]) bs.length ⟨0, by omega, by omega, st.fit (by repeat (first | exact trivial  | refine And.intro rfl ?_))⟩ ?_
  clear st
  rintro n a w' ⟨k, hk, rfl, st⟩
  by_cases hlt : k < bs.length
  · have hkc : k < cs.length := by omega
    have hv := oFl_get pad hlt
    have hI : Is .f32 bs[k] cs[k] := h.get k _ _ (by simp [hlt]) (by simp [hkc])
    have hf : finC cs[k] = true := List.all_eq_true.1 hc _ (List.getElem_mem hkc)
    have hfi := fun w => areFinite1_ok bs[k] cs[k] hI w
    rw [hf] at hfi
    (repeat' (first | (refine o_indexAddr st rfl rfl (by omega) (by omega) rfl ?_; clear st; intro _ st)  | (refine o_loadS st rfl (by repeat constructor) hv rfl ?_; clear st; intro _ st)  | (refine o_callF st rfl rfl (hfi _) rfl ?_; clear st; intro _ _ st)  | refine c_seq ?_  | refine c_region ?_  | refine l_do ?_  | refine l_nil ?_  | refine x_then ?_  | refine x_thenE ?_  | refine x_blkN ?_  | refine x_blkE ?_  | refine wp_ret ?_  | refine wp_skip ?_  | refine wp_block ?_  | refine wp_exit ?_  | refine c_condT st rfl ?_  | refine c_condF st rfl ?_  | ((first | refine o_move st rfl rfl ?_  | refine o_assign st rfl rfl ?_  | refine o_loadS st rfl (by repeat constructor) rfl rfl ?_  | refine o_len st rfl rfl ?_  | refine o_add64 st rfl rfl rfl (by omega) (by omega) ?_); clear st; intro _ st)  | (refine o_lss st rfl rfl rfl ?_ ?_ <;> clear st <;> intro _ _ st <;> (try (exfalso; omega)))))
    exact ⟨bs.length - (k + 1), by omega, k + 1, by omega, rfl, st.fit (by repeat (first | exact trivial  | refine And.intro rfl ?_))⟩
  · have hk' : k = bs.length := by omega
    (repeat' (first | refine c_seq ?_  | refine c_region ?_  | refine l_do ?_  | refine l_nil ?_  | refine x_then ?_  | refine x_thenE ?_  | refine x_blkN ?_  | refine x_blkE ?_  | refine wp_ret ?_  | refine wp_skip ?_  | refine wp_block ?_  | refine wp_exit ?_  | refine c_condT st rfl ?_  | refine c_condF st rfl ?_  | ((first | refine o_move st rfl rfl ?_  | refine o_assign st rfl rfl ?_  | refine o_loadS st rfl (by repeat constructor) rfl rfl ?_  | refine o_len st rfl rfl ?_  | refine o_add64 st rfl rfl rfl (by omega) (by omega) ?_); clear st; intro _ st)  | (refine o_lss st rfl rfl rfl ?_ ?_ <;> clear st <;> intro _ _ st <;> (try (exfalso; omega)))))
    refine post1 st Try.results188 (rd_t st rfl) ?_
    exact ⟨rfl, st.ex0⟩
theorem containsFuncP (bs : List Nat) (pad : List Value) (cs : List (Option Nat)) (h : IsL bs cs) (hc : cs.all finC = true) (b cap : Nat) (w : World) (hb : w.heap[b]? = some (oFl bs pad)) (hlen : bs.length < 1000000000) :
    CV Try.prog 174 [.slice (some ⟨b, 0, none⟩) bs.length cap, .func (.func 175) #[] #[]] w (.bool false) := by
  refine enterL [⟨b, false, oFl bs pad⟩] (by simp [hb]) Try.func174 rfl rfl rfl rfl ?_
  intro a st
  (repeat' (first | (refine o_callV st rfl (indexFuncP bs pad cs h hc b cap _ (st.heap (by repeat constructor)) hlen) rfl ?_; clear st; intro _ _ st)  | refine c_seq ?_  | refine c_region ?_  | refine l_do ?_  | refine l_nil ?_  | refine x_then ?_  | refine wp_ret ?_  | ((first | refine o_move st rfl rfl ?_  | refine o_assign st rfl rfl ?_); clear st; intro _ st)  | (refine o_geq st rfl rfl rfl ?_ ?_ <;> clear st <;> intro _ _ st <;> (try (exfalso; omega)))))
  refine post1 st Try.results174 (rd_t st rfl) ?_
  exact ⟨rfl, st.ex0⟩
theorem areFiniteP (bs : List Nat) (pad : List Value) (cs : List (Option Nat)) (h : IsL bs cs) (hc : cs.all finC = true) (b cap : Nat) (w : World) (hb : w.heap[b]? = some (oFl bs pad)) (hlen : bs.length < 1000000000) :
    CV Try.prog 101 [.slice (some ⟨b, 0, none⟩) bs.length cap] w (.bool true) := by
  refine enterL [⟨b, false, oFl bs pad⟩] (by simp [hb]) Try.func101 rfl rfl rfl rfl ?_
  intro a st
  (repeat' (first | (refine o_callV st rfl (containsFuncP bs pad cs h hc b cap _ (st.heap (by repeat constructor)) hlen) rfl ?_; clear st; intro _ _ st)  | refine c_seq ?_  | refine c_region ?_  | refine l_do ?_  | refine l_nil ?_  | refine x_then ?_  | refine wp_ret ?_  | ((first | refine o_move st rfl rfl ?_  | refine o_assign st rfl rfl ?_  | refine o_notF st rfl rfl ?_); clear st; intro _ st)))
  refine post1 st Try.results101 (rd_t st rfl) ?_
  exact ⟨rfl, st.ex0⟩
end Go.Proofs.Ytefnlalldgbcaaa
