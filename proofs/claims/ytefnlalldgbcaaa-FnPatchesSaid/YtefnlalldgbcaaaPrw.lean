/-
  Rules: a walk that goes on from where it stands; append of one value. Contract: the rows of a patch.
-/
import Derived.Test.YtefnlalldgbcaaaRaise
import Derived.Test.YtefnlalldgbcaaaTile
namespace Go.Proofs.Ytefnlalldgbcaaa
open Go.RowKit

section
variable {P : Program} {w0 w w' : World} {N : Nat} {a a' : Act} {E E' : List (Nat × Value)} {L L' : List Ent} {K : Act → World → Prop} {Q : Exit → Act → World → Prop}
variable {d : Nat} {ty : TypeId} {pos : String} {aft : Array Edge} {g : Option (Nat × Bool)}
/-- What is known, as old. -/
def asOld (L : List Ent) : List Ent := L.map fun e => ⟨e.b, false, e.o⟩
theorem mem_asOld {L : List Ent} {e : Ent} (h : e ∈ asOld L) : e.own = false ∧ ∃ ow, (⟨e.b, ow, e.o⟩ : Ent) ∈ L := by
  obtain ⟨f, hf, rfl⟩ := List.mem_map.1 h
  exact ⟨rfl, f.own, hf⟩
/-- A walk goes on from where it stands: all that is known is old now. -/
theorem St.here (st : St w0 N a w E L) : St w N a w E (asOld L) := by
  refine ⟨st.env, st.size, st.defers, Below.refl _ _, ?_, ?_⟩
  · intro e he
    obtain ⟨h1, ow, h2⟩ := mem_asOld he
    exact ⟨(st.facts _ h2).1, fun ho => by rw [h1] at ho; cases ho⟩
  · refine List.Pairwise.imp_of_mem (R := fun _ _ => True) ?_ (List.pairwise_of_forall (fun _ _ => trivial))
    intro x y hx hy _ ho
    rw [(mem_asOld hx).1, (mem_asOld hy).1] at ho
    rcases ho with ho | ho <;> cases ho
/-- And back. -/
theorem St.back (st : St w0 N a w E L) (st' : St w N a' w' E' L') : St w0 N a' w' E' L' :=
  ⟨st'.env, st'.size, st'.defers, st.below.trans (st'.below.mono st.below.size), fun e he => ⟨(st'.facts e he).1, fun ho => Nat.le_trans st.below.size ((st'.facts e he).2 ho)⟩, st'.uniq⟩

/-- 'append' of one value of one cell to an own list. -/
theorem o_append1V {t e n cap b ba bz : Nat} {olds pad : List Value} {v1 : Value} {zs : List Value} {x y : Operand} {Lr : List Ent} {ow : Bool} [hs : SliceT P t e] [he : ElemT P e 1 bz zs] (hbz : Nat.ble bz 1000 = true) (st : St w0 N a w E L)
    (hx : evE E x = some (.slice (some ⟨b, 0, none⟩) n cap)) (hy : evE E y = some (.slice (some ⟨ba, 0, none⟩) 1 1)) (hR : Rem L b (.cells (olds ++ pad).toArray e (0, 0)) Lr)
    (hA : At L ba ow (.cells [v1].toArray e (0, 0))) (hn : olds.length = n) (hp : (olds ++ pad).length = cap) (h1 : v1.oneCell' = true) (hlim : n ≤ 1000000000) (hd : Nat.blt d N = true)
    (h : ∀ b' cap' pad' a' w', (olds ++ [v1] ++ pad').length = cap' → St w0 N a' w' ((d, .slice (some ⟨b', 0, none⟩) (n + 1) cap') :: E) (⟨b', true, .cells (olds ++ [v1] ++ pad').toArray e (0, 0)⟩ :: Lr) → K a' w') :
    Oper.wp P ⟨some d, .call { callee := .builtin .append, args := #[x, y], argTypes := #[t, t] }, ty, pos, aft, g⟩ a w K Q := by
  have hbz' : bz ≤ 1000 := Nat.le_of_ble_eq_true hbz
  refine o_append (size := 1) (news := [v1]) (olds := olds) st hx hy hR ?_ (by omega) (by omega) (by simp) (by simpa using h1) (by omega) ?_ hd ?_
  · intro j u hj
    rw [cell_known st hA rfl]
    simpa using hj
  · calc (n + 1) * bz ≤ (n + 1) * 1000 := Nat.mul_le_mul_left _ hbz'
      _ ≤ 140737488355328 := by omega
  · intro b' cap' pad' a' w' hl st'
    exact h b' cap' pad' a' w' (by omega) st'
end

/-! ## the rows of a patch -/
theorem plc_add (g i j : Nat) : plc g i j = plc g 0 j + i := by simp [plc]
theorem plc_next {g k : Nat} (hg : g ≤ 3) (hk : k ≤ g) : plc g 0 (k + 1) = plc g 0 k + (g + 1 - k) := by
  have hcg : g = 0 ∨ g = 1 ∨ g = 2 ∨ g = 3 := by omega
  have hck : k = 0 ∨ k = 1 ∨ k = 2 ∨ k = 3 := by omega
  rcases hcg with rfl | rfl | rfl | rfl <;> rcases hck with rfl | rfl | rfl | rfl <;> first | rfl | (exfalso; omega)
/-- How many spots a patch has. -/
def tot (g : Nat) : Nat := (g + 1) * (g + 2) / 2
theorem plc_le {g k : Nat} (hg : g ≤ 3) (hk : k ≤ g) : plc g 0 k + (g + 1 - k) ≤ tot g := by
  have hcg : g = 0 ∨ g = 1 ∨ g = 2 ∨ g = 3 := by omega
  have hck : k = 0 ∨ k = 1 ∨ k = 2 ∨ k = 3 := by omega
  rcases hcg with rfl | rfl | rfl | rfl <;> rcases hck with rfl | rfl | rfl | rfl <;> first | decide | (exfalso; omega)
/-- Row j of a patch, as a value. -/
def rowV (blk off cap g j : Nat) : Value := .slice (some ⟨blk, off + plc g 0 j * 3, none⟩) (g + 1 - j) (cap - plc g 0 j)
def rowVs (blk off cap g k : Nat) : List Value := (List.range k).map (rowV blk off cap g)
theorem rowVs_succ (blk off cap g k : Nat) : rowVs blk off cap g (k + 1) = rowVs blk off cap g k ++ [rowV blk off cap g k] := by simp [rowVs, List.range_succ]
theorem rowVs_length (blk off cap g k : Nat) : (rowVs blk off cap g k).length = k := by simp [rowVs]
def oR (vs pad : List Value) : Obj := .cells (vs ++ pad).toArray 44 (0, 0)
theorem oR_get {blk off cap g k j : Nat} {pad : List Value} (h : j < k) : (rowVs blk off cap g k ++ pad).toArray[j]? = some (rowV blk off cap g j) := by
  simp [List.getElem?_append, rowVs, h]

attribute [local irreducible] Code.wp wpList Oper.wp Calls bodyPost Exit.then Exit.inBlock
set_option maxHeartbeats 8000000 in
theorem rowsOf_ok (g : Nat) (hg : g ≤ 3) (blk off cap : Nat) (hcap : tot g ≤ cap) (w : World) :
    CM1 Try.prog 126 [.slice (some ⟨blk, off, none⟩) (tot g) cap, .int .i64 g] w fun v b o => ∃ c pad, v = .slice (some ⟨b, 0, none⟩) (g + 1) c ∧ o = oR (rowVs blk off cap g (g + 1)) pad := by
  refine enter Try.func126 rfl rfl rfl rfl ?_
  intro a st
  (repeat' (first | (refine o_buildSlice0 st rfl ?_; clear st; intro blk0 _ _ st)  | refine c_seq ?_  | refine c_region ?_  | refine l_do ?_  | refine l_nil ?_  | refine x_then ?_  | refine x_thenE ?_  | refine x_blkN ?_  | refine x_blkE ?_  | refine wp_ret ?_  | refine wp_skip ?_  | refine wp_block ?_  | refine wp_exit ?_  | refine c_condT st rfl ?_  | refine c_condF st rfl ?_  | ((first | refine o_move st rfl rfl ?_  | refine o_assign st rfl rfl ?_  | refine o_add64 st rfl rfl rfl (by omega) (by omega) ?_  | refine o_sub64 st rfl rfl rfl (by omega) (by omega) ?_); clear st; intro _ st)  | (refine o_gtr st rfl rfl rfl ?_ ?_ <;> clear st <;> intro _ _ st <;> (try (exfalso; omega)))))
  have e0 : (g : Int) + 1 = (g : Int) + 1 - ((0 : Nat) : Int) := by omega
  rw [e0] at st
  refine wp_loop_ghost (fun z a w' => ∃ (k b c : Nat) (pad : List Value) (sv : Value), k ≤ g + 1 ∧ z = g + 1 - k ∧ (k < g + 1 → sv = .slice (some ⟨blk, off + plc g 0 k * 3, none⟩) (tot g - plc g 0 k) (cap - plc g 0 k)) ∧ (rowVs blk off cap g k ++ pad).length = c ∧ St w Try.f126.ntmps a w' [(0, sv), (5, .slice (some ⟨b, 0, none⟩) k c), (6, .int .i64 ((g : Int) + 1 - (k : Int)))] [⟨b, true, oR (rowVs blk off cap g k) pad⟩]) (g + 1) ⟨0, blk0, 0, [], .slice (some ⟨blk, off, none⟩) (tot g) cap, by omega, by omega, fun _ => (by simp [plc]), rfl, st.fit (by repeat (first | exact trivial  | refine And.intro rfl ?_))⟩ ?_
  clear st
  rintro z a w' ⟨k, b, c, pad, sv, hk, rfl, hsv, hc, st⟩
  by_cases hlt : k < g + 1
  · have hsv := hsv hlt
    subst hsv
    have hle := plc_le hg (by omega : k ≤ g)
    have hnx := plc_next hg (by omega : k ≤ g)
    have hrl := rowVs_length blk off cap g k
    have etn : ((g : Int) + 1 - (k : Int)).toNat = g + 1 - k := by omega
    have h0 : ¬ (cap - plc g 0 k = 0) := by omega
    (repeat' (first | (refine o_sliceH st rfl rfl (by omega) (by omega) rfl ?_; clear st; intro _ st; rw [if_neg h0, etn] at st)  | (refine o_buildSlice (parts := [_]) st rfl rfl rfl rfl rfl rfl ?_; clear st; intro _ _ _ st)  | (refine o_append1V (olds := rowVs blk off cap g k) rfl st rfl rfl (by repeat constructor) (by repeat constructor) hrl hc rfl (by omega) rfl ?_; clear st; intro b1 c1 pad1 _ _ hc1 st)  | (refine o_sliceL st rfl rfl (by omega) (by omega) rfl ?_; clear st; intro _ st; rw [etn] at st)  | refine c_seq ?_  | refine c_region ?_  | refine l_do ?_  | refine l_nil ?_  | refine x_then ?_  | refine x_thenE ?_  | refine x_blkN ?_  | refine x_blkE ?_  | refine wp_ret ?_  | refine wp_skip ?_  | refine wp_block ?_  | refine wp_exit ?_  | refine c_condT st rfl ?_  | refine c_condF st rfl ?_  | ((first | refine o_move st rfl rfl ?_  | refine o_assign st rfl rfl ?_  | refine o_add64 st rfl rfl rfl (by omega) (by omega) ?_  | refine o_sub64 st rfl rfl rfl (by omega) (by omega) ?_); clear st; intro _ st)  | (refine o_gtr st rfl rfl rfl ?_ ?_ <;> clear st <;> intro _ _ st <;> (try (exfalso; omega)))))
    have e1 : (g : Int) + 1 - (k : Int) - 1 = (g : Int) + 1 - ((k + 1 : Nat) : Int) := by omega
    rw [e1] at st
    have ev : Value.slice (Option.map (fun x : Addr => x.add (0 * 3)) (some (⟨blk, off + plc g 0 k * 3, none⟩ : Addr))) (g + 1 - k - 0) (cap - plc g 0 k - 0) = rowV blk off cap g k := by
      simp only [Option.map_some, Addr.add_lit, Nat.zero_mul, Nat.add_zero, Nat.sub_zero]
      rfl
    rw [ev, ← rowVs_succ] at st hc1
    refine ⟨g + 1 - (k + 1), by omega, k + 1, b1, c1, pad1, .slice (if cap - plc g 0 k = g + 1 - k then some ⟨blk, off + plc g 0 k * 3, none⟩ else Option.map (fun x : Addr => x.add ((g + 1 - k) * 3)) (some ⟨blk, off + plc g 0 k * 3, none⟩)) (tot g - plc g 0 k - (g + 1 - k)) (cap - plc g 0 k - (g + 1 - k)), by omega, rfl, ?_, ?_, (st.fit (by repeat (first | exact trivial  | refine And.intro rfl ?_))).subL (by repeat (first | exact List.Sublist.refl _  | apply List.Sublist.cons_cons  | apply List.Sublist.cons  | exact List.nil_sublist _))⟩
    · intro hlt'
      have hle2 := plc_le hg (by omega : k + 1 ≤ g)
      rw [if_neg (by omega), hnx]
      simp only [Option.map_some, Addr.add_lit]
      rw [Nat.add_mul, ← Nat.add_assoc, Nat.sub_sub, Nat.sub_sub]
    · exact hc1
  · have hk' : k = g + 1 := by omega
    subst hk'
    (repeat' (first | refine c_seq ?_  | refine c_region ?_  | refine l_do ?_  | refine l_nil ?_  | refine x_then ?_  | refine x_thenE ?_  | refine x_blkN ?_  | refine x_blkE ?_  | refine wp_ret ?_  | refine wp_skip ?_  | refine wp_block ?_  | refine wp_exit ?_  | refine c_condT st rfl ?_  | refine c_condF st rfl ?_  | ((first | refine o_move st rfl rfl ?_  | refine o_assign st rfl rfl ?_  | refine o_add64 st rfl rfl rfl (by omega) (by omega) ?_  | refine o_sub64 st rfl rfl rfl (by omega) (by omega) ?_); clear st; intro _ st)  | (refine o_gtr st rfl rfl rfl ?_ ?_ <;> clear st <;> intro _ _ st <;> (try (exfalso; omega)))))
    refine post1 st Try.results126 (rd_t st rfl) ?_
    exact ⟨_, b, _, rfl, ⟨c, pad, rfl, rfl⟩, st.ex1 (by repeat constructor)⟩
end Go.Proofs.Ytefnlalldgbcaaa
