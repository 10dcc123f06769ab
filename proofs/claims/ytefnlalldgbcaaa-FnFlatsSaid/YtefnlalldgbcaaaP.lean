/-
  Rules: lists that grow, literals without elements, parts of lists, stores into elements.
-/
import Derived.Test.YtefnlalldgbcaaaO
namespace Go.Proofs.Ytefnlalldgbcaaa
open Go.RowKit

section
variable {P : Program} {w0 w : World} {N : Nat} {a : Act} {E : List (Nat × Value)} {L Lh : List Ent} {K : Act → World → Prop} {Q : Exit → Act → World → Prop}
variable {d : Nat} {ty : TypeId} {pos : String} {aft : Array Edge} {g : Option (Nat × Bool)}

/-- New memory with one new block, of which the cells' beginning is known. -/
theorem St.grown {w' : World} {v' : Value} {e m size : Nat} {cells : List Value} (st : St w0 N a w E L) (hpos : 0 < m) (hg : w.grownBy w' none) (ho : w'.ownsRow w.heap.size e size v' m cells) :
    ∃ b cap pad, v' = .slice (some ⟨b, 0, none⟩) m cap ∧ (cells ++ pad).length = cap * size ∧ St w0 N a w' E (⟨b, true, .cells (cells ++ pad).toArray e (0, 0)⟩ :: L) := by
  obtain ⟨hlen, hown⟩ := ho
  rcases hown with ⟨_, h0⟩ | ⟨gb, cap', cur, rfl, hgb, hcur, hncap, _, hcs, htake⟩
  · omega
  · have hcur' : cur = (cells ++ cur.toList.drop (m * size)).toArray := by
      rw [← htake, List.take_append_drop]
    have hblk : ∀ k, k < w.heap.size → w'.heap[k]? = w.heap[k]? := fun k hk => hg.block k hk (by simp)
    refine ⟨gb, cap', cur.toList.drop (m * size), rfl, ?_, st.env, st.size, st.defers, st.below.trans ⟨hg.os, hg.tape, hg.output, hg.size, fun k hk => hblk k (Nat.lt_of_lt_of_le hk st.below.size)⟩, ?_, ?_⟩
    · rw [← hcs]
      conv => rhs; rw [hcur']
      simp
    · intro x hx
      rcases List.mem_cons.1 hx with rfl | hx
      · exact ⟨by rw [hcur, ← hcur'], fun _ => Nat.le_trans st.below.size hgb⟩
      · have := st.facts x hx
        refine ⟨?_, this.2⟩
        rw [hblk x.b (Array.getElem?_eq_some_iff.1 this.1).1]
        exact this.1
    · refine List.pairwise_cons.2 ⟨fun y hy _ => ?_, st.uniq⟩
      have := (Array.getElem?_eq_some_iff.1 (st.facts y hy).1).1
      simp
      omega

/-- 'append' to a list without room: nil, or empty. -/
theorem o_appendF {t e m c ba offa size bz : Nat} {base : Option Addr} {zs news : List Value} {x y : Operand} [hs : SliceT P t e] [he : ElemT P e size bz zs] (st : St w0 N a w E L)
    (hx : evE E x = some (.slice base 0 0)) (hy : evE E y = some (.slice (some ⟨ba, offa, none⟩) m c))
    (hA : ∀ j u, news[j]? = some u → w.cell? ⟨ba, offa + j, none⟩ = some u) (hl : news.length = m * size) (h1 : ∀ u ∈ news, u.oneCell' = true) (hm : 0 < m)
    (hb1 : m ≤ 9223372036854775807) (hb2 : m * bz ≤ 140737488355328) (hd : Nat.blt d N = true)
    (h : ∀ b' cap' pad' a' w', (news ++ pad').length = cap' * size → St w0 N a' w' ((d, .slice (some ⟨b', 0, none⟩) m cap') :: E) (⟨b', true, .cells (news ++ pad').toArray e (0, 0)⟩ :: L) → K a' w') :
    Oper.wp P ⟨some d, .call { callee := .builtin .append, args := #[x, y], argTypes := #[t, t] }, ty, pos, aft, g⟩ a w K Q := by
  obtain ⟨i, z, hi, hz, hsz, hbz, hzc, hzl, hpos⟩ := he.info
  have hex : ∀ v w', (Builtin.append_ #[t, t] ty #[.slice base 0 0, .slice (some ⟨ba, offa, none⟩) m c]).run P w = .ok v w' → (execOp a.eval ⟨some d, .call { callee := .builtin .append, args := #[x, y], argTypes := #[t, t] }, ty, pos, aft, g⟩).run P w = .ok (.value v) w' := by
    intro v w' hr
    simp [execOp, resolve, invoke, builtin, evE_eval st hx, evE_eval st hy, hr]
  have hnews : ∀ j u, news[j]? = some u → w.cell? ((⟨ba, offa, none⟩ : Addr).add j) = some u := by
    intro j u hj
    rw [Addr.add_lit]
    exact hA j u hj
  have key : ∃ v' w', (Builtin.append_ #[t, t] ty #[.slice base 0 0, .slice (some ⟨ba, offa, none⟩) m c]).run P w = .ok v' w' ∧ w'.ownsRow w.heap.size e size v' m news ∧ w.grownBy w' none := by
    cases base with
    | some b =>
      obtain ⟨v', w', hr, h1, h2⟩ := run_append_arg_grows (P := P) w t ty e i z size bz hs.u hi hz hsz hbz (by rw [hzc]; simpa using hzl) hpos b 0 0 [] (by simp) (by simp) ⟨ba, offa, none⟩ m c news hl hnews (by omega) (by unfold maxLen; omega) (by simpa using hb2)
      exact ⟨v', w', hr, by simpa using h1, h2⟩
    | none =>
      obtain ⟨v', w', hr, h1, h2, _⟩ := run_append_own (P := P) w w.heap.size t ty e i z size bz hs.u hi hz hsz hbz (by rw [hzc]; simpa using hzl) hpos (.slice none 0 0) 0 [] (World.ownsRow_nil w _ e size) ⟨ba, offa, none⟩ m c news hl hnews h1 (by unfold maxLen; omega) (by simpa using hb2) (Nat.le_refl _)
      exact ⟨v', w', hr, by simpa using h1, h2⟩
  obtain ⟨v', w', hr, h2, h3⟩ := key
  obtain ⟨b, cap, pad, rfl, hlen, st'⟩ := st.grown hm h3 h2
  exact o_val (hex _ _ hr) (h b cap pad _ _ hlen (st'.put d hd _))

/-! ## spots -/
/-- The block of a list of spots, with room. -/
abbrev oS (bs : List B3) (pad : List Value) : Obj := .cells (cS bs ++ pad).toArray 26 (0, 0)

theorem RdS.cell {w : World} {ba offa : Nat} {cs : List B3} (h : RdS w (some ⟨ba, offa, none⟩) cs) : ∀ j u, (cS cs)[j]? = some u → w.cell? ⟨ba, offa + j, none⟩ = some u := by
  intro j u hj
  rcases h with rfl | ⟨blk, off, c, t, fr, hb, hw, hsp⟩
  · simp [cS] at hj
  · cases hb
    have hlt : j < cs.length * 3 := by
      have := (List.getElem?_eq_some_iff.1 hj).1
      rwa [cS_length] at this
    have hk : j / 3 < cs.length := by omega
    obtain ⟨g0, g1, g2⟩ := hsp (j / 3) cs[j / 3] (by simp [hk])
    obtain ⟨e0, e1, e2⟩ := cS_get cs (j / 3) cs[j / 3] (by simp [hk])
    rw [cell_of_row w ba _ c t fr hw]
    have hm : j % 3 = 0 ∨ j % 3 = 1 ∨ j % 3 = 2 := by omega
    rcases hm with hm | hm | hm
    · have : j = j / 3 * 3 := by omega
      rw [this] at hj ⊢
      rw [e0] at hj; rw [← hj]; exact g0
    · have : j = j / 3 * 3 + 1 := by omega
      rw [this] at hj ⊢
      rw [e1] at hj; rw [← hj, ← Nat.add_assoc]; exact g1
    · have : j = j / 3 * 3 + 2 := by omega
      rw [this] at hj ⊢
      rw [e2] at hj; rw [← hj, ← Nat.add_assoc]; exact g2

theorem o_appendSp {t cap c b ba offa bz : Nat} {bs cs : List B3} {zs pad : List Value} {x y : Operand} {Lr : List Ent} [hs : SliceT P t 26] [he : ElemT P 26 3 bz zs] (hbz : Nat.ble bz 1000 = true) (st : St w0 N a w E L)
    (hx : evE E x = some (.slice (some ⟨b, 0, none⟩) bs.length cap)) (hy : evE E y = some (.slice (some ⟨ba, offa, none⟩) cs.length c)) (hR : Rem L b (oS bs pad) Lr)
    (hA : RdS w (some ⟨ba, offa, none⟩) cs) (hp : (cS bs ++ pad).length = cap * 3) (hlim : bs.length + cs.length ≤ 100000000000) (hd : Nat.blt d N = true)
    (h : ∀ b' cap' pad' a' w', (cS (bs ++ cs) ++ pad').length = cap' * 3 → St w0 N a' w' ((d, .slice (some ⟨b', 0, none⟩) (bs ++ cs).length cap') :: E) (⟨b', true, oS (bs ++ cs) pad'⟩ :: Lr) → K a' w') :
    Oper.wp P ⟨some d, .call { callee := .builtin .append, args := #[x, y], argTypes := #[t, t] }, ty, pos, aft, g⟩ a w K Q := by
  have hbz' : bz ≤ 1000 := Nat.le_of_ble_eq_true hbz
  refine o_append st hx hy hR hA.cell (cS_length _) hp (cS_length _) (cS_one _) (by omega) ?_ hd ?_
  · calc (bs.length + cs.length) * bz ≤ (bs.length + cs.length) * 1000 := Nat.mul_le_mul_left _ hbz'
      _ ≤ 140737488355328 := by omega
  · intro b' cap' pad' a' w' hl st'
    rw [← List.length_append, ← cS_append] at st'
    rw [← cS_append] at hl
    exact h b' cap' pad' a' w' hl st'

/-- The same, to a list without room. -/
theorem o_appendFp {t c ba offa bz : Nat} {base : Option Addr} {cs : List B3} {zs : List Value} {x y : Operand} [hs : SliceT P t 26] [he : ElemT P 26 3 bz zs] (hbz : Nat.ble bz 1000 = true) (st : St w0 N a w E L)
    (hx : evE E x = some (.slice base 0 0)) (hy : evE E y = some (.slice (some ⟨ba, offa, none⟩) cs.length c))
    (hA : RdS w (some ⟨ba, offa, none⟩) cs) (hm : 0 < cs.length) (hlim : cs.length ≤ 100000000000) (hd : Nat.blt d N = true)
    (h : ∀ b' cap' pad' a' w', (cS cs ++ pad').length = cap' * 3 → St w0 N a' w' ((d, .slice (some ⟨b', 0, none⟩) cs.length cap') :: E) (⟨b', true, oS cs pad'⟩ :: L) → K a' w') :
    Oper.wp P ⟨some d, .call { callee := .builtin .append, args := #[x, y], argTypes := #[t, t] }, ty, pos, aft, g⟩ a w K Q := by
  have hbz' : bz ≤ 1000 := Nat.le_of_ble_eq_true hbz
  refine o_appendF st hx hy hA.cell (cS_length _) (cS_one _) hm (by omega) ?_ hd h
  calc cs.length * bz ≤ cs.length * 1000 := Nat.mul_le_mul_left _ hbz'
    _ ≤ 140737488355328 := by omega

/-- A literal without elements. -/
theorem o_buildSlice0 {t e size bz : Nat} {zs : List Value} [hs : SliceT P t e] [he : ElemT P e size bz zs] (st : St w0 N a w E L) (hd : Nat.blt d N = true)
    (h : ∀ b a' w', St w0 N a' w' ((d, .slice (some ⟨b, 0, none⟩) 0 0) :: E) (⟨b, true, .cells (([] : List Value)).toArray e (0, 0)⟩ :: L) → K a' w') : Oper.wp P ⟨some d, .buildSlice t 0 #[], ty, pos, aft, g⟩ a w K Q := by
  obtain ⟨i', z', hi, hz, hsz, _, hzc, _, _⟩ := he.info
  refine o_val (v := .slice (some ⟨w.heap.size, 0, none⟩) 0 0) (w' := w.alloc (.cells (([] : List Value)).toArray e)) ?_ (h _ _ _ ((st.alloc _).put d hd _))
  have hz0 : (Array.map (fun (x : Nat) => (default : Value)) (Array.range 0)) = #[] := by simp
  simp [execOp, Instr.buildSlice, run_underlying hs.u, sizeOf, typeInfo, hi, newRow, Instr.fill, hz0]
theorem o_buildSlice0S {t bz : Nat} {zs : List Value} [hs : SliceT P t 26] [he : ElemT P 26 3 bz zs] (st : St w0 N a w E L) (hd : Nat.blt d N = true)
    (h : ∀ b a' w', St w0 N a' w' ((d, .slice (some ⟨b, 0, none⟩) ([] : List B3).length 0) :: E) (⟨b, true, oS [] []⟩ :: L) → K a' w') : Oper.wp P ⟨some d, .buildSlice t 0 #[], ty, pos, aft, g⟩ a w K Q :=
  o_buildSlice0 st hd h

/-! ## parts of lists -/
theorem elemOf {t e : TypeId} [hs : SliceT P t e] : P.elem t = e := by simp [Program.elem, hs.u]
theorem sizeOfE {e size bz : Nat} {zs : List Value} [he : ElemT P e size bz zs] (w : World) : (sizeOf e).run P w = .ok size w := by
  obtain ⟨i', z', hi, hz, hsz, _⟩ := he.info
  simp [sizeOf, typeInfo, hi, hsz]

theorem o_sliceLH {t e size bz len cap : Nat} {zs : List Value} {base : Option Addr} {x l h : Operand} {kl kh : IntKind} {lo hi : Int} [hs : SliceT P t e] [he : ElemT P e size bz zs] (st : St w0 N a w E L)
    (hx : evE E x = some (.slice base len cap)) (hl : evE E l = some (.int kl lo)) (hh : evE E h = some (.int kh hi)) (h0 : 0 ≤ lo) (h1 : lo ≤ hi) (h2 : hi ≤ cap) (hd : Nat.blt d N = true)
    (hk : ∀ a', St w0 N a' w ((d, .slice (if cap = lo.toNat then base else base.map (·.add (lo.toNat * size))) (hi.toNat - lo.toNat) (cap - lo.toNat)) :: E) L → K a' w) : Oper.wp P ⟨some d, .slice t x (some l) (some h) none, ty, pos, aft, g⟩ a w K Q := by
  have hel : P.elem t = e := elemOf
  have ht : P.underlying t = some (.slice (P.elem t)) := by rw [hel]; exact hs.u
  refine o_val (w' := w) ?_ (hk _ (st.put d hd _))
  simp only [execOp, Option.map_some, Option.map_none, evE_eval st hx, evE_eval st hl, evE_eval st hh, Sem.run_bind, run_sliceAt_slice (P := P) w t _ _ _ _ ht, run_slice_lh (P := P) w t base len cap ht kl kh lo hi h0 h1 h2, hel, sizeOfE (P := P) (e := e) w, Result.andThen_ok, Sem.run_pure]
  rfl
theorem o_sliceL {t e size bz len cap : Nat} {zs : List Value} {base : Option Addr} {x l : Operand} {kl : IntKind} {lo : Int} [hs : SliceT P t e] [he : ElemT P e size bz zs] (st : St w0 N a w E L)
    (hx : evE E x = some (.slice base len cap)) (hl : evE E l = some (.int kl lo)) (h0 : 0 ≤ lo) (h1 : lo ≤ len) (hd : Nat.blt d N = true)
    (hk : ∀ a', St w0 N a' w ((d, .slice (if cap = lo.toNat then base else base.map (·.add (lo.toNat * size))) (len - lo.toNat) (cap - lo.toNat)) :: E) L → K a' w) : Oper.wp P ⟨some d, .slice t x (some l) none none, ty, pos, aft, g⟩ a w K Q := by
  have hel : P.elem t = e := elemOf
  have ht : P.underlying t = some (.slice (P.elem t)) := by rw [hel]; exact hs.u
  refine o_val (w' := w) ?_ (hk _ (st.put d hd _))
  simp only [execOp, Option.map_some, Option.map_none, evE_eval st hx, evE_eval st hl, Sem.run_bind, run_sliceAt_slice (P := P) w t _ _ _ _ ht, run_slice_l (P := P) w t base len cap ht kl lo h0 h1, hel, sizeOfE (P := P) (e := e) w, Result.andThen_ok, Sem.run_pure]
  rfl
theorem RdS.part {w : World} {blk off : Nat} {bs : List B3} (h : RdS w (some ⟨blk, off, none⟩) bs) (k n : Nat) : RdS w (some ⟨blk, off + k * 3, none⟩) ((bs.drop k).take n) := by
  rcases h with rfl | ⟨b, o, c, t, fr, hb, hw, hsp⟩
  · left; simp
  · cases hb
    refine RdS.of hw ?_
    intro i b hi
    have h1 : bs[k + i]? = some b := by
      rw [List.getElem?_take] at hi
      split at hi
      · rwa [List.getElem?_drop] at hi
      · cases hi
    have := hsp (k + i) b h1
    rw [Nat.add_mul, ← Nat.add_assoc] at this
    exact this

/-! ## classes of lists -/
theorem IsSL.nil (ss : List S3) : IsSL [] (ss.take 0) := ⟨by simp, by simp⟩
theorem IsSL.snoc {bs : List B3} {b : B3} {ss : List S3} {s : S3} (h : IsSL bs (ss.take bs.length)) (hs : ss[bs.length]? = some s) (hb : IsS b s) : IsSL (bs ++ [b]) (ss.take (bs ++ [b]).length) := by
  have hlt : bs.length < ss.length := (List.getElem?_eq_some_iff.1 hs).1
  refine ⟨by simp; omega, ?_⟩
  intro i b' s' hi hs'
  rw [List.getElem?_take] at hs'
  split at hs'
  · rename_i hi'
    rw [List.length_append] at hi'
    simp at hi'
    by_cases hlast : i = bs.length
    · subst hlast
      rw [List.getElem?_append_right (Nat.le_refl _)] at hi
      simp at hi
      subst hi
      rw [hs] at hs'
      cases hs'
      exact hb
    · rw [List.getElem?_append_left (by omega)] at hi
      refine h.get i b' s' hi ?_
      rw [List.getElem?_take, if_pos (by omega)]
      exact hs'
  · cases hs'
theorem IsSL.all {bs : List B3} {ss : List S3} (h : IsSL bs (ss.take bs.length)) (hl : bs.length = ss.length) : IsSL bs ss := by
  rwa [hl, List.take_length] at h
theorem IsSL.part {bs : List B3} {ss : List S3} (h : IsSL bs ss) (k n : Nat) : IsSL ((bs.drop k).take n) ((ss.drop k).take n) := by
  refine ⟨by simp [h.len], ?_⟩
  intro i b s hb hs
  rw [List.getElem?_take] at hb hs
  split at hb
  · rw [List.getElem?_drop] at hb hs
    simp_all
    exact h.get _ _ _ hb hs
  · cases hb
theorem IsSL.at {bs : List B3} {ss : List S3} (h : IsSL bs ss) {i : Nat} (hi : i < bs.length) : ∃ s, ss[i]? = some s ∧ IsS bs[i] s := by
  have hi' : i < ss.length := by rw [← h.len]; exact hi
  exact ⟨ss[i], by simp [hi'], h.get i _ _ (by simp [hi]) (by simp [hi'])⟩

/-- A list of spots of its own, of the classes ss. -/
def OwnL (ss : List S3) (v : Value) (b : Nat) (o : Obj) : Prop := ∃ bs cap pad, v = .slice (some ⟨b, 0, none⟩) bs.length cap ∧ o = oS bs pad ∧ (cS bs ++ pad).length = cap * 3 ∧ IsSL bs ss

end
end Go.Proofs.Ytefnlalldgbcaaa
