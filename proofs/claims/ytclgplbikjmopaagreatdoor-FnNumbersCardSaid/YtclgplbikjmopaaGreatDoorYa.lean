/-
  General rules: lists that grow, calls that change a block, complex numbers, rests. (printed by gen_ya.py)
-/
import Derived.Test.YtclgplbikjmopaaGreatDoorStep
import Derived.Test.YtclgplbikjmopaaGreatDoorTypes
import Derived.Test.YtclgplbikjmopaaGreatDoorDraw
import Derived.ArgAppend
import Derived.KernelRfl
namespace Go.Proofs.YtclgplbikjmopaaGreatDoor
open Go.RowKit

theorem St.addOld {w0 w : World} {N : Nat} {a : Act} {E : List (Nat × Value)} {L : List Ent} (st : St w0 N a w E L) {b : Nat} {o : Obj} (h : w0.heap[b]? = some o) : St w0 N a w E (⟨b, false, o⟩ :: L) := by
  have hlt : b < w0.heap.size := (Array.getElem?_eq_some_iff.1 h).1
  refine ⟨st.env, st.size, st.defers, st.below, ?_, ?_⟩
  · intro e he
    rcases List.mem_cons.1 he with rfl | he
    · exact ⟨by rw [st.below.block b hlt]; exact h, fun h => by cases h⟩
    · exact st.facts e he
  · refine List.pairwise_cons.2 ⟨?_, st.uniq⟩
    intro y hy ho
    rcases ho with ho | ho
    · cases ho
    · have := (st.facts y hy).2 ho
      show b ≠ y.b
      omega
/-- The list without the entry of an own block. -/
inductive Rem : List Ent → Nat → Obj → List Ent → Prop
  | here {b o L} : Rem (⟨b, true, o⟩ :: L) b o L
  | there {e L b o L'} : Rem L b o L' → Rem (e :: L) b o (e :: L')
theorem Rem.at_ {L b o L'} (h : Rem L b o L') : At L b true o := by
  induction h with
  | here => exact .here
  | there _ ih => exact .there ih
theorem Rem.sub {L b o L'} (h : Rem L b o L') : List.Sublist L' L := by
  induction h with
  | here => exact List.Sublist.cons _ (List.Sublist.refl _)
  | there _ ih => exact List.Sublist.cons_cons _ ih
theorem Rem.other {L b o L'} (h : Rem L b o L') : L.Pairwise (fun x y => (x.own = true ∨ y.own = true) → x.b ≠ y.b) → ∀ e ∈ L', e.b ≠ b := by
  induction h with
  | here =>
    intro hp e he
    exact ((List.pairwise_cons.1 hp).1 e he (.inl rfl)).symm
  | there hr ih =>
    intro hp e he
    obtain ⟨h1, h2⟩ := List.pairwise_cons.1 hp
    rcases List.mem_cons.1 he with rfl | he
    · exact h1 _ hr.at_.mem (.inr rfl)
    · exact ih h2 e he
section
variable {P : Program} {w0 w : World} {N : Nat} {a : Act} {E : List (Nat × Value)} {L Lh : List Ent} {K : Act → World → Prop} {Q : Exit → Act → World → Prop}
variable {d : Nat} {ty : TypeId} {pos : String} {aft : Array Edge} {g : Option (Nat × Bool)}
/-- One own block gives way to another (or to itself, changed). -/
theorem St.swap {w' : World} {b b' : Nat} {o o' : Obj} {Lr : List Ent} (st : St w0 N a w E L) (hR : Rem L b o Lr) (hb : Below w0.heap.size w w') (hk : ∀ e ∈ Lr, w'.heap[e.b]? = some e.o) (hn : w'.heap[b']? = some o') (hge : w0.heap.size ≤ b') (hne : ∀ e ∈ Lr, e.b ≠ b') : St w0 N a w' E (⟨b', true, o'⟩ :: Lr) := by
  refine ⟨st.env, st.size, st.defers, st.below.trans hb, ?_, ?_⟩
  · intro e he
    rcases List.mem_cons.1 he with rfl | he
    · exact ⟨hn, fun _ => hge⟩
    · exact ⟨hk e he, (st.facts e (hR.sub.mem he)).2⟩
  · exact List.pairwise_cons.2 ⟨fun y hy _ => (hne y hy).symm, st.uniq.sublist hR.sub⟩
theorem o_append {t e n cap m c b ba offa size bz : Nat} {zs olds pad news : List Value} {x y : Operand} {Lr : List Ent} [hs : SliceT P t e] [he : ElemT P e size bz zs] (st : St w0 N a w E L)
    (hx : evE E x = some (.slice (some ⟨b, 0, none⟩) n cap)) (hy : evE E y = some (.slice (some ⟨ba, offa, none⟩) m c)) (hR : Rem L b (.cells (olds ++ pad).toArray e (0, 0)) Lr)
    (hA : ∀ j u, news[j]? = some u → w.cell? ⟨ba, offa + j, none⟩ = some u) (ho : olds.length = n * size) (hp : (olds ++ pad).length = cap * size) (hl : news.length = m * size) (h1 : ∀ u ∈ news, u.oneCell' = true)
    (hb1 : n + m ≤ 9223372036854775807) (hb2 : (n + m) * bz ≤ 140737488355328) (hd : Nat.blt d N = true)
    (h : ∀ b' cap' pad' a' w', (olds ++ news ++ pad').length = cap' * size → St w0 N a' w' ((d, .slice (some ⟨b', 0, none⟩) (n + m) cap') :: E) (⟨b', true, .cells (olds ++ news ++ pad').toArray e (0, 0)⟩ :: Lr) → K a' w') :
    Oper.wp P ⟨some d, .call { callee := .builtin .append, args := #[x, y], argTypes := #[t, t] }, ty, pos, aft, g⟩ a w K Q := by
  obtain ⟨i, z, hi, hz, hsz, hbz, hzc, hzl, hpos⟩ := he.info
  have hex : ∀ v w', (Builtin.append_ #[t, t] ty #[.slice (some ⟨b, 0, none⟩) n cap, .slice (some ⟨ba, offa, none⟩) m c]).run P w = .ok v w' → (execOp a.eval ⟨some d, .call { callee := .builtin .append, args := #[x, y], argTypes := #[t, t] }, ty, pos, aft, g⟩).run P w = .ok (.value v) w' := by
    intro v w' hr
    simp [execOp, resolve, invoke, builtin, evE_eval st hx, evE_eval st hy, hr]
  have hnews : ∀ j u, news[j]? = some u → w.cell? ((⟨ba, offa, none⟩ : Addr).add j) = some u := by
    intro j u hj
    rw [Addr.add_lit]
    exact hA j u hj
  by_cases hroom : n + m ≤ cap
  · have hfit : 0 + n * size + 0 + news.length ≤ (olds ++ pad).length := by
      rw [hp, hl]
      have : (n + m) * size ≤ cap * size := Nat.mul_le_mul_right _ hroom
      rw [Nat.add_mul] at this
      omega
    obtain ⟨w', hst, hw, hb, hoth⟩ := run_storeCells_mid (P := P) b e news (0 + n * size) 0 (olds ++ pad) w (st.heap hR.at_) hfit h1
    have hfc := run_firstCells_some (P := P) w i.size m ⟨ba, offa, none⟩ m c news (by rw [hsz]; exact hl) hnews
    rw [hsz] at hfc
    have hr : (Builtin.append_ #[t, t] ty #[.slice (some ⟨b, 0, none⟩) n cap, .slice (some ⟨ba, offa, none⟩) m c]).run P w = .ok (.slice (some ⟨b, 0, none⟩) (n + m) cap) w' := by
      simp only [Nat.zero_add] at hst
      simp [Builtin.append_, run_underlying hs.u, sizeOf, typeInfo, hi, Builtin.lenOf, hroom, hfc, Addr.add_lit, hsz, hst]
    refine o_val (hex _ _ hr) (h b cap (pad.drop news.length) _ _ ?_ ((st.swap hR (hb.mono (st.ge hR.at_)) ?_ ?_ (st.ge hR.at_) (hR.other st.uniq)).put d hd _))
    · rw [← hp]
      have : news.length ≤ pad.length := by
        rw [List.length_append] at hfit
        omega
      simp only [List.length_append, List.length_drop]
      omega
    · intro x hx'
      rw [hoth x.b (hR.other st.uniq x hx') (Array.getElem?_eq_some_iff.1 (st.facts x (hR.sub.mem hx')).1).1]
      exact (st.facts x (hR.sub.mem hx')).1
    · rw [hw]
      have e1 : (olds ++ pad).take (0 + n * size + 0) = olds := by
        rw [show 0 + n * size + 0 = olds.length by omega, List.take_left]
      have e2 : (olds ++ pad).drop (0 + n * size + 0 + news.length) = pad.drop news.length := by
        rw [show 0 + n * size + 0 + news.length = olds.length + news.length by omega, ← List.drop_drop, List.drop_left]
      rw [e1, e2]
  · have holds : ∀ j u, olds[j]? = some u → w.cell? ((⟨b, 0, none⟩ : Addr).add j) = some u := by
      intro j u hj
      rw [Addr.add_lit, Nat.zero_add, cell_of_row w b j _ _ _ (st.heap hR.at_)]
      have hj' := (List.getElem?_eq_some_iff.1 hj).1
      simp only [List.getElem?_toArray]
      rw [List.getElem?_append_left hj']
      exact hj
    obtain ⟨v', w', hr, ⟨hlen, hown⟩, hg⟩ := run_append_arg_grows (P := P) w t ty e i z size bz hs.u hi hz hsz hbz (by rw [hzc]; simpa using hzl) hpos ⟨b, 0, none⟩ n cap olds ho holds ⟨ba, offa, none⟩ m c news hl hnews (by omega) (by unfold maxLen; omega) hb2
    rcases hown with ⟨_, h0⟩ | ⟨gb, cap', cur, rfl, hgb, hcur, hncap, _, hcs, htake⟩
    · omega
    · have hcur' : cur = (olds ++ news ++ cur.toList.drop ((n + m) * size)).toArray := by
        rw [← htake, List.take_append_drop]
      have hblk : ∀ k, k < w.heap.size → w'.heap[k]? = w.heap[k]? := fun k hk => hg.block k hk (by simp)
      refine o_val (hex _ _ hr) (h gb cap' (cur.toList.drop ((n + m) * size)) _ _ ?_ ((st.swap hR ⟨hg.os, hg.tape, hg.output, hg.size, fun k hk => hblk k (Nat.lt_of_lt_of_le hk st.below.size)⟩ ?_ ?_ (Nat.le_trans st.below.size hgb) ?_).put d hd _))
      · rw [← hcs]
        conv => rhs; rw [hcur']
        simp
      · intro x hx'
        have := (st.facts x (hR.sub.mem hx')).1
        rw [hblk x.b (Array.getElem?_eq_some_iff.1 this).1]
        exact this
      · rw [hcur, ← hcur']
      · intro x hx'
        have := (Array.getElem?_eq_some_iff.1 (st.facts x (hR.sub.mem hx')).1).1
        omega
/-- A call that gives v and changes just the block b, to o'. -/
def CU (P : Program) (f : FuncId) (vs : List Value) (w : World) (v : Value) (b : Nat) (o' : Obj) : Prop :=
  Calls P f vs.toArray w fun e w' => e = .returned v ∧ Below b w w' ∧ (∀ k, k ≠ b → k < w.heap.size → w'.heap[k]? = w.heap[k]?) ∧ w'.heap[b]? = some o'
theorem o_callU {f : FuncId} {args : List Operand} {tys : Array TypeId} {vs : List Value} {v : Value} {b : Nat} {o o' : Obj} {L' : List Ent} [hf : FnT P f] (st : St w0 N a w E L) (ha : evs E args = some vs)
    (hc : CU P f vs w v b o') (hU : Upd L b o o' L') (hd : Nat.blt d N = true) (h : ∀ a' w', St w0 N a' w' ((d, v) :: E) L' → K a' w') : Oper.wp P ⟨some d, .call { callee := .value (.func f), args := args.toArray, argTypes := tys }, ty, pos, aft, g⟩ a w K Q :=
  o_call st ha hc fun _ _ ⟨he, hb, hk, hn⟩ => ⟨_, he, h _ _ ((st.upd hU hb hk hn).put d hd _)⟩
/-- The other blocks. -/
def others (w : World) (b : Nat) : List Ent := (List.range w.heap.size).filterMap fun k => if k = b then none else (w.heap[k]?).map fun o => ⟨k, false, o⟩
theorem mem_others {w : World} {b : Nat} {e : Ent} (h : e ∈ others w b) : e.own = false ∧ e.b ≠ b ∧ w.heap[e.b]? = some e.o := by
  unfold others at h
  obtain ⟨k, hk, he⟩ := List.mem_filterMap.1 h
  split at he
  · cases he
  · cases ho : w.heap[k]? with
    | none => rw [ho] at he; cases he
    | some o => rw [ho] at he; cases he; exact ⟨rfl, ‹_›, ho⟩
theorem others_mem {w : World} {b k : Nat} (hk : k < w.heap.size) (hne : k ≠ b) : (⟨k, false, w.heap[k]⟩ : Ent) ∈ others w b := by
  unfold others
  refine List.mem_filterMap.2 ⟨k, List.mem_range.2 hk, ?_⟩
  rw [if_neg hne]
  simp [hk]
theorem enterU {f : FuncId} {fn : Func} {c : Code} {args : List Value} {v : Value} {b : Nat} {o o' : Obj} (hb0 : w.heap[b]? = some o) (hf : P.funcs[f]? = some fn) (hb : fn.body = some c) (hE : envOf 0 args = E) (hN : fn.ntmps = N) (hn : Nat.ble args.length N = true)
    (h : ∀ a w0 Lf, St w0 N a w E (⟨b, true, o⟩ :: Lf) → c.wp P (bodyPost P fn (fun e w' => e = .returned v ∧ ∃ a', St w0 N a' w' [] (⟨b, true, o'⟩ :: Lf))) a w) : CU P f args w v b o' := by
  have hlt : b < w.heap.size := (Array.getElem?_eq_some_iff.1 hb0).1
  let w1 : World := { w with heap := w.heap.extract 0 b }
  have hs1 : w1.heap.size = b := by simp [w1]; omega
  have hbel : Below w1.heap.size w1 w := by
    refine ⟨rfl, rfl, rfl, by rw [hs1]; omega, ?_⟩
    intro k hk
    rw [hs1] at hk
    show w.heap[k]? = (w.heap.extract 0 b)[k]?
    rw [Array.getElem?_extract, if_pos (by omega), Nat.zero_add]
  have hent : ∀ st0, Calls P f args.toArray w (fun e w' => e = .returned v ∧ ∃ a', St w1 N a' w' [] (⟨b, true, o'⟩ :: others w b)) := fun st0 => calls_of_wp hf hb (h _ w1 (others w b) st0)
  refine (hent ⟨?_, ?_, rfl, hbel, ?_, ?_⟩).mono ?_
  rotate_left 4
  · rintro e w' ⟨he, a', st⟩
    have hfact : ∀ k, k ≠ b → k < w.heap.size → w'.heap[k]? = w.heap[k]? := by
      intro k hne hk
      have := (st.facts _ (List.mem_cons_of_mem _ (others_mem hk hne))).1
      rw [this]
      simp [hk]
    have hbb := (st.facts _ List.mem_cons_self).1
    refine ⟨he, ⟨?_, ?_, ?_, ?_, ?_⟩, hfact, hbb⟩
    · exact st.below.os.trans hbel.os.symm
    · exact st.below.tape.trans hbel.tape.symm
    · exact st.below.output.trans hbel.output.symm
    · have : w.heap.size - 1 < w'.heap.size := by
        by_cases hk : w.heap.size - 1 = b
        · rw [hk]; exact (Array.getElem?_eq_some_iff.1 hbb).1
        · have h1 := hfact (w.heap.size - 1) hk (by omega)
          have h2 : w.heap[w.heap.size - 1]? = some w.heap[w.heap.size - 1] := by simp
          rw [h2] at h1
          exact (Array.getElem?_eq_some_iff.1 h1).1
      omega
    · intro k hk
      exact hfact k (by omega) (by omega)
  · intro i u hu
    subst hE
    obtain ⟨_, h2⟩ := lk_envOf args 0 i u hu
    have hi : i < args.length := by
      have := (List.getElem?_eq_some_iff.1 h2).1
      simpa using this
    simp only [Nat.sub_zero] at h2
    simp [Array.getElem?_append, hi]
    simpa [hi] using h2
  · have : args.length ≤ N := by simpa using Nat.le_of_ble_eq_true hn
    simp [hN]
    omega
  · intro e he
    rcases List.mem_cons.1 he with rfl | he
    · exact ⟨hb0, fun _ => by rw [hs1]; exact Nat.le_refl _⟩
    · have := mem_others he
      exact ⟨this.2.2, fun h => by rw [this.1] at h; cases h⟩
  · refine List.pairwise_cons.2 ⟨fun e he _ => (mem_others he).2.1.symm, ?_⟩
    refine List.Pairwise.imp_of_mem (R := fun _ _ => True) ?_ (List.pairwise_of_forall (fun _ _ => trivial))
    intro x y hx hy _ ho
    rcases ho with ho | ho
    · rw [(mem_others hx).1] at ho; cases ho
    · rw [(mem_others hy).1] at ho; cases ho
/-- New memory with one new block, of which the cells' beginning is known. -/
theorem St.grown {w' : World} {v' : Value} {e m size : Nat} {cells : List Value} (st : St w0 N a w E L) (hpos : 0 < m) (hg : w.grownBy w' none) (ho : w'.ownsRow w.heap.size e size v' m cells) :
    ∃ b cap pad, v' = .slice (some ⟨b, 0, none⟩) m cap ∧ (cells ++ pad).length = cap * size ∧ St w0 N a w' E (⟨b, true, .cells (cells ++ pad).toArray e (0, 0)⟩ :: L) := by
  obtain ⟨hlen, hown⟩ := ho
  rcases hown with ⟨_, h0⟩ | ⟨gb, cap', cur, rfl, hgb, hcur, hncap, _, hcs, htake⟩
  · omega
  · have hcur' : cur = (cells ++ cur.toList.drop (m * size)).toArray := by
      rw [← htake, List.take_append_drop]
    have hblk : ∀ k, k < w.heap.size → w'.heap[k]? = w.heap[k]? := fun k hk => hg.block k hk (by simp)
    refine ⟨gb, cap', cur.toList.drop (m * size), rfl, ?_, st.env, st.size, st.defers, st.below.trans ⟨hg.os, hg.tape, hg.output, hg.size, fun k hk => hblk k (Nat.lt_of_lt_of_le hk st.below.size)⟩, ?_, ?_⟩
    · rw [← hcs]
      conv => rhs; rw [hcur']
      simp
    · intro x hx
      rcases List.mem_cons.1 hx with rfl | hx
      · exact ⟨by rw [hcur, ← hcur'], fun _ => Nat.le_trans st.below.size hgb⟩
      · have := st.facts x hx
        refine ⟨?_, this.2⟩
        rw [hblk x.b (Array.getElem?_eq_some_iff.1 this.1).1]
        exact this.1
    · refine List.pairwise_cons.2 ⟨fun y hy _ => ?_, st.uniq⟩
      have := (Array.getElem?_eq_some_iff.1 (st.facts y hy).1).1
      simp
      omega
/-- 'append' to a list without room: nil, or empty. -/
theorem o_appendF {t e m c ba offa size bz : Nat} {base : Option Addr} {zs news : List Value} {x y : Operand} [hs : SliceT P t e] [he : ElemT P e size bz zs] (st : St w0 N a w E L)
    (hx : evE E x = some (.slice base 0 0)) (hy : evE E y = some (.slice (some ⟨ba, offa, none⟩) m c))
    (hA : ∀ j u, news[j]? = some u → w.cell? ⟨ba, offa + j, none⟩ = some u) (hl : news.length = m * size) (h1 : ∀ u ∈ news, u.oneCell' = true) (hm : 0 < m)
    (hb1 : m ≤ 9223372036854775807) (hb2 : m * bz ≤ 140737488355328) (hd : Nat.blt d N = true)
    (h : ∀ b' cap' pad' a' w', (news ++ pad').length = cap' * size → St w0 N a' w' ((d, .slice (some ⟨b', 0, none⟩) m cap') :: E) (⟨b', true, .cells (news ++ pad').toArray e (0, 0)⟩ :: L) → K a' w') :
    Oper.wp P ⟨some d, .call { callee := .builtin .append, args := #[x, y], argTypes := #[t, t] }, ty, pos, aft, g⟩ a w K Q := by
  obtain ⟨i, z, hi, hz, hsz, hbz, hzc, hzl, hpos⟩ := he.info
  have hex : ∀ v w', (Builtin.append_ #[t, t] ty #[.slice base 0 0, .slice (some ⟨ba, offa, none⟩) m c]).run P w = .ok v w' → (execOp a.eval ⟨some d, .call { callee := .builtin .append, args := #[x, y], argTypes := #[t, t] }, ty, pos, aft, g⟩).run P w = .ok (.value v) w' := by
    intro v w' hr
    simp [execOp, resolve, invoke, builtin, evE_eval st hx, evE_eval st hy, hr]
  have hnews : ∀ j u, news[j]? = some u → w.cell? ((⟨ba, offa, none⟩ : Addr).add j) = some u := by
    intro j u hj
    rw [Addr.add_lit]
    exact hA j u hj
  have key : ∃ v' w', (Builtin.append_ #[t, t] ty #[.slice base 0 0, .slice (some ⟨ba, offa, none⟩) m c]).run P w = .ok v' w' ∧ w'.ownsRow w.heap.size e size v' m news ∧ w.grownBy w' none := by
    cases base with
    | some b =>
      obtain ⟨v', w', hr, h1, h2⟩ := run_append_arg_grows (P := P) w t ty e i z size bz hs.u hi hz hsz hbz (by rw [hzc]; simpa using hzl) hpos b 0 0 [] (by simp) (by simp) ⟨ba, offa, none⟩ m c news hl hnews (by omega) (by unfold maxLen; omega) (by simpa using hb2)
      exact ⟨v', w', hr, by simpa using h1, h2⟩
    | none =>
      obtain ⟨v', w', hr, h1, h2, _⟩ := run_append_own (P := P) w w.heap.size t ty e i z size bz hs.u hi hz hsz hbz (by rw [hzc]; simpa using hzl) hpos (.slice none 0 0) 0 [] (World.ownsRow_nil w _ e size) ⟨ba, offa, none⟩ m c news hl hnews h1 (by unfold maxLen; omega) (by simpa using hb2) (Nat.le_refl _)
      exact ⟨v', w', hr, by simpa using h1, h2⟩
  obtain ⟨v', w', hr, h2, h3⟩ := key
  obtain ⟨b, cap, pad, rfl, hlen, st'⟩ := st.grown hm h3 h2
  exact o_val (hex _ _ hr) (h b cap pad _ _ hlen (st'.put d hd _))
/-- A literal without elements. -/
theorem o_buildSlice0 {t e size bz : Nat} {zs : List Value} [hs : SliceT P t e] [he : ElemT P e size bz zs] (st : St w0 N a w E L) (hd : Nat.blt d N = true)
    (h : ∀ b a' w', St w0 N a' w' ((d, .slice (some ⟨b, 0, none⟩) 0 0) :: E) (⟨b, true, .cells (([] : List Value)).toArray e (0, 0)⟩ :: L) → K a' w') : Oper.wp P ⟨some d, .buildSlice t 0 #[], ty, pos, aft, g⟩ a w K Q := by
  obtain ⟨i', z', hi, hz, hsz, _, hzc, _, _⟩ := he.info
  refine o_val (v := .slice (some ⟨w.heap.size, 0, none⟩) 0 0) (w' := w.alloc (.cells (([] : List Value)).toArray e)) ?_ (h _ _ _ ((st.alloc _).put d hd _))
  have hz0 : (Array.map (fun (x : Nat) => (default : Value)) (Array.range 0)) = #[] := by simp
  simp [execOp, Instr.buildSlice, run_underlying hs.u, sizeOf, typeInfo, hi, newRow, Instr.fill, hz0]
theorem elemOf {t e : TypeId} [hs : SliceT P t e] : P.elem t = e := by simp [Program.elem, hs.u]
theorem sizeOfE {e size bz : Nat} {zs : List Value} [he : ElemT P e size bz zs] (w : World) : (sizeOf e).run P w = .ok size w := by
  obtain ⟨i', z', hi, hz, hsz, _⟩ := he.info
  simp [sizeOf, typeInfo, hi, hsz]
/-- What is known, as old. -/
def asOld (L : List Ent) : List Ent := L.map fun e => ⟨e.b, false, e.o⟩
theorem mem_asOld {L : List Ent} {e : Ent} (h : e ∈ asOld L) : e.own = false ∧ ∃ ow, (⟨e.b, ow, e.o⟩ : Ent) ∈ L := by
  obtain ⟨f, hf, rfl⟩ := List.mem_map.1 h
  exact ⟨rfl, f.own, hf⟩
/-- A walk goes on from where it stands: all that is known is old now. -/
theorem St.here (st : St w0 N a w E L) : St w N a w E (asOld L) := by
  refine ⟨st.env, st.size, st.defers, Below.refl _ _, ?_, ?_⟩
  · intro e he
    obtain ⟨h1, ow, h2⟩ := mem_asOld he
    exact ⟨(st.facts _ h2).1, fun ho => by rw [h1] at ho; cases ho⟩
  · refine List.Pairwise.imp_of_mem (R := fun _ _ => True) ?_ (List.pairwise_of_forall (fun _ _ => trivial))
    intro x y hx hy _ ho
    rw [(mem_asOld hx).1, (mem_asOld hy).1] at ho
    rcases ho with ho | ho <;> cases ho
/-- And back. -/
theorem St.back {a' : Act} {w' : World} {E' : List (Nat × Value)} {L' : List Ent} (st : St w0 N a w E L) (st' : St w N a' w' E' L') : St w0 N a' w' E' L' :=
  ⟨st'.env, st'.size, st'.defers, st.below.trans (st'.below.mono st.below.size), fun e he => ⟨(st'.facts e he).1, fun ho => Nat.le_trans st.below.size ((st'.facts e he).2 ho)⟩, st'.uniq⟩
/-- 'append' of one value of one cell to an own list. -/
theorem o_append1V {t e n cap b ba bz : Nat} {olds pad : List Value} {v1 : Value} {zs : List Value} {x y : Operand} {Lr : List Ent} {ow : Bool} [hs : SliceT P t e] [he : ElemT P e 1 bz zs] (hbz : Nat.ble bz 1000 = true) (st : St w0 N a w E L)
    (hx : evE E x = some (.slice (some ⟨b, 0, none⟩) n cap)) (hy : evE E y = some (.slice (some ⟨ba, 0, none⟩) 1 1)) (hR : Rem L b (.cells (olds ++ pad).toArray e (0, 0)) Lr)
    (hA : At L ba ow (.cells [v1].toArray e (0, 0))) (hn : olds.length = n) (hp : (olds ++ pad).length = cap) (h1 : v1.oneCell' = true) (hlim : n ≤ 1000000000) (hd : Nat.blt d N = true)
    (h : ∀ b' cap' pad' a' w', (olds ++ [v1] ++ pad').length = cap' → St w0 N a' w' ((d, .slice (some ⟨b', 0, none⟩) (n + 1) cap') :: E) (⟨b', true, .cells (olds ++ [v1] ++ pad').toArray e (0, 0)⟩ :: Lr) → K a' w') :
    Oper.wp P ⟨some d, .call { callee := .builtin .append, args := #[x, y], argTypes := #[t, t] }, ty, pos, aft, g⟩ a w K Q := by
  have hbz' : bz ≤ 1000 := Nat.le_of_ble_eq_true hbz
  refine o_append (size := 1) (news := [v1]) (olds := olds) st hx hy hR ?_ (by omega) (by omega) (by simp) (by simpa using h1) (by omega) ?_ hd ?_
  · intro j u hj
    rw [cell_known st hA rfl]
    simpa using hj
  · calc (n + 1) * bz ≤ (n + 1) * 1000 := Nat.mul_le_mul_left _ hbz'
      _ ≤ 140737488355328 := by omega
  · intro b' cap' pad' a' w' hl st'
    exact h b' cap' pad' a' w' (by omega) st'
/-- The first two blocks in the other order. -/
theorem St.swap2 {e1 e2 : Ent} (st : St w0 N a w E (e1 :: e2 :: L)) : St w0 N a w E (e2 :: e1 :: L) := by
  refine ⟨st.env, st.size, st.defers, st.below, fun e he => st.facts e (by simp at he ⊢; rcases he with h | h | h; exact .inr (.inl h); exact .inl h; exact .inr (.inr h)), ?_⟩
  obtain ⟨h1, h2⟩ := List.pairwise_cons.1 st.uniq
  obtain ⟨h3, h4⟩ := List.pairwise_cons.1 h2
  refine List.pairwise_cons.2 ⟨?_, List.pairwise_cons.2 ⟨fun e he => h1 e (List.mem_cons_of_mem _ he), h4⟩⟩
  intro e he ho
  rcases List.mem_cons.1 he with rfl | he
  · exact (h1 e2 List.mem_cons_self ho.symm).symm
  · exact h3 e he ho
/-- The block that a slot points to, first. -/
theorem St.front (i : Nat) {b : Nat} {o : Obj} {Lr : List Ent} (st : St w0 N a w E L) (_ : lk E i = some (.pointer (some ⟨b, 0, none⟩))) (hR : Rem L b o Lr) : St w0 N a w E (⟨b, true, o⟩ :: Lr) := by
  refine ⟨st.env, st.size, st.defers, st.below, ?_, List.pairwise_cons.2 ⟨fun e he _ => (hR.other st.uniq e he).symm, st.uniq.sublist hR.sub⟩⟩
  intro e he
  rcases List.mem_cons.1 he with rfl | he
  · exact st.facts _ hR.at_.mem
  · exact st.facts e (hR.sub.mem he)
theorem run_remN (w : World) (i j : Nat) (hj : 0 < j) : (Op.intDiv .rem .i64 (i : Int) (j : Int)).run P w = .ok (.int .i64 ((i % j : Nat) : Int)) w := by
  have ht : Int.tmod (i : Int) (j : Int) = ((i % j : Nat) : Int) := rfl
  unfold Op.intDiv
  rw [if_neg (by omega)]
  simp only [ht]
  rfl
theorem v_rem64 {x y : Operand} {t ys : TypeId} {i j : Nat} (st : St w0 N a w E L) (hx : evE E x = some (.int .i64 (i : Int))) (hy : evE E y = some (.int .i64 (j : Int))) (hj : 0 < j) : Vl P a Lh (.binOp .rem t x y ys) (.int .i64 ((i % j : Nat) : Int)) := by
  intro d ty pos aft g w' _
  simp only [execOp, evE_eval st hx, evE_eval st hy, binOp_rem, eqGuard_at_int, Sem.run_bind, Sem.run_pure, Result.andThen_ok, run_remN (P := P) w' i j hj]
theorem o_rem64 {x y : Operand} {t ys : TypeId} {i j : Nat} (st : St w0 N a w E L) (hx : evE E x = some (.int .i64 (i : Int))) (hy : evE E y = some (.int .i64 (j : Int))) (hj : 0 < j) (hd : Nat.blt d N = true)
    (h : ∀ a', St w0 N a' w ((d, .int .i64 ((i % j : Nat) : Int)) :: E) L → K a' w) : Oper.wp P ⟨some d, .binOp .rem t x y ys, ty, pos, aft, g⟩ a w K Q :=
  o_val (v := .int .i64 ((i % j : Nat) : Int)) (w' := w) (v_rem64 (P := P) (Lh := []) st hx hy hj d ty pos aft g w (fun _ h => by cases h)) (h _ (st.put d hd _))
theorem v_lssT {x y : Operand} {t ys : TypeId} {k : IntKind} {i j : Int} (st : St w0 N a w E L) (hx : evE E x = some (.int k i)) (hy : evE E y = some (.int k j)) (hr : i < j) : Vl P a Lh (.binOp .lss t x y ys) (.bool true) := by
  intro d ty pos aft g w' _
  simp [execOp, evE_eval st hx, evE_eval st hy, binOp_lss, eqGuard_lss, hr]
theorem v_lssF {x y : Operand} {t ys : TypeId} {k : IntKind} {i j : Int} (st : St w0 N a w E L) (hx : evE E x = some (.int k i)) (hy : evE E y = some (.int k j)) (hr : j ≤ i) : Vl P a Lh (.binOp .lss t x y ys) (.bool false) := by
  intro d ty pos aft g w' _
  simp [execOp, evE_eval st hx, evE_eval st hy, binOp_lss, eqGuard_lss, (show ¬ i < j by omega)]
/-- A call that changes one block and makes another. -/
def CUM (P : Program) (f : FuncId) (vs : List Value) (w : World) (b : Nat) (R : Value → Nat → Obj → Obj → Prop) : Prop :=
  Calls P f vs.toArray w fun e w' => ∃ v nb no o', e = .returned v ∧ R v nb no o' ∧ Below b w w' ∧ (∀ k, k ≠ b → k < w.heap.size → w'.heap[k]? = w.heap[k]?) ∧ w'.heap[b]? = some o' ∧ w'.heap[nb]? = some no ∧ w.heap.size ≤ nb
theorem St.updNew {w' : World} {b nb : Nat} {o o' no : Obj} {L' : List Ent} (st : St w0 N a w E L) (hu : Upd L b o o' L') (hw : Below b w w') (hb : ∀ k, k ≠ b → k < w.heap.size → w'.heap[k]? = w.heap[k]?) (hn : w'.heap[b]? = some o') (h1 : w'.heap[nb]? = some no) (h2 : w.heap.size ≤ nb) : St w0 N a w' E (⟨nb, true, no⟩ :: L') := by
  have s := st.upd hu hw hb hn
  refine ⟨s.env, s.size, s.defers, s.below, ?_, ?_⟩
  · intro e he
    rcases List.mem_cons.1 he with rfl | he
    · exact ⟨h1, fun _ => Nat.le_trans st.below.size h2⟩
    · exact s.facts e he
  · refine List.pairwise_cons.2 ⟨?_, s.uniq⟩
    intro e he _
    have hlt : e.b < w.heap.size := by
      rcases hu.mem e he with rfl | he
      · exact st.lt hu.old
      · exact (Array.getElem?_eq_some_iff.1 (st.facts e he).1).1
    show nb ≠ e.b
    omega
theorem o_callUM {f : FuncId} {args : List Operand} {tys : Array TypeId} {vs : List Value} {b : Nat} {o : Obj} {R : Value → Nat → Obj → Obj → Prop} {L' : Obj → List Ent} [hf : FnT P f] (st : St w0 N a w E L) (ha : evs E args = some vs)
    (hc : CUM P f vs w b R) (hU : ∀ o', Upd L b o o' (L' o')) (hd : Nat.blt d N = true) (h : ∀ v nb no o', R v nb no o' → ∀ a' w', St w0 N a' w' ((d, v) :: E) (⟨nb, true, no⟩ :: L' o') → K a' w') : Oper.wp P ⟨some d, .call { callee := .value (.func f), args := args.toArray, argTypes := tys }, ty, pos, aft, g⟩ a w K Q :=
  o_call st ha hc fun _ _ ⟨v, nb, no, o', he, hR, hB, ho, hn, h1, h2⟩ => ⟨v, he, h v nb no o' hR _ _ ((st.updNew (hU o') hB ho hn h1 h2).put d hd _)⟩
theorem o_rem64I {x y : Operand} {t ys : TypeId} {i : Nat} {j : Int} (st : St w0 N a w E L) (hx : evE E x = some (.int .i64 (i : Int))) (hy : evE E y = some (.int .i64 j)) (hj : 0 < j) (hd : Nat.blt d N = true)
    (h : ∀ (r : Nat) a', (r : Int) < j → St w0 N a' w ((d, .int .i64 (r : Int)) :: E) L → K a' w) : Oper.wp P ⟨some d, .binOp .rem t x y ys, ty, pos, aft, g⟩ a w K Q := by
  obtain ⟨m, rfl⟩ : ∃ m : Nat, j = (m : Int) := ⟨j.toNat, by omega⟩
  have hlt : i % m < m := Nat.mod_lt _ (by omega)
  exact o_rem64 st hx hy (by omega) hd fun a' st => h (i % m) a' (by omega) st
/-- A list's memory holds these bytes. -/
def RdB (w : World) (base : Option Addr) (cs : List Int) : Prop := cs = [] ∨ ∃ blk off arr t fr, base = some ⟨blk, off, none⟩ ∧ w.heap[blk]? = some (.cells arr t fr) ∧ ∀ (i : Nat) (c : Int), cs[i]? = some c → arr[off + i]? = some (.int .u8 c)
theorem RdB.mono {w w' : World} {base : Option Addr} {cs : List Int} (h : RdB w base cs) (hb : Below w.heap.size w w') : RdB w' base cs := by
  rcases h with h | ⟨blk, off, arr, t, fr, h1, h2, h3⟩
  · exact .inl h
  · exact .inr ⟨blk, off, arr, t, fr, h1, by rw [hb.block blk (Array.getElem?_eq_some_iff.1 h2).1]; exact h2, h3⟩
/-- Bytes. -/
def okB (cs : List Int) : Prop := ∀ c ∈ cs, 0 ≤ c ∧ c ≤ 255
theorem wrap_u64 {n : Int} (h0 : 0 ≤ n) (h1 : n ≤ 18446744073709551615) : IntKind.u64.wrap n = n := wrap_in (by show (0 : Int) ≤ n; exact h0) (by show n ≤ 18446744073709551615; exact h1)
theorem o_addW {x y : Operand} {t ys : TypeId} {k : IntKind} {i j : Int} (st : St w0 N a w E L) (hx : evE E x = some (.int k i)) (hy : evE E y = some (.int k j)) (hd : Nat.blt d N = true)
    (h : ∀ a', St w0 N a' w ((d, .int k (k.wrap (i + j))) :: E) L → K a' w) : Oper.wp P ⟨some d, .binOp .add t x y ys, ty, pos, aft, g⟩ a w K Q :=
  o_val (v := .int k (k.wrap (i + j))) (w' := w) (by simp [execOp, evE_eval st hx, evE_eval st hy, binOp_add, Op.intArith, eqGuard_add]) (h _ (st.put d hd _))
theorem o_shrI {x y : Operand} {t ys : TypeId} {k q : IntKind} {i j : Int} (st : St w0 N a w E L) (hx : evE E x = some (.int k i)) (hy : evE E y = some (.int q j)) (hj : 0 ≤ j) (hd : Nat.blt d N = true)
    (h : ∀ (r : Int) a', St w0 N a' w ((d, .int k r) :: E) L → K a' w) : Oper.wp P ⟨some d, .binOp .shr t x y ys, ty, pos, aft, g⟩ a w K Q :=
  o_val (v := .int k (i / 2 ^ min j.toNat k.bits)) (w' := w) (by simp [execOp, evE_eval st hx, evE_eval st hy, binOp_shr, shift_shr_any, hj, eqGuard]) (h _ _ (st.put d hd _))
theorem o_and255 {x y : Operand} {t ys : TypeId} {i : Int} (st : St w0 N a w E L) (hx : evE E x = some (.int .u64 i)) (hy : evE E y = some (.int .u64 255)) (hd : Nat.blt d N = true)
    (h : ∀ (r : Nat) a', r ≤ 255 → St w0 N a' w ((d, .int .u64 r) :: E) L → K a' w) : Oper.wp P ⟨some d, .binOp .and t x y ys, ty, pos, aft, g⟩ a w K Q := by
  have hle : (BitVec.ofInt IntKind.u64.bits i &&& BitVec.ofInt IntKind.u64.bits 255).toNat ≤ 255 := by
    rw [BitVec.toNat_and]
    exact Nat.and_le_right
  have key : IntKind.u64.wrap ((BitVec.ofInt IntKind.u64.bits i &&& BitVec.ofInt IntKind.u64.bits 255).toNat : Int) = ((BitVec.ofInt IntKind.u64.bits i &&& BitVec.ofInt IntKind.u64.bits 255).toNat : Int) := wrap_u64 (by omega) (by omega)
  have e : (Op.intBits .and .u64 i 255 : Sem Value) = pure (.int .u64 (IntKind.u64.wrap ((BitVec.ofInt IntKind.u64.bits i &&& BitVec.ofInt IntKind.u64.bits 255).toNat : Int))) := rfl
  rw [key] at e
  generalize (BitVec.ofInt IntKind.u64.bits i &&& BitVec.ofInt IntKind.u64.bits 255).toNat = r at hle e
  exact o_val (v := .int .u64 (r : Int)) (w' := w) (by simp [execOp, evE_eval st hx, evE_eval st hy, binOp_and, e, eqGuard]) (h _ _ hle (st.put d hd _))
/-- A call that changes one block, which is told by a relation. -/
def CUX (P : Program) (f : FuncId) (vs : List Value) (w : World) (b : Nat) (R : Value → Obj → Prop) : Prop :=
  Calls P f vs.toArray w fun e w' => ∃ v o', e = .returned v ∧ R v o' ∧ Below b w w' ∧ (∀ k, k ≠ b → k < w.heap.size → w'.heap[k]? = w.heap[k]?) ∧ w'.heap[b]? = some o'
theorem o_callUX {f : FuncId} {args : List Operand} {tys : Array TypeId} {vs : List Value} {b : Nat} {o : Obj} {R : Value → Obj → Prop} {L' : Obj → List Ent} [hf : FnT P f] (st : St w0 N a w E L) (ha : evs E args = some vs)
    (hc : CUX P f vs w b R) (hU : ∀ o', Upd L b o o' (L' o')) (hd : Nat.blt d N = true) (h : ∀ v o', R v o' → ∀ a' w', St w0 N a' w' ((d, v) :: E) (L' o') → K a' w') : Oper.wp P ⟨some d, .call { callee := .value (.func f), args := args.toArray, argTypes := tys }, ty, pos, aft, g⟩ a w K Q :=
  o_call st ha hc fun _ _ ⟨v, o', he, hR, hB, ho, hn⟩ => ⟨v, he, h v o' hR _ _ ((st.upd (hU o') hB ho hn).put d hd _)⟩
theorem enterUX {f : FuncId} {fn : Func} {c : Code} {args : List Value} {R : Value → Obj → Prop} {b : Nat} {o : Obj} (Lk : List Ent) (hLk : ∀ e ∈ Lk, e.own = false ∧ e.b ≠ b ∧ w.heap[e.b]? = some e.o) (hb0 : w.heap[b]? = some o) (hf : P.funcs[f]? = some fn) (hb : fn.body = some c) (hE : envOf 0 args = E) (hN : fn.ntmps = N) (hn : Nat.ble args.length N = true)
    (h : ∀ a w0 Lf, St w0 N a w E (⟨b, true, o⟩ :: (Lk ++ Lf)) → c.wp P (bodyPost P fn (fun e w' => ∃ v o', e = .returned v ∧ R v o' ∧ ∃ a', St w0 N a' w' [] (⟨b, true, o'⟩ :: Lf))) a w) : CUX P f args w b R := by
  have hlt : b < w.heap.size := (Array.getElem?_eq_some_iff.1 hb0).1
  let w1 : World := { w with heap := w.heap.extract 0 b }
  have hs1 : w1.heap.size = b := by simp [w1]; omega
  have hbel : Below w1.heap.size w1 w := by
    refine ⟨rfl, rfl, rfl, by rw [hs1]; omega, ?_⟩
    intro k hk
    rw [hs1] at hk
    show w.heap[k]? = (w.heap.extract 0 b)[k]?
    rw [Array.getElem?_extract, if_pos (by omega), Nat.zero_add]
  have hent : ∀ st0, Calls P f args.toArray w (fun e w' => ∃ v o', e = .returned v ∧ R v o' ∧ ∃ a', St w1 N a' w' [] (⟨b, true, o'⟩ :: others w b)) := fun st0 => calls_of_wp hf hb (h _ w1 (others w b) st0)
  have hown : ∀ e ∈ Lk ++ others w b, e.own = false ∧ e.b ≠ b ∧ w.heap[e.b]? = some e.o := fun e he => by
    rcases List.mem_append.1 he with he | he
    · exact hLk e he
    · exact mem_others he
  refine (hent ⟨?_, ?_, rfl, hbel, ?_, ?_⟩).mono ?_
  rotate_left 4
  · rintro e w' ⟨v, o', he, hR, a', st⟩
    have hfact : ∀ k, k ≠ b → k < w.heap.size → w'.heap[k]? = w.heap[k]? := by
      intro k hne hk
      have := (st.facts _ (List.mem_cons_of_mem _ (others_mem hk hne))).1
      rw [this]
      simp [hk]
    have hbb := (st.facts _ List.mem_cons_self).1
    refine ⟨v, o', he, hR, ⟨?_, ?_, ?_, ?_, ?_⟩, hfact, hbb⟩
    · exact st.below.os.trans hbel.os.symm
    · exact st.below.tape.trans hbel.tape.symm
    · exact st.below.output.trans hbel.output.symm
    · have : w.heap.size - 1 < w'.heap.size := by
        by_cases hk : w.heap.size - 1 = b
        · rw [hk]; exact (Array.getElem?_eq_some_iff.1 hbb).1
        · have h1 := hfact (w.heap.size - 1) hk (by omega)
          have h2 : w.heap[w.heap.size - 1]? = some w.heap[w.heap.size - 1] := by simp
          rw [h2] at h1
          exact (Array.getElem?_eq_some_iff.1 h1).1
      omega
    · intro k hk
      exact hfact k (by omega) (by omega)
  · intro i u hu
    subst hE
    obtain ⟨_, h2⟩ := lk_envOf args 0 i u hu
    have hi : i < args.length := by
      have := (List.getElem?_eq_some_iff.1 h2).1
      simpa using this
    simp only [Nat.sub_zero] at h2
    simp [Array.getElem?_append, hi]
    simpa [hi] using h2
  · have : args.length ≤ N := by simpa using Nat.le_of_ble_eq_true hn
    simp [hN]
    omega
  · intro e he
    rcases List.mem_cons.1 he with rfl | he
    · exact ⟨hb0, fun _ => by rw [hs1]; exact Nat.le_refl _⟩
    · have := hown e he
      exact ⟨this.2.2, fun h => by rw [this.1] at h; cases h⟩
  · refine List.pairwise_cons.2 ⟨fun e he _ => (hown e he).2.1.symm, ?_⟩
    refine List.Pairwise.imp_of_mem (R := fun _ _ => True) ?_ (List.pairwise_of_forall (fun _ _ => trivial))
    intro x y hx hy _ ho
    rcases ho with ho | ho
    · rw [(hown x hx).1] at ho; cases ho
    · rw [(hown y hy).1] at ho; cases ho
/-- A goal that the engine leaves alone. -/
structure Stop (p : Prop) : Prop where
  go : p
/-- One code behind another, with a meeting point between them. -/
theorem c_meet {c1 c2 : Code} (F : Act → World → Prop) (h : Stop (c1.wp P (fun e a w => e = .normal ∧ F a w) a w)) (h2 : ∀ a w, F a w → c2.wp P Q a w) : (Code.seq c1 c2).wp P Q a w :=
  c_seq (wp_mono h.go fun e a w ⟨he, hF⟩ => by subst he; exact h2 a w hF)
theorem o_real {x : Operand} {k : FloatKind} {i j : Nat} {tys : Array TypeId} (st : St w0 N a w E L) (hx : evE E x = some (.complex k i j)) (hd : Nat.blt d N = true)
    (h : ∀ a', St w0 N a' w ((d, .float k i) :: E) L → K a' w) : Oper.wp P ⟨some d, .call { callee := .builtin .real, args := #[x], argTypes := tys }, ty, pos, aft, g⟩ a w K Q :=
  o_val (v := .float k i) (w' := w) (by simp [execOp, resolve, invoke, builtin, evE_eval st hx, run_real]) (h _ (st.put d hd _))
theorem o_imag {x : Operand} {k : FloatKind} {i j : Nat} {tys : Array TypeId} (st : St w0 N a w E L) (hx : evE E x = some (.complex k i j)) (hd : Nat.blt d N = true)
    (h : ∀ a', St w0 N a' w ((d, .float k j) :: E) L → K a' w) : Oper.wp P ⟨some d, .call { callee := .builtin .imag, args := #[x], argTypes := tys }, ty, pos, aft, g⟩ a w K Q :=
  o_val (v := .float k j) (w' := w) (by simp [execOp, resolve, invoke, builtin, evE_eval st hx, run_imag]) (h _ (st.put d hd _))
theorem o_complex {x y : Operand} {k : FloatKind} {i j : Nat} {tys : Array TypeId} (st : St w0 N a w E L) (hx : evE E x = some (.float k i)) (hy : evE E y = some (.float k j)) (hd : Nat.blt d N = true)
    (h : ∀ a', St w0 N a' w ((d, .complex k i j) :: E) L → K a' w) : Oper.wp P ⟨some d, .call { callee := .builtin .complex, args := #[x, y], argTypes := tys }, ty, pos, aft, g⟩ a w K Q :=
  o_val (v := .complex k i j) (w' := w) (by simp [execOp, resolve, invoke, builtin, evE_eval st hx, evE_eval st hy, run_complex]) (h _ (st.put d hd _))
/-- A float operation whose word is known. -/
theorem o_fopK {op : BinOp} {x y : Operand} {t ys : TypeId} {k : FloatKind} {i j r : Nat} (st : St w0 N a w E L) (hx : evE E x = some (.float k i)) (hy : evE E y = some (.float k j)) (hr : fop op k (some i) (some j) = some r) (hd : Nat.blt d N = true)
    (h : ∀ a', St w0 N a' w ((d, .float k r) :: E) L → K a' w) : Oper.wp P ⟨some d, .binOp op t x y ys, ty, pos, aft, g⟩ a w K Q := by
  have hr : floatBits op k i j = some r := hr
  refine o_val (v := .float k r) (w' := w) ?_ (h _ (st.put d hd _))
  simp only [execOp, evE_eval st hx, evE_eval st hy, eqGuard_at_float, Sem.run_bind, Sem.run_pure, Result.andThen_ok, run_float_arith w op t k i j r hr]
theorem o_fcvW {x : Operand} {src dst : TypeId} {s k : FloatKind} {i r : Nat} [hs : FloatT P src s] [hk : FloatT P dst k] (st : St w0 N a w E L) (hx : evE E x = some (.float s i)) (hr : floatToFloatBits s i k = some r) (hd : Nat.blt d N = true)
    (h : ∀ a', St w0 N a' w ((d, .float k r) :: E) L → K a' w) : Oper.wp P ⟨some d, .convert src dst x, ty, pos, aft, g⟩ a w K Q := by
  refine o_val (v := .float k r) (w' := w) ?_ (h _ (st.put d hd _))
  simp only [execOp, evE_eval st hx, Sem.run_bind, Sem.run_pure, Result.andThen_ok, run_convert_float_float w src dst s k i r (by simp [hs.u]) hk.u hr]
theorem o_floatInt {x : Operand} {src dst : TypeId} {s : FloatKind} {k : IntKind} {i : Nat} {n : Int} [hs : FloatT P src s] (hk : P.underlying dst = some (.int k)) (st : St w0 N a w E L) (hx : evE E x = some (.float s i)) (hr : floatToIntVal s i k = some n) (hd : Nat.blt d N = true)
    (h : ∀ a', St w0 N a' w ((d, .int k n) :: E) L → K a' w) : Oper.wp P ⟨some d, .convert src dst x, ty, pos, aft, g⟩ a w K Q := by
  refine o_val (v := .int k n) (w' := w) ?_ (h _ (st.put d hd _))
  simp only [execOp, evE_eval st hx, Sem.run_bind, Sem.run_pure, Result.andThen_ok, run_convert_float_int w src dst s k i n (by simp [hs.u]) hk hr]
/-- An order of floats whose words are known. -/
theorem o_fgeqW {x y : Operand} {t ys : TypeId} {k : FloatKind} {i j : Nat} {r : Bool} (st : St w0 N a w E L) (hx : evE E x = some (.float k i)) (hy : evE E y = some (.float k j)) (hi : Is k i (some i)) (hj : Is k j (some j)) (hr : fgeB k (some i) (some j) = r) (hd : Nat.blt d N = true)
    (h : ∀ a', St w0 N a' w ((d, .bool r) :: E) L → K a' w) : Oper.wp P ⟨some d, .binOp .geq t x y ys, ty, pos, aft, g⟩ a w K Q := by
  cases r
  · exact o_fgeq st hx hy hi hj hd (fun ht => by rw [hr] at ht; cases ht) fun _ => h
  · exact o_fgeq st hx hy hi hj hd (fun _ => h) fun ht => by rw [hr] at ht; cases ht
theorem o_fgtrW {x y : Operand} {t ys : TypeId} {k : FloatKind} {i j : Nat} {r : Bool} (st : St w0 N a w E L) (hx : evE E x = some (.float k i)) (hy : evE E y = some (.float k j)) (hi : Is k i (some i)) (hj : Is k j (some j)) (hr : fgtB k (some i) (some j) = r) (hd : Nat.blt d N = true)
    (h : ∀ a', St w0 N a' w ((d, .bool r) :: E) L → K a' w) : Oper.wp P ⟨some d, .binOp .gtr t x y ys, ty, pos, aft, g⟩ a w K Q := by
  cases r
  · exact o_fgtr st hx hy hi hj hd (fun ht => by rw [hr] at ht; cases ht) fun _ => h
  · exact o_fgtr st hx hy hi hj hd (fun _ => h) fun ht => by rw [hr] at ht; cases ht
theorem o_flssW {x y : Operand} {t ys : TypeId} {k : FloatKind} {i j : Nat} {r : Bool} (st : St w0 N a w E L) (hx : evE E x = some (.float k i)) (hy : evE E y = some (.float k j)) (hi : Is k i (some i)) (hj : Is k j (some j)) (hr : fltB k (some i) (some j) = r) (hd : Nat.blt d N = true)
    (h : ∀ a', St w0 N a' w ((d, .bool r) :: E) L → K a' w) : Oper.wp P ⟨some d, .binOp .lss t x y ys, ty, pos, aft, g⟩ a w K Q := by
  cases r
  · exact o_flss st hx hy hi hj hd (fun ht => by rw [hr] at ht; cases ht) fun _ => h
  · exact o_flss st hx hy hi hj hd (fun _ => h) fun ht => by rw [hr] at ht; cases ht
/-- The word that an operation gives is one of its format. -/
theorem fop_is {op : BinOp} {k : FloatKind} {i j r : Nat} (h : fop op k (some i) (some j) = some r) : Is k r (some r) := by
  have hb : floatBits op k i j = some r := h
  exact ⟨lt_of_wf (floatBits_wf hb), floatBits_not_nan hb⟩
theorem o_fleqW {P : Program} {w0 w : World} {N : Nat} {a : Act} {E : List (Nat × Value)} {L : List Ent} {K : Act → World → Prop} {Q : Exit → Act → World → Prop} {d : Nat} {ty : TypeId} {pos : String} {aft : Array Edge} {g : Option (Nat × Bool)}
    {x y : Operand} {t ys : TypeId} {k : FloatKind} {i j : Nat} {r : Bool} (st : St w0 N a w E L) (hx : evE E x = some (.float k i)) (hy : evE E y = some (.float k j)) (hi : Is k i (some i)) (hj : Is k j (some j)) (hr : fleB k (some i) (some j) = r) (hd : Nat.blt d N = true)
    (h : ∀ a', St w0 N a' w ((d, .bool r) :: E) L → K a' w) : Oper.wp P ⟨some d, .binOp .leq t x y ys, ty, pos, aft, g⟩ a w K Q := by
  cases r
  · exact o_fleq st hx hy hi hj hd (fun ht => by rw [hr] at ht; cases ht) fun _ => h
  · exact o_fleq st hx hy hi hj hd (fun _ => h) fun ht => by rw [hr] at ht; cases ht
theorem o_feqlW {P : Program} {w0 w : World} {N : Nat} {a : Act} {E : List (Nat × Value)} {L : List Ent} {K : Act → World → Prop} {Q : Exit → Act → World → Prop} {d : Nat} {ty : TypeId} {pos : String} {aft : Array Edge} {g : Option (Nat × Bool)}
    {x y : Operand} {t ys : TypeId} {k : FloatKind} {i j : Nat} {r : Bool} (st : St w0 N a w E L) (hx : evE E x = some (.float k i)) (hy : evE E y = some (.float k j)) (hi : Is k i (some i)) (hj : Is k j (some j)) (hr : feqB k (some i) (some j) = r) (hd : Nat.blt d N = true)
    (h : ∀ a', St w0 N a' w ((d, .bool r) :: E) L → K a' w) : Oper.wp P ⟨some d, .binOp .eql t x y ys, ty, pos, aft, g⟩ a w K Q := by
  cases r
  · exact o_feql st hx hy hi hj hd (fun ht => by rw [hr] at ht; cases ht) fun _ => h
  · exact o_feql st hx hy hi hj hd (fun _ => h) fun ht => by rw [hr] at ht; cases ht
theorem o_fneqW {x y : Operand} {t ys : TypeId} {k : FloatKind} {i j : Nat} {r : Bool} (st : St w0 N a w E L) (hx : evE E x = some (.float k i)) (hy : evE E y = some (.float k j)) (hi : Is k i (some i)) (hj : Is k j (some j)) (hr : feqB k (some i) (some j) = r) (hd : Nat.blt d N = true)
    (h : ∀ a', St w0 N a' w ((d, .bool (!r)) :: E) L → K a' w) : Oper.wp P ⟨some d, .binOp .neq t x y ys, ty, pos, aft, g⟩ a w K Q := by
  cases r
  · exact o_fneq st hx hy hi hj hd (fun _ => h) fun ht => by rw [hr] at ht; cases ht
  · exact o_fneq st hx hy hi hj hd (fun ht => by rw [hr] at ht; cases ht) fun _ => h
end
theorem hm_ : Tryz.prog.follows .mixedOrders = true := by kernel_rfl
end Go.Proofs.YtclgplbikjmopaaGreatDoor
