/-
  Contracts: lists of spots and sheets that are equal; sheets that are sheets.
-/
import Derived.Test.YtefnlalldgbcaaaJ
import Derived.Test.YtefnlalldgbcaaaArgs
import Derived.Deep.Strs
import Derived.ArgAppend
namespace Go.Proofs.Ytefnlalldgbcaaa
open Go.RowKit
attribute [local irreducible] Code.wp wpList Oper.wp Calls bodyPost Exit.then Exit.inBlock

theorem St.addOld {w0 w : World} {N : Nat} {a : Act} {E : List (Nat × Value)} {L : List Ent} (st : St w0 N a w E L) {b : Nat} {o : Obj} (h : w0.heap[b]? = some o) : St w0 N a w E (⟨b, false, o⟩ :: L) := by
  have hlt : b < w0.heap.size := (Array.getElem?_eq_some_iff.1 h).1
  refine ⟨st.env, st.size, st.defers, st.below, ?_, ?_⟩
  · intro e he
    rcases List.mem_cons.1 he with rfl | he
    · exact ⟨by rw [st.below.block b hlt]; exact h, fun h => by cases h⟩
    · exact st.facts e he
  · refine List.pairwise_cons.2 ⟨?_, st.uniq⟩
    intro y hy ho
    rcases ho with ho | ho
    · cases ho
    · have := (st.facts y hy).2 ho
      simp
      omega

theorem v_loadSp {P : Program} {w0 w : World} {N : Nat} {a : Act} {E : List (Nat × Value)} {L Lh : List Ent} {t t' : TypeId} {x : Operand} {blk off : Nat} {own : Bool} {cs : Array Value} {fr : Nat × Nat} {b : B3} [ht : AggT P t 3] (st : St w0 N a w E L) (hx : evE E x = some (.pointer (some ⟨blk, off, none⟩))) (hA : At Lh blk own (.cells cs t' fr))
    (hv : cs[off]? = some (.float .f32 b.1) ∧ cs[off + 1]? = some (.float .f32 b.2.1) ∧ cs[off + 2]? = some (.float .f32 b.2.2)) : Vl P a Lh (.load t x) (vS b) := by
  refine v_loadA [Value.float .f32 b.1, .float .f32 b.2.1, .float .f32 b.2.2] st hx hA rfl ?_
  intro j u hj
  match j with
  | 0 => simp at hj; subst hj; exact hv.1
  | 1 => simp at hj; subst hj; exact hv.2.1
  | 2 => simp at hj; subst hj; exact hv.2.2
  | j + 3 => simp at hj

/-- Is it a sheet. -/
def validC (m n : Int) (ss : List S3) : Bool := (inB m 2 6 && inB n 2 6) && (((ss.length : Int) == IntKind.i64.wrap (m * n)) && finL ss)

set_option maxHeartbeats 4000000 in
theorem implValid_ok (m n : Int) (bs : List B3) (ss : List S3) (h : IsSL bs ss) (base : Option Addr) (cap : Nat) (w : World) (hr : RdS w base bs) (hlen : bs.length < 1000000000) :
    CV Try.prog 46 [vSh m n base bs.length cap] w (.bool (validC m n ss)) := by
  refine enter Try.func46 rfl rfl rfl rfl ?_
  intro a st
  have hl := h.len
  (repeat' (first | (refine o_callB st rfl (isAcross_ok _ _) rfl ?_ ?_ <;> clear st <;> intro _ _ _ st)  | (refine o_callB st rfl (areSpots_ok bs ss h base cap _ (hr.mono st.below) hlen) rfl ?_ ?_ <;> clear st <;> intro _ _ _ st)  | refine c_seq ?_  | refine c_region ?_  | refine l_do ?_  | refine l_doG st rfl rfl ?_  | ((first | refine l_skip st rfl rfl rfl rfl ?_); clear st; intro _ st)  | refine l_nil ?_  | refine x_then ?_  | refine wp_ret ?_  | ((first | refine o_move st rfl rfl ?_  | refine o_assign st rfl rfl ?_  | refine o_pickT st rfl rfl rfl ?_  | refine o_pickF st rfl rfl rfl ?_); clear st; intro _ st)  | ((first | refine o_boxA st rfl rfl ?_ ); clear st; intro _ _ _ st)  | ((first | refine o_fieldAddr st rfl rfl ?_  | refine o_loadS st rfl (by repeat constructor) rfl rfl ?_  | refine o_len st rfl rfl ?_  | refine o_mulW st rfl rfl rfl ?_); clear st; intro _ st)  | (refine o_eqlI st rfl rfl rfl ?_ ?_ <;> clear st <;> intro _ _ st <;> (try (exfalso; omega)))))
  all_goals
    refine post1 st Try.results46 (rd_t st rfl) ?_
    refine ⟨?_, st.ex0⟩
    clear st
    unfold validC
    rw [← hl]
    simp_all
end Go.Proofs.Ytefnlalldgbcaaa

namespace Go.Proofs.Ytefnlalldgbcaaa
open Go.ChangeShapes Go.WideShapes Go.ChangeAt Go.RowKit Go.Joins

section
variable {H : Type} {enc : TypeId × Value → H} {w : World} {base : Nat} {spare : Nat → Bool} {held : Bool}

theorem cell_spot {w : World} {a : Addr} {v : Value} (h : w.cell? a = some v) : ∃ cs t fr, w.heap[a.block]? = some (.cells cs t fr) ∧ a.spot = none ∧ cs[a.off]? = some v := by
  unfold World.cell? at h
  split at h
  · rename_i c t fr hc
    split at h
    · cases h
    · refine ⟨c, t, fr, hc, ?_, h⟩
      cases hs : a.spot with
      | none => rfl
      | some k => simp_all
  · cases h

end
end Go.Proofs.Ytefnlalldgbcaaa

namespace Go.Proofs.Ytefnlalldgbcaaa
open Go.ChangeShapes Go.WideShapes Go.ChangeAt Go.RowKit Go.Joins

section
variable {H : Type} {enc : TypeId × Value → H} {w : World} {base : Nat} {spare : Nat → Bool} {held : Bool}

end
end Go.Proofs.Ytefnlalldgbcaaa

namespace Go.Proofs.Ytefnlalldgbcaaa
open Go.RowKit

/-- The list without the entry of an own block. -/
inductive Rem : List Ent → Nat → Obj → List Ent → Prop
  | here {b o L} : Rem (⟨b, true, o⟩ :: L) b o L
  | there {e L b o L'} : Rem L b o L' → Rem (e :: L) b o (e :: L')

theorem Rem.at_ {L b o L'} (h : Rem L b o L') : At L b true o := by
  induction h with
  | here => exact .here
  | there _ ih => exact .there ih
theorem Rem.sub {L b o L'} (h : Rem L b o L') : List.Sublist L' L := by
  induction h with
  | here => exact List.Sublist.cons _ (List.Sublist.refl _)
  | there _ ih => exact List.Sublist.cons_cons _ ih
theorem Rem.other {L b o L'} (h : Rem L b o L') : L.Pairwise (fun x y => (x.own = true ∨ y.own = true) → x.b ≠ y.b) → ∀ e ∈ L', e.b ≠ b := by
  induction h with
  | here =>
    intro hp e he
    exact ((List.pairwise_cons.1 hp).1 e he (.inl rfl)).symm
  | there hr ih =>
    intro hp e he
    obtain ⟨h1, h2⟩ := List.pairwise_cons.1 hp
    rcases List.mem_cons.1 he with rfl | he
    · exact h1 _ hr.at_.mem (.inr rfl)
    · exact ih h2 e he

section
variable {P : Program} {w0 w : World} {N : Nat} {a : Act} {E : List (Nat × Value)} {L Lh : List Ent} {K : Act → World → Prop} {Q : Exit → Act → World → Prop}
variable {d : Nat} {ty : TypeId} {pos : String} {aft : Array Edge} {g : Option (Nat × Bool)}

/-- One own block gives way to another (or to itself, changed). -/
theorem St.swap {w' : World} {b b' : Nat} {o o' : Obj} {Lr : List Ent} (st : St w0 N a w E L) (hR : Rem L b o Lr) (hb : Below w0.heap.size w w') (hk : ∀ e ∈ Lr, w'.heap[e.b]? = some e.o) (hn : w'.heap[b']? = some o') (hge : w0.heap.size ≤ b') (hne : ∀ e ∈ Lr, e.b ≠ b') : St w0 N a w' E (⟨b', true, o'⟩ :: Lr) := by
  refine ⟨st.env, st.size, st.defers, st.below.trans hb, ?_, ?_⟩
  · intro e he
    rcases List.mem_cons.1 he with rfl | he
    · exact ⟨hn, fun _ => hge⟩
    · exact ⟨hk e he, (st.facts e (hR.sub.mem he)).2⟩
  · exact List.pairwise_cons.2 ⟨fun y hy _ => (hne y hy).symm, st.uniq.sublist hR.sub⟩

theorem o_append {t e n cap m c b ba offa size bz : Nat} {zs olds pad news : List Value} {x y : Operand} {Lr : List Ent} [hs : SliceT P t e] [he : ElemT P e size bz zs] (st : St w0 N a w E L)
    (hx : evE E x = some (.slice (some ⟨b, 0, none⟩) n cap)) (hy : evE E y = some (.slice (some ⟨ba, offa, none⟩) m c)) (hR : Rem L b (.cells (olds ++ pad).toArray e (0, 0)) Lr)
    (hA : ∀ j u, news[j]? = some u → w.cell? ⟨ba, offa + j, none⟩ = some u) (ho : olds.length = n * size) (hp : (olds ++ pad).length = cap * size) (hl : news.length = m * size) (h1 : ∀ u ∈ news, u.oneCell' = true)
    (hb1 : n + m ≤ 9223372036854775807) (hb2 : (n + m) * bz ≤ 140737488355328) (hd : Nat.blt d N = true)
    (h : ∀ b' cap' pad' a' w', (olds ++ news ++ pad').length = cap' * size → St w0 N a' w' ((d, .slice (some ⟨b', 0, none⟩) (n + m) cap') :: E) (⟨b', true, .cells (olds ++ news ++ pad').toArray e (0, 0)⟩ :: Lr) → K a' w') :
    Oper.wp P ⟨some d, .call { callee := .builtin .append, args := #[x, y], argTypes := #[t, t] }, ty, pos, aft, g⟩ a w K Q := by
  obtain ⟨i, z, hi, hz, hsz, hbz, hzc, hzl, hpos⟩ := he.info
  have hex : ∀ v w', (Builtin.append_ #[t, t] ty #[.slice (some ⟨b, 0, none⟩) n cap, .slice (some ⟨ba, offa, none⟩) m c]).run P w = .ok v w' → (execOp a.eval ⟨some d, .call { callee := .builtin .append, args := #[x, y], argTypes := #[t, t] }, ty, pos, aft, g⟩).run P w = .ok (.value v) w' := by
    intro v w' hr
    simp [execOp, resolve, invoke, builtin, evE_eval st hx, evE_eval st hy, hr]
  have hnews : ∀ j u, news[j]? = some u → w.cell? ((⟨ba, offa, none⟩ : Addr).add j) = some u := by
    intro j u hj
    rw [Addr.add_lit]
    exact hA j u hj
  by_cases hroom : n + m ≤ cap
  · have hfit : 0 + n * size + 0 + news.length ≤ (olds ++ pad).length := by
      rw [hp, hl]
      have : (n + m) * size ≤ cap * size := Nat.mul_le_mul_right _ hroom
      rw [Nat.add_mul] at this
      omega
    obtain ⟨w', hst, hw, hb, hoth⟩ := run_storeCells_mid (P := P) b e news (0 + n * size) 0 (olds ++ pad) w (st.heap hR.at_) hfit h1
    have hfc := run_firstCells_some (P := P) w i.size m ⟨ba, offa, none⟩ m c news (by rw [hsz]; exact hl) hnews
    rw [hsz] at hfc
    have hr : (Builtin.append_ #[t, t] ty #[.slice (some ⟨b, 0, none⟩) n cap, .slice (some ⟨ba, offa, none⟩) m c]).run P w = .ok (.slice (some ⟨b, 0, none⟩) (n + m) cap) w' := by
      simp only [Nat.zero_add] at hst
      simp [Builtin.append_, run_underlying hs.u, sizeOf, typeInfo, hi, Builtin.lenOf, hroom, hfc, Addr.add_lit, hsz, hst]
    refine o_val (hex _ _ hr) (h b cap (pad.drop news.length) _ _ ?_ ((st.swap hR (hb.mono (st.ge hR.at_)) ?_ ?_ (st.ge hR.at_) (hR.other st.uniq)).put d hd _))
    · rw [← hp]
      have : news.length ≤ pad.length := by
        rw [List.length_append] at hfit
        omega
      simp only [List.length_append, List.length_drop]
      omega
    · intro x hx'
      rw [hoth x.b (hR.other st.uniq x hx') (Array.getElem?_eq_some_iff.1 (st.facts x (hR.sub.mem hx')).1).1]
      exact (st.facts x (hR.sub.mem hx')).1
    · rw [hw]
      have e1 : (olds ++ pad).take (0 + n * size + 0) = olds := by
        rw [show 0 + n * size + 0 = olds.length by omega, List.take_left]
      have e2 : (olds ++ pad).drop (0 + n * size + 0 + news.length) = pad.drop news.length := by
        rw [show 0 + n * size + 0 + news.length = olds.length + news.length by omega, ← List.drop_drop, List.drop_left]
      rw [e1, e2]
  · have holds : ∀ j u, olds[j]? = some u → w.cell? ((⟨b, 0, none⟩ : Addr).add j) = some u := by
      intro j u hj
      rw [Addr.add_lit, Nat.zero_add, cell_of_row w b j _ _ _ (st.heap hR.at_)]
      have hj' := (List.getElem?_eq_some_iff.1 hj).1
      simp only [List.getElem?_toArray]
      rw [List.getElem?_append_left hj']
      exact hj
    obtain ⟨v', w', hr, ⟨hlen, hown⟩, hg⟩ := run_append_arg_grows (P := P) w t ty e i z size bz hs.u hi hz hsz hbz (by rw [hzc]; simpa using hzl) hpos ⟨b, 0, none⟩ n cap olds ho holds ⟨ba, offa, none⟩ m c news hl hnews (by omega) (by unfold maxLen; omega) hb2
    rcases hown with ⟨_, h0⟩ | ⟨gb, cap', cur, rfl, hgb, hcur, hncap, _, hcs, htake⟩
    · omega
    · have hcur' : cur = (olds ++ news ++ cur.toList.drop ((n + m) * size)).toArray := by
        rw [← htake, List.take_append_drop]
      have hblk : ∀ k, k < w.heap.size → w'.heap[k]? = w.heap[k]? := fun k hk => hg.block k hk (by simp)
      refine o_val (hex _ _ hr) (h gb cap' (cur.toList.drop ((n + m) * size)) _ _ ?_ ((st.swap hR ⟨hg.os, hg.tape, hg.output, hg.size, fun k hk => hblk k (Nat.lt_of_lt_of_le hk st.below.size)⟩ ?_ ?_ (Nat.le_trans st.below.size hgb) ?_).put d hd _))
      · rw [← hcs]
        conv => rhs; rw [hcur']
        simp
      · intro x hx'
        have := (st.facts x (hR.sub.mem hx')).1
        rw [hblk x.b (Array.getElem?_eq_some_iff.1 this).1]
        exact this
      · rw [hcur, ← hcur']
      · intro x hx'
        have := (Array.getElem?_eq_some_iff.1 (st.facts x (hR.sub.mem hx')).1).1
        omega
end
end Go.Proofs.Ytefnlalldgbcaaa

namespace Go.Proofs.Ytefnlalldgbcaaa
open Go.RowKit

section
variable {P : Program} {w0 w : World} {N : Nat} {a : Act} {E : List (Nat × Value)} {L : List Ent} {K : Act → World → Prop} {Q : Exit → Act → World → Prop}

/-- The other blocks. -/
def others (w : World) (b : Nat) : List Ent := (List.range w.heap.size).filterMap fun k => if k = b then none else (w.heap[k]?).map fun o => ⟨k, false, o⟩

theorem mem_others {w : World} {b : Nat} {e : Ent} (h : e ∈ others w b) : e.own = false ∧ e.b ≠ b ∧ w.heap[e.b]? = some e.o := by
  unfold others at h
  obtain ⟨k, hk, he⟩ := List.mem_filterMap.1 h
  split at he
  · cases he
  · cases ho : w.heap[k]? with
    | none => rw [ho] at he; cases he
    | some o => rw [ho] at he; cases he; exact ⟨rfl, ‹_›, ho⟩
theorem others_mem {w : World} {b k : Nat} (hk : k < w.heap.size) (hne : k ≠ b) : (⟨k, false, w.heap[k]⟩ : Ent) ∈ others w b := by
  unfold others
  refine List.mem_filterMap.2 ⟨k, List.mem_range.2 hk, ?_⟩
  rw [if_neg hne]
  simp [hk]

end
end Go.Proofs.Ytefnlalldgbcaaa
