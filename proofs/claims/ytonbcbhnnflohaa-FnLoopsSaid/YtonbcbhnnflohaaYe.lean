/-
  FnCurves: lists that grow, copies, turned lists.
-/
import Derived.Test.YtonbcbhnnflohaaYc
import Derived.Lib.SliceRun
import Derived.Laws.Tables
namespace Go.Proofs.Ytonbcbhnnflohaa
open Go.RowKit

section
variable {P : Program} {w0 w : World} {N : Nat} {a : Act} {E : List (Nat × Value)} {L Lh : List Ent} {K : Act → World → Prop} {Q : Exit → Act → World → Prop}
variable {d : Nat} {ty : TypeId} {pos : String} {aft : Array Edge} {g : Option (Nat × Bool)}
/-- The block of a list of values, with room. -/
abbrev oV (e : TypeId) (vs pad : List Value) : Obj := .cells (vs ++ pad).toArray e (0, 0)
/-- The value of a list that grows, and its block, if it has one. -/
def GV (e : TypeId) (v : Value) (vs : List Value) (Ls : List Ent) : Prop := (v = .slice none 0 0 ∧ vs = [] ∧ Ls = []) ∨ (∃ blk cp pad, 0 < vs.length ∧ v = .slice (some ⟨blk, 0, none⟩) vs.length cp ∧ Ls = [⟨blk, true, oV e vs pad⟩] ∧ (vs ++ pad).length = cp)
/-- The entries without some that stand side by side. -/
inductive RemS : List Ent → List Ent → List Ent → Prop
  | here {Ls Lt} : RemS (Ls ++ Lt) Ls Lt
  | hereEnd {Ls} : RemS Ls Ls []
  | hereR {La Ls} : RemS (La ++ Ls) Ls La
  | there {e L Ls Lr} : RemS L Ls Lr → RemS (e :: L) Ls (e :: Lr)
theorem RemS.sub {L Ls Lr : List Ent} (h : RemS L Ls Lr) : List.Sublist Lr L := by
  induction h with
  | here => exact List.sublist_append_right _ _
  | hereEnd => exact List.nil_sublist _
  | hereR => exact List.sublist_append_left _ _
  | there _ ih => exact List.Sublist.cons_cons _ ih
theorem rem_end (La : List Ent) (b : Nat) (o : Obj) : Rem (La ++ [⟨b, true, o⟩]) b o La := by
  induction La with
  | nil => exact Rem.here
  | cons e La ih => exact Rem.there ih
theorem RemS.rem {L Ls Lr : List Ent} (h : RemS L Ls Lr) {b : Nat} {o : Obj} (hs : Ls = [⟨b, true, o⟩]) : Rem L b o Lr := by
  induction h with
  | here => subst hs; exact Rem.here
  | hereEnd => subst hs; exact Rem.here
  | hereR => subst hs; exact rem_end _ _ _
  | there _ ih => exact Rem.there (ih hs)
theorem o_appendGV {t e ba bz : Nat} {v v1 : Value} {vs : List Value} {Ls Lr : List Ent} {zs : List Value} {x y : Operand} {ow : Bool} [hs : SliceT P t e] [he : ElemT P e 1 bz zs] (hbz : Nat.ble bz 1000 = true) (st : St w0 N a w E L) (hv : GV e v vs Ls)
    (hx : evE E x = some v) (hy : evE E y = some (.slice (some ⟨ba, 0, none⟩) 1 1)) (hA : At L ba ow (.cells [v1].toArray e (0, 0))) (h1 : v1.oneCell' = true) (hlim : vs.length ≤ 1000000) (hR : RemS L Ls Lr) (hd : Nat.blt d N = true)
    (h : ∀ blk cp pad a' w', (vs ++ [v1] ++ pad).length = cp → St w0 N a' w' ((d, .slice (some ⟨blk, 0, none⟩) (vs ++ [v1]).length cp) :: E) (⟨blk, true, oV e (vs ++ [v1]) pad⟩ :: Lr) → K a' w') :
    Oper.wp P ⟨some d, .call { callee := .builtin .append, args := #[x, y], argTypes := #[t, t] }, ty, pos, aft, g⟩ a w K Q := by
  have hbz' : bz ≤ 1000 := Nat.le_of_ble_eq_true hbz
  rcases hv with ⟨rfl, rfl, rfl⟩ | ⟨blk, cp, pad, _, rfl, hLs, hp⟩
  · refine o_appendF (size := 1) (news := [v1]) (m := 1) (st.subL hR.sub) hx hy ?_ rfl (by simpa using h1) (by omega) (by omega) (by omega) hd ?_
    · intro j u hj
      rw [cell_known st hA rfl]
      simpa using hj
    · intro b' cap' pad' a' w' hl st'
      exact h b' cap' pad' a' w' (by simpa using hl) st'
  · refine o_append1V hbz st hx hy (hR.rem hLs) hA rfl hp h1 (by omega) hd ?_
    intro b' cap' pad' a' w' hl st'
    refine h b' cap' pad' a' w' hl ?_
    have e1 : (vs ++ [v1]).length = vs.length + 1 := by simp
    rw [e1]
    exact st'
theorem GV.grown {e : TypeId} {vs : List Value} {v1 : Value} {blk cp : Nat} {pad : List Value} (hp : (vs ++ [v1] ++ pad).length = cp) : GV e (.slice (some ⟨blk, 0, none⟩) (vs ++ [v1]).length cp) (vs ++ [v1]) [⟨blk, true, oV e (vs ++ [v1]) pad⟩] :=
  .inr ⟨blk, cp, pad, by simp, rfl, rfl, hp⟩
theorem GV.nil {e : TypeId} : GV e (.slice none 0 0) [] [] := .inl ⟨rfl, rfl, rfl⟩
theorem St.perm {L' : List Ent} (st : St w0 N a w E L) (h : L.Perm L') : St w0 N a w E L' := by
  refine ⟨st.env, st.size, st.defers, st.below, fun e he => st.facts e (h.mem_iff.2 he), ?_⟩
  exact (h.pairwise_iff (fun hxy ho => (hxy ho.symm).symm)).1 st.uniq
/-- A call that gives a value and one new block. -/
def CM1 (P : Program) (f : FuncId) (vs : List Value) (w : World) (R : Value → Nat → Obj → Prop) : Prop := Calls P f vs.toArray w fun e w' => ∃ v b o, e = .returned v ∧ R v b o ∧ Ex w w' [⟨b, true, o⟩]
theorem o_callM1 {f : FuncId} {args : List Operand} {tys : Array TypeId} {vs : List Value} {R : Value → Nat → Obj → Prop} [hf : FnT P f] (st : St w0 N a w E L) (ha : evs E args = some vs)
    (hc : CM1 P f vs w R) (hd : Nat.blt d N = true) (h : ∀ v b o, R v b o → ∀ a' w', St w0 N a' w' ((d, v) :: E) (⟨b, true, o⟩ :: L) → K a' w') : Oper.wp P ⟨some d, .call { callee := .value (.func f), args := args.toArray, argTypes := tys }, ty, pos, aft, g⟩ a w K Q :=
  o_call st ha hc fun _ _ ⟨v, b, o, he, hR, hx⟩ => ⟨v, he, h v b o hR _ _ ((st.ext1 hx).put d hd _)⟩
/-- A call that gives a value and two new blocks. -/
def CM2 (P : Program) (f : FuncId) (vs : List Value) (w : World) (R : Value → Nat → Obj → Nat → Obj → Prop) : Prop := Calls P f vs.toArray w fun e w' => ∃ v b o b' o', e = .returned v ∧ R v b o b' o' ∧ Ex w w' [⟨b, true, o⟩, ⟨b', true, o'⟩]
theorem o_callM2 {f : FuncId} {args : List Operand} {tys : Array TypeId} {vs : List Value} {R : Value → Nat → Obj → Nat → Obj → Prop} [hf : FnT P f] (st : St w0 N a w E L) (ha : evs E args = some vs)
    (hc : CM2 P f vs w R) (hd : Nat.blt d N = true) (h : ∀ v b o b' o', R v b o b' o' → ∀ a' w', St w0 N a' w' ((d, v) :: E) (⟨b, true, o⟩ :: ⟨b', true, o'⟩ :: L) → K a' w') : Oper.wp P ⟨some d, .call { callee := .value (.func f), args := args.toArray, argTypes := tys }, ty, pos, aft, g⟩ a w K Q :=
  o_call st ha hc fun _ _ ⟨v, b, o, b', o', he, hR, hx⟩ => ⟨v, he, h v b o b' o' hR _ _ ((st.ext2 hx).put d hd _)⟩
end
theorem oV_get {vs pad : List Value} {k : Nat} (h : k < vs.length) : (vs ++ pad).toArray[0 + ((k : Nat) : Int).toNat * 1]? = some vs[k] := by
  simp only [Nat.zero_add, Int.toNat_natCast, Nat.mul_one, List.getElem?_toArray]
  rw [List.getElem?_append_left h, List.getElem?_eq_getElem h]
attribute [local irreducible] Code.wp wpList Oper.wp Calls bodyPost Exit.then Exit.inBlock

end Go.Proofs.Ytonbcbhnnflohaa

namespace Go.Proofs.Ytonbcbhnnflohaa
open Go.RowKit

section
variable {P : Program} {w0 w : World} {N : Nat} {a : Act} {E : List (Nat × Value)} {L Lh : List Ent} {K : Act → World → Prop} {Q : Exit → Act → World → Prop}
theorem St.ne_of {e1 e2 : Ent} (st : St w0 N a w E L) (ho : e1.own = true) (hs : List.Sublist [e1, e2] L) : e1.b ≠ e2.b := by
  have := st.uniq.sublist hs
  exact (List.pairwise_cons.1 this).1 e2 (by simp) (.inl ho)
theorem St.back2 {e1 e2 : Ent} (st : St w0 N a w E (e1 :: e2 :: L)) : St w0 N a w E (L ++ [e1, e2]) := st.perm (List.perm_append_comm (l₁ := [e1, e2]) (l₂ := L))
theorem St.disown {b : Nat} {ow : Bool} {o : Obj} (st : St w0 N a w E (⟨b, ow, o⟩ :: L)) : St w0 N a w E (⟨b, false, o⟩ :: L) := by
  refine ⟨st.env, st.size, st.defers, st.below, ?_, ?_⟩
  · intro e he
    rcases List.mem_cons.1 he with rfl | he
    · exact ⟨(st.facts _ List.mem_cons_self).1, fun h => by cases h⟩
    · exact st.facts e (List.mem_cons_of_mem _ he)
  · obtain ⟨h1, h2⟩ := List.pairwise_cons.1 st.uniq
    refine List.pairwise_cons.2 ⟨fun y hy ho => h1 y hy ?_, h2⟩
    rcases ho with ho | ho
    · cases ho
    · exact .inr ho
end

class B2T (P : Program) (t : TypeId) (z0 z1 : outParam Value) : Prop where
  b : ∀ parts, P.built t parts = Instr.fill ([(0, 1), (1, 1)].toArray[·]?) [z0, z1].toArray parts
instance : B2T Try.prog 27 (.slice none 0 0) (.slice none 0 0) := ⟨fun parts => by kernel_rfl⟩
section
variable {P : Program} {w0 w : World} {N : Nat} {a : Act} {E : List (Nat × Value)} {L Lh : List Ent} {K : Act → World → Prop} {Q : Exit → Act → World → Prop}
variable {d : Nat} {ty : TypeId} {pos : String} {aft : Array Edge} {g : Option (Nat × Bool)}
theorem fill22 {z0 z1 v0 v1 : Value} (h0 : v0.oneCell' = true) (h1 : v1.oneCell' = true) : Instr.fill ([(0, 1), (1, 1)].toArray[·]?) [z0, z1].toArray [(0, v0), (1, v1)] = some [v0, v1].toArray := by
  have c0 : v0.cells = #[v0] := cells_sca h0
  have c1 : v1.cells = #[v1] := cells_sca h1
  simp [Instr.fill, c0, c1]
theorem o_build2 {t : TypeId} {x y : Operand} {z0 z1 v0 v1 : Value} [hb : B2T P t z0 z1] (st : St w0 N a w E L) (hx : evE E x = some v0) (hy : evE E y = some v1) (h0 : v0.oneCell' = true) (h1 : v1.oneCell' = true) (hd : Nat.blt d N = true)
    (h : ∀ a', St w0 N a' w ((d, .agg [v0, v1].toArray) :: E) L → K a' w) : Oper.wp P ⟨some d, .build t #[(0, x), (1, y)], ty, pos, aft, g⟩ a w K Q :=
  o_build (parts := [(0, x), (1, y)]) (cs := [v0, v1]) st (fun w => run_build w t _ _ (by
    rw [hb.b]
    simp only [List.map_cons, List.map_nil, evE_eval st hx, evE_eval st hy]
    exact fill22 h0 h1)) hd h
theorem o_build0 {t : TypeId} {z0 z1 : Value} [hb : B2T P t z0 z1] (st : St w0 N a w E L) (hd : Nat.blt d N = true)
    (h : ∀ a', St w0 N a' w ((d, .agg [z0, z1].toArray) :: E) L → K a' w) : Oper.wp P ⟨some d, .build t #[], ty, pos, aft, g⟩ a w K Q :=
  o_build (parts := []) (cs := [z0, z1]) st (fun w => run_build w t _ _ (by rw [hb.b]; rfl)) hd h
end

/-- Where a curve's numbers lie. -/
structure CC where
  b1 : Nat
  o1 : Nat
  a1 : Array Value
  t1 : TypeId
  f1 : Nat × Nat
  cp : Nat
  b2 : Nat
  o2 : Nat
  a2 : Array Value
  t2 : TypeId
  f2 : Nat × Nat
  cw : Nat
structure CC.has (x : CC) (c : List Kn) : Prop where
  pt : ∀ (i : Nat) (v : Value), (c.map vPt)[i]? = some v → x.a1[x.o1 + i]? = some v
  wt : ∀ (i : Nat) (v : Value), (c.map vWt)[i]? = some v → x.a2[x.o2 + i]? = some v
theorem CrV.get {w : World} {c : List Kn} {v : Value} (h : CrV w c v) (h0 : 0 < c.length) : ∃ x : CC, v = .agg [.slice (some ⟨x.b1, x.o1, none⟩) c.length x.cp, .slice (some ⟨x.b2, x.o2, none⟩) c.length x.cw].toArray ∧ x.has c ∧ w.heap[x.b1]? = some (.cells x.a1 x.t1 x.f1) ∧ w.heap[x.b2]? = some (.cells x.a2 x.t2 x.f2) := by
  obtain ⟨bp, cp, bw, cw, rfl, hp, hw⟩ := h
  rcases hp with hp | ⟨b1, o1, a1, t1, f1, rfl, h1, h2⟩
  · have := congrArg List.length hp
    simp at this
    subst this
    simp at h0
  rcases hw with hw | ⟨b2, o2, a2, t2, f2, rfl, h3, h4⟩
  · have := congrArg List.length hw
    simp at this
    subst this
    simp at h0
  exact ⟨⟨b1, o1, a1, t1, f1, cp, b2, o2, a2, t2, f2, cw⟩, rfl, ⟨h2, h4⟩, h1, h3⟩
theorem CC.crv {w : World} {c : List Kn} (x : CC) (hx : x.has c) (h1 : w.heap[x.b1]? = some (.cells x.a1 x.t1 x.f1)) (h2 : w.heap[x.b2]? = some (.cells x.a2 x.t2 x.f2)) : CrV w c (.agg [.slice (some ⟨x.b1, x.o1, none⟩) c.length x.cp, .slice (some ⟨x.b2, x.o2, none⟩) c.length x.cw].toArray) :=
  ⟨_, _, _, _, rfl, .inr ⟨x.b1, x.o1, x.a1, x.t1, x.f1, rfl, h1, hx.pt⟩, .inr ⟨x.b2, x.o2, x.a2, x.t2, x.f2, rfl, h2, hx.wt⟩⟩
/-- The numbers of a place. -/
theorem CC.has.at1 {x : CC} {c : List Kn} (hx : x.has c) {k : Nat} (hk : k < c.length) {j : Int} (hj : j = k) : x.a1[x.o1 + j.toNat * 1]? = some (vPt c[k]) := by
  subst hj
  simp only [Int.toNat_natCast, Nat.mul_one]
  exact hx.pt k _ (by rw [List.getElem?_map, List.getElem?_eq_getElem hk]; rfl)
theorem CC.has.at2 {x : CC} {c : List Kn} (hx : x.has c) {k : Nat} (hk : k < c.length) {j : Int} (hj : j = k) : x.a2[x.o2 + j.toNat * 1]? = some (vWt c[k]) := by
  subst hj
  simp only [Int.toNat_natCast, Nat.mul_one]
  exact hx.wt k _ (by rw [List.getElem?_map, List.getElem?_eq_getElem hk]; rfl)
/-- A curve of one's own: two new blocks. -/
def OwnC (c : List Kn) (v : Value) (b : Nat) (o : Obj) (b' : Nat) (o' : Obj) : Prop := ∃ cp cw p1 p2, v = .agg [.slice (some ⟨b, 0, none⟩) c.length cp, .slice (some ⟨b', 0, none⟩) c.length cw].toArray ∧ o = oV 31 (c.map vPt) p1 ∧ o' = oV 29 (c.map vWt) p2
def ccOf (c : List Kn) (b cp b' cw : Nat) (p1 p2 : List Value) : CC := ⟨b, 0, (c.map vPt ++ p1).toArray, 31, (0, 0), cp, b', 0, (c.map vWt ++ p2).toArray, 29, (0, 0), cw⟩
theorem ccOf_has (c : List Kn) (b cp b' cw : Nat) (p1 p2 : List Value) : (ccOf c b cp b' cw p1 p2).has c := by
  constructor <;>
  · intro i v hv
    have hi := (List.getElem?_eq_some_iff.1 hv).1
    simp only [ccOf, Nat.zero_add, List.getElem?_toArray]
    rw [List.getElem?_append_left hi]
    exact hv
theorem crv_own {w : World} {c : List Kn} {b cp b' cw : Nat} {p1 p2 : List Value} (h1 : w.heap[b]? = some (oV 31 (c.map vPt) p1)) (h2 : w.heap[b']? = some (oV 29 (c.map vWt) p2)) : CrV w c (.agg [.slice (some ⟨b, 0, none⟩) c.length cp, .slice (some ⟨b', 0, none⟩) c.length cw].toArray) :=
  ⟨_, _, _, _, rfl, RdV.of h1, RdV.of h2⟩
theorem one_vPt (c : List Kn) : ∀ v ∈ c.map vPt, v.oneCell' = true := by
  intro v hv
  obtain ⟨k, _, rfl⟩ := List.mem_map.1 hv
  rfl
/-- The next row. -/
def nextC : List Kn → Nat → Option (List Kn)
  | a :: b :: r, t => (blendC a b t).bind fun k => (nextC (b :: r) t).bind fun l => some (k :: l)
  | _, _ => some []
theorem nextC_get (t : Nat) : ∀ (c c' : List Kn), nextC c t = some c' → c'.length = c.length - 1 ∧ ∀ (i : Nat) (h : i + 1 < c.length) (h' : i < c'.length), blendC c[i] c[i + 1] t = some c'[i]
  | [], c', h => by
    obtain rfl := Option.some.inj h
    exact ⟨rfl, fun i h => by simp at h⟩
  | [a], c', h => by
    obtain rfl := Option.some.inj h
    exact ⟨rfl, fun i h => by simp at h⟩
  | a :: b :: r, c', h => by
    obtain ⟨k, hk, h⟩ := ob h
    obtain ⟨l, hl, h⟩ := ob h
    obtain rfl := Option.some.inj h
    obtain ⟨i1, i2⟩ := nextC_get t (b :: r) l hl
    refine ⟨by simp at i1 ⊢; omega, ?_⟩
    intro i h1 h2
    cases i with
    | zero => exact hk
    | succ i => exact i2 i (by simpa using h1) (by simpa using h2)
attribute [local irreducible] Code.wp wpList Oper.wp Calls bodyPost Exit.then Exit.inBlock

end Go.Proofs.Ytonbcbhnnflohaa
