/-
  FnCurves: curves of their own; the next row; the point at a time.
-/
import Derived.Test.YtonbcbhnnflohaaYd
import Derived.Laws.Tables
namespace Go.Proofs.Ytonbcbhnnflohaa
open Go.RowKit

section
variable {P : Program} {w0 w : World} {N : Nat} {a : Act} {E : List (Nat × Value)} {L Lh : List Ent} {K : Act → World → Prop} {Q : Exit → Act → World → Prop}
theorem St.ne_of {e1 e2 : Ent} (st : St w0 N a w E L) (ho : e1.own = true) (hs : List.Sublist [e1, e2] L) : e1.b ≠ e2.b := by
  have := st.uniq.sublist hs
  exact (List.pairwise_cons.1 this).1 e2 (by simp) (.inl ho)
theorem St.back2 {e1 e2 : Ent} (st : St w0 N a w E (e1 :: e2 :: L)) : St w0 N a w E (L ++ [e1, e2]) := st.perm (List.perm_append_comm (l₁ := [e1, e2]) (l₂ := L))
theorem St.disown {b : Nat} {ow : Bool} {o : Obj} (st : St w0 N a w E (⟨b, ow, o⟩ :: L)) : St w0 N a w E (⟨b, false, o⟩ :: L) := by
  refine ⟨st.env, st.size, st.defers, st.below, ?_, ?_⟩
  · intro e he
    rcases List.mem_cons.1 he with rfl | he
    · exact ⟨(st.facts _ List.mem_cons_self).1, fun h => by cases h⟩
    · exact st.facts e (List.mem_cons_of_mem _ he)
  · obtain ⟨h1, h2⟩ := List.pairwise_cons.1 st.uniq
    refine List.pairwise_cons.2 ⟨fun y hy ho => h1 y hy ?_, h2⟩
    rcases ho with ho | ho
    · cases ho
    · exact .inr ho
end

class B2T (P : Program) (t : TypeId) (z0 z1 : outParam Value) : Prop where
  b : ∀ parts, P.built t parts = Instr.fill ([(0, 1), (1, 1)].toArray[·]?) [z0, z1].toArray parts
instance : B2T Try.prog 27 (.slice none 0 0) (.slice none 0 0) := ⟨fun parts => by kernel_rfl⟩
section
variable {P : Program} {w0 w : World} {N : Nat} {a : Act} {E : List (Nat × Value)} {L Lh : List Ent} {K : Act → World → Prop} {Q : Exit → Act → World → Prop}
variable {d : Nat} {ty : TypeId} {pos : String} {aft : Array Edge} {g : Option (Nat × Bool)}
theorem fill22 {z0 z1 v0 v1 : Value} (h0 : v0.oneCell' = true) (h1 : v1.oneCell' = true) : Instr.fill ([(0, 1), (1, 1)].toArray[·]?) [z0, z1].toArray [(0, v0), (1, v1)] = some [v0, v1].toArray := by
  have c0 : v0.cells = #[v0] := cells_sca h0
  have c1 : v1.cells = #[v1] := cells_sca h1
  simp [Instr.fill, c0, c1]
theorem o_build2 {t : TypeId} {x y : Operand} {z0 z1 v0 v1 : Value} [hb : B2T P t z0 z1] (st : St w0 N a w E L) (hx : evE E x = some v0) (hy : evE E y = some v1) (h0 : v0.oneCell' = true) (h1 : v1.oneCell' = true) (hd : Nat.blt d N = true)
    (h : ∀ a', St w0 N a' w ((d, .agg [v0, v1].toArray) :: E) L → K a' w) : Oper.wp P ⟨some d, .build t #[(0, x), (1, y)], ty, pos, aft, g⟩ a w K Q :=
  o_build (parts := [(0, x), (1, y)]) (cs := [v0, v1]) st (fun w => run_build w t _ _ (by
    rw [hb.b]
    simp only [List.map_cons, List.map_nil, evE_eval st hx, evE_eval st hy]
    exact fill22 h0 h1)) hd h
theorem o_build0 {t : TypeId} {z0 z1 : Value} [hb : B2T P t z0 z1] (st : St w0 N a w E L) (hd : Nat.blt d N = true)
    (h : ∀ a', St w0 N a' w ((d, .agg [z0, z1].toArray) :: E) L → K a' w) : Oper.wp P ⟨some d, .build t #[], ty, pos, aft, g⟩ a w K Q :=
  o_build (parts := []) (cs := [z0, z1]) st (fun w => run_build w t _ _ (by rw [hb.b]; rfl)) hd h
theorem v_load2 {t t' : TypeId} {x : Operand} {b : Nat} {own : Bool} {c0 c1 : Value} {fr : Nat × Nat} [ht : AggT P t 2] (st : St w0 N a w E L)
    (hx : evE E x = some (.pointer (some ⟨b, 0, none⟩))) (hA : At Lh b own (.cells [c0, c1].toArray t' fr)) : Vl P a Lh (.load t x) (.agg [c0, c1].toArray) :=
  v_loadA [c0, c1] st hx hA rfl (by intro j u hj; simpa using hj)
end

/-- Where a curve's numbers lie. -/
structure CC where
  b1 : Nat
  o1 : Nat
  a1 : Array Value
  t1 : TypeId
  f1 : Nat × Nat
  cp : Nat
  b2 : Nat
  o2 : Nat
  a2 : Array Value
  t2 : TypeId
  f2 : Nat × Nat
  cw : Nat
structure CC.has (x : CC) (c : List Kn) : Prop where
  pt : ∀ (i : Nat) (v : Value), (c.map vPt)[i]? = some v → x.a1[x.o1 + i]? = some v
  wt : ∀ (i : Nat) (v : Value), (c.map vWt)[i]? = some v → x.a2[x.o2 + i]? = some v
theorem CrV.get {w : World} {c : List Kn} {v : Value} (h : CrV w c v) (h0 : 0 < c.length) : ∃ x : CC, v = .agg [.slice (some ⟨x.b1, x.o1, none⟩) c.length x.cp, .slice (some ⟨x.b2, x.o2, none⟩) c.length x.cw].toArray ∧ x.has c ∧ w.heap[x.b1]? = some (.cells x.a1 x.t1 x.f1) ∧ w.heap[x.b2]? = some (.cells x.a2 x.t2 x.f2) := by
  obtain ⟨bp, cp, bw, cw, rfl, hp, hw⟩ := h
  rcases hp with hp | ⟨b1, o1, a1, t1, f1, rfl, h1, h2⟩
  · have := congrArg List.length hp
    simp at this
    subst this
    simp at h0
  rcases hw with hw | ⟨b2, o2, a2, t2, f2, rfl, h3, h4⟩
  · have := congrArg List.length hw
    simp at this
    subst this
    simp at h0
  exact ⟨⟨b1, o1, a1, t1, f1, cp, b2, o2, a2, t2, f2, cw⟩, rfl, ⟨h2, h4⟩, h1, h3⟩
theorem CC.crv {w : World} {c : List Kn} (x : CC) (hx : x.has c) (h1 : w.heap[x.b1]? = some (.cells x.a1 x.t1 x.f1)) (h2 : w.heap[x.b2]? = some (.cells x.a2 x.t2 x.f2)) : CrV w c (.agg [.slice (some ⟨x.b1, x.o1, none⟩) c.length x.cp, .slice (some ⟨x.b2, x.o2, none⟩) c.length x.cw].toArray) :=
  ⟨_, _, _, _, rfl, .inr ⟨x.b1, x.o1, x.a1, x.t1, x.f1, rfl, h1, hx.pt⟩, .inr ⟨x.b2, x.o2, x.a2, x.t2, x.f2, rfl, h2, hx.wt⟩⟩
/-- The numbers of a place. -/
theorem CC.has.at1 {x : CC} {c : List Kn} (hx : x.has c) {k : Nat} (hk : k < c.length) {j : Int} (hj : j = k) : x.a1[x.o1 + j.toNat * 1]? = some (vPt c[k]) := by
  subst hj
  simp only [Int.toNat_natCast, Nat.mul_one]
  exact hx.pt k _ (by rw [List.getElem?_map, List.getElem?_eq_getElem hk]; rfl)
theorem CC.has.at2 {x : CC} {c : List Kn} (hx : x.has c) {k : Nat} (hk : k < c.length) {j : Int} (hj : j = k) : x.a2[x.o2 + j.toNat * 1]? = some (vWt c[k]) := by
  subst hj
  simp only [Int.toNat_natCast, Nat.mul_one]
  exact hx.wt k _ (by rw [List.getElem?_map, List.getElem?_eq_getElem hk]; rfl)
/-- A curve of one's own: two new blocks. -/
def OwnC (c : List Kn) (v : Value) (b : Nat) (o : Obj) (b' : Nat) (o' : Obj) : Prop := ∃ cp cw p1 p2, v = .agg [.slice (some ⟨b, 0, none⟩) c.length cp, .slice (some ⟨b', 0, none⟩) c.length cw].toArray ∧ o = oV 31 (c.map vPt) p1 ∧ o' = oV 29 (c.map vWt) p2
def ccOf (c : List Kn) (b cp b' cw : Nat) (p1 p2 : List Value) : CC := ⟨b, 0, (c.map vPt ++ p1).toArray, 31, (0, 0), cp, b', 0, (c.map vWt ++ p2).toArray, 29, (0, 0), cw⟩
theorem ccOf_has (c : List Kn) (b cp b' cw : Nat) (p1 p2 : List Value) : (ccOf c b cp b' cw p1 p2).has c := by
  constructor <;>
  · intro i v hv
    have hi := (List.getElem?_eq_some_iff.1 hv).1
    simp only [ccOf, Nat.zero_add, List.getElem?_toArray]
    rw [List.getElem?_append_left hi]
    exact hv
theorem crv_own {w : World} {c : List Kn} {b cp b' cw : Nat} {p1 p2 : List Value} (h1 : w.heap[b]? = some (oV 31 (c.map vPt) p1)) (h2 : w.heap[b']? = some (oV 29 (c.map vWt) p2)) : CrV w c (.agg [.slice (some ⟨b, 0, none⟩) c.length cp, .slice (some ⟨b', 0, none⟩) c.length cw].toArray) :=
  ⟨_, _, _, _, rfl, RdV.of h1, RdV.of h2⟩
theorem one_vPt (c : List Kn) : ∀ v ∈ c.map vPt, v.oneCell' = true := by
  intro v hv
  obtain ⟨k, _, rfl⟩ := List.mem_map.1 hv
  rfl
theorem one_vWt (c : List Kn) : ∀ v ∈ c.map vWt, v.oneCell' = true := by
  intro v hv
  obtain ⟨k, _, rfl⟩ := List.mem_map.1 hv
  rfl
/-- The next row. -/
def nextC : List Kn → Nat → Option (List Kn)
  | a :: b :: r, t => (blendC a b t).bind fun k => (nextC (b :: r) t).bind fun l => some (k :: l)
  | _, _ => some []
theorem nextC_get (t : Nat) : ∀ (c c' : List Kn), nextC c t = some c' → c'.length = c.length - 1 ∧ ∀ (i : Nat) (h : i + 1 < c.length) (h' : i < c'.length), blendC c[i] c[i + 1] t = some c'[i]
  | [], c', h => by
    obtain rfl := Option.some.inj h
    exact ⟨rfl, fun i h => by simp at h⟩
  | [a], c', h => by
    obtain rfl := Option.some.inj h
    exact ⟨rfl, fun i h => by simp at h⟩
  | a :: b :: r, c', h => by
    obtain ⟨k, hk, h⟩ := ob h
    obtain ⟨l, hl, h⟩ := ob h
    obtain rfl := Option.some.inj h
    obtain ⟨i1, i2⟩ := nextC_get t (b :: r) l hl
    refine ⟨by simp at i1 ⊢; omega, ?_⟩
    intro i h1 h2
    cases i with
    | zero => exact hk
    | succ i => exact i2 i (by simpa using h1) (by simpa using h2)
attribute [local irreducible] Code.wp wpList Oper.wp Calls bodyPost Exit.then Exit.inBlock

theorem copyCurve_ok (c : List Kn) (v : Value) (h0 : 0 < c.length) (hl : c.length ≤ 1000) (w : World) (hv : CrV w c v) : CM2 Try.prog 101 [v] w (OwnC c) := by
  obtain ⟨x, rfl, hx, h1, h2⟩ := hv.get h0
  have c1 := fun w hr => cloneP_ok (c.map vPt) (one_vPt c) (some ⟨x.b1, x.o1, none⟩) x.cp w hr (by simpa using h0) (by rw [List.length_map]; omega)
  have c2 := fun w hr => cloneW_ok (c.map vWt) (one_vWt c) (some ⟨x.b2, x.o2, none⟩) x.cw w hr (by simpa using h0) (by rw [List.length_map]; omega)
  rw [List.length_map] at c1 c2
  refine enter Try.func101 rfl rfl rfl rfl ?_
  intro a st
  have hr1 : RdV w (some ⟨x.b1, x.o1, none⟩) (c.map vPt) := .inr ⟨_, _, _, _, _, rfl, h1, hx.pt⟩
  have hr2 : RdV w (some ⟨x.b2, x.o2, none⟩) (c.map vWt) := .inr ⟨_, _, _, _, _, rfl, h2, hx.wt⟩
  (repeat' (first | refine c_seq ?_  | refine c_region ?_  | refine l_do ?_  | refine l_nil ?_  | refine x_then ?_  | refine wp_ret ?_  | ((first | refine o_alloc st rfl ?_  | refine o_boxA st rfl rfl ?_ ); clear st; intro _ _ _ st)  | ((first | refine o_storeW st rfl rfl (by repeat constructor) rfl rfl rfl ?_); clear st; intro _ _ st)  | ((first | refine o_build3 st rfl rfl rfl rfl rfl rfl rfl ?_  | refine o_build2 st rfl rfl rfl rfl rfl ?_ ); clear st; intro _ st)))
  refine c_drawA (last := 7) hm_ (by decide +kernel) (by decide +kernel) st ?_; clear st; intro _ st
  refine d_v 0 st (by repeat constructor) rfl (by decide +kernel) rfl (v_fieldAddr st rfl) ?_; clear st; intro _ st
  refine d_v 1 st (by repeat constructor) rfl (by decide +kernel) rfl (by first | exact v_load3 st rfl (by repeat constructor) | exact v_loadS st rfl (by repeat constructor) rfl) ?_; clear st; intro _ st
  refine d_v 3 st (by repeat constructor) rfl (by decide +kernel) rfl (v_fieldAddr st rfl) ?_; clear st; intro _ st
  refine d_v 4 st (by repeat constructor) rfl (by decide +kernel) rfl (by first | exact v_load3 st rfl (by repeat constructor) | exact v_loadS st rfl (by repeat constructor) rfl) ?_; clear st; intro _ st
  refine d_one 2 (by decide +kernel) rfl ?_
  refine o_callM1 st rfl (c1 _ (hr1.mono st.below)) rfl ?_; clear st; rintro _ b1 _ ⟨cap1, pad1, rfl, rfl, _⟩ _ _ st
  refine kh st (by repeat constructor) ?_
  refine d_one 5 (by decide +kernel) rfl ?_
  refine o_callM1 st rfl (c2 _ (hr2.mono st.below)) rfl ?_; clear st; rintro _ b2 _ ⟨cap2, pad2, rfl, rfl, _⟩ _ _ st
  refine kh st (by repeat constructor) ?_
  refine d_one 6 (by decide +kernel) rfl ?_
  refine o_build2 st rfl rfl rfl rfl rfl ?_; clear st; intro _ st
  refine kh st (by repeat constructor) ?_
  refine d_one 7 (by decide +kernel) rfl ?_
  (first | ((first | refine o_storeW st rfl rfl (by repeat constructor) rfl rfl rfl ?_); clear st; intro _ _ st))
  refine k_last ?_
  refine d_done (by decide +kernel) ?_
  (repeat' (first | refine c_seq ?_  | refine c_region ?_  | refine l_do ?_  | refine l_nil ?_  | refine x_then ?_  | refine wp_ret ?_  | ((first | refine o_alloc st rfl ?_  | refine o_boxA st rfl rfl ?_ ); clear st; intro _ _ _ st)  | ((first | refine o_storeW st rfl rfl (by repeat constructor) rfl rfl rfl ?_); clear st; intro _ _ st)  | ((first | refine o_build3 st rfl rfl rfl rfl rfl rfl rfl ?_  | refine o_build2 st rfl rfl rfl rfl rfl ?_ ); clear st; intro _ st)))
  refine post1 st Try.results101 (rd_c st rfl (by repeat constructor) rfl) ?_
  have hne := st.ne_of (e1 := ⟨b2, true, oV 29 (c.map vWt) pad2⟩) (e2 := ⟨b1, true, oV 31 (c.map vPt) pad1⟩) rfl (by repeat (first | exact List.Sublist.refl _  | apply List.Sublist.cons_cons  | apply List.Sublist.cons  | exact List.nil_sublist _))
  exact ⟨_, b1, _, b2, _, rfl, ⟨cap1, cap2, pad1, pad2, rfl, rfl, rfl⟩, st.ex2 (by repeat constructor) (by repeat constructor) hne.symm⟩
end Go.Proofs.Ytonbcbhnnflohaa
