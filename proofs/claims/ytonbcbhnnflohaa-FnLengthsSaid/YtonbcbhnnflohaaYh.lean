/-
  FnCurves: both parts of a curve. (printed by a program)
-/
import Derived.Test.YtonbcbhnnflohaaYg
namespace Go.Proofs.Ytonbcbhnnflohaa
open Go.RowKit

/-- A curve's block, or one that will hold one. -/
abbrev eP (p : Nat) (v1 v2 : Value) : Ent := ⟨p, true, .cells [v1, v2].toArray 27 (0, 0)⟩
section
variable {P : Program} {w0 w : World} {N : Nat} {a : Act} {E : List (Nat × Value)} {L Lh : List Ent} {K : Act → World → Prop} {Q : Exit → Act → World → Prop}
variable {d : Nat} {ty : TypeId} {pos : String} {aft : Array Edge} {g : Option (Nat × Bool)}
theorem St.back4 {e1 e2 e3 e4 : Ent} (st : St w0 N a w E (e1 :: e2 :: e3 :: e4 :: L)) : St w0 N a w E (L ++ [e4, e3, e2, e1]) :=
  st.perm (((List.reverse_perm [e1, e2, e3, e4]).symm.append_right L).trans List.perm_append_comm)
/-- A call that gives two curves of its own. -/
def CM4 (P : Program) (f : FuncId) (vs : List Value) (w : World) (F : Value → Value → Value) (l r : List Kn) : Prop := Calls P f vs.toArray w fun e w' => ∃ va vb b1 o1 b2 o2 b3 o3 b4 o4, e = .returned (F va vb) ∧ OwnC l va b1 o1 b2 o2 ∧ OwnC r vb b3 o3 b4 o4 ∧ Ex w w' [⟨b1, true, o1⟩, ⟨b2, true, o2⟩, ⟨b3, true, o3⟩, ⟨b4, true, o4⟩]
theorem St.ext4 {w' : World} {b1 b2 b3 b4 : Nat} {o1 o2 o3 o4 : Obj} (st : St w0 N a w E L) (hx : Ex w w' [⟨b1, true, o1⟩, ⟨b2, true, o2⟩, ⟨b3, true, o3⟩, ⟨b4, true, o4⟩]) : St w0 N a w' E (⟨b1, true, o1⟩ :: ⟨b2, true, o2⟩ :: ⟨b3, true, o3⟩ :: ⟨b4, true, o4⟩ :: L) := by
  have := st.ext hx
  simpa using this
theorem o_callM4 {f : FuncId} {args : List Operand} {tys : Array TypeId} {vs : List Value} {F : Value → Value → Value} {l r : List Kn} [hf : FnT P f] (st : St w0 N a w E L) (ha : evs E args = some vs)
    (hc : CM4 P f vs w F l r) (hd : Nat.blt d N = true) (h : ∀ va vb b1 o1 b2 o2 b3 o3 b4 o4, OwnC l va b1 o1 b2 o2 → OwnC r vb b3 o3 b4 o4 → ∀ a' w', St w0 N a' w' ((d, F va vb) :: E) (⟨b1, true, o1⟩ :: ⟨b2, true, o2⟩ :: ⟨b3, true, o3⟩ :: ⟨b4, true, o4⟩ :: L) → K a' w') : Oper.wp P ⟨some d, .call { callee := .value (.func f), args := args.toArray, argTypes := tys }, ty, pos, aft, g⟩ a w K Q :=
  o_call st ha hc fun _ _ ⟨va, vb, b1, o1, b2, o2, b3, o3, b4, o4, he, h1, h2, hx⟩ => ⟨F va vb, he, h va vb b1 o1 b2 o2 b3 o3 b4 o4 h1 h2 _ _ ((st.ext4 hx).put d hd _)⟩
theorem St.ex4 {b1 b2 b3 b4 : Nat} {o1 o2 o3 o4 : Obj} (st : St w0 N a w E [⟨b1, true, o1⟩, ⟨b2, true, o2⟩, ⟨b3, true, o3⟩, ⟨b4, true, o4⟩]) : Ex w0 w [⟨b1, true, o1⟩, ⟨b2, true, o2⟩, ⟨b3, true, o3⟩, ⟨b4, true, o4⟩] := by
  refine ⟨st.below, ?_, ?_⟩
  · intro e he
    obtain ⟨h1, h2⟩ := st.facts e he
    refine ⟨h1, h2 ?_⟩
    simp at he
    rcases he with rfl | rfl | rfl | rfl <;> rfl
  · have := st.uniq
    simpa using this
end
/-- Both parts: the first points of all rows, and the last points of all rows. -/
def cutC : Nat → List Kn → Nat → Option (List Kn × List Kn)
  | 0, c, _ => c.head?.bind fun k => some ([k], [k])
  | n + 1, c, t => c.head?.bind fun k => c.getLast?.bind fun l => (nextC c t).bind fun d => (cutC n d t).bind fun r => some (k :: r.1, l :: r.2)
theorem cutC_step (n : Nat) (d : List Kn) (t : Nat) (l r : List Kn) (hn : d.length = n + 1) (h : cutC n d t = some (l, r)) (h0 : 0 < d.length) (h1 : d.length - 1 < d.length) :
    ∃ l' r', l = d[0] :: l' ∧ r = d[d.length - 1] :: r' ∧ (n = 0 → l' = [] ∧ r' = []) ∧ ∀ m, n = m + 1 → ∃ d', nextC d t = some d' ∧ cutC m d' t = some (l', r') := by
  cases n with
  | zero =>
    obtain ⟨k, hk, h⟩ := ob h
    have h := Option.some.inj h
    rw [Prod.mk.injEq] at h
    obtain ⟨rfl, rfl⟩ := h
    rw [List.head?_eq_getElem?, List.getElem?_eq_getElem h0] at hk
    obtain rfl := Option.some.inj hk
    refine ⟨[], [], rfl, ?_, fun _ => ⟨rfl, rfl⟩, fun m hm => by omega⟩
    simp [hn]
  | succ n =>
    obtain ⟨k, hk, h⟩ := ob h
    obtain ⟨q, hq, h⟩ := ob h
    obtain ⟨d', hd, h⟩ := ob h
    obtain ⟨⟨l', r'⟩, hr, h⟩ := ob h
    have h := Option.some.inj h
    rw [Prod.mk.injEq] at h
    obtain ⟨rfl, rfl⟩ := h
    rw [List.head?_eq_getElem?, List.getElem?_eq_getElem h0] at hk
    rw [List.getLast?_eq_getElem?, List.getElem?_eq_getElem h1] at hq
    obtain rfl := Option.some.inj hk
    obtain rfl := Option.some.inj hq
    refine ⟨l', r', rfl, rfl, fun h => by omega, ?_⟩
    intro m hm
    obtain rfl : m = n := by omega
    exact ⟨d', hd, hr⟩
theorem GV.one {e : TypeId} {v : Value} {c : List Kn} {f : Kn → Value} {b : Nat} {pad : List Value} (h : GV e v (c.map f) [⟨b, true, oV e (c.map f) pad⟩]) : ∃ cp, v = .slice (some ⟨b, 0, none⟩) c.length cp := by
  rcases h with ⟨_, _, h⟩ | ⟨b', cp, pad', _, rfl, h, _⟩
  · cases h
  · rw [List.cons.injEq, Ent.mk.injEq] at h
    rw [← h.1.1, List.length_map]
    exact ⟨cp, rfl⟩
theorem map_one (A : List Kn) (k : Kn) (f : Kn → Value) : A.map f ++ [f k] = (A ++ [k]).map f := by simp
attribute [local irreducible] Code.wp wpList Oper.wp Calls bodyPost Exit.then Exit.inBlock

set_option maxHeartbeats 4000000 in
theorem cut_ok (c : List Kn) (t : Nat) (l r : List Kn) (h : cutC (c.length - 1) c t = some (l, r)) (h1 : 1 ≤ c.length) (hl : c.length ≤ 1000) (v : Value) (w : World) (hv : CrV w c v) :
    CM4 Try.prog 48 [v, .float .f32 t] w (fun va vb => .tuple #[va, vb]) l r.reverse := by
  obtain ⟨x, rfl, hx, h3, h4⟩ := hv.get (by omega)
  refine enter Try.func48 rfl rfl rfl rfl ?_
  intro a st
  have st := (st.addOld h3).addOld h4
  (repeat' (first | refine c_seq ?_  | refine c_region ?_  | refine l_do ?_  | refine l_nil ?_  | refine x_then ?_  | refine x_thenE ?_  | refine x_blkN ?_  | refine x_blkE ?_  | refine x_blkO rfl ?_  | refine wp_ret ?_  | refine wp_skip ?_  | refine wp_block ?_  | refine wp_exit ?_  | refine c_condT st rfl ?_  | refine c_condF st rfl ?_  | ((first | refine o_move st rfl rfl ?_  | refine o_assign st rfl rfl ?_); clear st; intro _ st)  | ((first | refine o_alloc st rfl ?_  | refine o_boxA st rfl rfl ?_ ); clear st; intro _ _ _ st)  | ((first | refine o_fieldAddr st rfl rfl ?_  | refine o_load2 st rfl (by repeat constructor) rfl ?_ ); clear st; intro _ st)  | ((first | refine o_storeS st rfl rfl rfl (by repeat constructor) rfl (by dsimp only [List.set]) ?_  | refine o_storeW st rfl rfl (by repeat constructor) rfl rfl rfl ?_); clear st; intro _ _ st)  | ((first | refine o_build3 st rfl rfl rfl rfl rfl rfl rfl ?_  | refine o_build0 st rfl ?_); clear st; intro _ st)  | (refine o_eqlI st rfl rfl rfl ?_ ?_ <;> clear st <;> intro _ _ st <;> (try (exfalso; omega)))))
  have hA : ([] : List Kn).length = 0 := rfl
  refine wp_loop_ghost (fun n a w' => ∃ (d A B l' r' : List Kn) (x : CC) (p2 p4 p5 p6 p7 : Nat) (va1 va2 vb1 vb2 : Value) (La1 La2 Lb1 Lb2 : List Ent), d.length = n + 1 ∧ d.length + A.length ≤ 1000 ∧ A.length = B.length ∧ cutC n d t = some (l', r') ∧ A ++ l' = l ∧ B ++ r' = r ∧ x.has d ∧ GV 31 va1 (A.map vPt) La1 ∧ GV 29 va2 (A.map vWt) La2 ∧ GV 31 vb1 (B.map vPt) Lb1 ∧ GV 29 vb2 (B.map vWt) Lb2 ∧ St w Try.f48.ntmps a w' [(1, .float .f32 t), (2, .pointer (some ⟨p2, 0, none⟩)), (4, .pointer (some ⟨p4, 0, none⟩)), (5, .pointer (some ⟨p5, 0, none⟩)), (6, .pointer (some ⟨p6, 0, none⟩)), (7, .pointer (some ⟨p7, 0, none⟩))]
    (eP p7 vb1 vb2 :: eP p6 va1 va2 :: eP p5 (.slice none 0 0) (.slice none 0 0) :: eP p4 (.slice none 0 0) (.slice none 0 0) :: eP p2 (.slice (some ⟨x.b1, x.o1, none⟩) d.length x.cp) (.slice (some ⟨x.b2, x.o2, none⟩) d.length x.cw) :: ⟨x.b2, false, .cells x.a2 x.t2 x.f2⟩ :: ⟨x.b1, false, .cells x.a1 x.t1 x.f1⟩ :: (La1 ++ (La2 ++ (Lb1 ++ Lb2))))) (c.length - 1) ⟨c, [], [], l, r, x, _, _, _, _, _, _, _, _, _, [], [], [], [], by omega, by rw [hA]; omega, rfl, h, rfl, rfl, hx, GV.nil, GV.nil, GV.nil, GV.nil, (st.fit (by repeat (first | exact trivial  | refine And.intro rfl ?_))).subL (by repeat (first | exact List.Sublist.refl _  | apply List.Sublist.cons_cons  | apply List.Sublist.cons  | exact List.nil_sublist _))⟩ ?_
  clear st
  rintro n a w' ⟨d, A, B, l1, r1, x, p2, p4, p5, p6, p7, va1, va2, vb1, vb2, La1, La2, Lb1, Lb2, hn, hl, hAB, hc, rfl, rfl, hx, hGa1, hGa2, hGb1, hGb2, st⟩
  have c1 := fun w hv => degree_ok d (.agg [.slice (some ⟨x.b1, x.o1, none⟩) d.length x.cp, .slice (some ⟨x.b2, x.o2, none⟩) d.length x.cw].toArray) (by omega) w hv
  obtain ⟨l', r', rfl, rfl, hz, hm⟩ := cutC_step n d t l1 r1 hn hc (by omega) (by omega)
  have g1 := hx.at1 (k := 0) (j := 0) (by omega) rfl
  have g2 := hx.at2 (k := 0) (j := 0) (by omega) rfl
  have g3 := hx.at1 (k := d.length - 1) (j := (d.length : Int) - 1) (by omega) (by omega)
  have g4 := hx.at2 (k := d.length - 1) (j := (d.length : Int) - 1) (by omega) (by omega)
  (repeat' (first | (refine o_callV st rfl (c1 _ (x.crv hx (st.heap (by repeat constructor)) (st.heap (by repeat constructor)))) rfl ?_; clear st; intro _ _ st)  | refine c_seq ?_  | refine c_region ?_  | refine l_do ?_  | refine l_nil ?_  | refine x_then ?_  | refine x_thenE ?_  | refine x_blkN ?_  | refine x_blkE ?_  | refine x_blkO rfl ?_  | refine wp_ret ?_  | refine wp_skip ?_  | refine wp_block ?_  | refine wp_exit ?_  | refine c_condT st rfl ?_  | refine c_condF st rfl ?_  | ((first | refine o_move st rfl rfl ?_  | refine o_assign st rfl rfl ?_); clear st; intro _ st)  | ((first | refine o_alloc st rfl ?_  | refine o_boxA st rfl rfl ?_ ); clear st; intro _ _ _ st)  | ((first | refine o_fieldAddr st rfl rfl ?_  | refine o_load2 st rfl (by repeat constructor) rfl ?_ ); clear st; intro _ st)  | ((first | refine o_storeS st rfl rfl rfl (by repeat constructor) rfl (by dsimp only [List.set]) ?_  | refine o_storeW st rfl rfl (by repeat constructor) rfl rfl rfl ?_); clear st; intro _ _ st)  | ((first | refine o_build3 st rfl rfl rfl rfl rfl rfl rfl ?_  | refine o_build0 st rfl ?_); clear st; intro _ st)  | (refine o_eqlI st rfl rfl rfl ?_ ?_ <;> clear st <;> intro _ _ st <;> (try (exfalso; omega)))))
  refine c_drawC (F := (fun _ _ a w' => ∃ (va1 va2 : Value) (b1 b2 : Nat) (pad1 pad2 : List Value), GV 31 va1 ((A ++ [d[0]]).map vPt) [⟨b1, true, oV 31 ((A ++ [d[0]]).map vPt) pad1⟩] ∧ GV 29 va2 ((A ++ [d[0]]).map vWt) [⟨b2, true, oV 29 ((A ++ [d[0]]).map vWt) pad2⟩] ∧ St w Try.f48.ntmps a w' [(1, .float .f32 t), (2, .pointer (some ⟨p2, 0, none⟩)), (4, .pointer (some ⟨p4, 0, none⟩)), (5, .pointer (some ⟨p5, 0, none⟩)), (6, .pointer (some ⟨p6, 0, none⟩)), (7, .pointer (some ⟨p7, 0, none⟩)), (8, .int .i64 ((d.length : Int) - 1))] (⟨b2, true, oV 29 ((A ++ [d[0]]).map vWt) pad2⟩ :: ⟨b1, true, oV 31 ((A ++ [d[0]]).map vPt) pad1⟩ :: eP p7 vb1 vb2 :: eP p6 va1 va2 :: eP p5 (.slice none 0 0) (.slice none 0 0) :: eP p4 (.slice none 0 0) (.slice none 0 0) :: eP p2 (.slice (some ⟨x.b1, x.o1, none⟩) d.length x.cp) (.slice (some ⟨x.b2, x.o2, none⟩) d.length x.cw) :: ⟨x.b2, false, .cells x.a2 x.t2 x.f2⟩ :: ⟨x.b1, false, .cells x.a1 x.t1 x.f1⟩ :: (Lb1 ++ Lb2)))) (Lh := [eP p6 va1 va2, eP p2 (.slice (some ⟨x.b1, x.o1, none⟩) d.length x.cp) (.slice (some ⟨x.b2, x.o2, none⟩) d.length x.cw), ⟨x.b2, false, .cells x.a2 x.t2 x.f2⟩, ⟨x.b1, false, .cells x.a1 x.t1 x.f1⟩]) (last := 17) hm_ (by decide +kernel) (by decide +kernel) st ?_ ?_
  · clear st; intro _ st
    refine d_v 0 st (by repeat constructor) rfl (by decide +kernel) rfl (v_fieldAddr st rfl) ?_; clear st; intro _ st
    refine d_v 1 st (by repeat constructor) rfl (by decide +kernel) rfl (by first | exact v_load3 st rfl (by repeat constructor) | exact v_loadS st rfl (by repeat constructor) rfl) ?_; clear st; intro _ st
    refine d_v 2 st (by repeat constructor) rfl (by decide +kernel) rfl (v_fieldAddr st rfl) ?_; clear st; intro _ st
    refine d_v 3 st (by repeat constructor) rfl (by decide +kernel) rfl (by first | exact v_load3 st rfl (by repeat constructor) | exact v_loadS st rfl (by repeat constructor) rfl) ?_; clear st; intro _ st
    refine d_v 4 st (by repeat constructor) rfl (by decide +kernel) rfl (v_indexAddr st rfl rfl (by omega) (by omega)) ?_; clear st; intro _ st
    refine d_v 5 st (by repeat constructor) rfl (by decide +kernel) rfl (v_loadS st rfl (by repeat constructor) g1) ?_; clear st; intro _ st
    refine d_v 8 st (by repeat constructor) rfl (by decide +kernel) rfl (v_fieldAddr st rfl) ?_; clear st; intro _ st
    refine d_v 9 st (by repeat constructor) rfl (by decide +kernel) rfl (by first | exact v_load3 st rfl (by repeat constructor) | exact v_loadS st rfl (by repeat constructor) rfl) ?_; clear st; intro _ st
    refine d_v 10 st (by repeat constructor) rfl (by decide +kernel) rfl (v_fieldAddr st rfl) ?_; clear st; intro _ st
    refine d_v 11 st (by repeat constructor) rfl (by decide +kernel) rfl (by first | exact v_load3 st rfl (by repeat constructor) | exact v_loadS st rfl (by repeat constructor) rfl) ?_; clear st; intro _ st
    refine d_v 12 st (by repeat constructor) rfl (by decide +kernel) rfl (v_indexAddr st rfl rfl (by omega) (by omega)) ?_; clear st; intro _ st
    refine d_v 13 st (by repeat constructor) rfl (by decide +kernel) rfl (v_loadS st rfl (by repeat constructor) g2) ?_; clear st; intro _ st
    refine d_two 6 14 (by decide +kernel) rfl rfl ?_ ?_
    · skip
      refine o_buildSlice st rfl rfl rfl rfl rfl rfl ?_; clear st; intro _ _ _ st
      refine kh st (by repeat constructor) ?_
      refine d_two 7 14 (by decide +kernel) rfl rfl ?_ ?_
      · skip
        refine o_appendGV rfl st hGa1 rfl rfl (by repeat constructor) rfl (by rw [List.length_map]; omega) (by repeat (first | exact RemS.here  | apply RemS.there)) rfl ?_; clear st; intro b1 cap1 pad1 _ _ hp1 st
        refine kh st (by repeat constructor) ?_
        refine d_v 16 st (by repeat constructor) rfl (by decide +kernel) rfl (v_fieldAddr st rfl) ?_; clear st; intro _ st
        refine d_one 14 (by decide +kernel) rfl ?_
        refine o_buildSlice st rfl rfl rfl rfl rfl rfl ?_; clear st; intro _ _ _ st
        refine kh st (by repeat constructor) ?_
        refine d_one 15 (by decide +kernel) rfl ?_
        refine o_appendGV rfl st hGa2 rfl rfl (by repeat constructor) rfl (by rw [List.length_map]; omega) (by repeat (first | exact RemS.here  | apply RemS.there)) rfl ?_; clear st; intro b2 cap2 pad2 _ _ hp2 st
        refine kh st (by repeat constructor) ?_
        refine d_one 17 (by decide +kernel) rfl ?_
        (first | ((first | refine o_storeS st rfl rfl rfl (by repeat constructor) rfl (by dsimp only [List.set]) ?_  | refine o_storeW st rfl rfl (by repeat constructor) rfl rfl rfl ?_); clear st; intro _ _ st))
        refine k_last ?_
        refine d_one 18 (by decide +kernel) rfl ?_
        (first | (refine o_fieldAddr st rfl rfl ?_; clear st; intro _ st))
        refine k_last ?_
        refine d_one 19 (by decide +kernel) rfl ?_
        (first | ((first | refine o_storeS st rfl rfl rfl (by repeat constructor) rfl (by dsimp only [List.set]) ?_  | refine o_storeW st rfl rfl (by repeat constructor) rfl rfl rfl ?_); clear st; intro _ _ st))
        refine k_last ?_
        refine d_done (by decide +kernel) ?_
        refine ⟨rfl, ?_⟩
        have e1 := map_one A d[0] vPt
        have e2 := map_one A d[0] vWt
        rw [← e1, ← e2]
        exact ⟨_, _, _, _, _, _, GV.grown hp1, GV.grown hp2, (st.subL (by repeat (first | exact List.Sublist.refl _  | apply List.Sublist.cons_cons  | apply List.Sublist.cons  | exact List.nil_sublist _))).fit (by repeat (first | exact trivial  | refine And.intro rfl ?_))⟩
      · skip
        refine o_buildSlice st rfl rfl rfl rfl rfl rfl ?_; clear st; intro _ _ _ st
        refine kh st (by repeat constructor) ?_
        refine d_one 7 (by decide +kernel) rfl ?_
        refine o_appendGV rfl st hGa1 rfl rfl (by repeat constructor) rfl (by rw [List.length_map]; omega) (by repeat (first | exact RemS.here  | apply RemS.there)) rfl ?_; clear st; intro b1 cap1 pad1 _ _ hp1 st
        refine kh st (by repeat constructor) ?_
        refine d_v 16 st (by repeat constructor) rfl (by decide +kernel) rfl (v_fieldAddr st rfl) ?_; clear st; intro _ st
        refine d_one 15 (by decide +kernel) rfl ?_
        refine o_appendGV rfl st hGa2 rfl rfl (by repeat constructor) rfl (by rw [List.length_map]; omega) (by repeat (first | exact RemS.here  | apply RemS.there)) rfl ?_; clear st; intro b2 cap2 pad2 _ _ hp2 st
        refine kh st (by repeat constructor) ?_
        refine d_one 17 (by decide +kernel) rfl ?_
        (first | ((first | refine o_storeS st rfl rfl rfl (by repeat constructor) rfl (by dsimp only [List.set]) ?_  | refine o_storeW st rfl rfl (by repeat constructor) rfl rfl rfl ?_); clear st; intro _ _ st))
        refine k_last ?_
        refine d_one 18 (by decide +kernel) rfl ?_
        (first | (refine o_fieldAddr st rfl rfl ?_; clear st; intro _ st))
        refine k_last ?_
        refine d_one 19 (by decide +kernel) rfl ?_
        (first | ((first | refine o_storeS st rfl rfl rfl (by repeat constructor) rfl (by dsimp only [List.set]) ?_  | refine o_storeW st rfl rfl (by repeat constructor) rfl rfl rfl ?_); clear st; intro _ _ st))
        refine k_last ?_
        refine d_done (by decide +kernel) ?_
        refine ⟨rfl, ?_⟩
        have e1 := map_one A d[0] vPt
        have e2 := map_one A d[0] vWt
        rw [← e1, ← e2]
        exact ⟨_, _, _, _, _, _, GV.grown hp1, GV.grown hp2, (st.subL (by repeat (first | exact List.Sublist.refl _  | apply List.Sublist.cons_cons  | apply List.Sublist.cons  | exact List.nil_sublist _))).fit (by repeat (first | exact trivial  | refine And.intro rfl ?_))⟩
    · skip
      refine o_buildSlice st rfl rfl rfl rfl rfl rfl ?_; clear st; intro _ _ _ st
      refine kh st (by repeat constructor) ?_
      refine d_one 6 (by decide +kernel) rfl ?_
      refine o_buildSlice st rfl rfl rfl rfl rfl rfl ?_; clear st; intro _ _ _ st
      refine kh st (by repeat constructor) ?_
      refine d_one 7 (by decide +kernel) rfl ?_
      refine o_appendGV rfl st hGa1 rfl rfl (by repeat constructor) rfl (by rw [List.length_map]; omega) (by repeat (first | exact RemS.here  | apply RemS.there)) rfl ?_; clear st; intro b1 cap1 pad1 _ _ hp1 st
      refine kh st (by repeat constructor) ?_
      refine d_v 16 st (by repeat constructor) rfl (by decide +kernel) rfl (v_fieldAddr st rfl) ?_; clear st; intro _ st
      refine d_one 15 (by decide +kernel) rfl ?_
      refine o_appendGV rfl st hGa2 rfl rfl (by repeat constructor) rfl (by rw [List.length_map]; omega) (by repeat (first | exact RemS.here  | apply RemS.there)) rfl ?_; clear st; intro b2 cap2 pad2 _ _ hp2 st
      refine kh st (by repeat constructor) ?_
      refine d_one 17 (by decide +kernel) rfl ?_
      (first | ((first | refine o_storeS st rfl rfl rfl (by repeat constructor) rfl (by dsimp only [List.set]) ?_  | refine o_storeW st rfl rfl (by repeat constructor) rfl rfl rfl ?_); clear st; intro _ _ st))
      refine k_last ?_
      refine d_one 18 (by decide +kernel) rfl ?_
      (first | (refine o_fieldAddr st rfl rfl ?_; clear st; intro _ st))
      refine k_last ?_
      refine d_one 19 (by decide +kernel) rfl ?_
      (first | ((first | refine o_storeS st rfl rfl rfl (by repeat constructor) rfl (by dsimp only [List.set]) ?_  | refine o_storeW st rfl rfl (by repeat constructor) rfl rfl rfl ?_); clear st; intro _ _ st))
      refine k_last ?_
      refine d_done (by decide +kernel) ?_
      refine ⟨rfl, ?_⟩
      have e1 := map_one A d[0] vPt
      have e2 := map_one A d[0] vWt
      rw [← e1, ← e2]
      exact ⟨_, _, _, _, _, _, GV.grown hp1, GV.grown hp2, (st.subL (by repeat (first | exact List.Sublist.refl _  | apply List.Sublist.cons_cons  | apply List.Sublist.cons  | exact List.nil_sublist _))).fit (by repeat (first | exact trivial  | refine And.intro rfl ?_))⟩
  clear st
  rintro _ _ ⟨va1', va2', b1, b2, pad1, pad2, hGa1', hGa2', st⟩
  (repeat' (first | refine c_seq ?_  | refine c_region ?_  | refine l_do ?_  | refine l_nil ?_  | refine x_then ?_  | refine x_thenE ?_  | refine x_blkN ?_  | refine x_blkE ?_  | refine x_blkO rfl ?_  | refine wp_ret ?_  | refine wp_skip ?_  | refine wp_block ?_  | refine wp_exit ?_  | refine c_condT st rfl ?_  | refine c_condF st rfl ?_  | ((first | refine o_move st rfl rfl ?_  | refine o_assign st rfl rfl ?_); clear st; intro _ st)  | ((first | refine o_alloc st rfl ?_  | refine o_boxA st rfl rfl ?_ ); clear st; intro _ _ _ st)  | ((first | refine o_fieldAddr st rfl rfl ?_  | refine o_load2 st rfl (by repeat constructor) rfl ?_ ); clear st; intro _ st)  | ((first | refine o_storeS st rfl rfl rfl (by repeat constructor) rfl (by dsimp only [List.set]) ?_  | refine o_storeW st rfl rfl (by repeat constructor) rfl rfl rfl ?_); clear st; intro _ _ st)  | ((first | refine o_build3 st rfl rfl rfl rfl rfl rfl rfl ?_  | refine o_build0 st rfl ?_); clear st; intro _ st)  | (refine o_eqlI st rfl rfl rfl ?_ ?_ <;> clear st <;> intro _ _ st <;> (try (exfalso; omega)))))
  refine c_drawC (F := (fun _ _ a w' => ∃ (vb1 vb2 : Value) (b3 b4 : Nat) (pad3 pad4 : List Value), GV 31 vb1 ((B ++ [d[d.length - 1]]).map vPt) [⟨b3, true, oV 31 ((B ++ [d[d.length - 1]]).map vPt) pad3⟩] ∧ GV 29 vb2 ((B ++ [d[d.length - 1]]).map vWt) [⟨b4, true, oV 29 ((B ++ [d[d.length - 1]]).map vWt) pad4⟩] ∧ St w Try.f48.ntmps a w' [(1, .float .f32 t), (2, .pointer (some ⟨p2, 0, none⟩)), (4, .pointer (some ⟨p4, 0, none⟩)), (5, .pointer (some ⟨p5, 0, none⟩)), (6, .pointer (some ⟨p6, 0, none⟩)), (7, .pointer (some ⟨p7, 0, none⟩)), (8, .int .i64 ((d.length : Int) - 1))] (⟨b4, true, oV 29 ((B ++ [d[d.length - 1]]).map vWt) pad4⟩ :: ⟨b3, true, oV 31 ((B ++ [d[d.length - 1]]).map vPt) pad3⟩ :: ⟨b2, true, oV 29 ((A ++ [d[0]]).map vWt) pad2⟩ :: ⟨b1, true, oV 31 ((A ++ [d[0]]).map vPt) pad1⟩ :: eP p7 vb1 vb2 :: eP p6 va1' va2' :: eP p5 (.slice none 0 0) (.slice none 0 0) :: eP p4 (.slice none 0 0) (.slice none 0 0) :: eP p2 (.slice (some ⟨x.b1, x.o1, none⟩) d.length x.cp) (.slice (some ⟨x.b2, x.o2, none⟩) d.length x.cw) :: ⟨x.b2, false, .cells x.a2 x.t2 x.f2⟩ :: ⟨x.b1, false, .cells x.a1 x.t1 x.f1⟩ :: []))) (Lh := [eP p7 vb1 vb2, eP p2 (.slice (some ⟨x.b1, x.o1, none⟩) d.length x.cp) (.slice (some ⟨x.b2, x.o2, none⟩) d.length x.cw), ⟨x.b2, false, .cells x.a2 x.t2 x.f2⟩, ⟨x.b1, false, .cells x.a1 x.t1 x.f1⟩]) (last := 19) hm_ (by decide +kernel) (by decide +kernel) st ?_ ?_
  · clear st; intro _ st
    refine d_v 0 st (by repeat constructor) rfl (by decide +kernel) rfl (v_fieldAddr st rfl) ?_; clear st; intro _ st
    refine d_v 1 st (by repeat constructor) rfl (by decide +kernel) rfl (by first | exact v_load3 st rfl (by repeat constructor) | exact v_loadS st rfl (by repeat constructor) rfl) ?_; clear st; intro _ st
    refine d_v 2 st (by repeat constructor) rfl (by decide +kernel) rfl (v_fieldAddr st rfl) ?_; clear st; intro _ st
    refine d_v 3 st (by repeat constructor) rfl (by decide +kernel) rfl (by first | exact v_load3 st rfl (by repeat constructor) | exact v_loadS st rfl (by repeat constructor) rfl) ?_; clear st; intro _ st
    refine d_v 4 st (by repeat constructor) rfl (by decide +kernel) rfl (v_move st rfl) ?_; clear st; intro _ st
    refine d_v 5 st (by repeat constructor) rfl (by decide +kernel) rfl (v_indexAddr st rfl rfl (by omega) (by omega)) ?_; clear st; intro _ st
    refine d_v 6 st (by repeat constructor) rfl (by decide +kernel) rfl (v_loadS st rfl (by repeat constructor) g3) ?_; clear st; intro _ st
    refine d_v 9 st (by repeat constructor) rfl (by decide +kernel) rfl (v_fieldAddr st rfl) ?_; clear st; intro _ st
    refine d_v 10 st (by repeat constructor) rfl (by decide +kernel) rfl (by first | exact v_load3 st rfl (by repeat constructor) | exact v_loadS st rfl (by repeat constructor) rfl) ?_; clear st; intro _ st
    refine d_v 11 st (by repeat constructor) rfl (by decide +kernel) rfl (v_fieldAddr st rfl) ?_; clear st; intro _ st
    refine d_v 12 st (by repeat constructor) rfl (by decide +kernel) rfl (by first | exact v_load3 st rfl (by repeat constructor) | exact v_loadS st rfl (by repeat constructor) rfl) ?_; clear st; intro _ st
    refine d_v 13 st (by repeat constructor) rfl (by decide +kernel) rfl (v_move st rfl) ?_; clear st; intro _ st
    refine d_v 14 st (by repeat constructor) rfl (by decide +kernel) rfl (v_indexAddr st rfl rfl (by omega) (by omega)) ?_; clear st; intro _ st
    refine d_v 15 st (by repeat constructor) rfl (by decide +kernel) rfl (v_loadS st rfl (by repeat constructor) g4) ?_; clear st; intro _ st
    refine d_two 7 16 (by decide +kernel) rfl rfl ?_ ?_
    · skip
      refine o_buildSlice st rfl rfl rfl rfl rfl rfl ?_; clear st; intro _ _ _ st
      refine kh st (by repeat constructor) ?_
      refine d_two 8 16 (by decide +kernel) rfl rfl ?_ ?_
      · skip
        refine o_appendGV rfl st hGb1 rfl rfl (by repeat constructor) rfl (by rw [List.length_map]; omega) (by repeat (first | exact RemS.here  | apply RemS.there)) rfl ?_; clear st; intro b3 cap3 pad3 _ _ hp3 st
        refine kh st (by repeat constructor) ?_
        refine d_v 18 st (by repeat constructor) rfl (by decide +kernel) rfl (v_fieldAddr st rfl) ?_; clear st; intro _ st
        refine d_one 16 (by decide +kernel) rfl ?_
        refine o_buildSlice st rfl rfl rfl rfl rfl rfl ?_; clear st; intro _ _ _ st
        refine kh st (by repeat constructor) ?_
        refine d_one 17 (by decide +kernel) rfl ?_
        refine o_appendGV rfl st hGb2 rfl rfl (by repeat constructor) rfl (by rw [List.length_map]; omega) (by repeat (first | exact RemS.hereEnd  | apply RemS.there)) rfl ?_; clear st; intro b4 cap4 pad4 _ _ hp4 st
        refine kh st (by repeat constructor) ?_
        refine d_one 19 (by decide +kernel) rfl ?_
        (first | ((first | refine o_storeS st rfl rfl rfl (by repeat constructor) rfl (by dsimp only [List.set]) ?_  | refine o_storeW st rfl rfl (by repeat constructor) rfl rfl rfl ?_); clear st; intro _ _ st))
        refine k_last ?_
        refine d_one 20 (by decide +kernel) rfl ?_
        (first | (refine o_fieldAddr st rfl rfl ?_; clear st; intro _ st))
        refine k_last ?_
        refine d_one 21 (by decide +kernel) rfl ?_
        (first | ((first | refine o_storeS st rfl rfl rfl (by repeat constructor) rfl (by dsimp only [List.set]) ?_  | refine o_storeW st rfl rfl (by repeat constructor) rfl rfl rfl ?_); clear st; intro _ _ st))
        refine k_last ?_
        refine d_done (by decide +kernel) ?_
        refine ⟨rfl, ?_⟩
        have e1 := map_one B d[d.length - 1] vPt
        have e2 := map_one B d[d.length - 1] vWt
        rw [← e1, ← e2]
        exact ⟨_, _, _, _, _, _, GV.grown hp3, GV.grown hp4, (st.subL (by repeat (first | exact List.Sublist.refl _  | apply List.Sublist.cons_cons  | apply List.Sublist.cons  | exact List.nil_sublist _))).fit (by repeat (first | exact trivial  | refine And.intro rfl ?_))⟩
      · skip
        refine o_buildSlice st rfl rfl rfl rfl rfl rfl ?_; clear st; intro _ _ _ st
        refine kh st (by repeat constructor) ?_
        refine d_one 8 (by decide +kernel) rfl ?_
        refine o_appendGV rfl st hGb1 rfl rfl (by repeat constructor) rfl (by rw [List.length_map]; omega) (by repeat (first | exact RemS.here  | apply RemS.there)) rfl ?_; clear st; intro b3 cap3 pad3 _ _ hp3 st
        refine kh st (by repeat constructor) ?_
        refine d_v 18 st (by repeat constructor) rfl (by decide +kernel) rfl (v_fieldAddr st rfl) ?_; clear st; intro _ st
        refine d_one 17 (by decide +kernel) rfl ?_
        refine o_appendGV rfl st hGb2 rfl rfl (by repeat constructor) rfl (by rw [List.length_map]; omega) (by repeat (first | exact RemS.hereEnd  | apply RemS.there)) rfl ?_; clear st; intro b4 cap4 pad4 _ _ hp4 st
        refine kh st (by repeat constructor) ?_
        refine d_one 19 (by decide +kernel) rfl ?_
        (first | ((first | refine o_storeS st rfl rfl rfl (by repeat constructor) rfl (by dsimp only [List.set]) ?_  | refine o_storeW st rfl rfl (by repeat constructor) rfl rfl rfl ?_); clear st; intro _ _ st))
        refine k_last ?_
        refine d_one 20 (by decide +kernel) rfl ?_
        (first | (refine o_fieldAddr st rfl rfl ?_; clear st; intro _ st))
        refine k_last ?_
        refine d_one 21 (by decide +kernel) rfl ?_
        (first | ((first | refine o_storeS st rfl rfl rfl (by repeat constructor) rfl (by dsimp only [List.set]) ?_  | refine o_storeW st rfl rfl (by repeat constructor) rfl rfl rfl ?_); clear st; intro _ _ st))
        refine k_last ?_
        refine d_done (by decide +kernel) ?_
        refine ⟨rfl, ?_⟩
        have e1 := map_one B d[d.length - 1] vPt
        have e2 := map_one B d[d.length - 1] vWt
        rw [← e1, ← e2]
        exact ⟨_, _, _, _, _, _, GV.grown hp3, GV.grown hp4, (st.subL (by repeat (first | exact List.Sublist.refl _  | apply List.Sublist.cons_cons  | apply List.Sublist.cons  | exact List.nil_sublist _))).fit (by repeat (first | exact trivial  | refine And.intro rfl ?_))⟩
    · skip
      refine o_buildSlice st rfl rfl rfl rfl rfl rfl ?_; clear st; intro _ _ _ st
      refine kh st (by repeat constructor) ?_
      refine d_one 7 (by decide +kernel) rfl ?_
      refine o_buildSlice st rfl rfl rfl rfl rfl rfl ?_; clear st; intro _ _ _ st
      refine kh st (by repeat constructor) ?_
      refine d_one 8 (by decide +kernel) rfl ?_
      refine o_appendGV rfl st hGb1 rfl rfl (by repeat constructor) rfl (by rw [List.length_map]; omega) (by repeat (first | exact RemS.here  | apply RemS.there)) rfl ?_; clear st; intro b3 cap3 pad3 _ _ hp3 st
      refine kh st (by repeat constructor) ?_
      refine d_v 18 st (by repeat constructor) rfl (by decide +kernel) rfl (v_fieldAddr st rfl) ?_; clear st; intro _ st
      refine d_one 17 (by decide +kernel) rfl ?_
      refine o_appendGV rfl st hGb2 rfl rfl (by repeat constructor) rfl (by rw [List.length_map]; omega) (by repeat (first | exact RemS.hereEnd  | apply RemS.there)) rfl ?_; clear st; intro b4 cap4 pad4 _ _ hp4 st
      refine kh st (by repeat constructor) ?_
      refine d_one 19 (by decide +kernel) rfl ?_
      (first | ((first | refine o_storeS st rfl rfl rfl (by repeat constructor) rfl (by dsimp only [List.set]) ?_  | refine o_storeW st rfl rfl (by repeat constructor) rfl rfl rfl ?_); clear st; intro _ _ st))
      refine k_last ?_
      refine d_one 20 (by decide +kernel) rfl ?_
      (first | (refine o_fieldAddr st rfl rfl ?_; clear st; intro _ st))
      refine k_last ?_
      refine d_one 21 (by decide +kernel) rfl ?_
      (first | ((first | refine o_storeS st rfl rfl rfl (by repeat constructor) rfl (by dsimp only [List.set]) ?_  | refine o_storeW st rfl rfl (by repeat constructor) rfl rfl rfl ?_); clear st; intro _ _ st))
      refine k_last ?_
      refine d_done (by decide +kernel) ?_
      refine ⟨rfl, ?_⟩
      have e1 := map_one B d[d.length - 1] vPt
      have e2 := map_one B d[d.length - 1] vWt
      rw [← e1, ← e2]
      exact ⟨_, _, _, _, _, _, GV.grown hp3, GV.grown hp4, (st.subL (by repeat (first | exact List.Sublist.refl _  | apply List.Sublist.cons_cons  | apply List.Sublist.cons  | exact List.nil_sublist _))).fit (by repeat (first | exact trivial  | refine And.intro rfl ?_))⟩
  clear st
  rintro _ _ ⟨vb1', vb2', b3, b4, pad3, pad4, hGb1', hGb2', st⟩
  cases n with
  | zero =>
    obtain ⟨rfl, rfl⟩ := hz rfl
    obtain ⟨cap1, rfl⟩ := hGa1'.one
    obtain ⟨cap2, rfl⟩ := hGa2'.one
    obtain ⟨cap3, rfl⟩ := hGb1'.one
    obtain ⟨cap4, rfl⟩ := hGb2'.one
    have hBl : (B ++ [d[d.length - 1]]).length = B.length + 1 := by simp
    have c3 := fun v w (hv : CrV w (B ++ [d[d.length - 1]]) v) => back_ok (B ++ [d[d.length - 1]]) v (by omega) (by omega) w hv
    (repeat' (first | refine c_seq ?_  | refine c_region ?_  | refine l_do ?_  | refine l_nil ?_  | refine x_then ?_  | refine x_thenE ?_  | refine x_blkN ?_  | refine x_blkE ?_  | refine x_blkO rfl ?_  | refine wp_ret ?_  | refine wp_skip ?_  | refine wp_block ?_  | refine wp_exit ?_  | refine c_condT st rfl ?_  | refine c_condF st rfl ?_  | ((first | refine o_move st rfl rfl ?_  | refine o_assign st rfl rfl ?_); clear st; intro _ st)  | ((first | refine o_alloc st rfl ?_  | refine o_boxA st rfl rfl ?_ ); clear st; intro _ _ _ st)  | ((first | refine o_fieldAddr st rfl rfl ?_  | refine o_load2 st rfl (by repeat constructor) rfl ?_ ); clear st; intro _ st)  | ((first | refine o_storeS st rfl rfl rfl (by repeat constructor) rfl (by dsimp only [List.set]) ?_  | refine o_storeW st rfl rfl (by repeat constructor) rfl rfl rfl ?_); clear st; intro _ _ st)  | ((first | refine o_build3 st rfl rfl rfl rfl rfl rfl rfl ?_  | refine o_build0 st rfl ?_); clear st; intro _ st)  | (refine o_eqlI st rfl rfl rfl ?_ ?_ <;> clear st <;> intro _ _ st <;> (try (exfalso; omega)))))
    refine c_draw (Lh := [eP p7 (.slice (some ⟨b3, 0, none⟩) (B ++ [d[d.length - 1]]).length cap3) (.slice (some ⟨b4, 0, none⟩) (B ++ [d[d.length - 1]]).length cap4), eP p6 (.slice (some ⟨b1, 0, none⟩) (A ++ [d[0]]).length cap1) (.slice (some ⟨b2, 0, none⟩) (A ++ [d[0]]).length cap2)]) (last := 4) hm_ (by decide +kernel) (by decide +kernel) st ?_; clear st; intro _ st
    refine d_v 0 st (by repeat constructor) rfl (by decide +kernel) rfl (v_load2 st rfl (by repeat constructor)) ?_; clear st; intro _ st
    refine d_v 1 st (by repeat constructor) rfl (by decide +kernel) rfl (v_load2 st rfl (by repeat constructor)) ?_; clear st; intro _ st
    refine d_one 2 (by decide +kernel) rfl ?_
    refine o_callM2 st rfl (c3 _ _ (crv_own (st.heap (by repeat constructor)) (st.heap (by repeat constructor)))) rfl ?_; clear st; rintro _ b5 _ b6 _ ⟨cap5, cap6, pad5, pad6, rfl, rfl, rfl⟩ _ _ st
    refine kh st (by repeat constructor) ?_
    refine d_one 3 (by decide +kernel) rfl ?_
    (first | ((first | refine o_storeS st rfl rfl rfl (by repeat constructor) rfl (by dsimp only [List.set]) ?_  | refine o_storeW st rfl rfl (by repeat constructor) rfl rfl rfl ?_); clear st; intro _ _ st))
    refine kh st (by repeat constructor) ?_
    refine d_one 4 (by decide +kernel) rfl ?_
    (first | ((first | refine o_storeS st rfl rfl rfl (by repeat constructor) rfl (by dsimp only [List.set]) ?_  | refine o_storeW st rfl rfl (by repeat constructor) rfl rfl rfl ?_); clear st; intro _ _ st))
    refine k_last ?_
    refine d_done (by decide +kernel) ?_
    (repeat' (first | refine c_seq ?_  | refine c_region ?_  | refine l_do ?_  | refine l_nil ?_  | refine x_then ?_  | refine x_thenE ?_  | refine x_blkN ?_  | refine x_blkE ?_  | refine x_blkO rfl ?_  | refine wp_ret ?_  | refine wp_skip ?_  | refine wp_block ?_  | refine wp_exit ?_  | refine c_condT st rfl ?_  | refine c_condF st rfl ?_  | ((first | refine o_move st rfl rfl ?_  | refine o_assign st rfl rfl ?_); clear st; intro _ st)  | ((first | refine o_alloc st rfl ?_  | refine o_boxA st rfl rfl ?_ ); clear st; intro _ _ _ st)  | ((first | refine o_fieldAddr st rfl rfl ?_  | refine o_load2 st rfl (by repeat constructor) rfl ?_ ); clear st; intro _ st)  | ((first | refine o_storeS st rfl rfl rfl (by repeat constructor) rfl (by dsimp only [List.set]) ?_  | refine o_storeW st rfl rfl (by repeat constructor) rfl rfl rfl ?_); clear st; intro _ _ st)  | ((first | refine o_build3 st rfl rfl rfl rfl rfl rfl rfl ?_  | refine o_build0 st rfl ?_); clear st; intro _ st)  | (refine o_eqlI st rfl rfl rfl ?_ ?_ <;> clear st <;> intro _ _ st <;> (try (exfalso; omega)))))
    refine post2 st Try.results48 (rd_c st rfl (by repeat constructor) rfl) (rd_c st rfl (by repeat constructor) rfl) ?_
    have st : St w _ _ _ _ (⟨b5, true, _⟩ :: ⟨b6, true, _⟩ :: ⟨b2, true, _⟩ :: ⟨b1, true, _⟩ :: []) := st.subL (by repeat (first | exact List.Sublist.refl _  | apply List.Sublist.cons_cons  | apply List.Sublist.cons  | exact List.nil_sublist _))
    have st := (st.perm (List.perm_append_comm (l₁ := [_, _]) (l₂ := [_, _]))).swap2
    exact ⟨_, _, b1, _, b2, _, b5, _, b6, _, rfl, ⟨cap1, cap2, pad1, pad2, rfl, rfl, rfl⟩, ⟨cap5, cap6, pad5, pad6, rfl, rfl, rfl⟩, st.ex4⟩
  | succ n =>
    obtain ⟨d', hd, hc'⟩ := hm n rfl
    obtain ⟨hlen, _⟩ := nextC_get t d d' hd
    have c3 := fun w hv => next_ok d t d' hd (by omega) (by omega) (.agg [.slice (some ⟨x.b1, x.o1, none⟩) d.length x.cp, .slice (some ⟨x.b2, x.o2, none⟩) d.length x.cw].toArray) w hv
    (repeat' (first | (refine o_callM2 st rfl (c3 _ (x.crv hx (st.heap (by repeat constructor)) (st.heap (by repeat constructor)))) rfl ?_; clear st; rintro _ b5 _ b6 _ ⟨cap5, cap6, pad5, pad6, rfl, rfl, rfl⟩ _ _ st)  | refine c_seq ?_  | refine c_region ?_  | refine l_do ?_  | refine l_nil ?_  | refine x_then ?_  | refine x_thenE ?_  | refine x_blkN ?_  | refine x_blkE ?_  | refine x_blkO rfl ?_  | refine wp_ret ?_  | refine wp_skip ?_  | refine wp_block ?_  | refine wp_exit ?_  | refine c_condT st rfl ?_  | refine c_condF st rfl ?_  | ((first | refine o_move st rfl rfl ?_  | refine o_assign st rfl rfl ?_); clear st; intro _ st)  | ((first | refine o_alloc st rfl ?_  | refine o_boxA st rfl rfl ?_ ); clear st; intro _ _ _ st)  | ((first | refine o_fieldAddr st rfl rfl ?_  | refine o_load2 st rfl (by repeat constructor) rfl ?_ ); clear st; intro _ st)  | ((first | refine o_storeS st rfl rfl rfl (by repeat constructor) rfl (by dsimp only [List.set]) ?_  | refine o_storeW st rfl rfl (by repeat constructor) rfl rfl rfl ?_); clear st; intro _ _ st)  | ((first | refine o_build3 st rfl rfl rfl rfl rfl rfl rfl ?_  | refine o_build0 st rfl ?_); clear st; intro _ st)  | (refine o_eqlI st rfl rfl rfl ?_ ?_ <;> clear st <;> intro _ _ st <;> (try (exfalso; omega)))))
    refine ⟨n, by omega, d', A ++ [d[0]], B ++ [d[d.length - 1]], l', r', ccOf d' b5 cap5 b6 cap6 pad5 pad6, p2, p4, p5, p6, p7, va1', va2', vb1', vb2', _, _, _, _, by omega, by simp; omega, by simp; omega, hc', by simp, by simp, ccOf_has _ _ _ _ _ _ _, hGa1', hGa2', hGb1', hGb2', ?_⟩
    have st : St w _ _ _ _ (⟨b5, true, _⟩ :: ⟨b6, true, _⟩ :: ⟨b4, true, _⟩ :: ⟨b3, true, _⟩ :: ⟨b2, true, _⟩ :: ⟨b1, true, _⟩ :: eP p7 _ _ :: eP p6 _ _ :: eP p5 _ _ :: eP p4 _ _ :: eP p2 _ _ :: []) := st.subL (by repeat (first | exact List.Sublist.refl _  | apply List.Sublist.cons_cons  | apply List.Sublist.cons  | exact List.nil_sublist _))
    exact ((St.keep2 (L := [_, _, _, _, _, _, _, _, _]) st).back4).fit (by repeat (first | exact trivial  | refine And.intro rfl ?_))
end Go.Proofs.Ytonbcbhnnflohaa
