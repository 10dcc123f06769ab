/-
  FnCurves: lists that grow, copies, turned lists.
-/
import Derived.Test.YtonbcbhnnflohaaYc
import Derived.Lib.SliceRun
namespace Go.Proofs.Ytonbcbhnnflohaa
open Go.RowKit

section
variable {P : Program} {w0 w : World} {N : Nat} {a : Act} {E : List (Nat × Value)} {L Lh : List Ent} {K : Act → World → Prop} {Q : Exit → Act → World → Prop}
variable {d : Nat} {ty : TypeId} {pos : String} {aft : Array Edge} {g : Option (Nat × Bool)}
/-- The block of a list of values, with room. -/
abbrev oV (e : TypeId) (vs pad : List Value) : Obj := .cells (vs ++ pad).toArray e (0, 0)
/-- The value of a list that grows, and its block, if it has one. -/
def GV (e : TypeId) (v : Value) (vs : List Value) (Ls : List Ent) : Prop := (v = .slice none 0 0 ∧ vs = [] ∧ Ls = []) ∨ (∃ blk cp pad, 0 < vs.length ∧ v = .slice (some ⟨blk, 0, none⟩) vs.length cp ∧ Ls = [⟨blk, true, oV e vs pad⟩] ∧ (vs ++ pad).length = cp)
/-- The entries without some that stand side by side. -/
inductive RemS : List Ent → List Ent → List Ent → Prop
  | here {Ls Lt} : RemS (Ls ++ Lt) Ls Lt
  | hereEnd {Ls} : RemS Ls Ls []
  | hereR {La Ls} : RemS (La ++ Ls) Ls La
  | there {e L Ls Lr} : RemS L Ls Lr → RemS (e :: L) Ls (e :: Lr)
theorem RemS.sub {L Ls Lr : List Ent} (h : RemS L Ls Lr) : List.Sublist Lr L := by
  induction h with
  | here => exact List.sublist_append_right _ _
  | hereEnd => exact List.nil_sublist _
  | hereR => exact List.sublist_append_left _ _
  | there _ ih => exact List.Sublist.cons_cons _ ih
theorem rem_end (La : List Ent) (b : Nat) (o : Obj) : Rem (La ++ [⟨b, true, o⟩]) b o La := by
  induction La with
  | nil => exact Rem.here
  | cons e La ih => exact Rem.there ih
theorem RemS.rem {L Ls Lr : List Ent} (h : RemS L Ls Lr) {b : Nat} {o : Obj} (hs : Ls = [⟨b, true, o⟩]) : Rem L b o Lr := by
  induction h with
  | here => subst hs; exact Rem.here
  | hereEnd => subst hs; exact Rem.here
  | hereR => subst hs; exact rem_end _ _ _
  | there _ ih => exact Rem.there (ih hs)
theorem o_appendGV {t e ba bz : Nat} {v v1 : Value} {vs : List Value} {Ls Lr : List Ent} {zs : List Value} {x y : Operand} {ow : Bool} [hs : SliceT P t e] [he : ElemT P e 1 bz zs] (hbz : Nat.ble bz 1000 = true) (st : St w0 N a w E L) (hv : GV e v vs Ls)
    (hx : evE E x = some v) (hy : evE E y = some (.slice (some ⟨ba, 0, none⟩) 1 1)) (hA : At L ba ow (.cells [v1].toArray e (0, 0))) (h1 : v1.oneCell' = true) (hlim : vs.length ≤ 1000000) (hR : RemS L Ls Lr) (hd : Nat.blt d N = true)
    (h : ∀ blk cp pad a' w', (vs ++ [v1] ++ pad).length = cp → St w0 N a' w' ((d, .slice (some ⟨blk, 0, none⟩) (vs ++ [v1]).length cp) :: E) (⟨blk, true, oV e (vs ++ [v1]) pad⟩ :: Lr) → K a' w') :
    Oper.wp P ⟨some d, .call { callee := .builtin .append, args := #[x, y], argTypes := #[t, t] }, ty, pos, aft, g⟩ a w K Q := by
  have hbz' : bz ≤ 1000 := Nat.le_of_ble_eq_true hbz
  rcases hv with ⟨rfl, rfl, rfl⟩ | ⟨blk, cp, pad, _, rfl, hLs, hp⟩
  · refine o_appendF (size := 1) (news := [v1]) (m := 1) (st.subL hR.sub) hx hy ?_ rfl (by simpa using h1) (by omega) (by omega) (by omega) hd ?_
    · intro j u hj
      rw [cell_known st hA rfl]
      simpa using hj
    · intro b' cap' pad' a' w' hl st'
      exact h b' cap' pad' a' w' (by simpa using hl) st'
  · refine o_append1V hbz st hx hy (hR.rem hLs) hA rfl hp h1 (by omega) hd ?_
    intro b' cap' pad' a' w' hl st'
    refine h b' cap' pad' a' w' hl ?_
    have e1 : (vs ++ [v1]).length = vs.length + 1 := by simp
    rw [e1]
    exact st'
theorem GV.grown {e : TypeId} {vs : List Value} {v1 : Value} {blk cp : Nat} {pad : List Value} (hp : (vs ++ [v1] ++ pad).length = cp) : GV e (.slice (some ⟨blk, 0, none⟩) (vs ++ [v1]).length cp) (vs ++ [v1]) [⟨blk, true, oV e (vs ++ [v1]) pad⟩] :=
  .inr ⟨blk, cp, pad, by simp, rfl, rfl, hp⟩
theorem GV.nil {e : TypeId} : GV e (.slice none 0 0) [] [] := .inl ⟨rfl, rfl, rfl⟩
theorem St.perm {L' : List Ent} (st : St w0 N a w E L) (h : L.Perm L') : St w0 N a w E L' := by
  refine ⟨st.env, st.size, st.defers, st.below, fun e he => st.facts e (h.mem_iff.2 he), ?_⟩
  exact (h.pairwise_iff (fun hxy ho => (hxy ho.symm).symm)).1 st.uniq
/-- A call that gives a value and one new block. -/
def CM1 (P : Program) (f : FuncId) (vs : List Value) (w : World) (R : Value → Nat → Obj → Prop) : Prop := Calls P f vs.toArray w fun e w' => ∃ v b o, e = .returned v ∧ R v b o ∧ Ex w w' [⟨b, true, o⟩]
theorem o_callM1 {f : FuncId} {args : List Operand} {tys : Array TypeId} {vs : List Value} {R : Value → Nat → Obj → Prop} [hf : FnT P f] (st : St w0 N a w E L) (ha : evs E args = some vs)
    (hc : CM1 P f vs w R) (hd : Nat.blt d N = true) (h : ∀ v b o, R v b o → ∀ a' w', St w0 N a' w' ((d, v) :: E) (⟨b, true, o⟩ :: L) → K a' w') : Oper.wp P ⟨some d, .call { callee := .value (.func f), args := args.toArray, argTypes := tys }, ty, pos, aft, g⟩ a w K Q :=
  o_call st ha hc fun _ _ ⟨v, b, o, he, hR, hx⟩ => ⟨v, he, h v b o hR _ _ ((st.ext1 hx).put d hd _)⟩
/-- A call that gives a value and two new blocks. -/
def CM2 (P : Program) (f : FuncId) (vs : List Value) (w : World) (R : Value → Nat → Obj → Nat → Obj → Prop) : Prop := Calls P f vs.toArray w fun e w' => ∃ v b o b' o', e = .returned v ∧ R v b o b' o' ∧ Ex w w' [⟨b, true, o⟩, ⟨b', true, o'⟩]
theorem o_callM2 {f : FuncId} {args : List Operand} {tys : Array TypeId} {vs : List Value} {R : Value → Nat → Obj → Nat → Obj → Prop} [hf : FnT P f] (st : St w0 N a w E L) (ha : evs E args = some vs)
    (hc : CM2 P f vs w R) (hd : Nat.blt d N = true) (h : ∀ v b o b' o', R v b o b' o' → ∀ a' w', St w0 N a' w' ((d, v) :: E) (⟨b, true, o⟩ :: ⟨b', true, o'⟩ :: L) → K a' w') : Oper.wp P ⟨some d, .call { callee := .value (.func f), args := args.toArray, argTypes := tys }, ty, pos, aft, g⟩ a w K Q :=
  o_call st ha hc fun _ _ ⟨v, b, o, b', o', he, hR, hx⟩ => ⟨v, he, h v b o b' o' hR _ _ ((st.ext2 hx).put d hd _)⟩
theorem o_storeC {t t' : TypeId} {x y : Operand} {b off : Nat} {cs : List Value} (cs' : List Value) {v : Value} {L' : List Ent} [ht : ScaT P t] (st : St w0 N a w E L)
    (hx : evE E x = some (.pointer (some ⟨b, off, none⟩))) (hy : evE E y = some v) (hv : v.oneCell' = true) (hU : Upd L b (.cells cs.toArray t' (0, 0)) (.cells cs'.toArray t' (0, 0)) L') (hlt : off < cs.length) (hs : cs.set off v = cs')
    (h : ∀ a' w', St w0 N a' w' E L' → K a' w') : Oper.wp P ⟨none, .store t x y, ty, pos, aft, g⟩ a w K Q :=
  o_storeS st hx hy hv hU (by simpa [Nat.blt_eq] using hlt) hs h
theorem o_eqlNil {x : Operand} {t ys e : TypeId} {ad : Addr} {n c : Nat} [hs : SliceT P t e] (st : St w0 N a w E L) (hx : evE E x = some (.slice (some ad) n c)) (hd : Nat.blt d N = true)
    (h : ∀ a', St w0 N a' w ((d, .bool false) :: E) L → K a' w) : Oper.wp P ⟨some d, .binOp .eql t x (.const (.slice none 0 0)) ys, ty, pos, aft, g⟩ a w K Q := by
  refine o_val (v := .bool false) (w' := w) ?_ (h _ (st.put d hd _))
  simp only [execOp, evE_eval st hx, eqGuard_at_slice, Sem.run_bind, Sem.run_pure, Result.andThen_ok, show a.eval (.const (.slice none 0 0)) = .slice none 0 0 from rfl, Go.Lib.run_eql_slice_nil w t e (some ad) n c 0 0 hs.u]
  rfl
theorem post0 {fn : Func} {R : Ending → World → Prop} (st : St w0 N a w E L) (hr : fn.results = #[]) (h : R (.returned (.tuple #[])) w) : bodyPost P fn R .ret a w := by
  refine ⟨st.defers, .tuple #[], ?_, h⟩
  rw [results_eq, hr]
  simp
theorem postN0 {fn : Func} {R : Ending → World → Prop} (st : St w0 N a w E L) (hr : fn.results = #[]) (h : R (.returned (.tuple #[])) w) : bodyPost P fn R .normal a w := post0 st hr h
end
/-- A list of which the first k and the last k elements are exchanged. -/
def swapped (bs cur : List Value) (k : Nat) : Prop := cur.length = bs.length ∧ ∀ p (h : p < bs.length) (h' : p < cur.length), cur[p] = if p < k ∨ bs.length - k ≤ p then bs[bs.length - 1 - p] else bs[p]
theorem swapped_zero (bs : List Value) : swapped bs bs 0 := ⟨rfl, fun p h h' => by rw [if_neg (by omega)]⟩
theorem swapped_all {bs cur : List Value} {k : Nat} (h : swapped bs cur k) (hk : bs.length ≤ 2 * k + 1) : cur = bs.reverse := by
  obtain ⟨hl, hp⟩ := h
  refine List.ext_getElem (by simp [hl]) ?_
  intro p h1 h2
  rw [hp p (by omega) h1, List.getElem_reverse]
  split
  · rfl
  · congr 1
    omega
theorem swapped_step {bs cur : List Value} {k : Nat} (h : swapped bs cur k) (hk : 2 * k + 1 < bs.length) (h1 : k < cur.length) (h2 : bs.length - 1 - k < cur.length) : swapped bs ((cur.set k cur[bs.length - 1 - k]).set (bs.length - 1 - k) cur[k]) (k + 1) := by
  obtain ⟨hl, hp⟩ := h
  refine ⟨by simp [hl], ?_⟩
  intro p hb hc
  rw [List.getElem_set, List.getElem_set]
  by_cases e1 : bs.length - 1 - k = p
  · rw [if_pos e1, if_pos (by omega), hp k (by omega) h1, if_neg (by omega)]
    congr 1
    omega
  · rw [if_neg e1]
    by_cases e2 : k = p
    · rw [if_pos e2, if_pos (by omega), hp _ (by omega) h2, if_neg (by omega)]
      congr 1
      omega
    · rw [if_neg e2, hp p hb (by omega)]
      by_cases e3 : p < k ∨ bs.length - k ≤ p
      · rw [if_pos e3, if_pos (by omega)]
      · rw [if_neg e3, if_neg (by omega)]
theorem set_left {cur pad : List Value} {k : Nat} {v : Value} (h : k < cur.length) : (cur ++ pad).set k v = cur.set k v ++ pad := by rw [List.set_append, if_pos h]
theorem oV_get {vs pad : List Value} {k : Nat} (h : k < vs.length) : (vs ++ pad).toArray[0 + ((k : Nat) : Int).toNat * 1]? = some vs[k] := by
  simp only [Nat.zero_add, Int.toNat_natCast, Nat.mul_one, List.getElem?_toArray]
  rw [List.getElem?_append_left h, List.getElem?_eq_getElem h]
attribute [local irreducible] Code.wp wpList Oper.wp Calls bodyPost Exit.then Exit.inBlock

theorem cloneP_ok (vs : List Value) (h1 : ∀ v ∈ vs, v.oneCell' = true) (base : Option Addr) (cap : Nat) (w : World) (hr : RdV w base vs) (h0 : 0 < vs.length) (hl : vs.length ≤ 1000000) :
    CM1 Try.prog 125 [.slice base vs.length cap] w fun v b o => ∃ cap pad, v = .slice (some ⟨b, 0, none⟩) vs.length cap ∧ o = oV 31 vs pad ∧ (vs ++ pad).length = cap := by
  refine enter Try.func125 rfl rfl rfl rfl ?_
  intro a st
  obtain ⟨blk, off, arr, t, fr, rfl, hw, h3⟩ := hr.get (by intro h; rw [h] at h0; simp at h0)
  have hcell : ∀ {a : Act} {w' : World} {E : List (Nat × Value)} {L : List Ent}, St w Try.f125.ntmps a w' E L → ∀ j u, vs[j]? = some u → w'.cell? ⟨blk, off + j, none⟩ = some u := by
    intro a w' E L st j u hj
    obtain ⟨hjl, rfl⟩ := List.getElem?_eq_some_iff.1 hj
    rw [cell_known (st.addOld hw) At.here rfl]
    exact h3 j hjl
  (repeat' (first | (refine o_eqlNil st rfl rfl ?_; clear st; intro _ st)  | (refine o_buildSlice0 st rfl ?_; clear st; intro _ _ _ st)  | (refine o_appendF (size := 1) (news := vs) st rfl rfl (hcell st) (by omega) h1 h0 (by omega) (by omega) rfl ?_; clear st; intro blk1 cap1 pad1 _ _ hp1 st)  | refine c_seq ?_  | refine c_region ?_  | refine l_do ?_  | refine l_nil ?_  | refine x_then ?_  | refine wp_ret ?_  | refine wp_skip ?_  | refine c_condF st rfl ?_  | ((first | refine o_move st rfl rfl ?_  | refine o_assign st rfl rfl ?_); clear st; intro _ st) ))
  refine post1 st Try.results125 (rd_t st rfl) ?_
  exact ⟨_, blk1, _, rfl, ⟨cap1, pad1, rfl, rfl, by omega⟩, st.ex1 (by repeat constructor)⟩
set_option maxHeartbeats 16000000 in
theorem reverseP_ok (bs : List Value) (h1 : ∀ v ∈ bs, v.oneCell' = true) (b cap : Nat) (pad : List Value) (w : World) (hb : w.heap[b]? = some (oV 31 bs pad)) (h0 : 0 < bs.length) (hlen : bs.length ≤ 1000000) :
    CU Try.prog 102 [.slice (some ⟨b, 0, none⟩) bs.length cap] w (.tuple #[]) b (oV 31 bs.reverse pad) := by
  refine enterU hb Try.func102 rfl rfl rfl rfl ?_
  intro a w0 Lf st
  (repeat' (first | refine c_seq ?_  | refine c_region ?_  | refine l_do ?_  | refine l_nil ?_  | refine x_then ?_  | refine x_thenE ?_  | refine x_blkN ?_  | refine x_blkE ?_  | refine wp_ret ?_  | refine wp_skip ?_  | refine wp_block ?_  | refine wp_exit ?_  | refine c_condT st rfl ?_  | refine c_condF st rfl ?_  | ((first | refine o_move st rfl rfl ?_  | refine o_assign st rfl rfl ?_  | refine o_loadS st rfl (by repeat constructor) rfl rfl ?_ ); clear st; intro _ st)  | ((first | refine o_len st rfl rfl ?_  | refine o_add64 st rfl rfl rfl (by omega) (by omega) ?_  | refine o_sub64 st rfl rfl rfl (by omega) (by omega) ?_); clear st; intro _ st)  | (refine o_lss st rfl rfl rfl ?_ ?_ <;> clear st <;> intro _ _ st <;> (try (exfalso; omega)))))
  refine wp_loop_ghost (fun n a w' => ∃ (k : Nat) (cur : List Value), k ≤ bs.length ∧ 2 * k ≤ bs.length + 1 ∧ n = bs.length - k ∧ swapped bs cur k ∧ (∀ v ∈ cur, v.oneCell' = true) ∧ St w0 Try.f102.ntmps a w' [(0, .slice (some ⟨b, 0, none⟩) bs.length cap), (2, .int .i64 (k : Int)), (3, .int .i64 ((bs.length : Int) - 1 - (k : Int)))] (⟨b, true, oV 31 cur pad⟩ :: Lf)) bs.length ⟨0, bs, by omega, by omega, by omega, swapped_zero bs, h1, by simpa using st.fit (by repeat (first | exact trivial  | refine And.intro rfl ?_))⟩ ?_
  clear st
  rintro n a w' ⟨k, cur, hk, hk2, rfl, hsw, hone, st⟩
  have hcl := hsw.1
  by_cases hlt : 2 * k + 1 < bs.length
  · have g1 : k < cur.length := by omega
    have g2 : bs.length - 1 - k < cur.length := by omega
    have e : ((bs.length : Int) - 1 - (k : Int)).toNat = bs.length - 1 - k := by omega
    have hv1 := oV_get (pad := pad) g1
    have hv2 : (cur ++ pad).toArray[0 + ((bs.length : Int) - 1 - (k : Int)).toNat * 1]? = some cur[bs.length - 1 - k] := by
      have := oV_get (pad := pad) g2
      rw [Int.toNat_natCast] at this
      rw [e]; exact this
    have ho1 := hone _ (List.getElem_mem g1)
    have ho2 := hone _ (List.getElem_mem g2)
    have hs1 : (cur ++ pad).set (0 + ((k : Nat) : Int).toNat * 1) cur[bs.length - 1 - k] = cur.set k cur[bs.length - 1 - k] ++ pad := by
      rw [show 0 + ((k : Nat) : Int).toNat * 1 = k by simp]; exact set_left g1
    have hs2 : (cur.set k cur[bs.length - 1 - k] ++ pad).set (0 + ((bs.length : Int) - 1 - (k : Int)).toNat * 1) cur[k] = (cur.set k cur[bs.length - 1 - k]).set (bs.length - 1 - k) cur[k] ++ pad := by
      rw [e, show 0 + (bs.length - 1 - k) * 1 = bs.length - 1 - k by omega]; exact set_left (by rw [List.length_set]; omega)
    (repeat' (first | refine c_seq ?_  | refine c_region ?_  | refine l_do ?_  | refine l_nil ?_  | refine x_then ?_  | refine x_thenE ?_  | refine x_blkN ?_  | refine x_blkE ?_  | refine wp_ret ?_  | refine wp_skip ?_  | refine wp_block ?_  | refine wp_exit ?_  | refine c_condT st rfl ?_  | refine c_condF st rfl ?_  | ((first | refine o_move st rfl rfl ?_  | refine o_assign st rfl rfl ?_  | refine o_loadS st rfl (by repeat constructor) rfl rfl ?_ ); clear st; intro _ st)  | ((first | refine o_len st rfl rfl ?_  | refine o_add64 st rfl rfl rfl (by omega) (by omega) ?_  | refine o_sub64 st rfl rfl rfl (by omega) (by omega) ?_); clear st; intro _ st)  | (refine o_lss st rfl rfl rfl ?_ ?_ <;> clear st <;> intro _ _ st <;> (try (exfalso; omega)))))
    refine c_drawC (F := (fun _ _ a w' => St w0 Try.f102.ntmps a w' [(0, .slice (some ⟨b, 0, none⟩) bs.length cap), (2, .int .i64 (k : Int)), (3, .int .i64 ((bs.length : Int) - 1 - (k : Int)))] (⟨b, true, oV 31 ((cur.set k cur[bs.length - 1 - k]).set (bs.length - 1 - k) cur[k]) pad⟩ :: Lf))) (Lh := []) (last := 15) hm_ (by decide +kernel) (by decide +kernel) st ?_ ?_
    · clear st; intro _ st
      refine d_v 0 st (by repeat constructor) rfl (by decide +kernel) rfl (v_move st rfl) ?_; clear st; intro _ st
      refine d_v 1 st (by repeat constructor) rfl (by decide +kernel) rfl (v_move st rfl) ?_; clear st; intro _ st
      refine d_v 2 st (by repeat constructor) rfl (by decide +kernel) rfl (v_move st rfl) ?_; clear st; intro _ st
      refine d_v 3 st (by repeat constructor) rfl (by decide +kernel) rfl (v_move st rfl) ?_; clear st; intro _ st
      refine d_v 4 st (by repeat constructor) rfl (by decide +kernel) rfl (v_move st rfl) ?_; clear st; intro _ st
      refine d_v 5 st (by repeat constructor) rfl (by decide +kernel) rfl (v_move st rfl) ?_; clear st; intro _ st
      refine d_v 6 st (by repeat constructor) rfl (by decide +kernel) rfl (v_indexAddr st rfl rfl (by omega) (by omega)) ?_; clear st; intro _ st
      refine d_v 8 st (by repeat constructor) rfl (by decide +kernel) rfl (v_move st rfl) ?_; clear st; intro _ st
      refine d_v 9 st (by repeat constructor) rfl (by decide +kernel) rfl (v_move st rfl) ?_; clear st; intro _ st
      refine d_v 10 st (by repeat constructor) rfl (by decide +kernel) rfl (v_indexAddr st rfl rfl (by omega) (by omega)) ?_; clear st; intro _ st
      refine d_two 7 11 (by decide +kernel) rfl rfl ?_ ?_
      · skip
        refine o_loadS st rfl (by repeat constructor) hv2 rfl ?_; clear st; intro _ st
        refine kh st (by repeat constructor) ?_
        refine d_one 11 (by decide +kernel) rfl ?_
        refine o_loadS st rfl (by repeat constructor) hv1 rfl ?_; clear st; intro _ st
        refine kh st (by repeat constructor) ?_
        refine d_v 12 st (by repeat constructor) rfl (by decide +kernel) rfl (v_indexAddr st rfl rfl (by omega) (by omega)) ?_; clear st; intro _ st
        refine d_one 13 (by decide +kernel) rfl ?_
        refine o_storeC _ st rfl rfl ho2 (by repeat constructor) (by rw [List.length_append]; omega) hs1 ?_; clear st; intro _ _ st
        refine kh st (by repeat constructor) ?_
        refine d_v 14 st (by repeat constructor) rfl (by decide +kernel) rfl (v_indexAddr st rfl rfl (by omega) (by omega)) ?_; clear st; intro _ st
        refine d_one 15 (by decide +kernel) rfl ?_
        refine o_storeC _ st rfl rfl ho1 (by repeat constructor) (by rw [List.length_append, List.length_set]; omega) hs2 ?_; clear st; intro _ _ st
        refine k_last ?_
        refine d_done (by decide +kernel) ?_
        refine ⟨rfl, ?_⟩
        exact st.fit (by repeat (first | exact trivial  | refine And.intro rfl ?_))
      · skip
        refine o_loadS st rfl (by repeat constructor) hv1 rfl ?_; clear st; intro _ st
        refine kh st (by repeat constructor) ?_
        refine d_one 7 (by decide +kernel) rfl ?_
        refine o_loadS st rfl (by repeat constructor) hv2 rfl ?_; clear st; intro _ st
        refine kh st (by repeat constructor) ?_
        refine d_v 12 st (by repeat constructor) rfl (by decide +kernel) rfl (v_indexAddr st rfl rfl (by omega) (by omega)) ?_; clear st; intro _ st
        refine d_one 13 (by decide +kernel) rfl ?_
        refine o_storeC _ st rfl rfl ho2 (by repeat constructor) (by rw [List.length_append]; omega) hs1 ?_; clear st; intro _ _ st
        refine kh st (by repeat constructor) ?_
        refine d_v 14 st (by repeat constructor) rfl (by decide +kernel) rfl (v_indexAddr st rfl rfl (by omega) (by omega)) ?_; clear st; intro _ st
        refine d_one 15 (by decide +kernel) rfl ?_
        refine o_storeC _ st rfl rfl ho1 (by repeat constructor) (by rw [List.length_append, List.length_set]; omega) hs2 ?_; clear st; intro _ _ st
        refine k_last ?_
        refine d_done (by decide +kernel) ?_
        refine ⟨rfl, ?_⟩
        exact st.fit (by repeat (first | exact trivial  | refine And.intro rfl ?_))
    clear st
    intro _ _ st
    (repeat' (first | refine c_seq ?_  | refine c_region ?_  | refine l_do ?_  | refine l_nil ?_  | refine x_then ?_  | refine x_thenE ?_  | refine x_blkN ?_  | refine x_blkE ?_  | refine wp_ret ?_  | refine wp_skip ?_  | refine wp_block ?_  | refine wp_exit ?_  | refine c_condT st rfl ?_  | refine c_condF st rfl ?_  | ((first | refine o_move st rfl rfl ?_  | refine o_assign st rfl rfl ?_  | refine o_loadS st rfl (by repeat constructor) rfl rfl ?_ ); clear st; intro _ st)  | ((first | refine o_len st rfl rfl ?_  | refine o_add64 st rfl rfl rfl (by omega) (by omega) ?_  | refine o_sub64 st rfl rfl rfl (by omega) (by omega) ?_); clear st; intro _ st)  | (refine o_lss st rfl rfl rfl ?_ ?_ <;> clear st <;> intro _ _ st <;> (try (exfalso; omega)))))
    refine ⟨bs.length - (k + 1), by omega, k + 1, _, by omega, by omega, rfl, swapped_step hsw hlt g1 g2, ?_, ?_⟩
    · intro v hv
      rcases List.mem_or_eq_of_mem_set hv with hv | rfl
      · rcases List.mem_or_eq_of_mem_set hv with hv | rfl
        · exact hone v hv
        · exact ho2
      · exact ho1
    have e3 : (bs.length : Int) - 1 - ((k + 1 : Nat) : Int) = (bs.length : Int) - 1 - (k : Int) - 1 := by omega
    rw [e3]
    exact st.fit (by repeat (first | exact trivial  | refine And.intro rfl ?_))
  · have hr := swapped_all hsw (by omega)
    subst hr
    (repeat' (first | refine c_seq ?_  | refine c_region ?_  | refine l_do ?_  | refine l_nil ?_  | refine x_then ?_  | refine x_thenE ?_  | refine x_blkN ?_  | refine x_blkE ?_  | refine wp_ret ?_  | refine wp_skip ?_  | refine wp_block ?_  | refine wp_exit ?_  | refine c_condT st rfl ?_  | refine c_condF st rfl ?_  | ((first | refine o_move st rfl rfl ?_  | refine o_assign st rfl rfl ?_  | refine o_loadS st rfl (by repeat constructor) rfl rfl ?_ ); clear st; intro _ st)  | ((first | refine o_len st rfl rfl ?_  | refine o_add64 st rfl rfl rfl (by omega) (by omega) ?_  | refine o_sub64 st rfl rfl rfl (by omega) (by omega) ?_); clear st; intro _ st)  | (refine o_lss st rfl rfl rfl ?_ ?_ <;> clear st <;> intro _ _ st <;> (try (exfalso; omega)))))
    first
      | (refine post0 st Try.results102 ?_; exact ⟨rfl, _, st.fit (E' := []) trivial⟩)
      | (refine postN0 st Try.results102 ?_; exact ⟨rfl, _, st.fit (E' := []) trivial⟩)

theorem cloneW_ok (vs : List Value) (h1 : ∀ v ∈ vs, v.oneCell' = true) (base : Option Addr) (cap : Nat) (w : World) (hr : RdV w base vs) (h0 : 0 < vs.length) (hl : vs.length ≤ 1000000) :
    CM1 Try.prog 126 [.slice base vs.length cap] w fun v b o => ∃ cap pad, v = .slice (some ⟨b, 0, none⟩) vs.length cap ∧ o = oV 29 vs pad ∧ (vs ++ pad).length = cap := by
  refine enter Try.func126 rfl rfl rfl rfl ?_
  intro a st
  obtain ⟨blk, off, arr, t, fr, rfl, hw, h3⟩ := hr.get (by intro h; rw [h] at h0; simp at h0)
  have hcell : ∀ {a : Act} {w' : World} {E : List (Nat × Value)} {L : List Ent}, St w Try.f126.ntmps a w' E L → ∀ j u, vs[j]? = some u → w'.cell? ⟨blk, off + j, none⟩ = some u := by
    intro a w' E L st j u hj
    obtain ⟨hjl, rfl⟩ := List.getElem?_eq_some_iff.1 hj
    rw [cell_known (st.addOld hw) At.here rfl]
    exact h3 j hjl
  (repeat' (first | (refine o_eqlNil st rfl rfl ?_; clear st; intro _ st)  | (refine o_buildSlice0 st rfl ?_; clear st; intro _ _ _ st)  | (refine o_appendF (size := 1) (news := vs) st rfl rfl (hcell st) (by omega) h1 h0 (by omega) (by omega) rfl ?_; clear st; intro blk1 cap1 pad1 _ _ hp1 st)  | refine c_seq ?_  | refine c_region ?_  | refine l_do ?_  | refine l_nil ?_  | refine x_then ?_  | refine wp_ret ?_  | refine wp_skip ?_  | refine c_condF st rfl ?_  | ((first | refine o_move st rfl rfl ?_  | refine o_assign st rfl rfl ?_); clear st; intro _ st) ))
  refine post1 st Try.results126 (rd_t st rfl) ?_
  exact ⟨_, blk1, _, rfl, ⟨cap1, pad1, rfl, rfl, by omega⟩, st.ex1 (by repeat constructor)⟩
set_option maxHeartbeats 16000000 in
theorem reverseW_ok (bs : List Value) (h1 : ∀ v ∈ bs, v.oneCell' = true) (b cap : Nat) (pad : List Value) (w : World) (hb : w.heap[b]? = some (oV 29 bs pad)) (h0 : 0 < bs.length) (hlen : bs.length ≤ 1000000) :
    CU Try.prog 103 [.slice (some ⟨b, 0, none⟩) bs.length cap] w (.tuple #[]) b (oV 29 bs.reverse pad) := by
  refine enterU hb Try.func103 rfl rfl rfl rfl ?_
  intro a w0 Lf st
  (repeat' (first | refine c_seq ?_  | refine c_region ?_  | refine l_do ?_  | refine l_nil ?_  | refine x_then ?_  | refine x_thenE ?_  | refine x_blkN ?_  | refine x_blkE ?_  | refine wp_ret ?_  | refine wp_skip ?_  | refine wp_block ?_  | refine wp_exit ?_  | refine c_condT st rfl ?_  | refine c_condF st rfl ?_  | ((first | refine o_move st rfl rfl ?_  | refine o_assign st rfl rfl ?_  | refine o_loadS st rfl (by repeat constructor) rfl rfl ?_ ); clear st; intro _ st)  | ((first | refine o_len st rfl rfl ?_  | refine o_add64 st rfl rfl rfl (by omega) (by omega) ?_  | refine o_sub64 st rfl rfl rfl (by omega) (by omega) ?_); clear st; intro _ st)  | (refine o_lss st rfl rfl rfl ?_ ?_ <;> clear st <;> intro _ _ st <;> (try (exfalso; omega)))))
  refine wp_loop_ghost (fun n a w' => ∃ (k : Nat) (cur : List Value), k ≤ bs.length ∧ 2 * k ≤ bs.length + 1 ∧ n = bs.length - k ∧ swapped bs cur k ∧ (∀ v ∈ cur, v.oneCell' = true) ∧ St w0 Try.f103.ntmps a w' [(0, .slice (some ⟨b, 0, none⟩) bs.length cap), (2, .int .i64 (k : Int)), (3, .int .i64 ((bs.length : Int) - 1 - (k : Int)))] (⟨b, true, oV 29 cur pad⟩ :: Lf)) bs.length ⟨0, bs, by omega, by omega, by omega, swapped_zero bs, h1, by simpa using st.fit (by repeat (first | exact trivial  | refine And.intro rfl ?_))⟩ ?_
  clear st
  rintro n a w' ⟨k, cur, hk, hk2, rfl, hsw, hone, st⟩
  have hcl := hsw.1
  by_cases hlt : 2 * k + 1 < bs.length
  · have g1 : k < cur.length := by omega
    have g2 : bs.length - 1 - k < cur.length := by omega
    have e : ((bs.length : Int) - 1 - (k : Int)).toNat = bs.length - 1 - k := by omega
    have hv1 := oV_get (pad := pad) g1
    have hv2 : (cur ++ pad).toArray[0 + ((bs.length : Int) - 1 - (k : Int)).toNat * 1]? = some cur[bs.length - 1 - k] := by
      have := oV_get (pad := pad) g2
      rw [Int.toNat_natCast] at this
      rw [e]; exact this
    have ho1 := hone _ (List.getElem_mem g1)
    have ho2 := hone _ (List.getElem_mem g2)
    have hs1 : (cur ++ pad).set (0 + ((k : Nat) : Int).toNat * 1) cur[bs.length - 1 - k] = cur.set k cur[bs.length - 1 - k] ++ pad := by
      rw [show 0 + ((k : Nat) : Int).toNat * 1 = k by simp]; exact set_left g1
    have hs2 : (cur.set k cur[bs.length - 1 - k] ++ pad).set (0 + ((bs.length : Int) - 1 - (k : Int)).toNat * 1) cur[k] = (cur.set k cur[bs.length - 1 - k]).set (bs.length - 1 - k) cur[k] ++ pad := by
      rw [e, show 0 + (bs.length - 1 - k) * 1 = bs.length - 1 - k by omega]; exact set_left (by rw [List.length_set]; omega)
    (repeat' (first | refine c_seq ?_  | refine c_region ?_  | refine l_do ?_  | refine l_nil ?_  | refine x_then ?_  | refine x_thenE ?_  | refine x_blkN ?_  | refine x_blkE ?_  | refine wp_ret ?_  | refine wp_skip ?_  | refine wp_block ?_  | refine wp_exit ?_  | refine c_condT st rfl ?_  | refine c_condF st rfl ?_  | ((first | refine o_move st rfl rfl ?_  | refine o_assign st rfl rfl ?_  | refine o_loadS st rfl (by repeat constructor) rfl rfl ?_ ); clear st; intro _ st)  | ((first | refine o_len st rfl rfl ?_  | refine o_add64 st rfl rfl rfl (by omega) (by omega) ?_  | refine o_sub64 st rfl rfl rfl (by omega) (by omega) ?_); clear st; intro _ st)  | (refine o_lss st rfl rfl rfl ?_ ?_ <;> clear st <;> intro _ _ st <;> (try (exfalso; omega)))))
    refine c_drawC (F := (fun _ _ a w' => St w0 Try.f103.ntmps a w' [(0, .slice (some ⟨b, 0, none⟩) bs.length cap), (2, .int .i64 (k : Int)), (3, .int .i64 ((bs.length : Int) - 1 - (k : Int)))] (⟨b, true, oV 29 ((cur.set k cur[bs.length - 1 - k]).set (bs.length - 1 - k) cur[k]) pad⟩ :: Lf))) (Lh := []) (last := 15) hm_ (by decide +kernel) (by decide +kernel) st ?_ ?_
    · clear st; intro _ st
      refine d_v 0 st (by repeat constructor) rfl (by decide +kernel) rfl (v_move st rfl) ?_; clear st; intro _ st
      refine d_v 1 st (by repeat constructor) rfl (by decide +kernel) rfl (v_move st rfl) ?_; clear st; intro _ st
      refine d_v 2 st (by repeat constructor) rfl (by decide +kernel) rfl (v_move st rfl) ?_; clear st; intro _ st
      refine d_v 3 st (by repeat constructor) rfl (by decide +kernel) rfl (v_move st rfl) ?_; clear st; intro _ st
      refine d_v 4 st (by repeat constructor) rfl (by decide +kernel) rfl (v_move st rfl) ?_; clear st; intro _ st
      refine d_v 5 st (by repeat constructor) rfl (by decide +kernel) rfl (v_move st rfl) ?_; clear st; intro _ st
      refine d_v 6 st (by repeat constructor) rfl (by decide +kernel) rfl (v_indexAddr st rfl rfl (by omega) (by omega)) ?_; clear st; intro _ st
      refine d_v 8 st (by repeat constructor) rfl (by decide +kernel) rfl (v_move st rfl) ?_; clear st; intro _ st
      refine d_v 9 st (by repeat constructor) rfl (by decide +kernel) rfl (v_move st rfl) ?_; clear st; intro _ st
      refine d_v 10 st (by repeat constructor) rfl (by decide +kernel) rfl (v_indexAddr st rfl rfl (by omega) (by omega)) ?_; clear st; intro _ st
      refine d_two 7 11 (by decide +kernel) rfl rfl ?_ ?_
      · skip
        refine o_loadS st rfl (by repeat constructor) hv2 rfl ?_; clear st; intro _ st
        refine kh st (by repeat constructor) ?_
        refine d_one 11 (by decide +kernel) rfl ?_
        refine o_loadS st rfl (by repeat constructor) hv1 rfl ?_; clear st; intro _ st
        refine kh st (by repeat constructor) ?_
        refine d_v 12 st (by repeat constructor) rfl (by decide +kernel) rfl (v_indexAddr st rfl rfl (by omega) (by omega)) ?_; clear st; intro _ st
        refine d_one 13 (by decide +kernel) rfl ?_
        refine o_storeC _ st rfl rfl ho2 (by repeat constructor) (by rw [List.length_append]; omega) hs1 ?_; clear st; intro _ _ st
        refine kh st (by repeat constructor) ?_
        refine d_v 14 st (by repeat constructor) rfl (by decide +kernel) rfl (v_indexAddr st rfl rfl (by omega) (by omega)) ?_; clear st; intro _ st
        refine d_one 15 (by decide +kernel) rfl ?_
        refine o_storeC _ st rfl rfl ho1 (by repeat constructor) (by rw [List.length_append, List.length_set]; omega) hs2 ?_; clear st; intro _ _ st
        refine k_last ?_
        refine d_done (by decide +kernel) ?_
        refine ⟨rfl, ?_⟩
        exact st.fit (by repeat (first | exact trivial  | refine And.intro rfl ?_))
      · skip
        refine o_loadS st rfl (by repeat constructor) hv1 rfl ?_; clear st; intro _ st
        refine kh st (by repeat constructor) ?_
        refine d_one 7 (by decide +kernel) rfl ?_
        refine o_loadS st rfl (by repeat constructor) hv2 rfl ?_; clear st; intro _ st
        refine kh st (by repeat constructor) ?_
        refine d_v 12 st (by repeat constructor) rfl (by decide +kernel) rfl (v_indexAddr st rfl rfl (by omega) (by omega)) ?_; clear st; intro _ st
        refine d_one 13 (by decide +kernel) rfl ?_
        refine o_storeC _ st rfl rfl ho2 (by repeat constructor) (by rw [List.length_append]; omega) hs1 ?_; clear st; intro _ _ st
        refine kh st (by repeat constructor) ?_
        refine d_v 14 st (by repeat constructor) rfl (by decide +kernel) rfl (v_indexAddr st rfl rfl (by omega) (by omega)) ?_; clear st; intro _ st
        refine d_one 15 (by decide +kernel) rfl ?_
        refine o_storeC _ st rfl rfl ho1 (by repeat constructor) (by rw [List.length_append, List.length_set]; omega) hs2 ?_; clear st; intro _ _ st
        refine k_last ?_
        refine d_done (by decide +kernel) ?_
        refine ⟨rfl, ?_⟩
        exact st.fit (by repeat (first | exact trivial  | refine And.intro rfl ?_))
    clear st
    intro _ _ st
    (repeat' (first | refine c_seq ?_  | refine c_region ?_  | refine l_do ?_  | refine l_nil ?_  | refine x_then ?_  | refine x_thenE ?_  | refine x_blkN ?_  | refine x_blkE ?_  | refine wp_ret ?_  | refine wp_skip ?_  | refine wp_block ?_  | refine wp_exit ?_  | refine c_condT st rfl ?_  | refine c_condF st rfl ?_  | ((first | refine o_move st rfl rfl ?_  | refine o_assign st rfl rfl ?_  | refine o_loadS st rfl (by repeat constructor) rfl rfl ?_ ); clear st; intro _ st)  | ((first | refine o_len st rfl rfl ?_  | refine o_add64 st rfl rfl rfl (by omega) (by omega) ?_  | refine o_sub64 st rfl rfl rfl (by omega) (by omega) ?_); clear st; intro _ st)  | (refine o_lss st rfl rfl rfl ?_ ?_ <;> clear st <;> intro _ _ st <;> (try (exfalso; omega)))))
    refine ⟨bs.length - (k + 1), by omega, k + 1, _, by omega, by omega, rfl, swapped_step hsw hlt g1 g2, ?_, ?_⟩
    · intro v hv
      rcases List.mem_or_eq_of_mem_set hv with hv | rfl
      · rcases List.mem_or_eq_of_mem_set hv with hv | rfl
        · exact hone v hv
        · exact ho2
      · exact ho1
    have e3 : (bs.length : Int) - 1 - ((k + 1 : Nat) : Int) = (bs.length : Int) - 1 - (k : Int) - 1 := by omega
    rw [e3]
    exact st.fit (by repeat (first | exact trivial  | refine And.intro rfl ?_))
  · have hr := swapped_all hsw (by omega)
    subst hr
    (repeat' (first | refine c_seq ?_  | refine c_region ?_  | refine l_do ?_  | refine l_nil ?_  | refine x_then ?_  | refine x_thenE ?_  | refine x_blkN ?_  | refine x_blkE ?_  | refine wp_ret ?_  | refine wp_skip ?_  | refine wp_block ?_  | refine wp_exit ?_  | refine c_condT st rfl ?_  | refine c_condF st rfl ?_  | ((first | refine o_move st rfl rfl ?_  | refine o_assign st rfl rfl ?_  | refine o_loadS st rfl (by repeat constructor) rfl rfl ?_ ); clear st; intro _ st)  | ((first | refine o_len st rfl rfl ?_  | refine o_add64 st rfl rfl rfl (by omega) (by omega) ?_  | refine o_sub64 st rfl rfl rfl (by omega) (by omega) ?_); clear st; intro _ st)  | (refine o_lss st rfl rfl rfl ?_ ?_ <;> clear st <;> intro _ _ st <;> (try (exfalso; omega)))))
    first
      | (refine post0 st Try.results103 ?_; exact ⟨rfl, _, st.fit (E' := []) trivial⟩)
      | (refine postN0 st Try.results103 ?_; exact ⟨rfl, _, st.fit (E' := []) trivial⟩)
end Go.Proofs.Ytonbcbhnnflohaa
