/-
  Contracts: lists reversed; sheets cut.
-/
import Derived.Test.YtefnlalldgbcaaaRaise
import Derived.Test.YtefnlalldgbcaaaBox
namespace Go.Proofs.Ytefnlalldgbcaaa
open Go.RowKit

section
variable {P : Program} {w0 w : World} {N : Nat} {a : Act} {E : List (Nat × Value)} {L Lh : List Ent} {K : Act → World → Prop} {Q : Exit → Act → World → Prop}
variable {d : Nat} {ty : TypeId} {pos : String} {aft : Array Edge} {g : Option (Nat × Bool)}
theorem post0 {fn : Func} {R : Ending → World → Prop} (st : St w0 N a w E L) (hr : fn.results = #[]) (h : R (.returned (.tuple #[])) w) : bodyPost P fn R .ret a w := by
  refine ⟨st.defers, .tuple #[], ?_, h⟩
  rw [results_eq, hr]
  simp
theorem postN0 {fn : Func} {R : Ending → World → Prop} (st : St w0 N a w E L) (hr : fn.results = #[]) (h : R (.returned (.tuple #[])) w) : bodyPost P fn R .normal a w := post0 st hr h
end

attribute [local irreducible] Code.wp wpList Oper.wp Calls bodyPost Exit.then Exit.inBlock

/-- A list of which the first k and the last k elements are exchanged. -/
def swapped (bs cur : List B3) (k : Nat) : Prop := cur.length = bs.length ∧ ∀ p (h : p < bs.length) (h' : p < cur.length), cur[p] = if p < k ∨ bs.length - k ≤ p then bs[bs.length - 1 - p] else bs[p]
theorem swapped_zero (bs : List B3) : swapped bs bs 0 := ⟨rfl, fun p h h' => by rw [if_neg (by omega)]⟩
theorem swapped_all {bs cur : List B3} {k : Nat} (h : swapped bs cur k) (hk : bs.length ≤ 2 * k + 1) : cur = bs.reverse := by
  obtain ⟨hl, hp⟩ := h
  refine List.ext_getElem (by simp [hl]) ?_
  intro p h1 h2
  rw [hp p (by omega) h1, List.getElem_reverse]
  split
  · rfl
  · congr 1
    omega
theorem swapped_step {bs cur : List B3} {k : Nat} (h : swapped bs cur k) (hk : 2 * k + 1 < bs.length) (h1 : k < cur.length) (h2 : bs.length - 1 - k < cur.length) : swapped bs ((cur.set k cur[bs.length - 1 - k]).set (bs.length - 1 - k) cur[k]) (k + 1) := by
  obtain ⟨hl, hp⟩ := h
  refine ⟨by simp [hl], ?_⟩
  intro p hb hc
  rw [List.getElem_set, List.getElem_set]
  by_cases e1 : bs.length - 1 - k = p
  · rw [if_pos e1, if_pos (by omega), hp k (by omega) h1, if_neg (by omega)]
    congr 1
    omega
  · rw [if_neg e1]
    by_cases e2 : k = p
    · rw [if_pos e2, if_pos (by omega), hp _ (by omega) h2, if_neg (by omega)]
      congr 1
      omega
    · rw [if_neg e2, hp p hb (by omega)]
      by_cases e3 : p < k ∨ bs.length - k ≤ p
      · rw [if_pos e3, if_pos (by omega)]
      · rw [if_neg e3, if_neg (by omega)]

set_option maxHeartbeats 16000000 in
theorem reverse_ok (bs : List B3) (b cap : Nat) (pad : List Value) (w : World) (hb : w.heap[b]? = some (oS bs pad)) (h0 : 0 < bs.length) (hlen : bs.length < 1000000000) :
    CU Try.prog 171 [.slice (some ⟨b, 0, none⟩) bs.length cap] w (.tuple #[]) b (oS bs.reverse pad) := by
  refine enterU hb Try.func171 rfl rfl rfl rfl ?_
  intro a w0 Lf st
  (repeat' (first | refine c_seq ?_  | refine c_region ?_  | refine l_do ?_  | refine l_nil ?_  | refine x_then ?_  | refine x_thenE ?_  | refine x_blkN ?_  | refine x_blkE ?_  | refine wp_ret ?_  | refine wp_skip ?_  | refine wp_block ?_  | refine wp_exit ?_  | refine c_condT st rfl ?_  | refine c_condF st rfl ?_  | ((first | refine o_move st rfl rfl ?_  | refine o_assign st rfl rfl ?_ ); clear st; intro _ st)  | ((first | refine o_len st rfl rfl ?_  | refine o_add64 st rfl rfl rfl (by omega) (by omega) ?_  | refine o_sub64 st rfl rfl rfl (by omega) (by omega) ?_); clear st; intro _ st)  | (refine o_lss st rfl rfl rfl ?_ ?_ <;> clear st <;> intro _ _ st <;> (try (exfalso; omega)))))
  refine wp_loop_ghost (fun n a w' => ∃ (k : Nat) (cur : List B3), k ≤ bs.length ∧ 2 * k ≤ bs.length + 1 ∧ n = bs.length - k ∧ swapped bs cur k ∧ St w0 Try.f171.ntmps a w' [(0, .slice (some ⟨b, 0, none⟩) bs.length cap), (2, .int .i64 (k : Int)), (3, .int .i64 ((bs.length : Int) - 1 - (k : Int)))] (⟨b, true, oS cur pad⟩ :: Lf)) bs.length ⟨0, bs, by omega, by omega, by omega, swapped_zero bs, by simpa using st.fit (by repeat (first | exact trivial  | refine And.intro rfl ?_))⟩ ?_
  clear st
  rintro n a w' ⟨k, cur, hk, hk2, rfl, hsw, st⟩
  have hcl := hsw.1
  by_cases hlt : 2 * k + 1 < bs.length
  · have h1 : k < cur.length := by omega
    have h2 : bs.length - 1 - k < cur.length := by omega
    have e : ((bs.length : Int) - 1 - (k : Int)).toNat = bs.length - 1 - k := by omega
    have hv1 := spotsIn0p cur pad k cur[k] (by simp [h1])
    have hv2 : (cS cur ++ pad).toArray[0 + ((bs.length : Int) - 1 - (k : Int)).toNat * 3]? = some (.float .f32 cur[bs.length - 1 - k].1) ∧ (cS cur ++ pad).toArray[0 + ((bs.length : Int) - 1 - (k : Int)).toNat * 3 + 1]? = some (.float .f32 cur[bs.length - 1 - k].2.1) ∧ (cS cur ++ pad).toArray[0 + ((bs.length : Int) - 1 - (k : Int)).toNat * 3 + 2]? = some (.float .f32 cur[bs.length - 1 - k].2.2) := by
      rw [e]; exact spotsIn0p cur pad (bs.length - 1 - k) _ (by simp [h2])
    (repeat' (first | refine c_seq ?_  | refine c_region ?_  | refine l_do ?_  | refine l_nil ?_  | refine x_then ?_  | refine x_thenE ?_  | refine x_blkN ?_  | refine x_blkE ?_  | refine wp_ret ?_  | refine wp_skip ?_  | refine wp_block ?_  | refine wp_exit ?_  | refine c_condT st rfl ?_  | refine c_condF st rfl ?_  | ((first | refine o_move st rfl rfl ?_  | refine o_assign st rfl rfl ?_ ); clear st; intro _ st)  | ((first | refine o_len st rfl rfl ?_  | refine o_add64 st rfl rfl rfl (by omega) (by omega) ?_  | refine o_sub64 st rfl rfl rfl (by omega) (by omega) ?_); clear st; intro _ st)  | (refine o_lss st rfl rfl rfl ?_ ?_ <;> clear st <;> intro _ _ st <;> (try (exfalso; omega)))))
    refine c_drawC (F := (fun _ _ a w' => St w0 Try.f171.ntmps a w' [(0, .slice (some ⟨b, 0, none⟩) bs.length cap), (2, .int .i64 (k : Int)), (3, .int .i64 ((bs.length : Int) - 1 - (k : Int)))] (⟨b, true, oS ((cur.set k cur[bs.length - 1 - k]).set (bs.length - 1 - k) cur[k]) pad⟩ :: Lf))) (Lh := []) (last := 15) hm_ (by decide +kernel) (by decide +kernel) st ?_ ?_
    · clear st; intro _ st
      refine d_v 0 st (by repeat constructor) rfl (by decide +kernel) rfl (v_move st rfl) ?_; clear st; intro _ st
      refine d_v 1 st (by repeat constructor) rfl (by decide +kernel) rfl (v_move st rfl) ?_; clear st; intro _ st
      refine d_v 2 st (by repeat constructor) rfl (by decide +kernel) rfl (v_move st rfl) ?_; clear st; intro _ st
      refine d_v 3 st (by repeat constructor) rfl (by decide +kernel) rfl (v_move st rfl) ?_; clear st; intro _ st
      refine d_v 4 st (by repeat constructor) rfl (by decide +kernel) rfl (v_move st rfl) ?_; clear st; intro _ st
      refine d_v 5 st (by repeat constructor) rfl (by decide +kernel) rfl (v_move st rfl) ?_; clear st; intro _ st
      refine d_v 6 st (by repeat constructor) rfl (by decide +kernel) rfl (v_indexAddr st rfl rfl (by omega) (by omega)) ?_; clear st; intro _ st
      refine d_v 8 st (by repeat constructor) rfl (by decide +kernel) rfl (v_move st rfl) ?_; clear st; intro _ st
      refine d_v 9 st (by repeat constructor) rfl (by decide +kernel) rfl (v_move st rfl) ?_; clear st; intro _ st
      refine d_v 10 st (by repeat constructor) rfl (by decide +kernel) rfl (v_indexAddr st rfl rfl (by omega) (by omega)) ?_; clear st; intro _ st
      refine d_two 7 11 (by decide +kernel) rfl rfl ?_ ?_
      · skip
        refine o_loadSp st rfl (by repeat constructor) hv2 rfl ?_; clear st; intro _ st
        refine kh st (by repeat constructor) ?_
        refine d_one 11 (by decide +kernel) rfl ?_
        refine o_loadSp st rfl (by repeat constructor) hv1 rfl ?_; clear st; intro _ st
        refine kh st (by repeat constructor) ?_
        refine d_v 12 st (by repeat constructor) rfl (by decide +kernel) rfl (v_indexAddr st rfl rfl (by omega) (by omega)) ?_; clear st; intro _ st
        refine d_one 13 (by decide +kernel) rfl ?_
        refine o_storeSp (i := k) st rfl (by omega) rfl (by repeat constructor) (by omega) ?_; clear st; intro _ _ st
        refine kh st (by repeat constructor) ?_
        refine d_v 14 st (by repeat constructor) rfl (by decide +kernel) rfl (v_indexAddr st rfl rfl (by omega) (by omega)) ?_; clear st; intro _ st
        refine d_one 15 (by decide +kernel) rfl ?_
        refine o_storeSp (i := bs.length - 1 - k) st rfl (by omega) rfl (by repeat constructor) (by rw [List.length_set]; omega) ?_; clear st; intro _ _ st
        refine k_last ?_
        refine d_done (by decide +kernel) ?_
        refine ⟨rfl, ?_⟩
        exact st.fit (by repeat (first | exact trivial  | refine And.intro rfl ?_))
      · skip
        refine o_loadSp st rfl (by repeat constructor) hv1 rfl ?_; clear st; intro _ st
        refine kh st (by repeat constructor) ?_
        refine d_one 7 (by decide +kernel) rfl ?_
        refine o_loadSp st rfl (by repeat constructor) hv2 rfl ?_; clear st; intro _ st
        refine kh st (by repeat constructor) ?_
        refine d_v 12 st (by repeat constructor) rfl (by decide +kernel) rfl (v_indexAddr st rfl rfl (by omega) (by omega)) ?_; clear st; intro _ st
        refine d_one 13 (by decide +kernel) rfl ?_
        refine o_storeSp (i := k) st rfl (by omega) rfl (by repeat constructor) (by omega) ?_; clear st; intro _ _ st
        refine kh st (by repeat constructor) ?_
        refine d_v 14 st (by repeat constructor) rfl (by decide +kernel) rfl (v_indexAddr st rfl rfl (by omega) (by omega)) ?_; clear st; intro _ st
        refine d_one 15 (by decide +kernel) rfl ?_
        refine o_storeSp (i := bs.length - 1 - k) st rfl (by omega) rfl (by repeat constructor) (by rw [List.length_set]; omega) ?_; clear st; intro _ _ st
        refine k_last ?_
        refine d_done (by decide +kernel) ?_
        refine ⟨rfl, ?_⟩
        exact st.fit (by repeat (first | exact trivial  | refine And.intro rfl ?_))
    clear st
    intro _ _ st
    (repeat' (first | refine c_seq ?_  | refine c_region ?_  | refine l_do ?_  | refine l_nil ?_  | refine x_then ?_  | refine x_thenE ?_  | refine x_blkN ?_  | refine x_blkE ?_  | refine wp_ret ?_  | refine wp_skip ?_  | refine wp_block ?_  | refine wp_exit ?_  | refine c_condT st rfl ?_  | refine c_condF st rfl ?_  | ((first | refine o_move st rfl rfl ?_  | refine o_assign st rfl rfl ?_ ); clear st; intro _ st)  | ((first | refine o_len st rfl rfl ?_  | refine o_add64 st rfl rfl rfl (by omega) (by omega) ?_  | refine o_sub64 st rfl rfl rfl (by omega) (by omega) ?_); clear st; intro _ st)  | (refine o_lss st rfl rfl rfl ?_ ?_ <;> clear st <;> intro _ _ st <;> (try (exfalso; omega)))))
    refine ⟨bs.length - (k + 1), by omega, k + 1, _, by omega, by omega, rfl, swapped_step hsw hlt h1 h2, ?_⟩
    have e3 : (bs.length : Int) - 1 - ((k + 1 : Nat) : Int) = (bs.length : Int) - 1 - (k : Int) - 1 := by omega
    rw [e3]
    exact st.fit (by repeat (first | exact trivial  | refine And.intro rfl ?_))
  · have hr := swapped_all hsw (by omega)
    subst hr
    (repeat' (first | refine c_seq ?_  | refine c_region ?_  | refine l_do ?_  | refine l_nil ?_  | refine x_then ?_  | refine x_thenE ?_  | refine x_blkN ?_  | refine x_blkE ?_  | refine wp_ret ?_  | refine wp_skip ?_  | refine wp_block ?_  | refine wp_exit ?_  | refine c_condT st rfl ?_  | refine c_condF st rfl ?_  | ((first | refine o_move st rfl rfl ?_  | refine o_assign st rfl rfl ?_ ); clear st; intro _ st)  | ((first | refine o_len st rfl rfl ?_  | refine o_add64 st rfl rfl rfl (by omega) (by omega) ?_  | refine o_sub64 st rfl rfl rfl (by omega) (by omega) ?_); clear st; intro _ st)  | (refine o_lss st rfl rfl rfl ?_ ?_ <;> clear st <;> intro _ _ st <;> (try (exfalso; omega)))))
    first
      | (refine post0 st Try.results171 ?_; exact ⟨rfl, _, st.fit (E' := []) trivial⟩)
      | (refine postN0 st Try.results171 ?_; exact ⟨rfl, _, st.fit (E' := []) trivial⟩)

/-! ## what a cut gives -/
theorem cutN_succ (c : Option Nat) : ∀ (n : Nat) (ss : List S3), cutN c (n + 1) ss = nextL c (cutN c n ss)
  | 0, ss => rfl
  | n + 1, ss => by
    show cutN c (n + 1) (nextL c ss) = nextL c (cutN c (n + 1) ss)
    rw [cutN_succ c n (nextL c ss)]
    rfl
/-- The first spots of the first k steps of a row. -/
def firstR (c : Option Nat) (r : List S3) (k : Nat) : List S3 := (List.range k).map fun i => (cutN c i r).headD z3
/-- The last ones. -/
def lastR (c : Option Nat) (r : List S3) (k : Nat) : List S3 := (List.range k).map fun i => (cutN c i r).getLastD z3
theorem firstR_succ (c : Option Nat) (r : List S3) (k : Nat) : firstR c r (k + 1) = firstR c r k ++ [(cutN c k r).headD z3] := by simp [firstR, List.range_succ]
theorem lastR_succ (c : Option Nat) (r : List S3) (k : Nat) : lastR c r (k + 1) = lastR c r k ++ [(cutN c k r).getLastD z3] := by simp [lastR, List.range_succ]
theorem firstR_length (c : Option Nat) (r : List S3) (k : Nat) : (firstR c r k).length = k := by simp [firstR]
theorem lastR_length (c : Option Nat) (r : List S3) (k : Nat) : (lastR c r k).length = k := by simp [lastR]
def cutA (ss : List S3) (M : Nat) (c : Option Nat) (j : Nat) : List S3 := (List.range j).flatMap fun j => firstR c (rowL ss M j) M
def cutB (ss : List S3) (M : Nat) (c : Option Nat) (j : Nat) : List S3 := (List.range j).flatMap fun j => (lastR c (rowL ss M j) M).reverse
theorem cutA_succ (ss : List S3) (M : Nat) (c : Option Nat) (j : Nat) : cutA ss M c (j + 1) = cutA ss M c j ++ firstR c (rowL ss M j) M := by simp [cutA, List.range_succ]
theorem cutB_succ (ss : List S3) (M : Nat) (c : Option Nat) (j : Nat) : cutB ss M c (j + 1) = cutB ss M c j ++ (lastR c (rowL ss M j) M).reverse := by simp [cutB, List.range_succ]
theorem cutA_length (ss : List S3) (M : Nat) (c : Option Nat) (j : Nat) : (cutA ss M c j).length = j * M := by
  induction j with
  | zero => simp [cutA]
  | succ j ih => rw [cutA_succ, List.length_append, ih, firstR_length, Nat.add_mul, Nat.one_mul]
theorem cutB_length (ss : List S3) (M : Nat) (c : Option Nat) (j : Nat) : (cutB ss M c j).length = j * M := by
  induction j with
  | zero => simp [cutB]
  | succ j ih => rw [cutB_succ, List.length_append, ih, List.length_reverse, lastR_length, Nat.add_mul, Nat.one_mul]
theorem IsSL.last {bs : List B3} {ss : List S3} (h : IsSL bs ss) (h0 : 0 < bs.length) : IsS (bs[bs.length - 1]'(by omega)) (ss.getLastD z3) := by
  have hl := h.len
  have h1 : ss.length - 1 < ss.length := by omega
  have := h.get (bs.length - 1) _ ss[ss.length - 1] (List.getElem?_eq_getElem (by omega)) (by rw [hl]; exact List.getElem?_eq_getElem h1)
  rwa [show ss.getLastD z3 = ss[ss.length - 1] by
    cases ss with
    | nil => simp at h1
    | cons s ss => rw [List.getLastD_eq_getLast?, List.getLast?_eq_getElem?]; simp]
theorem IsSL.append {bs cs : List B3} {ss ts : List S3} (h : IsSL bs ss) (h' : IsSL cs ts) : IsSL (bs ++ cs) (ss ++ ts) := by
  have hl := h.len
  have hl2 := h'.len
  refine ⟨by rw [List.length_append, List.length_append, hl, hl2], ?_⟩
  intro i b s hb hs
  rcases Nat.lt_or_ge i bs.length with hi | hi
  · rw [List.getElem?_append_left hi] at hb
    rw [List.getElem?_append_left (by omega)] at hs
    exact h.get i b s hb hs
  · rw [List.getElem?_append_right hi] at hb
    rw [List.getElem?_append_right (by omega), ← hl] at hs
    exact h'.get _ b s hb hs
theorem IsSL_one {b : B3} {s : S3} (h : IsS b s) : IsSL [b] [s] := by
  refine ⟨rfl, ?_⟩
  intro i b' s' hb hs
  match i with
  | 0 => simp at hb hs; subst hb; subst hs; exact h
  | i + 1 => simp at hb
theorem IsSL.rev {bs : List B3} {ss : List S3} (h : IsSL bs ss) : IsSL bs.reverse ss.reverse := by
  have hl := h.len
  refine ⟨by simp [hl], ?_⟩
  intro i b s hb hs
  have h1 : i < bs.length := by have := (List.getElem?_eq_some_iff.1 hb).1; simpa using this
  rw [List.getElem?_reverse h1] at hb
  rw [List.getElem?_reverse (by omega)] at hs
  rw [← hl] at hs
  exact h.get _ b s hb hs

section
variable {P : Program} {w0 w : World} {N : Nat} {a : Act} {E : List (Nat × Value)} {L Lh : List Ent} {K : Act → World → Prop} {Q : Exit → Act → World → Prop}
variable {d : Nat} {ty : TypeId} {pos : String} {aft : Array Edge} {g : Option (Nat × Bool)}
/-- The value of a list that grows, and its block, if it has one. -/
def GL (v : Value) (os : List B3) (Ls : List Ent) : Prop := (v = .slice none 0 0 ∧ os = [] ∧ Ls = []) ∨ (∃ blk cp pad, 0 < os.length ∧ v = .slice (some ⟨blk, 0, none⟩) os.length cp ∧ Ls = [⟨blk, true, oS os pad⟩] ∧ (cS os ++ pad).length = cp * 3)
/-- The entries without some that stand side by side. -/
inductive RemS : List Ent → List Ent → List Ent → Prop
  | here {Ls Lt} : RemS (Ls ++ Lt) Ls Lt
  | hereEnd {Ls} : RemS Ls Ls []
  | hereR {La Ls} : RemS (La ++ Ls) Ls La
  | there {e L Ls Lr} : RemS L Ls Lr → RemS (e :: L) Ls (e :: Lr)
theorem RemS.sub {L Ls Lr : List Ent} (h : RemS L Ls Lr) : List.Sublist Lr L := by
  induction h with
  | here => exact List.sublist_append_right _ _
  | hereEnd => exact List.nil_sublist _
  | hereR => exact List.sublist_append_left _ _
  | there _ ih => exact List.Sublist.cons_cons _ ih
theorem rem_end (La : List Ent) (b : Nat) (o : Obj) : Rem (La ++ [⟨b, true, o⟩]) b o La := by
  induction La with
  | nil => exact Rem.here
  | cons e La ih => exact Rem.there ih
theorem RemS.rem {L Ls Lr : List Ent} (h : RemS L Ls Lr) {b : Nat} {o : Obj} (hs : Ls = [⟨b, true, o⟩]) : Rem L b o Lr := by
  induction h with
  | here => subst hs; exact Rem.here
  | hereEnd => subst hs; exact Rem.here
  | hereR => subst hs; exact rem_end _ _ _
  | there _ ih => exact Rem.there (ih hs)

theorem o_appendGL {t m c ba offa bz : Nat} {v : Value} {os cs : List B3} {Ls Lr : List Ent} {zs : List Value} {x y : Operand} [hs : SliceT P t 26] [he : ElemT P 26 3 bz zs] (hbz : Nat.ble bz 1000 = true) (st : St w0 N a w E L) (hv : GL v os Ls)
    (hx : evE E x = some v) (hy : evE E y = some (.slice (some ⟨ba, offa, none⟩) m c)) (hcm : cs.length = m)
    (hA : RdS w (some ⟨ba, offa, none⟩) cs) (hm : 0 < m) (hlim : os.length + m ≤ 100000000000) (hR : RemS L Ls Lr) (hd : Nat.blt d N = true)
    (h : ∀ blk cp pad a' w', (cS (os ++ cs) ++ pad).length = cp * 3 → St w0 N a' w' ((d, .slice (some ⟨blk, 0, none⟩) (os ++ cs).length cp) :: E) (⟨blk, true, oS (os ++ cs) pad⟩ :: Lr) → K a' w') :
    Oper.wp P ⟨some d, .call { callee := .builtin .append, args := #[x, y], argTypes := #[t, t] }, ty, pos, aft, g⟩ a w K Q := by
  subst hcm
  rcases hv with ⟨rfl, rfl, rfl⟩ | ⟨blk, cp, pad, _, rfl, hLs, hp⟩
  · exact o_appendFp hbz (st.subL hR.sub) hx hy hA hm (by omega) hd h
  · exact o_appendSp hbz st hx hy (hR.rem hLs) hA hp (by omega) hd h
theorem GL.grown {os cs : List B3} {blk cp : Nat} {pad : List Value} (h0 : 0 < cs.length) (hp : (cS (os ++ cs) ++ pad).length = cp * 3) : GL (.slice (some ⟨blk, 0, none⟩) (os ++ cs).length cp) (os ++ cs) [⟨blk, true, oS (os ++ cs) pad⟩] :=
  .inr ⟨blk, cp, pad, by rw [List.length_append]; omega, rfl, rfl, hp⟩
theorem St.perm {L' : List Ent} (st : St w0 N a w E L) (h : L.Perm L') : St w0 N a w E L' := by
  refine ⟨st.env, st.size, st.defers, st.below, fun e he => st.facts e (h.mem_iff.2 he), ?_⟩
  exact (h.pairwise_iff (fun hxy ho => (hxy ho.symm).symm)).1 st.uniq
/-- The first block, at the end. -/
theorem St.insEnd {e : Ent} {Lp : List Ent} (st : St w0 N a w E (e :: Lp)) : St w0 N a w E (Lp ++ [e]) := st.perm (List.perm_append_singleton e Lp).symm
theorem St.ne_of {e1 e2 : Ent} (st : St w0 N a w E L) (ho : e1.own = true) (hs : List.Sublist [e1, e2] L) : e1.b ≠ e2.b := by
  have := st.uniq.sublist hs
  simp only [List.pairwise_cons, List.mem_singleton, forall_eq] at this
  exact this.1 (.inl ho)
/-- The first block, further back. -/
theorem St.ins {e : Ent} (Lp : List Ent) {Lt : List Ent} (st : St w0 N a w E (e :: (Lp ++ Lt))) : St w0 N a w E (Lp ++ e :: Lt) := st.perm List.perm_middle.symm
end

theorem share0 : shareC (some 0) = true := by decide +kernel
def cutG (ss : List S3) (M : Nat) (c : Option Nat) (p : Nat) : S3 := (cutN c (M - 1 - p % M) (rowL ss M (p / M))).getLastD z3
theorem cutG_at (ss : List S3) (M : Nat) (c : Option Nat) (j i : Nat) (hi : i < M) : cutG ss M c (j * M + i) = (cutN c (M - 1 - i) (rowL ss M j)).getLastD z3 := by
  unfold cutG
  rw [Nat.mul_comm j M, Nat.mul_add_mod, Nat.mod_eq_of_lt hi, Nat.mul_add_div (by omega), Nat.div_eq_of_lt hi, Nat.add_zero]
theorem lastR_rev (c : Option Nat) (r : List S3) (M : Nat) : (lastR c r M).reverse = (List.range M).map fun i => (cutN c (M - 1 - i) r).getLastD z3 := by
  refine List.ext_getElem (by simp [lastR]) ?_
  intro i h1 h2
  rw [List.getElem_reverse]
  simp [lastR]
theorem cutB_flat (ss : List S3) (M : Nat) (c : Option Nat) : ∀ j : Nat, cutB ss M c j = (List.range (j * M)).map (cutG ss M c)
  | 0 => by simp [cutB]
  | j + 1 => by
    rw [cutB_succ, cutB_flat ss M c j, Nat.add_mul, Nat.one_mul, List.range_add, List.map_append, lastR_rev]
    congr 1
    rw [List.map_map]
    apply List.map_congr_left
    intro i hi
    exact (cutG_at ss M c j i (List.mem_range.1 hi)).symm
def cutCan (m n : Int) (ss : List S3) (c : Option Nat) : Bool := validC m n ss && shareC c
def cutLA (m n : Int) (ss : List S3) (c : Option Nat) : List S3 := cutA ss m.toNat c n.toNat
def cutLB (m n : Int) (ss : List S3) (c : Option Nat) : List S3 := cutB ss m.toNat c n.toNat
/-- The same, with the room of both. -/
def CSh2GC (P : Program) (f : FuncId) (vs : List Value) (w : World) (m n : Int) (ss tt : List S3) : Prop :=
  Calls P f vs.toArray w fun e w' => ∃ b bs cap pad b' bs' cap' pad', e = .returned (if validC m n ss && validC m n tt then .tuple #[vSh m n (some ⟨b, 0, none⟩) bs.length cap, vSh m n (some ⟨b', 0, none⟩) bs'.length cap', .bool true] else .tuple #[vSh0, vSh0, .bool false]) ∧ bs.length ≤ cap ∧ bs'.length ≤ cap' ∧ IsSL bs ss ∧ IsSL bs' tt ∧ Ex w w' [⟨b, true, oS bs pad⟩, ⟨b', true, oS bs' pad'⟩]
set_option maxRecDepth 100000 in
set_option maxHeartbeats 32000000 in
theorem implCut_okC (m n : Int) (bs : List B3) (ss : List S3) (h : IsSL bs ss) (base : Option Addr) (cap : Nat) (hcap : bs.length ≤ cap) (x : Nat) (c : Option Nat) (hx : Is .f32 x c) (hq : cutCan m n ss c = true) (w : World) (hr : RdS w base bs) (hlen : bs.length < 1000000000) :
    CSh2GC Try.prog 89 [vSh m n base bs.length cap, .float .f32 x] w m n (cutLA m n ss c) (cutLB m n ss c) := by
  refine enter Try.func89 rfl rfl rfl rfl ?_
  intro a st
  have hc := fun (w : World) hr => isOn_ok m n bs ss h base cap x 0 c (some 0) hx Is_z w hr hlen
  unfold cutCan at hq
  rw [Bool.and_eq_true] at hq
  obtain ⟨hv, hsh⟩ := hq
  have hon : onC m n ss c (some 0) = true := by unfold onC; rw [hv, hsh, share0]; rfl
  rw [hon] at hc
  obtain ⟨M, K, rfl, rfl, hm0, hm1, hn0, hn1, hl, h36, _⟩ := valid_nums hv
  have hLA : cutLA M K ss c = cutA ss M c K := rfl
  have hLB : cutLB M K ss c = cutB ss M c K := rfl
  rw [hLA, hLB]
  (repeat' (first | (refine o_callV st rfl (hc _ (hr.mono st.below)) rfl ?_; clear st; intro _ _ st)  | refine c_seq ?_  | refine c_region ?_  | refine l_do ?_  | refine l_doG st rfl rfl ?_  | ((first | refine l_skip st rfl rfl rfl rfl ?_); clear st; intro _ st)  | refine l_nil ?_  | refine x_then ?_  | refine x_thenR ?_  | refine x_thenE ?_  | refine x_blkN ?_  | refine x_blkE ?_  | refine wp_ret ?_  | refine wp_skip ?_  | refine wp_block ?_  | refine wp_exit ?_  | refine c_condT st rfl ?_  | refine c_condF st rfl ?_  | ((first | refine o_move st rfl rfl ?_  | refine o_assign st rfl rfl ?_  | refine o_pickT st rfl rfl rfl ?_  | refine o_pickF st rfl rfl rfl ?_); clear st; intro _ st)  | ((first | refine o_alloc st rfl ?_  | refine o_boxA st rfl rfl ?_ ); clear st; intro _ _ _ st)  | ((first | refine o_fieldAddr st rfl rfl ?_  | refine o_loadS st rfl (by repeat constructor) rfl rfl ?_  | refine o_load3 st rfl (by repeat constructor) rfl ?_ ); clear st; intro _ st)  | ((first | refine o_storeS st rfl rfl rfl (by repeat constructor) rfl (by dsimp only [List.set]) ?_  | refine o_storeW st rfl rfl (by repeat constructor) rfl rfl rfl ?_); clear st; intro _ _ st)  | ((first | refine o_build0 st rfl ?_  | refine o_len st rfl rfl ?_  | refine o_add64 st rfl rfl rfl (by omega) (by omega) ?_  | refine o_sub64 st rfl rfl rfl (by omega) (by omega) ?_  | refine o_notT st rfl rfl ?_  | refine o_notF st rfl rfl ?_); clear st; intro _ st)  | ((first | refine o_lss st rfl rfl rfl ?_ ?_  | refine o_gtr st rfl rfl rfl ?_ ?_) <;> clear st <;> intro _ _ st <;> (try (exfalso; omega)))))
  refine c_drawCA (F := (fun _ _ a w' => ∃ (p2 p4 p5 p7 p8 : Nat), St w Try.f89.ntmps a w' [(1, .float .f32 x), (2, .pointer (some ⟨p2, 0, none⟩)), (4, .pointer (some ⟨p4, 0, none⟩)), (5, .pointer (some ⟨p5, 0, none⟩)), (7, .pointer (some ⟨p7, 0, none⟩)), (8, .pointer (some ⟨p8, 0, none⟩))] [⟨p7, true, .cells [.int .i64 M, .int .i64 K, .slice none 0 0].toArray 46 (0, 0)⟩, ⟨p8, true, .cells [.int .i64 M, .int .i64 K, .slice none 0 0].toArray 46 (0, 0)⟩, ⟨p5, true, .cells [.int .i64 0, .int .i64 0, .slice none 0 0].toArray 46 (0, 0)⟩, ⟨p4, true, .cells [.int .i64 0, .int .i64 0, .slice none 0 0].toArray 46 (0, 0)⟩, ⟨p2, true, .cells [.int .i64 M, .int .i64 K, .slice base bs.length cap].toArray 46 (0, 0)⟩])) (last := 13) hm_ (by decide +kernel) (by decide +kernel) st ?_ ?_
  · clear st; intro _ st
    refine d_v 0 st (by repeat constructor) rfl (by decide +kernel) rfl (v_fieldAddr st rfl) ?_; clear st; intro _ st
    refine d_v 1 st (by repeat constructor) rfl (by decide +kernel) rfl (by first | exact v_load3 st rfl (by repeat constructor) | exact v_loadS st rfl (by repeat constructor) rfl) ?_; clear st; intro _ st
    refine d_v 2 st (by repeat constructor) rfl (by decide +kernel) rfl (v_fieldAddr st rfl) ?_; clear st; intro _ st
    refine d_v 3 st (by repeat constructor) rfl (by decide +kernel) rfl (by first | exact v_load3 st rfl (by repeat constructor) | exact v_loadS st rfl (by repeat constructor) rfl) ?_; clear st; intro _ st
    refine d_v 4 st (by repeat constructor) rfl (by decide +kernel) rfl (by first | exact v_build3 st rfl rfl rfl rfl rfl rfl | exact v_build2 st rfl rfl rfl rfl) ?_; clear st; intro _ st
    refine d_v 5 st (by repeat constructor) rfl (by decide +kernel) rfl (v_fieldAddr st rfl) ?_; clear st; intro _ st
    refine d_v 6 st (by repeat constructor) rfl (by decide +kernel) rfl (by first | exact v_load3 st rfl (by repeat constructor) | exact v_loadS st rfl (by repeat constructor) rfl) ?_; clear st; intro _ st
    refine d_v 7 st (by repeat constructor) rfl (by decide +kernel) rfl (v_fieldAddr st rfl) ?_; clear st; intro _ st
    refine d_v 8 st (by repeat constructor) rfl (by decide +kernel) rfl (by first | exact v_load3 st rfl (by repeat constructor) | exact v_loadS st rfl (by repeat constructor) rfl) ?_; clear st; intro _ st
    refine d_v 9 st (by repeat constructor) rfl (by decide +kernel) rfl (by first | exact v_build3 st rfl rfl rfl rfl rfl rfl | exact v_build2 st rfl rfl rfl rfl) ?_; clear st; intro _ st
    refine d_two 10 11 (by decide +kernel) rfl rfl ?_ ?_
    · skip
      refine o_alloc st rfl ?_; clear st; intro _ _ _ st
      refine kh st (by repeat constructor) ?_
      refine d_one 11 (by decide +kernel) rfl ?_
      refine o_alloc st rfl ?_; clear st; intro _ _ _ st
      refine kh st (by repeat constructor) ?_
      refine d_one 12 (by decide +kernel) rfl ?_
      (first | ((first | refine o_storeS st rfl rfl rfl (by repeat constructor) rfl (by dsimp only [List.set]) ?_  | refine o_storeW st rfl rfl (by repeat constructor) rfl rfl rfl ?_); clear st; intro _ _ st))
      refine kh st (by repeat constructor) ?_
      refine d_one 13 (by decide +kernel) rfl ?_
      (first | ((first | refine o_storeS st rfl rfl rfl (by repeat constructor) rfl (by dsimp only [List.set]) ?_  | refine o_storeW st rfl rfl (by repeat constructor) rfl rfl rfl ?_); clear st; intro _ _ st))
      refine k_last ?_
      refine d_done (by decide +kernel) ?_
      refine ⟨rfl, ?_⟩
      have st := St.front 8 st rfl (by repeat constructor)
      have st := St.front 7 st rfl (by repeat constructor)
      exact ⟨_, _, _, _, _, (st.fit (by repeat (first | exact trivial  | refine And.intro rfl ?_))).subL (by repeat (first | exact List.Sublist.refl _  | apply List.Sublist.cons_cons  | apply List.Sublist.cons  | exact List.nil_sublist _))⟩
    · skip
      refine o_alloc st rfl ?_; clear st; intro _ _ _ st
      refine kh st (by repeat constructor) ?_
      refine d_one 10 (by decide +kernel) rfl ?_
      refine o_alloc st rfl ?_; clear st; intro _ _ _ st
      refine kh st (by repeat constructor) ?_
      refine d_one 12 (by decide +kernel) rfl ?_
      (first | ((first | refine o_storeS st rfl rfl rfl (by repeat constructor) rfl (by dsimp only [List.set]) ?_  | refine o_storeW st rfl rfl (by repeat constructor) rfl rfl rfl ?_); clear st; intro _ _ st))
      refine kh st (by repeat constructor) ?_
      refine d_one 13 (by decide +kernel) rfl ?_
      (first | ((first | refine o_storeS st rfl rfl rfl (by repeat constructor) rfl (by dsimp only [List.set]) ?_  | refine o_storeW st rfl rfl (by repeat constructor) rfl rfl rfl ?_); clear st; intro _ _ st))
      refine k_last ?_
      refine d_done (by decide +kernel) ?_
      refine ⟨rfl, ?_⟩
      have st := St.front 8 st rfl (by repeat constructor)
      have st := St.front 7 st rfl (by repeat constructor)
      exact ⟨_, _, _, _, _, (st.fit (by repeat (first | exact trivial  | refine And.intro rfl ?_))).subL (by repeat (first | exact List.Sublist.refl _  | apply List.Sublist.cons_cons  | apply List.Sublist.cons  | exact List.nil_sublist _))⟩
  clear st
  rintro _ _ ⟨p2, p4, p5, p7, p8, st⟩
  (repeat' (first | refine c_seq ?_  | refine c_region ?_  | refine l_do ?_  | refine l_doG st rfl rfl ?_  | ((first | refine l_skip st rfl rfl rfl rfl ?_); clear st; intro _ st)  | refine l_nil ?_  | refine x_then ?_  | refine x_thenR ?_  | refine x_thenE ?_  | refine x_blkN ?_  | refine x_blkE ?_  | refine wp_ret ?_  | refine wp_skip ?_  | refine wp_block ?_  | refine wp_exit ?_  | refine c_condT st rfl ?_  | refine c_condF st rfl ?_  | ((first | refine o_move st rfl rfl ?_  | refine o_assign st rfl rfl ?_  | refine o_pickT st rfl rfl rfl ?_  | refine o_pickF st rfl rfl rfl ?_); clear st; intro _ st)  | ((first | refine o_alloc st rfl ?_  | refine o_boxA st rfl rfl ?_ ); clear st; intro _ _ _ st)  | ((first | refine o_fieldAddr st rfl rfl ?_  | refine o_loadS st rfl (by repeat constructor) rfl rfl ?_  | refine o_load3 st rfl (by repeat constructor) rfl ?_ ); clear st; intro _ st)  | ((first | refine o_storeS st rfl rfl rfl (by repeat constructor) rfl (by dsimp only [List.set]) ?_  | refine o_storeW st rfl rfl (by repeat constructor) rfl rfl rfl ?_); clear st; intro _ _ st)  | ((first | refine o_build0 st rfl ?_  | refine o_len st rfl rfl ?_  | refine o_add64 st rfl rfl rfl (by omega) (by omega) ?_  | refine o_sub64 st rfl rfl rfl (by omega) (by omega) ?_  | refine o_notT st rfl rfl ?_  | refine o_notF st rfl rfl ?_); clear st; intro _ st)  | ((first | refine o_lss st rfl rfl rfl ?_ ?_  | refine o_gtr st rfl rfl rfl ?_ ?_) <;> clear st <;> intro _ _ st <;> (try (exfalso; omega)))))
  refine wp_loop_ghost (fun z a w' => ∃ (j : Nat) (oa ob : List B3) (va vb : Value) (La Lb : List Ent), j ≤ K ∧ z = K - j ∧ IsSL oa (cutA ss M c j) ∧ IsSL ob (cutB ss M c j) ∧ GL va oa La ∧ GL vb ob Lb ∧ St w Try.f89.ntmps a w' [(1, .float .f32 x), (2, .pointer (some ⟨p2, 0, none⟩)), (4, .pointer (some ⟨p4, 0, none⟩)), (5, .pointer (some ⟨p5, 0, none⟩)), (7, .pointer (some ⟨p7, 0, none⟩)), (8, .pointer (some ⟨p8, 0, none⟩)), (29, .int .i64 K), (30, .int .i64 (j : Int))] (⟨p7, true, .cells [.int .i64 M, .int .i64 K, va].toArray 46 (0, 0)⟩ :: ⟨p8, true, .cells [.int .i64 M, .int .i64 K, vb].toArray 46 (0, 0)⟩ :: ⟨p5, true, .cells [.int .i64 0, .int .i64 0, .slice none 0 0].toArray 46 (0, 0)⟩ :: ⟨p4, true, .cells [.int .i64 0, .int .i64 0, .slice none 0 0].toArray 46 (0, 0)⟩ :: ⟨p2, true, .cells [.int .i64 M, .int .i64 K, .slice base bs.length cap].toArray 46 (0, 0)⟩ :: (La ++ Lb))) K ⟨0, [], [], .slice none 0 0, .slice none 0 0, [], [], by omega, by omega, IsSL_nil, IsSL_nil, .inl ⟨rfl, rfl, rfl⟩, .inl ⟨rfl, rfl, rfl⟩, st.fit (by repeat (first | exact trivial  | refine And.intro rfl ?_))⟩ ?_
  clear st
  rintro z a w' ⟨j, oa, ob, va, vb, La, Lb, hj, rfl, hIa, hIb, hGa, hGb, st⟩
  have hjM : j * M ≤ K * M := Nat.mul_le_mul_right _ hj
  rw [Nat.mul_comm K M] at hjM
  have hla := hIa.len
  have hlb := hIb.len
  rw [cutA_length] at hla
  rw [cutB_length] at hlb
  by_cases hlt : j < K
  · have hrl := rowL_length ss M K j hl hlt
    (repeat' (first | (refine o_buildSlice0S st rfl ?_; clear st; intro lb _ _ st)  | (refine o_callOw st rfl (row_ok M K j bs ss h base cap hl hm0 h36 hlt hcap _ (hr.mono st.below)) rfl ?_; clear st; intro rb rs rcap rpad hRI hRp _ _ _ st; have hRl := hRI.len)  | refine c_seq ?_  | refine c_region ?_  | refine l_do ?_  | refine l_doG st rfl rfl ?_  | ((first | refine l_skip st rfl rfl rfl rfl ?_); clear st; intro _ st)  | refine l_nil ?_  | refine x_then ?_  | refine x_thenR ?_  | refine x_thenE ?_  | refine x_blkN ?_  | refine x_blkE ?_  | refine wp_ret ?_  | refine wp_skip ?_  | refine wp_block ?_  | refine wp_exit ?_  | refine c_condT st rfl ?_  | refine c_condF st rfl ?_  | ((first | refine o_move st rfl rfl ?_  | refine o_assign st rfl rfl ?_  | refine o_pickT st rfl rfl rfl ?_  | refine o_pickF st rfl rfl rfl ?_); clear st; intro _ st)  | ((first | refine o_alloc st rfl ?_  | refine o_boxA st rfl rfl ?_ ); clear st; intro _ _ _ st)  | ((first | refine o_fieldAddr st rfl rfl ?_  | refine o_loadS st rfl (by repeat constructor) rfl rfl ?_  | refine o_load3 st rfl (by repeat constructor) rfl ?_ ); clear st; intro _ st)  | ((first | refine o_storeS st rfl rfl rfl (by repeat constructor) rfl (by dsimp only [List.set]) ?_  | refine o_storeW st rfl rfl (by repeat constructor) rfl rfl rfl ?_); clear st; intro _ _ st)  | ((first | refine o_build0 st rfl ?_  | refine o_len st rfl rfl ?_  | refine o_add64 st rfl rfl rfl (by omega) (by omega) ?_  | refine o_sub64 st rfl rfl rfl (by omega) (by omega) ?_  | refine o_notT st rfl rfl ?_  | refine o_notF st rfl rfl ?_); clear st; intro _ st)  | ((first | refine o_lss st rfl rfl rfl ?_ ?_  | refine o_gtr st rfl rfl rfl ?_ ?_) <;> clear st <;> intro _ _ st <;> (try (exfalso; omega)))))
    refine wp_loop_ghost (fun z a w' => ∃ (k rb rcap lb lcap : Nat) (rs ls oa : List B3) (rpad lpad : List Value) (va : Value) (La : List Ent), k ≤ M ∧ z = M - k ∧ IsSL rs (cutN c k (rowL ss M j)) ∧ IsSL ls (lastR c (rowL ss M j) k) ∧ (cS ls ++ lpad).length = lcap * 3 ∧ IsSL oa (cutA ss M c j ++ firstR c (rowL ss M j) k) ∧ GL va oa La ∧ St w Try.f89.ntmps a w' [(1, .float .f32 x), (2, .pointer (some ⟨p2, 0, none⟩)), (4, .pointer (some ⟨p4, 0, none⟩)), (5, .pointer (some ⟨p5, 0, none⟩)), (7, .pointer (some ⟨p7, 0, none⟩)), (8, .pointer (some ⟨p8, 0, none⟩)), (10, .slice (some ⟨lb, 0, none⟩) ls.length lcap), (11, .slice (some ⟨rb, 0, none⟩) rs.length rcap), (29, .int .i64 K), (30, .int .i64 (j : Int))] (⟨rb, true, oS rs rpad⟩ :: ⟨lb, true, oS ls lpad⟩ :: ⟨p7, true, .cells [.int .i64 M, .int .i64 K, va].toArray 46 (0, 0)⟩ :: ⟨p8, true, .cells [.int .i64 M, .int .i64 K, vb].toArray 46 (0, 0)⟩ :: ⟨p5, true, .cells [.int .i64 0, .int .i64 0, .slice none 0 0].toArray 46 (0, 0)⟩ :: ⟨p4, true, .cells [.int .i64 0, .int .i64 0, .slice none 0 0].toArray 46 (0, 0)⟩ :: ⟨p2, true, .cells [.int .i64 M, .int .i64 K, .slice base bs.length cap].toArray 46 (0, 0)⟩ :: (La ++ Lb))) M ⟨0, rb, rcap, lb, 0, rs, [], oa, rpad, [], va, La, by omega, by omega, hRI, IsSL_nil, rfl, by simpa [firstR] using hIa, hGa, st.fit (by repeat (first | exact trivial  | refine And.intro rfl ?_))⟩ ?_
    clear st hIa hGa hla oa va La hRI hRp hRl rs rb rcap rpad lb
    rintro z a w' ⟨k, rb, rcap, lb, lcap, rs, ls, oa, rpad, lpad, va, La, hk, rfl, hRI, hLI, hLp, hIa, hGa, st⟩
    have hRl := hRI.len
    rw [cutN_length, hrl] at hRl
    have hLl := hLI.len
    rw [lastR_length] at hLl
    have hla := hIa.len
    rw [List.length_append, cutA_length, firstR_length] at hla
    by_cases hlt' : k < M
    · have hr0 : 0 < rs.length := by omega
      have hfst := hRI.head hr0
      have hlst := hRI.last hr0
      have hv0 := spotsIn0p rs rpad 0 rs[0] (by simp [hr0])
      have e : ((rs.length : Int) - 1).toNat = rs.length - 1 := by omega
      have hv1 : (cS rs ++ rpad).toArray[0 + ((rs.length : Int) - 1).toNat * 3]? = some (.float .f32 (rs[rs.length - 1]'(by omega)).1) ∧ (cS rs ++ rpad).toArray[0 + ((rs.length : Int) - 1).toNat * 3 + 1]? = some (.float .f32 (rs[rs.length - 1]'(by omega)).2.1) ∧ (cS rs ++ rpad).toArray[0 + ((rs.length : Int) - 1).toNat * 3 + 2]? = some (.float .f32 (rs[rs.length - 1]'(by omega)).2.2) := by
        rw [e]; exact spotsIn0p rs rpad (rs.length - 1) _ (List.getElem?_eq_getElem (by omega))
      (repeat' (first | refine c_seq ?_  | refine c_region ?_  | refine l_do ?_  | refine l_doG st rfl rfl ?_  | ((first | refine l_skip st rfl rfl rfl rfl ?_); clear st; intro _ st)  | refine l_nil ?_  | refine x_then ?_  | refine x_thenR ?_  | refine x_thenE ?_  | refine x_blkN ?_  | refine x_blkE ?_  | refine wp_ret ?_  | refine wp_skip ?_  | refine wp_block ?_  | refine wp_exit ?_  | refine c_condT st rfl ?_  | refine c_condF st rfl ?_  | ((first | refine o_move st rfl rfl ?_  | refine o_assign st rfl rfl ?_  | refine o_pickT st rfl rfl rfl ?_  | refine o_pickF st rfl rfl rfl ?_); clear st; intro _ st)  | ((first | refine o_alloc st rfl ?_  | refine o_boxA st rfl rfl ?_ ); clear st; intro _ _ _ st)  | ((first | refine o_fieldAddr st rfl rfl ?_  | refine o_loadS st rfl (by repeat constructor) rfl rfl ?_  | refine o_load3 st rfl (by repeat constructor) rfl ?_ ); clear st; intro _ st)  | ((first | refine o_storeS st rfl rfl rfl (by repeat constructor) rfl (by dsimp only [List.set]) ?_  | refine o_storeW st rfl rfl (by repeat constructor) rfl rfl rfl ?_); clear st; intro _ _ st)  | ((first | refine o_build0 st rfl ?_  | refine o_len st rfl rfl ?_  | refine o_add64 st rfl rfl rfl (by omega) (by omega) ?_  | refine o_sub64 st rfl rfl rfl (by omega) (by omega) ?_  | refine o_notT st rfl rfl ?_  | refine o_notF st rfl rfl ?_); clear st; intro _ st)  | ((first | refine o_lss st rfl rfl rfl ?_ ?_  | refine o_gtr st rfl rfl rfl ?_ ?_) <;> clear st <;> intro _ _ st <;> (try (exfalso; omega)))))
      refine c_draw (Lh := [⟨rb, true, oS rs rpad⟩, ⟨p7, true, .cells [.int .i64 M, .int .i64 K, va].toArray 46 (0, 0)⟩]) (last := 8) hm_ (by decide +kernel) (by decide +kernel) st ?_; clear st; intro _ st
      refine d_v 0 st (by repeat constructor) rfl (by decide +kernel) rfl (v_fieldAddr st rfl) ?_; clear st; intro _ st
      refine d_v 1 st (by repeat constructor) rfl (by decide +kernel) rfl (by first | exact v_load3 st rfl (by repeat constructor) | exact v_loadS st rfl (by repeat constructor) rfl) ?_; clear st; intro _ st
      refine d_v 2 st (by repeat constructor) rfl (by decide +kernel) rfl (v_move st rfl) ?_; clear st; intro _ st
      refine d_v 3 st (by repeat constructor) rfl (by decide +kernel) rfl (v_indexAddr st rfl rfl (by omega) (by omega)) ?_; clear st; intro _ st
      refine d_v 4 st (by repeat constructor) rfl (by decide +kernel) rfl (v_loadSp st rfl (by repeat constructor) hv0) ?_; clear st; intro _ st
      refine d_one 5 (by decide +kernel) rfl ?_
      refine o_buildSliceS [_] st rfl rfl rfl rfl rfl ?_; clear st; intro _ _ _ st
      refine kh st (by repeat constructor) ?_
      refine d_one 6 (by decide +kernel) rfl ?_
      refine o_appendGL (cs := [rs[0]]) rfl st hGa rfl rfl rfl (RdS.of (st.heap (by repeat constructor)) (spotsIn0 _)) (by decide) (by omega) (by repeat (first | exact RemS.here  | apply RemS.there)) rfl ?_; clear st; intro ab acap apad _ _ hap st
      refine kh st (by repeat constructor) ?_
      refine d_v 7 st (by repeat constructor) rfl (by decide +kernel) rfl (v_fieldAddr st rfl) ?_; clear st; intro _ st
      refine d_one 8 (by decide +kernel) rfl ?_
      (first | ((first | refine o_storeS st rfl rfl rfl (by repeat constructor) rfl (by dsimp only [List.set]) ?_  | refine o_storeW st rfl rfl (by repeat constructor) rfl rfl rfl ?_); clear st; intro _ _ st))
      refine k_last ?_
      refine d_done (by decide +kernel) ?_
      have st := St.ins [_, _, _, _, _, _, _, _] st
      (repeat' (first | (refine o_indexAddr st rfl rfl (by omega) (by omega) rfl ?_; clear st; intro _ st)  | (refine o_loadSp st rfl (by repeat constructor) hv1 rfl ?_; clear st; intro _ st)  | (refine o_buildSliceS [_] st rfl rfl rfl rfl rfl ?_; clear st; intro _ _ _ st)  | (refine o_append1 rfl st rfl rfl (by repeat constructor) (by repeat constructor) hLp (by omega) rfl ?_; clear st; intro lb2 lcap2 lpad2 _ _ hlp2 st)  | (refine o_callOw st rfl (nextSpots_ok rs _ hRI _ rcap x c hx _ (RdS.of (st.heap (by repeat constructor)) (spotsIn0p _ _)) (by omega)) rfl ?_; clear st; intro nb ns ncap npad hNI hNp _ _ _ st)  | refine c_seq ?_  | refine c_region ?_  | refine l_do ?_  | refine l_doG st rfl rfl ?_  | ((first | refine l_skip st rfl rfl rfl rfl ?_); clear st; intro _ st)  | refine l_nil ?_  | refine x_then ?_  | refine x_thenR ?_  | refine x_thenE ?_  | refine x_blkN ?_  | refine x_blkE ?_  | refine wp_ret ?_  | refine wp_skip ?_  | refine wp_block ?_  | refine wp_exit ?_  | refine c_condT st rfl ?_  | refine c_condF st rfl ?_  | ((first | refine o_move st rfl rfl ?_  | refine o_assign st rfl rfl ?_  | refine o_pickT st rfl rfl rfl ?_  | refine o_pickF st rfl rfl rfl ?_); clear st; intro _ st)  | ((first | refine o_alloc st rfl ?_  | refine o_boxA st rfl rfl ?_ ); clear st; intro _ _ _ st)  | ((first | refine o_fieldAddr st rfl rfl ?_  | refine o_loadS st rfl (by repeat constructor) rfl rfl ?_  | refine o_load3 st rfl (by repeat constructor) rfl ?_ ); clear st; intro _ st)  | ((first | refine o_storeS st rfl rfl rfl (by repeat constructor) rfl (by dsimp only [List.set]) ?_  | refine o_storeW st rfl rfl (by repeat constructor) rfl rfl rfl ?_); clear st; intro _ _ st)  | ((first | refine o_build0 st rfl ?_  | refine o_len st rfl rfl ?_  | refine o_add64 st rfl rfl rfl (by omega) (by omega) ?_  | refine o_sub64 st rfl rfl rfl (by omega) (by omega) ?_  | refine o_notT st rfl rfl ?_  | refine o_notF st rfl rfl ?_); clear st; intro _ st)  | ((first | refine o_lss st rfl rfl rfl ?_ ?_  | refine o_gtr st rfl rfl rfl ?_ ?_) <;> clear st <;> intro _ _ st <;> (try (exfalso; omega)))))
      refine ⟨M - (k + 1), by omega, k + 1, nb, ncap, lb2, lcap2, ns, ls ++ [rs[rs.length - 1]'(by omega)], oa ++ [rs[0]], npad, lpad2, _, [⟨ab, true, oS (oa ++ [rs[0]]) apad⟩], by omega, rfl, (by rw [cutN_succ]; exact hNI), (by rw [lastR_succ]; exact hLI.append (IsSL_one hlst)), hlp2, (by rw [firstR_succ, ← List.append_assoc]; exact hIa.append (IsSL_one hfst)), GL.grown (by simp) hap, (st.fit (by repeat (first | exact trivial  | refine And.intro rfl ?_))).subL (by repeat (first | exact List.Sublist.refl _  | apply List.Sublist.cons_cons  | apply List.Sublist.cons  | exact List.nil_sublist _))⟩
    · have hkM : k = M := by omega
      subst hkM
      (repeat' (first | (refine o_callU st rfl (reverse_ok ls lb lcap lpad _ (st.heap (by repeat constructor)) (by omega) (by omega)) (by repeat constructor) rfl ?_; clear st; intro _ _ st)  | (refine o_appendGL (cs := ls.reverse) rfl st hGb rfl rfl (by simp) (RdS.of (st.heap (by repeat constructor)) (spotsIn0p _ _)) (by omega) (by omega) (by repeat (first | exact RemS.hereR  | apply RemS.there)) rfl ?_; clear st; intro bb bcap bpad _ _ hbp st)  | refine c_seq ?_  | refine c_region ?_  | refine l_do ?_  | refine l_doG st rfl rfl ?_  | ((first | refine l_skip st rfl rfl rfl rfl ?_); clear st; intro _ st)  | refine l_nil ?_  | refine x_then ?_  | refine x_thenR ?_  | refine x_thenE ?_  | refine x_blkN ?_  | refine x_blkE ?_  | refine wp_ret ?_  | refine wp_skip ?_  | refine wp_block ?_  | refine wp_exit ?_  | refine c_condT st rfl ?_  | refine c_condF st rfl ?_  | ((first | refine o_move st rfl rfl ?_  | refine o_assign st rfl rfl ?_  | refine o_pickT st rfl rfl rfl ?_  | refine o_pickF st rfl rfl rfl ?_); clear st; intro _ st)  | ((first | refine o_alloc st rfl ?_  | refine o_boxA st rfl rfl ?_ ); clear st; intro _ _ _ st)  | ((first | refine o_fieldAddr st rfl rfl ?_  | refine o_loadS st rfl (by repeat constructor) rfl rfl ?_  | refine o_load3 st rfl (by repeat constructor) rfl ?_ ); clear st; intro _ st)  | ((first | refine o_storeS st rfl rfl rfl (by repeat constructor) rfl (by dsimp only [List.set]) ?_  | refine o_storeW st rfl rfl (by repeat constructor) rfl rfl rfl ?_); clear st; intro _ _ st)  | ((first | refine o_build0 st rfl ?_  | refine o_len st rfl rfl ?_  | refine o_add64 st rfl rfl rfl (by omega) (by omega) ?_  | refine o_sub64 st rfl rfl rfl (by omega) (by omega) ?_  | refine o_notT st rfl rfl ?_  | refine o_notF st rfl rfl ?_); clear st; intro _ st)  | ((first | refine o_lss st rfl rfl rfl ?_ ?_  | refine o_gtr st rfl rfl rfl ?_ ?_) <;> clear st <;> intro _ _ st <;> (try (exfalso; omega)))))
      have st := St.insEnd st
      simp only [List.cons_append] at st
      refine ⟨K - (j + 1), by omega, j + 1, oa, ob ++ ls.reverse, va, _, La, [⟨bb, true, oS (ob ++ ls.reverse) bpad⟩], by omega, rfl, (by rw [cutA_succ]; exact hIa), (by rw [cutB_succ]; exact hIb.append hLI.rev), hGa, GL.grown (by simp; omega) hbp, (st.fit (by repeat (first | exact trivial  | refine And.intro rfl ?_))).subL (by repeat (first | exact List.Sublist.refl _  | apply List.Sublist.cons_cons  | apply List.Sublist.cons  | exact List.nil_sublist _))⟩
  · have hjK : j = K := by omega
    subst hjK
    have hpos : 0 < j * M := Nat.mul_pos (by omega) (by omega)
    rcases hGa with ⟨_, rfl, _⟩ | ⟨ab, acap, apad, _, rfl, rfl, hap⟩
    · simp at hla; omega
    rcases hGb with ⟨_, rfl, _⟩ | ⟨bb, bcap, bpad, _, rfl, rfl, hbp⟩
    · simp at hlb; omega
    simp only [List.cons_append, List.nil_append] at st
    have g1 := fun (w : World) base cap hr => implValid_ok M j oa _ hIa base cap w hr (by omega)
    have g2 := fun (w : World) base cap hr => implValid_ok M j ob _ hIb base cap w hr (by omega)
    generalize hq1 : validC M j (cutA ss M c j) = q1 at g1
    generalize hq2 : validC M j (cutB ss M c j) = q2 at g2
    have hcase : (q1 && q2) = false ∨ (q1 = true ∧ q2 = true) := by cases q1 <;> cases q2 <;> simp
    rcases hcase with hqq | ⟨rfl, rfl⟩
    · cases q1 <;> cases q2 <;> (try (cases hqq; done))
      all_goals
        (repeat' (first | (refine o_callV st rfl (g1 _ _ _ (RdS.of (st.heap (by repeat constructor)) (spotsIn0p _ _))) rfl ?_; clear st; intro _ _ st)  | (refine o_callV st rfl (g2 _ _ _ (RdS.of (st.heap (by repeat constructor)) (spotsIn0p _ _))) rfl ?_; clear st; intro _ _ st)  | refine c_seq ?_  | refine c_region ?_  | refine l_do ?_  | refine l_doG st rfl rfl ?_  | ((first | refine l_skip st rfl rfl rfl rfl ?_); clear st; intro _ st)  | refine l_nil ?_  | refine x_then ?_  | refine x_thenR ?_  | refine x_thenE ?_  | refine x_blkN ?_  | refine x_blkE ?_  | refine wp_ret ?_  | refine wp_skip ?_  | refine wp_block ?_  | refine wp_exit ?_  | refine c_condT st rfl ?_  | refine c_condF st rfl ?_  | ((first | refine o_move st rfl rfl ?_  | refine o_assign st rfl rfl ?_  | refine o_pickT st rfl rfl rfl ?_  | refine o_pickF st rfl rfl rfl ?_); clear st; intro _ st)  | ((first | refine o_alloc st rfl ?_  | refine o_boxA st rfl rfl ?_ ); clear st; intro _ _ _ st)  | ((first | refine o_fieldAddr st rfl rfl ?_  | refine o_loadS st rfl (by repeat constructor) rfl rfl ?_  | refine o_load3 st rfl (by repeat constructor) rfl ?_ ); clear st; intro _ st)  | ((first | refine o_storeS st rfl rfl rfl (by repeat constructor) rfl (by dsimp only [List.set]) ?_  | refine o_storeW st rfl rfl (by repeat constructor) rfl rfl rfl ?_); clear st; intro _ _ st)  | ((first | refine o_build0 st rfl ?_  | refine o_len st rfl rfl ?_  | refine o_add64 st rfl rfl rfl (by omega) (by omega) ?_  | refine o_sub64 st rfl rfl rfl (by omega) (by omega) ?_  | refine o_notT st rfl rfl ?_  | refine o_notF st rfl rfl ?_); clear st; intro _ st)  | ((first | refine o_lss st rfl rfl rfl ?_ ?_  | refine o_gtr st rfl rfl rfl ?_ ?_) <;> clear st <;> intro _ _ st <;> (try (exfalso; omega)))))
        refine post3 st Try.results89 (rd_c st rfl (by repeat constructor) rfl) (rd_c st rfl (by repeat constructor) rfl) (rd_t st rfl) ?_
        have hne := st.ne_of (e1 := ⟨ab, true, oS oa apad⟩) (e2 := ⟨bb, true, oS ob bpad⟩) rfl (by repeat (first | exact List.Sublist.refl _  | apply List.Sublist.cons_cons  | apply List.Sublist.cons  | exact List.nil_sublist _))
        exact ⟨ab, oa, acap, apad, bb, ob, bcap, bpad, (by first | rfl | (rw [hq1, hq2]; rfl)), (by rw [List.length_append, cS_length] at hap; omega), (by rw [List.length_append, cS_length] at hbp; omega), hIa, hIb, st.ex2 (by repeat constructor) (by repeat constructor) hne⟩
    · (repeat' (first | (refine o_callV st rfl (g1 _ _ _ (RdS.of (st.heap (by repeat constructor)) (spotsIn0p _ _))) rfl ?_; clear st; intro _ _ st)  | (refine o_callV st rfl (g2 _ _ _ (RdS.of (st.heap (by repeat constructor)) (spotsIn0p _ _))) rfl ?_; clear st; intro _ _ st)  | refine c_seq ?_  | refine c_region ?_  | refine l_do ?_  | refine l_doG st rfl rfl ?_  | ((first | refine l_skip st rfl rfl rfl rfl ?_); clear st; intro _ st)  | refine l_nil ?_  | refine x_then ?_  | refine x_thenR ?_  | refine x_thenE ?_  | refine x_blkN ?_  | refine x_blkE ?_  | refine wp_ret ?_  | refine wp_skip ?_  | refine wp_block ?_  | refine wp_exit ?_  | refine c_condT st rfl ?_  | refine c_condF st rfl ?_  | ((first | refine o_move st rfl rfl ?_  | refine o_assign st rfl rfl ?_  | refine o_pickT st rfl rfl rfl ?_  | refine o_pickF st rfl rfl rfl ?_); clear st; intro _ st)  | ((first | refine o_alloc st rfl ?_  | refine o_boxA st rfl rfl ?_ ); clear st; intro _ _ _ st)  | ((first | refine o_fieldAddr st rfl rfl ?_  | refine o_loadS st rfl (by repeat constructor) rfl rfl ?_  | refine o_load3 st rfl (by repeat constructor) rfl ?_ ); clear st; intro _ st)  | ((first | refine o_storeS st rfl rfl rfl (by repeat constructor) rfl (by dsimp only [List.set]) ?_  | refine o_storeW st rfl rfl (by repeat constructor) rfl rfl rfl ?_); clear st; intro _ _ st)  | ((first | refine o_build0 st rfl ?_  | refine o_len st rfl rfl ?_  | refine o_add64 st rfl rfl rfl (by omega) (by omega) ?_  | refine o_sub64 st rfl rfl rfl (by omega) (by omega) ?_  | refine o_notT st rfl rfl ?_  | refine o_notF st rfl rfl ?_); clear st; intro _ st)  | ((first | refine o_lss st rfl rfl rfl ?_ ?_  | refine o_gtr st rfl rfl rfl ?_ ?_) <;> clear st <;> intro _ _ st <;> (try (exfalso; omega)))))
      refine c_draw (Lh := [⟨p7, true, .cells [.int .i64 M, .int .i64 j, .slice (some ⟨ab, 0, none⟩) oa.length acap].toArray 46 (0, 0)⟩, ⟨p8, true, .cells [.int .i64 M, .int .i64 j, .slice (some ⟨bb, 0, none⟩) ob.length bcap].toArray 46 (0, 0)⟩]) (last := 4) hm_ (by decide +kernel) (by decide +kernel) st ?_; clear st; intro _ st
      refine d_v 0 st (by repeat constructor) rfl (by decide +kernel) rfl (v_load3 st rfl (by repeat constructor)) ?_; clear st; intro _ st
      refine d_v 1 st (by repeat constructor) rfl (by decide +kernel) rfl (v_load3 st rfl (by repeat constructor)) ?_; clear st; intro _ st
      refine d_one 2 (by decide +kernel) rfl ?_
      (first | ((first | refine o_storeS st rfl rfl rfl (by repeat constructor) rfl (by dsimp only [List.set]) ?_  | refine o_storeW st rfl rfl (by repeat constructor) rfl rfl rfl ?_); clear st; intro _ _ st))
      refine kh st (by repeat constructor) ?_
      refine d_one 3 (by decide +kernel) rfl ?_
      (first | ((first | refine o_storeS st rfl rfl rfl (by repeat constructor) rfl (by dsimp only [List.set]) ?_  | refine o_storeW st rfl rfl (by repeat constructor) rfl rfl rfl ?_); clear st; intro _ _ st))
      refine kh st (by repeat constructor) ?_
      refine d_one 4 (by decide +kernel) rfl ?_
      (first | (refine o_assign st rfl rfl ?_; clear st; intro _ st))
      refine k_last ?_
      refine d_done (by decide +kernel) ?_
      (repeat' (first | refine c_seq ?_  | refine c_region ?_  | refine l_do ?_  | refine l_doG st rfl rfl ?_  | ((first | refine l_skip st rfl rfl rfl rfl ?_); clear st; intro _ st)  | refine l_nil ?_  | refine x_then ?_  | refine x_thenR ?_  | refine x_thenE ?_  | refine x_blkN ?_  | refine x_blkE ?_  | refine wp_ret ?_  | refine wp_skip ?_  | refine wp_block ?_  | refine wp_exit ?_  | refine c_condT st rfl ?_  | refine c_condF st rfl ?_  | ((first | refine o_move st rfl rfl ?_  | refine o_assign st rfl rfl ?_  | refine o_pickT st rfl rfl rfl ?_  | refine o_pickF st rfl rfl rfl ?_); clear st; intro _ st)  | ((first | refine o_alloc st rfl ?_  | refine o_boxA st rfl rfl ?_ ); clear st; intro _ _ _ st)  | ((first | refine o_fieldAddr st rfl rfl ?_  | refine o_loadS st rfl (by repeat constructor) rfl rfl ?_  | refine o_load3 st rfl (by repeat constructor) rfl ?_ ); clear st; intro _ st)  | ((first | refine o_storeS st rfl rfl rfl (by repeat constructor) rfl (by dsimp only [List.set]) ?_  | refine o_storeW st rfl rfl (by repeat constructor) rfl rfl rfl ?_); clear st; intro _ _ st)  | ((first | refine o_build0 st rfl ?_  | refine o_len st rfl rfl ?_  | refine o_add64 st rfl rfl rfl (by omega) (by omega) ?_  | refine o_sub64 st rfl rfl rfl (by omega) (by omega) ?_  | refine o_notT st rfl rfl ?_  | refine o_notF st rfl rfl ?_); clear st; intro _ st)  | ((first | refine o_lss st rfl rfl rfl ?_ ?_  | refine o_gtr st rfl rfl rfl ?_ ?_) <;> clear st <;> intro _ _ st <;> (try (exfalso; omega)))))
      refine post3 st Try.results89 (rd_c st rfl (by repeat constructor) rfl) (rd_c st rfl (by repeat constructor) rfl) (rd_t st rfl) ?_
      have hne := st.ne_of (e1 := ⟨ab, true, oS oa apad⟩) (e2 := ⟨bb, true, oS ob bpad⟩) rfl (by repeat (first | exact List.Sublist.refl _  | apply List.Sublist.cons_cons  | apply List.Sublist.cons  | exact List.nil_sublist _))
      exact ⟨ab, oa, acap, apad, bb, ob, bcap, bpad, (by first | rfl | (rw [hq1, hq2]; rfl)), (by rw [List.length_append, cS_length] at hap; omega), (by rw [List.length_append, cS_length] at hbp; omega), hIa, hIb, st.ex2 (by repeat constructor) (by repeat constructor) hne⟩
end Go.Proofs.Ytefnlalldgbcaaa
