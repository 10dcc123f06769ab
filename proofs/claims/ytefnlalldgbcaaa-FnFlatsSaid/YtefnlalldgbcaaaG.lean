/-
  Contracts: lists of spots, are they finite; crossed spots, given.
-/
import Derived.Test.YtefnlalldgbcaaaF
namespace Go.Proofs.Ytefnlalldgbcaaa
open Go.RowKit
attribute [local irreducible] Code.wp wpList Oper.wp Calls bodyPost Exit.then Exit.inBlock

/-- The spots' classes, one by one. -/
structure IsSL (bs : List B3) (ss : List S3) : Prop where
  len : bs.length = ss.length
  get : ∀ (i : Nat) (b : B3) (s : S3), bs[i]? = some b → ss[i]? = some s → IsS b s

def finL (ss : List S3) : Bool := ss.all finS

theorem take_all {α : Type} (p : α → Bool) (l : List α) (k : Nat) (hk : k < l.length) : (l.take (k + 1)).all p = ((l.take k).all p && p l[k]) := by
  rw [List.take_succ_eq_append_getElem hk, List.all_append]; simp only [List.all_cons, List.all_nil, Bool.and_true]

theorem areSpots1_ok (b : B3) (s : S3) (h : IsS b s) (w : World) : CV Try.prog 179 [vS b] w (.bool (!finS s)) := by
  refine enter Try.func179 rfl rfl rfl rfl ?_
  intro a st
  (repeat' (first | (refine o_callB st rfl (implIsSpot_ok b s h _) rfl ?_ ?_ <;> clear st <;> intro _ _ _ st)  | refine c_seq ?_  | refine c_region ?_  | refine l_do ?_  | refine l_nil ?_  | refine x_then ?_  | refine wp_ret ?_  | (refine o_assign st rfl rfl ?_; clear st; intro _ st)  | ((first | refine o_boxA st rfl rfl ?_ ); clear st; intro _ _ _ st)  | ((first | refine o_load3 st rfl (by repeat constructor) rfl ?_  | refine o_notT st rfl rfl ?_  | refine o_notF st rfl rfl ?_); clear st; intro _ st)))
  all_goals
    refine post1 st Try.results179 (rd_t st rfl) ?_
    exact ⟨by simp [*], st.ex0⟩

set_option maxHeartbeats 4000000 in
theorem indexFuncS_ok (bs : List B3) (ss : List S3) (h : IsSL bs ss) (base : Option Addr) (cap : Nat) (w : World) (hr : RdS w base bs) (hlen : bs.length < 1000000000) :
    CR Try.prog 191 [.slice base bs.length cap, .func (.func 179) #[] #[]] w fun v => ∃ i : Int, v = .int .i64 i ∧ (0 ≤ i ↔ finL ss = false) := by
  refine enter Try.func191 rfl rfl rfl rfl ?_
  intro a st
  have hl := h.len
  (repeat' (first | refine c_seq ?_  | refine c_region ?_  | refine l_do ?_  | refine l_nil ?_  | refine x_then ?_  | refine x_thenR ?_  | refine x_thenE ?_  | refine x_blkN ?_  | refine x_blkR ?_  | refine x_blkE ?_  | refine wp_ret ?_  | refine wp_skip ?_  | refine wp_block ?_  | refine wp_exit ?_  | refine c_condT st rfl ?_  | refine c_condF st rfl ?_  | ((first | refine o_move st rfl rfl ?_  | refine o_assign st rfl rfl ?_  | refine o_len st rfl rfl ?_  | refine o_add64 st rfl rfl rfl (by omega) (by omega) ?_); clear st; intro _ st)  | (refine o_lss st rfl rfl rfl ?_ ?_ <;> clear st <;> intro _ _ st <;> (try (exfalso; omega)))))
  refine wp_loop_ghost (fun n a w' => ∃ k : Nat, k ≤ bs.length ∧ n = bs.length - k ∧ (ss.take k).all finS = true ∧ St w Try.f191.ntmps a w' [(0, .slice base bs.length cap), (1, .func (.func 179) #[] #[]), (7, .int .i64 bs.length), (8, .int .i64 k)] []) bs.length ⟨0, by omega, by omega, by simp, st.fit (by repeat (first | exact trivial  | refine And.intro rfl ?_))⟩ ?_
  clear st
  rintro n a w' ⟨k, hk, rfl, hall, st⟩
  by_cases hlt : k < bs.length
  · have hkc : k < ss.length := by omega
    rcases hr with rfl | ⟨blk, off, cs, t, fr, rfl, hw, hsp⟩
    · simp at hlt
    have hv := hsp k bs[k] (by simp [hlt])
    have hI : IsS bs[k] ss[k] := h.get k _ _ (by simp [hlt]) (by simp [hkc])
    have htk := take_all finS ss k hkc
    (repeat' (first | (refine o_indexAddr st rfl rfl (by omega) (by omega) rfl ?_; clear st; intro _ st)  | (refine o_loadOld st rfl hw hv rfl ?_; clear st; intro _ st)  | (refine o_callFB st rfl rfl (areSpots1_ok _ _ hI _) rfl ?_ ?_ <;> clear st <;> intro _ _ _ st)  | refine c_seq ?_  | refine c_region ?_  | refine l_do ?_  | refine l_nil ?_  | refine x_then ?_  | refine x_thenR ?_  | refine x_thenE ?_  | refine x_blkN ?_  | refine x_blkR ?_  | refine x_blkE ?_  | refine wp_ret ?_  | refine wp_skip ?_  | refine wp_block ?_  | refine wp_exit ?_  | refine c_condT st rfl ?_  | refine c_condF st rfl ?_  | ((first | refine o_move st rfl rfl ?_  | refine o_assign st rfl rfl ?_  | refine o_len st rfl rfl ?_  | refine o_add64 st rfl rfl rfl (by omega) (by omega) ?_); clear st; intro _ st)  | (refine o_lss st rfl rfl rfl ?_ ?_ <;> clear st <;> intro _ _ st <;> (try (exfalso; omega)))))
    · refine post1 st Try.results191 (rd_t st rfl) ?_
      refine ⟨_, rfl, ⟨_, rfl, ?_⟩, st.ex0⟩
      have hn : finS ss[k] = false := by simpa using ‹(!finS ss[k]) = true›
      refine ⟨fun _ => ?_, fun _ => by omega⟩
      unfold finL
      rw [List.all_eq_false]
      exact ⟨ss[k], List.getElem_mem hkc, by simp [hn]⟩
    · have hn : finS ss[k] = true := by simpa using ‹(!finS ss[k]) = false›
      exact ⟨bs.length - (k + 1), by omega, k + 1, by omega, rfl, by rw [htk, hall, hn]; rfl, st.fit (by repeat (first | exact trivial  | refine And.intro rfl ?_))⟩
  · have hk' : k = bs.length := by omega
    (repeat' (first | refine c_seq ?_  | refine c_region ?_  | refine l_do ?_  | refine l_nil ?_  | refine x_then ?_  | refine x_thenR ?_  | refine x_thenE ?_  | refine x_blkN ?_  | refine x_blkR ?_  | refine x_blkE ?_  | refine wp_ret ?_  | refine wp_skip ?_  | refine wp_block ?_  | refine wp_exit ?_  | refine c_condT st rfl ?_  | refine c_condF st rfl ?_  | ((first | refine o_move st rfl rfl ?_  | refine o_assign st rfl rfl ?_  | refine o_len st rfl rfl ?_  | refine o_add64 st rfl rfl rfl (by omega) (by omega) ?_); clear st; intro _ st)  | (refine o_lss st rfl rfl rfl ?_ ?_ <;> clear st <;> intro _ _ st <;> (try (exfalso; omega)))))
    refine post1 st Try.results191 (rd_t st rfl) ?_
    refine ⟨_, rfl, ⟨_, rfl, ?_⟩, st.ex0⟩
    have : finL ss = true := by unfold finL; rw [← hall, hk', hl, List.take_length]
    simp [this]

theorem containsFuncS_ok (bs : List B3) (ss : List S3) (h : IsSL bs ss) (base : Option Addr) (cap : Nat) (w : World) (hr : RdS w base bs) (hlen : bs.length < 1000000000) :
    CV Try.prog 178 [.slice base bs.length cap, .func (.func 179) #[] #[]] w (.bool (!finL ss)) := by
  refine enter Try.func178 rfl rfl rfl rfl ?_
  intro a st
  (repeat' (first | (refine o_callR st rfl (indexFuncS_ok bs ss h base cap _ (hr.mono st.below) hlen) rfl ?_; clear st; rintro _ ⟨i, rfl, hi⟩ _ _ st)  | refine c_seq ?_  | refine c_region ?_  | refine l_do ?_  | refine l_nil ?_  | refine x_then ?_  | refine wp_ret ?_  | ((first | refine o_move st rfl rfl ?_  | refine o_assign st rfl rfl ?_); clear st; intro _ st)  | (refine o_geq st rfl rfl rfl ?_ ?_ <;> clear st <;> intro _ _ st <;> (try (exfalso; omega)))))
  all_goals
    refine post1 st Try.results178 (rd_t st rfl) ?_
    refine ⟨?_, st.ex0⟩
  · rw [hi.1 ‹_›]; rfl
  · have : ¬ 0 ≤ i := by omega
    rw [hi] at this
    have h2 : finL ss = true := by simpa using this
    rw [h2]; rfl

theorem areSpots_ok (bs : List B3) (ss : List S3) (h : IsSL bs ss) (base : Option Addr) (cap : Nat) (w : World) (hr : RdS w base bs) (hlen : bs.length < 1000000000) :
    CV Try.prog 110 [.slice base bs.length cap] w (.bool (finL ss)) := by
  refine enter Try.func110 rfl rfl rfl rfl ?_
  intro a st
  (repeat' (first | (refine o_callB st rfl (containsFuncS_ok bs ss h base cap _ (hr.mono st.below) hlen) rfl ?_ ?_ <;> clear st <;> intro _ _ _ st)  | refine c_seq ?_  | refine c_region ?_  | refine l_do ?_  | refine l_nil ?_  | refine x_then ?_  | refine wp_ret ?_  | ((first | refine o_move st rfl rfl ?_  | refine o_assign st rfl rfl ?_  | refine o_notT st rfl rfl ?_  | refine o_notF st rfl rfl ?_); clear st; intro _ st)))
  all_goals
    refine post1 st Try.results110 (rd_t st rfl) ?_
    exact ⟨by simp_all, st.ex0⟩

section
variable {P : Program} {w0 w : World} {N : Nat} {a : Act} {E : List (Nat × Value)} {L Lh : List Ent} {K : Act → World → Prop} {Q : Exit → Act → World → Prop}
variable {d : Nat} {ty : TypeId} {pos : String} {aft : Array Edge} {g : Option (Nat × Bool)}

/-- 'buildSlice' of spots, all given in order. -/
theorem fillS (z : List Value) : ∀ (bs : List B3) (pre : List Value) (n : Nat), n * 3 = pre.length → ∀ zs : List Value, zs.length = bs.length * 3 →
    Instr.fill (fun i => some (i * 3, 3)) (pre ++ zs).toArray (((bs.map vS).zipIdx n).map fun p => (p.2, p.1)) = some (pre ++ cS bs).toArray
  | [], pre, n, _, zs, hz => by
    have : zs = [] := List.eq_nil_of_length_eq_zero (by simpa using hz)
    subst this
    simp [Instr.fill, cS]
  | b :: bs, pre, n, hn, zs, hz => by
    obtain ⟨z0, z1, z2, zs, rfl⟩ : ∃ z0 z1 z2 zs', zs = z0 :: z1 :: z2 :: zs' := by
      match zs, hz with
      | z0 :: z1 :: z2 :: zs', _ => exact ⟨_, _, _, _, rfl⟩
      | [], h => simp at h
      | [_], h => simp at h; omega
      | [_, _], h => simp at h; omega
    have ih := fillS z bs (pre ++ [Value.float .f32 b.1, Value.float .f32 b.2.1, Value.float .f32 b.2.2]) (n + 1) (by simp; omega) zs (by simp at hz; omega)
    have hv : (vS b).cells = #[.float .f32 b.1, .float .f32 b.2.1, .float .f32 b.2.2] := rfl
    simp only [List.map_cons, List.zipIdx_cons, Instr.fill, hv]
    have hc : ((#[Value.float .f32 b.1, .float .f32 b.2.1, .float .f32 b.2.2] : Array Value).size ≠ 3 || decide (n * 3 + (#[Value.float .f32 b.1, .float .f32 b.2.1, .float .f32 b.2.2] : Array Value).size > (pre ++ z0 :: z1 :: z2 :: zs).toArray.size)) = false := by simp; omega
    rw [if_neg (by simpa using hc)]
    have hset : (Array.zipIdx #[Value.float .f32 b.1, .float .f32 b.2.1, .float .f32 b.2.2]).foldl (fun cs (x : Value × Nat) => cs.setIfInBounds (n * 3 + x.2) x.1) (pre ++ z0 :: z1 :: z2 :: zs).toArray = ((pre ++ [Value.float .f32 b.1, Value.float .f32 b.2.1, Value.float .f32 b.2.2]) ++ zs).toArray := by
      rw [hn]
      simp [Array.zipIdx, List.set_append_right]
    simp only [hset]
    simpa [cS] using ih

theorem o_buildSliceS {t e n bz : Nat} {zs : List Value} {parts : List (Nat × Operand)} (bs : List B3) [hs : SliceT P t e] [he : ElemT P e 3 bz zs] (st : St w0 N a w E L)
    (hp : parts.map (·.1) = List.range n) (ha : evs E (parts.map (·.2)) = some (bs.map vS)) (hn : Nat.ble n 1000 = true) (hn0 : Nat.blt 0 n = true) (hd : Nat.blt d N = true)
    (h : ∀ b a' w', St w0 N a' w' ((d, .slice (some ⟨b, 0, none⟩) n n) :: E) (⟨b, true, .cells (cS bs).toArray e (0, 0)⟩ :: L) → K a' w') : Oper.wp P ⟨some d, .buildSlice t n parts.toArray, ty, pos, aft, g⟩ a w K Q := by
  obtain ⟨i', z', hi, hz, hsz, _, hzc, _, _⟩ := he.info
  have hn' : n ≤ 1000 := Nat.le_of_ble_eq_true hn
  have hn0' : 0 < n := by simpa [Nat.blt_eq] using hn0
  have hmap := evs_map st ha
  have hl : bs.length = n := by
    have h1 := congrArg List.length hmap
    have h2 := congrArg List.length hp
    simp at h1 h2
    omega
  have hparts : (parts.map fun p => (p.1, a.eval p.2)) = ((bs.map vS).zipIdx 0).map fun p => (p.2, p.1) := by
    apply List.ext_getElem?
    intro j
    have hm : (parts.map fun p => a.eval p.2) = bs.map vS := by rw [← hmap]; simp
    have e1 : (parts.map (·.1))[j]? = (List.range n)[j]? := by rw [hp]
    have e2 : (parts.map fun p => a.eval p.2)[j]? = (bs.map vS)[j]? := by rw [hm]
    simp only [List.getElem?_map, List.getElem?_zipIdx] at e1 e2 ⊢
    cases hpj : parts[j]? with
    | none =>
      rw [hpj] at e2
      cases hbj : bs[j]? with
      | none => simp
      | some b => rw [hbj] at e2; simp at e2
    | some p =>
      rw [hpj] at e1 e2
      simp only [Option.map_some] at e1 e2
      have hj : j < n := by
        have := (List.getElem?_eq_some_iff.1 hpj).1
        have h2 := congrArg List.length hp
        simp at h2
        omega
      rw [List.getElem?_range hj] at e1
      cases e1
      simp [← e2]
  have hfill := fillS [] bs [] 0 rfl ((Array.range (n * 3)).map fun x => z'.cells[x % z'.cells.size]!).toList (by simp [hl])
  refine o_val (v := .slice (some ⟨w.heap.size, 0, none⟩) n n) (w' := w.alloc (.cells (cS bs).toArray e)) ?_ (h _ _ _ ((st.alloc _).put d hd _))
  have hzr : (zeroValue e).run P w = .ok z' w := by simp [zeroValue, typeInfo, hi, hz]
  simp only [List.nil_append, Array.toArray_toList] at hfill
  simp only [execOp, List.map_toArray, hparts, Instr.buildSlice, Sem.run_bind, run_underlying hs.u, Result.andThen_ok, sizeOf, typeInfo, run_program, hi, Sem.run_pure, hsz]
  rw [if_neg (by omega), if_neg (by omega)]
  simp only [Sem.run_pure, Sem.run_bind, Result.andThen_ok, hzr, hfill]
  simp [newRow]
end

theorem IsSL2 {b b' : B3} {s s' : S3} (h : IsS b s) (h' : IsS b' s') : IsSL [b, b'] [s, s'] := ⟨rfl, fun i x y hx hy => by
  match i with
  | 0 => simp at hx hy; subst hx; subst hy; exact h
  | 1 => simp at hx hy; subst hx; subst hy; exact h'
  | i + 2 => simp at hx⟩

set_option maxHeartbeats 4000000 in
theorem implCross_ok (b b' : B3) (s s' : S3) (h : IsS b s) (h' : IsS b' s') (w : World) : CSB Try.prog 41 [vS b, vS b'] w (bif finS s && finS s' then giveS (crossC s s') else z3) (finS s && finS s' && finS (crossC s s')) := by
  refine enter Try.func41 rfl rfl rfl rfl ?_
  intro a st
  (repeat' (first | (refine o_buildSliceS [b, b'] st rfl rfl rfl rfl rfl ?_; clear st; intro _ _ _ st)  | (refine o_callB st rfl (areSpots_ok [b, b'] [s, s'] (IsSL2 h h') _ 2 _ (RdS.of (st.heap (by repeat constructor)) (spotsIn0 _)) (by simp)) rfl ?_ ?_ <;> clear st <;> intro _ _ _ st)  | (refine o_callS st rfl (crossed_ok b b' s s' h h' _) rfl ?_; clear st; intro _ _ _ _ _ _ _ _ st)  | (refine o_callSB st rfl (ifSpot_ok (_, _, _) _ (IsS.mk' (by assumption) (by assumption) (by assumption)) _) rfl ?_; clear st; intro _ _ _ _ _ _ _ _ st)  | refine c_seq ?_  | refine c_region ?_  | refine l_do ?_  | refine l_nil ?_  | refine x_then ?_  | refine x_thenR ?_  | refine wp_ret ?_  | refine wp_skip ?_  | refine c_condT st rfl ?_  | refine c_condF st rfl ?_  | (refine o_assign st rfl rfl ?_; clear st; intro _ st)  | ((first | refine o_alloc st rfl ?_  | refine o_boxA st rfl rfl ?_ ); clear st; intro _ _ _ st)  | ((first | refine o_load3 st rfl (by repeat constructor) rfl ?_ ); clear st; intro _ st)  | ((first | refine o_storeW st rfl rfl (by repeat constructor) rfl rfl rfl ?_); clear st; intro _ _ st)  | ((first | refine o_build0 st rfl ?_  | refine o_extract st rfl rfl rfl ?_  | refine o_notT st rfl rfl ?_  | refine o_notF st rfl rfl ?_); clear st; intro _ st)))
  · have h1 : (finS s && finS s') = true := by simpa [finL] using ‹finL [s, s'] = true›
    refine post2 st Try.results41 (rd_c st rfl (by repeat constructor) rfl) (rd_t st rfl) ?_
    refine ⟨_, rfl, ⟨(_, _, _), by rw [h1]; rfl, ?_⟩, st.ex0⟩
    rw [h1]
    exact IsS.mk' (by assumption) (by assumption) (by assumption)
  · have h1 : (finS s && finS s') = false := by
      have : finL [s, s'] = false := by assumption
      rw [← this]; simp [finL]
    refine post2 st Try.results41 (rd_c st rfl (by repeat constructor) rfl) (rd_t st rfl) ?_
    exact ⟨_, rfl, ⟨(0, 0, 0), by rw [h1]; rfl, by rw [h1]; exact IsS_z⟩, st.ex0⟩
end Go.Proofs.Ytefnlalldgbcaaa
