/-
  FnLengths: tables of lengths, times along a curve, lengths of many curves.
-/
import Derived.Test.YtonbcbhnnflohaaWa
namespace Go.Proofs.Ytonbcbhnnflohaa
open Go.RowKit

section
variable {P : Program} {w0 w : World} {N : Nat} {a : Act} {E : List (Nat × Value)} {L Lh : List Ent} {K : Act → World → Prop} {Q : Exit → Act → World → Prop}
variable {d : Nat} {ty : TypeId} {pos : String} {aft : Array Edge} {g : Option (Nat × Bool)}
/-- A list of two structs of two cells each. -/
theorem o_buildSlice22 {t e bz : Nat} {z0 z1 p q p' q' : Value} {x y : Operand} [hs : SliceT P t e] [he : ElemT P e 2 bz [z0, z1]] (st : St w0 N a w E L)
    (hx : evE E x = some (.agg [p, q].toArray)) (hy : evE E y = some (.agg [p', q'].toArray)) (hd : Nat.blt d N = true)
    (h : ∀ b a' w', St w0 N a' w' ((d, .slice (some ⟨b, 0, none⟩) 2 2) :: E) (⟨b, true, .cells [p, q, p', q'].toArray e (0, 0)⟩ :: L) → K a' w') : Oper.wp P ⟨some d, .buildSlice t 2 #[(0, x), (1, y)], ty, pos, aft, g⟩ a w K Q := by
  obtain ⟨i', z', hi, hz, hsz, _, hzc, _, _⟩ := he.info
  refine o_val (v := .slice (some ⟨w.heap.size, 0, none⟩) 2 2) (w' := w.alloc (.cells [p, q, p', q'].toArray e)) ?_ (h _ _ _ ((st.alloc _).put d hd _))
  have hzr : (zeroValue e).run P w = .ok z' w := by simp [zeroValue, typeInfo, hi, hz]
  have hzs : z'.cells = #[z0, z1] := hzc
  have hz4 : (Array.range 4).map (fun x => (#[z0, z1] : Array Value)[x % 2]!) = #[z0, z1, z0, z1] := by
    apply Array.ext
    · simp
    · intro i h1 h2
      have h4 : i < 4 := by simpa using h2
      match i, h4 with
      | 0, _ => simp
      | 1, _ => simp
      | 2, _ => simp
      | 3, _ => simp
  have hfill : Instr.fill (fun i => some (i * 2, 2)) #[z0, z1, z0, z1] [(0, Value.agg [p, q].toArray), (1, Value.agg [p', q'].toArray)] = some [p, q, p', q'].toArray := by
    simp [Instr.fill, Value.cells, Array.zipIdx]
  simp only [execOp, List.map_toArray, List.map_cons, List.map_nil, evE_eval st hx, evE_eval st hy, Instr.buildSlice, Sem.run_bind, run_underlying hs.u, Result.andThen_ok, sizeOf, typeInfo, run_program, hi, Sem.run_pure, hsz]
  rw [if_neg (by decide), if_neg (by decide)]
  simp only [Sem.run_pure, Sem.run_bind, Result.andThen_ok, hzr, hzs, show (#[z0, z1] : Array Value).size = 2 from rfl, show 2 * 2 = 4 from rfl, hz4, hfill]
  simp [newRow]
end
/-- A time along a curve: its place in the table, and the numbers on the way. -/
structure TmD where
  k : Nat
  l : Nat
  d : Nat
  u : Nat
  q : Nat
  a : Nat
  t : Nat
structure TmOk (s : Nat → Nat) (n sh : Nat) (D : TmD) : Prop where
  tm : Tm sh
  k1 : 1 ≤ D.k
  kn : D.k ≤ n
  l : fop .mul .f32 (some sh) (some (s n)) = some D.l
  il : Is .f32 D.l (some D.l)
  lo : ∀ j, 1 ≤ j → j < D.k → fgeB .f32 (some (s j)) (some D.l) = false
  hi : fgeB .f32 (some (s D.k)) (some D.l) = true
  d : fop .sub .f32 (some (s D.k)) (some (s (D.k - 1))) = some D.d
  dn : feqB .f32 (some D.d) (some 0) = false
  u : fop .sub .f32 (some D.l) (some (s (D.k - 1))) = some D.u
  q : fop .quo .f32 (some D.u) (some D.d) = some D.q
  a : fop .add .f32 (some (floatOfInt .f32 ((D.k : Int) - 1))) (some D.q) = some D.a
  t : fop .quo .f32 (some D.a) (some (floatOfInt .f32 (n : Int))) = some D.t
  gd : Gd D.t
/-- The table. -/
def tabL (s : Nat → Nat) (n : Nat) : List Nat := (List.range (n + 1)).map s
theorem tabL_len (s : Nat → Nat) (n : Nat) : (tabL s n).length = n + 1 := by simp [tabL]
theorem tabL_get (s : Nat → Nat) (n k : Nat) (h : k < (tabL s n).length) : (tabL s n)[k] = s k := by simp [tabL]
theorem tabL_succ (s : Nat → Nat) (n : Nat) : (tabL s n).map vF ++ [vF (s (n + 1))] = (tabL s (n + 1)).map vF := by
  unfold tabL
  rw [List.range_succ (n := n + 1)]
  simp
attribute [local irreducible] Code.wp wpList Oper.wp Calls bodyPost Exit.then Exit.inBlock fop fltB fgtB feqB fleB fgeB floatOfInt floatToFloatBits longW

theorem indexFuncV_ok (f : FuncId) [FnT Try.prog f] (vs : List Value) (hc : ∀ v ∈ vs, ∀ w, CV Try.prog f [v] w (.bool false)) (base : Option Addr) (cap : Nat) (hl : vs.length ≤ 1000000) (w : World) (hr : RdV w base vs) :
    CV Try.prog 133 [.slice base vs.length cap, .func (.func f) #[] #[]] w (.int .i64 (-1)) := by
  refine enter Try.func133 rfl rfl rfl rfl ?_
  intro a st
  (repeat' (first | refine c_seq ?_  | refine c_region ?_  | refine l_do ?_  | refine l_nil ?_  | refine x_then ?_  | refine x_thenE ?_  | refine x_blkN ?_  | refine x_blkE ?_  | refine wp_ret ?_  | refine wp_skip ?_  | refine wp_block ?_  | refine wp_exit ?_  | refine c_condT st rfl ?_  | refine c_condF st rfl ?_  | ((first | refine o_move st rfl rfl ?_  | refine o_assign st rfl rfl ?_  | refine o_loadS st rfl (by repeat constructor) rfl rfl ?_  | refine o_len st rfl rfl ?_  | refine o_add64 st rfl rfl rfl (by omega) (by omega) ?_); clear st; intro _ st)  | (refine o_lss st rfl rfl rfl ?_ ?_ <;> clear st <;> intro _ _ st <;> (try (exfalso; omega)))))
  refine wp_loop_ghost (fun n a w' => ∃ k : Nat, k ≤ vs.length ∧ n = vs.length - k ∧ St w Try.f133.ntmps a w' [(0, .slice base vs.length cap), (1, .func (.func f) #[] #[]), (7, .int .i64 vs.length), (8, .int .i64 k)] []) vs.length ⟨0, by omega, by omega, (st.fit (by repeat (first | exact trivial  | refine And.intro rfl ?_))).subL (by repeat (first | exact List.Sublist.refl _  | apply List.Sublist.cons_cons  | apply List.Sublist.cons  | exact List.nil_sublist _))⟩ ?_
  clear st
  rintro n a w' ⟨k, hk, rfl, st⟩
  by_cases hlt : k < vs.length
  · obtain ⟨blk, off, arr, t, fr, rfl, hw, h3⟩ := hr.get (by intro h; rw [h] at hlt; simp at hlt)
    have st := st.addOld hw
    have hv := h3 k hlt
    have e1 : off + k = off + ((k : Nat) : Int).toNat * 1 := by simp
    rw [e1] at hv
    have c1 := hc vs[k] (List.getElem_mem hlt)
    (repeat' (first | (refine o_indexAddr st rfl rfl (by omega) (by omega) rfl ?_; clear st; intro _ st)  | (refine o_loadS st rfl (by repeat constructor) hv rfl ?_; clear st; intro _ st)  | (refine o_callF st rfl rfl (c1 _) rfl ?_; clear st; intro _ _ st)  | refine c_seq ?_  | refine c_region ?_  | refine l_do ?_  | refine l_nil ?_  | refine x_then ?_  | refine x_thenE ?_  | refine x_blkN ?_  | refine x_blkE ?_  | refine wp_ret ?_  | refine wp_skip ?_  | refine wp_block ?_  | refine wp_exit ?_  | refine c_condT st rfl ?_  | refine c_condF st rfl ?_  | ((first | refine o_move st rfl rfl ?_  | refine o_assign st rfl rfl ?_  | refine o_loadS st rfl (by repeat constructor) rfl rfl ?_  | refine o_len st rfl rfl ?_  | refine o_add64 st rfl rfl rfl (by omega) (by omega) ?_); clear st; intro _ st)  | (refine o_lss st rfl rfl rfl ?_ ?_ <;> clear st <;> intro _ _ st <;> (try (exfalso; omega)))))
    exact ⟨vs.length - (k + 1), by omega, k + 1, by omega, rfl, (st.fit (by repeat (first | exact trivial  | refine And.intro rfl ?_))).subL (by repeat (first | exact List.Sublist.refl _  | apply List.Sublist.cons_cons  | apply List.Sublist.cons  | exact List.nil_sublist _))⟩
  · obtain rfl : k = vs.length := by omega
    (repeat' (first | refine c_seq ?_  | refine c_region ?_  | refine l_do ?_  | refine l_nil ?_  | refine x_then ?_  | refine x_thenE ?_  | refine x_blkN ?_  | refine x_blkE ?_  | refine wp_ret ?_  | refine wp_skip ?_  | refine wp_block ?_  | refine wp_exit ?_  | refine c_condT st rfl ?_  | refine c_condF st rfl ?_  | ((first | refine o_move st rfl rfl ?_  | refine o_assign st rfl rfl ?_  | refine o_loadS st rfl (by repeat constructor) rfl rfl ?_  | refine o_len st rfl rfl ?_  | refine o_add64 st rfl rfl rfl (by omega) (by omega) ?_); clear st; intro _ st)  | (refine o_lss st rfl rfl rfl ?_ ?_ <;> clear st <;> intro _ _ st <;> (try (exfalso; omega)))))
    refine post1 st Try.results133 (rd_t st rfl) ?_
    exact ⟨rfl, st.ex0⟩
theorem containsFuncV_ok (f : FuncId) [FnT Try.prog f] (vs : List Value) (hc : ∀ v ∈ vs, ∀ w, CV Try.prog f [v] w (.bool false)) (base : Option Addr) (cap : Nat) (hl : vs.length ≤ 1000000) (w : World) (hr : RdV w base vs) :
    CV Try.prog 119 [.slice base vs.length cap, .func (.func f) #[] #[]] w (.bool false) := by
  refine enter Try.func119 rfl rfl rfl rfl ?_
  intro a st
  (repeat' (first | (refine o_callV st rfl (indexFuncV_ok f vs hc base cap hl _ (hr.mono st.below)) rfl ?_; clear st; intro _ _ st)  | refine c_seq ?_  | refine c_region ?_  | refine l_do ?_  | refine l_nil ?_  | refine x_then ?_  | refine wp_ret ?_  | ((first | refine o_move st rfl rfl ?_  | refine o_assign st rfl rfl ?_); clear st; intro _ st)  | (refine o_geq st rfl rfl rfl ?_ ?_ <;> clear st <;> intro _ _ st <;> (try (exfalso; omega)))))
  refine post1 st Try.results119 (rd_t st rfl) ?_
  exact ⟨rfl, st.ex0⟩
theorem areFinite1_ok (x : Nat) (h : Gd x) (w : World) : CV Try.prog 134 [.float .f32 x] w (.bool false) := by
  have c1 := fun w => IsFinite_ok x h w
  refine enter Try.func134 rfl rfl rfl rfl ?_
  intro y st
  (repeat' (first | (refine o_callV st rfl (c1 _) rfl ?_; clear st; intro _ _ st)  | refine c_seq ?_  | refine c_region ?_  | refine l_do ?_  | refine l_nil ?_  | refine x_then ?_  | refine wp_ret ?_  | ((first | refine o_move st rfl rfl ?_  | refine o_assign st rfl rfl ?_  | refine o_notT st rfl rfl ?_ ); clear st; intro _ st)))
  refine post1 st Try.results134 (rd_t st rfl) ?_
  exact ⟨rfl, st.ex0⟩
theorem areFinite_ok (xs : List Nat) (hx : ∀ x ∈ xs, Gd x) (base : Option Addr) (cap : Nat) (hl : xs.length ≤ 1000000) (w : World) (hr : RdV w base (xs.map vF)) :
    CV Try.prog 121 [.slice base xs.length cap] w (.bool true) := by
  have c1 := fun base cap w hr => containsFuncV_ok 134 (xs.map vF) (by
    intro v hv w
    obtain ⟨x, hx', rfl⟩ := List.mem_map.1 hv
    exact areFinite1_ok x (hx x hx') w) base cap (by rw [List.length_map]; omega) w hr
  rw [List.length_map] at c1
  refine enter Try.func121 rfl rfl rfl rfl ?_
  intro a st
  (repeat' (first | (refine o_callV st rfl (c1 _ _ _ (hr.mono st.below)) rfl ?_; clear st; intro _ _ st)  | refine c_seq ?_  | refine c_region ?_  | refine l_do ?_  | refine l_nil ?_  | refine x_then ?_  | refine wp_ret ?_  | ((first | refine o_move st rfl rfl ?_  | refine o_assign st rfl rfl ?_  | refine o_notF st rfl rfl ?_); clear st; intro _ st)))
  refine post1 st Try.results121 (rd_t st rfl) ?_
  exact ⟨rfl, st.ex0⟩
theorem ifNumbers_ok (xs : List Nat) (hx : ∀ x ∈ xs, Gd x) (base : Option Addr) (cap : Nat) (hl : xs.length ≤ 1000000) (w : World) (hr : RdV w base (xs.map vF)) :
    CV Try.prog 89 [.slice base xs.length cap] w (.tuple #[.slice base xs.length cap, .bool true]) := by
  have c1 := fun w hr => areFinite_ok xs hx base cap hl w hr
  refine enter Try.func89 rfl rfl rfl rfl ?_
  intro a st
  (repeat' (first | (refine o_callV st rfl (c1 _ (hr.mono st.below)) rfl ?_; clear st; intro _ _ st)  | refine c_seq ?_  | refine c_region ?_  | refine l_do ?_  | refine l_nil ?_  | refine x_then ?_  | refine wp_ret ?_  | refine wp_skip ?_  | refine c_condF st rfl ?_  | ((first | refine o_move st rfl rfl ?_  | refine o_assign st rfl rfl ?_  | refine o_notT st rfl rfl ?_ ); clear st; intro _ st)))
  refine post2 st Try.results89 (rd_t st rfl) (rd_t st rfl) ?_
  exact ⟨rfl, st.ex0⟩
set_option maxHeartbeats 8000000 in
theorem LongTable_ok (c : List Kn) (n : Nat) (ts : List Nat) (ks : List Kn) (ls : List Nat) (s : Nat → Nat) (hP : PtsOk c n ts ks) (h : GapsOk ks ls) (hs : SumsOk ls s) (hd : ∀ k, k ≤ n → Gd (s k)) (v : Value) (w : World) (hv : CrV w c v) :
    CM1 Try.prog 37 [v, .int .i64 n] w fun v b o => ∃ cap pad, v = .tuple #[.slice (some ⟨b, 0, none⟩) (n + 1) cap, .bool true] ∧ o = oV 29 ((tabL s n).map vF) pad := by
  have hlen := h.len
  have hlk := hP.lk
  have h64 := hP.h64
  have hs0 := hs.h0
  have hln : ls.length = n := by omega
  have c1 := fun v w hv => pointsAt_ok c hP.gc n ts ks hP.h1 hP.h64 hP.lt hP.lk hP.ht hP.hk hP.hgd v w hv
  have c2 := fun base cap w hr => longsOf_ok ks ls h (by omega) base cap w hr
  rw [hlk, hln] at c2
  have c3 := fun base cap w hr => ifNumbers_ok (tabL s n) (by
    intro x hx
    obtain ⟨k, hk, rfl⟩ := List.mem_map.1 hx
    exact hd k (by have := List.mem_range.1 hk; omega)) base cap (by rw [tabL_len]; omega) w hr
  rw [tabL_len] at c3
  have hv0 := hv
  obtain ⟨bp, cp, bw, cw, rfl, hp, hw⟩ := hv
  refine enter Try.func37 rfl rfl rfl rfl ?_
  intro a st
  (repeat' (first | (refine o_boxA (d := 2) st rfl rfl ?_; clear st; intro p2 _ _ st)  | (refine o_callM1 st rfl (c1 _ _ (hv0.mono st.below)) rfl ?_; clear st; rintro _ bk _ ⟨capk, padk, rfl, rfl⟩ _ _ st)  | (refine o_callM1 st rfl (c2 _ _ _ (RdV.of (st.heap (by repeat constructor)))) rfl ?_; clear st; rintro _ bl _ ⟨capl, padl, rfl, rfl⟩ _ _ st)  | (refine o_buildSlice (vs := [vF 0]) st rfl rfl rfl rfl rfl rfl ?_; clear st; intro blk0 _ _ st)  | refine c_seq ?_  | refine c_region ?_  | refine l_do ?_  | refine l_nil ?_  | refine x_then ?_  | refine x_thenE ?_  | refine x_blkN ?_  | refine x_blkE ?_  | refine wp_ret ?_  | refine wp_skip ?_  | refine wp_block ?_  | refine wp_exit ?_  | refine c_condT st rfl ?_  | refine c_condF st rfl ?_  | ((first | refine o_move st rfl rfl ?_  | refine o_assign st rfl rfl ?_); clear st; intro _ st)  | ((first | refine o_boxA st rfl rfl ?_ ); clear st; intro _ _ _ st)  | ((first | refine o_loadS st rfl (by repeat constructor) rfl rfl ?_  | refine o_load2 st rfl (by repeat constructor) rfl ?_  | refine o_extract st rfl rfl rfl ?_  | refine o_len st rfl rfl ?_  | refine o_add64 st rfl rfl rfl (by omega) (by omega) ?_  | refine o_notT st rfl rfl ?_ ); clear st; intro _ st)  | (refine o_lss st rfl rfl rfl ?_ ?_ <;> clear st <;> intro _ _ st <;> (try (exfalso; omega)))))
  refine wp_loop_ghost (fun z a w' => ∃ (i blk cp : Nat) (pad : List Value), i ≤ n ∧ z = n - i ∧ ((tabL s i).map vF ++ pad).length = cp ∧ St w Try.f37.ntmps a w' [(8, .slice (some ⟨blk, 0, none⟩) (i + 1) cp), (21, .slice (some ⟨bl, 0, none⟩) n capl), (22, .int .i64 (n : Nat)), (23, .int .i64 (i : Nat))] (⟨blk, true, oV 29 ((tabL s i).map vF) pad⟩ :: ⟨bl, true, oV 29 (ls.map vF) padl⟩ :: [])) n ⟨0, blk0, 1, [], by omega, by omega, rfl, ?_⟩ ?_
  · have e0 : oV 29 ((tabL s 0).map vF) [] = .cells [vF 0].toArray 29 (0, 0) := by
      show Obj.cells [vF (s 0)].toArray 29 (0, 0) = _
      rw [hs0]
    rw [e0]
    have st : St w _ _ _ _ (⟨bl, true, oV 29 (ls.map vF) padl⟩ :: ⟨blk0, true, .cells [vF 0].toArray 29 (0, 0)⟩ :: []) := st.subL (by repeat (first | exact List.Sublist.refl _  | apply List.Sublist.cons_cons  | apply List.Sublist.cons  | exact List.nil_sublist _))
    exact st.swap2.fit (by repeat (first | exact trivial  | refine And.intro rfl ?_))
  clear st
  rintro z a w' ⟨i, blk, cp, pad, hi, rfl, hp, st⟩
  have hlt' : ((tabL s i).map vF).length = i + 1 := by rw [List.length_map, tabL_len]
  by_cases hlt : i < n
  · have hq := hs.at_ i (by omega)
    have g1 : (ls.map vF ++ padl).toArray[0 + ((i : Nat) : Int).toNat * 1]? = some (vF ls[i]) := by
      have := oV_get (pad := padl) (vs := ls.map vF) (k := i) (by rw [List.length_map]; omega)
      rw [this, List.getElem_map]
    have g2 : ((tabL s i).map vF ++ pad).toArray[0 + ((i : Nat) : Int).toNat * 1]? = some (vF (s i)) := by
      have := oV_get (pad := pad) (vs := (tabL s i).map vF) (k := i) (by omega)
      rw [this, List.getElem_map, tabL_get]
    (repeat' (first | (refine o_indexAddr st rfl rfl (by omega) (by omega) rfl ?_; clear st; intro _ st)  | (refine o_loadS st rfl (by repeat constructor) g1 rfl ?_; clear st; intro _ st)  | (refine o_loadS st rfl (by repeat constructor) g2 rfl ?_; clear st; intro _ st)  | (refine o_fopK st rfl rfl hq rfl ?_; clear st; intro _ st)  | (refine o_buildSlice st rfl rfl rfl rfl rfl rfl ?_; clear st; intro _ _ _ st)  | (refine o_append1V rfl st rfl rfl (by repeat constructor) (by repeat constructor) hlt' hp rfl (by omega) rfl ?_; clear st; intro blk1 cap1 pad1 _ _ hp1 st)  | refine c_seq ?_  | refine c_region ?_  | refine l_do ?_  | refine l_nil ?_  | refine x_then ?_  | refine x_thenE ?_  | refine x_blkN ?_  | refine x_blkE ?_  | refine wp_ret ?_  | refine wp_skip ?_  | refine wp_block ?_  | refine wp_exit ?_  | refine c_condT st rfl ?_  | refine c_condF st rfl ?_  | ((first | refine o_move st rfl rfl ?_  | refine o_assign st rfl rfl ?_); clear st; intro _ st)  | ((first | refine o_boxA st rfl rfl ?_ ); clear st; intro _ _ _ st)  | ((first | refine o_loadS st rfl (by repeat constructor) rfl rfl ?_  | refine o_load2 st rfl (by repeat constructor) rfl ?_  | refine o_extract st rfl rfl rfl ?_  | refine o_len st rfl rfl ?_  | refine o_add64 st rfl rfl rfl (by omega) (by omega) ?_  | refine o_notT st rfl rfl ?_ ); clear st; intro _ st)  | (refine o_lss st rfl rfl rfl ?_ ?_ <;> clear st <;> intro _ _ st <;> (try (exfalso; omega)))))
    have e1 := tabL_succ s i
    refine ⟨n - (i + 1), by omega, i + 1, blk1, cap1, pad1, by omega, rfl, by rw [← e1]; exact hp1, ?_⟩
    rw [← e1]
    exact (st.fit (by repeat (first | exact trivial  | refine And.intro rfl ?_))).subL (by repeat (first | exact List.Sublist.refl _  | apply List.Sublist.cons_cons  | apply List.Sublist.cons  | exact List.nil_sublist _))
  · obtain rfl : i = n := by omega
    (repeat' (first | (refine o_callV st rfl (c3 _ _ _ (RdV.of (st.heap (by repeat constructor)))) rfl ?_; clear st; intro _ _ st)  | refine c_seq ?_  | refine c_region ?_  | refine l_do ?_  | refine l_nil ?_  | refine x_then ?_  | refine x_thenE ?_  | refine x_blkN ?_  | refine x_blkE ?_  | refine wp_ret ?_  | refine wp_skip ?_  | refine wp_block ?_  | refine wp_exit ?_  | refine c_condT st rfl ?_  | refine c_condF st rfl ?_  | ((first | refine o_move st rfl rfl ?_  | refine o_assign st rfl rfl ?_); clear st; intro _ st)  | ((first | refine o_boxA st rfl rfl ?_ ); clear st; intro _ _ _ st)  | ((first | refine o_loadS st rfl (by repeat constructor) rfl rfl ?_  | refine o_load2 st rfl (by repeat constructor) rfl ?_  | refine o_extract st rfl rfl rfl ?_  | refine o_len st rfl rfl ?_  | refine o_add64 st rfl rfl rfl (by omega) (by omega) ?_  | refine o_notT st rfl rfl ?_ ); clear st; intro _ st)  | (refine o_lss st rfl rfl rfl ?_ ?_ <;> clear st <;> intro _ _ st <;> (try (exfalso; omega)))))
    refine post2 st Try.results37 (rd_t st rfl) (rd_t st rfl) ?_
    exact ⟨_, blk, _, rfl, ⟨cp, pad, rfl, rfl⟩, st.ex1 (by repeat constructor)⟩
set_option maxHeartbeats 16000000 in
theorem TimeAlong_ok (c : List Kn) (n : Nat) (ts : List Nat) (ks : List Kn) (ls : List Nat) (s : Nat → Nat) (hP : PtsOk c n ts ks) (h : GapsOk ks ls) (hs : SumsOk ls s) (hd : ∀ k, k ≤ n → Gd (s k)) (sh : Nat) (D : TmD) (hT : TmOk s n sh D) (v : Value) (w : World) (hv : CrV w c v) :
    CV Try.prog 41 [v, .int .i64 n, .float .f32 sh] w (.tuple #[.float .f32 D.t, .bool true]) := by
  have h64 := hP.h64
  have k1 := hT.k1
  have kn := hT.kn
  have tl := tabL_len s n
  have c1 := fun v w hv => LongTable_ok c n ts ks ls s hP h hs hd v w hv
  have c2 := fun w => isTime_ok sh hT.tm w
  have c3 := fun w => ifNumber_ok D.t hT.gd w
  have hl := hT.l
  have il := hT.il
  have hd' := hT.d
  have hdn := hT.dn
  have hu := hT.u
  have hq := hT.q
  have ha := hT.a
  have ht := hT.t
  have hv0 := hv
  obtain ⟨bp, cp, bw, cw, rfl, hp, hw⟩ := hv
  refine enter Try.func41 rfl rfl rfl rfl ?_
  intro a st
  have gt : ∀ (pad : List Value) (k : Nat) (j : Int), k ≤ n → j = (k : Int) → ((tabL s n).map vF ++ pad).toArray[0 + j.toNat * 1]? = some (vF (s k)) := by
    rintro pad k j hk rfl
    have := oV_get (pad := pad) (vs := (tabL s n).map vF) (k := k) (by rw [List.length_map]; omega)
    rw [this, List.getElem_map, tabL_get]
  (repeat' (first | (refine o_boxA (d := 3) st rfl rfl ?_; clear st; intro p3 _ _ st)  | (refine o_callM1 st rfl (c1 _ _ (hv0.mono st.below)) rfl ?_; clear st; rintro _ bt _ ⟨capt, padt, rfl, rfl⟩ _ _ st)  | (refine o_callV st rfl (c2 _) rfl ?_; clear st; intro _ _ st)  | (refine o_indexAddr st rfl rfl (by omega) (by omega) rfl ?_; clear st; intro _ st)  | (refine o_loadS st rfl (by repeat constructor) (gt padt n _ (by omega) rfl) rfl ?_; clear st; intro _ st)  | (refine o_fopK st rfl rfl hl rfl ?_; clear st; intro _ st)  | refine c_seq ?_  | refine c_region ?_  | refine l_do ?_  | refine l_doG st rfl rfl ?_  | refine l_nil ?_  | refine x_then ?_  | refine x_thenR ?_  | refine x_thenE ?_  | refine x_blkR ?_  | refine x_blkE ?_  | refine wp_ret ?_  | refine wp_skip ?_  | refine wp_block ?_  | refine wp_exit ?_  | refine c_condT st rfl ?_  | refine c_condF st rfl ?_  | ((first | refine o_move st rfl rfl ?_  | refine o_assign st rfl rfl ?_  | refine o_pickF st rfl rfl rfl ?_); clear st; intro _ st)  | ((first | refine o_boxA st rfl rfl ?_ ); clear st; intro _ _ _ st)  | ((first | refine o_loadS st rfl (by repeat constructor) rfl rfl ?_  | refine o_load2 st rfl (by repeat constructor) rfl ?_  | refine o_extract st rfl rfl rfl ?_  | refine o_len st rfl rfl ?_  | refine o_add64 st rfl rfl rfl (by omega) (by omega) ?_  | refine o_sub64 st rfl rfl rfl (by omega) (by omega) ?_  | refine o_notT st rfl rfl ?_  | refine o_notF st rfl rfl ?_); clear st; intro _ st)  | ((first | refine o_intFloat st rfl rfl ?_); clear st; intro _ st)  | (refine o_lss st rfl rfl rfl ?_ ?_ <;> clear st <;> intro _ _ st <;> (try (exfalso; omega))) ))
  refine wp_loop_ghost (fun z a w' => ∃ i : Nat, 1 ≤ i ∧ i ≤ D.k ∧ z = D.k - i ∧ St w Try.f41.ntmps a w' [(1, .int .i64 n), (8, .slice (some ⟨bt, 0, none⟩) (n + 1) capt), (10, .float .f32 D.l), (11, .int .i64 (i : Nat))] (⟨bt, true, oV 29 ((tabL s n).map vF) padt⟩ :: [])) (D.k - 1) ⟨1, by omega, by omega, by omega, (st.fit (by repeat (first | exact trivial  | refine And.intro rfl ?_))).subL (by repeat (first | exact List.Sublist.refl _  | apply List.Sublist.cons_cons  | apply List.Sublist.cons  | exact List.nil_sublist _))⟩ ?_
  clear st
  rintro z a w' ⟨i, hi1, hi, rfl, st⟩
  have ii := (hd i (by omega)).is
  have g1 := gt padt i (i : Nat) (by omega) rfl
  by_cases hlt : i < D.k
  · have hge := hT.lo i hi1 hlt
    (repeat' (first | (refine o_indexAddr st rfl rfl (by omega) (by omega) rfl ?_; clear st; intro _ st)  | (refine o_loadS st rfl (by repeat constructor) g1 rfl ?_; clear st; intro _ st)  | (refine o_fgeqW st rfl rfl ii il hge rfl ?_; clear st; intro _ st)  | refine c_seq ?_  | refine c_region ?_  | refine l_do ?_  | refine l_doG st rfl rfl ?_  | refine l_nil ?_  | refine x_then ?_  | refine x_thenR ?_  | refine x_thenE ?_  | refine x_blkR ?_  | refine x_blkE ?_  | refine wp_ret ?_  | refine wp_skip ?_  | refine wp_block ?_  | refine wp_exit ?_  | refine c_condT st rfl ?_  | refine c_condF st rfl ?_  | ((first | refine o_move st rfl rfl ?_  | refine o_assign st rfl rfl ?_  | refine o_pickF st rfl rfl rfl ?_); clear st; intro _ st)  | ((first | refine o_boxA st rfl rfl ?_ ); clear st; intro _ _ _ st)  | ((first | refine o_loadS st rfl (by repeat constructor) rfl rfl ?_  | refine o_load2 st rfl (by repeat constructor) rfl ?_  | refine o_extract st rfl rfl rfl ?_  | refine o_len st rfl rfl ?_  | refine o_add64 st rfl rfl rfl (by omega) (by omega) ?_  | refine o_sub64 st rfl rfl rfl (by omega) (by omega) ?_  | refine o_notT st rfl rfl ?_  | refine o_notF st rfl rfl ?_); clear st; intro _ st)  | ((first | refine o_intFloat st rfl rfl ?_); clear st; intro _ st)  | (refine o_lss st rfl rfl rfl ?_ ?_ <;> clear st <;> intro _ _ st <;> (try (exfalso; omega))) ))
    exact ⟨D.k - (i + 1), by omega, i + 1, by omega, by omega, rfl, (st.fit (by repeat (first | exact trivial  | refine And.intro rfl ?_))).subL (by repeat (first | exact List.Sublist.refl _  | apply List.Sublist.cons_cons  | apply List.Sublist.cons  | exact List.nil_sublist _))⟩
  · obtain rfl : i = D.k := by omega
    have hge := hT.hi
    have g2 := gt padt (D.k - 1) ((D.k : Int) - 1) (by omega) (by omega)
    have idd := fop_is hd'
    (repeat' (first | (refine o_indexAddr st rfl rfl (by omega) (by omega) rfl ?_; clear st; intro _ st)  | (refine o_loadS st rfl (by repeat constructor) g1 rfl ?_; clear st; intro _ st)  | (refine o_fgeqW st rfl rfl ii il hge rfl ?_; clear st; intro _ st)  | refine c_seq ?_  | refine c_region ?_  | refine l_do ?_  | refine l_doG st rfl rfl ?_  | refine l_nil ?_  | refine x_then ?_  | refine x_thenR ?_  | refine x_thenE ?_  | refine x_blkR ?_  | refine x_blkE ?_  | refine wp_ret ?_  | refine wp_skip ?_  | refine wp_block ?_  | refine wp_exit ?_  | refine c_condT st rfl ?_  | refine c_condF st rfl ?_  | ((first | refine o_move st rfl rfl ?_  | refine o_assign st rfl rfl ?_  | refine o_pickF st rfl rfl rfl ?_); clear st; intro _ st)  | ((first | refine o_boxA st rfl rfl ?_ ); clear st; intro _ _ _ st)  | ((first | refine o_loadS st rfl (by repeat constructor) rfl rfl ?_  | refine o_load2 st rfl (by repeat constructor) rfl ?_  | refine o_extract st rfl rfl rfl ?_  | refine o_len st rfl rfl ?_  | refine o_add64 st rfl rfl rfl (by omega) (by omega) ?_  | refine o_sub64 st rfl rfl rfl (by omega) (by omega) ?_  | refine o_notT st rfl rfl ?_  | refine o_notF st rfl rfl ?_); clear st; intro _ st)  | ((first | refine o_intFloat st rfl rfl ?_); clear st; intro _ st)  | (refine o_lss st rfl rfl rfl ?_ ?_ <;> clear st <;> intro _ _ st <;> (try (exfalso; omega))) ))
    refine c_drawA (last := 10) hm_ (by decide +kernel) (by decide +kernel) st ?_; clear st; intro _ st
    refine d_v 0 st (by repeat constructor) rfl (by decide +kernel) rfl (v_move st rfl) ?_; clear st; intro _ st
    refine d_v 1 st (by repeat constructor) rfl (by decide +kernel) rfl (v_move st rfl) ?_; clear st; intro _ st
    refine d_v 2 st (by repeat constructor) rfl (by decide +kernel) rfl (v_indexAddr st rfl rfl (by omega) (by omega)) ?_; clear st; intro _ st
    refine d_v 3 st (by repeat constructor) rfl (by decide +kernel) rfl (v_loadS st rfl (by repeat constructor) g1) ?_; clear st; intro _ st
    refine d_v 4 st (by repeat constructor) rfl (by decide +kernel) rfl (v_move st rfl) ?_; clear st; intro _ st
    refine d_v 5 st (by repeat constructor) rfl (by decide +kernel) rfl (v_move st rfl) ?_; clear st; intro _ st
    refine d_v 6 st (by repeat constructor) rfl (by decide +kernel) rfl (v_sub64 st rfl rfl (by omega) (by omega)) ?_; clear st; intro _ st
    refine d_v 7 st (by repeat constructor) rfl (by decide +kernel) rfl (v_indexAddr st rfl rfl (by omega) (by omega)) ?_; clear st; intro _ st
    refine d_v 8 st (by repeat constructor) rfl (by decide +kernel) rfl (v_loadS st rfl (by repeat constructor) g2) ?_; clear st; intro _ st
    refine d_one 9 (by decide +kernel) rfl ?_
    refine o_fopK st rfl rfl hd' rfl ?_; clear st; intro _ st
    refine kh st (by repeat constructor) ?_
    refine d_one 10 (by decide +kernel) rfl ?_
    (first | (refine o_assign st rfl rfl ?_; clear st; intro _ st))
    refine k_last ?_
    refine d_done (by decide +kernel) ?_
    (repeat' (first | (refine o_indexAddr st rfl rfl (by omega) (by omega) rfl ?_; clear st; intro _ st)  | (refine o_loadS st rfl (by repeat constructor) g2 rfl ?_; clear st; intro _ st)  | (refine o_fneqW st rfl rfl idd i32_0 hdn rfl ?_; clear st; intro _ st)  | (refine o_fopK st rfl rfl hu rfl ?_; clear st; intro _ st)  | (refine o_fopK st rfl rfl hq rfl ?_; clear st; intro _ st)  | (refine o_fopK st rfl rfl ha rfl ?_; clear st; intro _ st)  | (refine o_fopK st rfl rfl ht rfl ?_; clear st; intro _ st)  | (refine o_callV st rfl (c3 _) rfl ?_; clear st; intro _ _ st)  | refine c_seq ?_  | refine c_region ?_  | refine l_do ?_  | refine l_doG st rfl rfl ?_  | refine l_nil ?_  | refine x_then ?_  | refine x_thenR ?_  | refine x_thenE ?_  | refine x_blkR ?_  | refine x_blkE ?_  | refine wp_ret ?_  | refine wp_skip ?_  | refine wp_block ?_  | refine wp_exit ?_  | refine c_condT st rfl ?_  | refine c_condF st rfl ?_  | ((first | refine o_move st rfl rfl ?_  | refine o_assign st rfl rfl ?_  | refine o_pickF st rfl rfl rfl ?_); clear st; intro _ st)  | ((first | refine o_boxA st rfl rfl ?_ ); clear st; intro _ _ _ st)  | ((first | refine o_loadS st rfl (by repeat constructor) rfl rfl ?_  | refine o_load2 st rfl (by repeat constructor) rfl ?_  | refine o_extract st rfl rfl rfl ?_  | refine o_len st rfl rfl ?_  | refine o_add64 st rfl rfl rfl (by omega) (by omega) ?_  | refine o_sub64 st rfl rfl rfl (by omega) (by omega) ?_  | refine o_notT st rfl rfl ?_  | refine o_notF st rfl rfl ?_); clear st; intro _ st)  | ((first | refine o_intFloat st rfl rfl ?_); clear st; intro _ st)  | (refine o_lss st rfl rfl rfl ?_ ?_ <;> clear st <;> intro _ _ st <;> (try (exfalso; omega))) ))
    refine post2 st Try.results41 (rd_t st rfl) (rd_t st rfl) ?_
    exact ⟨rfl, st.ex0⟩
theorem within_ok (i lo hi : Int) (h1 : lo ≤ i) (h2 : i ≤ hi) (w : World) : CV Try.prog 93 [.int .i64 i, .int .i64 lo, .int .i64 hi] w (.bool true) := by
  refine enter Try.func93 rfl rfl rfl rfl ?_
  intro a st
  (repeat' (first | refine c_seq ?_  | refine c_region ?_  | refine l_do ?_  | refine l_doG st rfl rfl ?_  | refine l_nil ?_  | refine x_then ?_  | refine wp_ret ?_  | ((first | refine o_move st rfl rfl ?_  | refine o_assign st rfl rfl ?_  | refine o_pickT st rfl rfl rfl ?_ ); clear st; intro _ st)  | ((first | refine o_leq st rfl rfl rfl ?_ ?_  | refine o_geq st rfl rfl rfl ?_ ?_) <;> clear st <;> intro _ _ st <;> (try (exfalso; omega)))))
  refine post1 st Try.results93 (rd_t st rfl) ?_
  exact ⟨rfl, st.ex0⟩
set_option maxHeartbeats 16000000 in
theorem EvenTimes_ok (c : List Kn) (n : Nat) (ts : List Nat) (ks : List Kn) (ls : List Nat) (s : Nat → Nat) (hP : PtsOk c n ts ks) (h : GapsOk ks ls) (hs : SumsOk ls s) (hd : ∀ k, k ≤ n → Gd (s k)) (m : Nat) (hm2 : 2 ≤ m) (hm64 : m ≤ 64) (sh : Nat → Nat) (D : Nat → TmD) (hsh : ∀ k, k < m → shareW (k : Nat) ((m : Int) - 1) = some (sh k)) (hT : ∀ k, k < m → TmOk s n (sh k) (D k)) (v : Value) (w : World) (hv : CrV w c v) :
    CM1 Try.prog 40 [v, .int .i64 n, .int .i64 m] w fun v b o => ∃ cap pad, v = .tuple #[.slice (some ⟨b, 0, none⟩) m cap, .bool true] ∧ o = oV 29 (((List.range m).map fun k => (D k).t).map vF) pad := by
  have c1 := fun w => within_ok (m : Int) 2 64 (by omega) (by omega) w
  have hv0 := hv
  obtain ⟨x, rfl, hx, h3, h4⟩ := hv.get (by have := hP.gc.lo; omega)
  refine enter Try.func40 rfl rfl rfl rfl ?_
  intro a st
  (repeat' (first | (refine o_boxA (d := 3) st rfl rfl ?_; clear st; intro p3 _ _ st)  | (refine o_callV st rfl (c1 _) rfl ?_; clear st; intro _ _ st)  | (refine o_buildSlice0 st rfl ?_; clear st; intro blk0 _ _ st)  | refine c_seq ?_  | refine c_region ?_  | refine l_do ?_  | refine l_nil ?_  | refine x_then ?_  | refine x_thenE ?_  | refine x_blkN ?_  | refine x_blkE ?_  | refine wp_ret ?_  | refine wp_skip ?_  | refine wp_block ?_  | refine wp_exit ?_  | refine c_condT st rfl ?_  | refine c_condF st rfl ?_  | ((first | refine o_move st rfl rfl ?_  | refine o_assign st rfl rfl ?_); clear st; intro _ st)  | ((first | refine o_boxA st rfl rfl ?_ ); clear st; intro _ _ _ st)  | ((first | refine o_load2 st rfl (by repeat constructor) rfl ?_  | refine o_extract st rfl rfl rfl ?_  | refine o_add64 st rfl rfl rfl (by omega) (by omega) ?_  | refine o_sub64 st rfl rfl rfl (by omega) (by omega) ?_  | refine o_notT st rfl rfl ?_ ); clear st; intro _ st)  | ((first | refine o_intFloat st rfl rfl ?_); clear st; intro _ st)  | (refine o_lss st rfl rfl rfl ?_ ?_ <;> clear st <;> intro _ _ st <;> (try (exfalso; omega)))))
  refine wp_loop_ghost (fun z a w' => ∃ (i blk cp : Nat) (pad : List Value), i ≤ m ∧ z = m - i ∧ (((List.range i).map fun k => (D k).t).map vF ++ pad).length = cp ∧ St w Try.f40.ntmps a w' [(1, .int .i64 n), (2, .int .i64 m), (3, .pointer (some ⟨p3, 0, none⟩)), (8, .slice (some ⟨blk, 0, none⟩) i cp), (16, .int .i64 (m : Nat)), (17, .int .i64 (i : Nat))] (⟨blk, true, oV 29 (((List.range i).map fun k => (D k).t).map vF) pad⟩ :: eP p3 (.slice (some ⟨x.b1, x.o1, none⟩) c.length x.cp) (.slice (some ⟨x.b2, x.o2, none⟩) c.length x.cw) :: [])) m ⟨0, blk0, 0, [], by omega, by omega, rfl, (st.fit (by repeat (first | exact trivial  | refine And.intro rfl ?_))).subL (by repeat (first | exact List.Sublist.refl _  | apply List.Sublist.cons_cons  | apply List.Sublist.cons  | exact List.nil_sublist _))⟩ ?_
  clear st
  rintro z a w' ⟨i, blk, cp, pad, hi, rfl, hp, st⟩
  have hli : (((List.range i).map fun k => (D k).t).map vF).length = i := by simp
  by_cases hlt : i < m
  · have hq := hsh i hlt
    unfold shareW at hq
    have c2 := fun v w hv => TimeAlong_ok c n ts ks ls s hP h hs hd (sh i) (D i) (hT i hlt) v w hv
    (repeat' (first | (refine o_fopK st rfl rfl hq rfl ?_; clear st; intro _ st)  | (refine o_callV st rfl (c2 _ _ (hv0.mono st.below)) rfl ?_; clear st; intro _ _ st)  | (refine o_buildSlice st rfl rfl rfl rfl rfl rfl ?_; clear st; intro _ _ _ st)  | (refine o_append1V rfl st rfl rfl (by repeat constructor) (by repeat constructor) hli hp rfl (by omega) rfl ?_; clear st; intro blk1 cap1 pad1 _ _ hp1 st)  | refine c_seq ?_  | refine c_region ?_  | refine l_do ?_  | refine l_nil ?_  | refine x_then ?_  | refine x_thenE ?_  | refine x_blkN ?_  | refine x_blkE ?_  | refine wp_ret ?_  | refine wp_skip ?_  | refine wp_block ?_  | refine wp_exit ?_  | refine c_condT st rfl ?_  | refine c_condF st rfl ?_  | ((first | refine o_move st rfl rfl ?_  | refine o_assign st rfl rfl ?_); clear st; intro _ st)  | ((first | refine o_boxA st rfl rfl ?_ ); clear st; intro _ _ _ st)  | ((first | refine o_load2 st rfl (by repeat constructor) rfl ?_  | refine o_extract st rfl rfl rfl ?_  | refine o_add64 st rfl rfl rfl (by omega) (by omega) ?_  | refine o_sub64 st rfl rfl rfl (by omega) (by omega) ?_  | refine o_notT st rfl rfl ?_ ); clear st; intro _ st)  | ((first | refine o_intFloat st rfl rfl ?_); clear st; intro _ st)  | (refine o_lss st rfl rfl rfl ?_ ?_ <;> clear st <;> intro _ _ st <;> (try (exfalso; omega)))))
    have e1 : ((List.range i).map fun k => (D k).t).map vF ++ [vF (D i).t] = ((List.range (i + 1)).map fun k => (D k).t).map vF := by rw [List.range_succ]; simp
    refine ⟨m - (i + 1), by omega, i + 1, blk1, cap1, pad1, by omega, rfl, by rw [← e1]; exact hp1, ?_⟩
    rw [← e1]
    exact (st.fit (by repeat (first | exact trivial  | refine And.intro rfl ?_))).subL (by repeat (first | exact List.Sublist.refl _  | apply List.Sublist.cons_cons  | apply List.Sublist.cons  | exact List.nil_sublist _))
  · obtain rfl : i = m := by omega
    (repeat' (first | refine c_seq ?_  | refine c_region ?_  | refine l_do ?_  | refine l_nil ?_  | refine x_then ?_  | refine x_thenE ?_  | refine x_blkN ?_  | refine x_blkE ?_  | refine wp_ret ?_  | refine wp_skip ?_  | refine wp_block ?_  | refine wp_exit ?_  | refine c_condT st rfl ?_  | refine c_condF st rfl ?_  | ((first | refine o_move st rfl rfl ?_  | refine o_assign st rfl rfl ?_); clear st; intro _ st)  | ((first | refine o_boxA st rfl rfl ?_ ); clear st; intro _ _ _ st)  | ((first | refine o_load2 st rfl (by repeat constructor) rfl ?_  | refine o_extract st rfl rfl rfl ?_  | refine o_add64 st rfl rfl rfl (by omega) (by omega) ?_  | refine o_sub64 st rfl rfl rfl (by omega) (by omega) ?_  | refine o_notT st rfl rfl ?_ ); clear st; intro _ st)  | ((first | refine o_intFloat st rfl rfl ?_); clear st; intro _ st)  | (refine o_lss st rfl rfl rfl ?_ ?_ <;> clear st <;> intro _ _ st <;> (try (exfalso; omega)))))
    refine post2 st Try.results40 (rd_t st rfl) (rd_t st rfl) ?_
    exact ⟨_, blk, _, rfl, ⟨cp, pad, rfl, rfl⟩, st.ex1 (by repeat constructor)⟩
theorem areWorkers_ok (n : Nat) (h1 : 1 ≤ n) (h8 : n ≤ 8) (w : World) : CV Try.prog 91 [.int .i64 n] w (.bool true) := by
  have c1 := fun w => within_ok (n : Int) 1 8 (by omega) (by omega) w
  refine enter Try.func91 rfl rfl rfl rfl ?_
  intro a st
  (repeat' (first | (refine o_callV st rfl (c1 _) rfl ?_; clear st; intro _ _ st)  | refine c_seq ?_  | refine c_region ?_  | refine l_do ?_  | refine l_nil ?_  | refine x_then ?_  | refine wp_ret ?_  | ((first | refine o_move st rfl rfl ?_  | refine o_assign st rfl rfl ?_); clear st; intro _ st)))
  refine post1 st Try.results91 (rd_t st rfl) ?_
  exact ⟨rfl, st.ex0⟩
set_option maxHeartbeats 16000000 in
theorem LongsShared_ok (c : List Kn) (n : Nat) (ts : List Nat) (ks : List Kn) (ls : List Nat) (s : Nat → Nat) (hP : PtsOk c n ts ks) (h : GapsOk ks ls) (hs : SumsOk ls s) (hd : Gd (s ls.length)) (q : Nat) (hq1 : 1 ≤ q) (hq8 : q ≤ 8) (pa pb : Option Addr) (la lb ca cb : Nat) (bl : Nat) (w : World) (hb : w.heap[bl]? = some (.cells [.slice pa la ca, .slice pb lb cb, .slice pa la ca, .slice pb lb cb].toArray 27 (0, 0))) (hv : CrV w c (.agg [.slice pa la ca, .slice pb lb cb].toArray)) :
    CM1 Try.prog 38 [.slice (some ⟨bl, 0, none⟩) 2 2, .int .i64 n, .int .i64 q] w fun v b o => ∃ cap pad, v = .tuple #[.slice (some ⟨b, 0, none⟩) 2 cap, .bool true] ∧ o = oV 29 ([s ls.length, s ls.length].map vF) pad := by
  have h64 := hP.h64
  have c1 := fun w => arePieces_ok n hP.h1 hP.h64 w
  have c2 := fun w => areWorkers_ok q hq1 hq8 w
  have c3 := fun v w hv => ChordLong_ok c n ts ks ls s hP h hs hd v w hv
  refine enter Try.func38 rfl rfl rfl rfl ?_
  intro a st
  have st := st.addOld hb
  (repeat' (first | (refine o_callV st rfl (c1 _) rfl ?_; clear st; intro _ _ st)  | (refine o_callV st rfl (c2 _) rfl ?_; clear st; intro _ _ st)  | (refine o_buildSlice0 st rfl ?_; clear st; intro blk0 _ _ st)  | refine c_seq ?_  | refine c_region ?_  | refine l_do ?_  | refine l_doG st rfl rfl ?_  | refine l_nil ?_  | refine x_then ?_  | refine x_thenE ?_  | refine x_blkN ?_  | refine x_blkE ?_  | refine wp_ret ?_  | refine wp_skip ?_  | refine wp_block ?_  | refine wp_exit ?_  | refine c_condT st rfl ?_  | refine c_condF st rfl ?_  | ((first | refine o_move st rfl rfl ?_  | refine o_assign st rfl rfl ?_  | refine o_pickF st rfl rfl rfl ?_); clear st; intro _ st)  | (refine o_alloc st rfl ?_; clear st; intro _ _ _ st)  | ((first | refine o_load2 st rfl (by repeat constructor) rfl ?_ ); clear st; intro _ st)  | ((first | refine o_storeW st rfl rfl (by repeat constructor) rfl rfl rfl ?_); clear st; intro _ _ st)  | ((first | refine o_extract st rfl rfl rfl ?_  | refine o_len st rfl rfl ?_  | refine o_add64 st rfl rfl rfl (by omega) (by omega) ?_  | refine o_notT st rfl rfl ?_ ); clear st; intro _ st)  | ((first | refine o_lss st rfl rfl rfl ?_ ?_  | refine o_gtr st rfl rfl rfl ?_ ?_) <;> clear st <;> intro _ _ st <;> (try (exfalso; omega)))))
  refine wp_loop_ghost (fun z a w' => ∃ (i blk cp : Nat) (pad : List Value), i ≤ 2 ∧ z = 2 - i ∧ (([s ls.length, s ls.length].take i).map vF ++ pad).length = cp ∧ St w Try.f38.ntmps a w' [(1, .int .i64 n), (8, .slice (some ⟨blk, 0, none⟩) i cp), (27, .slice (some ⟨bl, 0, none⟩) 2 2), (28, .int .i64 ((2 : Nat) : Int)), (29, .int .i64 (i : Nat))] (⟨blk, true, oV 29 (([s ls.length, s ls.length].take i).map vF) pad⟩ :: ⟨bl, false, .cells [.slice pa la ca, .slice pb lb cb, .slice pa la ca, .slice pb lb cb].toArray 27 (0, 0)⟩ :: [])) 2 ⟨0, blk0, 0, [], by omega, by omega, rfl, (st.fit (by repeat (first | exact trivial  | refine And.intro rfl ?_))).subL (by repeat (first | exact List.Sublist.refl _  | apply List.Sublist.cons_cons  | apply List.Sublist.cons  | exact List.nil_sublist _))⟩ ?_
  clear st
  rintro z a w' ⟨i, blk, cp, pad, hi, rfl, hp, st⟩
  have hli : (([s ls.length, s ls.length].take i).map vF).length = i := by rw [List.length_map, List.length_take]; simp; omega
  by_cases hlt : i < 2
  · have g1 : ∀ j u, [Value.slice pa la ca, .slice pb lb cb][j]? = some u → [Value.slice pa la ca, .slice pb lb cb, .slice pa la ca, .slice pb lb cb].toArray[0 + ((i : Nat) : Int).toNat * 2 + j]? = some u := by
      intro j u hj
      match i, hlt with
      | 0, _ => match j with
        | 0 => simpa using hj
        | 1 => simpa using hj
        | j + 2 => simp at hj
      | 1, _ => match j with
        | 0 => simpa using hj
        | 1 => simpa using hj
        | j + 2 => simp at hj
    (repeat' (first | (refine o_indexAddr st rfl rfl (by omega) (by omega) rfl ?_; clear st; intro _ st)  | (refine o_loadA (t := 27) [.slice pa la ca, .slice pb lb cb] (d := 32) st rfl (by repeat constructor) rfl g1 rfl ?_; clear st; intro _ st)  | (refine o_callV st rfl (c3 _ _ (hv.mono st.below)) rfl ?_; clear st; intro _ _ st)  | (refine o_buildSlice st rfl rfl rfl rfl rfl rfl ?_; clear st; intro _ _ _ st)  | (refine o_append1V rfl st rfl rfl (by repeat constructor) (by repeat constructor) hli hp rfl (by omega) rfl ?_; clear st; intro blk1 cap1 pad1 _ _ hp1 st)  | refine c_seq ?_  | refine c_region ?_  | refine l_do ?_  | refine l_doG st rfl rfl ?_  | refine l_nil ?_  | refine x_then ?_  | refine x_thenE ?_  | refine x_blkN ?_  | refine x_blkE ?_  | refine wp_ret ?_  | refine wp_skip ?_  | refine wp_block ?_  | refine wp_exit ?_  | refine c_condT st rfl ?_  | refine c_condF st rfl ?_  | ((first | refine o_move st rfl rfl ?_  | refine o_assign st rfl rfl ?_  | refine o_pickF st rfl rfl rfl ?_); clear st; intro _ st)  | (refine o_alloc st rfl ?_; clear st; intro _ _ _ st)  | ((first | refine o_load2 st rfl (by repeat constructor) rfl ?_ ); clear st; intro _ st)  | ((first | refine o_storeW st rfl rfl (by repeat constructor) rfl rfl rfl ?_); clear st; intro _ _ st)  | ((first | refine o_extract st rfl rfl rfl ?_  | refine o_len st rfl rfl ?_  | refine o_add64 st rfl rfl rfl (by omega) (by omega) ?_  | refine o_notT st rfl rfl ?_ ); clear st; intro _ st)  | ((first | refine o_lss st rfl rfl rfl ?_ ?_  | refine o_gtr st rfl rfl rfl ?_ ?_) <;> clear st <;> intro _ _ st <;> (try (exfalso; omega)))))
    have e1 : ([s ls.length, s ls.length].take i).map vF ++ [vF (s ls.length)] = ([s ls.length, s ls.length].take (i + 1)).map vF := by
      match i, hlt with
      | 0, _ => rfl
      | 1, _ => rfl
    refine ⟨2 - (i + 1), by omega, i + 1, blk1, cap1, pad1, by omega, rfl, by rw [← e1]; exact hp1, ?_⟩
    rw [← e1]
    exact (st.fit (by repeat (first | exact trivial  | refine And.intro rfl ?_))).subL (by repeat (first | exact List.Sublist.refl _  | apply List.Sublist.cons_cons  | apply List.Sublist.cons  | exact List.nil_sublist _))
  · obtain rfl : i = 2 := by omega
    (repeat' (first | refine c_seq ?_  | refine c_region ?_  | refine l_do ?_  | refine l_doG st rfl rfl ?_  | refine l_nil ?_  | refine x_then ?_  | refine x_thenE ?_  | refine x_blkN ?_  | refine x_blkE ?_  | refine wp_ret ?_  | refine wp_skip ?_  | refine wp_block ?_  | refine wp_exit ?_  | refine c_condT st rfl ?_  | refine c_condF st rfl ?_  | ((first | refine o_move st rfl rfl ?_  | refine o_assign st rfl rfl ?_  | refine o_pickF st rfl rfl rfl ?_); clear st; intro _ st)  | (refine o_alloc st rfl ?_; clear st; intro _ _ _ st)  | ((first | refine o_load2 st rfl (by repeat constructor) rfl ?_ ); clear st; intro _ st)  | ((first | refine o_storeW st rfl rfl (by repeat constructor) rfl rfl rfl ?_); clear st; intro _ _ st)  | ((first | refine o_extract st rfl rfl rfl ?_  | refine o_len st rfl rfl ?_  | refine o_add64 st rfl rfl rfl (by omega) (by omega) ?_  | refine o_notT st rfl rfl ?_ ); clear st; intro _ st)  | ((first | refine o_lss st rfl rfl rfl ?_ ?_  | refine o_gtr st rfl rfl rfl ?_ ?_) <;> clear st <;> intro _ _ st <;> (try (exfalso; omega)))))
    refine post2 st Try.results38 (rd_t st rfl) (rd_t st rfl) ?_
    exact ⟨_, blk, _, rfl, ⟨cp, pad, rfl, rfl⟩, st.ex1 (by repeat constructor)⟩
end Go.Proofs.Ytonbcbhnnflohaa
