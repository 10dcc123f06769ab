/-
  Contracts: the spot of a patch for two shares; the program's side.
-/
import Derived.Test.YtefnlalldgbcaaaPat
import Derived.Test.YtefnlalldgbcaaaCut
namespace Go.Proofs.Ytefnlalldgbcaaa
open Go.RowKit

/-- Row j of a patch. -/
def rowOf (tt : List S3) (d j : Nat) : List S3 := (tt.drop (plc d 0 j)).take (d + 1 - j)
theorem rowOf_length {tt : List S3} {d j : Nat} (hd : d ≤ 3) (hj : j ≤ d) (hl : tt.length = tot d) : (rowOf tt d j).length = d + 1 - j := by
  have := plc_le hd hj
  unfold rowOf
  rw [List.length_take, List.length_drop]
  omega
theorem rowOf_getD {tt : List S3} {d j i : Nat} (hi : i < d + 1 - j) : (rowOf tt d j).getD i z3 = tt.getD (plc d i j) z3 := by
  unfold rowOf
  rw [List.getD_eq_getElem?_getD, List.getD_eq_getElem?_getD, List.getElem?_take, if_pos hi, List.getElem?_drop, plc_add d i j]
/-- The next rows, out of the rows' list. -/
theorem rowOf_next (tt : List S3) (c a b : Option Nat) (d j : Nat) (hd : d ≤ 2) (hj : j ≤ d) : rowOf (pAll tt c a b (d + 1) (d + 1)) d j = pRow tt c a b (d + 1) j (d + 1 - j) := by
  have hcd : d = 0 ∨ d = 1 ∨ d = 2 := by omega
  have hcj : j = 0 ∨ j = 1 ∨ j = 2 := by omega
  rcases hcd with rfl | rfl | rfl <;> rcases hcj with rfl | rfl | rfl <;> first | rfl | (exfalso; omega)

/-- The rows of a patch of degree d, as values that the memory w holds. -/
def RowsAt (w : World) (vs : List Value) (tt : List S3) (d : Nat) : Prop := vs.length = d + 1 ∧ ∀ j, j ≤ d → ∃ (b off cap : Nat) (cs : Array Value) (t : TypeId) (fr : Nat × Nat) (bs : List B3), vs[j]? = some (.slice (some ⟨b, off, none⟩) bs.length cap) ∧ w.heap[b]? = some (.cells cs t fr) ∧ SpotsIn cs off bs ∧ IsSL bs (rowOf tt d j)
theorem RowsAt.mono {w w' : World} {vs : List Value} {tt : List S3} {d : Nat} (h : RowsAt w vs tt d) (hb : Below w.heap.size w w') : RowsAt w' vs tt d := by
  refine ⟨h.1, fun j hj => ?_⟩
  obtain ⟨b, off, cap, cs, t, fr, bs, h1, h2, h3, h4⟩ := h.2 j hj
  exact ⟨b, off, cap, cs, t, fr, bs, h1, by rw [hb.block b (Array.getElem?_eq_some_iff.1 h2).1]; exact h2, h3, h4⟩
theorem IsSL.rowOf {bs : List B3} {tt : List S3} (h : IsSL bs tt) (d j : Nat) : IsSL ((bs.drop (plc d 0 j)).take (d + 1 - j)) (rowOf tt d j) := h.part _ _
theorem rowsAt_first {w : World} {blk off cap g : Nat} {cs : Array Value} {t : TypeId} {fr : Nat × Nat} {bs : List B3} {ss : List S3} (hg : g ≤ 3) (h : IsSL bs ss) (hl : ss.length = tot g) (hw : w.heap[blk]? = some (.cells cs t fr)) (hsp : SpotsIn cs off bs) : RowsAt w (rowVs blk off cap g (g + 1)) ss g := by
  refine ⟨rowVs_length _ _ _ _ _, fun j hj => ?_⟩
  have hbl := h.len
  have hle := plc_le hg hj
  have hrl : ((bs.drop (plc g 0 j)).take (g + 1 - j)).length = g + 1 - j := by rw [List.length_take, List.length_drop]; omega
  refine ⟨blk, off + plc g 0 j * 3, cap - plc g 0 j, cs, t, fr, (bs.drop (plc g 0 j)).take (g + 1 - j), ?_, hw, ?_, h.rowOf g j⟩
  · rw [hrl]
    have hj1 : j < g + 1 := by omega
    simp only [rowVs, List.getElem?_map, List.getElem?_range hj1, Option.map_some]
    rfl
  · intro i b hi
    have h1 : bs[plc g 0 j + i]? = some b := by
      rw [List.getElem?_take] at hi
      split at hi
      · rwa [List.getElem?_drop] at hi
      · cases hi
    have := hsp (plc g 0 j + i) b h1
    rw [Nat.add_mul, ← Nat.add_assoc] at this
    exact this

/-- New rows, each in a block of its own. -/
inductive NR (rows : Nat → List S3) : Nat → List Value → List Ent → Prop
  | nil : NR rows 0 [] []
  | snoc {k vs Ls b cp os pad} : NR rows k vs Ls → IsSL os (rows k) → NR rows (k + 1) (vs ++ [.slice (some ⟨b, 0, none⟩) os.length cp]) (⟨b, true, oS os pad⟩ :: Ls)
theorem NR.length {rows : Nat → List S3} {k : Nat} {vs : List Value} {Ls : List Ent} (h : NR rows k vs Ls) : vs.length = k := by
  induction h with
  | nil => rfl
  | snoc _ _ ih => simp [ih]
theorem NR.get {rows : Nat → List S3} {k : Nat} {vs : List Value} {Ls : List Ent} (h : NR rows k vs Ls) : ∀ j, j < k → ∃ (b cp : Nat) (os : List B3) (pad : List Value), vs[j]? = some (.slice (some ⟨b, 0, none⟩) os.length cp) ∧ IsSL os (rows j) ∧ (⟨b, true, oS os pad⟩ : Ent) ∈ Ls := by
  induction h with
  | nil => intro j hj; omega
  | @snoc k vs Ls b cp os pad h1 h2 ih =>
    intro j hj
    have hl := h1.length
    by_cases hjk : j = k
    · subst hjk
      refine ⟨b, cp, os, pad, ?_, h2, List.mem_cons_self⟩
      rw [← hl]
      simp
    · obtain ⟨b', cp', os', pad', h3, h4, h5⟩ := ih j (by omega)
      exact ⟨b', cp', os', pad', by rw [List.getElem?_append_left (by omega)]; exact h3, h4, List.mem_cons_of_mem _ h5⟩
theorem NR.rowsAt {w0 w : World} {N : Nat} {a : Act} {E : List (Nat × Value)} {Lp Ls : List Ent} {tt : List S3} {c u v : Option Nat} {d : Nat} {vs : List Value} (hd : d ≤ 2) (h : NR (fun j => pRow tt c u v (d + 1) j (d + 1 - j)) (d + 1) vs Ls) (st : St w0 N a w E (Lp ++ Ls)) : RowsAt w vs (pAll tt c u v (d + 1) (d + 1)) d := by
  refine ⟨h.length, fun j hj => ?_⟩
  obtain ⟨b, cp, os, pad, h1, h2, h3⟩ := h.get j (by omega)
  refine ⟨b, 0, cp, _, 26, (0, 0), os, h1, (st.facts _ (List.mem_append_right _ h3)).1, spotsIn0p os pad, ?_⟩
  rw [rowOf_next tt c u v d j hd hj]
  exact h2

/-- Back to where the walk began, with a block of its own kept. -/
theorem St.backOwn {w0 w w' : World} {N : Nat} {a a' : Act} {E E' : List (Nat × Value)} {L L' : List Ent} {b : Nat} {o o' : Obj} (st : St w0 N a w E L) (h : At L b true o) (st' : St w N a' w' E' (⟨b, false, o'⟩ :: L')) (hL : ∀ e ∈ L', e.own = true) : St w0 N a' w' E' (⟨b, true, o'⟩ :: L') := by
  have s := st.back st'
  refine ⟨s.env, s.size, s.defers, s.below, ?_, ?_⟩
  · intro e he
    rcases List.mem_cons.1 he with rfl | he
    · exact ⟨(s.facts _ List.mem_cons_self).1, fun _ => st.ge h⟩
    · exact s.facts e (List.mem_cons_of_mem _ he)
  · obtain ⟨h1, h2⟩ := List.pairwise_cons.1 s.uniq
    exact List.pairwise_cons.2 ⟨fun e he _ => h1 e he (.inr (hL e he)), h2⟩

attribute [local irreducible] Code.wp wpList Oper.wp Calls bodyPost Exit.then Exit.inBlock

set_option maxHeartbeats 16000000 in
theorem implPat_can (bs : List B3) (ss : List S3) (h : IsSL bs ss) (base : Option Addr) (cap : Nat) (d : Int) (x y : Nat) (u v : Option Nat) (hx : Is .f32 x u) (hy : Is .f32 y v) (hq : patCan ss d u v = false) (w : World) (hr : RdS w base bs) (hlen : bs.length < 1000000000) :
    CSB Try.prog 58 [.slice base bs.length cap, .int .i64 d, .float .f32 x, .float .f32 y] w z3 false := by
  refine enter Try.func58 rfl rfl rfl rfl ?_
  intro a st
  have hc := fun (w : World) hr => isPatch_ok bs ss h base cap d 3 (by omega) w hr hlen
  unfold patCan at hq
  have hg : fgeB .f32 (fop .sub .f32 (fop .sub .f32 one32 u) v) (some 0) = geZ (cPat u v) := rfl
  have hgu : fgeB .f32 u (some 0) = geZ u := rfl
  have hgv : fgeB .f32 v (some 0) = geZ v := rfl
  generalize patchC ss d 3 = q1 at hc hq
  generalize geZ u = q2 at hgu hq
  generalize geZ v = q3 at hgv hq
  generalize geZ (cPat u v) = q4 at hg hq
  have hcase : q1 = false ∨ (q1 = true ∧ q2 = false) ∨ (q1 = true ∧ q2 = true ∧ q3 = false) ∨ (q1 = true ∧ q2 = true ∧ q3 = true ∧ q4 = false) := by
    cases q1 <;> cases q2 <;> cases q3 <;> cases q4 <;> simp_all
  rcases hcase with rfl | ⟨rfl, rfl⟩ | ⟨rfl, rfl, rfl⟩ | ⟨rfl, rfl, rfl, rfl⟩
  all_goals
    (repeat' (first | (refine o_callV st rfl (hc _ (hr.mono st.below)) rfl ?_; clear st; intro _ _ st)  | (refine o_fgeqK st rfl rfl hx (by first | assumption | exact Is_ofInt _ _ | exact Is_lit (by decide +kernel)) hgu rfl ?_; clear st; intro _ st)  | (refine o_fgeqK st rfl rfl hy (by first | assumption | exact Is_ofInt _ _ | exact Is_lit (by decide +kernel)) hgv rfl ?_; clear st; intro _ st)  | (refine o_fgeqK st rfl rfl (by assumption) (by first | assumption | exact Is_ofInt _ _ | exact Is_lit (by decide +kernel)) hg rfl ?_; clear st; intro _ st)  | (refine o_fop (ci := one32) (cj := u) rfl st rfl rfl (Is_lit (by decide +kernel)) hx rfl ?_; clear st; intro z0 _ _ hz0 st)  | (refine o_fop (cj := v) rfl st rfl rfl hz0 hy rfl ?_; clear st; intro z1 _ _ hz1 st)  | refine c_seq ?_  | refine c_region ?_  | refine l_do ?_  | refine l_doG st rfl rfl ?_  | ((first | refine l_skipU st rfl rfl rfl ?_  | refine l_skip st rfl rfl rfl rfl ?_); clear st; intro _ st)  | refine l_nil ?_  | refine x_then ?_  | refine x_thenR ?_  | refine wp_ret ?_  | refine wp_skip ?_  | refine wp_block ?_  | refine wp_exit ?_  | refine c_condT st rfl ?_  | ((first | refine o_move st rfl rfl ?_  | refine o_assign st rfl rfl ?_  | refine o_pickT st rfl rfl rfl ?_  | refine o_pickF st rfl rfl rfl ?_); clear st; intro _ st)  | (refine o_alloc st rfl ?_; clear st; intro _ _ _ st)  | ((first | refine o_storeW st rfl rfl (by repeat constructor) rfl rfl rfl ?_); clear st; intro _ _ st)  | ((first | refine o_build0 st rfl ?_  | refine o_notT st rfl rfl ?_  | refine o_notF st rfl rfl ?_); clear st; intro _ st)  | (refine o_fop rfl st rfl rfl (by first | assumption | exact Is_ofInt _ _ | exact Is_lit (by decide +kernel)) (by first | assumption | exact Is_ofInt _ _ | exact Is_lit (by decide +kernel)) rfl ?_; clear st; intro _ _ _ _ st) ))
    refine post2 st Try.results58 (rd_c st rfl (by repeat constructor) rfl) (rd_t st rfl) ?_
    exact ⟨_, rfl, ⟨(0, 0, 0), rfl, IsS_z⟩, st.ex0⟩

theorem vs_at {vs pad : List Value} {j : Nat} {v : Value} {x : Int} (hx : x = (j : Int)) (h : vs[j]? = some v) : (vs ++ pad).toArray[0 + x.toNat * 1]? = some v := by
  subst hx
  have hj := (List.getElem?_eq_some_iff.1 h).1
  have e : 0 + ((j : Nat) : Int).toNat * 1 = j := by simp
  rw [e]
  simp only [List.getElem?_toArray]
  rw [List.getElem?_append_left hj]
  exact h
theorem sp_at {cs : Array Value} {off i : Nat} {bs : List B3} {x : Int} (hsp : SpotsIn cs off bs) (h : i < bs.length) (hx : x = (i : Int)) : cs[off + x.toNat * 3]? = some (.float .f32 bs[i].1) ∧ cs[off + x.toNat * 3 + 1]? = some (.float .f32 bs[i].2.1) ∧ cs[off + x.toNat * 3 + 2]? = some (.float .f32 bs[i].2.2) := by
  subst hx
  exact hsp i _ (List.getElem?_eq_getElem h)

set_option maxRecDepth 100000 in
set_option maxHeartbeats 32000000 in
theorem implPat_yes (bs : List B3) (ss : List S3) (h : IsSL bs ss) (base : Option Addr) (cap : Nat) (hcap : bs.length ≤ cap) (d : Int) (x y : Nat) (u v : Option Nat) (hx : Is .f32 x u) (hy : Is .f32 y v) (hq : patCan ss d u v = true) (w : World) (hr : RdS w base bs) (hlen : bs.length < 1000000000) :
    CSB Try.prog 58 [.slice base bs.length cap, .int .i64 d, .float .f32 x, .float .f32 y] w (giveS (patAt ss d u v)) (finS (patAt ss d u v)) := by
  refine enter Try.func58 rfl rfl rfl rfl ?_
  intro a st
  have hc := fun (w : World) hr => isPatch_ok bs ss h base cap d 3 (by omega) w hr hlen
  unfold patCan at hq
  have hg : fgeB .f32 (fop .sub .f32 (fop .sub .f32 one32 u) v) (some 0) = geZ (cPat u v) := rfl
  have hgu : fgeB .f32 u (some 0) = geZ u := rfl
  have hgv : fgeB .f32 v (some 0) = geZ v := rfl
  simp only [Bool.and_eq_true] at hq
  obtain ⟨h1, h2, h3, h4⟩ := hq
  obtain ⟨g, rfl, hg1, _, hg3, hsl, _⟩ := patch_nums (by omega) h1
  rw [h1] at hc
  rw [h2] at hgu
  rw [h3] at hgv
  rw [h4] at hg
  have hbl := h.len
  have htp : 0 < tot g := by have := plc_le (g := g) (k := 0) (by omega) (by omega); omega
  rcases id hr with rfl | ⟨ba, off, cs, ty, fr, rfl, hw, hsp⟩
  · simp at hbl; omega
  have hP : patAt ss g u v = (pN (cPat u v) u v g ss).headD z3 := rfl
  rw [hP]
  have hbt : bs.length = tot g := by omega
  have hro := fun (w : World) => rowsOf_ok g hg3 ba off cap (by omega) w
  rw [← hbt] at hro
  (repeat' (first | (refine o_callV st rfl (hc _ (hr.mono st.below)) rfl ?_; clear st; intro _ _ st)  | (refine o_fgeqK st rfl rfl hx (by first | assumption | exact Is_ofInt _ _ | exact Is_lit (by decide +kernel)) hgu rfl ?_; clear st; intro _ st)  | (refine o_fgeqK st rfl rfl hy (by first | assumption | exact Is_ofInt _ _ | exact Is_lit (by decide +kernel)) hgv rfl ?_; clear st; intro _ st)  | (refine o_fgeqK st rfl rfl (by assumption) (by first | assumption | exact Is_ofInt _ _ | exact Is_lit (by decide +kernel)) hg rfl ?_; clear st; intro _ st)  | (refine o_fop (ci := one32) (cj := u) rfl st rfl rfl (Is_lit (by decide +kernel)) hx rfl ?_; clear st; intro z0 _ _ hz0 st)  | (refine o_fop (cj := v) rfl st rfl rfl hz0 hy rfl ?_; clear st; intro z1 _ _ hz1 st)  | (refine o_callM1 st rfl (hro _) rfl ?_; clear st; rintro _ rb _ ⟨rc, rpad, rfl, rfl⟩ _ _ st)  | refine c_seq ?_  | refine c_region ?_  | refine l_do ?_  | refine l_doG st rfl rfl ?_  | refine l_nil ?_  | refine x_then ?_  | refine x_thenE ?_  | refine x_blkN ?_  | refine x_blkE ?_  | refine wp_ret ?_  | refine wp_skip ?_  | refine wp_block ?_  | refine wp_exit ?_  | refine c_condT st rfl ?_  | refine c_condF st rfl ?_  | ((first | refine o_move st rfl rfl ?_  | refine o_assign st rfl rfl ?_  | refine o_pickT st rfl rfl rfl ?_  | refine o_pickF st rfl rfl rfl ?_); clear st; intro _ st)  | (refine o_alloc st rfl ?_; clear st; intro _ _ _ st)  | ((first | refine o_loadS st rfl (by repeat constructor) rfl rfl ?_ ); clear st; intro _ st)  | ((first | refine o_storeW st rfl rfl (by repeat constructor) rfl rfl rfl ?_); clear st; intro _ _ st)  | ((first | refine o_extract st rfl rfl rfl ?_  | refine o_len st rfl rfl ?_  | refine o_add64 st rfl rfl rfl (by omega) (by omega) ?_  | refine o_sub64 st rfl rfl rfl (by omega) (by omega) ?_  | refine o_notT st rfl rfl ?_ ); clear st; intro _ st)  | (refine o_fop rfl st rfl rfl (by first | assumption | exact Is_ofInt _ _ | exact Is_lit (by decide +kernel)) (by first | assumption | exact Is_ofInt _ _ | exact Is_lit (by decide +kernel)) rfl ?_; clear st; intro _ _ _ _ st)  | ((first | refine o_lss st rfl rfl rfl ?_ ?_  | refine o_gtr st rfl rfl rfl ?_ ?_) <;> clear st <;> intro _ _ st <;> (try (exfalso; omega))) ))
  have hz1 : Is .f32 z1 (cPat u v) := hz1
  have hR0 := (rowsAt_first (cap := cap) hg3 h hsl hw hsp).mono st.below
  refine wp_loop_ghost (fun z a w' => ∃ (d pb rb rc : Nat) (vs rpad : List Value) (tt : List S3) (p0 p1 p2 : Value), d ≤ g ∧ z = d ∧ RowsAt w' vs tt d ∧ tt.length = tot d ∧ pN (cPat u v) u v d tt = pN (cPat u v) u v g ss ∧ St w Try.f58.ntmps a w' [(2, .float .f32 x), (3, .float .f32 y), (8, .pointer (some ⟨pb, 0, none⟩)), (10, .float .f32 z1), (11, .slice (some ⟨rb, 0, none⟩) (d + 1) rc)] [⟨pb, true, .cells [p0, p1, p2].toArray 26 (0, 0)⟩, ⟨rb, true, oR vs rpad⟩]) g ⟨g, _, rb, rc, _, rpad, ss, _, _, _, by omega, rfl, hR0, hsl, rfl, (by have st := St.front 8 st rfl (by repeat constructor); exact (st.fit (by repeat (first | exact trivial  | refine And.intro rfl ?_))).subL (by repeat (first | exact List.Sublist.refl _  | apply List.Sublist.cons_cons  | apply List.Sublist.cons  | exact List.nil_sublist _)))⟩ ?_
  clear st hR0 rb rc rpad
  rintro z a w' ⟨d, pb, rb, rc, vs, rpad, tt, p0, p1, p2, hd, rfl, hR, htl, hpn, st⟩
  by_cases hlt : 0 < z
  · have st0 := st
    have st : St w' _ a w' _ [⟨pb, false, .cells [p0, p1, p2].toArray 26 (0, 0)⟩, ⟨rb, false, oR vs rpad⟩] := st.here
    have e0 : ((z + 1 : Nat) : Int) - 1 = (z : Int) := by omega
    (repeat' (first | (refine o_buildSlice0 st rfl ?_; clear st; intro nb0 _ _ st)  | (refine o_sub64 st rfl rfl rfl (by omega) (by omega) ?_; clear st; intro _ st; rw [e0] at st)  | refine c_seq ?_  | refine c_region ?_  | refine l_do ?_  | refine l_doG st rfl rfl ?_  | refine l_nil ?_  | refine x_then ?_  | refine x_thenE ?_  | refine x_blkN ?_  | refine x_blkE ?_  | refine wp_ret ?_  | refine wp_skip ?_  | refine wp_block ?_  | refine wp_exit ?_  | refine c_condT st rfl ?_  | refine c_condF st rfl ?_  | ((first | refine o_move st rfl rfl ?_  | refine o_assign st rfl rfl ?_  | refine o_pickT st rfl rfl rfl ?_  | refine o_pickF st rfl rfl rfl ?_); clear st; intro _ st)  | (refine o_alloc st rfl ?_; clear st; intro _ _ _ st)  | ((first | refine o_loadS st rfl (by repeat constructor) rfl rfl ?_ ); clear st; intro _ st)  | ((first | refine o_storeW st rfl rfl (by repeat constructor) rfl rfl rfl ?_); clear st; intro _ _ st)  | ((first | refine o_extract st rfl rfl rfl ?_  | refine o_len st rfl rfl ?_  | refine o_add64 st rfl rfl rfl (by omega) (by omega) ?_  | refine o_sub64 st rfl rfl rfl (by omega) (by omega) ?_  | refine o_notT st rfl rfl ?_ ); clear st; intro _ st)  | (refine o_fop rfl st rfl rfl (by first | assumption | exact Is_ofInt _ _ | exact Is_lit (by decide +kernel)) (by first | assumption | exact Is_ofInt _ _ | exact Is_lit (by decide +kernel)) rfl ?_; clear st; intro _ _ _ _ st)  | ((first | refine o_lss st rfl rfl rfl ?_ ?_  | refine o_gtr st rfl rfl rfl ?_ ?_) <;> clear st <;> intro _ _ st <;> (try (exfalso; omega))) ))
    refine wp_loop_ghost (fun n a w2 => ∃ (j nb nc : Nat) (nvs npad : List Value) (Ls : List Ent), j ≤ z ∧ n = z - j ∧ NR (fun j => pRow tt (cPat u v) u v z j (z - j)) j nvs Ls ∧ (nvs ++ npad).length = nc ∧ St w' Try.f58.ntmps a w2 [(2, .float .f32 x), (3, .float .f32 y), (8, .pointer (some ⟨pb, 0, none⟩)), (10, .float .f32 z1), (11, .slice (some ⟨rb, 0, none⟩) (z + 1) rc), (12, .slice (some ⟨nb, 0, none⟩) j nc), (47, .int .i64 (z : Int)), (48, .int .i64 (j : Int))] (⟨nb, true, oR nvs npad⟩ :: ⟨pb, false, .cells [p0, p1, p2].toArray 26 (0, 0)⟩ :: ⟨rb, false, oR vs rpad⟩ :: Ls)) z ⟨0, nb0, 0, [], [], [], by omega, by omega, .nil, rfl, (st.fit (by repeat (first | exact trivial  | refine And.intro rfl ?_))).subL (by repeat (first | exact List.Sublist.refl _  | apply List.Sublist.cons_cons  | apply List.Sublist.cons  | exact List.nil_sublist _))⟩ ?_
    clear st nb0
    rintro n a w2 ⟨j, nb, nc, nvs, npad, Ls, hj, rfl, hNR, hnc, st⟩
    have hnvl := hNR.length
    by_cases hltj : j < z
    · obtain ⟨b0, off0, cap0, cs0, t0, fr0, bs0, hv0, hw0, hsp0, hI0⟩ := hR.2 j (by omega)
      obtain ⟨b1, off1, cap1, cs1, t1, fr1, bs1, hv1, hw1, hsp1, hI1⟩ := hR.2 (j + 1) (by omega)
      have hl0 := hI0.len
      have hl1 := hI1.len
      rw [rowOf_length (by omega) (by omega) htl] at hl0 hl1
      have hc0 := vs_at (pad := rpad) (x := (j : Int)) rfl hv0
      have hc1 := vs_at (pad := rpad) (x := (j : Int) + 1) (by omega) hv1
      have e1 : ((bs0.length : Nat) : Int) - 1 = ((z : Nat) : Int) - (j : Int) := by omega
      (repeat' (first | (refine o_buildSlice0S st rfl ?_; clear st; intro row0 _ _ st)  | (refine o_indexAddr st rfl rfl (by omega) (by omega) rfl ?_; clear st; intro _ st)  | (refine o_loadS st rfl (by repeat constructor) hc0 rfl ?_; clear st; intro _ st)  | (refine o_sub64 st rfl rfl rfl (by omega) (by omega) ?_; clear st; intro _ st; rw [e1] at st)  | refine c_seq ?_  | refine c_region ?_  | refine l_do ?_  | refine l_doG st rfl rfl ?_  | refine l_nil ?_  | refine x_then ?_  | refine x_thenE ?_  | refine x_blkN ?_  | refine x_blkE ?_  | refine wp_ret ?_  | refine wp_skip ?_  | refine wp_block ?_  | refine wp_exit ?_  | refine c_condT st rfl ?_  | refine c_condF st rfl ?_  | ((first | refine o_move st rfl rfl ?_  | refine o_assign st rfl rfl ?_  | refine o_pickT st rfl rfl rfl ?_  | refine o_pickF st rfl rfl rfl ?_); clear st; intro _ st)  | (refine o_alloc st rfl ?_; clear st; intro _ _ _ st)  | ((first | refine o_loadS st rfl (by repeat constructor) rfl rfl ?_ ); clear st; intro _ st)  | ((first | refine o_storeW st rfl rfl (by repeat constructor) rfl rfl rfl ?_); clear st; intro _ _ st)  | ((first | refine o_extract st rfl rfl rfl ?_  | refine o_len st rfl rfl ?_  | refine o_add64 st rfl rfl rfl (by omega) (by omega) ?_  | refine o_sub64 st rfl rfl rfl (by omega) (by omega) ?_  | refine o_notT st rfl rfl ?_ ); clear st; intro _ st)  | (refine o_fop rfl st rfl rfl (by first | assumption | exact Is_ofInt _ _ | exact Is_lit (by decide +kernel)) (by first | assumption | exact Is_ofInt _ _ | exact Is_lit (by decide +kernel)) rfl ?_; clear st; intro _ _ _ _ st)  | ((first | refine o_lss st rfl rfl rfl ?_ ?_  | refine o_gtr st rfl rfl rfl ?_ ?_) <;> clear st <;> intro _ _ st <;> (try (exfalso; omega))) ))
      refine wp_loop_ghost (fun n a w2 => ∃ (i blk cp : Nat) (os : List B3) (pad : List Value), i + j ≤ z ∧ n = z - j - i ∧ IsSL os (pRow tt (cPat u v) u v z j i) ∧ (cS os ++ pad).length = cp * 3 ∧ St w' Try.f58.ntmps a w2 [(2, .float .f32 x), (3, .float .f32 y), (8, .pointer (some ⟨pb, 0, none⟩)), (10, .float .f32 z1), (11, .slice (some ⟨rb, 0, none⟩) (z + 1) rc), (12, .slice (some ⟨nb, 0, none⟩) j nc), (13, .int .i64 (j : Int)), (14, .slice (some ⟨blk, 0, none⟩) os.length cp), (47, .int .i64 (z : Int)), (48, .int .i64 (j : Int)), (57, .int .i64 ((z : Int) - (j : Int))), (58, .int .i64 (i : Int))] (⟨blk, true, oS os pad⟩ :: ⟨nb, true, oR nvs npad⟩ :: ⟨pb, false, .cells [p0, p1, p2].toArray 26 (0, 0)⟩ :: ⟨rb, false, oR vs rpad⟩ :: Ls)) (z - j) ⟨0, row0, 0, [], [], by omega, by omega, IsSL_nil, rfl, (st.fit (by repeat (first | exact trivial  | refine And.intro rfl ?_))).subL (by repeat (first | exact List.Sublist.refl _  | apply List.Sublist.cons_cons  | apply List.Sublist.cons  | exact List.nil_sublist _))⟩ ?_
      clear st row0
      rintro n a w2 ⟨i, blk, cp, os, pad, hi, rfl, hIo, hp, st⟩
      have hol := hIo.len
      rw [pRow_length] at hol
      by_cases hlti : i + j < z
      · have hI00 := hI0.getD (p := i) (by omega)
        have hI01 := hI0.getD (p := i + 1) (by omega)
        have hI10 := hI1.getD (p := i) (by omega)
        rw [rowOf_getD (by omega)] at hI00 hI01 hI10
        have hp0 := sp_at (x := (i : Int)) hsp0 (by omega : i < bs0.length) rfl
        have hp1 := sp_at (x := (i : Int) + 1) hsp0 (by omega : i + 1 < bs0.length) (by omega)
        have hp2 := sp_at (x := (i : Int)) hsp1 (by omega : i < bs1.length) rfl
        have st := st.addOld hw0
        have st := st.addOld hw1
        (repeat' (first | refine c_seq ?_  | refine c_region ?_  | refine l_do ?_  | refine l_doG st rfl rfl ?_  | refine l_nil ?_  | refine x_then ?_  | refine x_thenE ?_  | refine x_blkN ?_  | refine x_blkE ?_  | refine wp_ret ?_  | refine wp_skip ?_  | refine wp_block ?_  | refine wp_exit ?_  | refine c_condT st rfl ?_  | refine c_condF st rfl ?_  | ((first | refine o_move st rfl rfl ?_  | refine o_assign st rfl rfl ?_  | refine o_pickT st rfl rfl rfl ?_  | refine o_pickF st rfl rfl rfl ?_); clear st; intro _ st)  | (refine o_alloc st rfl ?_; clear st; intro _ _ _ st)  | ((first | refine o_loadS st rfl (by repeat constructor) rfl rfl ?_ ); clear st; intro _ st)  | ((first | refine o_storeW st rfl rfl (by repeat constructor) rfl rfl rfl ?_); clear st; intro _ _ st)  | ((first | refine o_extract st rfl rfl rfl ?_  | refine o_len st rfl rfl ?_  | refine o_add64 st rfl rfl rfl (by omega) (by omega) ?_  | refine o_sub64 st rfl rfl rfl (by omega) (by omega) ?_  | refine o_notT st rfl rfl ?_ ); clear st; intro _ st)  | (refine o_fop rfl st rfl rfl (by first | assumption | exact Is_ofInt _ _ | exact Is_lit (by decide +kernel)) (by first | assumption | exact Is_ofInt _ _ | exact Is_lit (by decide +kernel)) rfl ?_; clear st; intro _ _ _ _ st)  | ((first | refine o_lss st rfl rfl rfl ?_ ?_  | refine o_gtr st rfl rfl rfl ?_ ?_) <;> clear st <;> intro _ _ st <;> (try (exfalso; omega))) ))
        refine c_draw (Lh := [⟨b1, false, .cells cs1 t1 fr1⟩, ⟨b0, false, .cells cs0 t0 fr0⟩, ⟨rb, false, oR vs rpad⟩]) (last := 34) hm_ (by decide +kernel) (by decide +kernel) st ?_; clear st; intro _ st
        refine d_v 0 st (by repeat constructor) rfl (by decide +kernel) rfl (v_move st rfl) ?_; clear st; intro _ st
        refine d_v 1 st (by repeat constructor) rfl (by decide +kernel) rfl (v_move st rfl) ?_; clear st; intro _ st
        refine d_v 2 st (by repeat constructor) rfl (by decide +kernel) rfl (v_move st rfl) ?_; clear st; intro _ st
        refine d_v 3 st (by repeat constructor) rfl (by decide +kernel) rfl (v_indexAddr st rfl rfl (by omega) (by omega)) ?_; clear st; intro _ st
        refine d_v 4 st (by repeat constructor) rfl (by decide +kernel) rfl (v_loadS st rfl (by repeat constructor) hc0) ?_; clear st; intro _ st
        refine d_v 5 st (by repeat constructor) rfl (by decide +kernel) rfl (v_move st rfl) ?_; clear st; intro _ st
        refine d_v 6 st (by repeat constructor) rfl (by decide +kernel) rfl (v_indexAddr st rfl rfl (by omega) (by omega)) ?_; clear st; intro _ st
        refine d_v 7 st (by repeat constructor) rfl (by decide +kernel) rfl (v_loadSp st rfl (by repeat constructor) hp0) ?_; clear st; intro _ st
        refine d_v 8 st (by repeat constructor) rfl (by decide +kernel) rfl (v_move st rfl) ?_; clear st; intro _ st
        refine d_v 10 st (by repeat constructor) rfl (by decide +kernel) rfl (v_move st rfl) ?_; clear st; intro _ st
        refine d_v 11 st (by repeat constructor) rfl (by decide +kernel) rfl (v_move st rfl) ?_; clear st; intro _ st
        refine d_v 12 st (by repeat constructor) rfl (by decide +kernel) rfl (v_indexAddr st rfl rfl (by omega) (by omega)) ?_; clear st; intro _ st
        refine d_v 13 st (by repeat constructor) rfl (by decide +kernel) rfl (v_loadS st rfl (by repeat constructor) hc0) ?_; clear st; intro _ st
        refine d_v 14 st (by repeat constructor) rfl (by decide +kernel) rfl (v_move st rfl) ?_; clear st; intro _ st
        refine d_v 15 st (by repeat constructor) rfl (by decide +kernel) rfl (v_add64 st rfl rfl (by omega) (by omega)) ?_; clear st; intro _ st
        refine d_v 16 st (by repeat constructor) rfl (by decide +kernel) rfl (v_indexAddr st rfl rfl (by omega) (by omega)) ?_; clear st; intro _ st
        refine d_v 17 st (by repeat constructor) rfl (by decide +kernel) rfl (v_loadSp st rfl (by repeat constructor) hp1) ?_; clear st; intro _ st
        refine d_v 18 st (by repeat constructor) rfl (by decide +kernel) rfl (v_move st rfl) ?_; clear st; intro _ st
        refine d_v 21 st (by repeat constructor) rfl (by decide +kernel) rfl (v_move st rfl) ?_; clear st; intro _ st
        refine d_v 22 st (by repeat constructor) rfl (by decide +kernel) rfl (v_move st rfl) ?_; clear st; intro _ st
        refine d_v 23 st (by repeat constructor) rfl (by decide +kernel) rfl (v_add64 st rfl rfl (by omega) (by omega)) ?_; clear st; intro _ st
        refine d_v 24 st (by repeat constructor) rfl (by decide +kernel) rfl (v_indexAddr st rfl rfl (by omega) (by omega)) ?_; clear st; intro _ st
        refine d_v 25 st (by repeat constructor) rfl (by decide +kernel) rfl (v_loadS st rfl (by repeat constructor) hc1) ?_; clear st; intro _ st
        refine d_v 26 st (by repeat constructor) rfl (by decide +kernel) rfl (v_move st rfl) ?_; clear st; intro _ st
        refine d_v 27 st (by repeat constructor) rfl (by decide +kernel) rfl (v_indexAddr st rfl rfl (by omega) (by omega)) ?_; clear st; intro _ st
        refine d_v 28 st (by repeat constructor) rfl (by decide +kernel) rfl (v_loadSp st rfl (by repeat constructor) hp2) ?_; clear st; intro _ st
        refine d_v 29 st (by repeat constructor) rfl (by decide +kernel) rfl (v_move st rfl) ?_; clear st; intro _ st
        refine d_one 9 (by decide +kernel) rfl ?_
        refine o_callSb st rfl (times_ok _ _ hI00 _ _ hz1 _) rfl ?_; clear st; intro q1 hq1 _ _ st
        refine kh st (by repeat constructor) ?_
        refine d_one 19 (by decide +kernel) rfl ?_
        refine o_callSb st rfl (times_ok _ _ hI01 _ _ hx _) rfl ?_; clear st; intro q2 hq2 _ _ st
        refine kh st (by repeat constructor) ?_
        refine d_one 20 (by decide +kernel) rfl ?_
        refine o_callSb st rfl (add_ok q1 q2 _ _ hq1 hq2 _) rfl ?_; clear st; intro q3 hq3 _ _ st
        refine kh st (by repeat constructor) ?_
        refine d_one 30 (by decide +kernel) rfl ?_
        refine o_callSb st rfl (times_ok _ _ hI10 _ _ hy _) rfl ?_; clear st; intro q4 hq4 _ _ st
        refine kh st (by repeat constructor) ?_
        refine d_one 31 (by decide +kernel) rfl ?_
        refine o_callSb st rfl (add_ok q3 q4 _ _ hq3 hq4 _) rfl ?_; clear st; intro q5 hq5 _ _ st
        refine kh st (by repeat constructor) ?_
        refine d_one 32 (by decide +kernel) rfl ?_
        refine o_buildSliceS [_] st rfl rfl rfl rfl rfl ?_; clear st; intro _ _ _ st
        refine kh st (by repeat constructor) ?_
        refine d_one 33 (by decide +kernel) rfl ?_
        refine o_append1 rfl st rfl rfl (by repeat constructor) (by repeat constructor) hp (by omega) rfl ?_; clear st; intro blk1 cap1 pad1 _ _ hp1 st
        refine kh st (by repeat constructor) ?_
        refine d_one 34 (by decide +kernel) rfl ?_
        (first | (refine o_assign st rfl rfl ?_; clear st; intro _ st))
        refine k_last ?_
        refine d_done (by decide +kernel) ?_
        (repeat' (first | refine c_seq ?_  | refine c_region ?_  | refine l_do ?_  | refine l_doG st rfl rfl ?_  | refine l_nil ?_  | refine x_then ?_  | refine x_thenE ?_  | refine x_blkN ?_  | refine x_blkE ?_  | refine wp_ret ?_  | refine wp_skip ?_  | refine wp_block ?_  | refine wp_exit ?_  | refine c_condT st rfl ?_  | refine c_condF st rfl ?_  | ((first | refine o_move st rfl rfl ?_  | refine o_assign st rfl rfl ?_  | refine o_pickT st rfl rfl rfl ?_  | refine o_pickF st rfl rfl rfl ?_); clear st; intro _ st)  | (refine o_alloc st rfl ?_; clear st; intro _ _ _ st)  | ((first | refine o_loadS st rfl (by repeat constructor) rfl rfl ?_ ); clear st; intro _ st)  | ((first | refine o_storeW st rfl rfl (by repeat constructor) rfl rfl rfl ?_); clear st; intro _ _ st)  | ((first | refine o_extract st rfl rfl rfl ?_  | refine o_len st rfl rfl ?_  | refine o_add64 st rfl rfl rfl (by omega) (by omega) ?_  | refine o_sub64 st rfl rfl rfl (by omega) (by omega) ?_  | refine o_notT st rfl rfl ?_ ); clear st; intro _ st)  | (refine o_fop rfl st rfl rfl (by first | assumption | exact Is_ofInt _ _ | exact Is_lit (by decide +kernel)) (by first | assumption | exact Is_ofInt _ _ | exact Is_lit (by decide +kernel)) rfl ?_; clear st; intro _ _ _ _ st)  | ((first | refine o_lss st rfl rfl rfl ?_ ?_  | refine o_gtr st rfl rfl rfl ?_ ?_) <;> clear st <;> intro _ _ st <;> (try (exfalso; omega))) ))
        refine ⟨z - j - (i + 1), by omega, i + 1, blk1, _, os ++ [q5], pad1, by omega, rfl, ?_, hp1, (st.fit (by repeat (first | exact trivial  | refine And.intro rfl ?_))).subL (by repeat (first | exact List.Sublist.refl _  | apply List.Sublist.cons_cons  | apply List.Sublist.cons  | exact List.nil_sublist _))⟩
        rw [pRow_succ]
        exact hIo.push hq5
      · have hi' : i = z - j := by omega
        subst hi'
        (repeat' (first | (refine o_buildSlice (parts := [_]) st rfl rfl rfl rfl rfl rfl ?_; clear st; intro _ _ _ st)  | (refine o_append1V (olds := nvs) rfl st rfl rfl (by repeat constructor) (by repeat constructor) hnvl hnc rfl (by omega) rfl ?_; clear st; intro nb1 nc1 npad1 _ _ hnc1 st)  | refine c_seq ?_  | refine c_region ?_  | refine l_do ?_  | refine l_doG st rfl rfl ?_  | refine l_nil ?_  | refine x_then ?_  | refine x_thenE ?_  | refine x_blkN ?_  | refine x_blkE ?_  | refine wp_ret ?_  | refine wp_skip ?_  | refine wp_block ?_  | refine wp_exit ?_  | refine c_condT st rfl ?_  | refine c_condF st rfl ?_  | ((first | refine o_move st rfl rfl ?_  | refine o_assign st rfl rfl ?_  | refine o_pickT st rfl rfl rfl ?_  | refine o_pickF st rfl rfl rfl ?_); clear st; intro _ st)  | (refine o_alloc st rfl ?_; clear st; intro _ _ _ st)  | ((first | refine o_loadS st rfl (by repeat constructor) rfl rfl ?_ ); clear st; intro _ st)  | ((first | refine o_storeW st rfl rfl (by repeat constructor) rfl rfl rfl ?_); clear st; intro _ _ st)  | ((first | refine o_extract st rfl rfl rfl ?_  | refine o_len st rfl rfl ?_  | refine o_add64 st rfl rfl rfl (by omega) (by omega) ?_  | refine o_sub64 st rfl rfl rfl (by omega) (by omega) ?_  | refine o_notT st rfl rfl ?_ ); clear st; intro _ st)  | (refine o_fop rfl st rfl rfl (by first | assumption | exact Is_ofInt _ _ | exact Is_lit (by decide +kernel)) (by first | assumption | exact Is_ofInt _ _ | exact Is_lit (by decide +kernel)) rfl ?_; clear st; intro _ _ _ _ st)  | ((first | refine o_lss st rfl rfl rfl ?_ ?_  | refine o_gtr st rfl rfl rfl ?_ ?_) <;> clear st <;> intro _ _ st <;> (try (exfalso; omega))) ))
        have hN2 := NR.snoc (b := blk) (cp := cp) (pad := pad) hNR hIo
        have st := (st.fit (E' := [(2, .float .f32 x), (3, .float .f32 y), (8, .pointer (some ⟨pb, 0, none⟩)), (10, .float .f32 z1), (11, .slice (some ⟨rb, 0, none⟩) (z + 1) rc), (12, .slice (some ⟨nb1, 0, none⟩) (j + 1) nc1), (47, .int .i64 (z : Int)), (48, .int .i64 ((j + 1 : Nat) : Int))]) (by repeat (first | exact trivial  | refine And.intro rfl ?_))).subL (L' := ⟨nb1, true, oR (nvs ++ [.slice (some ⟨blk, 0, none⟩) os.length cp]) npad1⟩ :: ⟨blk, true, oS os pad⟩ :: ⟨pb, false, .cells [p0, p1, p2].toArray 26 (0, 0)⟩ :: ⟨rb, false, oR vs rpad⟩ :: Ls) (by repeat (first | exact List.Sublist.refl _  | apply List.Sublist.cons_cons  | apply List.Sublist.cons  | exact List.nil_sublist _))
        refine ⟨z - (j + 1), by omega, j + 1, nb1, nc1, _, npad1, _, by omega, rfl, hN2, hnc1, st.perm ?_⟩
        refine List.Perm.cons _ ?_
        exact (List.Perm.swap _ _ _).trans (List.Perm.cons _ (List.Perm.swap _ _ _))
    · have hj' : j = z := by omega
      subst hj'
      (repeat' (first | refine c_seq ?_  | refine c_region ?_  | refine l_do ?_  | refine l_doG st rfl rfl ?_  | refine l_nil ?_  | refine x_then ?_  | refine x_thenE ?_  | refine x_blkN ?_  | refine x_blkE ?_  | refine wp_ret ?_  | refine wp_skip ?_  | refine wp_block ?_  | refine wp_exit ?_  | refine c_condT st rfl ?_  | refine c_condF st rfl ?_  | ((first | refine o_move st rfl rfl ?_  | refine o_assign st rfl rfl ?_  | refine o_pickT st rfl rfl rfl ?_  | refine o_pickF st rfl rfl rfl ?_); clear st; intro _ st)  | (refine o_alloc st rfl ?_; clear st; intro _ _ _ st)  | ((first | refine o_loadS st rfl (by repeat constructor) rfl rfl ?_ ); clear st; intro _ st)  | ((first | refine o_storeW st rfl rfl (by repeat constructor) rfl rfl rfl ?_); clear st; intro _ _ st)  | ((first | refine o_extract st rfl rfl rfl ?_  | refine o_len st rfl rfl ?_  | refine o_add64 st rfl rfl rfl (by omega) (by omega) ?_  | refine o_sub64 st rfl rfl rfl (by omega) (by omega) ?_  | refine o_notT st rfl rfl ?_ ); clear st; intro _ st)  | (refine o_fop rfl st rfl rfl (by first | assumption | exact Is_ofInt _ _ | exact Is_lit (by decide +kernel)) (by first | assumption | exact Is_ofInt _ _ | exact Is_lit (by decide +kernel)) rfl ?_; clear st; intro _ _ _ _ st)  | ((first | refine o_lss st rfl rfl rfl ?_ ?_  | refine o_gtr st rfl rfl rfl ?_ ?_) <;> clear st <;> intro _ _ st <;> (try (exfalso; omega))) ))
      obtain ⟨e, rfl⟩ : ∃ e, j = e + 1 := ⟨j - 1, by omega⟩
      have hR2 := NR.rowsAt (Lp := [_, _, _]) (by omega) hNR st
      have st := (st.fit (E' := [(2, .float .f32 x), (3, .float .f32 y), (8, .pointer (some ⟨pb, 0, none⟩)), (10, .float .f32 z1), (11, .slice (some ⟨nb, 0, none⟩) (e + 1) nc)]) (by repeat (first | exact trivial  | refine And.intro rfl ?_))).subL (L' := [⟨nb, true, oR nvs npad⟩, ⟨pb, false, .cells [p0, p1, p2].toArray 26 (0, 0)⟩]) (by repeat (first | exact List.Sublist.refl _  | apply List.Sublist.cons_cons  | apply List.Sublist.cons  | exact List.nil_sublist _))
      exact ⟨e, by omega, e, pb, nb, nc, nvs, npad, _, p0, p1, p2, by omega, rfl, hR2, pAll_length tt _ _ _ e (by omega), hpn, st0.backOwn (by repeat constructor) (st.perm (List.Perm.swap _ _ _)) (by simp)⟩
  · have hz : z = 0 := by omega
    subst hz
    obtain ⟨b0, off0, cap0, cs0, t0, fr0, bs0, hv0, hw0, hsp0, hI0⟩ := hR.2 0 (by omega)
    have hl0 := hI0.len
    rw [rowOf_length (by omega) (by omega) htl] at hl0
    have hc0 := vs_at (pad := rpad) (x := (0 : Int)) rfl hv0
    have hp0 := sp_at (x := (0 : Int)) hsp0 (by omega : 0 < bs0.length) rfl
    have hI00 := hI0.getD (p := 0) (by omega)
    rw [rowOf_getD (by omega)] at hI00
    rw [← hpn]
    have hpn0 : pN (cPat u v) u v 0 tt = tt := rfl
    rw [hpn0]
    have hhd : tt.getD (plc 0 0 0) z3 = tt.headD z3 := by cases tt <;> rfl
    rw [hhd] at hI00
    (repeat' (first | (refine o_indexAddr st rfl rfl (by omega) (by omega) rfl ?_; clear st; intro _ st)  | (refine o_loadS st rfl (by repeat constructor) hc0 rfl ?_; clear st; intro _ st)  | (refine o_loadCur st rfl hw0 hp0 rfl ?_; clear st; intro _ st)  | (refine o_callSBb st rfl (ifSpot_ok _ _ hI00 _) rfl ?_; clear st; intro b1 hb1 _ _ st)  | refine c_seq ?_  | refine c_region ?_  | refine l_do ?_  | refine l_doG st rfl rfl ?_  | refine l_nil ?_  | refine x_then ?_  | refine x_thenE ?_  | refine x_blkN ?_  | refine x_blkE ?_  | refine wp_ret ?_  | refine wp_skip ?_  | refine wp_block ?_  | refine wp_exit ?_  | refine c_condT st rfl ?_  | refine c_condF st rfl ?_  | ((first | refine o_move st rfl rfl ?_  | refine o_assign st rfl rfl ?_  | refine o_pickT st rfl rfl rfl ?_  | refine o_pickF st rfl rfl rfl ?_); clear st; intro _ st)  | (refine o_alloc st rfl ?_; clear st; intro _ _ _ st)  | ((first | refine o_loadS st rfl (by repeat constructor) rfl rfl ?_ ); clear st; intro _ st)  | ((first | refine o_storeW st rfl rfl (by repeat constructor) rfl rfl rfl ?_); clear st; intro _ _ st)  | ((first | refine o_extract st rfl rfl rfl ?_  | refine o_len st rfl rfl ?_  | refine o_add64 st rfl rfl rfl (by omega) (by omega) ?_  | refine o_sub64 st rfl rfl rfl (by omega) (by omega) ?_  | refine o_notT st rfl rfl ?_ ); clear st; intro _ st)  | (refine o_fop rfl st rfl rfl (by first | assumption | exact Is_ofInt _ _ | exact Is_lit (by decide +kernel)) (by first | assumption | exact Is_ofInt _ _ | exact Is_lit (by decide +kernel)) rfl ?_; clear st; intro _ _ _ _ st)  | ((first | refine o_lss st rfl rfl rfl ?_ ?_  | refine o_gtr st rfl rfl rfl ?_ ?_) <;> clear st <;> intro _ _ st <;> (try (exfalso; omega))) ))
    refine post2 st Try.results58 (rd_c st rfl (by repeat constructor) rfl) (rd_t st rfl) ?_
    exact ⟨_, rfl, ⟨b1, rfl, hb1⟩, st.ex0⟩
theorem implPat_ok (bs : List B3) (ss : List S3) (h : IsSL bs ss) (base : Option Addr) (cap : Nat) (hcap : bs.length ≤ cap) (d : Int) (x y : Nat) (u v : Option Nat) (hx : Is .f32 x u) (hy : Is .f32 y v) (w : World) (hr : RdS w base bs) (hlen : bs.length < 1000000000) :
    CSB Try.prog 58 [.slice base bs.length cap, .int .i64 d, .float .f32 x, .float .f32 y] w (patC ss d u v) (patOk ss d u v) := by
  unfold patC patOk
  cases hq : patCan ss d u v
  · exact implPat_can bs ss h base cap d x y u v hx hy hq w hr hlen
  · exact implPat_yes bs ss h base cap hcap d x y u v hx hy hq w hr hlen
end Go.Proofs.Ytefnlalldgbcaaa
