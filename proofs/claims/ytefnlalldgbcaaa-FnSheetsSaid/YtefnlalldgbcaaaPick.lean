/-
  How the arguments of the statements read, further: lists of bytes.
-/
import Derived.Test.YtefnlalldgbcaaaO
import Derived.Test.YtefnlalldgbcaaaBytes
import Derived.Test.YtefnlalldgbcaaaPrw
namespace Go.Proofs.Ytefnlalldgbcaaa
open Go.ChangeShapes Go.WideShapes Go.ChangeAt Go.RowKit Go.Joins

section
variable {H : Type} {enc : TypeId × Value → H} {w : World} {base : Nat} {spare : Nat → Bool} {held : Bool}

theorem byte_cells {n : Nat} {v : Value} {y : DataW H × List MemPlace} (h : DataW.trod enc Try.prog w base spare held n 5 [v] = some y) : ∃ i : Int, v = .int .u8 i ∧ 0 ≤ i ∧ i ≤ 255 := by
  cases n with
  | zero => simp [DataW.trod] at h
  | succ n =>
    simp only [DataW.trod, Try.underlying5] at h
    cases v <;> simp at h
    rename_i k' b
    obtain ⟨⟨rfl, hw⟩, _⟩ := h
    exact ⟨b, rfl, by simpa using bounds_u8 hw⟩
set_option maxRecDepth 100000 in
theorem bytes_of_trod {r : Reach} {b0 : Nat} {v : Value} {d : DataW H} {p : List MemPlace} (hv : Value.okWide Try.prog w r b0 57 v) (h : DataW.Trod enc Try.prog w base spare held 57 v d p) :
    ∃ (cs : List Int) (ba : Option Addr) (cap : Nat), v = .slice ba cs.length cap ∧ RdB w ba cs ∧ okB cs ∧ cs.length ≤ 9223372036854775807 := by
  obtain ⟨ba, len, cap, rfl⟩ := okWide_slice Try.underlying57 hv
  obtain ⟨n, hf⟩ := h
  have ce : Try.prog.cellsOf 5 = 1 := by kernel_rfl
  rcases Deep.open_slice Try.underlying57 hf with ⟨h0, _⟩ | ⟨a, len', cap', m, n', D, Pl, h0, hb, hl, hm, hmm, _, hx⟩
  · cases h0
    exact ⟨[], none, 0, rfl, .inl rfl, (by intro c hc; cases hc), Nat.zero_le _⟩
  · cases h0
    have hlm : len ≤ m := by rw [hmm]; split <;> omega
    have each : ∀ i, i < len → ∃ b : Int, (0 ≤ b ∧ b ≤ 255) ∧ w.cell? (a.add (i * 1)) = some (.int .u8 b) := by
      intro i hi
      obtain ⟨cs', h1, h2⟩ := hx i (by omega)
      rw [ce] at h1
      obtain ⟨_, hlen, hcell⟩ := World.cells?_some h1
      match cs', hlen with
      | [v], _ =>
        obtain ⟨b, rfl, hb⟩ := byte_cells h2
        exact ⟨b, hb, by simpa [Addr.add] using hcell 0 (by omega)⟩
    obtain ⟨f, hf⟩ := Deep.choose_lt each
    have hml : maxLen = 9223372036854775807 := rfl
    refine ⟨(List.range len).map f, some a, cap, by simp, ?_, ?_, by simp; omega⟩
    · by_cases hz : len = 0
      · left; simp [hz]
      · right
        obtain ⟨cs, t, fr, hh, hs, _⟩ := cell_spot (hf 0 (by omega)).2
        have hs' : a.spot = none := by simpa [Addr.add] using hs
        have hh' : w.heap[a.block]? = some (.cells cs t fr) := by simpa [Addr.add] using hh
        have ha : a = ⟨a.block, a.off, none⟩ := by cases a; simp at hs'; simp [hs']
        refine ⟨a.block, a.off, cs, t, fr, by rw [← ha], hh', ?_⟩
        intro i b hb
        have hi : i < len := by
          have := (List.getElem?_eq_some_iff.1 hb).1
          simpa using this
        have hfb : f i = b := by simpa [hi] using hb
        obtain ⟨_, g0⟩ := hf i hi
        rw [hfb] at g0
        rw [ha] at g0
        simp only [Addr.add_lit] at g0
        rw [cell_of_row w a.block _ cs t fr hh'] at g0
        simpa using g0
    · intro b hb
      obtain ⟨i, hi, rfl⟩ := List.mem_map.1 hb
      exact (hf i (List.mem_range.1 hi)).1
end
end Go.Proofs.Ytefnlalldgbcaaa

namespace Go.Proofs.Ytefnlalldgbcaaa
open Go.RowKit

/-- The quarter of a number, as a float. -/
def qC (i : Int) : Option Nat := fop .quo .f32 (some (floatOfInt .f32 i)) (some 1082130432)
/-- A spot of quarters. -/
def isQ (s : S3) : Prop := ∃ i j k : Int, s = (qC i, qC j, qC k) ∧ -16 ≤ i ∧ i ≤ 16 ∧ -16 ≤ j ∧ j ≤ 16 ∧ -8 ≤ k ∧ k ≤ 8

section
variable {P : Program} {w0 w : World} {N : Nat} {a : Act} {E : List (Nat × Value)} {L Lh : List Ent} {K : Act → World → Prop} {Q : Exit → Act → World → Prop}
variable {d : Nat} {ty : TypeId} {pos : String} {aft : Array Edge} {g : Option (Nat × Bool)}
/-- A call that changes one block and makes another. -/
def CUM (P : Program) (f : FuncId) (vs : List Value) (w : World) (b : Nat) (R : Value → Nat → Obj → Obj → Prop) : Prop :=
  Calls P f vs.toArray w fun e w' => ∃ v nb no o', e = .returned v ∧ R v nb no o' ∧ Below b w w' ∧ (∀ k, k ≠ b → k < w.heap.size → w'.heap[k]? = w.heap[k]?) ∧ w'.heap[b]? = some o' ∧ w'.heap[nb]? = some no ∧ w.heap.size ≤ nb
theorem St.updNew {w' : World} {b nb : Nat} {o o' no : Obj} {L' : List Ent} (st : St w0 N a w E L) (hu : Upd L b o o' L') (hw : Below b w w') (hb : ∀ k, k ≠ b → k < w.heap.size → w'.heap[k]? = w.heap[k]?) (hn : w'.heap[b]? = some o') (h1 : w'.heap[nb]? = some no) (h2 : w.heap.size ≤ nb) : St w0 N a w' E (⟨nb, true, no⟩ :: L') := by
  have s := st.upd hu hw hb hn
  refine ⟨s.env, s.size, s.defers, s.below, ?_, ?_⟩
  · intro e he
    rcases List.mem_cons.1 he with rfl | he
    · exact ⟨h1, fun _ => Nat.le_trans st.below.size h2⟩
    · exact s.facts e he
  · refine List.pairwise_cons.2 ⟨?_, s.uniq⟩
    intro e he _
    have hlt : e.b < w.heap.size := by
      rcases hu.mem e he with rfl | he
      · exact st.lt hu.old
      · exact (Array.getElem?_eq_some_iff.1 (st.facts e he).1).1
    show nb ≠ e.b
    omega
theorem o_callUM {f : FuncId} {args : List Operand} {tys : Array TypeId} {vs : List Value} {b : Nat} {o : Obj} {R : Value → Nat → Obj → Obj → Prop} {L' : Obj → List Ent} [hf : FnT P f] (st : St w0 N a w E L) (ha : evs E args = some vs)
    (hc : CUM P f vs w b R) (hU : ∀ o', Upd L b o o' (L' o')) (hd : Nat.blt d N = true) (h : ∀ v nb no o', R v nb no o' → ∀ a' w', St w0 N a' w' ((d, v) :: E) (⟨nb, true, no⟩ :: L' o') → K a' w') : Oper.wp P ⟨some d, .call { callee := .value (.func f), args := args.toArray, argTypes := tys }, ty, pos, aft, g⟩ a w K Q :=
  o_call st ha hc fun _ _ ⟨v, nb, no, o', he, hR, hB, ho, hn, h1, h2⟩ => ⟨v, he, h v nb no o' hR _ _ ((st.updNew (hU o') hB ho hn h1 h2).put d hd _)⟩
theorem o_rem64I {x y : Operand} {t ys : TypeId} {i : Nat} {j : Int} (st : St w0 N a w E L) (hx : evE E x = some (.int .i64 (i : Int))) (hy : evE E y = some (.int .i64 j)) (hj : 0 < j) (hd : Nat.blt d N = true)
    (h : ∀ (r : Nat) a', (r : Int) < j → St w0 N a' w ((d, .int .i64 (r : Int)) :: E) L → K a' w) : Oper.wp P ⟨some d, .binOp .rem t x y ys, ty, pos, aft, g⟩ a w K Q := by
  obtain ⟨m, rfl⟩ : ∃ m : Nat, j = (m : Int) := ⟨j.toNat, by omega⟩
  have hlt : i % m < m := Nat.mod_lt _ (by omega)
  exact o_rem64 st hx hy (by omega) hd fun a' st => h (i % m) a' (by omega) st
end

attribute [local irreducible] Code.wp wpList Oper.wp Calls bodyPost Exit.then Exit.inBlock

set_option maxHeartbeats 16000000 in
theorem pick_ok (n : Int) (h1 : 1 < n) (cs : List Int) (hok : okB cs) (hlen : cs.length ≤ 1000000000) (base : Option Addr) (cap at_ : Nat) (hat : at_ ≤ 999999990) (sd : Int) (b : Nat) (w : World) (hr : RdB w base cs) (hb : w.heap[b]? = some (oSrc base cs.length cap at_ sd)) :
    CUX Try.prog 180 [.pointer (some ⟨b, 0, none⟩), .int .i64 n] w b (fun v o' => ∃ (x at' : Nat) (sd' : Int), v = .int .i64 x ∧ (x : Int) < n ∧ at_ ≤ at' ∧ at' ≤ at_ + 2 ∧ o' = oSrc base cs.length cap at' sd') := by
  obtain ⟨Lk, hLk, hcode⟩ := hr.code hb
  refine enterUX Lk hLk hb Try.func180 rfl rfl rfl rfl ?_
  intro a w0 Lf st
  have hrd : ∀ {a : Act} {w : World} {E : List (Nat × Value)} {o : Obj}, St w0 Try.f180.ntmps a w E (⟨b, true, o⟩ :: (Lk ++ Lf)) → RdB w base cs := fun s => hcode _ fun e he => (s.facts e (List.mem_cons_of_mem _ (List.mem_append_left _ he))).1
  (repeat' (first | (refine o_mul64 st rfl rfl rfl (by omega) (by omega) ?_; clear st; intro _ st)  | (refine o_callUX (L' := fun o' => ⟨b, true, o'⟩ :: (Lk ++ Lf)) st rfl (next_ok cs hok hlen base cap at_ (by omega) sd b _ (hrd st) (st.heap (by repeat constructor))) (fun o' => Upd.here) rfl ?_; clear st; rintro _ _ ⟨x, sd1, rfl, hx, rfl⟩ _ _ st)  | refine c_seq ?_  | refine c_region ?_  | refine l_do ?_  | refine l_nil ?_  | refine x_then ?_  | refine wp_ret ?_  | refine wp_skip ?_  | refine c_condT st rfl ?_  | refine c_condF st rfl ?_  | ((first | refine o_move st rfl rfl ?_  | refine o_assign st rfl rfl ?_  | refine o_add64 st rfl rfl rfl (by omega) (by omega) ?_ ); clear st; intro _ st)  | ((first | refine o_leq st rfl rfl rfl ?_ ?_  | refine o_gtr st rfl rfl rfl ?_ ?_) <;> clear st <;> intro _ _ st <;> (try (exfalso; omega)))))
  · (repeat' (first | (refine o_add64 st rfl rfl rfl (by omega) (by omega) ?_; clear st; intro _ st)  | (refine o_callUX (L' := fun o' => ⟨b, true, o'⟩ :: (Lk ++ Lf)) st rfl (next_ok cs hok hlen base cap (at_ + 1) (by omega) sd1 b _ (hrd st) (st.heap (by repeat constructor))) (fun o' => Upd.here) rfl ?_; clear st; rintro _ _ ⟨y, sd2, rfl, hy, rfl⟩ _ _ st)  | refine c_seq ?_  | refine c_region ?_  | refine l_do ?_  | refine l_nil ?_  | refine x_then ?_  | refine wp_ret ?_  | refine wp_skip ?_  | refine c_condT st rfl ?_  | refine c_condF st rfl ?_  | ((first | refine o_move st rfl rfl ?_  | refine o_assign st rfl rfl ?_  | refine o_add64 st rfl rfl rfl (by omega) (by omega) ?_ ); clear st; intro _ st)  | ((first | refine o_leq st rfl rfl rfl ?_ ?_  | refine o_gtr st rfl rfl rfl ?_ ?_) <;> clear st <;> intro _ _ st <;> (try (exfalso; omega)))))
    have e1 : (x : Int) * 256 + (y : Int) = ((x * 256 + y : Nat) : Int) := by omega
    rw [e1] at st
    (repeat' (first | (refine o_rem64I st rfl rfl (by omega) rfl ?_; clear st; intro r _ hr st)  | refine c_seq ?_  | refine c_region ?_  | refine l_do ?_  | refine l_nil ?_  | refine x_then ?_  | refine wp_ret ?_  | refine wp_skip ?_  | refine c_condT st rfl ?_  | refine c_condF st rfl ?_  | ((first | refine o_move st rfl rfl ?_  | refine o_assign st rfl rfl ?_  | refine o_add64 st rfl rfl rfl (by omega) (by omega) ?_ ); clear st; intro _ st)  | ((first | refine o_leq st rfl rfl rfl ?_ ?_  | refine o_gtr st rfl rfl rfl ?_ ?_) <;> clear st <;> intro _ _ st <;> (try (exfalso; omega)))))
    refine post1 st Try.results180 (rd_t st rfl) ?_
    exact ⟨_, _, rfl, ⟨r, _, sd2, rfl, hr, by omega, by omega, rfl⟩, _, (st.fit (E' := []) trivial).subL (List.Sublist.cons_cons _ (List.sublist_append_right _ _))⟩
  · (repeat' (first | (refine o_rem64I st rfl rfl (by omega) rfl ?_; clear st; intro r _ hr st)  | refine c_seq ?_  | refine c_region ?_  | refine l_do ?_  | refine l_nil ?_  | refine x_then ?_  | refine wp_ret ?_  | refine wp_skip ?_  | refine c_condT st rfl ?_  | refine c_condF st rfl ?_  | ((first | refine o_move st rfl rfl ?_  | refine o_assign st rfl rfl ?_  | refine o_add64 st rfl rfl rfl (by omega) (by omega) ?_ ); clear st; intro _ st)  | ((first | refine o_leq st rfl rfl rfl ?_ ?_  | refine o_gtr st rfl rfl rfl ?_ ?_) <;> clear st <;> intro _ _ st <;> (try (exfalso; omega)))))
    refine post1 st Try.results180 (rd_t st rfl) ?_
    exact ⟨_, _, rfl, ⟨r, _, sd1, rfl, hr, by omega, by omega, rfl⟩, _, (st.fit (E' := []) trivial).subL (List.Sublist.cons_cons _ (List.sublist_append_right _ _))⟩
end Go.Proofs.Ytefnlalldgbcaaa
