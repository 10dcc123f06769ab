/-
  Choices from bytes, further: picks, spots that are drawn, numbers that an input chooses.
-/
import Derived.Test.YtefnlalldgbcaaaBytes
import Derived.Test.YtefnlalldgbcaaaPrw
import Derived.Test.YtefnlalldgbcaaaGap
import Derived.Test.YtefnlalldgbcaaaS
import Derived.Test.YtefnlalldgbcaaaX
namespace Go.Proofs.Ytefnlalldgbcaaa
open Go.RowKit

/-- The quarter of a number, as a float. -/
def qC (i : Int) : Option Nat := fop .quo .f32 (some (floatOfInt .f32 i)) (some 1082130432)
/-- A spot of quarters. -/
def isQ (s : S3) : Prop := ∃ i j k : Int, s = (qC i, qC j, qC k) ∧ -16 ≤ i ∧ i ≤ 16 ∧ -16 ≤ j ∧ j ≤ 16 ∧ -8 ≤ k ∧ k ≤ 8

section
variable {P : Program} {w0 w : World} {N : Nat} {a : Act} {E : List (Nat × Value)} {L Lh : List Ent} {K : Act → World → Prop} {Q : Exit → Act → World → Prop}
variable {d : Nat} {ty : TypeId} {pos : String} {aft : Array Edge} {g : Option (Nat × Bool)}
/-- A call that changes one block and makes another. -/
def CUM (P : Program) (f : FuncId) (vs : List Value) (w : World) (b : Nat) (R : Value → Nat → Obj → Obj → Prop) : Prop :=
  Calls P f vs.toArray w fun e w' => ∃ v nb no o', e = .returned v ∧ R v nb no o' ∧ Below b w w' ∧ (∀ k, k ≠ b → k < w.heap.size → w'.heap[k]? = w.heap[k]?) ∧ w'.heap[b]? = some o' ∧ w'.heap[nb]? = some no ∧ w.heap.size ≤ nb
theorem St.updNew {w' : World} {b nb : Nat} {o o' no : Obj} {L' : List Ent} (st : St w0 N a w E L) (hu : Upd L b o o' L') (hw : Below b w w') (hb : ∀ k, k ≠ b → k < w.heap.size → w'.heap[k]? = w.heap[k]?) (hn : w'.heap[b]? = some o') (h1 : w'.heap[nb]? = some no) (h2 : w.heap.size ≤ nb) : St w0 N a w' E (⟨nb, true, no⟩ :: L') := by
  have s := st.upd hu hw hb hn
  refine ⟨s.env, s.size, s.defers, s.below, ?_, ?_⟩
  · intro e he
    rcases List.mem_cons.1 he with rfl | he
    · exact ⟨h1, fun _ => Nat.le_trans st.below.size h2⟩
    · exact s.facts e he
  · refine List.pairwise_cons.2 ⟨?_, s.uniq⟩
    intro e he _
    have hlt : e.b < w.heap.size := by
      rcases hu.mem e he with rfl | he
      · exact st.lt hu.old
      · exact (Array.getElem?_eq_some_iff.1 (st.facts e he).1).1
    show nb ≠ e.b
    omega
theorem o_callUM {f : FuncId} {args : List Operand} {tys : Array TypeId} {vs : List Value} {b : Nat} {o : Obj} {R : Value → Nat → Obj → Obj → Prop} {L' : Obj → List Ent} [hf : FnT P f] (st : St w0 N a w E L) (ha : evs E args = some vs)
    (hc : CUM P f vs w b R) (hU : ∀ o', Upd L b o o' (L' o')) (hd : Nat.blt d N = true) (h : ∀ v nb no o', R v nb no o' → ∀ a' w', St w0 N a' w' ((d, v) :: E) (⟨nb, true, no⟩ :: L' o') → K a' w') : Oper.wp P ⟨some d, .call { callee := .value (.func f), args := args.toArray, argTypes := tys }, ty, pos, aft, g⟩ a w K Q :=
  o_call st ha hc fun _ _ ⟨v, nb, no, o', he, hR, hB, ho, hn, h1, h2⟩ => ⟨v, he, h v nb no o' hR _ _ ((st.updNew (hU o') hB ho hn h1 h2).put d hd _)⟩
theorem o_rem64I {x y : Operand} {t ys : TypeId} {i : Nat} {j : Int} (st : St w0 N a w E L) (hx : evE E x = some (.int .i64 (i : Int))) (hy : evE E y = some (.int .i64 j)) (hj : 0 < j) (hd : Nat.blt d N = true)
    (h : ∀ (r : Nat) a', (r : Int) < j → St w0 N a' w ((d, .int .i64 (r : Int)) :: E) L → K a' w) : Oper.wp P ⟨some d, .binOp .rem t x y ys, ty, pos, aft, g⟩ a w K Q := by
  obtain ⟨m, rfl⟩ : ∃ m : Nat, j = (m : Int) := ⟨j.toNat, by omega⟩
  have hlt : i % m < m := Nat.mod_lt _ (by omega)
  exact o_rem64 st hx hy (by omega) hd fun a' st => h (i % m) a' (by omega) st
end

attribute [local irreducible] Code.wp wpList Oper.wp Calls bodyPost Exit.then Exit.inBlock

set_option maxHeartbeats 16000000 in
theorem pick_ok (n : Int) (h1 : 1 < n) (cs : List Int) (hok : okB cs) (hlen : cs.length ≤ 1000000000) (base : Option Addr) (cap at_ : Nat) (hat : at_ ≤ 999999990) (sd : Int) (b : Nat) (w : World) (hr : RdB w base cs) (hb : w.heap[b]? = some (oSrc base cs.length cap at_ sd)) :
    CUX Try.prog 180 [.pointer (some ⟨b, 0, none⟩), .int .i64 n] w b (fun v o' => ∃ (x at' : Nat) (sd' : Int), v = .int .i64 x ∧ (x : Int) < n ∧ at_ ≤ at' ∧ at' ≤ at_ + 2 ∧ o' = oSrc base cs.length cap at' sd') := by
  obtain ⟨Lk, hLk, hcode⟩ := hr.code hb
  refine enterUX Lk hLk hb Try.func180 rfl rfl rfl rfl ?_
  intro a w0 Lf st
  have hrd : ∀ {a : Act} {w : World} {E : List (Nat × Value)} {o : Obj}, St w0 Try.f180.ntmps a w E (⟨b, true, o⟩ :: (Lk ++ Lf)) → RdB w base cs := fun s => hcode _ fun e he => (s.facts e (List.mem_cons_of_mem _ (List.mem_append_left _ he))).1
  (repeat' (first | (refine o_mul64 st rfl rfl rfl (by omega) (by omega) ?_; clear st; intro _ st)  | (refine o_callUX (L' := fun o' => ⟨b, true, o'⟩ :: (Lk ++ Lf)) st rfl (next_ok cs hok hlen base cap at_ (by omega) sd b _ (hrd st) (st.heap (by repeat constructor))) (fun o' => Upd.here) rfl ?_; clear st; rintro _ _ ⟨x, sd1, rfl, hx, rfl⟩ _ _ st)  | refine c_seq ?_  | refine c_region ?_  | refine l_do ?_  | refine l_nil ?_  | refine x_then ?_  | refine wp_ret ?_  | refine wp_skip ?_  | refine c_condT st rfl ?_  | refine c_condF st rfl ?_  | ((first | refine o_move st rfl rfl ?_  | refine o_assign st rfl rfl ?_  | refine o_add64 st rfl rfl rfl (by omega) (by omega) ?_ ); clear st; intro _ st)  | ((first | refine o_leq st rfl rfl rfl ?_ ?_  | refine o_gtr st rfl rfl rfl ?_ ?_) <;> clear st <;> intro _ _ st <;> (try (exfalso; omega)))))
  · (repeat' (first | (refine o_add64 st rfl rfl rfl (by omega) (by omega) ?_; clear st; intro _ st)  | (refine o_callUX (L' := fun o' => ⟨b, true, o'⟩ :: (Lk ++ Lf)) st rfl (next_ok cs hok hlen base cap (at_ + 1) (by omega) sd1 b _ (hrd st) (st.heap (by repeat constructor))) (fun o' => Upd.here) rfl ?_; clear st; rintro _ _ ⟨y, sd2, rfl, hy, rfl⟩ _ _ st)  | refine c_seq ?_  | refine c_region ?_  | refine l_do ?_  | refine l_nil ?_  | refine x_then ?_  | refine wp_ret ?_  | refine wp_skip ?_  | refine c_condT st rfl ?_  | refine c_condF st rfl ?_  | ((first | refine o_move st rfl rfl ?_  | refine o_assign st rfl rfl ?_  | refine o_add64 st rfl rfl rfl (by omega) (by omega) ?_ ); clear st; intro _ st)  | ((first | refine o_leq st rfl rfl rfl ?_ ?_  | refine o_gtr st rfl rfl rfl ?_ ?_) <;> clear st <;> intro _ _ st <;> (try (exfalso; omega)))))
    have e1 : (x : Int) * 256 + (y : Int) = ((x * 256 + y : Nat) : Int) := by omega
    rw [e1] at st
    (repeat' (first | (refine o_rem64I st rfl rfl (by omega) rfl ?_; clear st; intro r _ hr st)  | refine c_seq ?_  | refine c_region ?_  | refine l_do ?_  | refine l_nil ?_  | refine x_then ?_  | refine wp_ret ?_  | refine wp_skip ?_  | refine c_condT st rfl ?_  | refine c_condF st rfl ?_  | ((first | refine o_move st rfl rfl ?_  | refine o_assign st rfl rfl ?_  | refine o_add64 st rfl rfl rfl (by omega) (by omega) ?_ ); clear st; intro _ st)  | ((first | refine o_leq st rfl rfl rfl ?_ ?_  | refine o_gtr st rfl rfl rfl ?_ ?_) <;> clear st <;> intro _ _ st <;> (try (exfalso; omega)))))
    refine post1 st Try.results180 (rd_t st rfl) ?_
    exact ⟨_, _, rfl, ⟨r, _, sd2, rfl, hr, by omega, by omega, rfl⟩, _, (st.fit (E' := []) trivial).subL (List.Sublist.cons_cons _ (List.sublist_append_right _ _))⟩
  · (repeat' (first | (refine o_rem64I st rfl rfl (by omega) rfl ?_; clear st; intro r _ hr st)  | refine c_seq ?_  | refine c_region ?_  | refine l_do ?_  | refine l_nil ?_  | refine x_then ?_  | refine wp_ret ?_  | refine wp_skip ?_  | refine c_condT st rfl ?_  | refine c_condF st rfl ?_  | ((first | refine o_move st rfl rfl ?_  | refine o_assign st rfl rfl ?_  | refine o_add64 st rfl rfl rfl (by omega) (by omega) ?_ ); clear st; intro _ st)  | ((first | refine o_leq st rfl rfl rfl ?_ ?_  | refine o_gtr st rfl rfl rfl ?_ ?_) <;> clear st <;> intro _ _ st <;> (try (exfalso; omega)))))
    refine post1 st Try.results180 (rd_t st rfl) ?_
    exact ⟨_, _, rfl, ⟨r, _, sd1, rfl, hr, by omega, by omega, rfl⟩, _, (st.fit (E' := []) trivial).subL (List.Sublist.cons_cons _ (List.sublist_append_right _ _))⟩
end Go.Proofs.Ytefnlalldgbcaaa

namespace Go.Proofs.Ytefnlalldgbcaaa
open Go.RowKit

section
variable {P : Program} {w0 w : World} {N : Nat} {a : Act} {E : List (Nat × Value)} {L Lh : List Ent} {K : Act → World → Prop} {Q : Exit → Act → World → Prop}
theorem v_flssK {x y : Operand} {t ys : TypeId} {k : FloatKind} {i j : Nat} {ci cj : Option Nat} {r : Bool} (st : St w0 N a w E L) (hx : evE E x = some (.float k i)) (hy : evE E y = some (.float k j)) (hi : Is k i ci) (hj : Is k j cj) (hr : fltB k ci cj = r) : Vl P a Lh (.binOp .lss t x y ys) (.bool r) := by
  subst hr
  intro d ty pos aft g w' _
  simp only [execOp, evE_eval st hx, evE_eval st hy, eqGuard_at_float, Sem.run_bind, Sem.run_pure, Result.andThen_ok, binOp_float_cmp_lss, hi.order hj]
  rfl
end

/-- A part of a spot. -/
def pj : Nat → S3 → Option Nat
  | 0, s => s.1
  | 1, s => s.2.1
  | _, s => s.2.2
theorem pj_add (c : Nat) (s t : S3) : pj c (addS s t) = fop .add .f32 (pj c s) (pj c t) := by
  match c with
  | 0 => rfl
  | 1 => rfl
  | c + 2 => rfl
theorem pj_times (c : Nat) (s : S3) (x : Option Nat) : pj c (timesS s x) = fop .mul .f32 (pj c s) x := by
  match c with
  | 0 => rfl
  | 1 => rfl
  | c + 2 => rfl
/-- All parts are near to numbers. -/
def ApS (s : S3) (v : Nat → Rat) (e : Rat) : Prop := ∀ c, Ap .f32 (pj c s) (v c) e
theorem ApS.mono {s v e f} (h : ApS s v e) (hf : e ≤ f) : ApS s v f := fun c => (h c).mono hf
theorem ApS.finS {s v e} (h : ApS s v e) : finS s = true := by
  have f0 : Fin .f32 s.1 := (h 0).fin
  have f1 : Fin .f32 s.2.1 := (h 1).fin
  have f2 : Fin .f32 s.2.2 := (h 2).fin
  unfold Go.Proofs.Ytefnlalldgbcaaa.finS finC
  rw [fin_finC f0, fin_finC f1, fin_finC f2]
  rfl
abbrev uu : Rat := p2 (-24)
theorem uu_val : uu = 1 / 16777216 := by decide +kernel
theorem uk32 : uk .f32 = 1 / 16777216 := uu_val
theorem p2m126 : p2 (-126) ≤ 1 / 16777216 := by
  have : p2 (-126) ≤ p2 (-24) := p2_mono (by decide)
  rw [show p2 (-24) = 1 / 16777216 from uu_val] at this
  exact this
theorem p2127 : (1000 : Rat) < p2 127 := by
  have h : p2 10 < p2 127 := by
    have h1 : p2 11 ≤ p2 127 := p2_mono (by decide)
    have h2 : p2 10 < p2 11 := by decide +kernel
    grind
  have e : p2 10 = 1024 := by decide +kernel
  rw [e] at h
  grind

def chk (c : Option Nat) (v e : Rat) : Bool := match c with
  | none => false
  | some b => decide (rung FloatKind.f32.format b < FloatKind.f32.format.infRung) && (decide (rv .f32 b ≤ v + e) && decide (v ≤ rv .f32 b + e))
theorem chk_ap {c : Option Nat} {v e : Rat} (h : chk c v e = true) : Ap .f32 c v e := by
  unfold chk at h
  cases c with
  | none => cases h
  | some b =>
    simp only [Bool.and_eq_true, decide_eq_true_eq] at h
    exact ⟨h.1, h.2.1, h.2.2⟩
theorem qC_all : (List.range 33).all (fun n => chk (qC ((n : Int) - 16)) ((((n : Int) - 16 : Int) : Rat) / 4) 0) = true := by decide +kernel
theorem qC_ap {i : Int} (h0 : -16 ≤ i) (h1 : i ≤ 16) : Ap .f32 (qC i) ((i : Rat) / 4) 0 := by
  have := List.all_eq_true.1 qC_all (i + 16).toNat (List.mem_range.2 (by omega))
  have e : (((i + 16).toNat : Nat) : Int) - 16 = i := by omega
  simp only [e] at this
  exact chk_ap this
theorem isQ_ap {s : S3} (h : isQ s) (c : Nat) : Ap .f32 (pj c s) (cv .f32 (pj c s)) 0 ∧ Ab (cv .f32 (pj c s)) 4 := by
  obtain ⟨i, j, k, rfl, hi0, hi1, hj0, hj1, hk0, hk1⟩ := h
  have key : ∀ {n : Int}, -16 ≤ n → n ≤ 16 → Ap .f32 (qC n) (cv .f32 (qC n)) 0 ∧ Ab (cv .f32 (qC n)) 4 := by
    intro n h0 h1
    have ha := qC_ap h0 h1
    obtain ⟨n1, n2⟩ := ha.near
    have g0 : ((-16 : Int) : Rat) ≤ (n : Rat) := Rat.intCast_le_intCast.2 h0
    have g1 : (n : Rat) ≤ ((16 : Int) : Rat) := Rat.intCast_le_intCast.2 h1
    have c0 : ((-16 : Int) : Rat) = -16 := rfl
    have c1 : ((16 : Int) : Rat) = 16 := rfl
    rw [c0] at g0
    rw [c1] at g1
    exact ⟨⟨ha.fin, by grind, by grind⟩, by grind, by grind⟩
  match c with
  | 0 => exact key hi0 hi1
  | 1 => exact key hj0 hj1
  | c + 2 => exact key (by omega) (by omega)
/-- A sixteenth of a number, as a float. -/
def xC (i : Int) : Option Nat := fop .quo .f32 (some (floatOfInt .f32 i)) (some 1098907648)
def chkE (c : Option Nat) (j q : Int) : Bool := match c with
  | none => false
  | some b => decide (rung FloatKind.f32.format b < FloatKind.f32.format.infRung) && decide (rv .f32 b = (j : Rat) * p2 q)
theorem chkE_ex {c : Option Nat} {j q : Int} (h : chkE c j q = true) : Ex' .f32 c j q := by
  unfold chkE at h
  cases c with
  | none => cases h
  | some b =>
    simp only [Bool.and_eq_true, decide_eq_true_eq] at h
    exact ⟨h.1, h.2⟩
theorem zero_ex : Ex' .f32 (some 0) 0 (-4) := chkE_ex (by decide +kernel)
theorem one_ex : Ex' .f32 one32 16 (-4) := chkE_ex (by decide +kernel)
theorem p2m4 : p2 (-4) = 1 / 16 := by decide +kernel

theorem getD_mem {ss : List S3} {p : Nat} (h : p < ss.length) : ss.getD p z3 ∈ ss := by
  rw [List.getD_eq_getElem?_getD, List.getElem?_eq_getElem h]
  exact List.getElem_mem h
theorem finL_of {ss : List S3} (h : ∀ s ∈ ss, finS s = true) : finL ss = true := List.all_eq_true.2 h
theorem isQ_fin {s : S3} (h : isQ s) : finS s = true := ApS.finS (v := fun c => cv .f32 (pj c s)) (e := 0) fun c => (isQ_ap h c).1
abbrev BB : Rat := p2 (-11)
theorem BB_val : BB = 1 / 2048 := by decide +kernel
theorem nearS_of {s t : S3} {v : Nat → Rat} {e f : Rat} (h : ApS s v e) (h' : ApS t v f) (hef : e + f ≤ 1 / 2048) : NearS s t BB := by
  have key : ∀ c, Ab (cv .f32 (pj c s) - cv .f32 (pj c t)) BB := by
    intro c
    obtain ⟨x1, x2⟩ := (h c).near
    obtain ⟨y1, y2⟩ := (h' c).near
    rw [BB_val]
    exact ⟨by grind, by grind⟩
  exact ⟨key 0, key 1, key 2⟩
/-- A gap's bound is less than a literal. -/
theorem gap_lt {r l : Nat} (hr : Fin .f64 (some r)) (hl : Fin .f64 (some l)) (h : rv .f64 r ≤ 2 * BB) (hb : 2 * BB < rv .f64 l) : fltB .f64 (some r) (some l) = true := by
  rw [flt_iff hr hl]
  have : cv .f64 (some r) < cv .f64 (some l) := by
    show rv .f64 r < rv .f64 l
    grind
  simp [this]
theorem lit1 : Fin .f64 (some 4576918229304087675) ∧ 2 * BB < rv .f64 4576918229304087675 := ⟨by show rung FloatKind.f64.format _ < _; decide +kernel, by decide +kernel⟩
theorem lit2 : Fin .f64 (some 4562254508917369340) ∧ 2 * BB < rv .f64 4562254508917369340 := ⟨by show rung FloatKind.f64.format _ < _; decide +kernel, by decide +kernel⟩
theorem bb0 : p2 (-126) ≤ BB := by decide +kernel
theorem bb1 : BB < p2 127 := by decide +kernel

theorem gap_ngt {r l : Nat} (hr : Fin .f64 (some r)) (hl : Fin .f64 (some l)) (h : rv .f64 r ≤ 2 * BB) (hb : 2 * BB < rv .f64 l) : fgtB .f64 (some r) (some l) = false := by
  rw [fgt_iff hr hl]
  have : ¬ cv .f64 (some l) < cv .f64 (some r) := by
    show ¬ rv .f64 l < rv .f64 r
    grind
  simp [this]

end Go.Proofs.Ytefnlalldgbcaaa

namespace Go.Proofs.Ytefnlalldgbcaaa
open Go.RowKit
attribute [local irreducible] Code.wp wpList Oper.wp Calls bodyPost Exit.then Exit.inBlock

def CSSB (P : Program) (f : FuncId) (vs : List Value) (w : World) (s t : S3) (ok : Bool) : Prop := CR P f vs w fun v => ∃ b b', v = .tuple #[vS b, vS b', .bool ok] ∧ IsS b s ∧ IsS b' t

end Go.Proofs.Ytefnlalldgbcaaa

namespace Go.Proofs.Ytefnlalldgbcaaa
open Go.RowKit

section
variable {P : Program} {w0 w : World} {N : Nat} {a : Act} {E : List (Nat × Value)} {L Lh : List Ent} {K : Act → World → Prop} {Q : Exit → Act → World → Prop}
variable {d : Nat} {ty : TypeId} {pos : String} {aft : Array Edge} {g : Option (Nat × Bool)}
end

attribute [local irreducible] Code.wp wpList Oper.wp Calls bodyPost Exit.then Exit.inBlock

/-! ## what a cut gives -/
section
variable {P : Program} {w0 w : World} {N : Nat} {a : Act} {E : List (Nat × Value)} {L Lh : List Ent} {K : Act → World → Prop} {Q : Exit → Act → World → Prop}
variable {d : Nat} {ty : TypeId} {pos : String} {aft : Array Edge} {g : Option (Nat × Bool)}
end

end Go.Proofs.Ytefnlalldgbcaaa
