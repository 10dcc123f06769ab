/-
  The statement FnNumbers: the row and the tied card. (printed by gen_xdz.py)
-/
import Derived.Test.YtclgplbikjmopaaGreatDoorRows
import Derived.Test.YtclgplbikjmopaaGreatDoorCards
import Derived.Test.YtclgplbikjmopaaGreatDoorTie
import Derived.Test.YtclgplbikjmopaaGreatDoorDy
import Derived.ProofKit
import Derived.OpenShut
import Derived.ChangeOld
import Derived.Below
import Derived.Deep.Slices
import Derived.Lib.SmallJoins
import Derived.Lib.LaidTab
import Derived.LaidMore
import Derived.Lay
import Derived.Stop.Joined
import Derived.SevenTiedAt
namespace Go.Proofs.YtclgplbikjmopaaGreatDoor
open Go.ChangeShapes Go.WideShapes Go.ChangeAt Go.RowKit Go.Joins

theorem own_ : ownKnob Tryz.prog.godebug = none := by kernel_rfl
theorem laidOut_ : laidOutB Tryz.prog = true := by kernel_rfl
theorem cell_spot {w : World} {a : Addr} {v : Value} (h : w.cell? a = some v) : ∃ cs t fr, w.heap[a.block]? = some (.cells cs t fr) ∧ a.spot = none ∧ cs[a.off]? = some v := by
  unfold World.cell? at h
  split at h
  · rename_i c t fr hc
    split at h
    · cases h
    · refine ⟨c, t, fr, hc, ?_, h⟩
      cases hs : a.spot with
      | none => rfl
      | some k => simp_all
  · cases h

section
variable {H : Type} {enc : TypeId × Value → H} {w : World} {base : Nat} {spare : Nat → Bool} {held : Bool}

theorem byte_cells {n : Nat} {v : Value} {y : DataW H × List MemPlace} (h : DataW.trod enc Tryz.prog w base spare held n 5 [v] = some y) : ∃ i : Int, v = .int .u8 i ∧ 0 ≤ i ∧ i ≤ 255 := by
  cases n with
  | zero => simp [DataW.trod] at h
  | succ n =>
    simp only [DataW.trod, Tryz.underlying5] at h
    cases v <;> simp at h
    rename_i k' b
    obtain ⟨⟨rfl, hw⟩, _⟩ := h
    exact ⟨b, rfl, by simpa using bounds_u8 hw⟩
set_option maxRecDepth 100000 in
theorem bytes_of_trod {r : Reach} {b0 : Nat} {v : Value} {d : DataW H} {p : List MemPlace} (hv : Value.okWide Tryz.prog w r b0 22 v) (h : DataW.Trod enc Tryz.prog w base spare held 22 v d p) :
    ∃ (cs : List Int) (ba : Option Addr) (cap : Nat), v = .slice ba cs.length cap ∧ RdB w ba cs ∧ okB cs ∧ cs.length ≤ 9223372036854775807 := by
  obtain ⟨ba, len, cap, rfl⟩ := okWide_slice Tryz.underlying22 hv
  obtain ⟨n, hf⟩ := h
  have ce : Tryz.prog.cellsOf 5 = 1 := by kernel_rfl
  rcases Deep.open_slice Tryz.underlying22 hf with ⟨h0, _⟩ | ⟨a, len', cap', m, n', D, Pl, h0, hb, hl, hm, hmm, _, hx⟩
  · cases h0
    exact ⟨[], none, 0, rfl, .inl rfl, (by intro c hc; cases hc), Nat.zero_le _⟩
  · cases h0
    have hlm : len ≤ m := by rw [hmm]; split <;> omega
    have each : ∀ i, i < len → ∃ b : Int, (0 ≤ b ∧ b ≤ 255) ∧ w.cell? (a.add (i * 1)) = some (.int .u8 b) := by
      intro i hi
      obtain ⟨cs', h1, h2⟩ := hx i (by omega)
      rw [ce] at h1
      obtain ⟨_, hlen, hcell⟩ := World.cells?_some h1
      match cs', hlen with
      | [v], _ =>
        obtain ⟨b, rfl, hb⟩ := byte_cells h2
        exact ⟨b, hb, by simpa [Addr.add] using hcell 0 (by omega)⟩
    obtain ⟨f, hf⟩ := Deep.choose_lt each
    have hml : maxLen = 9223372036854775807 := rfl
    refine ⟨(List.range len).map f, some a, cap, by simp, ?_, ?_, by simp; omega⟩
    · by_cases hz : len = 0
      · left; simp [hz]
      · right
        obtain ⟨cs, t, fr, hh, hs, _⟩ := cell_spot (hf 0 (by omega)).2
        have hs' : a.spot = none := by simpa [Addr.add] using hs
        have hh' : w.heap[a.block]? = some (.cells cs t fr) := by simpa [Addr.add] using hh
        have ha : a = ⟨a.block, a.off, none⟩ := by cases a; simp at hs'; simp [hs']
        refine ⟨a.block, a.off, cs, t, fr, by rw [← ha], hh', ?_⟩
        intro i b hb
        have hi : i < len := by
          have := (List.getElem?_eq_some_iff.1 hb).1
          simpa using this
        have hfb : f i = b := by simpa [hi] using hb
        obtain ⟨_, g0⟩ := hf i hi
        rw [hfb] at g0
        rw [ha] at g0
        simp only [Addr.add_lit] at g0
        rw [cell_of_row w a.block _ cs t fr hh'] at g0
        simpa using g0
    · intro b hb
      obtain ⟨i, hi, rfl⟩ := List.mem_map.1 hb
      exact (hf i (List.mem_range.1 hi)).1
end


/-! ## the table that is laid -/
theorem g6 : Tryz.prog.globalNamed "math/bits.deBruijn64tab" = some 6 := by kernel_rfl
theorem tg6 : (Tryz.prog.globals[6]?).map (·.type) = some 135 := by kernel_rfl
def tz64 : List Int := [0, 1, 56, 2, 57, 49, 28, 3, 61, 58, 42, 50, 38, 29, 17, 4, 62, 47, 59, 36, 45, 43, 51, 22, 53, 39, 33, 30, 24, 18, 12, 5, 63, 55, 48, 27, 60, 41, 37, 16, 46, 35, 44, 21, 52, 32, 23, 11, 54, 26, 40, 15, 34, 20, 31, 10, 25, 14, 19, 9, 13, 8, 7, 6]
theorem tab_of_laid {W : World} (h : laidMetH Tryz.prog Rows.fnNumbersRow.laid W) : Tab W := by
  rw [MakeChecks.laidMetH_plain _ _ _ (by kernel_rfl)] at h
  obtain ⟨ps, ⟨g0, t0, cs0, f0, p0, q0, hg0, ht0, hv0, hd0, ⟨g1, t1, cs1, f1, p1, q1, hg1, ht1, hv1, hd1, _, _⟩, _⟩, _⟩ := h
  obtain rfl := Option.some.inj (g6.symm.trans hg1)
  obtain rfl := Option.some.inj (tg6.symm.trans ht1)
  have hcs := Lib.cells_of_tab (k := .u8) (zs := tz64) Tryz.underlying135 Tryz.underlying5 (by kernel_rfl) (by kernel_rfl) hd1
  have hc : W.cell? ⟨6, 15, none⟩ = some (.int .u8 4) := by
    have h15 := World.var?_cell hg1 hv1 15
    rw [h15]
    have : cs1[15]? = cs1.toList[15]? := by simp
    rw [this, hcs]
    rfl
  obtain ⟨arr, t, fr, h1, _, h3⟩ := cell_spot hc
  exact ⟨arr, t, fr, h1, h3⟩
theorem numbers_walk (cs : List Int) (ba : Option Addr) (cap : Nat) (cs' : List Int) (ba' : Option Addr) (cap' : Nat) (w : World) (hT : Tab w) (hr : RdB w ba cs) (hok : okB cs) (hl : cs.length ≤ 9223372036854775807) (hr' : RdB w ba' cs') (hok' : okB cs') (hl' : cs'.length ≤ 9223372036854775807) :
    Calls Tryz.prog 3 [.slice ba cs.length cap, .slice ba' cs'.length cap'].toArray w fun e w' => e = .returned (.bool true) ∧ Below w.heap.size w w' := by
  have main : CV Tryz.prog 3 [.slice ba cs.length cap, .slice ba' cs'.length cap'] w (.bool true) := by
    by_cases h : (decide (1048576 < cs.length) || decide (1048576 < cs'.length)) = true
    · exact FnNumbers_long _ _ hl hl' h ba ba' cap cap' w
    · rw [Bool.not_eq_true] at h
      exact FnNumbers_ok cs cs' hok hok' hl hl' h ba ba' cap cap' w hr hr' hT
  exact main.mono fun e w' ⟨h1, h2⟩ => ⟨h1, h2.below⟩

set_option maxRecDepth 100000 in
theorem FnNumbers_lifted (os : Os) (started : os.Started) (H : Type) (enc : TypeId × Value → H) :
    ReturnsInHanded {} Tryz.checked os 3 .any (fun w args => (Rows.fnNumbersSpec.pre enc Tryz.prog Tryz.f3 [] false w args ∧ laidMetH Tryz.prog Rows.fnNumbersRow.laid w) ∧ sizedMet enc Tryz.prog Tryz.f3 (OpenSpec.ofChange Rows.fnNumbersSpec) false w args)
      (Rows.fnNumbersSpec.post enc Tryz.prog Tryz.f3 false true false false) := by
  refine returnsInHanded_of_change_and (C := Tryz.checked) (X := fun w _ => laidMetH Tryz.prog Rows.fnNumbersRow.laid w) (fun _ _ _ hh h => h.of_heap hh) own_ started (by kernel_rfl) Tryz.func3
    (ChangeSpec.witness_shaped (enc := enc) (C := Tryz.checked) (os := os) (X := fun w _ => laidMetH Tryz.prog Rows.fnNumbersRow.laid w) false (World.laidAll Tryz.prog os Rows.fnNumbersRow.laid) #[.slice none 0 0, .slice none 0 0] 8 (World.laidAll_os _ _ _)
      (World.shaped_of_ZipB (by kernel_rfl) (by kernel_rfl)) (by kernel_rfl) (by kernel_rfl) (by kernel_rfl)
      (by rw [MakeChecks.laidMetH_plain _ _ _ (by kernel_rfl)]; exact laidMet_laidAll _ (by kernel_rfl) (by kernel_rfl))) ?_
  intro W base args ds gs before hval0 hW _ _ hL _
  have hval : ∀ (j : Nat) t v, Tryz.f3.params[j]? = some t → args[j]? = some v → Value.okWide Tryz.prog W .any base t v := hval0
  have hW' := hW
  obtain ⟨p, q, hA0, hV, rfl, _, _⟩ := hW
  have hA : DataW.TrodAll enc Tryz.prog W 0 (fun _ => true) true Tryz.f3.params.toList args.toList ds p := hA0
  rw [Tryz.params3] at hA hval
  obtain ⟨v0, vs0, d0, ds0, p0, q0, hargs, rfl, rfl, h0, r0⟩ := trodAll_cons hA
  obtain ⟨v1, vs1, d1, ds1, p1, q1, rfl, rfl, rfl, h1, r1⟩ := trodAll_cons r0
  obtain ⟨rfl, rfl, rfl⟩ := trodAll_nil r1
  obtain rfl : args = #[v0, v1] := by cases args; simp_all
  obtain ⟨rfl, rfl⟩ := trodVars_none hV
  have hT := tab_of_laid hL
  have k0 := h0
  have lt0 : ∀ x ∈ p0, x.block < W.heap.size := by obtain ⟨m, hm⟩ := k0; exact DataW.trod_lt m _ _ _ hm
  obtain ⟨cs0, ba0, cap0, rfl, rd0, ok0, len0⟩ := bytes_of_trod (hval 0 22 v0 rfl rfl) h0
  have k1 := h1
  have lt1 : ∀ x ∈ p1, x.block < W.heap.size := by obtain ⟨m, hm⟩ := k1; exact DataW.trod_lt m _ _ _ hm
  obtain ⟨cs1, ba1, cap1, rfl, rd1, ok1, len1⟩ := bytes_of_trod (hval 1 22 v1 rfl rfl) h1
  clear hA0 hval0
  refine (numbers_walk cs0 ba0 cap0 cs1 ba1 cap1 W hT rd0 ok0 len0 rd1 ok1 len1).mono fun e W' ⟨he, bel⟩ => ?_
  subst he
  exact ⟨_, rfl, _, _, _, [], _, [], hW', trodAll_mk1 (shut_bool Tryz.underlying4 _), (trodAll_cons_mk (Below.trod laidOut_ (by kernel_rfl) (of_decide_eq_true (by kernel_rfl)) k0 bel lt0) (trodAll_cons_mk (Below.trod laidOut_ (by kernel_rfl) (of_decide_eq_true (by kernel_rfl)) k1 bel lt1) trodAll_mk0)), rfl, bel.frame _, fun h => by cases h⟩

/-- For every input the law returns true, and each argument reads behind the call as it read before. -/
theorem FnNumbers_row : Rows.FnNumbersSaid :=
  OpenClaim.holds_of_wide 3 Tryz.f3 rfl rfl rfl rfl rfl rfl rfl ⟨rfl, rfl, rfl, rfl, rfl⟩ rfl rfl rfl rfl rfl (by as_aux_lemma => kernel_rfl) Tryz.func3 (by as_aux_lemma => kernel_rfl)
    (of_decide_eq_true (by kernel_rfl)) (by unfold Func.isWrapper; first | (rw [if_pos (by decide +kernel)]; kernel_rfl) | (rw [if_neg (by decide +kernel)]; exact ⟨rfl, rfl⟩))
    (fun os started H enc _ => FnNumbers_lifted os started H enc)
end Go.Proofs.YtclgplbikjmopaaGreatDoor
