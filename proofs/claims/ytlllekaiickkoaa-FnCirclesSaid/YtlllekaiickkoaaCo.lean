/-
  FnCircles: the circle's 64 places, and what is computed at them (tables).
-/
import Derived.Test.YtlllekaiickkoaaCx
namespace Go.Proofs.Ytlllekaiickkoaa
open Go.RowKit

/-- The phasors of the 64ths of a turn, as words. -/
def PT : List (Nat × Nat) := [(1065353216, 0),
  (1065272429, 1036565814),
  (1065030846, 1044891074),
  (1064630795, 1049927729),
  (1064076126, 1053028117),
  (1063372184, 1056004842),
  (1062525745, 1057896922),
  (1061544963, 1059219353),
  (1060439283, 1060439283),
  (1059219353, 1061544963),
  (1057896922, 1062525745),
  (1056004842, 1063372184),
  (1053028117, 1064076126),
  (1049927729, 1064630795),
  (1044891074, 1065030846),
  (1036565814, 1065272429),
  (0, 1065353216),
  (3184049462, 1065272429),
  (3192374722, 1065030846),
  (3197411377, 1064630795),
  (3200511765, 1064076126),
  (3203488490, 1063372184),
  (3205380570, 1062525745),
  (3206703001, 1061544963),
  (3207922931, 1060439283),
  (3209028611, 1059219353),
  (3210009393, 1057896922),
  (3210855832, 1056004842),
  (3211559774, 1053028117),
  (3212114443, 1049927729),
  (3212514494, 1044891074),
  (3212756077, 1036565814),
  (3212836864, 0),
  (3212756077, 3184049462),
  (3212514494, 3192374722),
  (3212114443, 3197411377),
  (3211559774, 3200511765),
  (3210855832, 3203488490),
  (3210009393, 3205380570),
  (3209028611, 3206703001),
  (3207922931, 3207922931),
  (3206703001, 3209028611),
  (3205380570, 3210009393),
  (3203488490, 3210855832),
  (3200511765, 3211559774),
  (3197411377, 3212114443),
  (3192374722, 3212514494),
  (3184049462, 3212756077),
  (0, 3212836864),
  (1036565814, 3212756077),
  (1044891074, 3212514494),
  (1049927729, 3212114443),
  (1053028117, 3211559774),
  (1056004842, 3210855832),
  (1057896922, 3210009393),
  (1059219353, 3209028611),
  (1060439283, 3207922931),
  (1061544963, 3206703001),
  (1062525745, 3205380570),
  (1063372184, 3203488490),
  (1064076126, 3200511765),
  (1064630795, 3197411377),
  (1065030846, 3192374722),
  (1065272429, 3184049462)]
/-- Their angles. -/
def AT : List Nat := [0, 1015021568, 1023410176, 1027604479, 1031798784, 1033895936, 1035993088, 1038090240, 1040187392, 1041235968, 1042284544, 1043333120, 1044381696, 1045430272, 1046478848, 1047527424, 1048576000, 1049100288, 1049624576, 1050148864, 1050673152, 1051197440, 1051721728, 1052246016, 1052770304, 1053294592, 1053818880, 1054343168, 1054867456, 1055391744, 1055916032, 1056440320, 1056964608, 3203923968, 3203399680, 3202875392, 3202351104, 3201826816, 3201302528, 3200778240, 3200253952, 3199729664, 3199205376, 3198681088, 3198156800, 3197632512, 3197108224, 3196583936, 3196059648, 3195011072, 3193962496, 3192913920, 3191865344, 3190816768, 3189768192, 3188719616, 3187671040, 3185573888, 3183476736, 3181379584, 3179282432, 3175088127, 3170893824, 3162505216]
def pt (k : Nat) : Nat × Nat := PT.getD (k % 64) (0, 0)
def at_ (k : Nat) : Nat := AT.getD (k % 64) 0

def finX (t : Nat) : Option Bool := bw (subW t t) fun z => some (eqF .f64 z 0)
theorem finX_eq (t : Nat) : finX t = finW t := by
  unfold finX finW
  simp only [eqF_eq]
/-- The fraction of a turn that a number of 64ths leaves. -/
def phY (n : Int) : Wd := bw (quoW (ofX n) w64) fun t =>
  force (absW t) fun b => if chk .f64 b && !geF .f64 b 4841369599423283200 && (finX t == some true) then fracX t else none
theorem bw_mk {α : Type} (r : Nat) (k : Nat → Option α) : bw (some r) k = k r := force_eq r k
theorem phY_some {n : Int} {f : Nat} {r : Nat × Nat} (h : phY n = some f) (hr : phX f = some r) : phW n = some r := by
  unfold phY at h
  obtain ⟨t, ht, h⟩ := bw_some h
  rw [ofX_eq] at ht
  have ht := quoW_some ht
  unfold phW
  rw [ht, bw_mk, force_eq]
  rw [force_eq] at h
  rw [finX_eq, geF_eq] at h
  show (if chk .f64 (absW t) && !fgeB .f64 (some (absW t)) (some 4841369599423283200) && (finW t == some true) then phasorW t else none) = some r
  split at h
  · rename_i hc
    rw [if_pos hc, phX_eq, h, bw_mk]
    exact hr
  · cases h
theorem t_frac : ((List.range 512).all fun n => phY ((n : Int) - 256) == quoW (ofX ((n % 64 : Nat) : Int)) w64) = true := by decide +kernel
theorem t_phase : ((List.range 64).all fun k => bw (quoW (ofX (k : Int)) w64) phX == some (pt k)) = true := by decide +kernel
theorem ph_at {n : Nat} (h : n < 512) : phW ((n : Int) - 256) = some (pt n) := by
  have h1 := List.all_eq_true.1 t_frac n (List.mem_range.2 h)
  have h2 := List.all_eq_true.1 t_phase (n % 64) (List.mem_range.2 (Nat.mod_lt _ (by decide)))
  simp only [beq_iff_eq] at h1 h2
  rw [← h1] at h2
  obtain ⟨f, hf, h3⟩ := bw_some h2
  have e : pt (n % 64) = pt n := by unfold pt; rw [Nat.mod_mod]
  rw [e] at h3
  exact phY_some hf h3

def angY (a : Nat × Nat) : Wd := if chk .f32 a.1 && chk .f32 a.2 && (fin32 a.1 == some true) && (fin32 a.2 == some true) && !(eqF .f32 a.1 0 && eqF .f32 a.2 0) then angX a.2 a.1 else none
theorem angY_eq (a : Nat × Nat) : angY a = angO a := by
  unfold angY angO
  simp only [eqF_eq, angX_eq]
theorem t_ang : ((List.range 64).all fun k => angY (pt k) == some (at_ k)) = true := by decide +kernel
theorem ang_at (k : Nat) : angO (pt k) = some (at_ k) := by
  have h := List.all_eq_true.1 t_ang (k % 64) (List.mem_range.2 (Nat.mod_lt _ (by decide)))
  have e1 : pt (k % 64) = pt k := by unfold pt; rw [Nat.mod_mod]
  have e2 : at_ (k % 64) = at_ k := by unfold at_; rw [Nat.mod_mod]
  simp only [beq_iff_eq, e1, e2, angY_eq] at h
  exact h
theorem t_quarter : angO (0, 1065353216) = some 1048576000 := by rw [← angY_eq]; decide +kernel
theorem t_is : ((List.range 64).all fun k => chk .f32 (pt k).1 && chk .f32 (pt k).2) = true := by decide +kernel
theorem is_at (k : Nat) : Is .f32 (pt k).1 (some (pt k).1) ∧ Is .f32 (pt k).2 (some (pt k).2) := by
  have h := List.all_eq_true.1 t_is (k % 64) (List.mem_range.2 (Nat.mod_lt _ (by decide)))
  have e1 : pt (k % 64) = pt k := by unfold pt; rw [Nat.mod_mod]
  simp only [e1, Bool.and_eq_true] at h
  exact ⟨chk_is h.1, chk_is h.2⟩

/-- What the law asks of an angle. -/
def turnX (x : Int) (g : Nat) : Option Bool :=
  bw (widX g) fun gd =>
  bw (mulW gd w64) fun t =>
  bw (subW t (ofX x)) fun s =>
  bw (addW s wTen) fun z =>
  bi (i64X z) fun i =>
  bw (gapX s (ofX (i - 10000))) fun q =>
  some (!gtF .f64 q tol2 && (i - 10000).tmod 64 == 0 && decide (0 ≤ i) && decide (i ≤ 100000))
theorem turnX_some {x : Int} {g : Nat} (h : turnX x g = some true) : ∃ gd t s z i q, wid g = some gd ∧ fop .mul .f64 (some gd) (some w64) = some t ∧ fop .sub .f64 (some t) (some (floatOfInt .f64 x)) = some s ∧ fop .add .f64 (some s) (some wTen) = some z ∧ floatToIntVal .f64 z .i64 = some i ∧
    gapW s (floatOfInt .f64 (i - 10000)) = some q ∧ gtW q tol2 = false ∧ 0 ≤ i ∧ i ≤ 100000 ∧ (i - 10000).tmod 64 = 0 := by
  unfold turnX at h
  obtain ⟨gd, h1, h⟩ := bw_some h
  obtain ⟨t, h2, h⟩ := bw_some h
  obtain ⟨s, h3, h⟩ := bw_some h
  obtain ⟨z, h4, h⟩ := bw_some h
  obtain ⟨i, h5, h⟩ := bi_some h
  obtain ⟨q, h6, h⟩ := bw_some h
  rw [widX_eq] at h1
  rw [ofX_eq] at h3
  rw [i64X_eq] at h5
  rw [gapX_eq, ofX_eq] at h6
  simp only [Option.some.injEq, Bool.and_eq_true, Bool.not_eq_true', beq_iff_eq, decide_eq_true_eq, gtF_eq] at h
  exact ⟨gd, t, s, z, i, q, h1, mulF_some h2, subF_some h3, addF_some h4, h5, h6, h.1.1.1, h.1.2, h.2, h.1.1.2⟩
theorem t_turn : ((List.range 256).all fun n => turnX ((n : Int) - 128) (at_ (n + 128)) == some true) = true := by decide +kernel
/-- What the law asks of a power. -/
def oneX (a : Nat × Nat) : Option Bool :=
  bw (powX a) fun p =>
  bw (widX p) fun p1 =>
  bw (gapX p1 w1) fun q =>
  some (!gtF .f64 q tol1)
theorem oneX_some {a : Nat × Nat} (h : oneX a = some true) : ∃ p p1, powerW a = some p ∧ wid p = some p1 ∧ Is .f64 p1 (some p1) ∧ ∃ r, gapW p1 w1 = some r ∧ gtW r tol1 = false := by
  unfold oneX at h
  obtain ⟨p, h1, h⟩ := bw_some h
  obtain ⟨p1, h2, h⟩ := bw_some h
  obtain ⟨q, h3, h⟩ := bw_some h
  rw [powX_eq] at h1
  rw [widX_eq] at h2
  rw [gapX_eq] at h3
  simp only [Option.some.injEq, Bool.not_eq_true', gtF_eq] at h
  refine ⟨p, p1, h1, h2, ?_, q, h3, h⟩
  unfold powerW at h1
  obtain ⟨_, _, h1⟩ := bw_some h1
  obtain ⟨_, _, h1⟩ := bw_some h1
  obtain ⟨_, _, h1⟩ := bw_some h1
  obtain ⟨_, _, h1⟩ := bw_some h1
  obtain ⟨s, hs, h1⟩ := bw_some h1
  exact wid_is (nar_is (fop_is (addF_some hs)) h1) h2
theorem t_one : ((List.range 64).all fun k => oneX (pt k) == some true) = true := by decide +kernel
/-- A real part that is nothing or one. -/
def reX (a : Nat × Nat) : Option Bool :=
  bw (widX a.1) fun r =>
  bw (gapX r 0) fun u =>
  some (eqF .f64 u 0 || eqF .f64 u w1)
theorem reX_some {a : Nat × Nat} (ha : Is .f32 a.1 (some a.1)) (h : reX a = some true) : ∃ r u, wid a.1 = some r ∧ Is .f64 r (some r) ∧ gapW r 0 = some u ∧ (feqB .f64 (some u) (some 0) = true ∨ feqB .f64 (some u) (some 0) = false ∧ feqB .f64 (some u) (some w1) = true) := by
  unfold reX at h
  obtain ⟨r, h1, h⟩ := bw_some h
  obtain ⟨u, h2, h⟩ := bw_some h
  rw [widX_eq] at h1
  rw [gapX_eq] at h2
  simp only [Option.some.injEq, Bool.or_eq_true, eqF_eq] at h
  refine ⟨r, u, h1, wid_is ha h1, h2, ?_⟩
  cases hz : feqB .f64 (some u) (some 0)
  · right
    rcases h with h | h
    · rw [hz] at h; cases h
    · exact ⟨rfl, h⟩
  · left; rfl
theorem t_re : ([0, 16, 32, 48].all fun k => reX (pt k) == some true) = true := by decide +kernel
end Go.Proofs.Ytlllekaiickkoaa
