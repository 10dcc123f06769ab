/-
  The closed facts of a row over a translation of many roots, in parts: the head of the translation is a long text, and is read word by word.
-/
import Derived.Test.YtonbcbhnnflohaaRows
import Derived.JoinedOf
import Derived.KernelRfl
namespace Go.Proofs.Ytonbcbhnnflohaa
open Go

abbrev sp : Char := Char.ofNat 32

theorem ws_sp (r : List Char) : wordsSigns (sp :: r) = [] :: wordsSigns r := rfl
theorem ws_ne (c : Char) (hc : c ≠ sp) (r : List Char) : wordsSigns (c :: r) = match wordsSigns r with | w :: ws => (c :: w) :: ws | [] => [[c]] := by
  rw [wordsSigns]
  · rfl
  · intro h; exact hc h
theorem ws_split : ∀ l : List Char, sp ∈ l → wordsSigns l = l.takeWhile (· != sp) :: wordsSigns (l.dropWhile (· != sp)).tail
  | [], h => by cases h
  | c :: r, h => by
    by_cases hc : c = sp
    · subst hc
      rw [ws_sp]
      simp
    · have hr : sp ∈ r := by
        rcases List.mem_cons.1 h with h | h
        · exact absurd h.symm hc
        · exact h
      rw [ws_ne c hc, ws_split r hr]
      simp [hc]

set_option maxRecDepth 1000000 in
noncomputable def initX : { l : List Char // Try.prog.initOrder = String.ofList l } := ⟨_, rfl⟩
theorem io : Try.prog.initOrder.toList = initX.1 := (congrArg String.toList initX.2).trans String.toList_ofList
noncomputable def r1 : List Char := (initX.1.dropWhile (· != sp)).tail
noncomputable def r2 : List Char := (r1.dropWhile (· != sp)).tail
noncomputable def r3 : List Char := (r2.dropWhile (· != sp)).tail
theorem ws_init : wordsSigns Try.prog.initOrder.toList = initX.1.takeWhile (· != sp) :: r1.takeWhile (· != sp) :: r2.takeWhile (· != sp) :: wordsSigns r3 := by
  rw [io, ws_split initX.1 (by decide +kernel), ws_split (initX.1.dropWhile (· != sp)).tail (by decide +kernel), ws_split ((initX.1.dropWhile (· != sp)).tail.dropWhile (· != sp)).tail (by decide +kernel)]
  rfl

theorem first : (initX.1.takeWhile (· != sp) == "harness".toList) = true := by kernel_rfl
theorem second : isSumSigns ((r1.takeWhile (· != sp))) = true := by kernel_rfl
theorem third : r2.takeWhile (· != sp) = "cut".toList := by kernel_rfl
theorem bmw (h s : List Char) (r : List (List Char)) (h1 : (h == "harness".toList) = true) (h2 : isSumSigns s = true) : behindMainWord (h :: s :: r) = r := by
  unfold behindMainWord
  simp only [h1, h2, Bool.true_or, Bool.and_true, if_true]
theorem bw_init : behindMainWord (wordsSigns Try.prog.initOrder.toList) = "cut".toList :: wordsSigns r3 :=
  (congrArg behindMainWord ws_init).trans ((bmw _ _ _ first second).trans (congrArg (· :: wordsSigns r3) third))

section
variable {P : Program} {z : List (List Char)} (h : behindMainWord (wordsSigns P.initOrder.toList) = "cut".toList :: z)
include h
theorem make_of : P.make = some .cut := by
  unfold Program.make
  rw [h]
  rfl
omit h in
theorem lifts_none (z : List (List Char)) : stripLifts liftWords ("cut".toList :: z) = ([], "cut".toList :: z) := by kernel_rfl
theorem headLifts_of : P.headLifts = [] := by
  unfold Program.headLifts
  simp only [h, lifts_none, ite_self]
omit h in
theorem nofin (z : List (List Char)) : (("cut".toList :: z).head? == some "carried".toList && ("cut".toList :: z).take 3 != ["carried".toList, "gc".toList, "cut".toList] || ([] : List String).contains "finals") = false := by kernel_rfl
theorem liftsFinal_of : P.liftsFinal = false := by
  unfold Program.liftsFinal
  rw [h, headLifts_of h]
  exact nofin _
omit h in
theorem cutWord (z : List (List Char)) (a b d : Bool) (ha : a = false) (hb : b = false) (hd : d = true) :
    ((("cut".toList == "gc".toList || "cut".toList == "spec".toList) && (z.isEmpty || z.head? == some "stop".toList)) ||
    ("cut".toList == "carried".toList && z.take 2 == ["gc".toList, "cut".toList] && !a && !b) ||
    (("cut".toList :: z).head? == some "cut".toList &&
      (([] : List String).contains "finals" || !a) && (([] : List String).contains "reflectrows" || !b) &&
      (([] : List String).contains "reflectrows" || !([] : List String).contains "leanrows") && d)) = true := by
  subst ha; subst hb; subst hd
  kernel_rfl
theorem mayEnter_of (h1 : P.laysLater = false) (h2 : P.bearsReflect = false) (h3 : P.doorFits [] = true) : P.mayEnter = true := by
  unfold Program.mayEnter
  rw [h]
  simp only [lifts_none]
  exact cutWord z _ _ _ h1 h2 h3
end
theorem isMade : Try.prog.make = some .cut := make_of bw_init
theorem noFinals : Try.prog.liftsFinal = false := liftsFinal_of bw_init
theorem e1 : Try.prog.laysLater = false := by kernel_rfl
theorem e2 : Try.prog.bearsReflect = false := by kernel_rfl
theorem e3 : Try.prog.doorFits [] = true := by kernel_rfl
theorem mayEnter_ : Try.prog.mayEnter = true := mayEnter_of bw_init e1 e2 e3

theorem closed_gen (P : Program) (k0 : P.mayEnter = true) (k1 : P.liftsFinal = false) (k2 : P.make = some .cut) (f : FuncId) (fn : Func) (s : ChangeSpec) (c : OpenClaim) (hl : c.lifted = false) (hm : c.make = .cut)
    (hA : (c.wf (OpenSpec.ofChange s) && laidOutB P && mapsRowed P && fn.params.all (P.readableRec ·) && namedTie P c.named s.vars && (c.stops == []) && (P.stops == []) && (c.knobs == []) && (P.stopKnobs == []) && (c.inPlace == P.inPlace f) && (c.unfollowed == P.unfollowed f) && (c.recurses == P.recurses f) && (c.named == P.varsNamed f) && (c.maps == (fn.params.toList ++ s.plain.varTypes P).any (P.mapsRec ·)) && (c.ifaces == (fn.params.toList ++ s.plain.varTypes P).any (P.ifacesRec ·)) && (c.mapsOut == P.mapsAmong fn.resultTypes.toList) && (c.loops == (fn.params.toList ++ s.plain.varTypes P).any (P.loopsFrom ·)) && (c.wideKeys == (fn.params.toList ++ s.plain.varTypes P ++ fn.resultTypes.toList).any (P.wideKeysFrom ·)) && s.vars.all (P.varReadable ·) && fn.resultTypes.all (fun t => P.readableRec t && decide (t < P.types.size)) && (c.ifacesOut == fn.resultTypes.toList.any (P.ifacesRec ·)) && (c.loopsOut == fn.resultTypes.toList.any (P.loopsFrom ·)) && (c.plainKeys == P.plainKeys) && c.shortTexts.isNone && P.stopsHeard) = true)
    (h28 : ((c.kinds == (if c.domain.isEmpty then [] else fn.params.toList.map fun t => match P.underlying t with | some (.int k) => some k | _ => none))) = true) (h29 : ((c.pinned == c.pinnedBy)) = true) (h30 : ((c.veiled == (fn.params.toList ++ s.plain.varTypes P ++ fn.resultTypes.toList).any (P.veiledRec ·))) = true) (h31 : (c.veiledFits P fn.params.toList (fn.params.toList ++ s.plain.varTypes P ++ fn.resultTypes.toList)) = true) : joinedFacts P f fn s c = true := by
  unfold joinedFacts
  rw [hA, k0, k1, k2, hl, hm]
  refine Bool.and_eq_true_iff.2 ⟨Bool.and_eq_true_iff.2 ⟨Bool.and_eq_true_iff.2 ⟨Bool.and_eq_true_iff.2 ⟨rfl, h28⟩, h29⟩, h30⟩, h31⟩
theorem closed_row (f : FuncId) (fn : Func) (s : ChangeSpec) (c : OpenClaim) (hl : c.lifted = false) (hm : c.make = .cut)
    (hA : (c.wf (OpenSpec.ofChange s) && laidOutB Try.prog && mapsRowed Try.prog && fn.params.all (Try.prog.readableRec ·) && namedTie Try.prog c.named s.vars && (c.stops == []) && (Try.prog.stops == []) && (c.knobs == []) && (Try.prog.stopKnobs == []) && (c.inPlace == Try.prog.inPlace f) && (c.unfollowed == Try.prog.unfollowed f) && (c.recurses == Try.prog.recurses f) && (c.named == Try.prog.varsNamed f) && (c.maps == (fn.params.toList ++ s.plain.varTypes Try.prog).any (Try.prog.mapsRec ·)) && (c.ifaces == (fn.params.toList ++ s.plain.varTypes Try.prog).any (Try.prog.ifacesRec ·)) && (c.mapsOut == Try.prog.mapsAmong fn.resultTypes.toList) && (c.loops == (fn.params.toList ++ s.plain.varTypes Try.prog).any (Try.prog.loopsFrom ·)) && (c.wideKeys == (fn.params.toList ++ s.plain.varTypes Try.prog ++ fn.resultTypes.toList).any (Try.prog.wideKeysFrom ·)) && s.vars.all (Try.prog.varReadable ·) && fn.resultTypes.all (fun t => Try.prog.readableRec t && decide (t < Try.prog.types.size)) && (c.ifacesOut == fn.resultTypes.toList.any (Try.prog.ifacesRec ·)) && (c.loopsOut == fn.resultTypes.toList.any (Try.prog.loopsFrom ·)) && (c.plainKeys == Try.prog.plainKeys) && c.shortTexts.isNone && Try.prog.stopsHeard) = true)
    (h28 : ((c.kinds == (if c.domain.isEmpty then [] else fn.params.toList.map fun t => match Try.prog.underlying t with | some (.int k) => some k | _ => none))) = true) (h29 : ((c.pinned == c.pinnedBy)) = true) (h30 : ((c.veiled == (fn.params.toList ++ s.plain.varTypes Try.prog ++ fn.resultTypes.toList).any (Try.prog.veiledRec ·))) = true) (h31 : (c.veiledFits Try.prog fn.params.toList (fn.params.toList ++ s.plain.varTypes Try.prog ++ fn.resultTypes.toList)) = true) : joinedFacts Try.prog f fn s c = true :=
  closed_gen Try.prog mayEnter_ noFinals isMade f fn s c hl hm hA h28 h29 h30 h31
end Go.Proofs.Ytonbcbhnnflohaa
