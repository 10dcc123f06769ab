/-
  Contracts: the spot of a patch for two shares; the reference's side.
-/
import Derived.Test.YtefnlalldgbcaaaRq
import Derived.Test.YtefnlalldgbcaaaAp
namespace Go.Proofs.Ytefnlalldgbcaaa
open Go.RowKit

section
variable {P : Program} {w0 w : World} {N : Nat} {a : Act} {E : List (Nat × Value)} {L : List Ent} {K : Act → World → Prop} {Q : Exit → Act → World → Prop} {d : Nat} {ty : TypeId} {pos : String} {aft : Array Edge} {g : Option (Nat × Bool)}
/-- A comparison of floats whose value is known. -/
theorem o_fgeqK {x y : Operand} {t ys : TypeId} {k : FloatKind} {i j : Nat} {ci cj : Option Nat} {r : Bool} (st : St w0 N a w E L) (hx : evE E x = some (.float k i)) (hy : evE E y = some (.float k j)) (hi : Is k i ci) (hj : Is k j cj) (hr : fgeB k ci cj = r) (hd : Nat.blt d N = true)
    (h : ∀ a', St w0 N a' w ((d, .bool r) :: E) L → K a' w) : Oper.wp P ⟨some d, .binOp .geq t x y ys, ty, pos, aft, g⟩ a w K Q := by
  cases r
  · exact o_fgeq st hx hy hi hj hd (fun ht => by rw [hr] at ht; cases ht) fun _ => h
  · exact o_fgeq st hx hy hi hj hd (fun _ => h) fun ht => by rw [hr] at ht; cases ht
end

/-! ## shares -/
def geZ (c : Option Nat) : Bool := fgeB .f32 c (some 0)
/-- The third share. -/
def cPat (a b : Option Nat) : Option Nat := fop .sub .f32 (fop .sub .f32 one32 a) b
def patCan (ss : List S3) (d : Int) (a b : Option Nat) : Bool := patchC ss d 3 && (geZ a && (geZ b && geZ (cPat a b)))

theorem class_cases {x : Nat} {c : Option Nat} (h : Is .f32 x c) : c = none ∨ Fin .f32 c ∨ ∃ s, c = some x ∧ FloatKind.f32.format.read x = .infinity s := by
  cases c with
  | none => exact .inl rfl
  | some y =>
    obtain ⟨rfl, hn⟩ := cl_some h.2
    right
    have hle := rung_le FloatKind.f32.format (bb .f32) y hn
    rcases Nat.lt_or_eq_of_le hle with h1 | h1
    · exact .inl h1
    · exact .inr ⟨_, rfl, read_inf FloatKind.f32.format (bb .f32) y h1⟩
theorem read_zero32 : ∃ m p, FloatKind.f32.format.read 0 = .number false m p := ⟨0, -149, by decide +kernel⟩
theorem read_one32 : ∃ m p, FloatKind.f32.format.read 1065353216 = .number false m p := ⟨8388608, -23, by decide +kernel⟩
theorem geZ_inf {x : Nat} {s : Bool} (h : FloatKind.f32.format.read x = .infinity s) : geZ (some x) = !s := by
  obtain ⟨m, p, h0⟩ := read_zero32
  unfold geZ fgeB
  have e : ford .f32 (some x) (some 0) = some (if s then .lt else .gt) := by
    show FloatKind.f32.format.order x 0 = _
    unfold Ieee.Format.order
    rw [h, h0]
    rfl
  rw [e]
  cases s <;> rfl
theorem read_ninf : FloatKind.f32.format.read (FloatKind.f32.format.write (.infinity true)) = .infinity true := by decide +kernel
theorem geZ_none : geZ none = false := rfl
/-- Less an infinity: nothing that is 0 or more. -/
theorem geZ_sub_inf {y : Nat} (h : FloatKind.f32.format.read y = .infinity false) (e : Option Nat) : geZ (fop .sub .f32 e (some y)) = false := by
  cases e with
  | none => rfl
  | some z =>
    have h1 : fop .sub .f32 (some z) (some y) = (Ieee.Datum.sum (FloatKind.f32.format.read z) (.infinity true)).map FloatKind.f32.format.write := by
      show (Ieee.Datum.sum (FloatKind.f32.format.read z) (FloatKind.f32.format.read y).opposite).map _ = _
      rw [h]
      rfl
    rw [h1]
    cases FloatKind.f32.format.read z with
    | nan s t => rfl
    | infinity s =>
      cases s
      · rfl
      · show geZ (some _) = false
        rw [geZ_inf read_ninf]
        rfl
    | number s m p =>
      show geZ (some _) = false
      rw [geZ_inf read_ninf]
      rfl
/-- A negative infinity less something: nothing that is 0 or more. -/
theorem geZ_ninf_sub {z : Nat} (h : FloatKind.f32.format.read z = .infinity true) (b : Option Nat) : geZ (fop .sub .f32 (some z) b) = false := by
  cases b with
  | none => rfl
  | some y =>
    have h1 : fop .sub .f32 (some z) (some y) = (Ieee.Datum.sum (.infinity true) (FloatKind.f32.format.read y).opposite).map FloatKind.f32.format.write := by
      show (Ieee.Datum.sum (FloatKind.f32.format.read z) (FloatKind.f32.format.read y).opposite).map _ = _
      rw [h]
    rw [h1]
    cases FloatKind.f32.format.read y with
    | nan s t => rfl
    | infinity s =>
      cases s
      · show geZ (some _) = false
        rw [geZ_inf read_ninf]
        rfl
      · rfl
    | number s m p =>
      show geZ (some _) = false
      rw [geZ_inf read_ninf]
      rfl
theorem one_sub_inf {x : Nat} (h : FloatKind.f32.format.read x = .infinity false) : ∃ z, fop .sub .f32 one32 (some x) = some z ∧ FloatKind.f32.format.read z = .infinity true := by
  obtain ⟨m, p, h0⟩ := read_one32
  refine ⟨FloatKind.f32.format.write (.infinity true), ?_, read_ninf⟩
  show (Ieee.Datum.sum (FloatKind.f32.format.read 1065353216) (FloatKind.f32.format.read x).opposite).map _ = _
  rw [h, h0]
  rfl
theorem fin_of_ge {x y : Nat} {a b : Option Nat} (hx : Is .f32 x a) (hy : Is .f32 y b) (ha : geZ a = true) (hb : geZ b = true) (hc : geZ (cPat a b) = true) : finC a = true ∧ finC b = true := by
  unfold cPat at hc
  refine ⟨?_, ?_⟩
  · rcases class_cases hx with rfl | h | ⟨s, rfl, h⟩
    · cases ha
    · exact fin_finC h
    · rw [geZ_inf h] at ha
      cases s
      · obtain ⟨z, hz, hr⟩ := one_sub_inf h
        rw [hz, geZ_ninf_sub hr] at hc
        cases hc
      · cases ha
  · rcases class_cases hy with rfl | h | ⟨s, rfl, h⟩
    · cases hb
    · exact fin_finC h
    · rw [geZ_inf h] at hb
      cases s
      · rw [geZ_sub_inf h] at hc
        cases hc
      · cases hb
def leastB (c : Option Nat) : Bool := finC c && geZ c
theorem patCan_eq {x y : Nat} {ss : List S3} {d : Int} {a b : Option Nat} (hx : Is .f32 x a) (hy : Is .f32 y b) : patCan ss d a b = (patchC ss d 3 && (leastB a && (leastB b && geZ (cPat a b)))) := by
  unfold patCan leastB
  cases ha : geZ a
  · simp
  cases hb : geZ b
  · simp
  cases hc : geZ (cPat a b)
  · simp
  obtain ⟨h1, h2⟩ := fin_of_ge hx hy ha hb hc
  simp [h1, h2]

/-! ## what is computed -/
def pat1 (ss : List S3) (c a b : Option Nat) (d i j : Nat) : S3 := addS (addS (timesS (ss.getD (plc d i j) z3) c) (timesS (ss.getD (plc d (i + 1) j) z3) a)) (timesS (ss.getD (plc d i (j + 1)) z3) b)
def pRow (ss : List S3) (c a b : Option Nat) (d j i : Nat) : List S3 := (List.range i).map fun i => pat1 ss c a b d i j
def pAll (ss : List S3) (c a b : Option Nat) (d j : Nat) : List S3 := (List.range j).flatMap fun j => pRow ss c a b d j (d - j)
def pN (c a b : Option Nat) : Nat → List S3 → List S3
  | 0, ss => ss
  | d + 1, ss => pN c a b d (pAll ss c a b (d + 1) (d + 1))
def patAt (ss : List S3) (d : Int) (a b : Option Nat) : S3 := (pN (cPat a b) a b d.toNat ss).headD z3
theorem pRow_succ (ss : List S3) (c a b : Option Nat) (d j i : Nat) : pRow ss c a b d j (i + 1) = pRow ss c a b d j i ++ [pat1 ss c a b d i j] := by simp [pRow, List.range_succ]
theorem pAll_succ (ss : List S3) (c a b : Option Nat) (d j : Nat) : pAll ss c a b d (j + 1) = pAll ss c a b d j ++ pRow ss c a b d j (d - j) := by simp [pAll, List.range_succ]
theorem pRow_length (ss : List S3) (c a b : Option Nat) (d j i : Nat) : (pRow ss c a b d j i).length = i := by simp [pRow]
theorem pAll_le (ss : List S3) (c a b : Option Nat) (d : Nat) : ∀ j : Nat, (pAll ss c a b d j).length ≤ j * d
  | 0 => by simp [pAll]
  | j + 1 => by
    have := pAll_le ss c a b d j
    rw [pAll_succ, List.length_append, pRow_length, Nat.add_mul, Nat.one_mul]
    omega
theorem pAll_length (ss : List S3) (c a b : Option Nat) (d : Nat) (hd : d ≤ 2) : (pAll ss c a b (d + 1) (d + 1)).length = tot d := by
  have hc : d = 0 ∨ d = 1 ∨ d = 2 := by omega
  rcases hc with rfl | rfl | rfl <;> rfl
def patC (ss : List S3) (d : Int) (a b : Option Nat) : S3 := bif patCan ss d a b then giveS (patAt ss d a b) else z3
def patOk (ss : List S3) (d : Int) (a b : Option Nat) : Bool := patCan ss d a b && finS (patAt ss d a b)

attribute [local irreducible] Code.wp wpList Oper.wp Calls bodyPost Exit.then Exit.inBlock

theorem l02Least_ok (x : Nat) (c : Option Nat) (hx : Is .f32 x c) (w : World) : CV Try.prog 137 [.float .f32 x] w (.bool (leastB c)) := by
  refine enter Try.func137 rfl rfl rfl rfl ?_
  intro a st
  have hf := fun w => l01Finite_ok x c hx w
  unfold leastB
  generalize finC c = q at hf
  have hg : fgeB .f32 c (some 0) = geZ c := rfl
  generalize geZ c = r at hg
  cases q <;> cases r
  all_goals
    (repeat' (first | (refine o_callV st rfl (hf _) rfl ?_; clear st; intro _ _ st) | (refine o_fgeqK st rfl rfl hx (by first | assumption | exact Is_ofInt _ _ | exact Is_lit (by decide +kernel)) hg rfl ?_; clear st; intro _ st) | (refine c_seq ?_) | (refine c_region ?_) | (refine l_do ?_) | (refine l_doG st rfl rfl ?_) | (refine l_skipU st rfl rfl rfl ?_; clear st; intro _ st) | (refine l_skip st rfl rfl rfl rfl ?_; clear st; intro _ st) | (refine l_nil ?_) | (refine x_then ?_) | (refine x_thenR ?_) | (refine x_thenE ?_) | (refine wp_ret ?_) | (refine o_move st rfl rfl ?_; clear st; intro _ st) | (refine o_assign st rfl rfl ?_; clear st; intro _ st) | (refine o_pickT st rfl rfl rfl ?_; clear st; intro _ st) | (refine o_pickF st rfl rfl rfl ?_; clear st; intro _ st) | (refine o_fgeq st rfl rfl (by first | assumption | exact Is_ofInt _ _ | exact Is_lit (by decide +kernel)) (by first | assumption | exact Is_ofInt _ _ | exact Is_lit (by decide +kernel)) rfl ?_ ?_ <;> clear st <;> intro _ _ st <;> (try simp_all))))
    refine post1 st Try.results137 (rd_t st rfl) ?_
    exact ⟨rfl, st.ex0⟩

set_option maxHeartbeats 16000000 in
theorem specPat_can (bs : List B3) (ss : List S3) (h : IsSL bs ss) (base : Option Addr) (cap : Nat) (d : Int) (x y : Nat) (u v : Option Nat) (hx : Is .f32 x u) (hy : Is .f32 y v) (hq : patCan ss d u v = false) (w : World) (hr : RdS w base bs) (hlen : bs.length < 1000000000) :
    CSB Try.prog 68 [.slice base bs.length cap, .int .i64 d, .float .f32 x, .float .f32 y] w z3 false := by
  refine enter Try.func68 rfl rfl rfl rfl ?_
  intro a st
  have hc := fun (w : World) hr => l04Patch_ok bs ss h base cap d w hr hlen
  have hl1 := fun w => l02Least_ok x u hx w
  have hl2 := fun w => l02Least_ok y v hy w
  rw [patCan_eq hx hy] at hq
  have hg : fgeB .f32 (fop .sub .f32 (fop .sub .f32 one32 u) v) (some 0) = geZ (cPat u v) := rfl
  generalize patchC ss d 3 = q1 at hc hq
  generalize leastB u = q2 at hl1 hq
  generalize leastB v = q3 at hl2 hq
  generalize geZ (cPat u v) = q4 at hg hq
  have hcase : q1 = false ∨ (q1 = true ∧ q2 = false) ∨ (q1 = true ∧ q2 = true ∧ q3 = false) ∨ (q1 = true ∧ q2 = true ∧ q3 = true ∧ q4 = false) := by
    cases q1 <;> cases q2 <;> cases q3 <;> cases q4 <;> simp_all
  rcases hcase with rfl | ⟨rfl, rfl⟩ | ⟨rfl, rfl, rfl⟩ | ⟨rfl, rfl, rfl, rfl⟩
  all_goals
    (repeat' (first | (refine o_callV st rfl (hc _ (hr.mono st.below)) rfl ?_; clear st; intro _ _ st) | (refine o_callV st rfl (hl1 _) rfl ?_; clear st; intro _ _ st) | (refine o_callV st rfl (hl2 _) rfl ?_; clear st; intro _ _ st) | (refine o_fgeqK st rfl rfl (by assumption) (by first | assumption | exact Is_ofInt _ _ | exact Is_lit (by decide +kernel)) hg rfl ?_; clear st; intro _ st) | (refine o_fop rfl st rfl rfl (by first | assumption | exact Is_lit (by decide +kernel)) (by first | assumption | exact Is_lit (by decide +kernel)) rfl ?_; clear st; intro _ _ _ _ st) | (refine c_seq ?_) | (refine c_region ?_) | (refine l_do ?_) | (refine l_doG st rfl rfl ?_) | (refine l_skipU st rfl rfl rfl ?_; clear st; intro _ st) | (refine l_skip st rfl rfl rfl rfl ?_; clear st; intro _ st) | (refine l_nil ?_) | (refine x_then ?_) | (refine x_thenR ?_) | (refine x_thenE ?_) | (refine x_blkN ?_) | (refine x_blkR ?_) | (refine x_blkE ?_) | (refine x_blkO rfl ?_) | (refine wp_ret ?_) | (refine wp_skip ?_) | (refine wp_block ?_) | (refine wp_exit ?_) | (refine c_condT st rfl ?_) | (refine c_condF st rfl ?_) | (refine o_move st rfl rfl ?_; clear st; intro _ st) | (refine o_assign st rfl rfl ?_; clear st; intro _ st) | (refine o_pickT st rfl rfl rfl ?_; clear st; intro _ st) | (refine o_pickF st rfl rfl rfl ?_; clear st; intro _ st) | (refine o_alloc st rfl ?_; clear st; intro _ _ _ st) | (refine o_loadS st rfl (by repeat (first | exact At.here | apply At.there)) rfl rfl ?_; clear st; intro _ st) | (refine o_load3 st rfl (by repeat (first | exact At.here | apply At.there)) rfl ?_; clear st; intro _ st) | (refine o_load2 st rfl (by repeat (first | exact At.here | apply At.there)) rfl ?_; clear st; intro _ st) | (refine o_load4 st rfl (by repeat (first | exact At.here | apply At.there)) rfl ?_; clear st; intro _ st) | (refine o_storeS st rfl rfl rfl (by repeat (first | exact Upd.here | apply Upd.there)) rfl (by dsimp only [List.set]) ?_; clear st; intro _ _ st) | (refine o_storeW st rfl rfl (by repeat (first | exact Upd.here | apply Upd.there)) rfl rfl rfl ?_; clear st; intro _ _ st) | (refine o_build3 st rfl rfl rfl rfl rfl rfl rfl ?_; clear st; intro _ st) | (refine o_build2 st rfl rfl rfl rfl rfl ?_; clear st; intro _ st) | (refine o_build0 st rfl ?_; clear st; intro _ st) | (refine o_extract st rfl rfl rfl ?_; clear st; intro _ st) | (refine o_add64 st rfl rfl rfl (by omega) (by omega) ?_; clear st; intro _ st) | (refine o_sub64 st rfl rfl rfl (by omega) (by omega) ?_; clear st; intro _ st) | (refine o_notT st rfl rfl ?_; clear st; intro _ st) | (refine o_notF st rfl rfl ?_; clear st; intro _ st) | (refine o_fop rfl st rfl rfl (by first | assumption | exact Is_ofInt _ _ | exact Is_lit (by decide +kernel)) (by first | assumption | exact Is_ofInt _ _ | exact Is_lit (by decide +kernel)) rfl ?_; clear st; intro _ _ _ _ st) | (refine o_lss st rfl rfl rfl ?_ ?_ <;> clear st <;> intro _ _ st <;> (try (exfalso; omega))) | (refine o_gtr st rfl rfl rfl ?_ ?_ <;> clear st <;> intro _ _ st <;> (try (exfalso; omega))) | (refine o_fgeq st rfl rfl (by first | assumption | exact Is_ofInt _ _ | exact Is_lit (by decide +kernel)) (by first | assumption | exact Is_ofInt _ _ | exact Is_lit (by decide +kernel)) rfl ?_ ?_ <;> clear st <;> intro _ _ st <;> (try simp_all))))
    refine post2 st Try.results68 (rd_c st rfl (by repeat (first | exact At.here | apply At.there)) rfl) (rd_t st rfl) ?_
    exact ⟨_, rfl, ⟨(0, 0, 0), rfl, IsS_z⟩, st.ex0⟩

set_option maxRecDepth 100000 in
set_option maxHeartbeats 32000000 in
theorem specPat_yes (bs : List B3) (ss : List S3) (h : IsSL bs ss) (base : Option Addr) (cap : Nat) (d : Int) (x y : Nat) (u v : Option Nat) (hx : Is .f32 x u) (hy : Is .f32 y v) (hq : patCan ss d u v = true) (w : World) (hr : RdS w base bs) (hlen : bs.length < 1000000000) :
    CSB Try.prog 68 [.slice base bs.length cap, .int .i64 d, .float .f32 x, .float .f32 y] w (giveS (patAt ss d u v)) (finS (patAt ss d u v)) := by
  refine enter Try.func68 rfl rfl rfl rfl ?_
  intro a st
  have hc := fun (w : World) hr => l04Patch_ok bs ss h base cap d w hr hlen
  have hl1 := fun w => l02Least_ok x u hx w
  have hl2 := fun w => l02Least_ok y v hy w
  rw [patCan_eq hx hy] at hq
  have hg : fgeB .f32 (fop .sub .f32 (fop .sub .f32 one32 u) v) (some 0) = geZ (cPat u v) := rfl
  simp only [Bool.and_eq_true] at hq
  obtain ⟨h1, h2, h3, h4⟩ := hq
  obtain ⟨g, rfl, hg1, _, hg3, hsl, _⟩ := patch_nums (by omega) h1
  rw [h1] at hc
  rw [h2] at hl1
  rw [h3] at hl2
  rw [h4] at hg
  have hbl := h.len
  have htp : 0 < tot g := by have := plc_le (g := g) (k := 0) (by omega) (by omega); omega
  rcases id hr with rfl | ⟨ba, off, cs, ty, fr, rfl, hw, hsp⟩
  · simp at hbl; omega
  have hP : patAt ss g u v = (pN (cPat u v) u v g ss).headD z3 := rfl
  rw [hP]
  have st := st.addOld hw
  (repeat' (first | (refine o_callV st rfl (hc _ (hr.mono st.below)) rfl ?_; clear st; intro _ _ st) | (refine o_callV st rfl (hl1 _) rfl ?_; clear st; intro _ _ st) | (refine o_callV st rfl (hl2 _) rfl ?_; clear st; intro _ _ st) | (refine o_fgeqK st rfl rfl (by assumption) (by first | assumption | exact Is_ofInt _ _ | exact Is_lit (by decide +kernel)) hg rfl ?_; clear st; intro _ st) | (refine o_fop (ci := one32) (cj := u) rfl st rfl rfl (Is_lit (by decide +kernel)) hx rfl ?_; clear st; intro z0 _ _ hz0 st) | (refine o_fop (cj := v) rfl st rfl rfl hz0 hy rfl ?_; clear st; intro z1 _ _ hz1 st) | (refine c_seq ?_) | (refine c_region ?_) | (refine l_do ?_) | (refine l_doG st rfl rfl ?_) | (refine l_skipU st rfl rfl rfl ?_; clear st; intro _ st) | (refine l_skip st rfl rfl rfl rfl ?_; clear st; intro _ st) | (refine l_nil ?_) | (refine x_then ?_) | (refine x_thenR ?_) | (refine x_thenE ?_) | (refine x_blkN ?_) | (refine x_blkR ?_) | (refine x_blkE ?_) | (refine x_blkO rfl ?_) | (refine wp_ret ?_) | (refine wp_skip ?_) | (refine wp_block ?_) | (refine wp_exit ?_) | (refine c_condT st rfl ?_) | (refine c_condF st rfl ?_) | (refine o_move st rfl rfl ?_; clear st; intro _ st) | (refine o_assign st rfl rfl ?_; clear st; intro _ st) | (refine o_pickT st rfl rfl rfl ?_; clear st; intro _ st) | (refine o_pickF st rfl rfl rfl ?_; clear st; intro _ st) | (refine o_alloc st rfl ?_; clear st; intro _ _ _ st) | (refine o_loadS st rfl (by repeat (first | exact At.here | apply At.there)) rfl rfl ?_; clear st; intro _ st) | (refine o_load3 st rfl (by repeat (first | exact At.here | apply At.there)) rfl ?_; clear st; intro _ st) | (refine o_load2 st rfl (by repeat (first | exact At.here | apply At.there)) rfl ?_; clear st; intro _ st) | (refine o_load4 st rfl (by repeat (first | exact At.here | apply At.there)) rfl ?_; clear st; intro _ st) | (refine o_storeS st rfl rfl rfl (by repeat (first | exact Upd.here | apply Upd.there)) rfl (by dsimp only [List.set]) ?_; clear st; intro _ _ st) | (refine o_storeW st rfl rfl (by repeat (first | exact Upd.here | apply Upd.there)) rfl rfl rfl ?_; clear st; intro _ _ st) | (refine o_build3 st rfl rfl rfl rfl rfl rfl rfl ?_; clear st; intro _ st) | (refine o_build2 st rfl rfl rfl rfl rfl ?_; clear st; intro _ st) | (refine o_build0 st rfl ?_; clear st; intro _ st) | (refine o_extract st rfl rfl rfl ?_; clear st; intro _ st) | (refine o_add64 st rfl rfl rfl (by omega) (by omega) ?_; clear st; intro _ st) | (refine o_sub64 st rfl rfl rfl (by omega) (by omega) ?_; clear st; intro _ st) | (refine o_notT st rfl rfl ?_; clear st; intro _ st) | (refine o_notF st rfl rfl ?_; clear st; intro _ st) | (refine o_fop rfl st rfl rfl (by first | assumption | exact Is_ofInt _ _ | exact Is_lit (by decide +kernel)) (by first | assumption | exact Is_ofInt _ _ | exact Is_lit (by decide +kernel)) rfl ?_; clear st; intro _ _ _ _ st) | (refine o_lss st rfl rfl rfl ?_ ?_ <;> clear st <;> intro _ _ st <;> (try (exfalso; omega))) | (refine o_gtr st rfl rfl rfl ?_ ?_ <;> clear st <;> intro _ _ st <;> (try (exfalso; omega))) | (refine o_fgeq st rfl rfl (by first | assumption | exact Is_ofInt _ _ | exact Is_lit (by decide +kernel)) (by first | assumption | exact Is_ofInt _ _ | exact Is_lit (by decide +kernel)) rfl ?_ ?_ <;> clear st <;> intro _ _ st <;> (try simp_all))))
  have hz1 : Is .f32 z1 (cPat u v) := hz1
  refine wp_loop_ghost (fun z a w' => ∃ (d pb nb nof cp : Nat) (ow : Bool) (ncs : Array Value) (nty : TypeId) (nfr : Nat × Nat) (os : List B3) (tt : List S3) (p0 p1 p2 : Value), d ≤ g ∧ z = d ∧ IsSL os tt ∧ tt.length = tot d ∧ pN (cPat u v) u v d tt = pN (cPat u v) u v g ss ∧ SpotsIn ncs nof os ∧ St w Try.f68.ntmps a w' [(2, .float .f32 x), (3, .float .f32 y), (8, .pointer (some ⟨pb, 0, none⟩)), (10, .float .f32 z1), (11, .slice (some ⟨nb, nof, none⟩) os.length cp), (12, .int .i64 (d : Int))] [⟨pb, true, .cells [p0, p1, p2].toArray 26 (0, 0)⟩, ⟨nb, ow, .cells ncs nty nfr⟩]) g ⟨g, _, ba, off, cap, false, cs, ty, fr, bs, ss, _, _, _, by omega, rfl, h, hsl, rfl, hsp, (st.fit (by repeat (first | exact trivial | refine And.intro rfl ?_)))⟩ ?_
  clear st
  rintro z a w' ⟨d, pb, nb, nof, cp, ow, ncs, nty, nfr, os, tt, p0, p1, p2, hd, rfl, hI, htl, hpn, hos, st⟩
  have hol := hI.len
  have htd := tot_le (g := z) (by omega)
  by_cases hlt : 0 < z
  · (repeat' (first | (refine o_buildSlice0S st rfl ?_; clear st; intro blk0 _ _ st) | (refine c_seq ?_) | (refine c_region ?_) | (refine l_do ?_) | (refine l_doG st rfl rfl ?_) | (refine l_skipU st rfl rfl rfl ?_; clear st; intro _ st) | (refine l_skip st rfl rfl rfl rfl ?_; clear st; intro _ st) | (refine l_nil ?_) | (refine x_then ?_) | (refine x_thenR ?_) | (refine x_thenE ?_) | (refine x_blkN ?_) | (refine x_blkR ?_) | (refine x_blkE ?_) | (refine x_blkO rfl ?_) | (refine wp_ret ?_) | (refine wp_skip ?_) | (refine wp_block ?_) | (refine wp_exit ?_) | (refine c_condT st rfl ?_) | (refine c_condF st rfl ?_) | (refine o_move st rfl rfl ?_; clear st; intro _ st) | (refine o_assign st rfl rfl ?_; clear st; intro _ st) | (refine o_pickT st rfl rfl rfl ?_; clear st; intro _ st) | (refine o_pickF st rfl rfl rfl ?_; clear st; intro _ st) | (refine o_alloc st rfl ?_; clear st; intro _ _ _ st) | (refine o_loadS st rfl (by repeat (first | exact At.here | apply At.there)) rfl rfl ?_; clear st; intro _ st) | (refine o_load3 st rfl (by repeat (first | exact At.here | apply At.there)) rfl ?_; clear st; intro _ st) | (refine o_load2 st rfl (by repeat (first | exact At.here | apply At.there)) rfl ?_; clear st; intro _ st) | (refine o_load4 st rfl (by repeat (first | exact At.here | apply At.there)) rfl ?_; clear st; intro _ st) | (refine o_storeS st rfl rfl rfl (by repeat (first | exact Upd.here | apply Upd.there)) rfl (by dsimp only [List.set]) ?_; clear st; intro _ _ st) | (refine o_storeW st rfl rfl (by repeat (first | exact Upd.here | apply Upd.there)) rfl rfl rfl ?_; clear st; intro _ _ st) | (refine o_build3 st rfl rfl rfl rfl rfl rfl rfl ?_; clear st; intro _ st) | (refine o_build2 st rfl rfl rfl rfl rfl ?_; clear st; intro _ st) | (refine o_build0 st rfl ?_; clear st; intro _ st) | (refine o_extract st rfl rfl rfl ?_; clear st; intro _ st) | (refine o_add64 st rfl rfl rfl (by omega) (by omega) ?_; clear st; intro _ st) | (refine o_sub64 st rfl rfl rfl (by omega) (by omega) ?_; clear st; intro _ st) | (refine o_notT st rfl rfl ?_; clear st; intro _ st) | (refine o_notF st rfl rfl ?_; clear st; intro _ st) | (refine o_fop rfl st rfl rfl (by first | assumption | exact Is_ofInt _ _ | exact Is_lit (by decide +kernel)) (by first | assumption | exact Is_ofInt _ _ | exact Is_lit (by decide +kernel)) rfl ?_; clear st; intro _ _ _ _ st) | (refine o_lss st rfl rfl rfl ?_ ?_ <;> clear st <;> intro _ _ st <;> (try (exfalso; omega))) | (refine o_gtr st rfl rfl rfl ?_ ?_ <;> clear st <;> intro _ _ st <;> (try (exfalso; omega))) | (refine o_fgeq st rfl rfl (by first | assumption | exact Is_ofInt _ _ | exact Is_lit (by decide +kernel)) (by first | assumption | exact Is_ofInt _ _ | exact Is_lit (by decide +kernel)) rfl ?_ ?_ <;> clear st <;> intro _ _ st <;> (try simp_all))))
    refine wp_loop_ghost (fun n a w' => ∃ (j blk cp2 : Nat) (ns : List B3) (pad : List Value), j ≤ z ∧ n = z - j ∧ IsSL ns (pAll tt (cPat u v) u v z j) ∧ (cS ns ++ pad).length = cp2 * 3 ∧ St w Try.f68.ntmps a w' [(2, .float .f32 x), (3, .float .f32 y), (8, .pointer (some ⟨pb, 0, none⟩)), (10, .float .f32 z1), (11, .slice (some ⟨nb, nof, none⟩) os.length cp), (12, .int .i64 (z : Int)), (13, .slice (some ⟨blk, 0, none⟩) ns.length cp2), (14, .int .i64 (j : Int))] [⟨blk, true, oS ns pad⟩, ⟨pb, true, .cells [p0, p1, p2].toArray 26 (0, 0)⟩, ⟨nb, ow, .cells ncs nty nfr⟩]) z ⟨0, blk0, 0, [], [], by omega, by omega, IsSL_nil, rfl, (st.fit (by repeat (first | exact trivial | refine And.intro rfl ?_))).subL (by repeat (first | exact List.Sublist.refl _ | apply List.Sublist.cons_cons | apply List.Sublist.cons | exact List.nil_sublist _))⟩ ?_
    clear st
    rintro n a w' ⟨j, blk, cp2, ns, pad, hj, rfl, hIn, hp, st⟩
    have hnl := hIn.len
    have hle := pAll_le tt (cPat u v) u v z j
    have hjb : j * z ≤ 3 * 3 := Nat.mul_le_mul (by omega) (by omega)
    by_cases hltj : j < z
    · (repeat' (first | (refine c_seq ?_) | (refine c_region ?_) | (refine l_do ?_) | (refine l_doG st rfl rfl ?_) | (refine l_skipU st rfl rfl rfl ?_; clear st; intro _ st) | (refine l_skip st rfl rfl rfl rfl ?_; clear st; intro _ st) | (refine l_nil ?_) | (refine x_then ?_) | (refine x_thenR ?_) | (refine x_thenE ?_) | (refine x_blkN ?_) | (refine x_blkR ?_) | (refine x_blkE ?_) | (refine x_blkO rfl ?_) | (refine wp_ret ?_) | (refine wp_skip ?_) | (refine wp_block ?_) | (refine wp_exit ?_) | (refine c_condT st rfl ?_) | (refine c_condF st rfl ?_) | (refine o_move st rfl rfl ?_; clear st; intro _ st) | (refine o_assign st rfl rfl ?_; clear st; intro _ st) | (refine o_pickT st rfl rfl rfl ?_; clear st; intro _ st) | (refine o_pickF st rfl rfl rfl ?_; clear st; intro _ st) | (refine o_alloc st rfl ?_; clear st; intro _ _ _ st) | (refine o_loadS st rfl (by repeat (first | exact At.here | apply At.there)) rfl rfl ?_; clear st; intro _ st) | (refine o_load3 st rfl (by repeat (first | exact At.here | apply At.there)) rfl ?_; clear st; intro _ st) | (refine o_load2 st rfl (by repeat (first | exact At.here | apply At.there)) rfl ?_; clear st; intro _ st) | (refine o_load4 st rfl (by repeat (first | exact At.here | apply At.there)) rfl ?_; clear st; intro _ st) | (refine o_storeS st rfl rfl rfl (by repeat (first | exact Upd.here | apply Upd.there)) rfl (by dsimp only [List.set]) ?_; clear st; intro _ _ st) | (refine o_storeW st rfl rfl (by repeat (first | exact Upd.here | apply Upd.there)) rfl rfl rfl ?_; clear st; intro _ _ st) | (refine o_build3 st rfl rfl rfl rfl rfl rfl rfl ?_; clear st; intro _ st) | (refine o_build2 st rfl rfl rfl rfl rfl ?_; clear st; intro _ st) | (refine o_build0 st rfl ?_; clear st; intro _ st) | (refine o_extract st rfl rfl rfl ?_; clear st; intro _ st) | (refine o_add64 st rfl rfl rfl (by omega) (by omega) ?_; clear st; intro _ st) | (refine o_sub64 st rfl rfl rfl (by omega) (by omega) ?_; clear st; intro _ st) | (refine o_notT st rfl rfl ?_; clear st; intro _ st) | (refine o_notF st rfl rfl ?_; clear st; intro _ st) | (refine o_fop rfl st rfl rfl (by first | assumption | exact Is_ofInt _ _ | exact Is_lit (by decide +kernel)) (by first | assumption | exact Is_ofInt _ _ | exact Is_lit (by decide +kernel)) rfl ?_; clear st; intro _ _ _ _ st) | (refine o_lss st rfl rfl rfl ?_ ?_ <;> clear st <;> intro _ _ st <;> (try (exfalso; omega))) | (refine o_gtr st rfl rfl rfl ?_ ?_ <;> clear st <;> intro _ _ st <;> (try (exfalso; omega))) | (refine o_fgeq st rfl rfl (by first | assumption | exact Is_ofInt _ _ | exact Is_lit (by decide +kernel)) (by first | assumption | exact Is_ofInt _ _ | exact Is_lit (by decide +kernel)) rfl ?_ ?_ <;> clear st <;> intro _ _ st <;> (try simp_all))))
      refine wp_loop_ghost (fun n a w' => ∃ (i blk cp2 : Nat) (ns : List B3) (pad : List Value), i + j ≤ z ∧ n = z - j - i ∧ IsSL ns (pAll tt (cPat u v) u v z j ++ pRow tt (cPat u v) u v z j i) ∧ (cS ns ++ pad).length = cp2 * 3 ∧ St w Try.f68.ntmps a w' [(2, .float .f32 x), (3, .float .f32 y), (8, .pointer (some ⟨pb, 0, none⟩)), (10, .float .f32 z1), (11, .slice (some ⟨nb, nof, none⟩) os.length cp), (12, .int .i64 (z : Int)), (13, .slice (some ⟨blk, 0, none⟩) ns.length cp2), (14, .int .i64 (j : Int)), (15, .int .i64 (i : Int))] [⟨blk, true, oS ns pad⟩, ⟨pb, true, .cells [p0, p1, p2].toArray 26 (0, 0)⟩, ⟨nb, ow, .cells ncs nty nfr⟩]) (z - j) ⟨0, blk, cp2, ns, pad, by omega, by omega, by simpa [pRow] using hIn, hp, (st.fit (by repeat (first | exact trivial | refine And.intro rfl ?_))).subL (by repeat (first | exact List.Sublist.refl _ | apply List.Sublist.cons_cons | apply List.Sublist.cons | exact List.nil_sublist _))⟩ ?_
      clear st hp hIn hnl blk cp2 ns pad
      rintro n a w' ⟨i, blk, cp2, ns, pad, hi, rfl, hIn, hp, st⟩
      have hnl := hIn.len
      rw [List.length_append, pRow_length] at hnl
      by_cases hlti : i + j < z
      · have hpl0 : plc z i j < os.length := by have := plc_lt (g := z) (i := i) (j := j) (by omega) (by omega) (by omega); rw [hol, htl]; exact this
        have hpl1 : plc z (i + 1) j < os.length := by have := plc_lt (g := z) (i := i + 1) (j := j) (by omega) (by omega) (by omega); rw [hol, htl]; exact this
        have hpl2 : plc z i (j + 1) < os.length := by have := plc_lt (g := z) (i := i) (j := j + 1) (by omega) (by omega) (by omega); rw [hol, htl]; exact this
        have hI0 := hI.getD hpl0
        have hI1 := hI.getD hpl1
        have hI2 := hI.getD hpl2
        have hv0 := hos (plc z i j) _ (List.getElem?_eq_getElem hpl0)
        have hv1 := hos (plc z (i + 1) j) _ (List.getElem?_eq_getElem hpl1)
        have hv2 := hos (plc z i (j + 1)) _ (List.getElem?_eq_getElem hpl2)
        (repeat' (first | (refine o_alloc st rfl ?_; clear st; intro sb _ _ st) | (refine o_callV st rfl (l04Place_at z i j _ _ rfl rfl (by omega) (by omega) (by omega) (by omega) _) rfl ?_; clear st; intro _ _ st) | (refine o_indexAddr st rfl rfl (by omega) (by omega) rfl ?_; clear st; intro _ st) | (refine o_loadSp st rfl (by repeat (first | exact At.here | apply At.there)) hv0 rfl ?_; clear st; intro _ st) | (refine o_callSb st rfl (l04Times_ok _ _ hI0 _ _ hz1 _) rfl ?_; clear st; intro b1 hb1 _ _ st) | (refine c_seq ?_) | (refine c_region ?_) | (refine l_do ?_) | (refine l_doG st rfl rfl ?_) | (refine l_skipU st rfl rfl rfl ?_; clear st; intro _ st) | (refine l_skip st rfl rfl rfl rfl ?_; clear st; intro _ st) | (refine l_nil ?_) | (refine x_then ?_) | (refine x_thenR ?_) | (refine x_thenE ?_) | (refine x_blkN ?_) | (refine x_blkR ?_) | (refine x_blkE ?_) | (refine x_blkO rfl ?_) | (refine wp_ret ?_) | (refine wp_skip ?_) | (refine wp_block ?_) | (refine wp_exit ?_) | (refine c_condT st rfl ?_) | (refine c_condF st rfl ?_) | (refine o_move st rfl rfl ?_; clear st; intro _ st) | (refine o_assign st rfl rfl ?_; clear st; intro _ st) | (refine o_pickT st rfl rfl rfl ?_; clear st; intro _ st) | (refine o_pickF st rfl rfl rfl ?_; clear st; intro _ st) | (refine o_alloc st rfl ?_; clear st; intro _ _ _ st) | (refine o_loadS st rfl (by repeat (first | exact At.here | apply At.there)) rfl rfl ?_; clear st; intro _ st) | (refine o_load3 st rfl (by repeat (first | exact At.here | apply At.there)) rfl ?_; clear st; intro _ st) | (refine o_load2 st rfl (by repeat (first | exact At.here | apply At.there)) rfl ?_; clear st; intro _ st) | (refine o_load4 st rfl (by repeat (first | exact At.here | apply At.there)) rfl ?_; clear st; intro _ st) | (refine o_storeS st rfl rfl rfl (by repeat (first | exact Upd.here | apply Upd.there)) rfl (by dsimp only [List.set]) ?_; clear st; intro _ _ st) | (refine o_storeW st rfl rfl (by repeat (first | exact Upd.here | apply Upd.there)) rfl rfl rfl ?_; clear st; intro _ _ st) | (refine o_build3 st rfl rfl rfl rfl rfl rfl rfl ?_; clear st; intro _ st) | (refine o_build2 st rfl rfl rfl rfl rfl ?_; clear st; intro _ st) | (refine o_build0 st rfl ?_; clear st; intro _ st) | (refine o_extract st rfl rfl rfl ?_; clear st; intro _ st) | (refine o_add64 st rfl rfl rfl (by omega) (by omega) ?_; clear st; intro _ st) | (refine o_sub64 st rfl rfl rfl (by omega) (by omega) ?_; clear st; intro _ st) | (refine o_notT st rfl rfl ?_; clear st; intro _ st) | (refine o_notF st rfl rfl ?_; clear st; intro _ st) | (refine o_fop rfl st rfl rfl (by first | assumption | exact Is_ofInt _ _ | exact Is_lit (by decide +kernel)) (by first | assumption | exact Is_ofInt _ _ | exact Is_lit (by decide +kernel)) rfl ?_; clear st; intro _ _ _ _ st) | (refine o_lss st rfl rfl rfl ?_ ?_ <;> clear st <;> intro _ _ st <;> (try (exfalso; omega))) | (refine o_gtr st rfl rfl rfl ?_ ?_ <;> clear st <;> intro _ _ st <;> (try (exfalso; omega))) | (refine o_fgeq st rfl rfl (by first | assumption | exact Is_ofInt _ _ | exact Is_lit (by decide +kernel)) (by first | assumption | exact Is_ofInt _ _ | exact Is_lit (by decide +kernel)) rfl ?_ ?_ <;> clear st <;> intro _ _ st <;> (try simp_all))))
        refine c_drawA (last := 12) hm_ (by decide +kernel) (by decide +kernel) st ?_; clear st; intro _ st
        refine h_val (i := 0) st (by repeat (first | exact List.Sublist.refl _ | apply List.Sublist.cons_cons | apply List.Sublist.cons | exact List.nil_sublist _)) (by decide +kernel) (by decide +kernel) rfl (by decide +kernel) rfl (by first | exact v_load3 st rfl (by repeat (first | exact At.here | apply At.there)) | exact v_loadS st rfl (by repeat (first | exact At.here | apply At.there)) rfl) ?_; clear st; intro _ st
        refine h_val (i := 1) st (by repeat (first | exact List.Sublist.refl _ | apply List.Sublist.cons_cons | apply List.Sublist.cons | exact List.nil_sublist _)) (by decide +kernel) (by decide +kernel) rfl (by decide +kernel) rfl (v_move st rfl) ?_; clear st; intro _ st
        refine h_val (i := 2) st (by repeat (first | exact List.Sublist.refl _ | apply List.Sublist.cons_cons | apply List.Sublist.cons | exact List.nil_sublist _)) (by decide +kernel) (by decide +kernel) rfl (by decide +kernel) rfl (v_move st rfl) ?_; clear st; intro _ st
        refine h_val (i := 3) st (by repeat (first | exact List.Sublist.refl _ | apply List.Sublist.cons_cons | apply List.Sublist.cons | exact List.nil_sublist _)) (by decide +kernel) (by decide +kernel) rfl (by decide +kernel) rfl (v_move st rfl) ?_; clear st; intro _ st
        refine h_val (i := 4) st (by repeat (first | exact List.Sublist.refl _ | apply List.Sublist.cons_cons | apply List.Sublist.cons | exact List.nil_sublist _)) (by decide +kernel) (by decide +kernel) rfl (by decide +kernel) rfl (v_add64 st rfl rfl (by omega) (by omega)) ?_; clear st; intro _ st
        refine h_val (i := 5) st (by repeat (first | exact List.Sublist.refl _ | apply List.Sublist.cons_cons | apply List.Sublist.cons | exact List.nil_sublist _)) (by decide +kernel) (by decide +kernel) rfl (by decide +kernel) rfl (v_move st rfl) ?_; clear st; intro _ st
        refine h_val (i := 9) st (by repeat (first | exact List.Sublist.refl _ | apply List.Sublist.cons_cons | apply List.Sublist.cons | exact List.nil_sublist _)) (by decide +kernel) (by decide +kernel) rfl (by decide +kernel) rfl (v_move st rfl) ?_; clear st; intro _ st
        refine h_one (i := 6) (by decide +kernel) rfl ?_
        refine o_callV st rfl (l04Place_at z (i + 1) j _ _ (by omega) rfl (by omega) (by omega) (by omega) (by omega) _) rfl ?_; clear st; intro _ _ st
        refine k_held st (by repeat (first | exact List.Sublist.refl _ | apply List.Sublist.cons_cons | apply List.Sublist.cons | exact List.nil_sublist _)) ?_
        refine h_val (i := 7) st (by repeat (first | exact List.Sublist.refl _ | apply List.Sublist.cons_cons | apply List.Sublist.cons | exact List.nil_sublist _)) (by decide +kernel) (by decide +kernel) rfl (by decide +kernel) rfl (v_indexAddr st rfl rfl (by omega) (by omega)) ?_; clear st; intro _ st
        refine h_val (i := 8) st (by repeat (first | exact List.Sublist.refl _ | apply List.Sublist.cons_cons | apply List.Sublist.cons | exact List.nil_sublist _)) (by decide +kernel) (by decide +kernel) rfl (by decide +kernel) rfl (v_loadSp st rfl (by repeat (first | exact At.here | apply At.there)) hv1) ?_; clear st; intro _ st
        refine h_one (i := 10) (by decide +kernel) rfl ?_
        refine o_callSb st rfl (l04Times_ok _ _ hI1 _ _ hx _) rfl ?_; clear st; intro b2 hb2 _ _ st
        refine k_held st (by repeat (first | exact List.Sublist.refl _ | apply List.Sublist.cons_cons | apply List.Sublist.cons | exact List.nil_sublist _)) ?_
        refine h_one (i := 11) (by decide +kernel) rfl ?_
        refine o_callSb st rfl (l04Add_ok b1 b2 _ _ hb1 hb2 _) rfl ?_; clear st; intro b3 hb3 _ _ st
        refine k_held st (by repeat (first | exact List.Sublist.refl _ | apply List.Sublist.cons_cons | apply List.Sublist.cons | exact List.nil_sublist _)) ?_
        refine h_one (i := 12) (by decide +kernel) rfl ?_
        (first | (refine o_storeS st rfl rfl rfl (by repeat (first | exact Upd.here | apply Upd.there)) rfl (by dsimp only [List.set]) ?_; clear st; intro _ _ st) | (refine o_storeW st rfl rfl (by repeat (first | exact Upd.here | apply Upd.there)) rfl rfl rfl ?_; clear st; intro _ _ st))
        refine k_last ?_
        refine h_done (by decide +kernel) ?_
        (repeat' (first | (refine c_seq ?_) | (refine c_region ?_) | (refine l_do ?_) | (refine l_doG st rfl rfl ?_) | (refine l_skipU st rfl rfl rfl ?_; clear st; intro _ st) | (refine l_skip st rfl rfl rfl rfl ?_; clear st; intro _ st) | (refine l_nil ?_) | (refine x_then ?_) | (refine x_thenR ?_) | (refine x_thenE ?_) | (refine x_blkN ?_) | (refine x_blkR ?_) | (refine x_blkE ?_) | (refine x_blkO rfl ?_) | (refine wp_ret ?_) | (refine wp_skip ?_) | (refine wp_block ?_) | (refine wp_exit ?_) | (refine c_condT st rfl ?_) | (refine c_condF st rfl ?_) | (refine o_move st rfl rfl ?_; clear st; intro _ st) | (refine o_assign st rfl rfl ?_; clear st; intro _ st) | (refine o_pickT st rfl rfl rfl ?_; clear st; intro _ st) | (refine o_pickF st rfl rfl rfl ?_; clear st; intro _ st) | (refine o_alloc st rfl ?_; clear st; intro _ _ _ st) | (refine o_loadS st rfl (by repeat (first | exact At.here | apply At.there)) rfl rfl ?_; clear st; intro _ st) | (refine o_load3 st rfl (by repeat (first | exact At.here | apply At.there)) rfl ?_; clear st; intro _ st) | (refine o_load2 st rfl (by repeat (first | exact At.here | apply At.there)) rfl ?_; clear st; intro _ st) | (refine o_load4 st rfl (by repeat (first | exact At.here | apply At.there)) rfl ?_; clear st; intro _ st) | (refine o_storeS st rfl rfl rfl (by repeat (first | exact Upd.here | apply Upd.there)) rfl (by dsimp only [List.set]) ?_; clear st; intro _ _ st) | (refine o_storeW st rfl rfl (by repeat (first | exact Upd.here | apply Upd.there)) rfl rfl rfl ?_; clear st; intro _ _ st) | (refine o_build3 st rfl rfl rfl rfl rfl rfl rfl ?_; clear st; intro _ st) | (refine o_build2 st rfl rfl rfl rfl rfl ?_; clear st; intro _ st) | (refine o_build0 st rfl ?_; clear st; intro _ st) | (refine o_extract st rfl rfl rfl ?_; clear st; intro _ st) | (refine o_add64 st rfl rfl rfl (by omega) (by omega) ?_; clear st; intro _ st) | (refine o_sub64 st rfl rfl rfl (by omega) (by omega) ?_; clear st; intro _ st) | (refine o_notT st rfl rfl ?_; clear st; intro _ st) | (refine o_notF st rfl rfl ?_; clear st; intro _ st) | (refine o_fop rfl st rfl rfl (by first | assumption | exact Is_ofInt _ _ | exact Is_lit (by decide +kernel)) (by first | assumption | exact Is_ofInt _ _ | exact Is_lit (by decide +kernel)) rfl ?_; clear st; intro _ _ _ _ st) | (refine o_lss st rfl rfl rfl ?_ ?_ <;> clear st <;> intro _ _ st <;> (try (exfalso; omega))) | (refine o_gtr st rfl rfl rfl ?_ ?_ <;> clear st <;> intro _ _ st <;> (try (exfalso; omega))) | (refine o_fgeq st rfl rfl (by first | assumption | exact Is_ofInt _ _ | exact Is_lit (by decide +kernel)) (by first | assumption | exact Is_ofInt _ _ | exact Is_lit (by decide +kernel)) rfl ?_ ?_ <;> clear st <;> intro _ _ st <;> (try simp_all))))
        refine c_draw (Lh := [⟨sb, true, oB b3 26⟩, ⟨nb, ow, .cells ncs nty nfr⟩]) (last := 15) hm_ (by decide +kernel) (by decide +kernel) st ?_; clear st; intro _ st
        refine h_val (i := 0) st (by repeat (first | exact List.Sublist.refl _ | apply List.Sublist.cons_cons | apply List.Sublist.cons | exact List.nil_sublist _)) (by decide +kernel) (by decide +kernel) rfl (by decide +kernel) rfl (v_move st rfl) ?_; clear st; intro _ st
        refine h_val (i := 1) st (by repeat (first | exact List.Sublist.refl _ | apply List.Sublist.cons_cons | apply List.Sublist.cons | exact List.nil_sublist _)) (by decide +kernel) (by decide +kernel) rfl (by decide +kernel) rfl (by first | exact v_load3 st rfl (by repeat (first | exact At.here | apply At.there)) | exact v_loadS st rfl (by repeat (first | exact At.here | apply At.there)) rfl) ?_; clear st; intro _ st
        refine h_val (i := 2) st (by repeat (first | exact List.Sublist.refl _ | apply List.Sublist.cons_cons | apply List.Sublist.cons | exact List.nil_sublist _)) (by decide +kernel) (by decide +kernel) rfl (by decide +kernel) rfl (v_move st rfl) ?_; clear st; intro _ st
        refine h_val (i := 3) st (by repeat (first | exact List.Sublist.refl _ | apply List.Sublist.cons_cons | apply List.Sublist.cons | exact List.nil_sublist _)) (by decide +kernel) (by decide +kernel) rfl (by decide +kernel) rfl (v_move st rfl) ?_; clear st; intro _ st
        refine h_val (i := 4) st (by repeat (first | exact List.Sublist.refl _ | apply List.Sublist.cons_cons | apply List.Sublist.cons | exact List.nil_sublist _)) (by decide +kernel) (by decide +kernel) rfl (by decide +kernel) rfl (v_move st rfl) ?_; clear st; intro _ st
        refine h_val (i := 5) st (by repeat (first | exact List.Sublist.refl _ | apply List.Sublist.cons_cons | apply List.Sublist.cons | exact List.nil_sublist _)) (by decide +kernel) (by decide +kernel) rfl (by decide +kernel) rfl (v_move st rfl) ?_; clear st; intro _ st
        refine h_val (i := 6) st (by repeat (first | exact List.Sublist.refl _ | apply List.Sublist.cons_cons | apply List.Sublist.cons | exact List.nil_sublist _)) (by decide +kernel) (by decide +kernel) rfl (by decide +kernel) rfl (v_add64 st rfl rfl (by omega) (by omega)) ?_; clear st; intro _ st
        refine h_val (i := 10) st (by repeat (first | exact List.Sublist.refl _ | apply List.Sublist.cons_cons | apply List.Sublist.cons | exact List.nil_sublist _)) (by decide +kernel) (by decide +kernel) rfl (by decide +kernel) rfl (v_move st rfl) ?_; clear st; intro _ st
        refine h_one (i := 7) (by decide +kernel) rfl ?_
        refine o_callV st rfl (l04Place_at z i (j + 1) _ _ rfl (by omega) (by omega) (by omega) (by omega) (by omega) _) rfl ?_; clear st; intro _ _ st
        refine k_held st (by repeat (first | exact List.Sublist.refl _ | apply List.Sublist.cons_cons | apply List.Sublist.cons | exact List.nil_sublist _)) ?_
        refine h_val (i := 8) st (by repeat (first | exact List.Sublist.refl _ | apply List.Sublist.cons_cons | apply List.Sublist.cons | exact List.nil_sublist _)) (by decide +kernel) (by decide +kernel) rfl (by decide +kernel) rfl (v_indexAddr st rfl rfl (by omega) (by omega)) ?_; clear st; intro _ st
        refine h_val (i := 9) st (by repeat (first | exact List.Sublist.refl _ | apply List.Sublist.cons_cons | apply List.Sublist.cons | exact List.nil_sublist _)) (by decide +kernel) (by decide +kernel) rfl (by decide +kernel) rfl (v_loadSp st rfl (by repeat (first | exact At.here | apply At.there)) hv2) ?_; clear st; intro _ st
        refine h_one (i := 11) (by decide +kernel) rfl ?_
        refine o_callSb st rfl (l04Times_ok _ _ hI2 _ _ hy _) rfl ?_; clear st; intro b4 hb4 _ _ st
        refine k_held st (by repeat (first | exact List.Sublist.refl _ | apply List.Sublist.cons_cons | apply List.Sublist.cons | exact List.nil_sublist _)) ?_
        refine h_one (i := 12) (by decide +kernel) rfl ?_
        refine o_callSb st rfl (l04Add_ok b3 b4 _ _ hb3 hb4 _) rfl ?_; clear st; intro b5 hb5 _ _ st
        refine k_held st (by repeat (first | exact List.Sublist.refl _ | apply List.Sublist.cons_cons | apply List.Sublist.cons | exact List.nil_sublist _)) ?_
        refine h_one (i := 13) (by decide +kernel) rfl ?_
        refine o_buildSliceS [_] st rfl rfl rfl rfl rfl ?_; clear st; intro _ _ _ st
        refine k_held st (by repeat (first | exact List.Sublist.refl _ | apply List.Sublist.cons_cons | apply List.Sublist.cons | exact List.nil_sublist _)) ?_
        refine h_one (i := 14) (by decide +kernel) rfl ?_
        refine o_append1 rfl st rfl rfl (by repeat (first | exact Rem.here | apply Rem.there)) (by repeat (first | exact At.here | apply At.there)) hp (by omega) rfl ?_; clear st; intro blk1 cap1 pad1 _ _ hp1 st
        refine k_held st (by repeat (first | exact List.Sublist.refl _ | apply List.Sublist.cons_cons | apply List.Sublist.cons | exact List.nil_sublist _)) ?_
        refine h_one (i := 15) (by decide +kernel) rfl ?_
        (first | (refine o_assign st rfl rfl ?_; clear st; intro _ st))
        refine k_last ?_
        refine h_done (by decide +kernel) ?_
        (repeat' (first | (refine c_seq ?_) | (refine c_region ?_) | (refine l_do ?_) | (refine l_doG st rfl rfl ?_) | (refine l_skipU st rfl rfl rfl ?_; clear st; intro _ st) | (refine l_skip st rfl rfl rfl rfl ?_; clear st; intro _ st) | (refine l_nil ?_) | (refine x_then ?_) | (refine x_thenR ?_) | (refine x_thenE ?_) | (refine x_blkN ?_) | (refine x_blkR ?_) | (refine x_blkE ?_) | (refine x_blkO rfl ?_) | (refine wp_ret ?_) | (refine wp_skip ?_) | (refine wp_block ?_) | (refine wp_exit ?_) | (refine c_condT st rfl ?_) | (refine c_condF st rfl ?_) | (refine o_move st rfl rfl ?_; clear st; intro _ st) | (refine o_assign st rfl rfl ?_; clear st; intro _ st) | (refine o_pickT st rfl rfl rfl ?_; clear st; intro _ st) | (refine o_pickF st rfl rfl rfl ?_; clear st; intro _ st) | (refine o_alloc st rfl ?_; clear st; intro _ _ _ st) | (refine o_loadS st rfl (by repeat (first | exact At.here | apply At.there)) rfl rfl ?_; clear st; intro _ st) | (refine o_load3 st rfl (by repeat (first | exact At.here | apply At.there)) rfl ?_; clear st; intro _ st) | (refine o_load2 st rfl (by repeat (first | exact At.here | apply At.there)) rfl ?_; clear st; intro _ st) | (refine o_load4 st rfl (by repeat (first | exact At.here | apply At.there)) rfl ?_; clear st; intro _ st) | (refine o_storeS st rfl rfl rfl (by repeat (first | exact Upd.here | apply Upd.there)) rfl (by dsimp only [List.set]) ?_; clear st; intro _ _ st) | (refine o_storeW st rfl rfl (by repeat (first | exact Upd.here | apply Upd.there)) rfl rfl rfl ?_; clear st; intro _ _ st) | (refine o_build3 st rfl rfl rfl rfl rfl rfl rfl ?_; clear st; intro _ st) | (refine o_build2 st rfl rfl rfl rfl rfl ?_; clear st; intro _ st) | (refine o_build0 st rfl ?_; clear st; intro _ st) | (refine o_extract st rfl rfl rfl ?_; clear st; intro _ st) | (refine o_add64 st rfl rfl rfl (by omega) (by omega) ?_; clear st; intro _ st) | (refine o_sub64 st rfl rfl rfl (by omega) (by omega) ?_; clear st; intro _ st) | (refine o_notT st rfl rfl ?_; clear st; intro _ st) | (refine o_notF st rfl rfl ?_; clear st; intro _ st) | (refine o_fop rfl st rfl rfl (by first | assumption | exact Is_ofInt _ _ | exact Is_lit (by decide +kernel)) (by first | assumption | exact Is_ofInt _ _ | exact Is_lit (by decide +kernel)) rfl ?_; clear st; intro _ _ _ _ st) | (refine o_lss st rfl rfl rfl ?_ ?_ <;> clear st <;> intro _ _ st <;> (try (exfalso; omega))) | (refine o_gtr st rfl rfl rfl ?_ ?_ <;> clear st <;> intro _ _ st <;> (try (exfalso; omega))) | (refine o_fgeq st rfl rfl (by first | assumption | exact Is_ofInt _ _ | exact Is_lit (by decide +kernel)) (by first | assumption | exact Is_ofInt _ _ | exact Is_lit (by decide +kernel)) rfl ?_ ?_ <;> clear st <;> intro _ _ st <;> (try simp_all))))
        refine ⟨z - j - (i + 1), by omega, i + 1, blk1, cap1, ns ++ [b5], pad1, by omega, rfl, ?_, hp1, (st.fit (by repeat (first | exact trivial | refine And.intro rfl ?_))).subL (by repeat (first | exact List.Sublist.refl _ | apply List.Sublist.cons_cons | apply List.Sublist.cons | exact List.nil_sublist _))⟩
        rw [pRow_succ, ← List.append_assoc]
        exact hIn.push hb5
      · have hi' : i = z - j := by omega
        subst hi'
        rw [← pAll_succ] at hIn
        (repeat' (first | (refine c_seq ?_) | (refine c_region ?_) | (refine l_do ?_) | (refine l_doG st rfl rfl ?_) | (refine l_skipU st rfl rfl rfl ?_; clear st; intro _ st) | (refine l_skip st rfl rfl rfl rfl ?_; clear st; intro _ st) | (refine l_nil ?_) | (refine x_then ?_) | (refine x_thenR ?_) | (refine x_thenE ?_) | (refine x_blkN ?_) | (refine x_blkR ?_) | (refine x_blkE ?_) | (refine x_blkO rfl ?_) | (refine wp_ret ?_) | (refine wp_skip ?_) | (refine wp_block ?_) | (refine wp_exit ?_) | (refine c_condT st rfl ?_) | (refine c_condF st rfl ?_) | (refine o_move st rfl rfl ?_; clear st; intro _ st) | (refine o_assign st rfl rfl ?_; clear st; intro _ st) | (refine o_pickT st rfl rfl rfl ?_; clear st; intro _ st) | (refine o_pickF st rfl rfl rfl ?_; clear st; intro _ st) | (refine o_alloc st rfl ?_; clear st; intro _ _ _ st) | (refine o_loadS st rfl (by repeat (first | exact At.here | apply At.there)) rfl rfl ?_; clear st; intro _ st) | (refine o_load3 st rfl (by repeat (first | exact At.here | apply At.there)) rfl ?_; clear st; intro _ st) | (refine o_load2 st rfl (by repeat (first | exact At.here | apply At.there)) rfl ?_; clear st; intro _ st) | (refine o_load4 st rfl (by repeat (first | exact At.here | apply At.there)) rfl ?_; clear st; intro _ st) | (refine o_storeS st rfl rfl rfl (by repeat (first | exact Upd.here | apply Upd.there)) rfl (by dsimp only [List.set]) ?_; clear st; intro _ _ st) | (refine o_storeW st rfl rfl (by repeat (first | exact Upd.here | apply Upd.there)) rfl rfl rfl ?_; clear st; intro _ _ st) | (refine o_build3 st rfl rfl rfl rfl rfl rfl rfl ?_; clear st; intro _ st) | (refine o_build2 st rfl rfl rfl rfl rfl ?_; clear st; intro _ st) | (refine o_build0 st rfl ?_; clear st; intro _ st) | (refine o_extract st rfl rfl rfl ?_; clear st; intro _ st) | (refine o_add64 st rfl rfl rfl (by omega) (by omega) ?_; clear st; intro _ st) | (refine o_sub64 st rfl rfl rfl (by omega) (by omega) ?_; clear st; intro _ st) | (refine o_notT st rfl rfl ?_; clear st; intro _ st) | (refine o_notF st rfl rfl ?_; clear st; intro _ st) | (refine o_fop rfl st rfl rfl (by first | assumption | exact Is_ofInt _ _ | exact Is_lit (by decide +kernel)) (by first | assumption | exact Is_ofInt _ _ | exact Is_lit (by decide +kernel)) rfl ?_; clear st; intro _ _ _ _ st) | (refine o_lss st rfl rfl rfl ?_ ?_ <;> clear st <;> intro _ _ st <;> (try (exfalso; omega))) | (refine o_gtr st rfl rfl rfl ?_ ?_ <;> clear st <;> intro _ _ st <;> (try (exfalso; omega))) | (refine o_fgeq st rfl rfl (by first | assumption | exact Is_ofInt _ _ | exact Is_lit (by decide +kernel)) (by first | assumption | exact Is_ofInt _ _ | exact Is_lit (by decide +kernel)) rfl ?_ ?_ <;> clear st <;> intro _ _ st <;> (try simp_all))))
        exact ⟨z - (j + 1), by omega, j + 1, blk, cp2, ns, pad, by omega, rfl, hIn, hp, (st.fit (by repeat (first | exact trivial | refine And.intro rfl ?_))).subL (by repeat (first | exact List.Sublist.refl _ | apply List.Sublist.cons_cons | apply List.Sublist.cons | exact List.nil_sublist _))⟩
    · have hj' : j = z := by omega
      subst hj'
      (repeat' (first | (refine c_seq ?_) | (refine c_region ?_) | (refine l_do ?_) | (refine l_doG st rfl rfl ?_) | (refine l_skipU st rfl rfl rfl ?_; clear st; intro _ st) | (refine l_skip st rfl rfl rfl rfl ?_; clear st; intro _ st) | (refine l_nil ?_) | (refine x_then ?_) | (refine x_thenR ?_) | (refine x_thenE ?_) | (refine x_blkN ?_) | (refine x_blkR ?_) | (refine x_blkE ?_) | (refine x_blkO rfl ?_) | (refine wp_ret ?_) | (refine wp_skip ?_) | (refine wp_block ?_) | (refine wp_exit ?_) | (refine c_condT st rfl ?_) | (refine c_condF st rfl ?_) | (refine o_move st rfl rfl ?_; clear st; intro _ st) | (refine o_assign st rfl rfl ?_; clear st; intro _ st) | (refine o_pickT st rfl rfl rfl ?_; clear st; intro _ st) | (refine o_pickF st rfl rfl rfl ?_; clear st; intro _ st) | (refine o_alloc st rfl ?_; clear st; intro _ _ _ st) | (refine o_loadS st rfl (by repeat (first | exact At.here | apply At.there)) rfl rfl ?_; clear st; intro _ st) | (refine o_load3 st rfl (by repeat (first | exact At.here | apply At.there)) rfl ?_; clear st; intro _ st) | (refine o_load2 st rfl (by repeat (first | exact At.here | apply At.there)) rfl ?_; clear st; intro _ st) | (refine o_load4 st rfl (by repeat (first | exact At.here | apply At.there)) rfl ?_; clear st; intro _ st) | (refine o_storeS st rfl rfl rfl (by repeat (first | exact Upd.here | apply Upd.there)) rfl (by dsimp only [List.set]) ?_; clear st; intro _ _ st) | (refine o_storeW st rfl rfl (by repeat (first | exact Upd.here | apply Upd.there)) rfl rfl rfl ?_; clear st; intro _ _ st) | (refine o_build3 st rfl rfl rfl rfl rfl rfl rfl ?_; clear st; intro _ st) | (refine o_build2 st rfl rfl rfl rfl rfl ?_; clear st; intro _ st) | (refine o_build0 st rfl ?_; clear st; intro _ st) | (refine o_extract st rfl rfl rfl ?_; clear st; intro _ st) | (refine o_add64 st rfl rfl rfl (by omega) (by omega) ?_; clear st; intro _ st) | (refine o_sub64 st rfl rfl rfl (by omega) (by omega) ?_; clear st; intro _ st) | (refine o_notT st rfl rfl ?_; clear st; intro _ st) | (refine o_notF st rfl rfl ?_; clear st; intro _ st) | (refine o_fop rfl st rfl rfl (by first | assumption | exact Is_ofInt _ _ | exact Is_lit (by decide +kernel)) (by first | assumption | exact Is_ofInt _ _ | exact Is_lit (by decide +kernel)) rfl ?_; clear st; intro _ _ _ _ st) | (refine o_lss st rfl rfl rfl ?_ ?_ <;> clear st <;> intro _ _ st <;> (try (exfalso; omega))) | (refine o_gtr st rfl rfl rfl ?_ ?_ <;> clear st <;> intro _ _ st <;> (try (exfalso; omega))) | (refine o_fgeq st rfl rfl (by first | assumption | exact Is_ofInt _ _ | exact Is_lit (by decide +kernel)) (by first | assumption | exact Is_ofInt _ _ | exact Is_lit (by decide +kernel)) rfl ?_ ?_ <;> clear st <;> intro _ _ st <;> (try simp_all))))
      obtain ⟨e, rfl⟩ : ∃ e, j = e + 1 := ⟨j - 1, by omega⟩
      have e1 : ((e + 1 : Nat) : Int) - 1 = ((e : Nat) : Int) := by omega
      rw [e1] at st
      have st := St.front 8 st rfl (by repeat (first | exact Rem.here | apply Rem.there))
      exact ⟨e, by omega, e, pb, blk, 0, cp2, true, _, _, _, ns, _, p0, p1, p2, by omega, rfl, hIn, pAll_length tt _ _ _ e (by omega), hpn, spotsIn0p ns pad, (st.fit (by repeat (first | exact trivial | refine And.intro rfl ?_))).subL (by repeat (first | exact List.Sublist.refl _ | apply List.Sublist.cons_cons | apply List.Sublist.cons | exact List.nil_sublist _))⟩
  · have hz : z = 0 := by omega
    subst hz
    have h1 : tot 0 = 1 := rfl
    have h0 : 0 < os.length := by omega
    have hv0 := hos 0 _ (List.getElem?_eq_getElem h0)
    have hI0 := hI.head h0
    rw [← hpn]
    have hp0 : pN (cPat u v) u v 0 tt = tt := rfl
    rw [hp0]
    (repeat' (first | (refine o_indexAddr st rfl rfl (by omega) (by omega) rfl ?_; clear st; intro _ st) | (refine o_loadSp st rfl (by repeat (first | exact At.here | apply At.there)) hv0 rfl ?_; clear st; intro _ st) | (refine o_callSBb st rfl (l04Given_ok _ _ hI0 _) rfl ?_; clear st; intro b1 hb1 _ _ st) | (refine c_seq ?_) | (refine c_region ?_) | (refine l_do ?_) | (refine l_doG st rfl rfl ?_) | (refine l_skipU st rfl rfl rfl ?_; clear st; intro _ st) | (refine l_skip st rfl rfl rfl rfl ?_; clear st; intro _ st) | (refine l_nil ?_) | (refine x_then ?_) | (refine x_thenR ?_) | (refine x_thenE ?_) | (refine x_blkN ?_) | (refine x_blkR ?_) | (refine x_blkE ?_) | (refine x_blkO rfl ?_) | (refine wp_ret ?_) | (refine wp_skip ?_) | (refine wp_block ?_) | (refine wp_exit ?_) | (refine c_condT st rfl ?_) | (refine c_condF st rfl ?_) | (refine o_move st rfl rfl ?_; clear st; intro _ st) | (refine o_assign st rfl rfl ?_; clear st; intro _ st) | (refine o_pickT st rfl rfl rfl ?_; clear st; intro _ st) | (refine o_pickF st rfl rfl rfl ?_; clear st; intro _ st) | (refine o_alloc st rfl ?_; clear st; intro _ _ _ st) | (refine o_loadS st rfl (by repeat (first | exact At.here | apply At.there)) rfl rfl ?_; clear st; intro _ st) | (refine o_load3 st rfl (by repeat (first | exact At.here | apply At.there)) rfl ?_; clear st; intro _ st) | (refine o_load2 st rfl (by repeat (first | exact At.here | apply At.there)) rfl ?_; clear st; intro _ st) | (refine o_load4 st rfl (by repeat (first | exact At.here | apply At.there)) rfl ?_; clear st; intro _ st) | (refine o_storeS st rfl rfl rfl (by repeat (first | exact Upd.here | apply Upd.there)) rfl (by dsimp only [List.set]) ?_; clear st; intro _ _ st) | (refine o_storeW st rfl rfl (by repeat (first | exact Upd.here | apply Upd.there)) rfl rfl rfl ?_; clear st; intro _ _ st) | (refine o_build3 st rfl rfl rfl rfl rfl rfl rfl ?_; clear st; intro _ st) | (refine o_build2 st rfl rfl rfl rfl rfl ?_; clear st; intro _ st) | (refine o_build0 st rfl ?_; clear st; intro _ st) | (refine o_extract st rfl rfl rfl ?_; clear st; intro _ st) | (refine o_add64 st rfl rfl rfl (by omega) (by omega) ?_; clear st; intro _ st) | (refine o_sub64 st rfl rfl rfl (by omega) (by omega) ?_; clear st; intro _ st) | (refine o_notT st rfl rfl ?_; clear st; intro _ st) | (refine o_notF st rfl rfl ?_; clear st; intro _ st) | (refine o_fop rfl st rfl rfl (by first | assumption | exact Is_ofInt _ _ | exact Is_lit (by decide +kernel)) (by first | assumption | exact Is_ofInt _ _ | exact Is_lit (by decide +kernel)) rfl ?_; clear st; intro _ _ _ _ st) | (refine o_lss st rfl rfl rfl ?_ ?_ <;> clear st <;> intro _ _ st <;> (try (exfalso; omega))) | (refine o_gtr st rfl rfl rfl ?_ ?_ <;> clear st <;> intro _ _ st <;> (try (exfalso; omega))) | (refine o_fgeq st rfl rfl (by first | assumption | exact Is_ofInt _ _ | exact Is_lit (by decide +kernel)) (by first | assumption | exact Is_ofInt _ _ | exact Is_lit (by decide +kernel)) rfl ?_ ?_ <;> clear st <;> intro _ _ st <;> (try simp_all))))
    refine post2 st Try.results68 (rd_c st rfl (by repeat (first | exact At.here | apply At.there)) rfl) (rd_t st rfl) ?_
    exact ⟨_, rfl, ⟨b1, rfl, hb1⟩, st.ex0⟩
theorem specPat_ok (bs : List B3) (ss : List S3) (h : IsSL bs ss) (base : Option Addr) (cap : Nat) (d : Int) (x y : Nat) (u v : Option Nat) (hx : Is .f32 x u) (hy : Is .f32 y v) (w : World) (hr : RdS w base bs) (hlen : bs.length < 1000000000) :
    CSB Try.prog 68 [.slice base bs.length cap, .int .i64 d, .float .f32 x, .float .f32 y] w (patC ss d u v) (patOk ss d u v) := by
  unfold patC patOk
  cases hq : patCan ss d u v
  · exact specPat_can bs ss h base cap d x y u v hx hy hq w hr hlen
  · exact specPat_yes bs ss h base cap d x y u v hx hy hq w hr hlen
end Go.Proofs.Ytefnlalldgbcaaa
