/-
  Contracts: the normal at a place of a sheet.
-/
import Derived.Test.YtefnlalldgbcaaaSlope
import Derived.Test.YtefnlalldgbcaaaG
import Derived.Test.YtefnlalldgbcaaaJ
namespace Go.Proofs.Ytefnlalldgbcaaa
open Go.RowKit
theorem o_fgtrK {P : Program} {w0 w : World} {N : Nat} {a : Act} {E : List (Nat × Value)} {L : List Ent} {K : Act → World → Prop} {Q : Exit → Act → World → Prop} {d : Nat} {ty : TypeId} {pos : String} {aft : Array Edge} {g : Option (Nat × Bool)}
    {x y : Operand} {t ys : TypeId} {k : FloatKind} {i j : Nat} {ci cj : Option Nat} {r : Bool} (st : St w0 N a w E L) (hx : evE E x = some (.float k i)) (hy : evE E y = some (.float k j)) (hi : Is k i ci) (hj : Is k j cj) (hr : fgtB k ci cj = r) (hd : Nat.blt d N = true)
    (h : ∀ a', St w0 N a' w ((d, .bool r) :: E) L → K a' w) : Oper.wp P ⟨some d, .binOp .gtr t x y ys, ty, pos, aft, g⟩ a w K Q := by
  cases r
  · exact o_fgtr st hx hy hi hj hd (fun ht => by rw [hr] at ht; cases ht) fun _ => h
  · exact o_fgtr st hx hy hi hj hd (fun _ => h) fun ht => by rw [hr] at ht; cases ht

attribute [local irreducible] Code.wp wpList Oper.wp Calls bodyPost Exit.then Exit.inBlock

def nCross (m n : Int) (ss : List S3) (u v : Option Nat) : S3 := bif finS (slopesA m n ss u v) && finS (slopesB m n ss u v) then giveS (crossC (slopesA m n ss u v) (slopesB m n ss u v)) else z3
def nCrossOk (m n : Int) (ss : List S3) (u v : Option Nat) : Bool := finS (slopesA m n ss u v) && finS (slopesB m n ss u v) && finS (crossC (slopesA m n ss u v) (slopesB m n ss u v))
def quoS (s : S3) (c : Option Nat) : S3 := (fop .quo .f32 s.1 c, fop .quo .f32 s.2.1 c, fop .quo .f32 s.2.2 c)
def nCan (m n : Int) (ss : List S3) (u v : Option Nat) : Bool := slopesOk m n ss u v && (nCrossOk m n ss u v && (longOk (nCross m n ss u v) && fgtB .f32 (longC (nCross m n ss u v)) (some 0)))
def normalC (m n : Int) (ss : List S3) (u v : Option Nat) : S3 := bif nCan m n ss u v then giveS (quoS (nCross m n ss u v) (longC (nCross m n ss u v))) else z3
def normalOk (m n : Int) (ss : List S3) (u v : Option Nat) : Bool := nCan m n ss u v && finS (quoS (nCross m n ss u v) (longC (nCross m n ss u v)))
set_option maxHeartbeats 16000000 in
theorem implNormal_ok (m n : Int) (bs : List B3) (ss : List S3) (h : IsSL bs ss) (base : Option Addr) (cap : Nat) (hcap : bs.length ≤ cap) (x y : Nat) (u v : Option Nat) (hx : Is .f32 x u) (hy : Is .f32 y v) (w : World) (hr : RdS w base bs) (hlen : bs.length < 1000000000) :
    CSB Try.prog 97 [vSh m n base bs.length cap, .float .f32 x, .float .f32 y] w (normalC m n ss u v) (normalOk m n ss u v) := by
  refine enter Try.func97 rfl rfl rfl rfl ?_
  intro a st
  have hs := fun (w : World) hr => implSlopes_ok m n bs ss h base cap hcap x y u v hx hy w hr hlen
  have hcr := fun (w : World) b1 b2 (h1 : IsS b1 (slopesA m n ss u v)) (h2 : IsS b2 (slopesB m n ss u v)) => implCross_ok b1 b2 _ _ h1 h2 w
  unfold normalC normalOk nCan nCross nCrossOk
  generalize slopesA m n ss u v = A at hs hcr ⊢
  generalize slopesB m n ss u v = B at hs hcr ⊢
  generalize slopesOk m n ss u v = q1 at hs ⊢
  generalize (bif finS A && finS B then giveS (crossC A B) else z3) = C at hcr ⊢
  generalize (finS A && finS B && finS (crossC A B)) = q2 at hcr ⊢
  have hlo := fun (w : World) b3 (h3 : IsS b3 C) => implLong_ok b3 C h3 w
  generalize longOk C = q3 at hlo ⊢
  generalize hll : longC C = lc at hlo ⊢
  generalize hq4 : fgtB .f32 lc (some 0) = q4
  have hcase : q1 = false ∨ (q1 = true ∧ q2 = false) ∨ (q1 = true ∧ q2 = true ∧ q3 = false) ∨ (q1 = true ∧ q2 = true ∧ q3 = true ∧ q4 = false) ∨ (q1 = true ∧ q2 = true ∧ q3 = true ∧ q4 = true) := by cases q1 <;> cases q2 <;> cases q3 <;> cases q4 <;> simp
  rcases hcase with rfl | ⟨rfl, rfl⟩ | ⟨rfl, rfl, rfl⟩ | ⟨rfl, rfl, rfl, rfl⟩ | ⟨rfl, rfl, rfl, rfl⟩
  iterate 4
    · (repeat' (first | (refine o_callR st rfl (hs _ (hr.mono st.below)) rfl ?_; clear st; rintro _ ⟨b1, b2, rfl, hb1, hb2⟩ _ _ st)  | (refine o_callSBb st rfl (hcr _ _ _ hb1 hb2) rfl ?_; clear st; rintro ⟨n0, n1, n2⟩ ⟨hn0, hn1, hn2⟩ _ _ st)  | (refine o_callFlB st rfl (hlo _ (n0, n1, n2) ⟨hn0, hn1, hn2⟩) rfl ?_; clear st; intro lx hlx _ _ st)  | (refine o_fgtrK st rfl rfl hlx Is_z hq4 rfl ?_; clear st; intro _ st)  | refine c_seq ?_  | refine c_region ?_  | refine l_do ?_  | refine l_doG st rfl rfl ?_  | ((first | refine l_skip st rfl rfl rfl rfl ?_); clear st; intro _ st)  | refine l_nil ?_  | refine x_then ?_  | refine x_thenR ?_  | refine wp_ret ?_  | refine wp_skip ?_  | refine c_condT st rfl ?_  | refine c_condF st rfl ?_  | ((first | refine o_move st rfl rfl ?_  | refine o_assign st rfl rfl ?_  | refine o_pickT st rfl rfl rfl ?_  | refine o_pickF st rfl rfl rfl ?_); clear st; intro _ st)  | ((first | refine o_alloc st rfl ?_  | refine o_boxA st rfl rfl ?_ ); clear st; intro _ _ _ st)  | ((first | refine o_fieldAddr st rfl rfl ?_  | refine o_loadS st rfl (by repeat constructor) rfl rfl ?_  | refine o_load3 st rfl (by repeat constructor) rfl ?_ ); clear st; intro _ st)  | ((first | refine o_storeW st rfl rfl (by repeat constructor) rfl rfl rfl ?_); clear st; intro _ _ st)  | ((first | refine o_build3 st rfl rfl rfl rfl rfl rfl rfl ?_  | refine o_build0 st rfl ?_  | refine o_extract st rfl rfl rfl ?_  | refine o_notT st rfl rfl ?_  | refine o_notF st rfl rfl ?_); clear st; intro _ st)  | (refine o_fop rfl st rfl rfl (by first | assumption | exact Is_ofInt _ _ | exact Is_lit (by decide +kernel)) (by first | assumption | exact Is_ofInt _ _ | exact Is_lit (by decide +kernel)) rfl ?_; clear st; intro _ _ _ _ st) ))
      refine post2 st Try.results97 (rd_c st rfl (by repeat constructor) rfl) (rd_t st rfl) ?_
      exact ⟨_, rfl, ⟨(0, 0, 0), rfl, IsS_z⟩, st.ex0⟩
  · (repeat' (first | (refine o_callR st rfl (hs _ (hr.mono st.below)) rfl ?_; clear st; rintro _ ⟨b1, b2, rfl, hb1, hb2⟩ _ _ st)  | (refine o_callSBb st rfl (hcr _ _ _ hb1 hb2) rfl ?_; clear st; rintro ⟨n0, n1, n2⟩ ⟨hn0, hn1, hn2⟩ _ _ st)  | (refine o_callFlB st rfl (hlo _ (n0, n1, n2) ⟨hn0, hn1, hn2⟩) rfl ?_; clear st; intro lx hlx _ _ st)  | (refine o_fgtrK st rfl rfl hlx Is_z hq4 rfl ?_; clear st; intro _ st)  | (refine o_callSBb st rfl (ifSpot_ok (_, _, _) (quoS C lc) (IsS.mk' (by assumption) (by assumption) (by assumption)) _) rfl ?_; clear st; intro b4 hb4 _ _ st)  | refine c_seq ?_  | refine c_region ?_  | refine l_do ?_  | refine l_doG st rfl rfl ?_  | ((first | refine l_skip st rfl rfl rfl rfl ?_); clear st; intro _ st)  | refine l_nil ?_  | refine x_then ?_  | refine x_thenR ?_  | refine wp_ret ?_  | refine wp_skip ?_  | refine c_condT st rfl ?_  | refine c_condF st rfl ?_  | ((first | refine o_move st rfl rfl ?_  | refine o_assign st rfl rfl ?_  | refine o_pickT st rfl rfl rfl ?_  | refine o_pickF st rfl rfl rfl ?_); clear st; intro _ st)  | ((first | refine o_alloc st rfl ?_  | refine o_boxA st rfl rfl ?_ ); clear st; intro _ _ _ st)  | ((first | refine o_fieldAddr st rfl rfl ?_  | refine o_loadS st rfl (by repeat constructor) rfl rfl ?_  | refine o_load3 st rfl (by repeat constructor) rfl ?_ ); clear st; intro _ st)  | ((first | refine o_storeW st rfl rfl (by repeat constructor) rfl rfl rfl ?_); clear st; intro _ _ st)  | ((first | refine o_build3 st rfl rfl rfl rfl rfl rfl rfl ?_  | refine o_build0 st rfl ?_  | refine o_extract st rfl rfl rfl ?_  | refine o_notT st rfl rfl ?_  | refine o_notF st rfl rfl ?_); clear st; intro _ st)  | (refine o_fop rfl st rfl rfl (by first | assumption | exact Is_ofInt _ _ | exact Is_lit (by decide +kernel)) (by first | assumption | exact Is_ofInt _ _ | exact Is_lit (by decide +kernel)) rfl ?_; clear st; intro _ _ _ _ st) ))
    refine post2 st Try.results97 (rd_c st rfl (by repeat constructor) rfl) (rd_t st rfl) ?_
    exact ⟨_, rfl, ⟨b4, rfl, hb4⟩, st.ex0⟩

end Go.Proofs.Ytefnlalldgbcaaa
