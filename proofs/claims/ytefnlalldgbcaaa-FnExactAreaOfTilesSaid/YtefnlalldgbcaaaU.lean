/-
  What the laws ask of functions that give sheets or lists of spots; sheets and lists read in, compared.
-/
import Derived.Test.YtefnlalldgbcaaaR
namespace Go.Proofs.Ytefnlalldgbcaaa
open Go.RowKit
attribute [local irreducible] Code.wp wpList Oper.wp Calls bodyPost Exit.then Exit.inBlock

section
variable {P : Program} {w0 w : World} {N : Nat} {a : Act} {E : List (Nat × Value)} {L Lh : List Ent} {K : Act → World → Prop} {Q : Exit → Act → World → Prop}
variable {d : Nat} {ty : TypeId} {pos : String} {aft : Array Edge} {g : Option (Nat × Bool)}

/-- The block that a slot points to, first. -/
theorem St.fore (i : Nat) {b : Nat} {o : Obj} {Lr : List Ent} (st : St w0 N a w E L) (_ : lk E i = some (.pointer (some ⟨b, 0, none⟩))) (hR : Rem L b o Lr) : St w0 N a w E (⟨b, true, o⟩ :: Lr) := by
  refine ⟨st.env, st.size, st.defers, st.below, ?_, List.pairwise_cons.2 ⟨fun e he _ => (hR.other st.uniq e he).symm, st.uniq.sublist hR.sub⟩⟩
  intro e he
  rcases List.mem_cons.1 he with rfl | he
  · exact st.facts _ hR.at_.mem
  · exact st.facts e (hR.sub.mem he)

/-- A call that gives a sheet of its own, and true. -/
def CShY (P : Program) (f : FuncId) (vs : List Value) (w : World) (m n : Int) (ss : List S3) : Prop := CM1 P f vs w fun v b o => ∃ bs cap pad, v = .tuple #[vSh m n (some ⟨b, 0, none⟩) bs.length cap, .bool true] ∧ o = oS bs pad ∧ IsSL bs ss
theorem o_callShY {f : FuncId} {args : List Operand} {tys : Array TypeId} {vs : List Value} {m n : Int} {ss : List S3} [hf : FnT P f] (st : St w0 N a w E L) (ha : evs E args = some vs)
    (hc : CShY P f vs w m n ss) (hd : Nat.blt d N = true) (h : ∀ b bs cap pad, IsSL bs ss → bs.length = ss.length → ∀ a' w', St w0 N a' w' ((d, .tuple #[vSh m n (some ⟨b, 0, none⟩) bs.length cap, .bool true]) :: E) (⟨b, true, oS bs pad⟩ :: L) → K a' w') : Oper.wp P ⟨some d, .call { callee := .value (.func f), args := args.toArray, argTypes := tys }, ty, pos, aft, g⟩ a w K Q :=
  o_callM1 st ha hc hd fun v b o ⟨bs, cap, pad, hv, ho, hI⟩ => by subst hv; subst ho; exact h b bs cap pad hI hI.len
/-- A call that gives a list of spots of its own, and true. -/
def CLsY (P : Program) (f : FuncId) (vs : List Value) (w : World) (ss : List S3) : Prop := CM1 P f vs w fun v b o => ∃ bs cap pad, v = .tuple #[.slice (some ⟨b, 0, none⟩) bs.length cap, .bool true] ∧ o = oS bs pad ∧ IsSL bs ss
theorem o_callLsY {f : FuncId} {args : List Operand} {tys : Array TypeId} {vs : List Value} {ss : List S3} [hf : FnT P f] (st : St w0 N a w E L) (ha : evs E args = some vs)
    (hc : CLsY P f vs w ss) (hd : Nat.blt d N = true) (h : ∀ b bs cap pad, IsSL bs ss → bs.length = ss.length → ∀ a' w', St w0 N a' w' ((d, .tuple #[.slice (some ⟨b, 0, none⟩) bs.length cap, .bool true]) :: E) (⟨b, true, oS bs pad⟩ :: L) → K a' w') : Oper.wp P ⟨some d, .call { callee := .value (.func f), args := args.toArray, argTypes := tys }, ty, pos, aft, g⟩ a w K Q :=
  o_callM1 st ha hc hd fun v b o ⟨bs, cap, pad, hv, ho, hI⟩ => by subst hv; subst ho; exact h b bs cap pad hI hI.len
/-- A call that gives two sheets of its own, and true. -/
def CSh2Y (P : Program) (f : FuncId) (vs : List Value) (w : World) (m n : Int) (ss tt : List S3) : Prop :=
  Calls P f vs.toArray w fun e w' => ∃ b bs cap pad b' bs' cap' pad', e = .returned (.tuple #[vSh m n (some ⟨b, 0, none⟩) bs.length cap, vSh m n (some ⟨b', 0, none⟩) bs'.length cap', .bool true]) ∧ IsSL bs ss ∧ IsSL bs' tt ∧ Ex w w' [⟨b, true, oS bs pad⟩, ⟨b', true, oS bs' pad'⟩]
theorem o_callSh2Y {f : FuncId} {args : List Operand} {tys : Array TypeId} {vs : List Value} {m n : Int} {ss tt : List S3} [hf : FnT P f] (st : St w0 N a w E L) (ha : evs E args = some vs)
    (hc : CSh2Y P f vs w m n ss tt) (hd : Nat.blt d N = true) (h : ∀ b bs cap pad b' bs' cap' pad', IsSL bs ss → bs.length = ss.length → IsSL bs' tt → bs'.length = tt.length → ∀ a' w', St w0 N a' w' ((d, .tuple #[vSh m n (some ⟨b, 0, none⟩) bs.length cap, vSh m n (some ⟨b', 0, none⟩) bs'.length cap', .bool true]) :: E) (⟨b, true, oS bs pad⟩ :: ⟨b', true, oS bs' pad'⟩ :: L) → K a' w') : Oper.wp P ⟨some d, .call { callee := .value (.func f), args := args.toArray, argTypes := tys }, ty, pos, aft, g⟩ a w K Q :=
  o_call st ha hc fun _ _ ⟨b, bs, cap, pad, b', bs', cap', pad', he, hI, hI', hx⟩ => ⟨_, he, h b bs cap pad b' bs' cap' pad' hI hI.len hI' hI'.len _ _ ((st.ext2 hx).put d hd _)⟩

/-- A sheet read in. -/
theorem o_callToSheet {args : List Operand} {tys : Array TypeId} {m n : Int} {bs : List B3} {base : Option Addr} {cap : Nat} [hf : FnT Try.prog 45] (st : St w0 N a w E L) (ha : evs E args = some [vSh m n base bs.length cap]) (hr : RdS w0 base bs) (hlen : bs.length < 1000000000)
    (hd : Nat.blt d N = true) (h : ∀ b a' w', St w0 N a' w' ((d, vSh m n (some ⟨b, 0, none⟩) bs.length bs.length) :: E) (⟨b, true, oS bs []⟩ :: L) → K a' w') : Oper.wp Try.prog ⟨some d, .call { callee := .value (.func 45), args := args.toArray, argTypes := tys }, ty, pos, aft, g⟩ a w K Q :=
  o_callM1 st ha (toSheet_ok m n bs base cap _ (hr.mono st.below) hlen) hd fun v b o ⟨hv, ho⟩ => by subst hv; subst ho; unfold oS at h; simp only [List.append_nil] at h; exact h b
/-- A list of spots read in. -/
theorem o_callToSpots {args : List Operand} {tys : Array TypeId} {bs : List B3} {base : Option Addr} {cap : Nat} [hf : FnT Try.prog 52] (st : St w0 N a w E L) (ha : evs E args = some [.slice base bs.length cap]) (hr : RdS w0 base bs) (hlen : bs.length < 1000000000)
    (hd : Nat.blt d N = true) (h : ∀ b a' w', St w0 N a' w' ((d, .slice (some ⟨b, 0, none⟩) bs.length bs.length) :: E) (⟨b, true, oS bs []⟩ :: L) → K a' w') : Oper.wp Try.prog ⟨some d, .call { callee := .value (.func 52), args := args.toArray, argTypes := tys }, ty, pos, aft, g⟩ a w K Q :=
  o_callM1 st ha (toSpotS_ok bs base cap _ (hr.mono st.below) hlen) hd fun v b o ⟨hv, ho⟩ => by subst hv; subst ho; unfold oS at h; simp only [List.append_nil] at h; exact h b
end

theorem IsSL_nil : IsSL [] [] := ⟨rfl, by simp⟩
theorem eqSheet_zero (w : World) : CV Try.prog 47 [vSh0, vSh0] w (.bool true) := eqSheet_ok 0 0 [] [] [] IsSL_nil IsSL_nil none none 0 0 w (.inl rfl) (.inl rfl) (by simp)
theorem eqSpotS_zero (w : World) : CV Try.prog 54 [.slice none 0 0, .slice none 0 0] w (.bool true) := eqSpotS_ok [] [] [] IsSL_nil IsSL_nil none none 0 0 w (.inl rfl) (.inl rfl) (by simp)
theorem markSheet_zero (k : Int) (w : World) : CV Try.prog 66 [vSh0, .int .i64 k] w (.int .i64 k) := markSheet_nil 0 0 none 0 k w
theorem heldSheet_zero (k : Int) (hk : 0 ≤ k) (w : World) : CV Try.prog 67 [vSh0, .int .i64 k] w (.int .i64 k) := heldSheet_nil 0 0 none 0 k hk w
theorem toSpot_v (b : B3) (w : World) : CV Try.prog 31 [vS b] w (vS b) := toSpot_ok b w
end Go.Proofs.Ytefnlalldgbcaaa
