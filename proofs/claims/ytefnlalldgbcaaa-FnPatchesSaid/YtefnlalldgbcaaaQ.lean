/-
  Contracts: lists of integers: compared, marked, held; the corners of triangles.
-/
import Derived.Test.YtefnlalldgbcaaaP
namespace Go.Proofs.Ytefnlalldgbcaaa
open Go.RowKit
attribute [local irreducible] Code.wp wpList Oper.wp Calls bodyPost Exit.then Exit.inBlock

/-! ## triangles -/
end Go.Proofs.Ytefnlalldgbcaaa
