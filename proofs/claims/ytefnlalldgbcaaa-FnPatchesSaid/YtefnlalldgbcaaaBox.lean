/-
  Contracts: the least and the greatest parts of spots.
-/
import Derived.Test.YtefnlalldgbcaaaS
namespace Go.Proofs.Ytefnlalldgbcaaa
open Go.RowKit
attribute [local irreducible] Code.wp wpList Oper.wp Calls bodyPost Exit.then Exit.inBlock

end Go.Proofs.Ytefnlalldgbcaaa
