/-
  The sheet at a place; which lists are valid: the program and the reference. No condition.
-/
import Derived.Test.YtigiihhfmdgdlaaSheets2
import Derived.Test.YtigiihhfmdgdlaaListSheet
namespace Go.Proofs.Ytigiihhfmdgdlaa
open Go.RowKit
set_option linter.unusedVariables false




end Go.Proofs.Ytigiihhfmdgdlaa
