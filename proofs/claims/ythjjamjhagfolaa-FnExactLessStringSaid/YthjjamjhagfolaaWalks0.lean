/-
  The laws on the constants and on the order of strings. No condition.
-/
import Derived.Test.YthjjamjhagfolaaBase
namespace Go.Proofs.Ythjjamjhagfolaa
open Go.RowKit
set_option linter.unusedVariables false

theorem walk_ExactConstants (w : World) : Calls Try.prog 3 #[] w fun e w' => e = .returned (.bool true) ∧ Below w.heap.size w w' := by
  go_enter Try.func3, Try.ntmps3
  go_wp2
  go_ret
  exact ⟨rfl, Below.refl _ _⟩

theorem walk_ExactLessString (w : World) (a b : ByteArray) (ha : a.size ≤ maxLen) (hb : b.size ≤ maxLen) : Calls Try.prog 4 #[.string a, .string b] w fun e w' => e = .returned (.bool true) ∧ Below w.heap.size w w' := by
  go_enter Try.func4, Try.ntmps4
  go_wp2
  all_goals go_ret
  all_goals exact ⟨rfl, Below.refl _ _⟩

end Go.Proofs.Ythjjamjhagfolaa
