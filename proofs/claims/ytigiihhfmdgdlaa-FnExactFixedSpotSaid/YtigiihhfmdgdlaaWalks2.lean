/-
  What the functions on valid turns and zones compute. No condition.
-/
import Derived.Test.YtigiihhfmdgdlaaWalks1
namespace Go.Proofs.Ytigiihhfmdgdlaa
open Go.RowKit
set_option linter.unusedVariables false

/-- A turn is valid. -/
def turnB (s : GridTurnD) : Bool := inB s.Quarters 0 3 && inB s.Num 1 20 && inB s.Den 1 20 && inB s.East (-99999) 99999 && inB s.North (-99999) 99999
theorem turn_spec (s : GridTurnD) (w : World) : Calls Try.prog 41 #[s.val] w fun e w' => e = .returned (.bool (turnB s)) ∧ Below w.heap.size w w' := by
  go_enter Try.func41, Try.ntmps41
  go_wp2_with (go_at_call 63; refine (in_spec _ _ _ _).mono ?_; rintro e w' ⟨rfl, rfl⟩)
  all_goals go_ret
  all_goals exact ⟨by simp [turnB, *], by go_grown⟩

theorem turn_impl (s : GridTurnD) (w : World) : Calls Try.prog 44 #[s.val] w fun e w' => e = .returned (.bool (turnB s)) ∧ Below w.heap.size w w' := by
  go_enter Try.func44, Try.ntmps44
  go_wp2_with (go_at_call 65; refine (in_impl _ _ _ _).mono ?_; rintro e w' ⟨rfl, rfl⟩)
  all_goals go_ret
  all_goals exact ⟨by simp [turnB, *], by go_grown⟩

end Go.Proofs.Ytigiihhfmdgdlaa
