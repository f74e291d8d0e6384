/-
  What the functions on valid sheets, zones, turns and places compute. No condition.
-/
import Derived.Test.YthlpeiphbpdcpaaShapes
namespace Go.Proofs.Ythlpeiphbpdcpaa
open Go.RowKit
set_option linter.unusedVariables false

theorem in_spec (x a b : Int) (w : World) : Calls Try.prog 27 #[.int .i64 x, .int .i64 a, .int .i64 b] w fun e w' => e = .returned (.bool (inB x a b)) ∧ w = w' := by
  by_cases h1 : a ≤ x <;> by_cases h2 : x ≤ b
  all_goals
    go_enter Try.func27, Try.ntmps27
    go_wp2
    go_ret
    exact ⟨by simp [inB, *], rfl⟩

theorem in_impl (x a b : Int) (w : World) : Calls Try.prog 30 #[.int .i64 x, .int .i64 a, .int .i64 b] w fun e w' => e = .returned (.bool (inB x a b)) ∧ w = w' := by
  by_cases h1 : a ≤ x <;> by_cases h2 : x ≤ b
  all_goals
    go_enter Try.func30, Try.ntmps30
    go_wp2
    go_ret
    exact ⟨by simp [inB, *], rfl⟩

theorem scale_spec (x : Int) (w : World) : Calls Try.prog 43 #[.int .i64 x] w fun e w' => e = .returned (.bool (inB x 10 500)) ∧ w = w' := by
  go_enter Try.func43, Try.ntmps43
  go_wp2_with (go_at_call 27; refine (in_spec _ _ _ _).mono ?_; rintro e w' ⟨rfl, rfl⟩)
  go_ret
  exact ⟨rfl, rfl⟩

theorem id_impl (x : Int) (w : World) : Calls Try.prog 45 #[.int .i64 x] w fun e w' => e = .returned (.bool (inB x 1 999)) ∧ w = w' := by
  go_enter Try.func45, Try.ntmps45
  go_wp2_with (go_at_call 30; refine (in_impl _ _ _ _).mono ?_; rintro e w' ⟨rfl, rfl⟩)
  go_ret
  exact ⟨rfl, rfl⟩

theorem scale_impl (x : Int) (w : World) : Calls Try.prog 46 #[.int .i64 x] w fun e w' => e = .returned (.bool (inB x 10 500)) ∧ w = w' := by
  go_enter Try.func46, Try.ntmps46
  go_wp2_with (go_at_call 30; refine (in_impl _ _ _ _).mono ?_; rintro e w' ⟨rfl, rfl⟩)
  go_ret
  exact ⟨rfl, rfl⟩

theorem year_impl (x : Int) (w : World) : Calls Try.prog 47 #[.int .i64 x] w fun e w' => e = .returned (.bool (inB x 1500 2100)) ∧ w = w' := by
  go_enter Try.func47, Try.ntmps47
  go_wp2_with (go_at_call 30; refine (in_impl _ _ _ _).mono ?_; rintro e w' ⟨rfl, rfl⟩)
  go_ret
  exact ⟨rfl, rfl⟩

/-- A sheet is valid. -/
def sheetB (s : SheetD) : Bool := inB s.Id 1 999 && inB s.Row 0 99 && inB s.Col 0 99 && inB s.Scale 10 500 && inB s.Year 1500 2100
theorem sheet_spec (s : SheetD) (w : World) : Calls Try.prog 26 #[s.val] w fun e w' => e = .returned (.bool (sheetB s)) ∧ Below w.heap.size w w' := by
  go_enter Try.func26, Try.ntmps26
  go_wp2_with (first | (go_at_call 27; refine (in_spec _ _ _ _).mono ?_; rintro e w' ⟨rfl, rfl⟩) | (go_at_call 43; refine (scale_spec _ _).mono ?_; rintro e w' ⟨rfl, rfl⟩))
  all_goals go_ret
  all_goals exact ⟨by simp [sheetB, *], by go_grown⟩

theorem sheet_impl (s : SheetD) (w : World) : Calls Try.prog 29 #[s.val] w fun e w' => e = .returned (.bool (sheetB s)) ∧ Below w.heap.size w w' := by
  go_enter Try.func29, Try.ntmps29
  go_wp2_with (first | (go_at_call 30; refine (in_impl _ _ _ _).mono ?_; rintro e w' ⟨rfl, rfl⟩) | (go_at_call 46; refine (scale_impl _ _).mono ?_; rintro e w' ⟨rfl, rfl⟩) | (go_at_call 45; refine (id_impl _ _).mono ?_; rintro e w' ⟨rfl, rfl⟩) | (go_at_call 47; refine (year_impl _ _).mono ?_; rintro e w' ⟨rfl, rfl⟩))
  all_goals go_ret
  all_goals exact ⟨by simp [sheetB, *], by go_grown⟩

end Go.Proofs.Ythlpeiphbpdcpaa
