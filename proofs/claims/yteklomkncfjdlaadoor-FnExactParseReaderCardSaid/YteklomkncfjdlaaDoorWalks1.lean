/-
  What the functions on valid sheets, zones, turns and places compute. No condition.
-/
import Derived.Test.YteklomkncfjdlaaDoorShapes
namespace Go.Proofs.YteklomkncfjdlaaDoor
open Go.RowKit
set_option linter.unusedVariables false

theorem in_spec (x a b : Int) (w : World) : Calls Tryd.prog 42 #[.int .i64 x, .int .i64 a, .int .i64 b] w fun e w' => e = .returned (.bool (inB x a b)) ∧ w = w' := by
  by_cases h1 : a ≤ x <;> by_cases h2 : x ≤ b
  all_goals
    go_enter Tryd.func42, Tryd.ntmps42
    go_wp2
    go_ret
    exact ⟨by simp [inB, *], rfl⟩

theorem in_impl (x a b : Int) (w : World) : Calls Tryd.prog 44 #[.int .i64 x, .int .i64 a, .int .i64 b] w fun e w' => e = .returned (.bool (inB x a b)) ∧ w = w' := by
  by_cases h1 : a ≤ x <;> by_cases h2 : x ≤ b
  all_goals
    go_enter Tryd.func44, Tryd.ntmps44
    go_wp2
    go_ret
    exact ⟨by simp [inB, *], rfl⟩

theorem scale_spec (x : Int) (w : World) : Calls Tryd.prog 75 #[.int .i64 x] w fun e w' => e = .returned (.bool (inB x 10 500)) ∧ w = w' := by
  go_enter Tryd.func75, Tryd.ntmps75
  go_wp2_with (go_at_call 42; refine (in_spec _ _ _ _).mono ?_; rintro e w' ⟨rfl, rfl⟩)
  go_ret
  exact ⟨rfl, rfl⟩

theorem id_impl (x : Int) (w : World) : Calls Tryd.prog 76 #[.int .i64 x] w fun e w' => e = .returned (.bool (inB x 1 999)) ∧ w = w' := by
  go_enter Tryd.func76, Tryd.ntmps76
  go_wp2_with (go_at_call 44; refine (in_impl _ _ _ _).mono ?_; rintro e w' ⟨rfl, rfl⟩)
  go_ret
  exact ⟨rfl, rfl⟩

theorem scale_impl (x : Int) (w : World) : Calls Tryd.prog 77 #[.int .i64 x] w fun e w' => e = .returned (.bool (inB x 10 500)) ∧ w = w' := by
  go_enter Tryd.func77, Tryd.ntmps77
  go_wp2_with (go_at_call 44; refine (in_impl _ _ _ _).mono ?_; rintro e w' ⟨rfl, rfl⟩)
  go_ret
  exact ⟨rfl, rfl⟩

theorem year_impl (x : Int) (w : World) : Calls Tryd.prog 78 #[.int .i64 x] w fun e w' => e = .returned (.bool (inB x 1500 2100)) ∧ w = w' := by
  go_enter Tryd.func78, Tryd.ntmps78
  go_wp2_with (go_at_call 44; refine (in_impl _ _ _ _).mono ?_; rintro e w' ⟨rfl, rfl⟩)
  go_ret
  exact ⟨rfl, rfl⟩

/-- A sheet is valid. -/
def sheetB (s : SheetD) : Bool := inB s.Id 1 999 && inB s.Row 0 99 && inB s.Col 0 99 && inB s.Scale 10 500 && inB s.Year 1500 2100
theorem sheet_spec (s : SheetD) (w : World) : Calls Tryd.prog 56 #[s.val] w fun e w' => e = .returned (.bool (sheetB s)) ∧ Below w.heap.size w w' := by
  go_enter Tryd.func56, Tryd.ntmps56
  go_wp2_with (first | (go_at_call 42; refine (in_spec _ _ _ _).mono ?_; rintro e w' ⟨rfl, rfl⟩) | (go_at_call 75; refine (scale_spec _ _).mono ?_; rintro e w' ⟨rfl, rfl⟩))
  all_goals go_ret
  all_goals exact ⟨by simp [sheetB, *], by go_grown⟩

theorem sheet_impl (s : SheetD) (w : World) : Calls Tryd.prog 58 #[s.val] w fun e w' => e = .returned (.bool (sheetB s)) ∧ Below w.heap.size w w' := by
  go_enter Tryd.func58, Tryd.ntmps58
  go_wp2_with (first | (go_at_call 44; refine (in_impl _ _ _ _).mono ?_; rintro e w' ⟨rfl, rfl⟩) | (go_at_call 77; refine (scale_impl _ _).mono ?_; rintro e w' ⟨rfl, rfl⟩) | (go_at_call 76; refine (id_impl _ _).mono ?_; rintro e w' ⟨rfl, rfl⟩) | (go_at_call 78; refine (year_impl _ _).mono ?_; rintro e w' ⟨rfl, rfl⟩))
  all_goals go_ret
  all_goals exact ⟨by simp [sheetB, *], by go_grown⟩

end Go.Proofs.YteklomkncfjdlaaDoor
