/-
  What the functions on valid sheets, zones, turns and places compute. No condition.
-/
import Derived.Test.YthjjamjhagfolaaShapes1
namespace Go.Proofs.Ythjjamjhagfolaa
open Go.RowKit
set_option linter.unusedVariables false

theorem in_spec (x a b : Int) (w : World) : Calls Try.prog 38 #[.int .i64 x, .int .i64 a, .int .i64 b] w fun e w' => e = .returned (.bool (inB x a b)) ∧ w = w' := by
  by_cases h1 : a ≤ x <;> by_cases h2 : x ≤ b
  all_goals
    go_enter Try.func38, Try.ntmps38
    go_wp2
    go_ret
    exact ⟨by simp [inB, *], rfl⟩

theorem in_impl (x a b : Int) (w : World) : Calls Try.prog 26 #[.int .i64 x, .int .i64 a, .int .i64 b] w fun e w' => e = .returned (.bool (inB x a b)) ∧ w = w' := by
  by_cases h1 : a ≤ x <;> by_cases h2 : x ≤ b
  all_goals
    go_enter Try.func26, Try.ntmps26
    go_wp2
    go_ret
    exact ⟨by simp [inB, *], rfl⟩

theorem scale_spec (x : Int) (w : World) : Calls Try.prog 39 #[.int .i64 x] w fun e w' => e = .returned (.bool (inB x 10 500)) ∧ w = w' := by
  go_enter Try.func39, Try.ntmps39
  go_wp2_with (go_at_call 38; refine (in_spec _ _ _ _).mono ?_; rintro e w' ⟨rfl, rfl⟩)
  go_ret
  exact ⟨rfl, rfl⟩

theorem id_impl (x : Int) (w : World) : Calls Try.prog 29 #[.int .i64 x] w fun e w' => e = .returned (.bool (inB x 1 999)) ∧ w = w' := by
  go_enter Try.func29, Try.ntmps29
  go_wp2_with (go_at_call 26; refine (in_impl _ _ _ _).mono ?_; rintro e w' ⟨rfl, rfl⟩)
  go_ret
  exact ⟨rfl, rfl⟩

theorem scale_impl (x : Int) (w : World) : Calls Try.prog 30 #[.int .i64 x] w fun e w' => e = .returned (.bool (inB x 10 500)) ∧ w = w' := by
  go_enter Try.func30, Try.ntmps30
  go_wp2_with (go_at_call 26; refine (in_impl _ _ _ _).mono ?_; rintro e w' ⟨rfl, rfl⟩)
  go_ret
  exact ⟨rfl, rfl⟩

theorem year_impl (x : Int) (w : World) : Calls Try.prog 31 #[.int .i64 x] w fun e w' => e = .returned (.bool (inB x 1500 2100)) ∧ w = w' := by
  go_enter Try.func31, Try.ntmps31
  go_wp2_with (go_at_call 26; refine (in_impl _ _ _ _).mono ?_; rintro e w' ⟨rfl, rfl⟩)
  go_ret
  exact ⟨rfl, rfl⟩

/-- A sheet is valid. -/
def sheetB (s : SheetD) : Bool := inB s.Id 1 999 && inB s.Row 0 99 && inB s.Col 0 99 && inB s.Scale 10 500 && inB s.Year 1500 2100

theorem sheet_spec (s : SheetD) (w : World) : Calls Try.prog 28 #[s.val] w fun e w' => e = .returned (.bool (sheetB s)) ∧ Below w.heap.size w w' := by
  go_enter Try.func28, Try.ntmps28
  go_wp2_with (first | (go_at_call 38; refine (in_spec _ _ _ _).mono ?_; rintro e w' ⟨rfl, rfl⟩) | (go_at_call 39; refine (scale_spec _ _).mono ?_; rintro e w' ⟨rfl, rfl⟩))
  all_goals go_ret
  all_goals exact ⟨by simp [sheetB, *], by go_grown⟩

theorem sheet_impl (s : SheetD) (w : World) : Calls Try.prog 20 #[s.val] w fun e w' => e = .returned (.bool (sheetB s)) ∧ Below w.heap.size w w' := by
  go_enter Try.func20, Try.ntmps20
  go_wp2_with (first | (go_at_call 26; refine (in_impl _ _ _ _).mono ?_; rintro e w' ⟨rfl, rfl⟩) | (go_at_call 30; refine (scale_impl _ _).mono ?_; rintro e w' ⟨rfl, rfl⟩) | (go_at_call 29; refine (id_impl _ _).mono ?_; rintro e w' ⟨rfl, rfl⟩) | (go_at_call 31; refine (year_impl _ _).mono ?_; rintro e w' ⟨rfl, rfl⟩))
  all_goals go_ret
  all_goals exact ⟨by simp [sheetB, *], by go_grown⟩

theorem sheet_specE (s : SheetD) (w : World) : Calls Try.prog 18 #[s.val] w fun e w' => e = .returned (.bool (sheetB s)) ∧ Below w.heap.size w w' := by
  go_enter Try.func18, Try.ntmps18
  go_wp2_with (go_at_call 28; refine (sheet_spec _ _).mono ?_; rintro e w' ⟨rfl, hb⟩)
  all_goals go_ret
  exact ⟨rfl, ((Below.refl _ _).alloc (Nat.le_refl _) _).trans (hb.mono (by simp))⟩

theorem toSheet_any (s : SheetD) (w : World) : Calls Try.prog 19 #[s.val] w fun e w' => e = .returned s.val ∧ Below w.heap.size w w' := by
  go_enter Try.func19, Try.ntmps19
  go_wp2
  exact bodyPost_ret (v := s.val) (by simp [results, Try.results19, go_sem]) rfl ⟨rfl, by go_grown⟩

theorem walk_ExactIsSheet (w : World) (s : SheetD) (ok : s.ok) : Calls Try.prog 7 #[s.val] w fun e w' => e = .returned (.bool true) ∧ Below w.heap.size w w' := by
  go_enter Try.func7, Try.ntmps7
  go_wp2_with fail
  refine (toSheet_any s _).mono ?_
  rintro e w1 ⟨rfl, hb1⟩
  have hz1 : w.heap.size < w1.heap.size := by have := hb1.size; first | omega | (simp at this; omega)
  obtain ⟨hc1, hf1⟩ := bcell hb1
  have B1 : Below w.heap.size w w1 := Below.on (by go_grown) (by simp) hb1
  go_wp2_with fail
  refine (sheet_specE s _).mono ?_
  rintro e w2 ⟨rfl, hb2⟩
  have hz2 : w.heap.size < w2.heap.size := by have := hb2.size; first | omega | (simp at this; omega)
  obtain ⟨hc2, hf2⟩ := bcell hb2
  have B2 : Below w.heap.size w w2 := Below.on B1 (by omega) hb2
  go_wp2_with fail
  refine (toSheet_any s _).mono ?_
  rintro e w3 ⟨rfl, hb3⟩
  have B3 : Below w.heap.size w w3 := Below.on B2 (by omega) hb3
  have hz3 : w.heap.size < w3.heap.size := by have := hb3.size; first | omega | (simp at this; omega)
  go_wp2_with fail
  refine (sheet_impl s _).mono ?_
  rintro e w4 ⟨rfl, hb4⟩
  have B4 : Below w.heap.size w w4 := Below.on B3 (by omega) hb4
  go_wp2_with fail
  go_ret
  exact ⟨rfl, B4⟩

end Go.Proofs.Ythjjamjhagfolaa
