/-
  What the functions on valid turns and zones compute. No condition.
-/
import Derived.Test.YtcnjafpfkdaoeaaWalks1
namespace Go.Proofs.Ytcnjafpfkdaoeaa
open Go.RowKit
set_option linter.unusedVariables false

/-- A zone is valid. -/
def zoneB (s : ZoneD) : Bool := inB s.Id 1 99 && inB s.West 0 9999 && inB s.South 0 9999 && inB s.East (s.West + 1) 9999 && inB s.North (s.South + 1) 9999
theorem zoneB_iff (s : ZoneD) : zoneB s = true ↔ (inB s.Id 1 99 = true ∧ 0 ≤ s.West ∧ s.West < s.East ∧ s.East ≤ 9999 ∧ 0 ≤ s.South ∧ s.South < s.North ∧ s.North ≤ 9999) := by
  simp [zoneB, inB]; omega
theorem zone_spec (s : ZoneD) (w : World) : Calls Try.prog 43 #[s.val] w fun e w' => e = .returned (.bool (zoneB s)) ∧ Below w.heap.size w w' := by
  go_enter Try.func43, Try.ntmps43
  go_wp2_with (go_at_call 56; refine (in_spec _ _ _ _).mono ?_; rintro e w' ⟨rfl, rfl⟩)
  all_goals go_ret
  all_goals refine ⟨ret_bool ?_, by go_grown⟩
  all_goals rw [Bool.eq_iff_iff, zoneB_iff]
  all_goals simp [*] <;> omega

theorem zone_impl (s : ZoneD) (w : World) : Calls Try.prog 37 #[s.val] w fun e w' => e = .returned (.bool (zoneB s)) ∧ Below w.heap.size w w' := by
  by_cases h2 : 0 ≤ s.West ∧ s.West ≤ 9999
  · obtain ⟨h2a, h2b⟩ := h2
    by_cases h3 : 0 ≤ s.South ∧ s.South ≤ 9999
    · obtain ⟨h3a, h3b⟩ := h3
      go_enter Try.func37, Try.ntmps37
      go_wp2_with (go_at_call 53; refine (in_impl _ _ _ _).mono ?_; rintro e w' ⟨rfl, rfl⟩)
      all_goals go_ret
      all_goals exact ⟨by simp [zoneB, *], by go_grown⟩
    · have h3' : inB s.South 0 9999 = false := by simp [inB]; omega
      clear h3
      go_enter Try.func37, Try.ntmps37
      go_wp2_with (go_at_call 53; refine (in_impl _ _ _ _).mono ?_; rintro e w' ⟨rfl, rfl⟩)
      all_goals go_ret
      all_goals exact ⟨by simp [zoneB, *], by go_grown⟩
  · have h2' : inB s.West 0 9999 = false := by simp [inB]; omega
    clear h2
    go_enter Try.func37, Try.ntmps37
    go_wp2_with (go_at_call 53; refine (in_impl _ _ _ _).mono ?_; rintro e w' ⟨rfl, rfl⟩)
    all_goals go_ret
    all_goals exact ⟨by simp [zoneB, *], by go_grown⟩

end Go.Proofs.Ytcnjafpfkdaoeaa
