/-
  What the functions on valid turns and zones compute. No condition.
-/
import Derived.Test.YthjjamjhagfolaaWalks1
namespace Go.Proofs.Ythjjamjhagfolaa
open Go.RowKit
set_option linter.unusedVariables false

/-- A turn is valid. -/
def turnB (s : GridTurnD) : Bool := inB s.Quarters 0 3 && inB s.Num 1 20 && inB s.Den 1 20 && inB s.East (-99999) 99999 && inB s.North (-99999) 99999

theorem turn_spec (s : GridTurnD) (w : World) : Calls Try.prog 25 #[s.val] w fun e w' => e = .returned (.bool (turnB s)) ∧ Below w.heap.size w w' := by
  go_enter Try.func25, Try.ntmps25
  go_wp2_with (go_at_call 38; refine (in_spec _ _ _ _).mono ?_; rintro e w' ⟨rfl, rfl⟩)
  all_goals go_ret
  all_goals exact ⟨by simp [turnB, *], by go_grown⟩

theorem turn_impl (s : GridTurnD) (w : World) : Calls Try.prog 14 #[s.val] w fun e w' => e = .returned (.bool (turnB s)) ∧ Below w.heap.size w w' := by
  go_enter Try.func14, Try.ntmps14
  go_wp2_with (go_at_call 26; refine (in_impl _ _ _ _).mono ?_; rintro e w' ⟨rfl, rfl⟩)
  all_goals go_ret
  all_goals exact ⟨by simp [turnB, *], by go_grown⟩

theorem turn_specE (s : GridTurnD) (w : World) : Calls Try.prog 12 #[s.val] w fun e w' => e = .returned (.bool (turnB s)) ∧ Below w.heap.size w w' := by
  go_enter Try.func12, Try.ntmps12
  go_wp2_with (go_at_call 25; refine (turn_spec s _).mono ?_; rintro e w' ⟨rfl, hb⟩)
  all_goals go_ret
  exact ⟨rfl, ((Below.refl _ _).alloc (Nat.le_refl _) _).trans (hb.mono (by simp))⟩

theorem toGridTurn_any (s : GridTurnD) (w : World) : Calls Try.prog 13 #[s.val] w fun e w' => e = .returned s.val ∧ Below w.heap.size w w' := by
  go_enter Try.func13, Try.ntmps13
  go_wp2
  exact bodyPost_ret (v := s.val) (by simp [results, Try.results13, go_sem]) rfl ⟨rfl, by go_grown⟩

theorem walk_ExactIsGridTurn (w : World) (s : GridTurnD) (ok : s.ok) : Calls Try.prog 5 #[s.val] w fun e w' => e = .returned (.bool true) ∧ Below w.heap.size w w' := by
  go_enter Try.func5, Try.ntmps5
  go_wp2_with fail
  refine (toGridTurn_any s _).mono ?_
  rintro e w1 ⟨rfl, hb1⟩
  have hz1 : w.heap.size < w1.heap.size := by have := hb1.size; first | omega | (simp at this; omega)
  obtain ⟨hc1, hf1⟩ := bcell hb1
  have B1 : Below w.heap.size w w1 := Below.on (by go_grown) (by simp) hb1
  go_wp2_with fail
  refine (turn_specE s _).mono ?_
  rintro e w2 ⟨rfl, hb2⟩
  have hz2 : w.heap.size < w2.heap.size := by have := hb2.size; first | omega | (simp at this; omega)
  obtain ⟨hc2, hf2⟩ := bcell hb2
  have B2 : Below w.heap.size w w2 := Below.on B1 (by omega) hb2
  go_wp2_with fail
  refine (toGridTurn_any s _).mono ?_
  rintro e w3 ⟨rfl, hb3⟩
  have B3 : Below w.heap.size w w3 := Below.on B2 (by omega) hb3
  have hz3 : w.heap.size < w3.heap.size := by have := hb3.size; first | omega | (simp at this; omega)
  go_wp2_with fail
  refine (turn_impl s _).mono ?_
  rintro e w4 ⟨rfl, hb4⟩
  have B4 : Below w.heap.size w w4 := Below.on B3 (by omega) hb4
  go_wp2_with fail
  go_ret
  exact ⟨rfl, B4⟩

/-- A zone is valid. -/
def zoneB (s : ZoneD) : Bool := inB s.Id 1 99 && inB s.West 0 9999 && inB s.South 0 9999 && inB s.East (s.West + 1) 9999 && inB s.North (s.South + 1) 9999

theorem zoneB_iff (s : ZoneD) : zoneB s = true ↔ (inB s.Id 1 99 = true ∧ 0 ≤ s.West ∧ s.West < s.East ∧ s.East ≤ 9999 ∧ 0 ≤ s.South ∧ s.South < s.North ∧ s.North ≤ 9999) := by
  simp [zoneB, inB]; omega

theorem zone_spec (s : ZoneD) (w : World) : Calls Try.prog 27 #[s.val] w fun e w' => e = .returned (.bool (zoneB s)) ∧ Below w.heap.size w w' := by
  go_enter Try.func27, Try.ntmps27
  go_wp2_with (go_at_call 38; refine (in_spec _ _ _ _).mono ?_; rintro e w' ⟨rfl, rfl⟩)
  all_goals go_ret
  all_goals refine ⟨ret_bool ?_, by go_grown⟩
  all_goals rw [Bool.eq_iff_iff, zoneB_iff]
  all_goals simp [*] <;> omega

theorem zone_impl (s : ZoneD) (w : World) : Calls Try.prog 17 #[s.val] w fun e w' => e = .returned (.bool (zoneB s)) ∧ Below w.heap.size w w' := by
  by_cases h2 : 0 ≤ s.West ∧ s.West ≤ 9999
  · obtain ⟨h2a, h2b⟩ := h2
    by_cases h3 : 0 ≤ s.South ∧ s.South ≤ 9999
    · obtain ⟨h3a, h3b⟩ := h3
      go_enter Try.func17, Try.ntmps17
      go_wp2_with (go_at_call 26; refine (in_impl _ _ _ _).mono ?_; rintro e w' ⟨rfl, rfl⟩)
      all_goals go_ret
      all_goals exact ⟨by simp [zoneB, *], by go_grown⟩
    · have h3' : inB s.South 0 9999 = false := by simp [inB]; omega
      clear h3
      go_enter Try.func17, Try.ntmps17
      go_wp2_with (go_at_call 26; refine (in_impl _ _ _ _).mono ?_; rintro e w' ⟨rfl, rfl⟩)
      all_goals go_ret
      all_goals exact ⟨by simp [zoneB, *], by go_grown⟩
  · have h2' : inB s.West 0 9999 = false := by simp [inB]; omega
    clear h2
    go_enter Try.func17, Try.ntmps17
    go_wp2_with (go_at_call 26; refine (in_impl _ _ _ _).mono ?_; rintro e w' ⟨rfl, rfl⟩)
    all_goals go_ret
    all_goals exact ⟨by simp [zoneB, *], by go_grown⟩

theorem zone_specE (s : ZoneD) (w : World) : Calls Try.prog 15 #[s.val] w fun e w' => e = .returned (.bool (zoneB s)) ∧ Below w.heap.size w w' := by
  go_enter Try.func15, Try.ntmps15
  go_wp2_with (go_at_call 27; refine (zone_spec s _).mono ?_; rintro e w' ⟨rfl, hb⟩)
  all_goals go_ret
  exact ⟨rfl, ((Below.refl _ _).alloc (Nat.le_refl _) _).trans (hb.mono (by simp))⟩

theorem toZone_any (s : ZoneD) (w : World) : Calls Try.prog 16 #[s.val] w fun e w' => e = .returned s.val ∧ Below w.heap.size w w' := by
  go_enter Try.func16, Try.ntmps16
  go_wp2
  exact bodyPost_ret (v := s.val) (by simp [results, Try.results16, go_sem]) rfl ⟨rfl, by go_grown⟩

theorem walk_ExactIsZone (w : World) (s : ZoneD) (ok : s.ok) : Calls Try.prog 6 #[s.val] w fun e w' => e = .returned (.bool true) ∧ Below w.heap.size w w' := by
  go_enter Try.func6, Try.ntmps6
  go_wp2_with fail
  refine (toZone_any s _).mono ?_
  rintro e w1 ⟨rfl, hb1⟩
  have hz1 : w.heap.size < w1.heap.size := by have := hb1.size; first | omega | (simp at this; omega)
  obtain ⟨hc1, hf1⟩ := bcell hb1
  have B1 : Below w.heap.size w w1 := Below.on (by go_grown) (by simp) hb1
  go_wp2_with fail
  refine (zone_specE s _).mono ?_
  rintro e w2 ⟨rfl, hb2⟩
  have hz2 : w.heap.size < w2.heap.size := by have := hb2.size; first | omega | (simp at this; omega)
  obtain ⟨hc2, hf2⟩ := bcell hb2
  have B2 : Below w.heap.size w w2 := Below.on B1 (by omega) hb2
  go_wp2_with fail
  refine (toZone_any s _).mono ?_
  rintro e w3 ⟨rfl, hb3⟩
  have B3 : Below w.heap.size w w3 := Below.on B2 (by omega) hb3
  have hz3 : w.heap.size < w3.heap.size := by have := hb3.size; first | omega | (simp at this; omega)
  go_wp2_with fail
  refine (zone_impl s _).mono ?_
  rintro e w4 ⟨rfl, hb4⟩
  have B4 : Below w.heap.size w w4 := Below.on B3 (by omega) hb4
  go_wp2_with fail
  go_ret
  exact ⟨rfl, B4⟩

end Go.Proofs.Ythjjamjhagfolaa
