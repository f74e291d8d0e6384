/-
  The sheet at a place; which lists are valid: the program and the reference. No condition.
-/
import Derived.Test.YthlpeiphbpdcpaaSheets2
import Derived.Test.YthlpeiphbpdcpaaListSheet
namespace Go.Proofs.Ythlpeiphbpdcpaa
open Go.RowKit
set_option linter.unusedVariables false

theorem areSheets_spec (w : World) (b off len cap : Nat) (X : Nat → SheetD) (h : Rw w b off 5 len (fun i => (X i).cells)) (hm : len ≤ 1048576) (hlc : len ≤ cap) :
    Calls Try.prog 12 #[.slice (some ⟨b, off, none⟩) len cap] w fun e w' => e = .returned (.bool (sheetsB X len)) ∧ Below w.heap.size w w' := by
  go_enter Try.func12, Try.ntmps12
  go_wp2_with (go_at_call 32; refine (sheets_spec _ b off len cap X h hm hlc).mono ?_; rintro e w' ⟨rfl, hb⟩)
  go_ret
  exact ⟨rfl, hb⟩

/-- The id of the sheet at a place, if the list is valid and there is one. -/
def sheetAtI (X : Nat → SheetD) (n : Nat) (row col scale : Int) : Int := if sheetsB X n = true ∧ 0 ≤ findI (fun i => onB (X i) row col scale) n then (X (findI (fun i => onB (X i) row col scale) n).toNat).Id else 0
def sheetAtB (X : Nat → SheetD) (n : Nat) (row col scale : Int) : Bool := sheetsB X n && decide (0 ≤ findI (fun i => onB (X i) row col scale) n)
theorem sheetAt_hit {X : Nat → SheetD} {n j : Nat} {row col scale : Int} (h : sheetsB X n = true) (hj : findI (fun i => onB (X i) row col scale) n = (j : Int)) :
    Ending.returned (.tuple #[.int .i64 (X j).Id, .bool true]) = .returned (.tuple #[.int .i64 (sheetAtI X n row col scale), .bool (sheetAtB X n row col scale)]) := by simp [sheetAtI, sheetAtB, h, hj]
theorem sheetAt_miss {X : Nat → SheetD} {n : Nat} {row col scale : Int} (h : sheetsB X n = false ∨ findI (fun i => onB (X i) row col scale) n = -1) :
    Ending.returned (.tuple #[.int .i64 0, .bool false]) = .returned (.tuple #[.int .i64 (sheetAtI X n row col scale), .bool (sheetAtB X n row col scale)]) := by rcases h with h | h <;> simp [sheetAtI, sheetAtB, h]

set_option maxHeartbeats 400000 in
theorem sheetAt_spec (w : World) (b off len cap : Nat) (X : Nat → SheetD) (row col scale : Int) (h : Rw w b off 5 len (fun i => (X i).cells)) (hm : len ≤ 1048576) (hlc : len ≤ cap) :
    Calls Try.prog 16 #[.slice (some ⟨b, off, none⟩) len cap, .int .i64 row, .int .i64 col, .int .i64 scale] w fun e w' => e = .returned (.tuple #[.int .i64 (sheetAtI X len row col scale), .bool (sheetAtB X len row col scale)]) ∧ Below w.heap.size w w' := by
  have H := hid h
  have hb := h.1
  clear h
  go_enter Try.func16, Try.ntmps16
  go_wp2_with fail
  refine (at_spec _ b off len cap X row col scale H.out hm hlc).mono ?_
  rintro e w1 ⟨he, rfl⟩
  rcases findI_cases (fun i => onB (X i) row col scale) len with hK | ⟨j, hj, hK, _⟩
  · rw [hK] at he
    have HK := hid hK
    clear hK
    subst he
    go_wp2_with fail
    refine (sheets_spec _ b off len cap X H.out hm hlc).mono ?_
    rintro e w1 ⟨rfl, hb1⟩
    by_cases hS : sheetsB X len = true
    all_goals
      go_wp2_with fail
      go_ret2
      exact ⟨sheetAt_miss (.inr HK.out), hb1⟩
  · rw [hK] at he
    have HK := hid hK
    clear hK
    subst he
    go_wp2_with fail
    refine (sheets_spec _ b off len cap X H.out hm hlc).mono ?_
    rintro e w1 ⟨rfl, hb1⟩
    by_cases hS : sheetsB X len = true
    · have c0 : w1.cell? ⟨b, off + j * 5, none⟩ = some (.int .i64 (X j).Id) := (hb1.cell hb).trans (H.out.2 j hj 0 (by omega))
      go_wp2_with fail
      go_ret2
      exact ⟨sheetAt_hit hS HK.out, hb1⟩
    · have hS' : sheetsB X len = false := by simpa using hS
      clear hS
      go_wp2_with fail
      go_ret2
      exact ⟨sheetAt_miss (.inl hS'), hb1⟩

set_option maxHeartbeats 400000 in
theorem sheetAtE_impl (w : World) (b off len cap : Nat) (X : Nat → SheetD) (row col scale : Int) (h : Rw w b off 5 len (fun i => (X i).cells)) (hm : len ≤ 1048576) (hlc : len ≤ cap) :
    Calls Try.prog 17 #[.slice (some ⟨b, off, none⟩) len cap, .int .i64 row, .int .i64 col, .int .i64 scale] w fun e w' => e = .returned (.tuple #[.int .i64 (sheetAtI X len row col scale), .bool (sheetAtB X len row col scale)]) ∧ Below w.heap.size w w' := by
  have H := hid h
  have hb := h.1
  clear h
  go_enter Try.func17, Try.ntmps17
  go_wp2_with fail
  refine (on_impl _ b off len cap X row col scale H.out hm hlc).mono ?_
  rintro e w0 ⟨he, hb0⟩
  have hs0 := hb0.size
  rcases findI_cases (fun i => onB (X i) row col scale) len with hK | ⟨j, hj, hK, _⟩
  · rw [hK] at he
    have HK := hid hK
    clear hK
    subst he
    go_wp2_with fail
    refine (sheets_impl _ b off len cap X (H.out.later' hb0) hm hlc).mono ?_
    rintro e w1 ⟨rfl, hb1⟩
    have B1 := Below.on hb0 hs0 hb1
    by_cases hS : sheetsB X len = true
    all_goals
      go_wp2_with fail
      go_ret2
      exact ⟨sheetAt_miss (.inr HK.out), B1⟩
  · rw [hK] at he
    have HK := hid hK
    clear hK
    subst he
    go_wp2_with fail
    refine (sheets_impl _ b off len cap X (H.out.later' hb0) hm hlc).mono ?_
    rintro e w1 ⟨rfl, hb1⟩
    have B1 := Below.on hb0 hs0 hb1
    by_cases hS : sheetsB X len = true
    · have c0 : w1.cell? ⟨b, off + j * 5, none⟩ = some (.int .i64 (X j).Id) := (B1.cell hb).trans (H.out.2 j hj 0 (by omega))
      go_wp2_with fail
      go_ret2
      exact ⟨sheetAt_hit hS HK.out, B1⟩
    · have hS' : sheetsB X len = false := by simpa using hS
      clear hS
      go_wp2_with fail
      go_ret2
      exact ⟨sheetAt_miss (.inl hS'), B1⟩

set_option maxHeartbeats 2000000 in
theorem walk_ExactAreSheets (w : World) (p0 : Option Addr) (len0 cap0 : Nat) (X0 : Nat → SheetD) (h0 : Sl w 5 p0 len0 (fun i => (X0 i).cells)) (ok0 : ∀ i, i < len0 → (X0 i).ok) (hm0 : len0 ≤ maxLen) :
    Calls Try.prog 4 #[.slice p0 len0 cap0] w fun e w' => e = .returned (.bool true) ∧ Below w.heap.size w w' := by
  clear ok0
  by_cases hL : (len0 : Int) ≤ 1048576
  · go_enter Try.func4, Try.ntmps4
    go_wp2_with fail
    refine (szSheetS_any p0 len0 cap0 _ hm0).mono ?_
    rintro e w0 ⟨rfl, rfl⟩
    rw [if_pos hL]
    go_wp2_with fail
    refine (toSheetS_any p0 len0 cap0 X0 _ (h0.below (Below.refl w.heap.size w)) (by omega)).mono ?_
    rintro e w1 ⟨rfl, hb1, hs1, F1⟩
    have B1 : Below w.heap.size w w1 := Below.on (Below.refl w.heap.size w) (Below.refl w.heap.size w).size hb1
    go_wp2_with fail
    refine (areSheets_spec _ _ 0 len0 len0 X0 F1.rw (by omega) (Nat.le_refl _)).mono ?_
    rintro e w2 ⟨rfl, hb2⟩
    have B2 : Below w.heap.size w w2 := Below.on B1 B1.size hb2
    go_wp2_with fail
    refine (toSheetS_any p0 len0 cap0 X0 _ (h0.below B2) (by omega)).mono ?_
    rintro e w3 ⟨rfl, hb3, hs3, F3⟩
    have B3 : Below w.heap.size w w3 := Below.on B2 B2.size hb3
    go_wp2_with fail
    refine (sheets_impl _ _ 0 len0 len0 X0 F3.rw (by omega) (Nat.le_refl _)).mono ?_
    rintro e w4 ⟨rfl, hb4⟩
    have B4 : Below w.heap.size w w4 := Below.on B3 B3.size hb4
    go_wp2_with fail
    refine (toSheetS_any p0 len0 cap0 X0 _ (h0.below B4) (by omega)).mono ?_
    rintro e w5 ⟨rfl, hb5, hs5, F5⟩
    have B5 : Below w.heap.size w w5 := Below.on B4 B4.size hb5
    go_wp2_with fail
    refine (eqSheetS_same _ _ 0 0 len0 len0 len0 X0 _ ((F3.rw.later' hb4).later' hb5) F5.rw (by omega) (Nat.le_refl _) (Nat.le_refl _)).mono ?_
    rintro e w6 ⟨rfl, hb6⟩
    have B6 : Below w.heap.size w w6 := Below.on B5 B5.size hb6
    go_wp2_with fail
    go_ret
    exact ⟨rfl, B6⟩
  · go_enter Try.func4, Try.ntmps4
    go_wp2_with fail
    refine (szSheetS_any p0 len0 cap0 _ hm0).mono ?_
    rintro e w0 ⟨rfl, rfl⟩
    rw [if_neg (by omega)]
    go_wp2_with fail
    go_ret
    exact ⟨rfl, Below.refl _ _⟩

set_option maxHeartbeats 2000000 in
theorem walk_ExactSheetAt (w : World) (p0 : Option Addr) (len0 cap0 : Nat) (X0 : Nat → SheetD) (a1 : Int) (a2 : Int) (a3 : Int) (h0 : Sl w 5 p0 len0 (fun i => (X0 i).cells)) (ok0 : ∀ i, i < len0 → (X0 i).ok) (hm0 : len0 ≤ maxLen) (i1 : isI a1) (i2 : isI a2) (i3 : isI a3) :
    Calls Try.prog 5 #[.slice p0 len0 cap0, .int .i64 a1, .int .i64 a2, .int .i64 a3] w fun e w' => e = .returned (.bool true) ∧ Below w.heap.size w w' := by
  clear ok0
  by_cases hL : (len0 : Int) ≤ 1048576
  · go_enter Try.func5, Try.ntmps5
    go_wp2_with fail
    refine (szSheetS_any p0 len0 cap0 _ hm0).mono ?_
    rintro e w0 ⟨rfl, rfl⟩
    rw [if_pos hL]
    go_wp2_with fail
    refine (toSheetS_any p0 len0 cap0 X0 _ (h0.below (Below.refl w.heap.size w)) (by omega)).mono ?_
    rintro e w1 ⟨rfl, hb1, hs1, F1⟩
    have B1 : Below w.heap.size w w1 := Below.on (Below.refl w.heap.size w) (Below.refl w.heap.size w).size hb1
    go_wp2_with fail
    refine (sheetAt_spec _ _ 0 len0 len0 X0 a1 a2 a3 F1.rw (by omega) (Nat.le_refl _)).mono ?_
    rintro e w2 ⟨rfl, hb2⟩
    have B2 : Below w.heap.size w w2 := Below.on B1 B1.size hb2
    go_wp2_with fail
    refine (toSheetS_any p0 len0 cap0 X0 _ (h0.below B2) (by omega)).mono ?_
    rintro e w3 ⟨rfl, hb3, hs3, F3⟩
    have B3 : Below w.heap.size w w3 := Below.on B2 B2.size hb3
    go_wp2_with fail
    refine (sheetAtE_impl _ _ 0 len0 len0 X0 a1 a2 a3 F3.rw (by omega) (Nat.le_refl _)).mono ?_
    rintro e w4 ⟨rfl, hb4⟩
    have B4 : Below w.heap.size w w4 := Below.on B3 B3.size hb4
    go_wp2_with fail
    refine (toSheetS_any p0 len0 cap0 X0 _ (h0.below B4) (by omega)).mono ?_
    rintro e w5 ⟨rfl, hb5, hs5, F5⟩
    have B5 : Below w.heap.size w w5 := Below.on B4 B4.size hb5
    go_wp2_with fail
    refine (eqSheetS_same _ _ 0 0 len0 len0 len0 X0 _ ((F3.rw.later' hb4).later' hb5) F5.rw (by omega) (Nat.le_refl _) (Nat.le_refl _)).mono ?_
    rintro e w6 ⟨rfl, hb6⟩
    have B6 : Below w.heap.size w w6 := Below.on B5 B5.size hb6
    go_wp2_with fail
    go_ret
    exact ⟨rfl, B6⟩
  · go_enter Try.func5, Try.ntmps5
    go_wp2_with fail
    refine (szSheetS_any p0 len0 cap0 _ hm0).mono ?_
    rintro e w0 ⟨rfl, rfl⟩
    rw [if_neg (by omega)]
    go_wp2_with fail
    go_ret
    exact ⟨rfl, Below.refl _ _⟩

end Go.Proofs.Ythlpeiphbpdcpaa
