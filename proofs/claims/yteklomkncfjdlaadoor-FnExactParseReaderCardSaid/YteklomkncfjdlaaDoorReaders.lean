/-
  Readers and makers: which are valid; by the program and by the reference. No condition.
-/
import Derived.Test.YteklomkncfjdlaaDoorWord
import Derived.Test.YteklomkncfjdlaaDoorShapes
namespace Go.Proofs.YteklomkncfjdlaaDoor
open Go.RowKit
set_option linter.unusedVariables false
set_option maxRecDepth 100000

theorem day_spec (x : Int) (w : World) : Calls Tryd.prog 83 #[.int .i64 x] w fun e w' => e = .returned (.bool (inB x 0 4000)) ∧ w = w' := by
  go_enter Tryd.func83, Tryd.ntmps83
  go_wp2_with (go_at_call 42; refine (in_spec _ _ _ _).mono ?_; rintro e w' ⟨rfl, rfl⟩)
  go_ret
  exact ⟨rfl, rfl⟩

theorem day_impl (x : Int) (w : World) : Calls Tryd.prog 85 #[.int .i64 x] w fun e w' => e = .returned (.bool (inB x 0 4000)) ∧ w = w' := by
  go_enter Tryd.func85, Tryd.ntmps85
  go_wp2_with (go_at_call 44; refine (in_impl _ _ _ _).mono ?_; rintro e w' ⟨rfl, rfl⟩)
  go_ret
  exact ⟨rfl, rfl⟩

/-- A reader is valid. -/
def readerB (s : ReaderD) : Bool := inB s.Id 1 999 && wordB s.Name && inB s.Joined 0 4000 && inB s.Class 1 3 && inB s.Fines 0 10000
set_option maxHeartbeats 400000 in
theorem reader_spec (s : ReaderD) (hs : s.Name.size ≤ maxLen) (w : World) : Calls Tryd.prog 61 #[s.val] w fun e w' => e = .returned (.bool (readerB s)) ∧ Below w.heap.size w w' := by
  go_enter Tryd.func61, Tryd.ntmps61
  go_wp2_with (first | (go_at_call 42; refine (in_spec _ _ _ _).mono ?_; rintro e w' ⟨rfl, rfl⟩) | (go_at_call 82; refine (word_spec _ _ hs).mono ?_; rintro e w' ⟨rfl, rfl⟩) | (go_at_call 83; refine (day_spec _ _).mono ?_; rintro e w' ⟨rfl, rfl⟩))
  all_goals go_ret
  all_goals exact ⟨by simp [readerB, *], by go_grown⟩

set_option maxHeartbeats 1000000 in
theorem reader_impl (s : ReaderD) (hs : s.Name.size ≤ maxLen) (w : World) : Calls Tryd.prog 63 #[s.val] w fun e w' => e = .returned (.bool (readerB s)) ∧ Below w.heap.size w w' := by
  have D0 : Below w.heap.size w (w.alloc (.cells #[.int .i64 s.Id, .string s.Name, .int .i64 s.Joined, .int .i64 s.Class, .int .i64 s.Fines] 51)) := by go_grown
  by_cases h1 : inB s.Id 1 999 = true
  · go_enter Tryd.func63, Tryd.ntmps63
    go_wp2_with (go_at_call 76; refine (id_impl _ _).mono ?_; rintro e w' ⟨rfl, rfl⟩)
    refine (word_impl _ _ hs).mono ?_
    rintro e w1 ⟨rfl, hb1⟩
    have B1 : Below w.heap.size w w1 := Below.on D0 D0.size hb1
    have x0 : w1.cell? ⟨w.heap.size, 0, none⟩ = some (.int .i64 s.Id) := (hb1.cell (by simp)).trans (by simp [go_sem])
    have x1 : w1.cell? ⟨w.heap.size, 1, none⟩ = some (.string s.Name) := (hb1.cell (by simp)).trans (by simp [go_sem])
    have x2 : w1.cell? ⟨w.heap.size, 2, none⟩ = some (.int .i64 s.Joined) := (hb1.cell (by simp)).trans (by simp [go_sem])
    have x3 : w1.cell? ⟨w.heap.size, 3, none⟩ = some (.int .i64 s.Class) := (hb1.cell (by simp)).trans (by simp [go_sem])
    have x4 : w1.cell? ⟨w.heap.size, 4, none⟩ = some (.int .i64 s.Fines) := (hb1.cell (by simp)).trans (by simp [go_sem])
    go_wp2_with (first | (go_at_call 44; refine (in_impl _ _ _ _).mono ?_; rintro e w' ⟨rfl, rfl⟩) | (go_at_call 85; refine (day_impl _ _).mono ?_; rintro e w' ⟨rfl, rfl⟩))
    all_goals go_ret
    all_goals exact ⟨by simp [readerB, *], B1⟩
  · have h1' : inB s.Id 1 999 = false := by simpa using h1
    clear h1
    go_enter Tryd.func63, Tryd.ntmps63
    go_wp2_with (go_at_call 76; refine (id_impl _ _).mono ?_; rintro e w' ⟨rfl, rfl⟩)
    go_ret
    exact ⟨by simp [readerB, *], D0⟩

theorem szReader_any (s : ReaderD) (w : World) (left : Int) (h0 : 0 ≤ left) (h1 : left ≤ 1048576) (hs : s.Name.size ≤ maxLen) :
    Calls Tryd.prog 32 #[s.val, .int .i64 left] w fun e w' => e = .returned (.int .i64 (if (s.Name.size : Int) ≤ left then left - (s.Name.size : Int) else -1)) ∧ Below w.heap.size w w' := by
  unfold maxLen at hs
  by_cases h : (s.Name.size : Int) ≤ left
  · rw [if_pos h]
    go_enter Tryd.func32, Tryd.ntmps32
    go_wp2
    go_ret
    exact ⟨rfl, by go_grown⟩
  · rw [if_neg h]
    go_enter Tryd.func32, Tryd.ntmps32
    go_wp2
    go_ret
    exact ⟨rfl, by go_grown⟩

theorem toReader_any (s : ReaderD) (w : World) : Calls Tryd.prog 34 #[s.val] w fun e w' => e = .returned s.val ∧ Below w.heap.size w w' := by
  go_enter Tryd.func34, Tryd.ntmps34
  go_wp2
  exact bodyPost_ret (v := s.val) (by simp [results, Tryd.results34, go_sem]) rfl ⟨rfl, by go_grown⟩

theorem eqReader_same (s : ReaderD) (w : World) : Calls Tryd.prog 41 #[s.val, s.val] w fun e w' => e = .returned (.bool true) ∧ Below w.heap.size w w' := by
  go_enter Tryd.func41, Tryd.ntmps41
  go_wp2
  go_ret
  exact ⟨rfl, by go_grown⟩

end Go.Proofs.YteklomkncfjdlaaDoor
