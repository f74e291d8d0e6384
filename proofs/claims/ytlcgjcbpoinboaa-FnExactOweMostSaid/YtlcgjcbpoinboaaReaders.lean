/-
  Readers and makers: which are valid; by the program and by the reference. No condition.
-/
import Derived.Test.YtlcgjcbpoinboaaWord
import Derived.Test.YtlcgjcbpoinboaaShapes
namespace Go.Proofs.Ytlcgjcbpoinboaa
open Go.RowKit
set_option linter.unusedVariables false
set_option maxRecDepth 100000

theorem day_spec (x : Int) (w : World) : Calls Try.prog 71 #[.int .i64 x] w fun e w' => e = .returned (.bool (inB x 0 4000)) ∧ w = w' := by
  go_enter Try.func71, Try.ntmps71
  go_wp2_with (go_at_call 66; refine (in_spec _ _ _ _).mono ?_; rintro e w' ⟨rfl, rfl⟩)
  go_ret
  exact ⟨rfl, rfl⟩

theorem day_impl (x : Int) (w : World) : Calls Try.prog 59 #[.int .i64 x] w fun e w' => e = .returned (.bool (inB x 0 4000)) ∧ w = w' := by
  go_enter Try.func59, Try.ntmps59
  go_wp2_with (go_at_call 55; refine (in_impl _ _ _ _).mono ?_; rintro e w' ⟨rfl, rfl⟩)
  go_ret
  exact ⟨rfl, rfl⟩

/-- A reader is valid. -/
def readerB (s : ReaderD) : Bool := inB s.Id 1 999 && wordB s.Name && inB s.Joined 0 4000 && inB s.Class 1 3 && inB s.Fines 0 10000
set_option maxHeartbeats 400000 in
theorem reader_spec (s : ReaderD) (hs : s.Name.size ≤ maxLen) (w : World) : Calls Try.prog 57 #[s.val] w fun e w' => e = .returned (.bool (readerB s)) ∧ Below w.heap.size w w' := by
  go_enter Try.func57, Try.ntmps57
  go_wp2_with (first | (go_at_call 66; refine (in_spec _ _ _ _).mono ?_; rintro e w' ⟨rfl, rfl⟩) | (go_at_call 82; refine (word_spec _ _ hs).mono ?_; rintro e w' ⟨rfl, rfl⟩) | (go_at_call 71; refine (day_spec _ _).mono ?_; rintro e w' ⟨rfl, rfl⟩))
  all_goals go_ret
  all_goals exact ⟨by simp [readerB, *], by go_grown⟩

set_option maxHeartbeats 400000 in
theorem reader_specE (s : ReaderD) (hs : s.Name.size ≤ maxLen) (w : World) : Calls Try.prog 20 #[s.val] w fun e w' => e = .returned (.bool (readerB s)) ∧ Below w.heap.size w w' := by
  go_enter Try.func20, Try.ntmps20
  go_wp2_with (go_at_call 57; refine (reader_spec s hs _).mono ?_; rintro e w' ⟨rfl, hb⟩)
  all_goals go_ret
  exact ⟨rfl, ((Below.refl _ _).alloc (Nat.le_refl _) _).trans (hb.mono (by simp))⟩

set_option maxHeartbeats 1000000 in
theorem reader_impl (s : ReaderD) (hs : s.Name.size ≤ maxLen) (w : World) : Calls Try.prog 22 #[s.val] w fun e w' => e = .returned (.bool (readerB s)) ∧ Below w.heap.size w w' := by
  have D0 : Below w.heap.size w (w.alloc (.cells #[.int .i64 s.Id, .string s.Name, .int .i64 s.Joined, .int .i64 s.Class, .int .i64 s.Fines] 33)) := by go_grown
  by_cases h1 : inB s.Id 1 999 = true
  · go_enter Try.func22, Try.ntmps22
    go_wp2_with (go_at_call 58; refine (id_impl _ _).mono ?_; rintro e w' ⟨rfl, rfl⟩)
    refine (word_impl _ _ hs).mono ?_
    rintro e w1 ⟨rfl, hb1⟩
    have B1 : Below w.heap.size w w1 := Below.on D0 D0.size hb1
    have x0 : w1.cell? ⟨w.heap.size, 0, none⟩ = some (.int .i64 s.Id) := (hb1.cell (by simp)).trans (by simp [go_sem])
    have x1 : w1.cell? ⟨w.heap.size, 1, none⟩ = some (.string s.Name) := (hb1.cell (by simp)).trans (by simp [go_sem])
    have x2 : w1.cell? ⟨w.heap.size, 2, none⟩ = some (.int .i64 s.Joined) := (hb1.cell (by simp)).trans (by simp [go_sem])
    have x3 : w1.cell? ⟨w.heap.size, 3, none⟩ = some (.int .i64 s.Class) := (hb1.cell (by simp)).trans (by simp [go_sem])
    have x4 : w1.cell? ⟨w.heap.size, 4, none⟩ = some (.int .i64 s.Fines) := (hb1.cell (by simp)).trans (by simp [go_sem])
    go_wp2_with (first | (go_at_call 55; refine (in_impl _ _ _ _).mono ?_; rintro e w' ⟨rfl, rfl⟩) | (go_at_call 59; refine (day_impl _ _).mono ?_; rintro e w' ⟨rfl, rfl⟩))
    all_goals go_ret
    all_goals exact ⟨by simp [readerB, *], B1⟩
  · have h1' : inB s.Id 1 999 = false := by simpa using h1
    clear h1
    go_enter Try.func22, Try.ntmps22
    go_wp2_with (go_at_call 58; refine (id_impl _ _).mono ?_; rintro e w' ⟨rfl, rfl⟩)
    go_ret
    exact ⟨by simp [readerB, *], D0⟩

/-- A maker is valid. -/
def makerB (s : MakerD) : Bool := inB s.Id 1 99 && wordB s.Name && inB s.Until 1500 2100 && inB s.From 1500 s.Until && inB s.Heir 0 99 && (s.Heir != s.Id)
theorem year7_spec (x : Int) (w : World) : Calls Try.prog 83 #[.int .i64 x] w fun e w' => e = .returned (.bool (inB x 1500 2100)) ∧ w = w' := by
  go_enter Try.func83, Try.ntmps83
  go_wp2_with (go_at_call 66; refine (in_spec _ _ _ _).mono ?_; rintro e w' ⟨rfl, rfl⟩)
  go_ret
  exact ⟨rfl, rfl⟩

set_option maxHeartbeats 400000 in
theorem maker_spec (s : MakerD) (hs : s.Name.size ≤ maxLen) (w : World) : Calls Try.prog 54 #[s.val] w fun e w' => e = .returned (.bool (makerB s)) ∧ Below w.heap.size w w' := by
  go_enter Try.func54, Try.ntmps54
  go_wp2_with (first | (go_at_call 66; refine (in_spec _ _ _ _).mono ?_; rintro e w' ⟨rfl, rfl⟩) | (go_at_call 82; refine (word_spec _ _ hs).mono ?_; rintro e w' ⟨rfl, rfl⟩) | (go_at_call 83; refine (year7_spec _ _).mono ?_; rintro e w' ⟨rfl, rfl⟩))
  all_goals go_ret
  all_goals exact ⟨by simp [makerB, *], by go_grown⟩

set_option maxHeartbeats 400000 in
theorem maker_specE (s : MakerD) (hs : s.Name.size ≤ maxLen) (w : World) : Calls Try.prog 16 #[s.val] w fun e w' => e = .returned (.bool (makerB s)) ∧ Below w.heap.size w w' := by
  go_enter Try.func16, Try.ntmps16
  go_wp2_with (go_at_call 54; refine (maker_spec s hs _).mono ?_; rintro e w' ⟨rfl, hb⟩)
  all_goals go_ret
  exact ⟨rfl, ((Below.refl _ _).alloc (Nat.le_refl _) _).trans (hb.mono (by simp))⟩

theorem makerB_swap (s : MakerD) : makerB s = (inB s.Id 1 99 && wordB s.Name && inB s.From 1500 s.Until && decide (s.Until ≤ 2100) && inB s.Heir 0 99 && (s.Heir != s.Id)) := by
  unfold makerB inB
  generalize wordB s.Name = A
  generalize s.From = f
  generalize s.Until = u
  rw [Bool.eq_iff_iff]
  simp only [Bool.and_eq_true, decide_eq_true_eq]
  constructor
  · rintro ⟨⟨⟨⟨⟨a, b⟩, c⟩, d⟩, e⟩, f⟩; exact ⟨⟨⟨⟨⟨a, b⟩, d⟩, c.2⟩, e⟩, f⟩
  · rintro ⟨⟨⟨⟨⟨a, b⟩, d⟩, c⟩, e⟩, f⟩; exact ⟨⟨⟨⟨⟨a, b⟩, ⟨by omega, c⟩⟩, d⟩, e⟩, f⟩

set_option maxHeartbeats 1000000 in
theorem maker_impl (s : MakerD) (hs : s.Name.size ≤ maxLen) (w : World) : Calls Try.prog 18 #[s.val] w fun e w' => e = .returned (.bool (makerB s)) ∧ Below w.heap.size w w' := by
  have D0 : Below w.heap.size w (w.alloc (.cells #[.int .i64 s.Id, .string s.Name, .int .i64 s.From, .int .i64 s.Until, .int .i64 s.Heir] 26)) := by go_grown
  rw [makerB_swap]
  by_cases h1 : inB s.Id 1 99 = true
  · go_enter Try.func18, Try.ntmps18
    go_wp2_with (go_at_call 55; refine (in_impl _ _ _ _).mono ?_; rintro e w' ⟨rfl, rfl⟩)
    refine (word_impl _ _ hs).mono ?_
    rintro e w1 ⟨rfl, hb1⟩
    have B1 : Below w.heap.size w w1 := Below.on D0 D0.size hb1
    have x0 : w1.cell? ⟨w.heap.size, 0, none⟩ = some (.int .i64 s.Id) := (hb1.cell (by simp)).trans (by simp [go_sem])
    have x1 : w1.cell? ⟨w.heap.size, 1, none⟩ = some (.string s.Name) := (hb1.cell (by simp)).trans (by simp [go_sem])
    have x2 : w1.cell? ⟨w.heap.size, 2, none⟩ = some (.int .i64 s.From) := (hb1.cell (by simp)).trans (by simp [go_sem])
    have x3 : w1.cell? ⟨w.heap.size, 3, none⟩ = some (.int .i64 s.Until) := (hb1.cell (by simp)).trans (by simp [go_sem])
    have x4 : w1.cell? ⟨w.heap.size, 4, none⟩ = some (.int .i64 s.Heir) := (hb1.cell (by simp)).trans (by simp [go_sem])
    go_wp2_with (go_at_call 55; refine (in_impl _ _ _ _).mono ?_; rintro e w' ⟨rfl, rfl⟩)
    all_goals go_ret
    all_goals exact ⟨by simp [*] <;> omega, B1⟩
  · have h1' : inB s.Id 1 99 = false := by simpa using h1
    clear h1
    go_enter Try.func18, Try.ntmps18
    go_wp2_with (go_at_call 55; refine (in_impl _ _ _ _).mono ?_; rintro e w' ⟨rfl, rfl⟩)
    go_ret
    exact ⟨by simp [*], D0⟩

theorem szReader_any (s : ReaderD) (w : World) (left : Int) (h0 : 0 ≤ left) (h1 : left ≤ 1048576) (hs : s.Name.size ≤ maxLen) :
    Calls Try.prog 19 #[s.val, .int .i64 left] w fun e w' => e = .returned (.int .i64 (if (s.Name.size : Int) ≤ left then left - (s.Name.size : Int) else -1)) ∧ Below w.heap.size w w' := by
  unfold maxLen at hs
  by_cases h : (s.Name.size : Int) ≤ left
  · rw [if_pos h]
    go_enter Try.func19, Try.ntmps19
    go_wp2
    go_ret
    exact ⟨rfl, by go_grown⟩
  · rw [if_neg h]
    go_enter Try.func19, Try.ntmps19
    go_wp2
    go_ret
    exact ⟨rfl, by go_grown⟩

theorem toReader_any (s : ReaderD) (w : World) : Calls Try.prog 21 #[s.val] w fun e w' => e = .returned s.val ∧ Below w.heap.size w w' := by
  go_enter Try.func21, Try.ntmps21
  go_wp2
  exact bodyPost_ret (v := s.val) (by simp [results, Try.results21, go_sem]) rfl ⟨rfl, by go_grown⟩

theorem eqReader_same (s : ReaderD) (w : World) : Calls Try.prog 61 #[s.val, s.val] w fun e w' => e = .returned (.bool true) ∧ Below w.heap.size w w' := by
  go_enter Try.func61, Try.ntmps61
  go_wp2
  go_ret
  exact ⟨rfl, by go_grown⟩

theorem szMaker_any (s : MakerD) (w : World) (left : Int) (h0 : 0 ≤ left) (h1 : left ≤ 1048576) (hs : s.Name.size ≤ maxLen) :
    Calls Try.prog 15 #[s.val, .int .i64 left] w fun e w' => e = .returned (.int .i64 (if (s.Name.size : Int) ≤ left then left - (s.Name.size : Int) else -1)) ∧ Below w.heap.size w w' := by
  unfold maxLen at hs
  by_cases h : (s.Name.size : Int) ≤ left
  · rw [if_pos h]
    go_enter Try.func15, Try.ntmps15
    go_wp2
    go_ret
    exact ⟨rfl, by go_grown⟩
  · rw [if_neg h]
    go_enter Try.func15, Try.ntmps15
    go_wp2
    go_ret
    exact ⟨rfl, by go_grown⟩

theorem toMaker_any (s : MakerD) (w : World) : Calls Try.prog 17 #[s.val] w fun e w' => e = .returned s.val ∧ Below w.heap.size w w' := by
  go_enter Try.func17, Try.ntmps17
  go_wp2
  exact bodyPost_ret (v := s.val) (by simp [results, Try.results17, go_sem]) rfl ⟨rfl, by go_grown⟩

theorem eqMaker_same (s : MakerD) (w : World) : Calls Try.prog 64 #[s.val, s.val] w fun e w' => e = .returned (.bool true) ∧ Below w.heap.size w w' := by
  go_enter Try.func64, Try.ntmps64
  go_wp2
  go_ret
  exact ⟨rfl, by go_grown⟩

set_option maxHeartbeats 1000000 in
theorem walk_ExactIsReader (w : World) (s0 : ReaderD) (ok0 : s0.ok) : Calls Try.prog 4 #[s0.val] w fun e w' => e = .returned (.bool true) ∧ Below w.heap.size w w' := by
  have C0 : Below (w.alloc (.cells #[.int .i64 s0.Id, .string s0.Name, .int .i64 s0.Joined, .int .i64 s0.Class, .int .i64 s0.Fines] 30)).heap.size (w.alloc (.cells #[.int .i64 s0.Id, .string s0.Name, .int .i64 s0.Joined, .int .i64 s0.Class, .int .i64 s0.Fines] 30)) (w.alloc (.cells #[.int .i64 s0.Id, .string s0.Name, .int .i64 s0.Joined, .int .i64 s0.Class, .int .i64 s0.Fines] 30)) := Below.refl _ _
  have D0 : Below w.heap.size w (w.alloc (.cells #[.int .i64 s0.Id, .string s0.Name, .int .i64 s0.Joined, .int .i64 s0.Class, .int .i64 s0.Fines] 30)) := by go_grown
  have hsz : s0.Name.size ≤ maxLen := ok0.2.1
  clear ok0
  by_cases hL : (s0.Name.size : Int) ≤ 1048576
  · go_enter Try.func4, Try.ntmps4
    go_wp2_with fail
    refine (szReader_any s0 _ 1048576 (by omega) (by omega) hsz).mono ?_
    rintro e w1 ⟨rfl, hb1⟩
    have C1 : Below (w.alloc (.cells #[.int .i64 s0.Id, .string s0.Name, .int .i64 s0.Joined, .int .i64 s0.Class, .int .i64 s0.Fines] 30)).heap.size (w.alloc (.cells #[.int .i64 s0.Id, .string s0.Name, .int .i64 s0.Joined, .int .i64 s0.Class, .int .i64 s0.Fines] 30)) w1 := Below.on C0 C0.size hb1
    rw [if_pos hL]
    have x0 : w1.cell? ⟨w.heap.size, 0, none⟩ = some (.int .i64 s0.Id) := (C1.cell (by simp)).trans (by simp [go_sem])
    have x1 : w1.cell? ⟨w.heap.size, 1, none⟩ = some (.string s0.Name) := (C1.cell (by simp)).trans (by simp [go_sem])
    have x2 : w1.cell? ⟨w.heap.size, 2, none⟩ = some (.int .i64 s0.Joined) := (C1.cell (by simp)).trans (by simp [go_sem])
    have x3 : w1.cell? ⟨w.heap.size, 3, none⟩ = some (.int .i64 s0.Class) := (C1.cell (by simp)).trans (by simp [go_sem])
    have x4 : w1.cell? ⟨w.heap.size, 4, none⟩ = some (.int .i64 s0.Fines) := (C1.cell (by simp)).trans (by simp [go_sem])
    go_wp2_with fail
    refine (toReader_any s0 _).mono ?_
    rintro e w2 ⟨rfl, hb2⟩
    have C2 : Below (w.alloc (.cells #[.int .i64 s0.Id, .string s0.Name, .int .i64 s0.Joined, .int .i64 s0.Class, .int .i64 s0.Fines] 30)).heap.size (w.alloc (.cells #[.int .i64 s0.Id, .string s0.Name, .int .i64 s0.Joined, .int .i64 s0.Class, .int .i64 s0.Fines] 30)) w2 := Below.on C1 C1.size hb2
    have x0 : w2.cell? ⟨w.heap.size, 0, none⟩ = some (.int .i64 s0.Id) := (C2.cell (by simp)).trans (by simp [go_sem])
    have x1 : w2.cell? ⟨w.heap.size, 1, none⟩ = some (.string s0.Name) := (C2.cell (by simp)).trans (by simp [go_sem])
    have x2 : w2.cell? ⟨w.heap.size, 2, none⟩ = some (.int .i64 s0.Joined) := (C2.cell (by simp)).trans (by simp [go_sem])
    have x3 : w2.cell? ⟨w.heap.size, 3, none⟩ = some (.int .i64 s0.Class) := (C2.cell (by simp)).trans (by simp [go_sem])
    have x4 : w2.cell? ⟨w.heap.size, 4, none⟩ = some (.int .i64 s0.Fines) := (C2.cell (by simp)).trans (by simp [go_sem])
    go_wp2_with fail
    refine (reader_specE s0 hsz _).mono ?_
    rintro e w3 ⟨rfl, hb3⟩
    have C3 : Below (w.alloc (.cells #[.int .i64 s0.Id, .string s0.Name, .int .i64 s0.Joined, .int .i64 s0.Class, .int .i64 s0.Fines] 30)).heap.size (w.alloc (.cells #[.int .i64 s0.Id, .string s0.Name, .int .i64 s0.Joined, .int .i64 s0.Class, .int .i64 s0.Fines] 30)) w3 := Below.on C2 C2.size hb3
    have x0 : w3.cell? ⟨w.heap.size, 0, none⟩ = some (.int .i64 s0.Id) := (C3.cell (by simp)).trans (by simp [go_sem])
    have x1 : w3.cell? ⟨w.heap.size, 1, none⟩ = some (.string s0.Name) := (C3.cell (by simp)).trans (by simp [go_sem])
    have x2 : w3.cell? ⟨w.heap.size, 2, none⟩ = some (.int .i64 s0.Joined) := (C3.cell (by simp)).trans (by simp [go_sem])
    have x3 : w3.cell? ⟨w.heap.size, 3, none⟩ = some (.int .i64 s0.Class) := (C3.cell (by simp)).trans (by simp [go_sem])
    have x4 : w3.cell? ⟨w.heap.size, 4, none⟩ = some (.int .i64 s0.Fines) := (C3.cell (by simp)).trans (by simp [go_sem])
    go_wp2_with fail
    refine (toReader_any s0 _).mono ?_
    rintro e w4 ⟨rfl, hb4⟩
    have C4 : Below (w.alloc (.cells #[.int .i64 s0.Id, .string s0.Name, .int .i64 s0.Joined, .int .i64 s0.Class, .int .i64 s0.Fines] 30)).heap.size (w.alloc (.cells #[.int .i64 s0.Id, .string s0.Name, .int .i64 s0.Joined, .int .i64 s0.Class, .int .i64 s0.Fines] 30)) w4 := Below.on C3 C3.size hb4
    have x0 : w4.cell? ⟨w.heap.size, 0, none⟩ = some (.int .i64 s0.Id) := (C4.cell (by simp)).trans (by simp [go_sem])
    have x1 : w4.cell? ⟨w.heap.size, 1, none⟩ = some (.string s0.Name) := (C4.cell (by simp)).trans (by simp [go_sem])
    have x2 : w4.cell? ⟨w.heap.size, 2, none⟩ = some (.int .i64 s0.Joined) := (C4.cell (by simp)).trans (by simp [go_sem])
    have x3 : w4.cell? ⟨w.heap.size, 3, none⟩ = some (.int .i64 s0.Class) := (C4.cell (by simp)).trans (by simp [go_sem])
    have x4 : w4.cell? ⟨w.heap.size, 4, none⟩ = some (.int .i64 s0.Fines) := (C4.cell (by simp)).trans (by simp [go_sem])
    go_wp2_with fail
    refine (reader_impl s0 hsz _).mono ?_
    rintro e w5 ⟨rfl, hb5⟩
    have C5 : Below (w.alloc (.cells #[.int .i64 s0.Id, .string s0.Name, .int .i64 s0.Joined, .int .i64 s0.Class, .int .i64 s0.Fines] 30)).heap.size (w.alloc (.cells #[.int .i64 s0.Id, .string s0.Name, .int .i64 s0.Joined, .int .i64 s0.Class, .int .i64 s0.Fines] 30)) w5 := Below.on C4 C4.size hb5
    go_wp2_with fail
    go_ret
    exact ⟨rfl, Below.on D0 D0.size C5⟩
  · go_enter Try.func4, Try.ntmps4
    go_wp2_with fail
    refine (szReader_any s0 _ 1048576 (by omega) (by omega) hsz).mono ?_
    rintro e w1 ⟨rfl, hb1⟩
    rw [if_neg (by omega)]
    go_wp2_with fail
    go_ret
    exact ⟨rfl, Below.on D0 D0.size hb1⟩

set_option maxHeartbeats 1000000 in
theorem walk_ExactIsMaker (w : World) (s0 : MakerD) (ok0 : s0.ok) : Calls Try.prog 3 #[s0.val] w fun e w' => e = .returned (.bool true) ∧ Below w.heap.size w w' := by
  have C0 : Below (w.alloc (.cells #[.int .i64 s0.Id, .string s0.Name, .int .i64 s0.From, .int .i64 s0.Until, .int .i64 s0.Heir] 23)).heap.size (w.alloc (.cells #[.int .i64 s0.Id, .string s0.Name, .int .i64 s0.From, .int .i64 s0.Until, .int .i64 s0.Heir] 23)) (w.alloc (.cells #[.int .i64 s0.Id, .string s0.Name, .int .i64 s0.From, .int .i64 s0.Until, .int .i64 s0.Heir] 23)) := Below.refl _ _
  have D0 : Below w.heap.size w (w.alloc (.cells #[.int .i64 s0.Id, .string s0.Name, .int .i64 s0.From, .int .i64 s0.Until, .int .i64 s0.Heir] 23)) := by go_grown
  have hsz : s0.Name.size ≤ maxLen := ok0.2.1
  clear ok0
  by_cases hL : (s0.Name.size : Int) ≤ 1048576
  · go_enter Try.func3, Try.ntmps3
    go_wp2_with fail
    refine (szMaker_any s0 _ 1048576 (by omega) (by omega) hsz).mono ?_
    rintro e w1 ⟨rfl, hb1⟩
    have C1 : Below (w.alloc (.cells #[.int .i64 s0.Id, .string s0.Name, .int .i64 s0.From, .int .i64 s0.Until, .int .i64 s0.Heir] 23)).heap.size (w.alloc (.cells #[.int .i64 s0.Id, .string s0.Name, .int .i64 s0.From, .int .i64 s0.Until, .int .i64 s0.Heir] 23)) w1 := Below.on C0 C0.size hb1
    rw [if_pos hL]
    have x0 : w1.cell? ⟨w.heap.size, 0, none⟩ = some (.int .i64 s0.Id) := (C1.cell (by simp)).trans (by simp [go_sem])
    have x1 : w1.cell? ⟨w.heap.size, 1, none⟩ = some (.string s0.Name) := (C1.cell (by simp)).trans (by simp [go_sem])
    have x2 : w1.cell? ⟨w.heap.size, 2, none⟩ = some (.int .i64 s0.From) := (C1.cell (by simp)).trans (by simp [go_sem])
    have x3 : w1.cell? ⟨w.heap.size, 3, none⟩ = some (.int .i64 s0.Until) := (C1.cell (by simp)).trans (by simp [go_sem])
    have x4 : w1.cell? ⟨w.heap.size, 4, none⟩ = some (.int .i64 s0.Heir) := (C1.cell (by simp)).trans (by simp [go_sem])
    go_wp2_with fail
    refine (toMaker_any s0 _).mono ?_
    rintro e w2 ⟨rfl, hb2⟩
    have C2 : Below (w.alloc (.cells #[.int .i64 s0.Id, .string s0.Name, .int .i64 s0.From, .int .i64 s0.Until, .int .i64 s0.Heir] 23)).heap.size (w.alloc (.cells #[.int .i64 s0.Id, .string s0.Name, .int .i64 s0.From, .int .i64 s0.Until, .int .i64 s0.Heir] 23)) w2 := Below.on C1 C1.size hb2
    have x0 : w2.cell? ⟨w.heap.size, 0, none⟩ = some (.int .i64 s0.Id) := (C2.cell (by simp)).trans (by simp [go_sem])
    have x1 : w2.cell? ⟨w.heap.size, 1, none⟩ = some (.string s0.Name) := (C2.cell (by simp)).trans (by simp [go_sem])
    have x2 : w2.cell? ⟨w.heap.size, 2, none⟩ = some (.int .i64 s0.From) := (C2.cell (by simp)).trans (by simp [go_sem])
    have x3 : w2.cell? ⟨w.heap.size, 3, none⟩ = some (.int .i64 s0.Until) := (C2.cell (by simp)).trans (by simp [go_sem])
    have x4 : w2.cell? ⟨w.heap.size, 4, none⟩ = some (.int .i64 s0.Heir) := (C2.cell (by simp)).trans (by simp [go_sem])
    go_wp2_with fail
    refine (maker_specE s0 hsz _).mono ?_
    rintro e w3 ⟨rfl, hb3⟩
    have C3 : Below (w.alloc (.cells #[.int .i64 s0.Id, .string s0.Name, .int .i64 s0.From, .int .i64 s0.Until, .int .i64 s0.Heir] 23)).heap.size (w.alloc (.cells #[.int .i64 s0.Id, .string s0.Name, .int .i64 s0.From, .int .i64 s0.Until, .int .i64 s0.Heir] 23)) w3 := Below.on C2 C2.size hb3
    have x0 : w3.cell? ⟨w.heap.size, 0, none⟩ = some (.int .i64 s0.Id) := (C3.cell (by simp)).trans (by simp [go_sem])
    have x1 : w3.cell? ⟨w.heap.size, 1, none⟩ = some (.string s0.Name) := (C3.cell (by simp)).trans (by simp [go_sem])
    have x2 : w3.cell? ⟨w.heap.size, 2, none⟩ = some (.int .i64 s0.From) := (C3.cell (by simp)).trans (by simp [go_sem])
    have x3 : w3.cell? ⟨w.heap.size, 3, none⟩ = some (.int .i64 s0.Until) := (C3.cell (by simp)).trans (by simp [go_sem])
    have x4 : w3.cell? ⟨w.heap.size, 4, none⟩ = some (.int .i64 s0.Heir) := (C3.cell (by simp)).trans (by simp [go_sem])
    go_wp2_with fail
    refine (toMaker_any s0 _).mono ?_
    rintro e w4 ⟨rfl, hb4⟩
    have C4 : Below (w.alloc (.cells #[.int .i64 s0.Id, .string s0.Name, .int .i64 s0.From, .int .i64 s0.Until, .int .i64 s0.Heir] 23)).heap.size (w.alloc (.cells #[.int .i64 s0.Id, .string s0.Name, .int .i64 s0.From, .int .i64 s0.Until, .int .i64 s0.Heir] 23)) w4 := Below.on C3 C3.size hb4
    have x0 : w4.cell? ⟨w.heap.size, 0, none⟩ = some (.int .i64 s0.Id) := (C4.cell (by simp)).trans (by simp [go_sem])
    have x1 : w4.cell? ⟨w.heap.size, 1, none⟩ = some (.string s0.Name) := (C4.cell (by simp)).trans (by simp [go_sem])
    have x2 : w4.cell? ⟨w.heap.size, 2, none⟩ = some (.int .i64 s0.From) := (C4.cell (by simp)).trans (by simp [go_sem])
    have x3 : w4.cell? ⟨w.heap.size, 3, none⟩ = some (.int .i64 s0.Until) := (C4.cell (by simp)).trans (by simp [go_sem])
    have x4 : w4.cell? ⟨w.heap.size, 4, none⟩ = some (.int .i64 s0.Heir) := (C4.cell (by simp)).trans (by simp [go_sem])
    go_wp2_with fail
    refine (maker_impl s0 hsz _).mono ?_
    rintro e w5 ⟨rfl, hb5⟩
    have C5 : Below (w.alloc (.cells #[.int .i64 s0.Id, .string s0.Name, .int .i64 s0.From, .int .i64 s0.Until, .int .i64 s0.Heir] 23)).heap.size (w.alloc (.cells #[.int .i64 s0.Id, .string s0.Name, .int .i64 s0.From, .int .i64 s0.Until, .int .i64 s0.Heir] 23)) w5 := Below.on C4 C4.size hb5
    go_wp2_with fail
    go_ret
    exact ⟨rfl, Below.on D0 D0.size C5⟩
  · go_enter Try.func3, Try.ntmps3
    go_wp2_with fail
    refine (szMaker_any s0 _ 1048576 (by omega) (by omega) hsz).mono ?_
    rintro e w1 ⟨rfl, hb1⟩
    rw [if_neg (by omega)]
    go_wp2_with fail
    go_ret
    exact ⟨rfl, Below.on D0 D0.size hb1⟩

end Go.Proofs.Ytlcgjcbpoinboaa
