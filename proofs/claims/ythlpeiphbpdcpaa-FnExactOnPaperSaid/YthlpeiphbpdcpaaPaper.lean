/-
  How long some meters are on a sheet; by the program and by the reference. No condition.
-/
import Derived.Test.YthlpeiphbpdcpaaSheets
import Derived.Test.YthlpeiphbpdcpaaGcd
import Derived.Test.YthlpeiphbpdcpaaListSheet
namespace Go.Proofs.Ythlpeiphbpdcpaa
open Go.RowKit
set_option linter.unusedVariables false
set_option maxRecDepth 100000

def paperB (s : SheetD) (m : Int) : Bool := sheetB s && inB m 1 1000000
def paperN (s : SheetD) (m : Int) : Int := if paperB s m then redN m s.Scale.toNat else 0
def paperD (s : SheetD) (m : Int) : Int := if paperB s m then redD m s.Scale.toNat else 0

set_option maxHeartbeats 2000000 in
theorem paper_spec (s : SheetD) (m : Int) (w : World) : Calls Try.prog 8 #[s.val, .int .i64 m] w fun e w' => e = .returned (.tuple #[.int .i64 (paperN s m), .int .i64 (paperD s m), .bool (paperB s m)]) ∧ Below w.heap.size w w' := by
  have D0 : Below w.heap.size w (w.alloc (.cells #[.int .i64 s.Id, .int .i64 s.Row, .int .i64 s.Col, .int .i64 s.Scale, .int .i64 s.Year] 26)) := by go_grown
  have x0 : (w.alloc (.cells #[.int .i64 s.Id, .int .i64 s.Row, .int .i64 s.Col, .int .i64 s.Scale, .int .i64 s.Year] 26)).cell? ⟨w.heap.size, 0, none⟩ = some (.int .i64 s.Id) := by simp [go_sem]
  have x1 : (w.alloc (.cells #[.int .i64 s.Id, .int .i64 s.Row, .int .i64 s.Col, .int .i64 s.Scale, .int .i64 s.Year] 26)).cell? ⟨w.heap.size, 1, none⟩ = some (.int .i64 s.Row) := by simp [go_sem]
  have x2 : (w.alloc (.cells #[.int .i64 s.Id, .int .i64 s.Row, .int .i64 s.Col, .int .i64 s.Scale, .int .i64 s.Year] 26)).cell? ⟨w.heap.size, 2, none⟩ = some (.int .i64 s.Col) := by simp [go_sem]
  have x3 : (w.alloc (.cells #[.int .i64 s.Id, .int .i64 s.Row, .int .i64 s.Col, .int .i64 s.Scale, .int .i64 s.Year] 26)).cell? ⟨w.heap.size, 3, none⟩ = some (.int .i64 s.Scale) := by simp [go_sem]
  have x4 : (w.alloc (.cells #[.int .i64 s.Id, .int .i64 s.Row, .int .i64 s.Col, .int .i64 s.Scale, .int .i64 s.Year] 26)).cell? ⟨w.heap.size, 4, none⟩ = some (.int .i64 s.Year) := by simp [go_sem]
  by_cases h1 : sheetB s = true
  · by_cases h2 : inB m 1 1000000 = true
    · have hN : paperN s m = redN m s.Scale.toNat := by simp [paperN, paperB, h1, h2]
      have hD : paperD s m = redD m s.Scale.toNat := by simp [paperD, paperB, h1, h2]
      have hP : paperB s m = true := by simp [paperB, h1, h2]
      have hs : 10 ≤ s.Scale ∧ s.Scale ≤ 500 := by simp [sheetB, inB] at h1; omega
      have hm : 1 ≤ m ∧ m ≤ 1000000 := by simp [inB] at h2; omega
      have hc := reduce_spec m s.Scale.toNat (by omega) (by omega) (by omega) (by omega)
      rw [← hN, ← hD, show ((s.Scale.toNat : Nat) : Int) = s.Scale by omega] at hc
      have HC := hid hc
      have HP := hid hP
      clear hN hD hc hP hs hm
      go_enter Try.func8, Try.ntmps8
      go_wp2_with fail
      refine (sheet_spec s _).mono ?_
      rintro e w1 ⟨rfl, hb1⟩
      have hB1 : Below w.heap.size w w1 := Below.on D0 D0.size hb1
      have y3 := (hb1.cell (by simp)).trans x3
      go_wp2_with (go_at_call 27; refine (in_spec _ _ _ _).mono ?_; rintro e w' ⟨rfl, rfl⟩)
      refine (HC.out _).mono ?_
      rintro e w2 ⟨rfl, hb2⟩
      go_wp2_with fail
      go_ret3
      exact ⟨by rw [HP.out]; rfl, Below.on hB1 hB1.size hb2⟩
    · have h2' : inB m 1 1000000 = false := by simpa using h2
      have hN : paperN s m = 0 := by simp [paperN, paperB, h2']
      have hD : paperD s m = 0 := by simp [paperD, paperB, h2']
      have hP : paperB s m = false := by simp [paperB, h2']
      have HN := hid hN
      have HD := hid hD
      have HP := hid hP
      clear h2 hN hD hP
      go_enter Try.func8, Try.ntmps8
      go_wp2_with fail
      refine (sheet_spec s _).mono ?_
      rintro e w1 ⟨rfl, hb1⟩
      have hB1 : Below w.heap.size w w1 := Below.on D0 D0.size hb1
      have y3 := (hb1.cell (by simp)).trans x3
      go_wp2_with (go_at_call 27; refine (in_spec _ _ _ _).mono ?_; rintro e w' ⟨rfl, rfl⟩)
      go_ret3
      exact ⟨by rw [HN.out, HD.out, HP.out]; rfl, hB1⟩
  · have h1' : sheetB s = false := by simpa using h1
    have hN : paperN s m = 0 := by simp [paperN, paperB, h1']
    have hD : paperD s m = 0 := by simp [paperD, paperB, h1']
    have hP : paperB s m = false := by simp [paperB, h1']
    have HN := hid hN
    have HD := hid hD
    have HP := hid hP
    clear h1 hN hD hP
    go_enter Try.func8, Try.ntmps8
    go_wp2_with fail
    refine (sheet_spec s _).mono ?_
    rintro e w1 ⟨rfl, hb1⟩
    have hB1 : Below w.heap.size w w1 := Below.on D0 D0.size hb1
    have y3 := (hb1.cell (by simp)).trans x3
    go_wp2_with (go_at_call 27; refine (in_spec _ _ _ _).mono ?_; rintro e w' ⟨rfl, rfl⟩)
    go_ret3
    exact ⟨by rw [HN.out, HD.out, HP.out]; rfl, hB1⟩

set_option maxHeartbeats 2000000 in
theorem paper_impl (s : SheetD) (m : Int) (w : World) : Calls Try.prog 10 #[s.val, .int .i64 m] w fun e w' => e = .returned (.tuple #[.int .i64 (paperN s m), .int .i64 (paperD s m), .bool (paperB s m)]) ∧ Below w.heap.size w w' := by
  have D0 : Below w.heap.size w (w.alloc (.cells #[.int .i64 s.Id, .int .i64 s.Row, .int .i64 s.Col, .int .i64 s.Scale, .int .i64 s.Year] 26)) := by go_grown
  have x0 : (w.alloc (.cells #[.int .i64 s.Id, .int .i64 s.Row, .int .i64 s.Col, .int .i64 s.Scale, .int .i64 s.Year] 26)).cell? ⟨w.heap.size, 0, none⟩ = some (.int .i64 s.Id) := by simp [go_sem]
  have x1 : (w.alloc (.cells #[.int .i64 s.Id, .int .i64 s.Row, .int .i64 s.Col, .int .i64 s.Scale, .int .i64 s.Year] 26)).cell? ⟨w.heap.size, 1, none⟩ = some (.int .i64 s.Row) := by simp [go_sem]
  have x2 : (w.alloc (.cells #[.int .i64 s.Id, .int .i64 s.Row, .int .i64 s.Col, .int .i64 s.Scale, .int .i64 s.Year] 26)).cell? ⟨w.heap.size, 2, none⟩ = some (.int .i64 s.Col) := by simp [go_sem]
  have x3 : (w.alloc (.cells #[.int .i64 s.Id, .int .i64 s.Row, .int .i64 s.Col, .int .i64 s.Scale, .int .i64 s.Year] 26)).cell? ⟨w.heap.size, 3, none⟩ = some (.int .i64 s.Scale) := by simp [go_sem]
  have x4 : (w.alloc (.cells #[.int .i64 s.Id, .int .i64 s.Row, .int .i64 s.Col, .int .i64 s.Scale, .int .i64 s.Year] 26)).cell? ⟨w.heap.size, 4, none⟩ = some (.int .i64 s.Year) := by simp [go_sem]
  by_cases h1 : sheetB s = true
  · by_cases h2 : inB m 1 1000000 = true
    · have hN : paperN s m = redN m s.Scale.toNat := by simp [paperN, paperB, h1, h2]
      have hD : paperD s m = redD m s.Scale.toNat := by simp [paperD, paperB, h1, h2]
      have hP : paperB s m = true := by simp [paperB, h1, h2]
      have hs : 10 ≤ s.Scale ∧ s.Scale ≤ 500 := by simp [sheetB, inB] at h1; omega
      have hm : 1 ≤ m ∧ m ≤ 1000000 := by simp [inB] at h2; omega
      have hc := fraction_impl m s.Scale.toNat (by omega) (by omega) (by omega) (by omega)
      rw [← hN, ← hD, show ((s.Scale.toNat : Nat) : Int) = s.Scale by omega] at hc
      have HC := hid hc
      have HP := hid hP
      clear hN hD hc hP hs hm
      go_enter Try.func10, Try.ntmps10
      go_wp2_with fail
      refine (sheet_impl s _).mono ?_
      rintro e w1 ⟨rfl, hb1⟩
      have hB1 : Below w.heap.size w w1 := Below.on D0 D0.size hb1
      have y3 := (hb1.cell (by simp)).trans x3
      go_wp2_with (go_at_call 30; refine (in_impl _ _ _ _).mono ?_; rintro e w' ⟨rfl, rfl⟩)
      refine (HC.out _).mono ?_
      rintro e w2 ⟨rfl, hb2⟩
      go_wp2_with fail
      go_ret3
      exact ⟨by rw [HP.out]; rfl, Below.on hB1 hB1.size hb2⟩
    · have h2' : inB m 1 1000000 = false := by simpa using h2
      have hN : paperN s m = 0 := by simp [paperN, paperB, h2']
      have hD : paperD s m = 0 := by simp [paperD, paperB, h2']
      have hP : paperB s m = false := by simp [paperB, h2']
      have HN := hid hN
      have HD := hid hD
      have HP := hid hP
      clear h2 hN hD hP
      go_enter Try.func10, Try.ntmps10
      go_wp2_with fail
      refine (sheet_impl s _).mono ?_
      rintro e w1 ⟨rfl, hb1⟩
      have hB1 : Below w.heap.size w w1 := Below.on D0 D0.size hb1
      have y3 := (hb1.cell (by simp)).trans x3
      go_wp2_with (go_at_call 30; refine (in_impl _ _ _ _).mono ?_; rintro e w' ⟨rfl, rfl⟩)
      go_ret3
      exact ⟨by rw [HN.out, HD.out, HP.out]; rfl, hB1⟩
  · have h1' : sheetB s = false := by simpa using h1
    have hN : paperN s m = 0 := by simp [paperN, paperB, h1']
    have hD : paperD s m = 0 := by simp [paperD, paperB, h1']
    have hP : paperB s m = false := by simp [paperB, h1']
    have HN := hid hN
    have HD := hid hD
    have HP := hid hP
    clear h1 hN hD hP
    go_enter Try.func10, Try.ntmps10
    go_wp2_with fail
    refine (sheet_impl s _).mono ?_
    rintro e w1 ⟨rfl, hb1⟩
    have hB1 : Below w.heap.size w w1 := Below.on D0 D0.size hb1
    have y3 := (hb1.cell (by simp)).trans x3
    go_wp2_with (go_at_call 30; refine (in_impl _ _ _ _).mono ?_; rintro e w' ⟨rfl, rfl⟩)
    go_ret3
    exact ⟨by rw [HN.out, HD.out, HP.out]; rfl, hB1⟩

set_option maxHeartbeats 1000000 in
theorem walk_ExactOnPaper (w : World) (s0 : SheetD) (a1 : Int) (ok0 : s0.ok) (i1 : isI a1) : Calls Try.prog 3 #[s0.val, .int .i64 a1] w fun e w' => e = .returned (.bool true) ∧ Below w.heap.size w w' := by
  have C0 : Below (w.alloc (.cells #[.int .i64 s0.Id, .int .i64 s0.Row, .int .i64 s0.Col, .int .i64 s0.Scale, .int .i64 s0.Year] 23)).heap.size (w.alloc (.cells #[.int .i64 s0.Id, .int .i64 s0.Row, .int .i64 s0.Col, .int .i64 s0.Scale, .int .i64 s0.Year] 23)) (w.alloc (.cells #[.int .i64 s0.Id, .int .i64 s0.Row, .int .i64 s0.Col, .int .i64 s0.Scale, .int .i64 s0.Year] 23)) := Below.refl _ _
  have D0 : Below w.heap.size w (w.alloc (.cells #[.int .i64 s0.Id, .int .i64 s0.Row, .int .i64 s0.Col, .int .i64 s0.Scale, .int .i64 s0.Year] 23)) := by go_grown
  clear ok0
  go_enter Try.func3, Try.ntmps3
  go_wp2_with fail
  refine (toSheet_any s0 _).mono ?_
  rintro e w1 ⟨rfl, hb1⟩
  have C1 : Below (w.alloc (.cells #[.int .i64 s0.Id, .int .i64 s0.Row, .int .i64 s0.Col, .int .i64 s0.Scale, .int .i64 s0.Year] 23)).heap.size (w.alloc (.cells #[.int .i64 s0.Id, .int .i64 s0.Row, .int .i64 s0.Col, .int .i64 s0.Scale, .int .i64 s0.Year] 23)) w1 := Below.on C0 C0.size hb1
  have x0 : w1.cell? ⟨w.heap.size, 0, none⟩ = some (.int .i64 s0.Id) := (C1.cell (by simp)).trans (by simp [go_sem])
  have x1 : w1.cell? ⟨w.heap.size, 1, none⟩ = some (.int .i64 s0.Row) := (C1.cell (by simp)).trans (by simp [go_sem])
  have x2 : w1.cell? ⟨w.heap.size, 2, none⟩ = some (.int .i64 s0.Col) := (C1.cell (by simp)).trans (by simp [go_sem])
  have x3 : w1.cell? ⟨w.heap.size, 3, none⟩ = some (.int .i64 s0.Scale) := (C1.cell (by simp)).trans (by simp [go_sem])
  have x4 : w1.cell? ⟨w.heap.size, 4, none⟩ = some (.int .i64 s0.Year) := (C1.cell (by simp)).trans (by simp [go_sem])
  go_wp2_with fail
  refine (paper_spec s0 a1 _).mono ?_
  rintro e w2 ⟨rfl, hb2⟩
  have C2 : Below (w.alloc (.cells #[.int .i64 s0.Id, .int .i64 s0.Row, .int .i64 s0.Col, .int .i64 s0.Scale, .int .i64 s0.Year] 23)).heap.size (w.alloc (.cells #[.int .i64 s0.Id, .int .i64 s0.Row, .int .i64 s0.Col, .int .i64 s0.Scale, .int .i64 s0.Year] 23)) w2 := Below.on C1 C1.size hb2
  have x0 : w2.cell? ⟨w.heap.size, 0, none⟩ = some (.int .i64 s0.Id) := (C2.cell (by simp)).trans (by simp [go_sem])
  have x1 : w2.cell? ⟨w.heap.size, 1, none⟩ = some (.int .i64 s0.Row) := (C2.cell (by simp)).trans (by simp [go_sem])
  have x2 : w2.cell? ⟨w.heap.size, 2, none⟩ = some (.int .i64 s0.Col) := (C2.cell (by simp)).trans (by simp [go_sem])
  have x3 : w2.cell? ⟨w.heap.size, 3, none⟩ = some (.int .i64 s0.Scale) := (C2.cell (by simp)).trans (by simp [go_sem])
  have x4 : w2.cell? ⟨w.heap.size, 4, none⟩ = some (.int .i64 s0.Year) := (C2.cell (by simp)).trans (by simp [go_sem])
  go_wp2_with fail
  refine (toSheet_any s0 _).mono ?_
  rintro e w3 ⟨rfl, hb3⟩
  have C3 : Below (w.alloc (.cells #[.int .i64 s0.Id, .int .i64 s0.Row, .int .i64 s0.Col, .int .i64 s0.Scale, .int .i64 s0.Year] 23)).heap.size (w.alloc (.cells #[.int .i64 s0.Id, .int .i64 s0.Row, .int .i64 s0.Col, .int .i64 s0.Scale, .int .i64 s0.Year] 23)) w3 := Below.on C2 C2.size hb3
  have x0 : w3.cell? ⟨w.heap.size, 0, none⟩ = some (.int .i64 s0.Id) := (C3.cell (by simp)).trans (by simp [go_sem])
  have x1 : w3.cell? ⟨w.heap.size, 1, none⟩ = some (.int .i64 s0.Row) := (C3.cell (by simp)).trans (by simp [go_sem])
  have x2 : w3.cell? ⟨w.heap.size, 2, none⟩ = some (.int .i64 s0.Col) := (C3.cell (by simp)).trans (by simp [go_sem])
  have x3 : w3.cell? ⟨w.heap.size, 3, none⟩ = some (.int .i64 s0.Scale) := (C3.cell (by simp)).trans (by simp [go_sem])
  have x4 : w3.cell? ⟨w.heap.size, 4, none⟩ = some (.int .i64 s0.Year) := (C3.cell (by simp)).trans (by simp [go_sem])
  go_wp2_with fail
  refine (paper_impl s0 a1 _).mono ?_
  rintro e w4 ⟨rfl, hb4⟩
  have C4 : Below (w.alloc (.cells #[.int .i64 s0.Id, .int .i64 s0.Row, .int .i64 s0.Col, .int .i64 s0.Scale, .int .i64 s0.Year] 23)).heap.size (w.alloc (.cells #[.int .i64 s0.Id, .int .i64 s0.Row, .int .i64 s0.Col, .int .i64 s0.Scale, .int .i64 s0.Year] 23)) w4 := Below.on C3 C3.size hb4
  go_wp2_with fail
  go_ret
  exact ⟨rfl, Below.on D0 D0.size C4⟩

end Go.Proofs.Ythlpeiphbpdcpaa
