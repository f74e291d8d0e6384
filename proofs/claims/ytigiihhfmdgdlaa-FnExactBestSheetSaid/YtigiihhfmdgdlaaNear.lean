/-
  Neighbors of a sheet: the program and the reference. No condition.
-/
import Derived.Test.YtigiihhfmdgdlaaSheets3
import Derived.Test.YtigiihhfmdgdlaaIds
namespace Go.Proofs.Ytigiihhfmdgdlaa
open Go.RowKit
set_option linter.unusedVariables false

theorem sheetB_bd {s : SheetD} (h : sheetB s = true) : (1 ≤ s.Id ∧ s.Id ≤ 999) ∧ (0 ≤ s.Row ∧ s.Row ≤ 99) ∧ (0 ≤ s.Col ∧ s.Col ≤ 99) ∧ (10 ≤ s.Scale ∧ s.Scale ≤ 500) ∧ (1500 ≤ s.Year ∧ s.Year ≤ 2100) := by
  simp [sheetB, inB] at h; omega

theorem sheetsB_valid {X : Nat → SheetD} {n i : Nat} (h : sheetsB X n = true) (hi : i < n) : sheetB (X i) = true := by
  have := sheetsB_at h hi
  simp [sheetOk] at this; exact this.1.1

theorem sheetsB_step {X : Nat → SheetD} {n i : Nat} (h : sheetsB X n = true) (hi : i + 1 < n) : (X i).Id < (X (i + 1)).Id := by
  have := sheetsB_at h hi
  simp [sheetOk] at this; exact this.1.2

theorem sheetsB_lt {X : Nat → SheetD} {n : Nat} (h : sheetsB X n = true) : ∀ {i j : Nat}, i < j → j < n → (X i).Id < (X j).Id := by
  intro i j hij hj
  induction j with
  | zero => omega
  | succ j ih =>
    have := sheetsB_step h hj
    by_cases e : i = j
    · rw [e]; exact this
    · have := ih (by omega) (by omega); omega

theorem sheetsB_inj {X : Nat → SheetD} {n i j : Nat} (h : sheetsB X n = true) (hi : i < n) (hj : j < n) (he : (X i).Id = (X j).Id) : i = j := by
  rcases Nat.lt_trichotomy i j with hl | hl | hl
  · have := sheetsB_lt h hl hj; omega
  · exact hl
  · have := sheetsB_lt h hl hi; omega

/-- Two sheets are neighbors or the same. -/
def nearB (a b : SheetD) : Bool := (a.Scale == b.Scale) && inB (a.Row - b.Row) (-1) 1 && inB (a.Col - b.Col) (-1) 1

def absI (n : Int) : Int := if n < 0 then -n else n

theorem abs_any (n : Int) (h0 : -4611686018427387904 ≤ n) (h1 : n ≤ 4611686018427387904) (w : World) : Calls Try.prog 62 #[.int .i64 n] w fun e w' => e = .returned (.int .i64 (absI n)) ∧ w = w' := by
  by_cases h : n < 0
  · rw [show absI n = -n by simp [absI, h]]
    go_enter Try.func62, Try.ntmps62
    go_wp2
    go_ret
    exact ⟨ret_int (by omega), rfl⟩
  · rw [show absI n = n by simp [absI, h]]
    go_enter Try.func62, Try.ntmps62
    go_wp2
    go_ret
    exact ⟨ret_int (by omega), rfl⟩

theorem absI_le {n : Int} : decide (absI n ≤ 1) = inB n (-1) 1 := by
  unfold absI inB
  rw [Bool.eq_iff_iff]
  split <;> simp <;> omega

/-- Sheet i is a neighbor of sheet j of a list. -/
def nbP (X : Nat → SheetD) (j i : Nat) : Bool := decide (i ≠ j) && nearB (X i) (X j)
/-- The ids of the neighbors of the sheet with an id; and whether there is one in a valid list. -/
def nbL (X : Nat → SheetD) (n : Nat) (id : Int) : List Int := if sheetsB X n = true ∧ 0 ≤ findI (fun i => (X i).Id == id) n then selI (nbP X (findI (fun i => (X i).Id == id) n).toNat) (fun i => (X i).Id) n else []
def nbOk (X : Nat → SheetD) (n : Nat) (id : Int) : Bool := sheetsB X n && decide (0 ≤ findI (fun i => (X i).Id == id) n)

theorem nb_miss {X : Nat → SheetD} {n : Nat} {id : Int} (h : sheetsB X n = false ∨ findI (fun i => (X i).Id == id) n = -1) : nbL X n id = [] ∧ nbOk X n id = false := by
  rcases h with h | h <;> simp [nbL, nbOk, h]
theorem nb_hit {X : Nat → SheetD} {n j : Nat} {id : Int} (h : sheetsB X n = true) (hj : findI (fun i => (X i).Id == id) n = (j : Int)) : nbL X n id = selI (nbP X j) (fun i => (X i).Id) n ∧ nbOk X n id = true := by
  simp [nbL, nbOk, h, hj]

theorem ownI_empty (w : World) : OwnI w.heap.size (w.alloc (.cells #[] 3)) (.slice (some ⟨w.heap.size, 0, none⟩) 0 0) [] :=
  World.ownsRow_made w #[] 0 (Nat.le_refl _) (by simp [maxLen]) rfl

end Go.Proofs.Ytigiihhfmdgdlaa
