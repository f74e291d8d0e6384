/-
  The whole part of a square root, by halving and bit by bit; the distance of two places. No condition.
-/
import Derived.Test.YthjjamjhagfolaaWalks2
namespace Go.Proofs.Ythjjamjhagfolaa
open Go.RowKit
set_option linter.unusedVariables false

/-! ### Plain numbers -/
def isRoot (n r : Int) : Prop := 0 ≤ r ∧ r * r ≤ n ∧ n < (r + 1) * (r + 1)

theorem sq_le {a b : Int} (h0 : 0 ≤ a) (h : a ≤ b) : a * a ≤ b * b := Int.mul_le_mul h h h0 (by omega)

theorem isRoot_unique {n a b : Int} (h1 : isRoot n a) (h2 : isRoot n b) : a = b := by
  obtain ⟨a0, a1, a2⟩ := h1
  obtain ⟨b0, b1, b2⟩ := h2
  rcases Int.lt_trichotomy a b with h | h | h
  · have := sq_le (a := a + 1) (b := b) (by omega) (by omega); omega
  · exact h
  · have := sq_le (a := b + 1) (b := a) (by omega) (by omega); omega

/-- The call returns the root of n. -/
def RootOf (n : Int) (e : Ending) : Prop := ∃ r, isRoot n r ∧ e = .returned (.int .i64 r)

def U (j : Nat) : Int := (2 : Int) ^ j
theorem U_zero : U 0 = 1 := rfl
theorem U_succ (j : Nat) : U (j + 1) = 2 * U j := by unfold U; rw [Int.pow_succ]; omega
theorem U_pos (j : Nat) : 1 ≤ U j := by
  induction j with
  | zero => exact Int.le_refl _
  | succ j ih => rw [U_succ]; omega
theorem U_le {j m : Nat} (h : j ≤ m) : U j ≤ U m := by
  induction m with
  | zero => rw [show j = 0 by omega]; exact Int.le_refl _
  | succ m ih =>
    by_cases hj : j = m + 1
    · rw [hj]; exact Int.le_refl _
    · have := ih (by omega); have := U_pos m; rw [U_succ]; omega
theorem U_half (j : Nat) : U (j + 1) / 2 = U j := by rw [U_succ]; omega

set_option maxHeartbeats 400000 in
theorem root_spec (n : Int) (h0 : 0 ≤ n) (h1 : n ≤ 20000000000) (w : World) :
    Calls Try.prog 35 #[.int .i64 n] w fun e w' => RootOf n e ∧ w = w' := by
  go_enter Try.func35, Try.ntmps35
  go_wp2
  go_loop [3, 4] (fun a b => ∃ lo hi : Int, 0 ≤ lo ∧ lo ≤ hi ∧ hi ≤ 200000 ∧ a = .int .i64 lo ∧ b = .int .i64 hi ∧ Hid (lo * lo ≤ n ∧ n < (hi + 1) * (hi + 1))) (fun a b => (intOf b - intOf a).toNat)
  case atStart => exact ⟨0, 200000, by omega, by omega, by omega, rfl, rfl, ⟨by omega, by omega⟩⟩
  case round =>
    obtain ⟨lo, hi, hlo, hle, hhi, rfl, rfl, hr⟩ := hrel
    by_cases hlt : lo < hi
    · have p1 := sq_le (a := (lo + hi + 1) / 2) (b := 200000) (by omega) (by omega)
      have p0 : 0 ≤ (lo + hi + 1) / 2 * ((lo + hi + 1) / 2) := Int.mul_nonneg (by omega) (by omega)
      by_cases hm : (lo + hi + 1) / 2 * ((lo + hi + 1) / 2) ≤ n
      · go_wp2
        go_round
        case rel => exact ⟨_, _, by omega, by omega, by omega, rfl, rfl, ⟨hm, hr.out.2⟩⟩
        case measure => simp [intOf]; omega
      · go_wp2
        go_round
        case rel => exact ⟨_, _, by omega, by omega, by omega, rfl, rfl, ⟨hr.out.1, by rw [show (lo + hi + 1) / 2 - 1 + 1 = (lo + hi + 1) / 2 by omega]; omega⟩⟩
        case measure => simp [intOf]; omega
    · go_wp2
      go_ret
      exact ⟨⟨lo, ⟨hlo, hr.out.1, by rw [show lo = hi by omega]; exact hr.out.2⟩, rfl⟩, rfl⟩

set_option maxHeartbeats 400000 in
theorem root_impl (n : Int) (h0 : 0 ≤ n) (h1 : n ≤ 20000000000) (w : World) :
    Calls Try.prog 37 #[.int .i64 n] w fun e w' => RootOf n e ∧ w = w' := by
  go_enter Try.func37, Try.ntmps37
  go_wp2
  go_loop [3, 4] (fun a b => ∃ (j : Nat) (r : Int), j ≤ 31 ∧ 0 ≤ r ∧ r + U j ≤ 2147483648 ∧ a = .int .i64 r ∧ b = .int .i64 (U j / 2) ∧ Hid (r * r ≤ n ∧ n < (r + U j) * (r + U j))) (fun a b => (intOf b).toNat)
  case atStart => exact ⟨31, 0, by omega, by omega, by decide, rfl, rfl, ⟨by omega, by show n < (0 + 2147483648) * (0 + 2147483648); omega⟩⟩
  case round =>
    obtain ⟨j, r, hj, hr0, hrU, rfl, rfl, hr⟩ := hrel
    cases j with
    | zero =>
      rw [U_zero]
      go_wp2
      go_ret
      exact ⟨⟨r, ⟨hr0, hr.out.1, hr.out.2⟩, rfl⟩, rfl⟩
    | succ j =>
      rw [U_half]
      have hU := U_pos j
      have hU2 : r + 2 * U j ≤ 2147483648 := by rw [← U_succ]; exact hrU
      have e : Hid (U (j + 1) = 2 * U j) := U_succ j
      have hUb : U j ≤ 1073741824 := U_le (m := 30) (by omega)
      clear hrU
      generalize hb : U j = b at *
      have HB := hid hb
      clear hb
      have p1 := sq_le (a := r + b) (b := 2147483648) (by omega) (by omega)
      have p0 : 0 ≤ (r + b) * (r + b) := Int.mul_nonneg (by omega) (by omega)
      by_cases hm : (r + b) * (r + b) ≤ n
      · go_wp2
        go_round
        case rel => exact ⟨j, _, by omega, by omega, by rw [HB.out]; omega, rfl, by rw [HB.out], ⟨hm, by rw [HB.out]; have := hr.out.2; rw [e.out] at this; rw [show r + b + b = r + 2 * b by omega]; exact this⟩⟩
        case measure => simp [intOf]; omega
      · go_wp2
        go_round
        case rel => exact ⟨j, _, by omega, by omega, by rw [HB.out]; omega, rfl, by rw [HB.out], ⟨hr.out.1, by rw [HB.out]; omega⟩⟩
        case measure => simp [intOf]; omega

end Go.Proofs.Ythjjamjhagfolaa
