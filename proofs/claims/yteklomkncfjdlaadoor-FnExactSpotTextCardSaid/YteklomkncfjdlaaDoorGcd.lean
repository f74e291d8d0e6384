/-
  Fractions in lowest terms; by the program and by the reference. No condition.
-/
import Derived.Test.YteklomkncfjdlaaDoorMem
import Derived.Test.YteklomkncfjdlaaDoorWalks1
namespace Go.Proofs.YteklomkncfjdlaaDoor
open Go.RowKit
set_option linter.unusedVariables false
set_option maxRecDepth 100000

def imin (a b : Int) : Int := if b < a then b else a
def imax (a b : Int) : Int := if b > a then b else a
theorem run_min2 (ts : Array TypeId) (t : TypeId) (x y : Int) (w : World) : (Builtin.min_ ts t #[.int .i64 x, .int .i64 y]).run Tryd.prog w = .ok (.int .i64 (imin x y)) w := by rw [run_min_int2]; rfl
theorem run_max2 (ts : Array TypeId) (t : TypeId) (x y : Int) (w : World) : (Builtin.max_ ts t #[.int .i64 x, .int .i64 y]).run Tryd.prog w = .ok (.int .i64 (imax x y)) w := by rw [run_max_int2]; rfl
theorem imax_abs (n : Int) : imax n (-n) = (n.natAbs : Int) := by unfold imax; split <;> omega


theorem most_spec (a b : Int) (w : World) : Calls Tryd.prog 79 #[.int .i64 a, .int .i64 b] w fun e w' => e = .returned (.int .i64 (imax a b)) ∧ w = w' := by
  by_cases h : a > b
  · rw [show imax a b = a by unfold imax; split <;> omega]
    go_enter Tryd.func79, Tryd.ntmps79
    go_wp2
    go_ret
    exact ⟨rfl, rfl⟩
  · rw [show imax a b = b by unfold imax; split <;> omega]
    go_enter Tryd.func79, Tryd.ntmps79
    go_wp2
    go_ret
    exact ⟨rfl, rfl⟩


theorem absN_any (n : Int) (h0 : -4611686018427387904 ≤ n) (h1 : n ≤ 4611686018427387904) (w : World) : Calls Tryd.prog 81 #[.int .i64 n] w fun e w' => e = .returned (.int .i64 (n.natAbs : Int)) ∧ w = w' := by
  have hm := run_max2
  have e0 : IntKind.i64.wrap (-n) = -n := IntWalk.i64_in _ (by omega)
  have e1 := imax_abs n
  go_enter Tryd.func81, Tryd.ntmps81
  go_wp2_with fail
  go_ret
  exact ⟨ret_int (by omega), rfl⟩

/-- The greatest common divisor, as a number. -/
def gcdI (a b : Nat) : Int := (Nat.gcd a b : Nat)
theorem tmod_nat (a b : Nat) : Int.tmod (a : Int) (b : Int) = ((a % b : Nat) : Int) := by rfl
theorem tdiv_nat (a b : Nat) : Int.tdiv (a : Int) (b : Int) = ((a / b : Nat) : Int) := by rfl

theorem gcd_step (x y : Nat) : Nat.gcd x y = Nat.gcd y (x % y) := by rw [Nat.gcd_comm x y, Nat.gcd_rec y x, Nat.gcd_comm]

theorem gcd_impl (a b : Nat) (ha : a ≤ 4611686018427387904) (hb : b ≤ 4611686018427387904) (w : World) : Calls Tryd.prog 80 #[.int .i64 (a : Int), .int .i64 (b : Int)] w fun e w' => e = .returned (.int .i64 (gcdI a b)) ∧ Below w.heap.size w w' := by
  go_enter Tryd.func80, Tryd.ntmps80
  go_wp2
  go_loopw [0, 1] (fun p q wr => ∃ x y : Nat, x ≤ 4611686018427387904 ∧ y ≤ 4611686018427387904 ∧ p = .int .i64 x ∧ q = .int .i64 y ∧ Below w.heap.size w wr ∧ Hid (Nat.gcd x y = Nat.gcd a b)) (fun _ q _ => (intOf q).toNat)
  case atStart => exact ⟨a, b, ha, hb, rfl, rfl, Below.refl _ _, rfl⟩
  case round =>
    obtain ⟨x, y, hx, hy, rfl, rfl, hB, hg⟩ := hrel
    by_cases hz : (y : Int) = 0
    · obtain rfl : y = 0 := by omega
      go_wp2_with fail
      go_ret
      refine ⟨ret_int ?_, hB⟩
      have := hg.out
      simp at this
      simp [gcdI, ← this]
    · have hyp : 0 < y := by omega
      have hm := Nat.mod_lt x hyp
      have e1 : (x : Int) % (y : Int) = ((x % y : Nat) : Int) := by simp
      have e2 : IntKind.i64.wrap ((x % y : Nat) : Int) = ((x % y : Nat) : Int) := IntWalk.i64_in _ (by omega)
      go_wp2_with fail
      refine region_later (by kernel_rfl) (by kernel_rfl) ?_
      repeat (go_big_quiet_step (fail))
      refine wpQuiet_nil ?_
      intro _ hw'
      obtain ⟨x', rfl⟩ := hw'
      have hB1 : Below w.heap.size w x'.wd := Below.on hB hB.size x'.below
      go_wp2_with fail
      go_roundw
      case rel => exact ⟨y, x % y, hy, by omega, rfl, by rw [e1], hB1, by rw [← hg.out]; exact (gcd_step x y).symm⟩
      case measure => simp [intOf]; omega

theorem gcd_pos (a b : Nat) (h : 0 < b) : 0 < Nat.gcd a b := Nat.gcd_pos_of_pos_right a h
/-- A numerator and a denominator in lowest terms. -/
def redN (n : Int) (d : Nat) : Int := Int.tdiv n (gcdI n.natAbs d)
def redD (n : Int) (d : Nat) : Int := (d : Int) / gcdI n.natAbs d
theorem redN_bd (n : Int) (d : Nat) : -(n.natAbs : Int) ≤ redN n d ∧ redN n d ≤ n.natAbs := by
  have h1 : (Int.tdiv n (gcdI n.natAbs d)).natAbs = n.natAbs / (gcdI n.natAbs d).natAbs := Int.natAbs_tdiv ..
  have h2 := Nat.div_le_self n.natAbs (gcdI n.natAbs d).natAbs
  unfold redN; omega
theorem redD_nat (n : Int) (d : Nat) : redD n d = ((d / Nat.gcd n.natAbs d : Nat) : Int) := by simp [redD, gcdI]
theorem redD_bd (n : Int) (d : Nat) (hd : 0 < d) : 1 ≤ redD n d ∧ redD n d ≤ d := by
  rw [redD_nat]
  have h1 := Nat.div_le_self d (Nat.gcd n.natAbs d)
  have h2 := Nat.div_pos (Nat.le_of_dvd hd (Nat.gcd_dvd_right n.natAbs d)) (gcd_pos n.natAbs d hd)
  omega


end Go.Proofs.YteklomkncfjdlaaDoor
