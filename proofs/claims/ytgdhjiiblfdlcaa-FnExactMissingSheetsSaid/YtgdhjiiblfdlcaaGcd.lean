/-
  Fractions in lowest terms; by the program and by the reference. No condition.
-/
import Derived.Test.YtgdhjiiblfdlcaaMem
import Derived.Test.YtgdhjiiblfdlcaaWalks1
namespace Go.Proofs.Ytgdhjiiblfdlcaa
open Go.RowKit
set_option linter.unusedVariables false
set_option maxRecDepth 100000

def imin (a b : Int) : Int := if b < a then b else a
def imax (a b : Int) : Int := if b > a then b else a
theorem run_min2 (ts : Array TypeId) (t : TypeId) (x y : Int) (w : World) : (Builtin.min_ ts t #[.int .i64 x, .int .i64 y]).run Try.prog w = .ok (.int .i64 (imin x y)) w := by rw [run_min_int2]; rfl
theorem run_max2 (ts : Array TypeId) (t : TypeId) (x y : Int) (w : World) : (Builtin.max_ ts t #[.int .i64 x, .int .i64 y]).run Try.prog w = .ok (.int .i64 (imax x y)) w := by rw [run_max_int2]; rfl
theorem imax_abs (n : Int) : imax n (-n) = (n.natAbs : Int) := by unfold imax; split <;> omega

theorem least_spec (a b : Int) (w : World) : Calls Try.prog 28 #[.int .i64 a, .int .i64 b] w fun e w' => e = .returned (.int .i64 (imin a b)) ∧ w = w' := by
  by_cases h : a < b
  · rw [show imin a b = a by unfold imin; split <;> omega]
    go_enter Try.func28, Try.ntmps28
    go_wp2
    go_ret
    exact ⟨rfl, rfl⟩
  · rw [show imin a b = b by unfold imin; split <;> omega]
    go_enter Try.func28, Try.ntmps28
    go_wp2
    go_ret
    exact ⟨rfl, rfl⟩

theorem most_spec (a b : Int) (w : World) : Calls Try.prog 29 #[.int .i64 a, .int .i64 b] w fun e w' => e = .returned (.int .i64 (imax a b)) ∧ w = w' := by
  by_cases h : a > b
  · rw [show imax a b = a by unfold imax; split <;> omega]
    go_enter Try.func29, Try.ntmps29
    go_wp2
    go_ret
    exact ⟨rfl, rfl⟩
  · rw [show imax a b = b by unfold imax; split <;> omega]
    go_enter Try.func29, Try.ntmps29
    go_wp2
    go_ret
    exact ⟨rfl, rfl⟩



end Go.Proofs.Ytgdhjiiblfdlcaa
