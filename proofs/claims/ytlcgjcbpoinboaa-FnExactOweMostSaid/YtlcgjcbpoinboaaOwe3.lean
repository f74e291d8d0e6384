/-
  The library's stable sort over up to ten readers. No condition.
-/
import Derived.Test.YtlcgjcbpoinboaaOwe2
namespace Go.Proofs.Ytlcgjcbpoinboaa
open Go.RowKit
set_option linter.unusedVariables false
set_option maxRecDepth 100000

set_option maxHeartbeats 2000000 in
theorem stable_any (w : World) (B g n cap : Nat) (L : List ReaderD) (h : OwnReader B w (.slice (some ⟨g, 0, none⟩) n cap) L) (hn : L.length = n) (h10 : n ≤ 10) (hB0 : B ≤ w.heap.size) :
    Calls Try.prog 91 #[.slice (some ⟨g, 0, none⟩) n cap, .int .i64 (n : Int), .func (.func 80) #[] #[]] w fun e w' => e = .returned (.tuple #[]) ∧ OwnReader B w' (.slice (some ⟨g, 0, none⟩) n cap) (isL L n) ∧ w.grownBy w' (some g) := by
  have HO := hid h
  clear h
  have d0 : decide ((20 : Int) ≤ (n : Int)) = false := by simp; omega
  have d1 : decide ((20 : Int) < (n : Int)) = false := by simp; omega
  have m0 : ¬ (20 : Int) ≤ (n : Int) := by omega
  have m1 : ¬ (20 : Int) < (n : Int) := by omega
  go_enter Try.func91, Try.ntmps91
  go_wp2_with fail
  refine wp_loop_rounds 1 ?_
  rw [rounds_succ]
  go_wp2_with fail
  refine (isort_any _ B g n cap L HO.out hn h10 hB0).mono ?_
  rintro e w1 ⟨rfl, hO1, hg1⟩
  have HO1 := hid hO1
  have HG1 := hid hg1
  clear hO1 hg1
  go_wp2_with fail
  refine wp_loop_rounds 1 ?_
  rw [rounds_succ]
  go_wp2_with fail
  go_end0
  exact ⟨rfl, HO1.out, HG1.out⟩

theorem sorted_any (w : World) (B g n cap : Nat) (L : List ReaderD) (h : OwnReader B w (.slice (some ⟨g, 0, none⟩) n cap) L) (hn : L.length = n) (h10 : n ≤ 10) (hB0 : B ≤ w.heap.size) :
    Calls Try.prog 79 #[.slice (some ⟨g, 0, none⟩) n cap, .func (.func 80) #[] #[]] w fun e w' => e = .returned (.tuple #[]) ∧ OwnReader B w' (.slice (some ⟨g, 0, none⟩) n cap) (isL L n) ∧ w.grownBy w' (some g) := by
  have HO := hid h
  clear h
  go_enter Try.func79, Try.ntmps79
  go_wp2_with fail
  refine (stable_any _ B g n cap L HO.out hn h10 hB0).mono ?_
  rintro e w1 ⟨rfl, hO1, hg1⟩
  have HO1 := hid hO1
  have HG1 := hid hg1
  clear hO1 hg1
  go_wp2_with fail
  go_end0
  exact ⟨rfl, HO1.out, HG1.out⟩

theorem isort_nil (w : World) : Calls Try.prog 94 #[.slice none 0 0, .int .i64 0, .int .i64 0, .func (.func 80) #[] #[]] w fun e w' => e = .returned (.tuple #[]) ∧ w = w' := by
  go_enter Try.func94, Try.ntmps94
  go_wp2_with fail
  refine wp_loop_rounds 1 ?_
  rw [rounds_succ]
  go_wp2_with fail
  go_end0
  exact ⟨rfl, rfl⟩

theorem stable_nil (w : World) : Calls Try.prog 91 #[.slice none 0 0, .int .i64 0, .func (.func 80) #[] #[]] w fun e w' => e = .returned (.tuple #[]) ∧ w = w' := by
  go_enter Try.func91, Try.ntmps91
  go_wp2_with fail
  refine wp_loop_rounds 1 ?_
  rw [rounds_succ]
  go_wp2_with fail
  refine (isort_nil _).mono ?_
  rintro e w1 ⟨rfl, rfl⟩
  go_wp2_with fail
  refine wp_loop_rounds 1 ?_
  rw [rounds_succ]
  go_wp2_with fail
  go_end0
  exact ⟨rfl, rfl⟩

theorem sorted_nil (w : World) : Calls Try.prog 79 #[.slice none 0 0, .func (.func 80) #[] #[]] w fun e w' => e = .returned (.tuple #[]) ∧ w = w' := by
  go_enter Try.func79, Try.ntmps79
  go_wp2_with fail
  refine (stable_nil _).mono ?_
  rintro e w1 ⟨rfl, rfl⟩
  go_wp2_with fail
  go_end0
  exact ⟨rfl, rfl⟩

end Go.Proofs.Ytlcgjcbpoinboaa
