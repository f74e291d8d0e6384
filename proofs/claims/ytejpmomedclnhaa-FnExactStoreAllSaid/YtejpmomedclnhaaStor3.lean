/-
  The library's stable sort over up to twenty flats. No condition.
-/
import Derived.Test.YtejpmomedclnhaaStor2
namespace Go.Proofs.Ytejpmomedclnhaa
open Go.RowKit
set_option linter.unusedVariables false
set_option maxRecDepth 100000

theorem isort_end (w : World) (v : Value) (n : Nat) (hn : n ≤ 20) : Calls Try.prog 116 #[v, .int .i64 (n : Int), .int .i64 (n : Int), .func (.func 87) #[] #[]] w fun e w' => e = .returned (.tuple #[]) ∧ w = w' := by
  have d0 : decide ((n : Int) + 1 < (n : Int)) = false := by simp; omega
  go_enter Try.func116, Try.ntmps116
  go_wp2_with fail
  refine wp_loop_rounds 1 ?_
  rw [rounds_succ]
  go_wp2_with fail
  go_end0
  exact ⟨rfl, rfl⟩

set_option maxHeartbeats 2000000 in
theorem stable_any (w : World) (B g n cap : Nat) (L : List FlatD) (h : OwnFlat B w (.slice (some ⟨g, 0, none⟩) n cap) L) (hn : L.length = n) (h10 : n ≤ 20) (hB0 : B ≤ w.heap.size) :
    Calls Try.prog 109 #[.slice (some ⟨g, 0, none⟩) n cap, .int .i64 (n : Int), .func (.func 87) #[] #[]] w fun e w' => e = .returned (.tuple #[]) ∧ OwnFlat B w' (.slice (some ⟨g, 0, none⟩) n cap) (isL L n) ∧ w.grownBy w' (some g) := by
  have HO := hid h
  clear h
  by_cases h20 : n < 20
  · have d0 : decide ((20 : Int) ≤ (n : Int)) = false := by simp; omega
    have d1 : decide ((20 : Int) < (n : Int)) = false := by simp; omega
    have m0 : ¬ (20 : Int) ≤ (n : Int) := by omega
    have m1 : ¬ (20 : Int) < (n : Int) := by omega
    go_enter Try.func109, Try.ntmps109
    go_wp2_with fail
    refine wp_loop_rounds 1 ?_
    rw [rounds_succ]
    go_wp2_with fail
    refine (isort_any _ B g n cap L HO.out hn h10 hB0).mono ?_
    rintro e w1 ⟨rfl, hO1, hg1⟩
    have HO1 := hid hO1
    have HG1 := hid hg1
    clear hO1 hg1
    go_wp2_with fail
    refine wp_loop_rounds 1 ?_
    rw [rounds_succ]
    go_wp2_with fail
    go_end0
    exact ⟨rfl, HO1.out, HG1.out⟩
  · obtain rfl : n = 20 := by omega
    have d0 : decide ((20 : Int) ≤ ((20 : Nat) : Int)) = true := by decide
    have d1 : decide ((20 : Int) < ((20 : Nat) : Int)) = false := by decide
    go_enter Try.func109, Try.ntmps109
    go_wp2_with fail
    refine wp_loop_rounds 2 ?_
    rw [rounds_succ]
    go_wp2_with fail
    refine (isort_any _ B g 20 cap L HO.out hn h10 hB0).mono ?_
    rintro e w1 ⟨rfl, hO1, hg1⟩
    have HO1 := hid hO1
    have HG1 := hid hg1
    clear hO1 hg1
    go_wp2_with fail
    rw [rounds_succ]
    go_wp2_with fail
    refine (isort_end _ (.slice (some ⟨g, 0, none⟩) 20 cap) 20 (by omega)).mono ?_
    rintro e w2 ⟨rfl, rfl⟩
    go_wp2_with fail
    refine wp_loop_rounds 1 ?_
    rw [rounds_succ]
    go_wp2_with fail
    go_end0
    exact ⟨rfl, HO1.out, HG1.out⟩

theorem sorted_any (w : World) (B g n cap : Nat) (L : List FlatD) (h : OwnFlat B w (.slice (some ⟨g, 0, none⟩) n cap) L) (hn : L.length = n) (h10 : n ≤ 20) (hB0 : B ≤ w.heap.size) :
    Calls Try.prog 86 #[.slice (some ⟨g, 0, none⟩) n cap, .func (.func 87) #[] #[]] w fun e w' => e = .returned (.tuple #[]) ∧ OwnFlat B w' (.slice (some ⟨g, 0, none⟩) n cap) (isL L n) ∧ w.grownBy w' (some g) := by
  have HO := hid h
  clear h
  go_enter Try.func86, Try.ntmps86
  go_wp2_with fail
  refine (stable_any _ B g n cap L HO.out hn h10 hB0).mono ?_
  rintro e w1 ⟨rfl, hO1, hg1⟩
  have HO1 := hid hO1
  have HG1 := hid hg1
  clear hO1 hg1
  go_wp2_with fail
  go_end0
  exact ⟨rfl, HO1.out, HG1.out⟩

theorem isort_nil (w : World) : Calls Try.prog 116 #[.slice none 0 0, .int .i64 0, .int .i64 0, .func (.func 87) #[] #[]] w fun e w' => e = .returned (.tuple #[]) ∧ w = w' := by
  go_enter Try.func116, Try.ntmps116
  go_wp2_with fail
  refine wp_loop_rounds 1 ?_
  rw [rounds_succ]
  go_wp2_with fail
  go_end0
  exact ⟨rfl, rfl⟩

theorem stable_nil (w : World) : Calls Try.prog 109 #[.slice none 0 0, .int .i64 0, .func (.func 87) #[] #[]] w fun e w' => e = .returned (.tuple #[]) ∧ w = w' := by
  go_enter Try.func109, Try.ntmps109
  go_wp2_with fail
  refine wp_loop_rounds 1 ?_
  rw [rounds_succ]
  go_wp2_with fail
  refine (isort_nil _).mono ?_
  rintro e w1 ⟨rfl, rfl⟩
  go_wp2_with fail
  refine wp_loop_rounds 1 ?_
  rw [rounds_succ]
  go_wp2_with fail
  go_end0
  exact ⟨rfl, rfl⟩

theorem sorted_nil (w : World) : Calls Try.prog 86 #[.slice none 0 0, .func (.func 87) #[] #[]] w fun e w' => e = .returned (.tuple #[]) ∧ w = w' := by
  go_enter Try.func86, Try.ntmps86
  go_wp2_with fail
  refine (stable_nil _).mono ?_
  rintro e w1 ⟨rfl, rfl⟩
  go_wp2_with fail
  go_end0
  exact ⟨rfl, rfl⟩

end Go.Proofs.Ytejpmomedclnhaa
