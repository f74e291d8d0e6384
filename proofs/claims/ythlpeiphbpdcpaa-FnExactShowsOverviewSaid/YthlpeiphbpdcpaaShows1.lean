/-
  The sheets that show where a sheet begins, by the program. No condition.
-/
import Derived.Test.YthlpeiphbpdcpaaShows
namespace Go.Proofs.Ythlpeiphbpdcpaa
open Go.RowKit
set_option linter.unusedVariables false
set_option maxRecDepth 100000

set_option maxHeartbeats 8000000 in
theorem shows_1 (s : SheetD) (b1 b2 b3 b4 b off len cap j : Nat) (R C : Int) (X : Nat → SheetD) (w : World) (h1 : w.cell? ⟨b1, 0, none⟩ = some (.slice (some ⟨b, off, none⟩) len cap)) (h2 : w.cell? ⟨b2, 0, none⟩ = some (.int .i64 (j : Int))) (h3 : w.cell? ⟨b3, 0, none⟩ = some (.int .i64 R)) (h4 : w.cell? ⟨b4, 0, none⟩ = some (.int .i64 C)) (l1 : b1 < w.heap.size) (l2 : b2 < w.heap.size) (l3 : b3 < w.heap.size) (l4 : b4 < w.heap.size)
    (hR : Rw w b off 5 len (fun i => (X i).cells)) (hj : j < len) (hm : len ≤ 1048576) (vs : sheetB s = true) (r0 : 0 ≤ R) (r1 : R ≤ 49500) (s0 : 0 ≤ C) (s1 : C ≤ 49500) :
    Calls Try.prog 42 #[s.val, .pointer (some ⟨b1, 0, none⟩), .pointer (some ⟨b2, 0, none⟩), .pointer (some ⟨b3, 0, none⟩), .pointer (some ⟨b4, 0, none⟩)] w fun e w' => e = .returned (.bool (showB R C (X j).Scale s)) ∧ Below w.heap.size w w' := by
  have d3 : w.cell? ⟨b, off + j * 5 + 3, none⟩ = some (.int .i64 (X j).Scale) := hR.2 j hj 3 (by omega)
  have lb := hR.1
  have lb' : b < w.heap.size + 1 := by omega
  have l1' : b1 < w.heap.size + 1 := by omega
  have l2' : b2 < w.heap.size + 1 := by omega
  have l3' : b3 < w.heap.size + 1 := by omega
  have l4' : b4 < w.heap.size + 1 := by omega
  have e4 : (0 : Int) ≤ (j : Int) := by omega
  have e5 : (j : Int) < (len : Int) := by omega
  obtain ⟨⟨r2, r3⟩, ⟨s2, s3⟩, t2, t3⟩ := sheet_prod vs
  simp only [rowS, colS] at r2 r3 s2 s3
  have m1 : IntKind.i64.wrap (s.Row * s.Scale) = s.Row * s.Scale := IntWalk.i64_in _ (by omega)
  have m2 : IntKind.i64.wrap (R - s.Row * s.Scale) = R - s.Row * s.Scale := IntWalk.i64_in _ (by omega)
  have m3 : IntKind.i64.wrap (s.Scale - 1) = s.Scale - 1 := IntWalk.i64_in _ (by omega)
  have m4 : IntKind.i64.wrap (s.Col * s.Scale) = s.Col * s.Scale := IntWalk.i64_in _ (by omega)
  have m5 : IntKind.i64.wrap (C - s.Col * s.Scale) = C - s.Col * s.Scale := IntWalk.i64_in _ (by omega)
  clear hR vs
  by_cases g1 : (X j).Scale < s.Scale
  · have g1' : decide ((X j).Scale < s.Scale) = true := by simpa using g1
    by_cases g2 : inB (R - s.Row * s.Scale) 0 (s.Scale - 1) = true
    · have hp : Hid (showB R C (X j).Scale s = inB (C - s.Col * s.Scale) 0 (s.Scale - 1)) := by unfold Hid showB; rw [g1', g2]; rfl
      go_enter Try.func42, Try.ntmps42
      go_wp2_with fail
      have hq := fun x : Later (w.alloc (.cells #[.int .i64 s.Id, .int .i64 s.Row, .int .i64 s.Col, .int .i64 s.Scale, .int .i64 s.Year] 26)) => x.cell
      refine region_later (by kernel_rfl) (by kernel_rfl) ?_
      repeat (go_big_quiet_step ((go_at_call 30; refine calls_later_same (in_impl _ _ _ _))))
      refine wpQuiet_nil ?_
      intro _ hw'
      obtain ⟨x, rfl⟩ := hw'
      clear hq
      go_wp2_with fail
      go_ret
      exact ⟨ret_bool hp.out.symm, Below.on (by go_grown) (by simp) x.below⟩
    · have g2' : inB (R - s.Row * s.Scale) 0 (s.Scale - 1) = false := by simpa using g2
      have hp : Hid (showB R C (X j).Scale s = false) := by unfold Hid showB; rw [g1', g2']; rfl
      clear g2
      go_enter Try.func42, Try.ntmps42
      go_wp2_with fail
      have hq := fun x : Later (w.alloc (.cells #[.int .i64 s.Id, .int .i64 s.Row, .int .i64 s.Col, .int .i64 s.Scale, .int .i64 s.Year] 26)) => x.cell
      refine region_later (by kernel_rfl) (by kernel_rfl) ?_
      repeat (go_big_quiet_step ((go_at_call 30; refine calls_later_same (in_impl _ _ _ _))))
      refine wpQuiet_nil ?_
      intro _ hw'
      obtain ⟨x, rfl⟩ := hw'
      clear hq
      go_wp2_with fail
      go_ret
      exact ⟨ret_bool hp.out.symm, Below.on (by go_grown) (by simp) x.below⟩
  · have g1' : decide ((X j).Scale < s.Scale) = false := by simpa using g1
    have hp : Hid (showB R C (X j).Scale s = false) := by unfold Hid showB; rw [g1']; rfl
    clear g1
    go_enter Try.func42, Try.ntmps42
    go_wp2_with fail
    have hq := fun x : Later (w.alloc (.cells #[.int .i64 s.Id, .int .i64 s.Row, .int .i64 s.Col, .int .i64 s.Scale, .int .i64 s.Year] 26)) => x.cell
    refine region_later (by kernel_rfl) (by kernel_rfl) ?_
    repeat (go_big_quiet_step ((go_at_call 30; refine calls_later_same (in_impl _ _ _ _))))
    refine wpQuiet_nil ?_
    intro _ hw'
    obtain ⟨x, rfl⟩ := hw'
    clear hq
    go_wp2_with fail
    go_ret
    exact ⟨ret_bool hp.out.symm, Below.on (by go_grown) (by simp) x.below⟩

end Go.Proofs.Ythlpeiphbpdcpaa
