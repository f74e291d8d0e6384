/-
  The law on CutZone: the program's parts are the reference's, in memory of the call's own. No condition.
-/
import Derived.Test.YtcnjafpfkdaoeaaCut2
import Derived.Deep.RegionHeld3
import Derived.Deep.DrawnRows
namespace Go.Proofs.Ytcnjafpfkdaoeaa
open Go.RowKit
set_option linter.unusedVariables false
set_option maxRecDepth 100000
attribute [local go_sem ↓] Go.wp_at_zero Go.wp_at_succ

theorem undrewB {W w1 : World} (hb : Below W.drew.heap.size W.drew w1) : Below W.heap.size W w1 := ((Below.refl W.heap.size W).drew).trans hb

set_option maxHeartbeats 4000000 in
theorem walk_ExactCutZone (w : World) (s0 s1 : ZoneD) (ok0 : s0.ok) (ok1 : s1.ok) : Calls Try.prog 6 #[s0.val, s1.val] w fun e w' => e = .returned (.bool true) ∧ Below w.heap.size w w' := by
  clear ok0 ok1
  have hl16 := cutL_le s0 s1
  obtain ⟨LL, hLL⟩ : ∃ LL, LL = cutL s0 s1 := ⟨_, rfl⟩
  rw [← hLL] at hl16
  have HLL := hid hLL
  clear hLL
  have D0 : Below w.heap.size w ((w.alloc (.cells #[.int .i64 s0.Id, .int .i64 s0.West, .int .i64 s0.South, .int .i64 s0.East, .int .i64 s0.North] 40)).alloc (.cells #[.int .i64 s1.Id, .int .i64 s1.West, .int .i64 s1.South, .int .i64 s1.East, .int .i64 s1.North] 40)) := by go_grown
  go_enter Try.func6, Try.ntmps6
  have k0 : w.heap.size < w.heap.size + 1 + 1 := by omega
  go_wp2_with fail
  go_region_held3 (fun w' => w'.cell? ⟨w.heap.size, 0, none⟩ = some (.int .i64 s0.Id) ∧ w'.cell? ⟨w.heap.size, 1, none⟩ = some (.int .i64 s0.West) ∧ w'.cell? ⟨w.heap.size, 2, none⟩ = some (.int .i64 s0.South) ∧ w'.cell? ⟨w.heap.size, 3, none⟩ = some (.int .i64 s0.East) ∧ w'.cell? ⟨w.heap.size, 4, none⟩ = some (.int .i64 s0.North) ∧ w'.cell? ⟨w.heap.size + 1, 0, none⟩ = some (.int .i64 s1.Id) ∧ w'.cell? ⟨w.heap.size + 1, 1, none⟩ = some (.int .i64 s1.West) ∧ w'.cell? ⟨w.heap.size + 1, 2, none⟩ = some (.int .i64 s1.South) ∧ w'.cell? ⟨w.heap.size + 1, 3, none⟩ = some (.int .i64 s1.East) ∧ w'.cell? ⟨w.heap.size + 1, 4, none⟩ = some (.int .i64 s1.North)) (go_keep) (first
    | (go_at_call 21; first | ((with_reducible refine (toZone_any s0 _).mono ?_); rintro e w1 ⟨rfl, hb1⟩; (try replace hb1 := undrewB hb1); obtain ⟨hc1, hf1⟩ := bcell hb1; have hz1 : w.heap.size + 1 < w1.heap.size := (by have := hb1.size; (try simp at this); omega); have hy1 : w.heap.size < w1.heap.size := (by omega)) | ((with_reducible refine (toZone_any s1 _).mono ?_); rintro e w2 ⟨rfl, hb2⟩; (try replace hb2 := undrewB hb2); obtain ⟨hc2, hf2⟩ := bcell hb2; have hz2 : w.heap.size + 1 < w2.heap.size := (by have := hb2.size; (try simp at this); omega); have hy2 : w.heap.size < w2.heap.size := (by omega)))
    | (go_at_call 20; (with_reducible refine (cut_spec s0 s1 _).mono ?_); rintro e w3 ⟨v, rfl, ov0, hb3⟩; (try replace hb3 := undrewB hb3); obtain ⟨hc3, hf3⟩ := bcell hb3; have hz3 : w.heap.size + 1 < w3.heap.size := (by have := hb3.size; (try simp at this); omega); have hy3 : w.heap.size < w3.heap.size := (by omega)))
  rename_i hS3
  have ov := hid ov0
  clear ov0
  have B1 : Below w.heap.size w w1 := Below.on D0 D0.size hb1
  have B2 := Below.on B1 B1.size hb2
  have B3 := Below.on B2 B2.size hb3
  rw [← HLL.out] at ov
  have HS3 := hid hS3
  clear hc1 hf1 hz1 hy1 hc2 hf2 hz2 hy2 hc3 hf3 hb1 hb2 D0 B1 B2 k0
  obtain ⟨r0, r1, r2, r3, r4, r5, r6, r7, r8, r9⟩ := hS3
  go_wp2_with fail
  go_region_held3 (fun w' => w'.cell? ⟨w.heap.size, 0, none⟩ = some (.int .i64 s0.Id) ∧ w'.cell? ⟨w.heap.size, 1, none⟩ = some (.int .i64 s0.West) ∧ w'.cell? ⟨w.heap.size, 2, none⟩ = some (.int .i64 s0.South) ∧ w'.cell? ⟨w.heap.size, 3, none⟩ = some (.int .i64 s0.East) ∧ w'.cell? ⟨w.heap.size, 4, none⟩ = some (.int .i64 s0.North) ∧ w'.cell? ⟨w.heap.size + 1, 0, none⟩ = some (.int .i64 s1.Id) ∧ w'.cell? ⟨w.heap.size + 1, 1, none⟩ = some (.int .i64 s1.West) ∧ w'.cell? ⟨w.heap.size + 1, 2, none⟩ = some (.int .i64 s1.South) ∧ w'.cell? ⟨w.heap.size + 1, 3, none⟩ = some (.int .i64 s1.East) ∧ w'.cell? ⟨w.heap.size + 1, 4, none⟩ = some (.int .i64 s1.North)) (go_keep) (first
    | (go_at_call 21; first | ((with_reducible refine (toZone_any s0 _).mono ?_); rintro e w4 ⟨rfl, hb4⟩; (try replace hb4 := undrewB hb4); obtain ⟨hc4, hf4⟩ := bcell hb4; have hz4 : w.heap.size + 1 < w4.heap.size := (by have := hb4.size; (try simp at this); omega); have hy4 : w.heap.size < w4.heap.size := (by omega)) | ((with_reducible refine (toZone_any s1 _).mono ?_); rintro e w5 ⟨rfl, hb5⟩; (try replace hb5 := undrewB hb5); obtain ⟨hc5, hf5⟩ := bcell hb5; have hz5 : w.heap.size + 1 < w5.heap.size := (by have := hb5.size; (try simp at this); omega); have hy5 : w.heap.size < w5.heap.size := (by omega)))
    | (go_at_call 22; (with_reducible refine (cut_impl s0 s1 _).mono ?_); rintro e w6 ⟨g, rfl, og0, hb6⟩; (try replace hb6 := undrewB hb6); obtain ⟨hc6, hf6⟩ := bcell hb6; have hz6 : w.heap.size + 1 < w6.heap.size := (by have := hb6.size; (try simp at this); omega); have hy6 : w.heap.size < w6.heap.size := (by omega)))
  rename_i hS6
  have og := hid og0
  clear og0
  have z4 := hb4.size
  have z5 := hb5.size
  have z6 := hb6.size
  have D4 : Below w3.heap.size w3 w4 := hb4
  have D5 := Below.on D4 D4.size hb5
  have D6 := Below.on D5 D5.size hb6
  rw [← HLL.out] at og
  clear hc4 hf4 hz4 hy4 hc5 hf5 hz5 hy5 hc6 hf6 hz6 hy6 hS6 r0 r1 r2 r3 r4 r5 r6 r7 r8 r9
  have ov6 := hid (((ov.out.below hb4).below hb5).below hb6)
  go_wp2_with fail
  refine (eqIntA4S_own g v LL _ _ _ og.out ov6.out (by omega)).mono ?_
  rintro e w7 ⟨rfl, hb7⟩
  have z7 := hb7.size
  have D7 := Below.on D6 D6.size hb7
  have og7 := hid (og.out.below hb7)
  have ov7 := hid (ov6.out.below hb7)
  go_wp2_with fail
  refine (markIntA4S_own g LL _ 1 _ og7.out (by omega) (by omega) (by omega)).mono ?_
  rintro e w8 ⟨rfl, om0, gr8⟩
  have om := hid om0
  clear om0
  have z8 := gr8.size
  have D8 : Below w3.heap.size w3 w8 := D7.grown gr8 D7.size (fun k hk => by have := og.out.ge k hk; omega)
  have ov8 := hid (ov7.out.kept gr8 (own_ne ov.out.lt (fun k hk => by have := og.out.ge k hk; omega)))
  go_wp2_with fail
  refine (heldIntA4S_own g LL.length _ 1 _ om.out (by omega) (by omega) (by omega)).mono ?_
  rintro e w9 ⟨rfl, rfl⟩
  obtain ⟨t0, t1, t2, t3, t4, t5, t6, t7, t8, t9⟩ := HS3.out
  have r0 := (D8.cell (p := ⟨w.heap.size, 0, none⟩) (by simp only; omega)).trans t0
  have r1 := (D8.cell (p := ⟨w.heap.size, 1, none⟩) (by simp only; omega)).trans t1
  have r2 := (D8.cell (p := ⟨w.heap.size, 2, none⟩) (by simp only; omega)).trans t2
  have r3 := (D8.cell (p := ⟨w.heap.size, 3, none⟩) (by simp only; omega)).trans t3
  have r4 := (D8.cell (p := ⟨w.heap.size, 4, none⟩) (by simp only; omega)).trans t4
  have r5 := (D8.cell (p := ⟨w.heap.size + 1, 0, none⟩) (by simp only; omega)).trans t5
  have r6 := (D8.cell (p := ⟨w.heap.size + 1, 1, none⟩) (by simp only; omega)).trans t6
  have r7 := (D8.cell (p := ⟨w.heap.size + 1, 2, none⟩) (by simp only; omega)).trans t7
  have r8 := (D8.cell (p := ⟨w.heap.size + 1, 3, none⟩) (by simp only; omega)).trans t8
  have r9 := (D8.cell (p := ⟨w.heap.size + 1, 4, none⟩) (by simp only; omega)).trans t9
  have hy8 : w.heap.size < w8.heap.size := by omega
  have hz8 : w.heap.size + 1 < w8.heap.size := by omega
  clear t0 t1 t2 t3 t4 t5 t6 t7 t8 t9 hb4 hb5 hb6 hb7 gr8 D4 D5 D6 D7
  go_wp2_with fail
  go_region_held3 (fun w' => w'.cell? ⟨w.heap.size, 0, none⟩ = some (.int .i64 s0.Id) ∧ w'.cell? ⟨w.heap.size, 1, none⟩ = some (.int .i64 s0.West) ∧ w'.cell? ⟨w.heap.size, 2, none⟩ = some (.int .i64 s0.South) ∧ w'.cell? ⟨w.heap.size, 3, none⟩ = some (.int .i64 s0.East) ∧ w'.cell? ⟨w.heap.size, 4, none⟩ = some (.int .i64 s0.North) ∧ w'.cell? ⟨w.heap.size + 1, 0, none⟩ = some (.int .i64 s1.Id) ∧ w'.cell? ⟨w.heap.size + 1, 1, none⟩ = some (.int .i64 s1.West) ∧ w'.cell? ⟨w.heap.size + 1, 2, none⟩ = some (.int .i64 s1.South) ∧ w'.cell? ⟨w.heap.size + 1, 3, none⟩ = some (.int .i64 s1.East) ∧ w'.cell? ⟨w.heap.size + 1, 4, none⟩ = some (.int .i64 s1.North)) (go_keep) (first
    | (go_at_call 21; first | ((with_reducible refine (toZone_any s0 _).mono ?_); rintro e w10 ⟨rfl, hb10⟩; (try replace hb10 := undrewB hb10); obtain ⟨hc10, hf10⟩ := bcell hb10; have hz10 : w.heap.size + 1 < w10.heap.size := (by have := hb10.size; (try simp at this); omega); have hy10 : w.heap.size < w10.heap.size := (by omega)) | ((with_reducible refine (toZone_any s1 _).mono ?_); rintro e w11 ⟨rfl, hb11⟩; (try replace hb11 := undrewB hb11); obtain ⟨hc11, hf11⟩ := bcell hb11; have hz11 : w.heap.size + 1 < w11.heap.size := (by have := hb11.size; (try simp at this); omega); have hy11 : w.heap.size < w11.heap.size := (by omega)))
    | (go_at_call 22; (with_reducible refine (cut_impl s0 s1 _).mono ?_); rintro e w12 ⟨u, rfl, ou0, hb12⟩; (try replace hb12 := undrewB hb12); obtain ⟨hc12, hf12⟩ := bcell hb12; have hz12 : w.heap.size + 1 < w12.heap.size := (by have := hb12.size; (try simp at this); omega); have hy12 : w.heap.size < w12.heap.size := (by omega)))
  rename_i hS12
  have ou := hid ou0
  clear ou0
  have z10 := hb10.size
  have z11 := hb11.size
  have z12 := hb12.size
  have E10 : Below w8.heap.size w8 w10 := hb10
  have E11 := Below.on E10 E10.size hb11
  have E12 := Below.on E11 E11.size hb12
  rw [← HLL.out] at ou
  clear hc10 hf10 hz10 hy10 hc11 hf11 hz11 hy11 hc12 hf12 hz12 hy12 hS12 r0 r1 r2 r3 r4 r5 r6 r7 r8 r9
  have ov12 := hid (((ov8.out.below hb10).below hb11).below hb12)
  have om12 := hid (((om.out.below hb10).below hb11).below hb12)
  go_wp2_with fail
  refine (eqIntA4S_own u v LL _ _ _ ou.out ov12.out (by omega)).mono ?_
  rintro e w13 ⟨rfl, hb13⟩
  have E13 := Below.on E12 E12.size hb13
  go_wp2_with fail
  refine (heldIntA4S_own g LL.length _ 1 _ (om12.out.below hb13) (by omega) (by omega) (by omega)).mono ?_
  rintro e w14 ⟨rfl, rfl⟩
  go_wp2_with fail
  go_ret
  exact ⟨rfl, Below.on (Below.on B3 B3.size D8) (by omega) E13⟩

end Go.Proofs.Ytcnjafpfkdaoeaa
