/-
  Where a chain leads a place, by the program and by the reference. No condition.
-/
import Derived.Test.YtigiihhfmdgdlaaChain
import Derived.StillTailTactics
namespace Go.Proofs.Ytigiihhfmdgdlaa
open Go.RowKit
set_option linter.unusedVariables false
set_option maxRecDepth 100000

set_option maxHeartbeats 4000000 in
theorem go_impl (w : World) (b off len cap : Nat) (X : Nat → GridTurnD) (x y : Int) (h : Rw w b off 5 len (fun i => (X i).cells)) (hm : len ≤ 1048576) (hlc : len ≤ cap) (hc : chainB X len = true) (hP : placeB x y = true) :
    Calls Try.prog 49 #[.slice (some ⟨b, off, none⟩) len cap, .int .i64 x, .int .i64 y] w fun e w' => e = .returned (goS X x y len).val ∧ Below w.heap.size w w' := by
  have H := hid h
  have hb := h.1
  have HC := hid hc
  have HP := hid hP
  clear h hc hP
  go_enter Try.func49, Try.ntmps49
  go_wp2_with fail
  go_loopw [15] (fun i wr => ∃ k : Nat, k ≤ len ∧ i = .int .i64 k ∧ Below w.heap.size w wr ∧ Hid (AtSpot (w.heap.size + 1) (goS X x y k) wr) ∧ Hid (AtSpot w.heap.size ⟨0, 0, 0⟩ wr)) (fun i _ => len - (intOf i).toNat)
  case atStart =>
    refine ⟨0, by omega, rfl, by go_grown, hid ?_, hid ?_⟩
    · show AtSpot (w.heap.size + 1) ⟨x, y, 1⟩ _
      have := AtSpot.new ⟨x, y, 1⟩ (w.alloc (.cells #[.int .i64 0, .int .i64 0, .int .i64 0] 33))
      simpa only [World.size_alloc] using this
    · exact (AtSpot.new ⟨0, 0, 0⟩ w).below (by go_grown)
  case round =>
    obtain ⟨k, hk, rfl, hB, hF, hR⟩ := hrel
    obtain ⟨s, hs⟩ : ∃ s, goS X x y k = s := ⟨_, rfl⟩
    have HE := hid hs
    rw [hs] at hF
    clear hs
    have l1 := hF.out.lt
    have c0 := hF.out.c0
    have c1 := hF.out.c1
    have c2 := hF.out.c2
    by_cases hlt : k < len
    · have d0 : wr.cell? ⟨b, off + k * 5, none⟩ = some (.int .i64 (X k).Quarters) := (hB.cell hb).trans (H.out.2 k hlt 0 (by omega))
      have d1 : wr.cell? ⟨b, off + k * 5 + 1, none⟩ = some (.int .i64 (X k).Num) := (hB.cell hb).trans (H.out.2 k hlt 1 (by omega))
      have d2 : wr.cell? ⟨b, off + k * 5 + 2, none⟩ = some (.int .i64 (X k).Den) := (hB.cell hb).trans (H.out.2 k hlt 2 (by omega))
      have d3 : wr.cell? ⟨b, off + k * 5 + 3, none⟩ = some (.int .i64 (X k).East) := (hB.cell hb).trans (H.out.2 k hlt 3 (by omega))
      have d4 : wr.cell? ⟨b, off + k * 5 + 4, none⟩ = some (.int .i64 (X k).North) := (hB.cell hb).trans (H.out.2 k hlt 4 (by omega))
      have lb : b < wr.heap.size := by have := hB.size; omega
      have HT := hid (chainB_at HC.out hlt)
      have HS : Hid (SpSm s) := by have := b_sm (goS_in HC.out HP.out k hk); rw [HE.out] at this; exact this
      have e4 : (0 : Int) ≤ (k : Int) := by omega
      have e5 : (k : Int) < (len : Int) := by omega
      have hA2 : Below w.heap.size w (wr.alloc (.cells #[.int .i64 (X k).Quarters, .int .i64 (X k).Num, .int .i64 (X k).Den, .int .i64 (X k).East, .int .i64 (X k).North] 36)) := hB.alloc hB.size _
      have hA3 : Below wr.heap.size wr (wr.alloc (.cells #[.int .i64 (X k).Quarters, .int .i64 (X k).Num, .int .i64 (X k).Den, .int .i64 (X k).East, .int .i64 (X k).North] 36)) := by go_grown
      go_wp2_with fail
      refine (led_impl (X k) s HT.out HS.out _).mono ?_
      rintro e w2 ⟨rfl, hb2⟩
      have B2 : Below w.heap.size w w2 := Below.on hA2 hA2.size hb2
      have F2 := hid ((hF.out.below hA3).below hb2)
      have R2 := hid ((hR.out.below hA3).below hb2)
      clear c0 c1 c2 d0 d1 d2 d3 d4 hF hR
      have l2 := F2.out.lt
      have c0 := F2.out.c0
      have c1 := F2.out.c1
      have c2 := F2.out.c2
      have z0 := F2.out.frozen (j := 0)
      have z1 := F2.out.frozen (j := 1)
      have z2 := F2.out.frozen (j := 2)
      go_wp2_with fail
      go_roundw
      case rel => exact ⟨k + 1, by omega, by go_num, by go_grown, hid (by rw [show goS X x y (k + 1) = ledS (X k) s from congrArg (ledS (X k)) HE.out]; exact F2.out.put (ledS (X k) s)), hid (((R2.out.other (w.heap.size + 1) 0 _ (by omega)).other (w.heap.size + 1) 1 _ (by omega)).other (w.heap.size + 1) 2 _ (by omega))⟩
      case measure => simp [intOf]; omega
    · obtain rfl : k = len := by omega
      have ul := hR.out.lt
      have u0 := hR.out.c0
      have u1 := hR.out.c1
      have u2 := hR.out.c2
      have uz0 := hR.out.frozen (j := 0)
      have uz1 := hR.out.frozen (j := 1)
      have uz2 := hR.out.frozen (j := 2)
      go_wp2_with fail
      exact bodyPost_ret (v := s.val) (by simp [results, Try.results49, go_sem, ul, u0, u1, u2]) rfl ⟨by rw [HE.out], by go_grown⟩

set_option maxHeartbeats 4000000 in
theorem go_spec (w : World) (b off len cap : Nat) (X : Nat → GridTurnD) (x y : Int) (h : Rw w b off 5 len (fun i => (X i).cells)) (hm : len ≤ 1048576) (hlc : len ≤ cap) (hc : chainB X len = true) (hP : placeB x y = true) :
    Calls Try.prog 47 #[.slice (some ⟨b, off, none⟩) len cap, .int .i64 x, .int .i64 y] w fun e w' => e = .returned (goS X x y len).val ∧ Below w.heap.size w w' := by
  have H := hid h
  have hb := h.1
  have HC := hid hc
  have HP := hid hP
  clear h hc hP
  go_enter Try.func47, Try.ntmps47
  go_wp2_with fail
  go_loopw [8] (fun i wr => ∃ k : Nat, k ≤ len ∧ i = .int .i64 k ∧ Below w.heap.size w wr ∧ Hid (AtSpot (w.heap.size + 1) (goS X x y k) wr) ∧ Hid (AtSpot w.heap.size ⟨0, 0, 0⟩ wr)) (fun i _ => len - (intOf i).toNat)
  case atStart =>
    refine ⟨0, by omega, rfl, by go_grown, hid ?_, hid ?_⟩
    · show AtSpot (w.heap.size + 1) ⟨x, y, 1⟩ _
      have := AtSpot.new ⟨x, y, 1⟩ (w.alloc (.cells #[.int .i64 0, .int .i64 0, .int .i64 0] 33))
      simpa only [World.size_alloc] using this
    · exact (AtSpot.new ⟨0, 0, 0⟩ w).below (by go_grown)
  case round =>
    obtain ⟨k, hk, rfl, hB, hF, hR⟩ := hrel
    obtain ⟨s, hs⟩ : ∃ s, goS X x y k = s := ⟨_, rfl⟩
    have HE := hid hs
    rw [hs] at hF
    clear hs
    have l1 := hF.out.lt
    have c0 := hF.out.c0
    have c1 := hF.out.c1
    have c2 := hF.out.c2
    by_cases hlt : k < len
    · have d0 : wr.cell? ⟨b, off + k * 5, none⟩ = some (.int .i64 (X k).Quarters) := (hB.cell hb).trans (H.out.2 k hlt 0 (by omega))
      have d1 : wr.cell? ⟨b, off + k * 5 + 1, none⟩ = some (.int .i64 (X k).Num) := (hB.cell hb).trans (H.out.2 k hlt 1 (by omega))
      have d2 : wr.cell? ⟨b, off + k * 5 + 2, none⟩ = some (.int .i64 (X k).Den) := (hB.cell hb).trans (H.out.2 k hlt 2 (by omega))
      have d3 : wr.cell? ⟨b, off + k * 5 + 3, none⟩ = some (.int .i64 (X k).East) := (hB.cell hb).trans (H.out.2 k hlt 3 (by omega))
      have d4 : wr.cell? ⟨b, off + k * 5 + 4, none⟩ = some (.int .i64 (X k).North) := (hB.cell hb).trans (H.out.2 k hlt 4 (by omega))
      have lb : b < wr.heap.size := by have := hB.size; omega
      have HT := hid (chainB_at HC.out hlt)
      have HS : Hid (SpSm s) := by have := b_sm (goS_in HC.out HP.out k hk); rw [HE.out] at this; exact this
      have e4 : (0 : Int) ≤ (k : Int) := by omega
      have e5 : (k : Int) < (len : Int) := by omega
      go_wp2_with fail
      go_still_tail 5, (by kernel_rfl)
      change wpList _ _ _ _ _ wr.drew
      have hA3 : Below wr.heap.size wr wr.drew := (Below.refl _ _).drew
      go_wp2_with fail
      refine (led_spec (X k) s HT.out HS.out _).mono ?_
      rintro e w2 ⟨rfl, hb2⟩
      have hb3 : Below wr.heap.size wr w2 := hA3.trans hb2
      have B2 : Below w.heap.size w w2 := Below.on hB hB.size hb3
      have F2 := hid (hF.out.below hb3)
      have R2 := hid (hR.out.below hb3)
      clear c0 c1 c2 d0 d1 d2 d3 d4 hF hR
      have l2 := F2.out.lt
      have c0 := F2.out.c0
      have c1 := F2.out.c1
      have c2 := F2.out.c2
      have z0 := F2.out.frozen (j := 0)
      have z1 := F2.out.frozen (j := 1)
      have z2 := F2.out.frozen (j := 2)
      go_wp2_with fail
      go_roundw
      case rel => exact ⟨k + 1, by omega, by go_num, by go_grown, hid (by rw [show goS X x y (k + 1) = ledS (X k) s from congrArg (ledS (X k)) HE.out]; exact F2.out.put (ledS (X k) s)), hid (((R2.out.other (w.heap.size + 1) 0 _ (by omega)).other (w.heap.size + 1) 1 _ (by omega)).other (w.heap.size + 1) 2 _ (by omega))⟩
      case measure => simp [intOf]; omega
    · obtain rfl : k = len := by omega
      have ul := hR.out.lt
      have u0 := hR.out.c0
      have u1 := hR.out.c1
      have u2 := hR.out.c2
      have uz0 := hR.out.frozen (j := 0)
      have uz1 := hR.out.frozen (j := 1)
      have uz2 := hR.out.frozen (j := 2)
      go_wp2_with fail
      exact bodyPost_ret (v := s.val) (by simp [results, Try.results47, go_sem, ul, u0, u1, u2]) rfl ⟨by rw [HE.out], by go_grown⟩

end Go.Proofs.Ytigiihhfmdgdlaa
