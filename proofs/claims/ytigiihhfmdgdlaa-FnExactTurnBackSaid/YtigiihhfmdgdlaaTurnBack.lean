/-
  What a chain leads to a place: TurnBack by the program and by the reference, and the law. No condition.
-/
import Derived.Test.YtigiihhfmdgdlaaTurn
namespace Go.Proofs.Ytigiihhfmdgdlaa
open Go.RowKit
set_option linter.unusedVariables false
set_option maxRecDepth 100000

set_option maxHeartbeats 4000000 in
theorem tb_spec (w : World) (b off len cap : Nat) (X : Nat → GridTurnD) (x y : Int) (h : Rw w b off 5 len (fun i => (X i).cells)) (hm : len ≤ 1048576) (hlc : len ≤ cap) :
    Calls Try.prog 21 #[.slice (some ⟨b, off, none⟩) len cap, .int .i64 x, .int .i64 y] w fun e w' => e = .returned (.tuple #[(tbS X len x y).val, .bool (tpOk X len x y)]) ∧ Below w.heap.size w w' := by
  have H := hid h
  have hb := h.1
  clear h
  have hA : Below w.heap.size w (w.alloc (.cells #[.int .i64 0, .int .i64 0, .int .i64 0] 33)) := by go_grown
  go_enter Try.func21, Try.ntmps21
  go_wp2_with fail
  refine (chain_spec _ b off len cap X (H.out.later' hA) hm hlc).mono ?_
  rintro e w1 ⟨rfl, hb1⟩
  have B1 : Below w.heap.size w w1 := Below.on hA hA.size hb1
  have GR : Hid (AtSpot w.heap.size ⟨0, 0, 0⟩ w1) := hid ((AtSpot.new ⟨0, 0, 0⟩ w).below hb1)
  clear hb1 hA
  by_cases hC : chainB X len = true
  · have HC := hid hC
    go_wp2_with fail
    refine (place_spec _ _ _).mono ?_
    rintro e wq ⟨rfl, rfl⟩
    by_cases hP : placeB x y = true
    · have HP := hid hP
      have HO := hid (tp_ok hC hP)
      have z1 := B1.size
      have lR1 := GR.out.lt
      go_wp2_with fail
      go_loopw [9] (fun i wr => ∃ k : Nat, k ≤ len ∧ i = .int .i64 ((len : Int) - 1 - k) ∧ Below w.heap.size w wr ∧ Hid (AtSpot w1.heap.size (retS X len x y k) wr) ∧ Hid (AtSpot w.heap.size ⟨0, 0, 0⟩ wr)) (fun i _ => (intOf i + 1).toNat)
      case atStart =>
        refine ⟨0, by omega, val_int (by omega), by go_grown, hid ?_, hid ?_⟩
        · exact AtSpot.new ⟨x, y, 1⟩ w1
        · exact GR.out.below (by go_grown)
      case round =>
        clear GR B1 hC hP
        obtain ⟨k, hk, rfl, hB, hF, hR⟩ := hrel
        obtain ⟨s, hs⟩ : ∃ s, retS X len x y k = s := ⟨_, rfl⟩
        have HE := hid hs
        rw [hs] at hF
        clear hs
        have l1 := hF.out.lt
        have c0 := hF.out.c0
        have c1 := hF.out.c1
        have c2 := hF.out.c2
        by_cases hlt : k < len
        · obtain ⟨j, hj⟩ : ∃ j : Nat, len - 1 - k = j := ⟨_, rfl⟩
          have hi : (len : Int) - 1 - (k : Int) = (j : Int) := by omega
          rw [hi]
          have HJ := hid hj
          have hjl : j < len := by omega
          have d0 : wr.cell? ⟨b, off + j * 5, none⟩ = some (.int .i64 (X j).Quarters) := (hB.cell hb).trans (H.out.2 j hjl 0 (by omega))
          have d1 : wr.cell? ⟨b, off + j * 5 + 1, none⟩ = some (.int .i64 (X j).Num) := (hB.cell hb).trans (H.out.2 j hjl 1 (by omega))
          have d2 : wr.cell? ⟨b, off + j * 5 + 2, none⟩ = some (.int .i64 (X j).Den) := (hB.cell hb).trans (H.out.2 j hjl 2 (by omega))
          have d3 : wr.cell? ⟨b, off + j * 5 + 3, none⟩ = some (.int .i64 (X j).East) := (hB.cell hb).trans (H.out.2 j hjl 3 (by omega))
          have d4 : wr.cell? ⟨b, off + j * 5 + 4, none⟩ = some (.int .i64 (X j).North) := (hB.cell hb).trans (H.out.2 j hjl 4 (by omega))
          have lb : b < wr.heap.size := by have := hB.size; omega
          have HT := hid (chainB_at HC.out hjl)
          have HS : Hid (SpSm s) := by have := b_sm (retS_in HC.out HP.out k hk); rw [HE.out] at this; exact this
          have e4 : (0 : Int) ≤ (j : Int) := by omega
          have e5 : (j : Int) < (len : Int) := by omega
          have n1 : IntKind.i64.wrap ((j : Int) - 1) = (j : Int) - 1 := IntWalk.i64_in _ (by omega)
          go_wp2_with fail
          go_still_tail 5, (by kernel_rfl)
          change wpList _ _ _ _ _ wr.drew
          have hA3 : Below wr.heap.size wr wr.drew := (Below.refl _ _).drew
          go_wp2_with fail
          refine (back_spec (X j) s HT.out HS.out _).mono ?_
          rintro e w2 ⟨rfl, hb2⟩
          have hb3 : Below wr.heap.size wr w2 := hA3.trans hb2
          have B2 : Below w.heap.size w w2 := Below.on hB hB.size hb3
          have F2 := hid (hF.out.below hb3)
          have R2 := hid (hR.out.below hb3)
          clear c0 c1 c2 d0 d1 d2 d3 d4 hF hR
          have l2 := F2.out.lt
          have c0 := F2.out.c0
          have c1 := F2.out.c1
          have c2 := F2.out.c2
          have z0 := F2.out.frozen (j := 0)
          have z1 := F2.out.frozen (j := 1)
          have z2 := F2.out.frozen (j := 2)
          go_wp2_with fail
          go_roundw
          case rel => exact ⟨k + 1, by omega, val_int (by omega), by go_grown, hid (by rw [show retS X len x y (k + 1) = backS (X j) s from (congrArg (backS (X (len - 1 - k))) HE.out).trans (by rw [HJ.out])]; exact F2.out.put (backS (X j) s)), hid (((R2.out.other w1.heap.size 0 _ (by omega)).other w1.heap.size 1 _ (by omega)).other w1.heap.size 2 _ (by omega))⟩
          case measure => first | (simp [intOf]; done) | (simp [intOf]; omega)
        · obtain rfl : k = len := by omega
          have GR := hR
          have ul := GR.out.lt
          have u0 := GR.out.c0
          have u1 := GR.out.c1
          have u2 := GR.out.c2
          have uz0 := GR.out.frozen (j := 0)
          have uz1 := GR.out.frozen (j := 1)
          have uz2 := GR.out.frozen (j := 2)
          go_wp2_with fail
          exact bodyPost_ret (v := .tuple #[(s).val, .bool true]) (by simp [results, Try.results21, go_sem, ul, u0, u1, u2]) rfl ⟨by rw [tbS_ok HO.out, HO.out, HE.out], by go_grown⟩
    · have hP' : placeB x y = false := by simpa using hP
      clear hP
      have HO := hid (tp_no (X := X) (n := len) (x := x) (y := y) (.inr hP'))
      have ul := GR.out.lt
      have u0 := GR.out.c0
      have u1 := GR.out.c1
      have u2 := GR.out.c2
      have uz0 := GR.out.frozen (j := 0)
      have uz1 := GR.out.frozen (j := 1)
      have uz2 := GR.out.frozen (j := 2)
      go_wp2_with fail
      exact bodyPost_ret (v := .tuple #[((⟨0, 0, 0⟩ : Sp)).val, .bool false]) (by simp [results, Try.results21, go_sem, ul, u0, u1, u2]) rfl ⟨by rw [tbS_no HO.out, HO.out], by go_grown⟩
  · have hC' : chainB X len = false := by simpa using hC
    clear hC
    have HO := hid (tp_no (X := X) (n := len) (x := x) (y := y) (.inl hC'))
    have ul := GR.out.lt
    have u0 := GR.out.c0
    have u1 := GR.out.c1
    have u2 := GR.out.c2
    have uz0 := GR.out.frozen (j := 0)
    have uz1 := GR.out.frozen (j := 1)
    have uz2 := GR.out.frozen (j := 2)
    go_wp2_with fail
    exact bodyPost_ret (v := .tuple #[((⟨0, 0, 0⟩ : Sp)).val, .bool false]) (by simp [results, Try.results21, go_sem, ul, u0, u1, u2]) rfl ⟨by rw [tbS_no HO.out, HO.out], by go_grown⟩

set_option maxHeartbeats 4000000 in
theorem tb_impl (w : World) (b off len cap : Nat) (X : Nat → GridTurnD) (x y : Int) (h : Rw w b off 5 len (fun i => (X i).cells)) (hm : len ≤ 1048576) (hlc : len ≤ cap) :
    Calls Try.prog 22 #[.slice (some ⟨b, off, none⟩) len cap, .int .i64 x, .int .i64 y] w fun e w' => e = .returned (.tuple #[(tbS X len x y).val, .bool (tpOk X len x y)]) ∧ Below w.heap.size w w' := by
  have H := hid h
  have hb := h.1
  clear h
  have hA : Below w.heap.size w (w.alloc (.cells #[.int .i64 0, .int .i64 0, .int .i64 0] 33)) := by go_grown
  go_enter Try.func22, Try.ntmps22
  go_wp2_with fail
  refine (chain_impl _ b off len cap X (H.out.later' hA) hm hlc).mono ?_
  rintro e w1 ⟨rfl, hb1⟩
  have B1 : Below w.heap.size w w1 := Below.on hA hA.size hb1
  have GR : Hid (AtSpot w.heap.size ⟨0, 0, 0⟩ w1) := hid ((AtSpot.new ⟨0, 0, 0⟩ w).below hb1)
  clear hb1 hA
  by_cases hC : chainB X len = true
  · have HC := hid hC
    go_wp2_with fail
    refine (place_impl _ _ _).mono ?_
    rintro e wq ⟨rfl, rfl⟩
    by_cases hP : placeB x y = true
    · have HP := hid hP
      have HO := hid (tp_ok hC hP)
      have z1 := B1.size
      have lR1 := GR.out.lt
      go_wp2_with fail
      go_loopw [9] (fun i wr => ∃ k : Nat, k ≤ len ∧ i = .int .i64 ((len : Int) - 1 - k) ∧ Below w.heap.size w wr ∧ Hid (AtSpot w1.heap.size (retS X len x y k) wr) ∧ Hid (AtSpot w.heap.size ⟨0, 0, 0⟩ wr)) (fun i _ => (intOf i + 1).toNat)
      case atStart =>
        refine ⟨0, by omega, val_int (by omega), by go_grown, hid ?_, hid ?_⟩
        · exact AtSpot.new ⟨x, y, 1⟩ w1
        · exact GR.out.below (by go_grown)
      case round =>
        clear GR B1 hC hP
        obtain ⟨k, hk, rfl, hB, hF, hR⟩ := hrel
        obtain ⟨s, hs⟩ : ∃ s, retS X len x y k = s := ⟨_, rfl⟩
        have HE := hid hs
        rw [hs] at hF
        clear hs
        have l1 := hF.out.lt
        have c0 := hF.out.c0
        have c1 := hF.out.c1
        have c2 := hF.out.c2
        by_cases hlt : k < len
        · obtain ⟨j, hj⟩ : ∃ j : Nat, len - 1 - k = j := ⟨_, rfl⟩
          have hi : (len : Int) - 1 - (k : Int) = (j : Int) := by omega
          rw [hi]
          have HJ := hid hj
          have hjl : j < len := by omega
          have d0 : wr.cell? ⟨b, off + j * 5, none⟩ = some (.int .i64 (X j).Quarters) := (hB.cell hb).trans (H.out.2 j hjl 0 (by omega))
          have d1 : wr.cell? ⟨b, off + j * 5 + 1, none⟩ = some (.int .i64 (X j).Num) := (hB.cell hb).trans (H.out.2 j hjl 1 (by omega))
          have d2 : wr.cell? ⟨b, off + j * 5 + 2, none⟩ = some (.int .i64 (X j).Den) := (hB.cell hb).trans (H.out.2 j hjl 2 (by omega))
          have d3 : wr.cell? ⟨b, off + j * 5 + 3, none⟩ = some (.int .i64 (X j).East) := (hB.cell hb).trans (H.out.2 j hjl 3 (by omega))
          have d4 : wr.cell? ⟨b, off + j * 5 + 4, none⟩ = some (.int .i64 (X j).North) := (hB.cell hb).trans (H.out.2 j hjl 4 (by omega))
          have lb : b < wr.heap.size := by have := hB.size; omega
          have HT := hid (chainB_at HC.out hjl)
          have HS : Hid (SpSm s) := by have := b_sm (retS_in HC.out HP.out k hk); rw [HE.out] at this; exact this
          have e4 : (0 : Int) ≤ (j : Int) := by omega
          have e5 : (j : Int) < (len : Int) := by omega
          have n1 : IntKind.i64.wrap ((j : Int) - 1) = (j : Int) - 1 := IntWalk.i64_in _ (by omega)
          go_wp2_with fail
          go_still_tail 5, (by kernel_rfl)
          change wpList _ _ _ _ _ wr.drew
          have hA3 : Below wr.heap.size wr wr.drew := (Below.refl _ _).drew
          go_wp2_with fail
          refine (back_impl (X j) s HT.out HS.out _).mono ?_
          rintro e w2 ⟨rfl, hb2⟩
          have hb3 : Below wr.heap.size wr w2 := hA3.trans hb2
          have B2 : Below w.heap.size w w2 := Below.on hB hB.size hb3
          have F2 := hid (hF.out.below hb3)
          have R2 := hid (hR.out.below hb3)
          clear c0 c1 c2 d0 d1 d2 d3 d4 hF hR
          have l2 := F2.out.lt
          have c0 := F2.out.c0
          have c1 := F2.out.c1
          have c2 := F2.out.c2
          have z0 := F2.out.frozen (j := 0)
          have z1 := F2.out.frozen (j := 1)
          have z2 := F2.out.frozen (j := 2)
          go_wp2_with fail
          go_roundw
          case rel => exact ⟨k + 1, by omega, val_int (by omega), by go_grown, hid (by rw [show retS X len x y (k + 1) = backS (X j) s from (congrArg (backS (X (len - 1 - k))) HE.out).trans (by rw [HJ.out])]; exact F2.out.put (backS (X j) s)), hid (((R2.out.other w1.heap.size 0 _ (by omega)).other w1.heap.size 1 _ (by omega)).other w1.heap.size 2 _ (by omega))⟩
          case measure => first | (simp [intOf]; done) | (simp [intOf]; omega)
        · obtain rfl : k = len := by omega
          have GR := hR
          have ul := GR.out.lt
          have u0 := GR.out.c0
          have u1 := GR.out.c1
          have u2 := GR.out.c2
          have uz0 := GR.out.frozen (j := 0)
          have uz1 := GR.out.frozen (j := 1)
          have uz2 := GR.out.frozen (j := 2)
          go_wp2_with fail
          exact bodyPost_ret (v := .tuple #[(s).val, .bool true]) (by simp [results, Try.results22, go_sem, ul, u0, u1, u2]) rfl ⟨by rw [tbS_ok HO.out, HO.out, HE.out], by go_grown⟩
    · have hP' : placeB x y = false := by simpa using hP
      clear hP
      have HO := hid (tp_no (X := X) (n := len) (x := x) (y := y) (.inr hP'))
      have ul := GR.out.lt
      have u0 := GR.out.c0
      have u1 := GR.out.c1
      have u2 := GR.out.c2
      have uz0 := GR.out.frozen (j := 0)
      have uz1 := GR.out.frozen (j := 1)
      have uz2 := GR.out.frozen (j := 2)
      go_wp2_with fail
      exact bodyPost_ret (v := .tuple #[((⟨0, 0, 0⟩ : Sp)).val, .bool false]) (by simp [results, Try.results22, go_sem, ul, u0, u1, u2]) rfl ⟨by rw [tbS_no HO.out, HO.out], by go_grown⟩
  · have hC' : chainB X len = false := by simpa using hC
    clear hC
    have HO := hid (tp_no (X := X) (n := len) (x := x) (y := y) (.inl hC'))
    have ul := GR.out.lt
    have u0 := GR.out.c0
    have u1 := GR.out.c1
    have u2 := GR.out.c2
    have uz0 := GR.out.frozen (j := 0)
    have uz1 := GR.out.frozen (j := 1)
    have uz2 := GR.out.frozen (j := 2)
    go_wp2_with fail
    exact bodyPost_ret (v := .tuple #[((⟨0, 0, 0⟩ : Sp)).val, .bool false]) (by simp [results, Try.results22, go_sem, ul, u0, u1, u2]) rfl ⟨by rw [tbS_no HO.out, HO.out], by go_grown⟩

set_option maxRecDepth 100000 in
set_option maxHeartbeats 4000000 in
theorem walk_ExactTurnBack (w : World) (p0 : Option Addr) (len0 cap0 : Nat) (X0 : Nat → GridTurnD) (a1 : Int) (a2 : Int) (h0 : Sl w 5 p0 len0 (fun i => (X0 i).cells)) (ok0 : ∀ i, i < len0 → (X0 i).ok) (hm0 : len0 ≤ maxLen) (i1 : isI a1) (i2 : isI a2) :
    Calls Try.prog 6 #[.slice p0 len0 cap0, .int .i64 a1, .int .i64 a2] w fun e w' => e = .returned (.bool true) ∧ Below w.heap.size w w' := by
  clear ok0
  by_cases hL : (len0 : Int) ≤ 1048576
  · obtain ⟨S, hS⟩ : ∃ S, tbS X0 len0 a1 a2 = S := ⟨_, rfl⟩
    have HS := hid hS
    clear hS
    go_enter Try.func6, Try.ntmps6
    go_wp2_with fail
    refine (szGridTurnS_any p0 len0 cap0 _ hm0).mono ?_
    rintro e w0 ⟨rfl, rfl⟩
    rw [if_pos hL]
    go_wp2_with fail
    refine (toGridTurnS_any p0 len0 cap0 X0 _ (h0.below (Below.refl w.heap.size w)) (by omega)).mono ?_
    rintro e w1 ⟨rfl, hb1, hs1, F1⟩
    have B1 : Below w.heap.size w w1 := Below.on (Below.refl w.heap.size w) (Below.refl w.heap.size w).size hb1
    go_wp2_with fail
    refine (tb_spec _ _ 0 len0 len0 X0 a1 a2 F1.rw (by omega) (Nat.le_refl _)).mono ?_
    rintro e w2 ⟨rfl, hb2⟩
    rw [HS.out]
    have B2 : Below w.heap.size w w2 := Below.on B1 B1.size hb2
    have B3 : Below w.heap.size w (w2.alloc (.cells #[.int .i64 S.X, .int .i64 S.Y, .int .i64 S.Den] 33)) := B2.alloc B2.size _
    have A3 := hid (AtSpot.new S w2)
    go_wp2_with fail
    refine (toGridTurnS_any p0 len0 cap0 X0 _ (h0.below B3) (by omega)).mono ?_
    rintro e w4 ⟨rfl, hb4, hs4, F4⟩
    simp only [World.size_alloc] at F4 hs4
    have B4 : Below w.heap.size w w4 := Below.on B3 B3.size hb4
    have A4 := hid (A3.out.below hb4)
    clear A3
    go_wp2_with fail
    refine (tb_impl _ _ 0 len0 len0 X0 a1 a2 F4.rw (by omega) (Nat.le_refl _)).mono ?_
    rintro e w5 ⟨rfl, hb5⟩
    rw [HS.out]
    have B5 : Below w.heap.size w w5 := Below.on B4 B4.size hb5
    have B6 : Below w.heap.size w (w5.alloc (.cells #[.int .i64 S.X, .int .i64 S.Y, .int .i64 S.Den] 33)) := B5.alloc B5.size _
    have hb6 : Below w5.heap.size w5 (w5.alloc (.cells #[.int .i64 S.X, .int .i64 S.Y, .int .i64 S.Den] 33)) := by go_grown
    have A5 := hid (A4.out.below hb5)
    clear A4
    have l5 := A5.out.lt
    have c0 := A5.out.c0
    have c1 := A5.out.c1
    have c2 := A5.out.c2
    go_wp2_with fail
    refine (eqSpot_same S _).mono ?_
    rintro e w7 ⟨rfl, hb7⟩
    have B7 : Below w.heap.size w w7 := Below.on B6 B6.size hb7
    go_wp2_with fail
    refine (toGridTurnS_any p0 len0 cap0 X0 _ (h0.below B7) (by omega)).mono ?_
    rintro e w8 ⟨rfl, hb8, hs8, F8⟩
    have B8 : Below w.heap.size w w8 := Below.on B7 B7.size hb8
    go_wp2_with fail
    refine (eqGridTurnS_same _ _ 0 0 len0 len0 len0 X0 _ ((((F4.rw.later' hb5).later' hb6).later' hb7).later' hb8) F8.rw (by omega) (Nat.le_refl _) (Nat.le_refl _)).mono ?_
    rintro e w9 ⟨rfl, hb9⟩
    have B9 : Below w.heap.size w w9 := Below.on B8 B8.size hb9
    go_wp2_with fail
    go_ret
    exact ⟨rfl, B9⟩
  · go_enter Try.func6, Try.ntmps6
    go_wp2_with fail
    refine (szGridTurnS_any p0 len0 cap0 _ hm0).mono ?_
    rintro e w0 ⟨rfl, rfl⟩
    rw [if_neg (by omega)]
    go_wp2_with fail
    go_ret
    exact ⟨rfl, Below.refl _ _⟩

end Go.Proofs.Ytigiihhfmdgdlaa
