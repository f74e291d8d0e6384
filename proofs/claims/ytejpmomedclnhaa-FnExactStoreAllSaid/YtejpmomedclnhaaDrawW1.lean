/-
  The walks of AreDrawers, GramsIn, DrawerOf. No condition.
-/
import Derived.Test.YtejpmomedclnhaaDrawW
namespace Go.Proofs.Ytejpmomedclnhaa
open Go.RowKit
set_option linter.unusedVariables false

set_option maxRecDepth 100000 in
set_option maxHeartbeats 4000000 in
theorem walk_ExactAreDrawers (w : World) (p0 : Option Addr) (len0 cap0 : Nat) (X0 : Nat → FlatD) (p1 : Option Addr) (len1 cap1 : Nat) (X1 : Nat → DrawerL) (h0 : Sl w 4 p0 len0 (fun i => (X0 i).cells)) (ok0 : ∀ i, i < len0 → (X0 i).ok) (hm0 : len0 ≤ maxLen) (h1 : Sl w 5 p1 len1 (fun i => (X1 i).cells)) (ok1 : ∀ i, i < len1 → (X1 i).ok w) (hm1 : len1 ≤ maxLen) :
    Calls Try.prog 4 #[.slice p0 len0 cap0, .slice p1 len1 cap1] w fun e w' => e = .returned (.bool true) ∧ Below w.heap.size w w' := by
  clear ok0
  by_cases hL0 : (len0 : Int) ≤ 1048576
  rotate_left
  · go_enter Try.func4, Try.ntmps4
    go_wp2_with fail
    refine (szFlatS_any p0 len0 cap0 _ hm0).mono ?_
    rintro e w0 ⟨rfl, rfl⟩
    rw [if_neg (by omega)]
    go_wp2_with fail
    go_ret
    exact ⟨rfl, Below.refl _ _⟩
  have HOK := hid ok1
  clear ok1
  obtain ⟨r0, hr0⟩ : ∃ r, goodB X0 len0 (fun i => (X1 i).d) len1 = r := ⟨_, rfl⟩
  have HR0 := hid hr0
  clear hr0
  go_enter Try.func4, Try.ntmps4
  go_wp2_with fail
  refine (szFlatS_any p0 len0 cap0 _ hm0).mono ?_
  rintro e w0 ⟨rfl, rfl⟩
  rw [if_pos hL0]
  go_wp2_with fail
  refine (szDrawerS_any p1 len1 cap1 X1 w (1048576 - (len0 : Int)) h1 (fun i hi => (HOK.out i hi).2) hm1 (by omega) (by omega)).mono ?_
  rintro e w0 ⟨r, rfl, hb0, hr⟩
  have z0 := hb0.size
  by_cases hr0 : r < 0
  · go_wp2_with fail
    go_ret
    exact ⟨rfl, hb0⟩
  have hsum := hr (by omega)
  have hN : Hid (∀ i, i < len1 → (X1 i).n ≤ 1048576) := fun i hi => by have := sumN_le (X := X1) hi; omega
  have hLL : Hid (∀ i, i < len1 → (X1 i).d.Flats.length ≤ 1048576) := fun i hi => by rw [DrawerL.d_len]; exact hN.out i hi
  clear hr
  go_wp2_with fail
  refine (toFlatS_any p0 len0 cap0 X0 _ (h0.below hb0) (by omega)).mono ?_
  rintro e w1 ⟨rfl, hb1, hs1, F1⟩
  have z1 := hb1.size
  have B1 : Below w.heap.size w w1 := Below.on hb0 hb0.size hb1
  go_wp2_with fail
  refine (toDrawerS_any p1 len1 cap1 X1 _ (h1.below B1) (fun i hi => (HOK.out i hi).below B1) hN.out (by omega)).mono ?_
  rintro e w2 ⟨rfl, hb2, hs2, FD2⟩
  obtain ⟨S2, D2⟩ := FD2.drs
  have z2 := hb2.size
  have B2 : Below w.heap.size w w2 := Below.on B1 B1.size hb2
  go_wp2_with fail
  refine (areDrawers_spec _ 0 len0 len0 _ 0 len1 len1 X0 (fun i => (X1 i).d) S2 _ (F1.rw.later' hb2) (by omega) (Nat.le_refl _) D2 hLL.out (by omega) (Nat.le_refl _)).mono ?_
  rw [HR0.out]
  rintro e w3 ⟨rfl, hb3⟩
  have z3 := hb3.size
  have B3 : Below w.heap.size w w3 := Below.on B2 B2.size hb3
  go_wp2_with fail
  refine (toFlatS_any p0 len0 cap0 X0 _ (h0.below B3) (by omega)).mono ?_
  rintro e w4 ⟨rfl, hb4, hs4, F4⟩
  have z4 := hb4.size
  have B4 : Below w.heap.size w w4 := Below.on B3 B3.size hb4
  go_wp2_with fail
  refine (toDrawerS_any p1 len1 cap1 X1 _ (h1.below B4) (fun i hi => (HOK.out i hi).below B4) hN.out (by omega)).mono ?_
  rintro e w5 ⟨rfl, hb5, hs5, FD5⟩
  obtain ⟨S5, D5⟩ := FD5.drs
  have z5 := hb5.size
  have B5 : Below w.heap.size w w5 := Below.on B4 B4.size hb5
  go_wp2_with fail
  refine (good_impl _ 0 len0 len0 _ 0 len1 len1 X0 (fun i => (X1 i).d) S5 _ (F4.rw.later' hb5) (by omega) (Nat.le_refl _) D5 hLL.out (by omega) (Nat.le_refl _)).mono ?_
  rw [HR0.out]
  rintro e w6 ⟨rfl, hb6⟩
  have z6 := hb6.size
  have B6 : Below w.heap.size w w6 := Below.on B5 B5.size hb6
  go_wp2_with fail
  refine (toFlatS_any p0 len0 cap0 X0 _ (h0.below B6) (by omega)).mono ?_
  rintro e w7 ⟨rfl, hb7, hs7, F7⟩
  have z7 := hb7.size
  have B7 : Below w.heap.size w w7 := Below.on B6 B6.size hb7
  go_wp2_with fail
  refine (eqFlatS_same _ _ 0 0 len0 len0 len0 X0 _ (((F4.rw.later' hb5).later' hb6).later' hb7) F7.rw (by omega) (Nat.le_refl _) (Nat.le_refl _)).mono ?_
  rintro e w8 ⟨rfl, hb8⟩
  have z8 := hb8.size
  have B8 : Below w.heap.size w w8 := Below.on B7 B7.size hb8
  go_wp2_with fail
  refine (toDrawerS_any p1 len1 cap1 X1 _ (h1.below B8) (fun i hi => (HOK.out i hi).below B8) hN.out (by omega)).mono ?_
  rintro e w9 ⟨rfl, hb9, hs9, FD9⟩
  obtain ⟨S9, D9⟩ := FD9.drs
  have z9 := hb9.size
  have B9 : Below w.heap.size w w9 := Below.on B8 B8.size hb9
  go_wp2_with fail
  refine (eqDrawerS_same _ _ 0 0 len1 len1 len1 (fun i => (X1 i).d) S5 S9 _ ((((D5.below hb6).below hb7).below hb8).below hb9) D9 hLL.out (by omega) (Nat.le_refl _) (Nat.le_refl _)).mono ?_
  rintro e w10 ⟨rfl, hb10⟩
  have z10 := hb10.size
  have B10 : Below w.heap.size w w10 := Below.on B9 B9.size hb10
  go_wp2_with fail
  go_ret
  exact ⟨rfl, B10⟩

set_option maxRecDepth 100000 in
set_option maxHeartbeats 4000000 in
theorem walk_ExactGramsIn (w : World) (p0 : Option Addr) (len0 cap0 : Nat) (X0 : Nat → FlatD) (p1 : Option Addr) (len1 cap1 : Nat) (X1 : Nat → DrawerL) (a2 : Int) (h0 : Sl w 4 p0 len0 (fun i => (X0 i).cells)) (ok0 : ∀ i, i < len0 → (X0 i).ok) (hm0 : len0 ≤ maxLen) (h1 : Sl w 5 p1 len1 (fun i => (X1 i).cells)) (ok1 : ∀ i, i < len1 → (X1 i).ok w) (hm1 : len1 ≤ maxLen) (i2 : isI a2) :
    Calls Try.prog 6 #[.slice p0 len0 cap0, .slice p1 len1 cap1, .int .i64 a2] w fun e w' => e = .returned (.bool true) ∧ Below w.heap.size w w' := by
  clear ok0
  by_cases hL0 : (len0 : Int) ≤ 1048576
  rotate_left
  · go_enter Try.func6, Try.ntmps6
    go_wp2_with fail
    refine (szFlatS_any p0 len0 cap0 _ hm0).mono ?_
    rintro e w0 ⟨rfl, rfl⟩
    rw [if_neg (by omega)]
    go_wp2_with fail
    go_ret
    exact ⟨rfl, Below.refl _ _⟩
  have HOK := hid ok1
  clear ok1
  obtain ⟨r0, hr0⟩ : ∃ r, giV X0 len0 (fun i => (X1 i).d) len1 a2 = r := ⟨_, rfl⟩
  have HR0 := hid hr0
  clear hr0
  obtain ⟨r1, hr1⟩ : ∃ r, giOk X0 len0 (fun i => (X1 i).d) len1 a2 = r := ⟨_, rfl⟩
  have HR1 := hid hr1
  clear hr1
  go_enter Try.func6, Try.ntmps6
  go_wp2_with fail
  refine (szFlatS_any p0 len0 cap0 _ hm0).mono ?_
  rintro e w0 ⟨rfl, rfl⟩
  rw [if_pos hL0]
  go_wp2_with fail
  refine (szDrawerS_any p1 len1 cap1 X1 w (1048576 - (len0 : Int)) h1 (fun i hi => (HOK.out i hi).2) hm1 (by omega) (by omega)).mono ?_
  rintro e w0 ⟨r, rfl, hb0, hr⟩
  have z0 := hb0.size
  by_cases hr0 : r < 0
  · go_wp2_with fail
    go_ret
    exact ⟨rfl, hb0⟩
  have hsum := hr (by omega)
  have hN : Hid (∀ i, i < len1 → (X1 i).n ≤ 1048576) := fun i hi => by have := sumN_le (X := X1) hi; omega
  have hLL : Hid (∀ i, i < len1 → (X1 i).d.Flats.length ≤ 1048576) := fun i hi => by rw [DrawerL.d_len]; exact hN.out i hi
  clear hr
  go_wp2_with fail
  refine (toFlatS_any p0 len0 cap0 X0 _ (h0.below hb0) (by omega)).mono ?_
  rintro e w1 ⟨rfl, hb1, hs1, F1⟩
  have z1 := hb1.size
  have B1 : Below w.heap.size w w1 := Below.on hb0 hb0.size hb1
  go_wp2_with fail
  refine (toDrawerS_any p1 len1 cap1 X1 _ (h1.below B1) (fun i hi => (HOK.out i hi).below B1) hN.out (by omega)).mono ?_
  rintro e w2 ⟨rfl, hb2, hs2, FD2⟩
  obtain ⟨S2, D2⟩ := FD2.drs
  have z2 := hb2.size
  have B2 : Below w.heap.size w w2 := Below.on B1 B1.size hb2
  go_wp2_with fail
  refine (gramsIn_spec _ 0 len0 len0 _ 0 len1 len1 X0 (fun i => (X1 i).d) S2 a2 _ (F1.rw.later' hb2) (by omega) (Nat.le_refl _) D2 hLL.out (by omega) (Nat.le_refl _)).mono ?_
  rw [HR0.out, HR1.out]
  rintro e w3 ⟨rfl, hb3⟩
  have z3 := hb3.size
  have B3 : Below w.heap.size w w3 := Below.on B2 B2.size hb3
  go_wp2_with fail
  refine (toFlatS_any p0 len0 cap0 X0 _ (h0.below B3) (by omega)).mono ?_
  rintro e w4 ⟨rfl, hb4, hs4, F4⟩
  have z4 := hb4.size
  have B4 : Below w.heap.size w w4 := Below.on B3 B3.size hb4
  go_wp2_with fail
  refine (toDrawerS_any p1 len1 cap1 X1 _ (h1.below B4) (fun i hi => (HOK.out i hi).below B4) hN.out (by omega)).mono ?_
  rintro e w5 ⟨rfl, hb5, hs5, FD5⟩
  obtain ⟨S5, D5⟩ := FD5.drs
  have z5 := hb5.size
  have B5 : Below w.heap.size w w5 := Below.on B4 B4.size hb5
  go_wp2_with fail
  refine (gramsIn_impl _ 0 len0 len0 _ 0 len1 len1 X0 (fun i => (X1 i).d) S5 a2 _ (F4.rw.later' hb5) (by omega) (Nat.le_refl _) D5 hLL.out (by omega) (Nat.le_refl _)).mono ?_
  rw [HR0.out, HR1.out]
  rintro e w6 ⟨rfl, hb6⟩
  have z6 := hb6.size
  have B6 : Below w.heap.size w w6 := Below.on B5 B5.size hb6
  go_wp2_with fail
  refine (toFlatS_any p0 len0 cap0 X0 _ (h0.below B6) (by omega)).mono ?_
  rintro e w7 ⟨rfl, hb7, hs7, F7⟩
  have z7 := hb7.size
  have B7 : Below w.heap.size w w7 := Below.on B6 B6.size hb7
  go_wp2_with fail
  refine (eqFlatS_same _ _ 0 0 len0 len0 len0 X0 _ (((F4.rw.later' hb5).later' hb6).later' hb7) F7.rw (by omega) (Nat.le_refl _) (Nat.le_refl _)).mono ?_
  rintro e w8 ⟨rfl, hb8⟩
  have z8 := hb8.size
  have B8 : Below w.heap.size w w8 := Below.on B7 B7.size hb8
  go_wp2_with fail
  refine (toDrawerS_any p1 len1 cap1 X1 _ (h1.below B8) (fun i hi => (HOK.out i hi).below B8) hN.out (by omega)).mono ?_
  rintro e w9 ⟨rfl, hb9, hs9, FD9⟩
  obtain ⟨S9, D9⟩ := FD9.drs
  have z9 := hb9.size
  have B9 : Below w.heap.size w w9 := Below.on B8 B8.size hb9
  go_wp2_with fail
  refine (eqDrawerS_same _ _ 0 0 len1 len1 len1 (fun i => (X1 i).d) S5 S9 _ ((((D5.below hb6).below hb7).below hb8).below hb9) D9 hLL.out (by omega) (Nat.le_refl _) (Nat.le_refl _)).mono ?_
  rintro e w10 ⟨rfl, hb10⟩
  have z10 := hb10.size
  have B10 : Below w.heap.size w w10 := Below.on B9 B9.size hb10
  go_wp2_with fail
  go_ret
  exact ⟨rfl, B10⟩

set_option maxRecDepth 100000 in
set_option maxHeartbeats 4000000 in
theorem walk_ExactDrawerOf (w : World) (p0 : Option Addr) (len0 cap0 : Nat) (X0 : Nat → FlatD) (p1 : Option Addr) (len1 cap1 : Nat) (X1 : Nat → DrawerL) (a2 : Int) (h0 : Sl w 4 p0 len0 (fun i => (X0 i).cells)) (ok0 : ∀ i, i < len0 → (X0 i).ok) (hm0 : len0 ≤ maxLen) (h1 : Sl w 5 p1 len1 (fun i => (X1 i).cells)) (ok1 : ∀ i, i < len1 → (X1 i).ok w) (hm1 : len1 ≤ maxLen) (i2 : isI a2) :
    Calls Try.prog 5 #[.slice p0 len0 cap0, .slice p1 len1 cap1, .int .i64 a2] w fun e w' => e = .returned (.bool true) ∧ Below w.heap.size w w' := by
  clear ok0
  by_cases hL0 : (len0 : Int) ≤ 1048576
  rotate_left
  · go_enter Try.func5, Try.ntmps5
    go_wp2_with fail
    refine (szFlatS_any p0 len0 cap0 _ hm0).mono ?_
    rintro e w0 ⟨rfl, rfl⟩
    rw [if_neg (by omega)]
    go_wp2_with fail
    go_ret
    exact ⟨rfl, Below.refl _ _⟩
  have HOK := hid ok1
  clear ok1
  obtain ⟨r0, hr0⟩ : ∃ r, doV X0 len0 (fun i => (X1 i).d) len1 a2 = r := ⟨_, rfl⟩
  have HR0 := hid hr0
  clear hr0
  obtain ⟨r1, hr1⟩ : ∃ r, doOk X0 len0 (fun i => (X1 i).d) len1 a2 = r := ⟨_, rfl⟩
  have HR1 := hid hr1
  clear hr1
  go_enter Try.func5, Try.ntmps5
  go_wp2_with fail
  refine (szFlatS_any p0 len0 cap0 _ hm0).mono ?_
  rintro e w0 ⟨rfl, rfl⟩
  rw [if_pos hL0]
  go_wp2_with fail
  refine (szDrawerS_any p1 len1 cap1 X1 w (1048576 - (len0 : Int)) h1 (fun i hi => (HOK.out i hi).2) hm1 (by omega) (by omega)).mono ?_
  rintro e w0 ⟨r, rfl, hb0, hr⟩
  have z0 := hb0.size
  by_cases hr0 : r < 0
  · go_wp2_with fail
    go_ret
    exact ⟨rfl, hb0⟩
  have hsum := hr (by omega)
  have hN : Hid (∀ i, i < len1 → (X1 i).n ≤ 1048576) := fun i hi => by have := sumN_le (X := X1) hi; omega
  have hLL : Hid (∀ i, i < len1 → (X1 i).d.Flats.length ≤ 1048576) := fun i hi => by rw [DrawerL.d_len]; exact hN.out i hi
  clear hr
  go_wp2_with fail
  refine (toFlatS_any p0 len0 cap0 X0 _ (h0.below hb0) (by omega)).mono ?_
  rintro e w1 ⟨rfl, hb1, hs1, F1⟩
  have z1 := hb1.size
  have B1 : Below w.heap.size w w1 := Below.on hb0 hb0.size hb1
  go_wp2_with fail
  refine (toDrawerS_any p1 len1 cap1 X1 _ (h1.below B1) (fun i hi => (HOK.out i hi).below B1) hN.out (by omega)).mono ?_
  rintro e w2 ⟨rfl, hb2, hs2, FD2⟩
  obtain ⟨S2, D2⟩ := FD2.drs
  have z2 := hb2.size
  have B2 : Below w.heap.size w w2 := Below.on B1 B1.size hb2
  go_wp2_with fail
  refine (drawerOf_spec _ 0 len0 len0 _ 0 len1 len1 X0 (fun i => (X1 i).d) S2 a2 _ (F1.rw.later' hb2) (by omega) (Nat.le_refl _) D2 hLL.out (by omega) (Nat.le_refl _)).mono ?_
  rw [HR0.out, HR1.out]
  rintro e w3 ⟨rfl, hb3⟩
  have z3 := hb3.size
  have B3 : Below w.heap.size w w3 := Below.on B2 B2.size hb3
  go_wp2_with fail
  refine (toFlatS_any p0 len0 cap0 X0 _ (h0.below B3) (by omega)).mono ?_
  rintro e w4 ⟨rfl, hb4, hs4, F4⟩
  have z4 := hb4.size
  have B4 : Below w.heap.size w w4 := Below.on B3 B3.size hb4
  go_wp2_with fail
  refine (toDrawerS_any p1 len1 cap1 X1 _ (h1.below B4) (fun i hi => (HOK.out i hi).below B4) hN.out (by omega)).mono ?_
  rintro e w5 ⟨rfl, hb5, hs5, FD5⟩
  obtain ⟨S5, D5⟩ := FD5.drs
  have z5 := hb5.size
  have B5 : Below w.heap.size w w5 := Below.on B4 B4.size hb5
  go_wp2_with fail
  refine (drawerOf_impl _ 0 len0 len0 _ 0 len1 len1 X0 (fun i => (X1 i).d) S5 a2 _ (F4.rw.later' hb5) (by omega) (Nat.le_refl _) D5 hLL.out (by omega) (Nat.le_refl _)).mono ?_
  rw [HR0.out, HR1.out]
  rintro e w6 ⟨rfl, hb6⟩
  have z6 := hb6.size
  have B6 : Below w.heap.size w w6 := Below.on B5 B5.size hb6
  go_wp2_with fail
  refine (toFlatS_any p0 len0 cap0 X0 _ (h0.below B6) (by omega)).mono ?_
  rintro e w7 ⟨rfl, hb7, hs7, F7⟩
  have z7 := hb7.size
  have B7 : Below w.heap.size w w7 := Below.on B6 B6.size hb7
  go_wp2_with fail
  refine (eqFlatS_same _ _ 0 0 len0 len0 len0 X0 _ (((F4.rw.later' hb5).later' hb6).later' hb7) F7.rw (by omega) (Nat.le_refl _) (Nat.le_refl _)).mono ?_
  rintro e w8 ⟨rfl, hb8⟩
  have z8 := hb8.size
  have B8 : Below w.heap.size w w8 := Below.on B7 B7.size hb8
  go_wp2_with fail
  refine (toDrawerS_any p1 len1 cap1 X1 _ (h1.below B8) (fun i hi => (HOK.out i hi).below B8) hN.out (by omega)).mono ?_
  rintro e w9 ⟨rfl, hb9, hs9, FD9⟩
  obtain ⟨S9, D9⟩ := FD9.drs
  have z9 := hb9.size
  have B9 : Below w.heap.size w w9 := Below.on B8 B8.size hb9
  go_wp2_with fail
  refine (eqDrawerS_same _ _ 0 0 len1 len1 len1 (fun i => (X1 i).d) S5 S9 _ ((((D5.below hb6).below hb7).below hb8).below hb9) D9 hLL.out (by omega) (Nat.le_refl _) (Nat.le_refl _)).mono ?_
  rintro e w10 ⟨rfl, hb10⟩
  have z10 := hb10.size
  have B10 : Below w.heap.size w w10 := Below.on B9 B9.size hb10
  go_wp2_with fail
  go_ret
  exact ⟨rfl, B10⟩

end Go.Proofs.Ytejpmomedclnhaa
