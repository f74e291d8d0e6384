/-
  The walk of EmptyDrawers. No condition.
-/
import Derived.Test.YtejpmomedclnhaaDrawE
import Derived.Test.YtejpmomedclnhaaDrawW1
namespace Go.Proofs.Ytejpmomedclnhaa
open Go.RowKit
set_option linter.unusedVariables false

theorem edL_le (Y : Nat → FlatD) (m : Nat) (X : Nat → DrawerD) (n : Nat) : (edL Y m X n).length ≤ n := by unfold edL; split; exact selI_le _ _ _; exact Nat.zero_le _

set_option maxRecDepth 100000 in
set_option maxHeartbeats 8000000 in
theorem walk_ExactEmptyDrawers (w : World) (p0 : Option Addr) (len0 cap0 : Nat) (X0 : Nat → FlatD) (p1 : Option Addr) (len1 cap1 : Nat) (X1 : Nat → DrawerL) (h0 : Sl w 4 p0 len0 (fun i => (X0 i).cells)) (ok0 : ∀ i, i < len0 → (X0 i).ok) (hm0 : len0 ≤ maxLen) (h1 : Sl w 5 p1 len1 (fun i => (X1 i).cells)) (ok1 : ∀ i, i < len1 → (X1 i).ok w) (hm1 : len1 ≤ maxLen) :
    Calls Try.prog 7 #[.slice p0 len0 cap0, .slice p1 len1 cap1] w fun e w' => e = .returned (.bool true) ∧ Below w.heap.size w w' := by
  clear ok0
  by_cases hL0 : (len0 : Int) ≤ 1048576
  rotate_left
  · go_enter Try.func7, Try.ntmps7
    go_wp2_with fail
    refine (szFlatS_any p0 len0 cap0 _ hm0).mono ?_
    rintro e w0 ⟨rfl, rfl⟩
    rw [if_neg (by omega)]
    go_wp2_with fail
    go_ret
    exact ⟨rfl, Below.refl _ _⟩
  have HOK := hid ok1
  clear ok1
  go_enter Try.func7, Try.ntmps7
  go_wp2_with fail
  refine (szFlatS_any p0 len0 cap0 _ hm0).mono ?_
  rintro e w0 ⟨rfl, rfl⟩
  rw [if_pos hL0]
  go_wp2_with fail
  refine (szDrawerS_any p1 len1 cap1 X1 w (1048576 - (len0 : Int)) h1 (fun i hi => (HOK.out i hi).2) hm1 (by omega) (by omega)).mono ?_
  rintro e w0 ⟨r, rfl, hb0, hr⟩
  have z0 := hb0.size
  by_cases hr0 : r < 0
  · go_wp2_with fail
    go_ret
    exact ⟨rfl, hb0⟩
  have hsum := hr (by omega)
  have hN : Hid (∀ i, i < len1 → (X1 i).n ≤ 1048576) := fun i hi => by have := sumN_le (X := X1) hi; omega
  have hLL1 : Hid (∀ i, i < len1 → (X1 i).d.Flats.length ≤ 1048576) := fun i hi => by rw [DrawerL.d_len]; exact hN.out i hi
  have hSK : Hid (len1 + sumK (fun i => (X1 i).d.Flats.length) len1 ≤ 1048576) := by unfold Hid; rw [sumK_sumN]; exact hsum
  have hlen1 : len1 ≤ 1048576 := by omega
  clear hr hsum
  have hLL : (edL X0 len0 (fun i => (X1 i).d) len1).length ≤ 1048576 := by have := edL_le X0 len0 (fun i => (X1 i).d) len1; omega
  obtain ⟨LL, hLe⟩ : ∃ LL, edL X0 len0 (fun i => (X1 i).d) len1 = LL := ⟨_, rfl⟩
  rw [hLe] at hLL
  have HLe := hid hLe
  clear hLe
  obtain ⟨bb, hbb⟩ : ∃ b, goodB X0 len0 (fun i => (X1 i).d) len1 = b := ⟨_, rfl⟩
  have HBB := hid hbb
  clear hbb
  go_wp2_with fail
  refine (toFlatS_any p0 len0 cap0 X0 _ (h0.below hb0) (by omega)).mono ?_
  rintro e w1 ⟨rfl, hb1, hs1, F1⟩
  have z1 := hb1.size
  have B1 : Below w.heap.size w w1 := Below.on hb0 hb0.size hb1
  go_wp2_with fail
  refine (toDrawerS_any p1 len1 cap1 X1 _ (h1.below B1) (fun i hi => (HOK.out i hi).below B1) hN.out (by omega)).mono ?_
  rintro e w2 ⟨rfl, hb2, hs2, FD2⟩
  have MK2 := hid FD2.mk
  obtain ⟨S2, D2⟩ := FD2.drs
  clear FD2
  have z2 := hb2.size
  have B2 : Below w.heap.size w w2 := Below.on B1 B1.size hb2
  go_wp2_with fail
  refine (empty_spec _ 0 len0 len0 _ 0 len1 len1 X0 (fun i => (X1 i).d) S2 _ (F1.rw.later' hb2) (by omega) (Nat.le_refl _) D2 hLL1.out (by omega) (Nat.le_refl _)).mono ?_
  unfold RetIB
  rw [HLe.out, HBB.out]
  rintro e w3 ⟨v, rfl, o0, hb3⟩
  have ov := hid o0
  clear o0
  have z3 := hb3.size
  have B3 : Below w.heap.size w w3 := Below.on B2 B2.size hb3
  go_wp2_with fail
  refine (toFlatS_any p0 len0 cap0 X0 _ (h0.below B3) (by omega)).mono ?_
  rintro e w4 ⟨rfl, hb4, hs4, F4⟩
  have z4 := hb4.size
  have B4 : Below w.heap.size w w4 := Below.on B3 B3.size hb4
  go_wp2_with fail
  refine (toDrawerS_any p1 len1 cap1 X1 _ (h1.below B4) (fun i hi => (HOK.out i hi).below B4) hN.out (by omega)).mono ?_
  rintro e w5 ⟨rfl, hb5, hs5, FD5⟩
  have MK5 := hid FD5.mk
  obtain ⟨S5, D5⟩ := FD5.drs
  clear FD5
  have z5 := hb5.size
  have B5 : Below w.heap.size w w5 := Below.on B4 B4.size hb5
  go_wp2_with fail
  refine (empty_impl _ 0 len0 len0 _ 0 len1 len1 X0 (fun i => (X1 i).d) S5 _ (F4.rw.later' hb5) (by omega) (Nat.le_refl _) D5 hLL1.out (by omega) (Nat.le_refl _)).mono ?_
  unfold RetIB
  rw [HLe.out, HBB.out]
  rintro e w6 ⟨g, rfl, o0, hb6⟩
  have og := hid o0
  clear o0
  have z6 := hb6.size
  have B6 : Below w.heap.size w w6 := Below.on B5 B5.size hb6
  go_wp2_with fail
  refine (eqIntS_own g v LL _ _ _ og.out (((ov.out.below hb4).below hb5).below hb6) hLL).mono ?_
  rintro e w7 ⟨rfl, hb7⟩
  have z7 := hb7.size
  have B7 : Below w.heap.size w w7 := Below.on B6 B6.size hb7
  go_wp2_with fail
  refine (toFlatS_any p0 len0 cap0 X0 _ (h0.below B7) (by omega)).mono ?_
  rintro e w8 ⟨rfl, hb8, hs8, F8⟩
  have z8 := hb8.size
  have B8 : Below w.heap.size w w8 := Below.on B7 B7.size hb8
  go_wp2_with fail
  refine (eqFlatS_same _ _ 0 0 len0 len0 len0 X0 _ ((((F4.rw.later' hb5).later' hb6).later' hb7).later' hb8) F8.rw (by omega) (Nat.le_refl _) (Nat.le_refl _)).mono ?_
  rintro e w9 ⟨rfl, hb9⟩
  have z9 := hb9.size
  have B9 : Below w.heap.size w w9 := Below.on B8 B8.size hb9
  go_wp2_with fail
  refine (toDrawerS_any p1 len1 cap1 X1 _ (h1.below B9) (fun i hi => (HOK.out i hi).below B9) hN.out (by omega)).mono ?_
  rintro e w10 ⟨rfl, hb10, hs10, FD10⟩
  have MK10 := hid FD10.mk
  obtain ⟨S10, D10⟩ := FD10.drs
  clear FD10
  have z10 := hb10.size
  have B10 : Below w.heap.size w w10 := Below.on B9 B9.size hb10
  go_wp2_with fail
  refine (eqDrawerS_same _ _ 0 0 len1 len1 len1 (fun i => (X1 i).d) S5 S10 _ (((((D5.below hb6).below hb7).below hb8).below hb9).below hb10) D10 hLL1.out (by omega) (Nat.le_refl _) (Nat.le_refl _)).mono ?_
  rintro e w11 ⟨rfl, hb11⟩
  have z11 := hb11.size
  have B11 : Below w.heap.size w w11 := Below.on B10 B10.size hb11
  go_wp2_with fail
  refine (markFlatS_any _ len0 len0 1 _ (((((((F4.below hb5 (by omega)).below hb6 (by omega)).below hb7 (by omega)).below hb8 (by omega)).below hb9 (by omega)).below hb10 (by omega)).below hb11 (by omega)).blk (Nat.le_refl _) (by omega) (by omega) (by omega)).mono ?_
  rintro e w12 ⟨rfl, gr12⟩
  have z12 := gr12.size
  have B12 : Below w.heap.size w w12 := B11.grown gr12 B11.size (fun k hk => by cases hk; omega)
  go_wp2_with fail
  refine (markDrawerS_any _ len1 len1 _ _ (1 + 4 * (len0 : Int)) _ (((((((MK5.out.below hb6).below hb7).below hb8).below hb9).below hb10).below hb11).only (Only.of_grown (P := fun i => i = w3.heap.size) gr12 rfl) (fun i hi => .inl (by omega))) (Nat.le_refl _) hSK.out (by omega) (by omega)).mono ?_
  rintro e w13 ⟨rfl, on13⟩
  have z13 := on13.size
  have B13 : Below w.heap.size w w13 := Only.below B12 on13 B12.size (fun i hi => by have := B4.size; omega)
  have ov8 := hid ((((((((((ov.out.below hb4).below hb5).below hb6).below hb7).below hb8).below hb9).below hb10).below hb11).kept gr12 (ov.out.ne_lo (by omega))).only on13 (fun i hi e => by have := ov.out.lt i hi; omega))
  have og8 := hid (((((((og.out.below hb7).below hb8).below hb9).below hb10).below hb11).kept gr12 (og.out.ne_hi (by omega))).only on13 (fun i hi e => by have := og.out.ge i hi; omega))
  obtain ⟨sk, hsk⟩ : ∃ s, sumK (fun i => (X1 i).d.Flats.length) len1 = s := ⟨_, rfl⟩
  rw [hsk]
  have hkn : decide (1 + 4 * (len0 : Int) + 4 * (len1 : Int) + (sk : Int) < 0) = false := by simp; omega
  clear hsk
  go_wp2_with fail
  refine (eqIntS_own g v LL _ _ _ og8.out ov8.out hLL).mono ?_
  rintro e w14 ⟨rfl, hb14⟩
  have z14 := hb14.size
  have B14 : Below w.heap.size w w14 := Below.on B13 B13.size hb14
  go_wp2_with fail
  refine (markIntS_own g LL _ 1 _ (og8.out.below hb14) (by omega) (by omega) (by omega)).mono ?_
  rintro e w15 ⟨rfl, oM0, gr15⟩
  have oM := hid oM0
  clear oM0
  have z15 := gr15.size
  have B15 : Below w.heap.size w w15 := B14.grown gr15 B14.size (fun k hk => by have := og.out.ge k hk; omega)
  have ov10 := hid ((ov8.out.below hb14).kept gr15 (own_ne ov.out.lt (fun k hk => by have := og.out.ge k hk; omega)))
  go_wp2_with fail
  refine (heldIntS_own g LL.length _ 1 _ oM.out (by omega) (by omega) (by omega)).mono ?_
  rintro e w16 ⟨rfl, rfl⟩
  go_wp2_with fail
  refine (toFlatS_any p0 len0 cap0 X0 _ (h0.below B15) (by omega)).mono ?_
  rintro e w17 ⟨rfl, hb17, hs17, F17⟩
  have z17 := hb17.size
  have B17 : Below w.heap.size w w17 := Below.on B15 B15.size hb17
  go_wp2_with fail
  refine (toDrawerS_any p1 len1 cap1 X1 _ (h1.below B17) (fun i hi => (HOK.out i hi).below B17) hN.out (by omega)).mono ?_
  rintro e w18 ⟨rfl, hb18, hs18, FD18⟩
  obtain ⟨S18, D18⟩ := FD18.drs
  clear FD18
  have z18 := hb18.size
  have B18 : Below w.heap.size w w18 := Below.on B17 B17.size hb18
  go_wp2_with fail
  refine (empty_impl _ 0 len0 len0 _ 0 len1 len1 X0 (fun i => (X1 i).d) S18 _ (F17.rw.later' hb18) (by omega) (Nat.le_refl _) D18 hLL1.out (by omega) (Nat.le_refl _)).mono ?_
  unfold RetIB
  rw [HLe.out, HBB.out]
  rintro e w19 ⟨u, rfl, o0, hb19⟩
  have ou := hid o0
  clear o0
  have z19 := hb19.size
  have B19 : Below w.heap.size w w19 := Below.on B18 B18.size hb19
  go_wp2_with fail
  refine (eqIntS_own u v LL _ _ _ ou.out (((ov10.out.below hb17).below hb18).below hb19) hLL).mono ?_
  rintro e w20 ⟨rfl, hb20⟩
  have z20 := hb20.size
  have B20 : Below w.heap.size w w20 := Below.on B19 B19.size hb20
  go_wp2_with fail
  refine (heldIntS_own g LL.length _ 1 _ ((((oM.out.below hb17).below hb18).below hb19).below hb20) (by omega) (by omega) (by omega)).mono ?_
  rintro e w21 ⟨rfl, rfl⟩
  go_wp2_with fail
  go_ret
  exact ⟨rfl, B20⟩

end Go.Proofs.Ytejpmomedclnhaa
