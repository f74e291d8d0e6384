/-
  The walk of TakeFlat. No condition.
-/
import Derived.Test.YtejpmomedclnhaaDrawT2
import Derived.Test.YtejpmomedclnhaaDrawK
import Derived.Test.YtejpmomedclnhaaDrawE1
namespace Go.Proofs.Ytejpmomedclnhaa
open Go.RowKit
set_option linter.unusedVariables false

set_option maxRecDepth 100000 in
set_option maxHeartbeats 16000000 in
theorem walk_ExactTakeFlat (w : World) (p0 : Option Addr) (len0 cap0 : Nat) (X0 : Nat → FlatD) (p1 : Option Addr) (len1 cap1 : Nat) (X1 : Nat → DrawerL) (a2 : Int) (h0 : Sl w 4 p0 len0 (fun i => (X0 i).cells)) (ok0 : ∀ i, i < len0 → (X0 i).ok) (hm0 : len0 ≤ maxLen) (h1 : Sl w 5 p1 len1 (fun i => (X1 i).cells)) (ok1 : ∀ i, i < len1 → (X1 i).ok w) (hm1 : len1 ≤ maxLen) (i2 : isI a2) :
    Calls Try.prog 9 #[.slice p0 len0 cap0, .slice p1 len1 cap1, .int .i64 a2] w fun e w' => e = .returned (.bool true) ∧ Below w.heap.size w w' := by
  clear ok0
  by_cases hL0 : (len0 : Int) ≤ 1048576
  rotate_left
  · go_enter Try.func9, Try.ntmps9
    go_wp2_with fail
    refine (szFlatS_any p0 len0 cap0 _ hm0).mono ?_
    rintro e w0 ⟨rfl, rfl⟩
    rw [if_neg (by omega)]
    go_wp2_with fail
    go_ret
    exact ⟨rfl, Below.refl _ _⟩
  have HOK := hid ok1
  clear ok1
  have hsmall := tf_small X0 len0 (fun i => (X1 i).d) len1 a2
  obtain ⟨XX, hXX⟩ : ∃ X, tkX (fun i => (X1 i).d) (whereI (fun i => (X1 i).d) len1 a2).toNat a2 = X := ⟨_, rfl⟩
  obtain ⟨bb, hbb⟩ : ∃ b, tfOk X0 len0 (fun i => (X1 i).d) len1 a2 = b := ⟨_, rfl⟩
  obtain ⟨nn, hnn⟩ : ∃ n, (if tfOk X0 len0 (fun i => (X1 i).d) len1 a2 = true then len1 else 0) = n := ⟨_, rfl⟩
  rw [hnn, hXX] at hsmall
  obtain ⟨hs8, hs12⟩ := hsmall
  have HXX := hid hXX
  have HBB := hid hbb
  have HNN := hid hnn
  obtain ⟨N, hNd⟩ : ∃ N : Nat → Nat, ∀ i, (XX i).Flats.length = N i := ⟨_, fun _ => rfl⟩
  have HND := hid hNd
  have hs := sum12 (N := N) (n := nn) fun i hi => by rw [← hNd]; exact hs12 i hi
  have HS : Hid (nn + sumK N nn ≤ 2097152) := by unfold Hid; omega
  have HS12 := hid hs12
  clear hXX hbb hnn hNd hs hs12
  go_enter Try.func9, Try.ntmps9
  go_wp2_with fail
  refine (szFlatS_any p0 len0 cap0 _ hm0).mono ?_
  rintro e w0 ⟨rfl, rfl⟩
  rw [if_pos hL0]
  go_wp2_with fail
  refine (szDrawerS_any p1 len1 cap1 X1 w (1048576 - (len0 : Int)) h1 (fun i hi => (HOK.out i hi).2) hm1 (by omega) (by omega)).mono ?_
  rintro e w0 ⟨r, rfl, hb0, hr⟩
  have z0 := hb0.size
  by_cases hr0 : r < 0
  · go_wp2_with fail
    go_ret
    exact ⟨rfl, hb0⟩
  have hsum := hr (by omega)
  have hN : Hid (∀ i, i < len1 → (X1 i).n ≤ 1048576) := fun i hi => by have := sumN_le (X := X1) hi; omega
  have hLL1 : Hid (∀ i, i < len1 → (X1 i).d.Flats.length ≤ 1048576) := fun i hi => by rw [DrawerL.d_len]; exact hN.out i hi
  have hSK : Hid (len1 + sumK (fun i => (X1 i).d.Flats.length) len1 ≤ 1048576) := by unfold Hid; rw [sumK_sumN]; exact hsum
  have hlen1 : len1 ≤ 1048576 := by omega
  clear hr hsum
  go_wp2_with fail
  refine (toFlatS_any p0 len0 cap0 X0 _ (h0.below hb0) (by omega)).mono ?_
  rintro e w1 ⟨rfl, hb1, hs1, F1⟩
  have z1 := hb1.size
  have B1 : Below w.heap.size w w1 := Below.on hb0 hb0.size hb1
  go_wp2_with fail
  refine (toDrawerS_any p1 len1 cap1 X1 _ (h1.below B1) (fun i hi => (HOK.out i hi).below B1) hN.out (by omega)).mono ?_
  rintro e w2 ⟨rfl, hb2, hs2, FD2⟩
  have MK2 := hid FD2.mk
  obtain ⟨S2, D2⟩ := FD2.drs
  clear FD2
  have z2 := hb2.size
  have B2 : Below w.heap.size w w2 := Below.on B1 B1.size hb2
  go_wp2_with fail
  refine (take_spec _ 0 len0 len0 _ 0 len1 len1 X0 (fun i => (X1 i).d) S2 a2 _ (F1.rw.later' hb2) (by omega) (Nat.le_refl _) D2 hLL1.out (by omega) (Nat.le_refl _)).mono ?_
  unfold RetDB
  rw [HXX.out, HNN.out, HBB.out]
  rintro e w3 ⟨v, Pv, rfl, o0, hPv, hb3⟩
  have ov := hid o0
  clear o0
  have HPv := hid hPv
  have HPlv : Hid (Pv.length = nn) := by have := congrArg List.length hPv; simpa [Hid, lstD] using this
  clear hPv
  obtain ⟨av, cv, hvv⟩ : ∃ a c, v = .slice a nn c := by rcases ov.out.form with ⟨h, h0⟩ | ⟨g, cp, h, _⟩; exact ⟨none, 0, by rw [h]; have := HPlv.out; rw [h0] at this; simp at this; rw [← this]⟩; exact ⟨_, _, by rw [h, HPlv.out]⟩
  subst hvv
  have z3 := hb3.size
  have B3 : Below w.heap.size w w3 := Below.on B2 B2.size hb3
  go_wp2_with fail
  refine (toFlatS_any p0 len0 cap0 X0 _ (h0.below B3) (by omega)).mono ?_
  rintro e w4 ⟨rfl, hb4, hs4, F4⟩
  have z4 := hb4.size
  have B4 : Below w.heap.size w w4 := Below.on B3 B3.size hb4
  go_wp2_with fail
  refine (toDrawerS_any p1 len1 cap1 X1 _ (h1.below B4) (fun i hi => (HOK.out i hi).below B4) hN.out (by omega)).mono ?_
  rintro e w5 ⟨rfl, hb5, hs5, FD5⟩
  have MK5 := hid FD5.mk
  obtain ⟨S5, D5⟩ := FD5.drs
  clear FD5
  have z5 := hb5.size
  have B5 : Below w.heap.size w w5 := Below.on B4 B4.size hb5
  go_wp2_with fail
  refine (take_impl _ 0 len0 len0 _ 0 len1 len1 X0 (fun i => (X1 i).d) S5 a2 _ (F4.rw.later' hb5) (by omega) (Nat.le_refl _) D5 hLL1.out (by omega) (Nat.le_refl _)).mono ?_
  unfold RetDB
  rw [HXX.out, HNN.out, HBB.out]
  rintro e w6 ⟨g, Pg, rfl, o0, hPg, hb6⟩
  have og := hid o0
  clear o0
  have HPg := hid hPg
  have HPlg : Hid (Pg.length = nn) := by have := congrArg List.length hPg; simpa [Hid, lstD] using this
  clear hPg
  obtain ⟨ag, cg, hvg⟩ : ∃ a c, g = .slice a nn c := by rcases og.out.form with ⟨h, h0⟩ | ⟨g, cp, h, _⟩; exact ⟨none, 0, by rw [h]; have := HPlg.out; rw [h0] at this; simp at this; rw [← this]⟩; exact ⟨_, _, by rw [h, HPlg.out]⟩
  subst hvg
  have z6 := hb6.size
  have B6 : Below w.heap.size w w6 := Below.on B5 B5.size hb6
  go_wp2_with fail
  refine (eqDrawerS_own (.slice ag nn cg) (.slice av nn cv) Pg Pv _ _ _ og.out (((ov.out.below hb4).below hb5).below hb6) (HPg.out.trans HPv.out.symm) (by rw [HPlg.out]; omega) (fun d hd => by rw [HPg.out] at hd; simp [lstD] at hd; obtain ⟨i, hi, rfl⟩ := hd; have := HS12.out i hi; omega)).mono ?_
  rintro e w7 ⟨rfl, hb7⟩
  have z7 := hb7.size
  have B7 : Below w.heap.size w w7 := Below.on B6 B6.size hb7
  go_wp2_with fail
  refine (toFlatS_any p0 len0 cap0 X0 _ (h0.below B7) (by omega)).mono ?_
  rintro e w8 ⟨rfl, hb8, hs8, F8⟩
  have z8 := hb8.size
  have B8 : Below w.heap.size w w8 := Below.on B7 B7.size hb8
  go_wp2_with fail
  refine (eqFlatS_same _ _ 0 0 len0 len0 len0 X0 _ ((((F4.rw.later' hb5).later' hb6).later' hb7).later' hb8) F8.rw (by omega) (Nat.le_refl _) (Nat.le_refl _)).mono ?_
  rintro e w9 ⟨rfl, hb9⟩
  have z9 := hb9.size
  have B9 : Below w.heap.size w w9 := Below.on B8 B8.size hb9
  go_wp2_with fail
  refine (toDrawerS_any p1 len1 cap1 X1 _ (h1.below B9) (fun i hi => (HOK.out i hi).below B9) hN.out (by omega)).mono ?_
  rintro e w10 ⟨rfl, hb10, hs10, FD10⟩
  have MK10 := hid FD10.mk
  obtain ⟨S10, D10⟩ := FD10.drs
  clear FD10
  have z10 := hb10.size
  have B10 : Below w.heap.size w w10 := Below.on B9 B9.size hb10
  go_wp2_with fail
  refine (eqDrawerS_same _ _ 0 0 len1 len1 len1 (fun i => (X1 i).d) S5 S10 _ (((((D5.below hb6).below hb7).below hb8).below hb9).below hb10) D10 hLL1.out (by omega) (Nat.le_refl _) (Nat.le_refl _)).mono ?_
  rintro e w11 ⟨rfl, hb11⟩
  have z11 := hb11.size
  have B11 : Below w.heap.size w w11 := Below.on B10 B10.size hb11
  go_wp2_with fail
  refine (markFlatS_any _ len0 len0 1 _ (((((((F4.below hb5 (by omega)).below hb6 (by omega)).below hb7 (by omega)).below hb8 (by omega)).below hb9 (by omega)).below hb10 (by omega)).below hb11 (by omega)).blk (Nat.le_refl _) (by omega) (by omega) (by omega)).mono ?_
  rintro e w12 ⟨rfl, gr12⟩
  have z12 := gr12.size
  have B12 : Below w.heap.size w w12 := B11.grown gr12 B11.size (fun k hk => by cases hk; omega)
  have O12 := Only.of_grown (P := fun i => i = w3.heap.size) gr12 rfl
  go_wp2_with fail
  refine (markDrawerS_any _ len1 len1 _ _ (1 + 4 * (len0 : Int)) _ (((((((MK5.out.below hb6).below hb7).below hb8).below hb9).below hb10).below hb11).only O12 (fun i hi => .inl (by omega))) (Nat.le_refl _) hSK.out (by omega) (by omega)).mono ?_
  rintro e w13 ⟨rfl, on13⟩
  have z13 := on13.size
  have B13 : Below w.heap.size w w13 := Only.below B12 on13 B12.size (fun i hi => by have := B4.size; omega)
  have ov8 := hid ((((((((((ov.out.below hb4).below hb5).below hb6).below hb7).below hb8).below hb9).below hb10).below hb11).only' O12 (fun i hi e => by have := ov.out.lt i hi; omega) (fun j hj i hi e => by have := (ov.out.inn_lt hj i hi).2; omega)).only' on13 (fun i hi e => by have := ov.out.lt i hi; omega) (fun j hj i hi e => by have := (ov.out.inn_lt hj i hi).2; omega))
  have og8 := hid (((((((og.out.below hb7).below hb8).below hb9).below hb10).below hb11).only' O12 (fun i hi e => by have := og.out.ge i hi; omega) (fun j hj i hi e => by have := (og.out.inn_lt hj i hi).1; omega)).only' on13 (fun i hi e => by have := og.out.ge i hi; omega) (fun j hj i hi e => by have := (og.out.inn_lt hj i hi).1; omega))
  obtain ⟨sk, hsk⟩ : ∃ s, sumK (fun i => (X1 i).d.Flats.length) len1 = s := ⟨_, rfl⟩
  rw [hsk]
  have hkn : decide (1 + 4 * (len0 : Int) + 4 * (len1 : Int) + (sk : Int) < 0) = false := by simp; omega
  clear hsk
  go_wp2_with fail
  refine (eqDrawerS_own (.slice ag nn cg) (.slice av nn cv) Pg Pv _ _ _ og8.out ov8.out (HPg.out.trans HPv.out.symm) (by rw [HPlg.out]; omega) (fun d hd => by rw [HPg.out] at hd; simp [lstD] at hd; obtain ⟨i, hi, rfl⟩ := hd; have := HS12.out i hi; omega)).mono ?_
  rintro e w14 ⟨rfl, hb14⟩
  have z14 := hb14.size
  have B14 : Below w.heap.size w w14 := Below.on B13 B13.size hb14
  go_wp2_with fail
  refine (markDrawerS_own (.slice ag nn cg) Pg _ 1 _ (og8.out.below hb14) N (fun i hi => by rw [fst_at HPg.out (by rw [← HPlg.out]; exact hi)]; exact HND.out i) (by rw [HPlg.out]; exact HS.out) (by omega) (by omega)).mono ?_
  rw [HPlg.out]
  rintro e w15 ⟨rfl, oM0, on15⟩
  have oM := hid oM0
  clear oM0
  have z15 := on15.size
  have B15 : Below w.heap.size w w15 := Only.below B14 on15 B14.size (fun i hi => by have := B5.size; omega)
  have ov10 := hid ((ov8.out.below hb14).only' on15 (fun i hi e => by have := ov.out.lt i hi; omega) (fun j hj i hi e => by have := (ov.out.inn_lt hj i hi).2; omega))
  obtain ⟨kk, hkk⟩ : ∃ k, kb 1 N nn = k := ⟨_, rfl⟩
  have hk0 : decide (kk < 0) = false := by rw [← hkk]; unfold kb; simp; omega
  rw [hkk]
  have HKK := hid hkk
  clear hkk
  go_wp2_with fail
  refine (heldDrawerS_own (.slice ag nn cg) (mixP 1 N Pg nn) nn _ 1 _ oM.out (by rw [mixP_len]; exact HPlg.out) N (fun i hi => mixP_all HPlg.out hi) HS.out (by omega) (by omega)).mono ?_
  rw [HKK.out]
  rintro e w16 ⟨rfl, rfl⟩
  go_wp2_with fail
  refine (toFlatS_any p0 len0 cap0 X0 _ (h0.below B15) (by omega)).mono ?_
  rintro e w17 ⟨rfl, hb17, hs17, F17⟩
  have z17 := hb17.size
  have B17 : Below w.heap.size w w17 := Below.on B15 B15.size hb17
  go_wp2_with fail
  refine (toDrawerS_any p1 len1 cap1 X1 _ (h1.below B17) (fun i hi => (HOK.out i hi).below B17) hN.out (by omega)).mono ?_
  rintro e w18 ⟨rfl, hb18, hs18, FD18⟩
  obtain ⟨S18, D18⟩ := FD18.drs
  clear FD18
  have z18 := hb18.size
  have B18 : Below w.heap.size w w18 := Below.on B17 B17.size hb18
  go_wp2_with fail
  refine (take_impl _ 0 len0 len0 _ 0 len1 len1 X0 (fun i => (X1 i).d) S18 a2 _ (F17.rw.later' hb18) (by omega) (Nat.le_refl _) D18 hLL1.out (by omega) (Nat.le_refl _)).mono ?_
  unfold RetDB
  rw [HXX.out, HNN.out, HBB.out]
  rintro e w19 ⟨u, Pu, rfl, o0, hPu, hb19⟩
  have ou := hid o0
  clear o0
  have HPu := hid hPu
  have HPlu : Hid (Pu.length = nn) := by have := congrArg List.length hPu; simpa [Hid, lstD] using this
  clear hPu
  obtain ⟨au, cu, hvu⟩ : ∃ a c, u = .slice a nn c := by rcases ou.out.form with ⟨h, h0⟩ | ⟨g, cp, h, _⟩; exact ⟨none, 0, by rw [h]; have := HPlu.out; rw [h0] at this; simp at this; rw [← this]⟩; exact ⟨_, _, by rw [h, HPlu.out]⟩
  subst hvu
  have z19 := hb19.size
  have B19 : Below w.heap.size w w19 := Below.on B18 B18.size hb19
  go_wp2_with fail
  refine (eqDrawerS_own (.slice au nn cu) (.slice av nn cv) Pu Pv _ _ _ ou.out (((ov10.out.below hb17).below hb18).below hb19) (HPu.out.trans HPv.out.symm) (by rw [HPlu.out]; omega) (fun d hd => by rw [HPu.out] at hd; simp [lstD] at hd; obtain ⟨i, hi, rfl⟩ := hd; have := HS12.out i hi; omega)).mono ?_
  rintro e w20 ⟨rfl, hb20⟩
  have z20 := hb20.size
  have B20 : Below w.heap.size w w20 := Below.on B19 B19.size hb20
  go_wp2_with fail
  refine (heldDrawerS_own (.slice ag nn cg) (mixP 1 N Pg nn) nn _ 1 _ ((((oM.out.below hb17).below hb18).below hb19).below hb20) (by rw [mixP_len]; exact HPlg.out) N (fun i hi => mixP_all HPlg.out hi) HS.out (by omega) (by omega)).mono ?_
  rw [HKK.out]
  rintro e w21 ⟨rfl, rfl⟩
  go_wp2_with fail
  go_ret
  exact ⟨rfl, B20⟩

end Go.Proofs.Ytejpmomedclnhaa
