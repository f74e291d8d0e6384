/-
  The walk of StoreAll. No condition.
-/
import Derived.Test.YtejpmomedclnhaaSto3
import Derived.Test.YtejpmomedclnhaaSto4
import Derived.Test.YtejpmomedclnhaaDrawE1
namespace Go.Proofs.Ytejpmomedclnhaa
open Go.RowKit
set_option linter.unusedVariables false

set_option maxRecDepth 100000 in
set_option maxHeartbeats 16000000 in
theorem walk_ExactStoreAll (w : World) (p0 : Option Addr) (len0 cap0 : Nat) (X0 : Nat → FlatD) (p1 : Option Addr) (len1 cap1 : Nat) (X1 : Nat → DrawerL) (h0 : Sl w 4 p0 len0 (fun i => (X0 i).cells)) (ok0 : ∀ i, i < len0 → (X0 i).ok) (hm0 : len0 ≤ maxLen) (h1 : Sl w 5 p1 len1 (fun i => (X1 i).cells)) (ok1 : ∀ i, i < len1 → (X1 i).ok w) (hm1 : len1 ≤ maxLen) :
    Calls Try.prog 13 #[.slice p0 len0 cap0, .slice p1 len1 cap1] w fun e w' => e = .returned (.bool true) ∧ Below w.heap.size w w' := by
  clear ok0
  by_cases hL0 : (len0 : Int) ≤ 1048576
  rotate_left
  · go_enter Try.func13, Try.ntmps13
    go_wp2_with fail
    refine (szFlatS_any p0 len0 cap0 _ hm0).mono ?_
    rintro e w0 ⟨rfl, rfl⟩
    rw [if_neg (by omega)]
    go_wp2_with fail
    go_ret
    exact ⟨rfl, Below.refl _ _⟩
  have HOK := hid ok1
  clear ok1
  have hsmall := sa_small X0 len0 (fun i => (X1 i).d) len1
  obtain ⟨XX, hXX⟩ : ∃ X, saX X0 len0 (fun i => (X1 i).d) len1 = X := ⟨_, rfl⟩
  obtain ⟨bb, hbb⟩ : ∃ b, goodB X0 len0 (fun i => (X1 i).d) len1 = b := ⟨_, rfl⟩
  obtain ⟨nn, hnn⟩ : ∃ n, (if goodB X0 len0 (fun i => (X1 i).d) len1 = true then len1 else 0) = n := ⟨_, rfl⟩
  rw [hnn, hXX] at hsmall
  obtain ⟨hs8, hs12⟩ := hsmall
  have HXX := hid hXX
  have HBB := hid hbb
  have HNN := hid hnn
  obtain ⟨N, hNd⟩ : ∃ N : Nat → Nat, ∀ i, (XX i).Flats.length = N i := ⟨_, fun _ => rfl⟩
  have HND := hid hNd
  have hs := sum12 (N := N) (n := nn) fun i hi => by rw [← hNd]; exact hs12 i hi
  have HS : Hid (nn + sumK N nn ≤ 2097152) := by unfold Hid; omega
  have HS12 := hid hs12
  clear hXX hbb hnn hNd hs hs12
  have hLL : (saL X0 len0 (fun i => (X1 i).d) len1).length ≤ 1048576 := by have := saL_le X0 len0 (fun i => (X1 i).d) len1; omega
  obtain ⟨LL, hLe⟩ : ∃ LL, saL X0 len0 (fun i => (X1 i).d) len1 = LL := ⟨_, rfl⟩
  rw [hLe] at hLL
  have HLe := hid hLe
  clear hLe
  go_enter Try.func13, Try.ntmps13
  go_wp2_with fail
  refine (szFlatS_any p0 len0 cap0 _ hm0).mono ?_
  rintro e w0 ⟨rfl, rfl⟩
  rw [if_pos hL0]
  go_wp2_with fail
  refine (szDrawerS_any p1 len1 cap1 X1 w (1048576 - (len0 : Int)) h1 (fun i hi => (HOK.out i hi).2) hm1 (by omega) (by omega)).mono ?_
  rintro e w0 ⟨r, rfl, hb0, hr⟩
  have z0 := hb0.size
  by_cases hr0 : r < 0
  · go_wp2_with fail
    go_ret
    exact ⟨rfl, hb0⟩
  have hsum := hr (by omega)
  have hN : Hid (∀ i, i < len1 → (X1 i).n ≤ 1048576) := fun i hi => by have := sumN_le (X := X1) hi; omega
  have hLL1 : Hid (∀ i, i < len1 → (X1 i).d.Flats.length ≤ 1048576) := fun i hi => by rw [DrawerL.d_len]; exact hN.out i hi
  have hSK : Hid (len1 + sumK (fun i => (X1 i).d.Flats.length) len1 ≤ 1048576) := by unfold Hid; rw [sumK_sumN]; exact hsum
  have hlen1 : len1 ≤ 1048576 := by omega
  clear hr hsum
  go_wp2_with fail
  refine (toFlatS_any p0 len0 cap0 X0 _ (h0.below hb0) (by omega)).mono ?_
  rintro e w1 ⟨rfl, hb1, hs1, F1⟩
  have z1 := hb1.size
  have B1 : Below w.heap.size w w1 := Below.on hb0 hb0.size hb1
  go_wp2_with fail
  refine (toDrawerS_any p1 len1 cap1 X1 _ (h1.below B1) (fun i hi => (HOK.out i hi).below B1) hN.out (by omega)).mono ?_
  rintro e w2 ⟨rfl, hb2, hs2, FD2⟩
  have MK2 := hid FD2.mk
  obtain ⟨S2, D2⟩ := FD2.drs
  clear FD2
  have z2 := hb2.size
  have B2 : Below w.heap.size w w2 := Below.on B1 B1.size hb2
  go_wp2_with fail
  refine (sa_spec _ 0 len0 len0 _ 0 len1 len1 X0 (fun i => (X1 i).d) S2 _ (F1.rw.later' hb2) (by omega) (Nat.le_refl _) D2 hLL1.out (by omega) (Nat.le_refl _)).mono ?_
  unfold RetDIB
  rw [HXX.out, HNN.out, HBB.out, HLe.out]
  rintro e w3 ⟨v, Pv, vL, Hv, rfl, o0, hPv, hHv, l0, hl1v, hl2v, hb3⟩
  have ov := hid o0
  clear o0
  have HPv := hid hPv
  have HPlv : Hid (Pv.length = nn) := by have := congrArg List.length hPv; simpa [Hid, lstD] using this
  clear hPv
  have lv := hid l0
  have qv := hid (And.intro hl1v hl2v)
  clear l0 hl1v hl2v
  obtain ⟨av, cv, hvv⟩ : ∃ a c, v = .slice a nn c := by rcases ov.out.form with ⟨h, h0⟩ | ⟨g, cp, h, _⟩; exact ⟨none, 0, by rw [h]; have := HPlv.out; rw [h0] at this; simp at this; rw [← this]⟩; exact ⟨_, _, by rw [h, HPlv.out]⟩
  subst hvv
  obtain ⟨bv, dv, rfl, _⟩ := lv.out.slice
  have z3 := hb3.size
  have B3 : Below w.heap.size w w3 := Below.on B2 B2.size hb3
  go_wp2_with fail
  refine (toFlatS_any p0 len0 cap0 X0 _ (h0.below B3) (by omega)).mono ?_
  rintro e w4 ⟨rfl, hb4, hs4, F4⟩
  have z4 := hb4.size
  have B4 : Below w.heap.size w w4 := Below.on B3 B3.size hb4
  go_wp2_with fail
  refine (toDrawerS_any p1 len1 cap1 X1 _ (h1.below B4) (fun i hi => (HOK.out i hi).below B4) hN.out (by omega)).mono ?_
  rintro e w5 ⟨rfl, hb5, hs5, FD5⟩
  have MK5 := hid FD5.mk
  obtain ⟨S5, D5⟩ := FD5.drs
  clear FD5
  have z5 := hb5.size
  have B5 : Below w.heap.size w w5 := Below.on B4 B4.size hb5
  go_wp2_with fail
  refine (sa_impl _ 0 len0 len0 _ 0 len1 len1 X0 (fun i => (X1 i).d) S5 _ (F4.rw.later' hb5) (by omega) (Nat.le_refl _) D5 hLL1.out (by omega) (Nat.le_refl _)).mono ?_
  unfold RetDIB
  rw [HXX.out, HNN.out, HBB.out, HLe.out]
  rintro e w6 ⟨g, Pg, gL, Hg, rfl, o0, hPg, hHg, l0, hl1g, hl2g, hb6⟩
  have og := hid o0
  clear o0
  have HPg := hid hPg
  have HPlg : Hid (Pg.length = nn) := by have := congrArg List.length hPg; simpa [Hid, lstD] using this
  clear hPg
  have lg := hid l0
  have qg := hid (And.intro hl1g hl2g)
  clear l0 hl1g hl2g
  obtain ⟨ag, cg, hvg⟩ : ∃ a c, g = .slice a nn c := by rcases og.out.form with ⟨h, h0⟩ | ⟨g, cp, h, _⟩; exact ⟨none, 0, by rw [h]; have := HPlg.out; rw [h0] at this; simp at this; rw [← this]⟩; exact ⟨_, _, by rw [h, HPlg.out]⟩
  subst hvg
  obtain ⟨bg, dg, rfl, _⟩ := lg.out.slice
  have z6 := hb6.size
  have B6 : Below w.heap.size w w6 := Below.on B5 B5.size hb6
  go_wp2_with fail
  refine (eqDrawerS_own (.slice ag nn cg) (.slice av nn cv) Pg Pv _ _ _ og.out (((ov.out.below hb4).below hb5).below hb6) (HPg.out.trans HPv.out.symm) (by rw [HPlg.out]; omega) (fun d hd => by rw [HPg.out] at hd; simp [lstD] at hd; obtain ⟨i, hi, rfl⟩ := hd; have := HS12.out i hi; omega)).mono ?_
  rintro e w7 ⟨rfl, hb7⟩
  have z7 := hb7.size
  have B7 : Below w.heap.size w w7 := Below.on B6 B6.size hb7
  go_wp2_with fail
  refine (eqIntS_own (.slice bg LL.length dg) (.slice bv LL.length dv) LL _ _ _ (lg.out.below hb7) ((((lv.out.below hb4).below hb5).below hb6).below hb7) hLL).mono ?_
  rintro e w8 ⟨rfl, hb8⟩
  have z8 := hb8.size
  have B8 : Below w.heap.size w w8 := Below.on B7 B7.size hb8
  go_wp2_with fail
  refine (toFlatS_any p0 len0 cap0 X0 _ (h0.below B8) (by omega)).mono ?_
  rintro e w9 ⟨rfl, hb9, hs9, F9⟩
  have z9 := hb9.size
  have B9 : Below w.heap.size w w9 := Below.on B8 B8.size hb9
  go_wp2_with fail
  refine (eqFlatS_same _ _ 0 0 len0 len0 len0 X0 _ (((((F4.rw.later' hb5).later' hb6).later' hb7).later' hb8).later' hb9) F9.rw (by omega) (Nat.le_refl _) (Nat.le_refl _)).mono ?_
  rintro e w10 ⟨rfl, hb10⟩
  have z10 := hb10.size
  have B10 : Below w.heap.size w w10 := Below.on B9 B9.size hb10
  go_wp2_with fail
  refine (toDrawerS_any p1 len1 cap1 X1 _ (h1.below B10) (fun i hi => (HOK.out i hi).below B10) hN.out (by omega)).mono ?_
  rintro e w11 ⟨rfl, hb11, hs11, FD11⟩
  have MK11 := hid FD11.mk
  obtain ⟨S11, D11⟩ := FD11.drs
  clear FD11
  have z11 := hb11.size
  have B11 : Below w.heap.size w w11 := Below.on B10 B10.size hb11
  go_wp2_with fail
  refine (eqDrawerS_same _ _ 0 0 len1 len1 len1 (fun i => (X1 i).d) S5 S11 _ ((((((D5.below hb6).below hb7).below hb8).below hb9).below hb10).below hb11) D11 hLL1.out (by omega) (Nat.le_refl _) (Nat.le_refl _)).mono ?_
  rintro e w12 ⟨rfl, hb12⟩
  have z12 := hb12.size
  have B12 : Below w.heap.size w w12 := Below.on B11 B11.size hb12
  go_wp2_with fail
  refine (markFlatS_any _ len0 len0 1 _ ((((((((F4.below hb5 (by omega)).below hb6 (by omega)).below hb7 (by omega)).below hb8 (by omega)).below hb9 (by omega)).below hb10 (by omega)).below hb11 (by omega)).below hb12 (by omega)).blk (Nat.le_refl _) (by omega) (by omega) (by omega)).mono ?_
  rintro e w13 ⟨rfl, gr13⟩
  have z13 := gr13.size
  have B13 : Below w.heap.size w w13 := B12.grown gr13 B12.size (fun k hk => by cases hk; omega)
  have O13 := Only.of_grown (P := fun i => i = w3.heap.size) gr13 rfl
  go_wp2_with fail
  refine (markDrawerS_any _ len1 len1 _ _ (1 + 4 * (len0 : Int)) _ ((((((((MK5.out.below hb6).below hb7).below hb8).below hb9).below hb10).below hb11).below hb12).only O13 (fun i hi => .inl (by omega))) (Nat.le_refl _) hSK.out (by omega) (by omega)).mono ?_
  rintro e w14 ⟨rfl, on14⟩
  have z14 := on14.size
  have B14 : Below w.heap.size w w14 := Only.below B13 on14 B13.size (fun i hi => by have := B4.size; omega)
  have ov8 := hid (((((((((((ov.out.below hb4).below hb5).below hb6).below hb7).below hb8).below hb9).below hb10).below hb11).below hb12).only' O13 (fun i hi e => by have := ov.out.lt i hi; omega) (fun j hj i hi e => by have := (ov.out.inn_lt hj i hi).2; omega)).only' on14 (fun i hi e => by have := ov.out.lt i hi; omega) (fun j hj i hi e => by have := (ov.out.inn_lt hj i hi).2; omega))
  have og8 := hid ((((((((og.out.below hb7).below hb8).below hb9).below hb10).below hb11).below hb12).only' O13 (fun i hi e => by have := og.out.ge i hi; omega) (fun j hj i hi e => by have := (og.out.inn_lt hj i hi).1; omega)).only' on14 (fun i hi e => by have := og.out.ge i hi; omega) (fun j hj i hi e => by have := (og.out.inn_lt hj i hi).1; omega))
  have lv8 := hid (((((((((((lv.out.below hb4).below hb5).below hb6).below hb7).below hb8).below hb9).below hb10).below hb11).below hb12).only O13 (fun i hi e => by have := lv.out.lt i hi; omega)).only on14 (fun i hi e => by have := lv.out.lt i hi; omega))
  have lg8 := hid ((((((((lg.out.below hb7).below hb8).below hb9).below hb10).below hb11).below hb12).only O13 (fun i hi e => by have := lg.out.ge i hi; omega)).only on14 (fun i hi e => by have := lg.out.ge i hi; omega))
  obtain ⟨sk, hsk⟩ : ∃ s, sumK (fun i => (X1 i).d.Flats.length) len1 = s := ⟨_, rfl⟩
  rw [hsk]
  have hkn : decide (1 + 4 * (len0 : Int) + 4 * (len1 : Int) + (sk : Int) < 0) = false := by simp; omega
  clear hsk
  go_wp2_with fail
  refine (eqDrawerS_own (.slice ag nn cg) (.slice av nn cv) Pg Pv _ _ _ og8.out ov8.out (HPg.out.trans HPv.out.symm) (by rw [HPlg.out]; omega) (fun d hd => by rw [HPg.out] at hd; simp [lstD] at hd; obtain ⟨i, hi, rfl⟩ := hd; have := HS12.out i hi; omega)).mono ?_
  rintro e w15 ⟨rfl, hb15⟩
  have z15 := hb15.size
  have B15 : Below w.heap.size w w15 := Below.on B14 B14.size hb15
  go_wp2_with fail
  refine (eqIntS_own (.slice bg LL.length dg) (.slice bv LL.length dv) LL _ _ _ (lg8.out.below hb15) (lv8.out.below hb15) hLL).mono ?_
  rintro e w16 ⟨rfl, hb16⟩
  have z16 := hb16.size
  have B16 : Below w.heap.size w w16 := Below.on B15 B15.size hb16
  go_wp2_with fail
  refine (markDrawerS_ownH (.slice ag nn cg) Pg _ Hg 1 _ ((og8.out.below hb15).below hb16) qg.out.1 qg.out.2 N (fun i hi => by rw [fst_at HPg.out (by rw [← HPlg.out]; exact hi)]; exact HND.out i) (by rw [HPlg.out]; exact HS.out) (by omega) (by omega)).mono ?_
  rw [HPlg.out]
  rintro e w17 ⟨rfl, oM0, on17⟩
  have oM := hid oM0
  clear oM0
  have z17 := on17.size
  have B17 : Below w.heap.size w w17 := Only.below B16 on17 B16.size (fun i hi => by have := B5.size; omega)
  have ov10 := hid (((ov8.out.below hb15).below hb16).only' on17 (fun i hi e => by have := ov.out.lt i hi; omega) (fun j hj i hi e => by have := (ov.out.inn_lt hj i hi).2; omega))
  have lv10 := hid (((lv8.out.below hb15).below hb16).only on17 (fun i hi e => by have := lv.out.lt i hi; omega))
  have lg10 := hid (((lg8.out.below hb15).below hb16).only on17 (fun i hi e => by have := lg.out.ge i hi; omega))
  obtain ⟨kk, hkk⟩ : ∃ k, kb 1 N nn = k := ⟨_, rfl⟩
  have hk0 : decide (kk < 0) = false := by rw [← hkk]; unfold kb; simp; omega
  have hk1 : 0 ≤ kk ∧ kk ≤ 536870912 := by have h8 := HS.out; rw [← hkk]; unfold kb; omega
  rw [hkk]
  have HKK := hid hkk
  clear hkk
  obtain ⟨k2, hk2⟩ : ∃ k, kk + (LL.length : Int) = k := ⟨_, rfl⟩
  have hk3 : decide (k2 < 0) = false := by rw [← hk2]; simp; omega
  have HK2 := hid hk2
  clear hk2
  go_wp2_with fail
  refine (markIntS_own (.slice bg LL.length dg) LL _ kk _ lg10.out (by omega) (by omega) (by omega)).mono ?_
  rw [HK2.out]
  rintro e w18 ⟨rfl, lM0, gr18⟩
  have lM := hid lM0
  clear lM0
  have z18 := gr18.size
  have B18 : Below w.heap.size w w18 := B17.grown gr18 B17.size (fun k hk => by have := lg.out.ge k hk; have := B5.size; omega)
  have on18 := Only.of_grown' (P := fun i => Hg ≤ i) gr18 (fun q hq => lg.out.ge q hq)
  have ov15 := hid (ov10.out.only' on18 (fun i hi e => by have := ov.out.lt i hi; omega) (fun j hj i hi e => by have := (ov.out.inn_lt hj i hi).2; omega))
  have lv15 := hid (lv10.out.only on18 (fun i hi e => by have := lv.out.lt i hi; omega))
  have oM15 := hid (oM.out.only' on18 (fun i hi e => by have := qg.out.1 i hi; omega) (fun j hj i hi e => by rw [mixP_len] at hj; rw [mixP_snd hj] at hi; have := qg.out.2 j hj i hi; omega))
  go_wp2_with fail
  refine (heldDrawerS_own (.slice ag nn cg) (mixP 1 N Pg nn) nn _ 1 _ oM15.out (by rw [mixP_len]; exact HPlg.out) N (fun i hi => mixP_all HPlg.out hi) HS.out (by omega) (by omega)).mono ?_
  rw [HKK.out]
  rintro e w19 ⟨rfl, rfl⟩
  go_wp2_with fail
  refine (heldIntS_own (.slice bg LL.length dg) LL.length _ kk _ lM.out (by omega) (by omega) (by omega)).mono ?_
  rw [HK2.out]
  rintro e w20 ⟨rfl, rfl⟩
  go_wp2_with fail
  refine (toFlatS_any p0 len0 cap0 X0 _ (h0.below B18) (by omega)).mono ?_
  rintro e w21 ⟨rfl, hb21, hs21, F21⟩
  have z21 := hb21.size
  have B21 : Below w.heap.size w w21 := Below.on B18 B18.size hb21
  go_wp2_with fail
  refine (toDrawerS_any p1 len1 cap1 X1 _ (h1.below B21) (fun i hi => (HOK.out i hi).below B21) hN.out (by omega)).mono ?_
  rintro e w22 ⟨rfl, hb22, hs22, FD22⟩
  obtain ⟨S22, D22⟩ := FD22.drs
  clear FD22
  have z22 := hb22.size
  have B22 : Below w.heap.size w w22 := Below.on B21 B21.size hb22
  go_wp2_with fail
  refine (sa_impl _ 0 len0 len0 _ 0 len1 len1 X0 (fun i => (X1 i).d) S22 _ (F21.rw.later' hb22) (by omega) (Nat.le_refl _) D22 hLL1.out (by omega) (Nat.le_refl _)).mono ?_
  unfold RetDIB
  rw [HXX.out, HNN.out, HBB.out, HLe.out]
  rintro e w23 ⟨u, Pu, uL, Hu, rfl, o0, hPu, hHu, l0, hl1u, hl2u, hb23⟩
  have ou := hid o0
  clear o0
  have HPu := hid hPu
  have HPlu : Hid (Pu.length = nn) := by have := congrArg List.length hPu; simpa [Hid, lstD] using this
  clear hPu
  have lu := hid l0
  have qu := hid (And.intro hl1u hl2u)
  clear l0 hl1u hl2u
  obtain ⟨au, cu, hvu⟩ : ∃ a c, u = .slice a nn c := by rcases ou.out.form with ⟨h, h0⟩ | ⟨g, cp, h, _⟩; exact ⟨none, 0, by rw [h]; have := HPlu.out; rw [h0] at this; simp at this; rw [← this]⟩; exact ⟨_, _, by rw [h, HPlu.out]⟩
  subst hvu
  obtain ⟨bu, du, rfl, _⟩ := lu.out.slice
  have z23 := hb23.size
  have B23 : Below w.heap.size w w23 := Below.on B22 B22.size hb23
  go_wp2_with fail
  refine (eqDrawerS_own (.slice au nn cu) (.slice av nn cv) Pu Pv _ _ _ ou.out (((ov15.out.below hb21).below hb22).below hb23) (HPu.out.trans HPv.out.symm) (by rw [HPlu.out]; omega) (fun d hd => by rw [HPu.out] at hd; simp [lstD] at hd; obtain ⟨i, hi, rfl⟩ := hd; have := HS12.out i hi; omega)).mono ?_
  rintro e w24 ⟨rfl, hb24⟩
  have z24 := hb24.size
  have B24 : Below w.heap.size w w24 := Below.on B23 B23.size hb24
  go_wp2_with fail
  refine (eqIntS_own (.slice bu LL.length du) (.slice bv LL.length dv) LL _ _ _ (lu.out.below hb24) ((((lv15.out.below hb21).below hb22).below hb23).below hb24) hLL).mono ?_
  rintro e w25 ⟨rfl, hb25⟩
  have z25 := hb25.size
  have B25 : Below w.heap.size w w25 := Below.on B24 B24.size hb25
  go_wp2_with fail
  refine (heldDrawerS_own (.slice ag nn cg) (mixP 1 N Pg nn) nn _ 1 _ (((((oM15.out.below hb21).below hb22).below hb23).below hb24).below hb25) (by rw [mixP_len]; exact HPlg.out) N (fun i hi => mixP_all HPlg.out hi) HS.out (by omega) (by omega)).mono ?_
  rw [HKK.out]
  rintro e w26 ⟨rfl, rfl⟩
  go_wp2_with fail
  refine (heldIntS_own (.slice bg LL.length dg) LL.length _ kk _ (((((lM.out.below hb21).below hb22).below hb23).below hb24).below hb25) (by omega) (by omega) (by omega)).mono ?_
  rw [HK2.out]
  rintro e w27 ⟨rfl, rfl⟩
  go_wp2_with fail
  go_ret
  exact ⟨rfl, B25⟩

end Go.Proofs.Ytejpmomedclnhaa
