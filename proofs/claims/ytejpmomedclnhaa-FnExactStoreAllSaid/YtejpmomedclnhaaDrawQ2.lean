/-
  PutFlat by both. No condition.
-/
import Derived.Test.YtejpmomedclnhaaDrawQ
namespace Go.Proofs.Ytejpmomedclnhaa
open Go.RowKit
set_option linter.unusedVariables false

set_option maxRecDepth 100000 in
set_option maxHeartbeats 4000000 in
theorem pf_impl (b1 o1 m c1 b off n cap : Nat) (Y : Nat → FlatD) (X : Nat → DrawerD) (S : Nat → Value) (flat id : Int) (w : World) (h1 : Rw w b1 o1 4 m (fun i => (Y i).cells)) (hm1 : m ≤ 1048576) (hlc1 : m ≤ c1) (h : Drs w b off n X S) (hL : ∀ i, i < n → (X i).Flats.length ≤ 1048576) (hm : n ≤ 1048576) (hlc : n ≤ cap) :
    Calls Try.prog 49 #[.slice (some ⟨b1, o1, none⟩) m c1, .slice (some ⟨b, off, none⟩) n cap, .int .i64 flat, .int .i64 id] w (RetDB (putX X (dAt X n id).toNat flat) (if pfOk Y m X n flat id = true then n else 0) (pfOk Y m X n flat id) w) := by
  have hb1 := h1.1
  have KI := drawerAt_impl w b off n cap X S id h hm hlc
  have HR := hid h1
  have H := hid h
  have HL := hid hL
  obtain ⟨R, hR⟩ : ∃ R, pfOk Y m X n flat id = R := ⟨_, rfl⟩
  obtain ⟨nn, hnn⟩ : ∃ nn, (if R = true then n else 0) = nn := ⟨_, rfl⟩
  obtain ⟨XX, hXX⟩ : ∃ XX, putX X (dAt X n id).toNat flat = XX := ⟨_, rfl⟩
  rw [hR, hnn, hXX]
  have HRR := hid hR
  have HNN := hid hnn
  have HXX := hid hXX
  clear hR hnn hXX
  clear h1 h hL
  obtain ⟨r, hr⟩ : ∃ r, looseB Y m X n flat = r := ⟨_, rfl⟩
  have HG := hid hr
  clear hr
  rcases dAt_cases X n id with hd | ⟨j, hj, hd, hid1⟩
  · rw [hd] at KI
    have HD := hid hd
    clear hd
    have hno : Hid (R = false) := HRR.out.symm.trans (pf_none HD.out)
    cases r with
    | false =>
      go_enter Try.func49, Try.ntmps49
      go_wp2_with fail
      refine KI.mono ?_
      rintro e w1 ⟨rfl, B1⟩
      have KL := isLoose_impl b1 o1 m c1 b off n cap Y X S flat w1 (HR.out.below B1 hb1) hm1 hlc1 (H.out.below B1) HL.out hm hlc
      rw [HG.out] at KL
      go_wp2_with fail
      refine KL.mono ?_
      rintro e w2 ⟨rfl, hb2⟩
      go_wp2_with fail
      go_ret2
      exact ⟨_, [], by rw [hno.out]; rfl, OwnP.nil _ _, by rw [← HNN.out, hno.out]; rfl, Below.on B1 B1.size hb2⟩
    | true =>
      go_enter Try.func49, Try.ntmps49
      go_wp2_with fail
      refine KI.mono ?_
      rintro e w1 ⟨rfl, B1⟩
      have KL := isLoose_impl b1 o1 m c1 b off n cap Y X S flat w1 (HR.out.below B1 hb1) hm1 hlc1 (H.out.below B1) HL.out hm hlc
      rw [HG.out] at KL
      go_wp2_with fail
      refine KL.mono ?_
      rintro e w2 ⟨rfl, hb2⟩
      go_wp2_with fail
      go_ret2
      exact ⟨_, [], by rw [hno.out]; rfl, OwnP.nil _ _, by rw [← HNN.out, hno.out]; rfl, Below.on B1 B1.size hb2⟩
  · clear hid1
    rw [hd] at KI
    have HD := hid hd
    clear hd
    have e4 : decide ((j : Int) < 0) = false := by simp
    cases r with
    | false =>
      have hno : Hid (R = false) := HRR.out.symm.trans (pf_loose HG.out)
      go_enter Try.func49, Try.ntmps49
      go_wp2_with fail
      refine KI.mono ?_
      rintro e w1 ⟨rfl, B1⟩
      have KL := isLoose_impl b1 o1 m c1 b off n cap Y X S flat w1 (HR.out.below B1 hb1) hm1 hlc1 (H.out.below B1) HL.out hm hlc
      rw [HG.out] at KL
      go_wp2_with fail
      refine KL.mono ?_
      rintro e w2 ⟨rfl, hb2⟩
      go_wp2_with fail
      go_ret2
      exact ⟨_, [], by rw [hno.out]; rfl, OwnP.nil _ _, by rw [← HNN.out, hno.out]; rfl, Below.on B1 B1.size hb2⟩
    | true =>
      have hcan : Hid (canB Y m X n flat j = R) := (pf_at HG.out HD.out).symm.trans HRR.out
      have hX : Hid (putX X j flat = XX) := by unfold Hid; rw [← HXX.out, HD.out, Int.toNat_natCast]
      go_enter Try.func49, Try.ntmps49
      go_wp2_with fail
      refine KI.mono ?_
      rintro e w1 ⟨rfl, B1⟩
      have KL := isLoose_impl b1 o1 m c1 b off n cap Y X S flat w1 (HR.out.below B1 hb1) hm1 hlc1 (H.out.below B1) HL.out hm hlc
      rw [HG.out] at KL
      go_wp2_with fail
      refine KL.mono ?_
      rintro e w2 ⟨rfl, hb2⟩
      have B2 := Below.on B1 B1.size hb2
      have KP := putFlat_impl b1 o1 m c1 b off n cap Y X S flat j w2 (HR.out.below B2 hb1) hm1 hlc1 (H.out.below B2) HL.out hm hlc hj HG.out
      rw [hcan.out, hX.out, HNN.out] at KP
      go_wp2_with fail
      refine KP.mono ?_
      rintro e w3 ⟨v, P, rfl, ho, hP, hb3⟩
      have HO := hid ho
      have HP := hid hP
      have hv : ∃ a l c, v = .slice a l c := by rcases ho.form with ⟨rfl, _⟩ | ⟨g, cp, rfl, _⟩ <;> exact ⟨_, _, _, rfl⟩
      obtain ⟨va, vl, vc, rfl⟩ := hv
      clear ho hP
      go_wp2_with fail
      go_ret2
      exact ⟨_, P, rfl, HO.out.base B2.size, HP.out, Below.on B2 B2.size hb3⟩

set_option maxRecDepth 100000 in
set_option maxHeartbeats 4000000 in
theorem pf_spec (b1 o1 m c1 b off n cap : Nat) (Y : Nat → FlatD) (X : Nat → DrawerD) (S : Nat → Value) (flat id : Int) (w : World) (h1 : Rw w b1 o1 4 m (fun i => (Y i).cells)) (hm1 : m ≤ 1048576) (hlc1 : m ≤ c1) (h : Drs w b off n X S) (hL : ∀ i, i < n → (X i).Flats.length ≤ 1048576) (hm : n ≤ 1048576) (hlc : n ≤ cap) :
    Calls Try.prog 48 #[.slice (some ⟨b1, o1, none⟩) m c1, .slice (some ⟨b, off, none⟩) n cap, .int .i64 flat, .int .i64 id] w (RetDB (putX X (dAt X n id).toNat flat) (if pfOk Y m X n flat id = true then n else 0) (pfOk Y m X n flat id) w) := by
  have hb1 := h1.1
  have hb := h.rw.1
  have KI := dIndex_spec w b off n cap X S id h hm hlc
  have KG : Calls Try.prog 60 #[.slice (some ⟨b1, o1, none⟩) m c1, .slice (some ⟨b, off, none⟩) n cap] w fun e w'' => e = .returned (.bool (goodB Y m X n)) ∧ Below w.heap.size w w'' := good_spec b1 o1 m c1 b off n cap Y X S w h1 hm1 hlc1 h hL hm hlc
  have HR := hid h1
  have H := hid h
  have HL := hid hL
  obtain ⟨R, hR⟩ : ∃ R, pfOk Y m X n flat id = R := ⟨_, rfl⟩
  obtain ⟨nn, hnn⟩ : ∃ nn, (if R = true then n else 0) = nn := ⟨_, rfl⟩
  obtain ⟨XX, hXX⟩ : ∃ XX, putX X (dAt X n id).toNat flat = XX := ⟨_, rfl⟩
  rw [hR, hnn, hXX]
  have HRR := hid hR
  have HNN := hid hnn
  have HXX := hid hXX
  clear hR hnn hXX
  clear h1 h hL
  obtain ⟨r, hr⟩ : ∃ r, goodB Y m X n = r := ⟨_, rfl⟩
  rw [hr] at KG
  have HG := hid hr
  clear hr
  rcases dAt_cases X n id with hd | ⟨j, hj, hd, hid1⟩
  · rw [hd] at KI
    have HD := hid hd
    clear hd
    have hno : Hid (R = false) := HRR.out.symm.trans (pf_none HD.out)
    cases r with
    | false =>
      go_enter Try.func48, Try.ntmps48
      go_wp2_with fail
      refine KI.mono ?_
      rintro e w' ⟨rfl, rfl⟩
      go_wp2_with fail
      refine KG.mono ?_
      rintro e w1 ⟨rfl, B1⟩
      have hE := hid (OwnP.empty w1)
      go_wp2_with fail
      go_ret2
      exact ⟨_, [], by rw [hno.out]; rfl, hE.out.base B1.size, by rw [← HNN.out, hno.out]; rfl, B1.alloc B1.size _⟩
    | true =>
      go_enter Try.func48, Try.ntmps48
      go_wp2_with fail
      refine KI.mono ?_
      rintro e w' ⟨rfl, rfl⟩
      go_wp2_with fail
      refine KG.mono ?_
      rintro e w1 ⟨rfl, B1⟩
      have hE := hid (OwnP.empty w1)
      go_wp2_with fail
      go_ret2
      exact ⟨_, [], by rw [hno.out]; rfl, hE.out.base B1.size, by rw [← HNN.out, hno.out]; rfl, B1.alloc B1.size _⟩
  · clear hid1
    rw [hd] at KI
    have HD := hid hd
    clear hd
    have e4 : decide ((j : Int) < 0) = false := by simp
    have e5 : (0 : Int) ≤ (j : Int) := by omega
    have e6 : (j : Int) < (n : Int) := by omega
    cases r with
    | false =>
      have hno : Hid (R = false) := HRR.out.symm.trans (pf_loose (loose_no1 HG.out))
      go_enter Try.func48, Try.ntmps48
      go_wp2_with fail
      refine KI.mono ?_
      rintro e w' ⟨rfl, rfl⟩
      go_wp2_with fail
      refine KG.mono ?_
      rintro e w1 ⟨rfl, B1⟩
      have hE := hid (OwnP.empty w1)
      go_wp2_with fail
      go_ret2
      exact ⟨_, [], by rw [hno.out]; rfl, hE.out.base B1.size, by rw [← HNN.out, hno.out]; rfl, B1.alloc B1.size _⟩
    | true =>
      rcases fAt_cases Y m flat with hf | ⟨i, hi, hf, hid1⟩
      · have HF := hid hf
        clear hf
        have hno : Hid (R = false) := HRR.out.symm.trans (pf_loose (loose_no2 HF.out))
        go_enter Try.func48, Try.ntmps48
        go_wp2_with fail
        refine KI.mono ?_
        rintro e w' ⟨rfl, rfl⟩
        go_wp2_with fail
        refine KG.mono ?_
        rintro e w1 ⟨rfl, B1⟩
        have KF : Calls Try.prog 67 #[.slice (some ⟨b1, o1, none⟩) m c1, .int .i64 flat] w1 fun e w' => e = .returned (.int .i64 (fAt Y m flat)) ∧ w1 = w' := flatFind_spec w1 b1 o1 m c1 Y flat (HR.out.below B1 hb1) hm1 hlc1
        rw [HF.out] at KF
        go_wp2_with fail
        refine KF.mono ?_
        rintro e w' ⟨rfl, rfl⟩
        have hE := hid (OwnP.empty w1)
        go_wp2_with fail
        go_ret2
        exact ⟨_, [], by rw [hno.out]; rfl, hE.out.base B1.size, by rw [← HNN.out, hno.out]; rfl, B1.alloc B1.size _⟩
      · clear hid1
        have HF := hid hf
        clear hf
        have e7 : decide ((i : Int) < 0) = false := by simp
        rcases whereI_cases X n flat with hw | ⟨t, ht, hw⟩
        · have HW := hid hw
          clear hw
          have HLO := hid (loose_yes HG.out HF.out HW.out)
          have hcan : Hid (canB Y m X n flat j = R) := (pf_at HLO.out HD.out).symm.trans HRR.out
          have hX : Hid (putX X j flat = XX) := by unfold Hid; rw [← HXX.out, HD.out, Int.toNat_natCast]
          have hlen12 := drawerB_len (goodB_drawer HG.out hj)
          have h8 := goodB_le HG.out
          have HLP := hid (putX_len (flat := flat) HL.out hlen12)
          go_enter Try.func48, Try.ntmps48
          go_wp2_with fail
          refine KI.mono ?_
          rintro e w' ⟨rfl, rfl⟩
          go_wp2_with fail
          refine KG.mono ?_
          rintro e w1 ⟨rfl, B1⟩
          have KF : Calls Try.prog 67 #[.slice (some ⟨b1, o1, none⟩) m c1, .int .i64 flat] w1 fun e w' => e = .returned (.int .i64 (fAt Y m flat)) ∧ w1 = w' := flatFind_spec w1 b1 o1 m c1 Y flat (HR.out.below B1 hb1) hm1 hlc1
          rw [HF.out] at KF
          go_wp2_with fail
          refine KF.mono ?_
          rintro e w' ⟨rfl, rfl⟩
          have KW := where_spec b off n cap X S flat w1 (H.out.below B1) HL.out hm hlc
          rw [HW.out] at KW
          go_wp2_with fail
          refine KW.mono ?_
          rintro e w' ⟨rfl, rfl⟩
          have KP := put_spec w1 (S j) (X j).Flats flat ((H.out.has j hj).below B1) (HL.out j hj) (looseB_not HLO.out hj)
          have x4 : w1.cell? ⟨b, off + j * 5 + 4, none⟩ = some (S j) := (B1.cell hb).trans (H.out.rw.2 j hj 4 (by omega))
          go_wp2_with fail
          refine KP.mono ?_
          rintro e w2 ⟨u, rfl, hu, hb2⟩
          have B2 := Below.on B1 B1.size hb2
          have KW2 := with_spec w2 b off n cap X S (j : Int) u (insI flat (X j).Flats) (H.out.below B2) HL.out hm hlc hu.has (by rw [insI_len]; omega)
          clear hu x4
          go_wp2_with fail
          refine KW2.mono ?_
          rintro e w3 ⟨v, P, rfl, ho, hP, hb3⟩
          have B3 := Below.on B2 B2.size hb3
          have hPn : P.length = n := by have := congrArg List.length hP; simpa [lstD] using this
          rcases ho.form with ⟨_, h0⟩ | ⟨g, cp, rfl, hgB, hg, hnc, hcm, hdrs, hblk⟩
          · rw [h0] at hPn; simp at hPn; omega
          rw [hPn] at ho hnc hdrs ⊢
          have HP := hid hP
          have drs5 := hdrs.congr fun i hi => fst_at hP hi
          have KG2 := good_spec b1 o1 m c1 g 0 n cp Y (putX X j flat) _ w3 (HR.out.below B3 hb1) hm1 hlc1 drs5 HLP.out (by omega) hnc
          rw [show goodB Y m (putX X j flat) n = R from hcan.out] at KG2
          have HO := hid ho
          clear ho hP hPn hdrs hblk drs5
          cases R with
          | false =>
            have hno : Hid (false = false) := rfl
            go_wp2_with fail
            refine KG2.mono ?_
            rintro e w4 ⟨rfl, hb4⟩
            have B4 := Below.on B3 B3.size hb4
            have hE := hid (OwnP.empty w4)
            go_wp2_with fail
            go_ret2
            exact ⟨_, [], rfl, hE.out.base B4.size, by rw [← HNN.out]; rfl, B4.alloc B4.size _⟩
          | true =>
            go_wp2_with fail
            refine KG2.mono ?_
            rintro e w4 ⟨rfl, hb4⟩
            have HO4 := hid (HO.out.below hb4)
            go_wp2_with fail
            go_ret2
            exact ⟨_, _, rfl, HO4.out.base B2.size, by rw [← HNN.out, ← hX.out]; exact HP.out, Below.on B3 B3.size hb4⟩
        · have HW := hid hw
          clear hw
          have hno : Hid (R = false) := HRR.out.symm.trans (pf_loose (loose_no3 HW.out))
          go_enter Try.func48, Try.ntmps48
          go_wp2_with fail
          refine KI.mono ?_
          rintro e w' ⟨rfl, rfl⟩
          go_wp2_with fail
          refine KG.mono ?_
          rintro e w1 ⟨rfl, B1⟩
          have KF : Calls Try.prog 67 #[.slice (some ⟨b1, o1, none⟩) m c1, .int .i64 flat] w1 fun e w' => e = .returned (.int .i64 (fAt Y m flat)) ∧ w1 = w' := flatFind_spec w1 b1 o1 m c1 Y flat (HR.out.below B1 hb1) hm1 hlc1
          rw [HF.out] at KF
          go_wp2_with fail
          refine KF.mono ?_
          rintro e w' ⟨rfl, rfl⟩
          have KW := where_spec b off n cap X S flat w1 (H.out.below B1) HL.out hm hlc
          rw [HW.out] at KW
          go_wp2_with fail
          refine KW.mono ?_
          rintro e w' ⟨rfl, rfl⟩
          have hE := hid (OwnP.empty w1)
          go_wp2_with fail
          go_ret2
          exact ⟨_, [], by rw [hno.out]; rfl, hE.out.base B1.size, by rw [← HNN.out, hno.out]; rfl, B1.alloc B1.size _⟩

end Go.Proofs.Ytejpmomedclnhaa
