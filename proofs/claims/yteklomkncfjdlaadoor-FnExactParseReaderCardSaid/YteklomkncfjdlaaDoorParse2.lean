/-
  ParseSheet, by the program; the law's walk. No condition.
-/
import Derived.Test.YteklomkncfjdlaaDoorParseP
import Derived.Test.YteklomkncfjdlaaDoorBoxes
namespace Go.Proofs.YteklomkncfjdlaaDoor
open Go.RowKit
set_option linter.unusedVariables false
set_option maxRecDepth 100000

theorem trimP_le (l p : List UInt8) : (Lib.trimPrefix l p).length ≤ l.length := by unfold Lib.trimPrefix; split <;> simp
theorem trimS_le (l p : List UInt8) : (Lib.trimSuffix l p).length ≤ l.length := by unfold Lib.trimSuffix; split <;> simp

set_option maxHeartbeats 16000000 in
theorem parseSheet_impl (s : ByteArray) (Bb : Nat) (w : World) (hBb : Bb ≤ w.heap.size) (ht : Tb Bb w) (he : Er Bb w) (hs : s.size ≤ 1048576) : Calls Tryd.prog 37 #[.string s] w fun e w' => e = .returned (.tuple #[(psV s).val, .bool (psB s)]) ∧ Below w.heap.size w w' := by
  have HT0 := hid ht
  have HE0 := hid he
  clear ht he
  have KS : Hid (∀ w, Calls Tryd.prog 47 #[.string s, .string { data := #[32] }] w fun e w' => ∃ v, e = .returned v ∧ OwnS w.heap.size w' v (splitP s 32) ∧ Below w.heap.size w w') := fun w => split_one s 32 w hs
  by_cases h5 : (splitP s 32).length = 5
  · skip
    obtain ⟨A, hA⟩ : ∃ x, wordAt s 0 = x := ⟨_, rfl⟩
    obtain ⟨B, hB⟩ : ∃ x, wordAt s 1 = x := ⟨_, rfl⟩
    obtain ⟨C, hC⟩ : ∃ x, wordAt s 2 = x := ⟨_, rfl⟩
    obtain ⟨E, hE⟩ : ∃ x, wordAt s 3 = x := ⟨_, rfl⟩
    obtain ⟨F, hF⟩ : ∃ x, wordAt s 4 = x := ⟨_, rfl⟩
    have zA : A.size ≤ 1048576 := by rw [← hA]; have := wordAt_le s 0; omega
    have zB : B.size ≤ 1048576 := by rw [← hB]; have := wordAt_le s 1; omega
    have zC : C.size ≤ 1048576 := by rw [← hC]; have := wordAt_le s 2; omega
    have zE : E.size ≤ 1048576 := by rw [← hE]; have := wordAt_le s 3; omega
    have zF : F.size ≤ 1048576 := by rw [← hF]; have := wordAt_le s 4; omega
    obtain ⟨tA, htA⟩ : ∃ x, txt (Lib.trimSuffix A.data.toList [58]) = x := ⟨_, rfl⟩
    have ztA : tA.size ≤ 1048576 := by rw [← htA, txt_size]; have := trimS_le A.data.toList [58]; rw [← Lib.size_eq] at this; omega
    have T0 : Hid (∀ w, Calls Tryd.prog 66 #[.string A, .string { data := #[58] }] w fun e w' => e = .returned (.string tA) ∧ w = w') := fun w => (Tryd.strings_TrimSuffix A { data := #[58] } w (by omega)).mono fun e w' h => ⟨by rw [h.1, ← htA]; rfl, h.2.symm⟩
    obtain ⟨tB, htB⟩ : ∃ x, txt (Lib.trimPrefix B.data.toList [114]) = x := ⟨_, rfl⟩
    have ztB : tB.size ≤ 1048576 := by rw [← htB, txt_size]; have := trimP_le B.data.toList [114]; rw [← Lib.size_eq] at this; omega
    have T1 : Hid (∀ w, Calls Tryd.prog 67 #[.string B, .string { data := #[114] }] w fun e w' => e = .returned (.string tB) ∧ w = w') := fun w => (Tryd.strings_TrimPrefix B { data := #[114] } w).mono fun e w' h => ⟨by rw [h.1, ← htB]; rfl, h.2.symm⟩
    obtain ⟨tC, htC⟩ : ∃ x, txt (Lib.trimPrefix C.data.toList [99]) = x := ⟨_, rfl⟩
    have ztC : tC.size ≤ 1048576 := by rw [← htC, txt_size]; have := trimP_le C.data.toList [99]; rw [← Lib.size_eq] at this; omega
    have T2 : Hid (∀ w, Calls Tryd.prog 67 #[.string C, .string { data := #[99] }] w fun e w' => e = .returned (.string tC) ∧ w = w') := fun w => (Tryd.strings_TrimPrefix C { data := #[99] } w).mono fun e w' h => ⟨by rw [h.1, ← htC]; rfl, h.2.symm⟩
    obtain ⟨tE, htE⟩ : ∃ x, txt (Lib.trimPrefix E.data.toList [49, 58]) = x := ⟨_, rfl⟩
    have ztE : tE.size ≤ 1048576 := by rw [← htE, txt_size]; have := trimP_le E.data.toList [49, 58]; rw [← Lib.size_eq] at this; omega
    have T3 : Hid (∀ w, Calls Tryd.prog 67 #[.string E, .string { data := #[49, 58] }] w fun e w' => e = .returned (.string tE) ∧ w = w') := fun w => (Tryd.strings_TrimPrefix E { data := #[49, 58] } w).mono fun e w' h => ⟨by rw [h.1, ← htE]; rfl, h.2.symm⟩
    obtain ⟨tU, htU⟩ : ∃ x, txt (Lib.trimSuffix tE.data.toList [48, 48, 48]) = x := ⟨_, rfl⟩
    have ztU : tU.size ≤ 1048576 := by rw [← htU, txt_size]; have := trimS_le tE.data.toList [48, 48, 48]; rw [← Lib.size_eq] at this; omega
    have T4 : Hid (∀ w, Calls Tryd.prog 66 #[.string tE, .string { data := #[48, 48, 48] }] w fun e w' => e = .returned (.string tU) ∧ w = w') := fun w => (Tryd.strings_TrimSuffix tE { data := #[48, 48, 48] } w (by omega)).mono fun e w' h => ⟨by rw [h.1, ← htU]; rfl, h.2.symm⟩
    obtain ⟨m0, hm0⟩ : ∃ n, numN tA.data.toList = n := ⟨_, rfl⟩
    obtain ⟨m1, hm1⟩ : ∃ n, numN tB.data.toList = n := ⟨_, rfl⟩
    obtain ⟨m2, hm2⟩ : ∃ n, numN tC.data.toList = n := ⟨_, rfl⟩
    obtain ⟨m3, hm3⟩ : ∃ n, numN tU.data.toList = n := ⟨_, rfl⟩
    obtain ⟨m4, hm4⟩ : ∃ n, numN F.data.toList = n := ⟨_, rfl⟩
    have HX : Hid (outI s = ⟨m0, m1, m2, m3, m4⟩) := by unfold Hid outI; rw [hA, hB, hC, hE, hF, ← hm0, ← hm1, ← hm2, ← hm3, ← hm4, ← htA, ← htB, ← htC, ← htU, ← htE]; simp only [txt_data]
    have HM0 := hid hm0
    have HM1 := hid hm1
    have HM2 := hid hm2
    have HM3 := hid hm3
    have HM4 := hid hm4
    have HZ : Hid (tA.size ≤ 1048576 ∧ tB.size ≤ 1048576 ∧ tC.size ≤ 1048576 ∧ tU.size ≤ 1048576 ∧ F.size ≤ 1048576) := ⟨ztA, ztB, ztC, ztU, zF⟩
    have H5 := hid h5
    clear hm0 hm1 hm2 hm3 hm4 h5 zA zB zC zE zF ztA ztB ztC ztE ztU htA htB htC htE htU
    go_enter Tryd.func37, Tryd.ntmps37
    go_wp2_with fail
    refine (KS.out _).mono ?_
    rintro e w1 ⟨v, rfl, ho, hb1⟩
    have RB1 := BoxIs.new hb1
    rcases ho.form with ⟨_, h0⟩ | ⟨g, cap, rfl, _, lg, hc, _, hcell, _⟩
    · exact absurd (congrArg List.length h0) (by rw [H5.out]; simp)
    have x0 : w1.cell? ⟨g, 0, none⟩ = some (.string A) := by rw [hcell 0 (by rw [H5.out]; omega)]; exact congrArg (fun x => some (Value.string x)) hA
    have x1 : w1.cell? ⟨g, 1, none⟩ = some (.string B) := by rw [hcell 1 (by rw [H5.out]; omega)]; exact congrArg (fun x => some (Value.string x)) hB
    have x2 : w1.cell? ⟨g, 2, none⟩ = some (.string C) := by rw [hcell 2 (by rw [H5.out]; omega)]; exact congrArg (fun x => some (Value.string x)) hC
    have x3 : w1.cell? ⟨g, 3, none⟩ = some (.string E) := by rw [hcell 3 (by rw [H5.out]; omega)]; exact congrArg (fun x => some (Value.string x)) hE
    have x4 : w1.cell? ⟨g, 4, none⟩ = some (.string F) := by rw [hcell 4 (by rw [H5.out]; omega)]; exact congrArg (fun x => some (Value.string x)) hF
    rw [H5.out] at hc ⊢
    have hw1 : w.heap.size < w1.heap.size := by have := hb1.size; simp at this; omega
    have B1 : Below w.heap.size w w1 := Below.on (by go_grown) (by simp) hb1
    have HB1 : Bb ≤ w1.heap.size := by omega
    have HT1 := hid (HT0.out.on hBb B1)
    have HE1 := hid (HE0.out.on hBb B1)
    clear ho hcell hA hB hC hE hF KS hb1
    have K0 : Hid (∀ w', Below w1.heap.size w1 w' → Calls Tryd.prog 65 #[.string tA] w' fun e w'' => e = .returned (.int .i64 m0) ∧ Below w'.heap.size w' w'') := fun w' hb => by rw [← HM0.out]; exact number_impl tA Bb w' (by have := hb.size; omega) (HT1.out.on HB1 hb) (HE1.out.on HB1 hb) HZ.out.1
    have K1 : Hid (∀ w', Below w1.heap.size w1 w' → Calls Tryd.prog 65 #[.string tB] w' fun e w'' => e = .returned (.int .i64 m1) ∧ Below w'.heap.size w' w'') := fun w' hb => by rw [← HM1.out]; exact number_impl tB Bb w' (by have := hb.size; omega) (HT1.out.on HB1 hb) (HE1.out.on HB1 hb) HZ.out.2.1
    have K2 : Hid (∀ w', Below w1.heap.size w1 w' → Calls Tryd.prog 65 #[.string tC] w' fun e w'' => e = .returned (.int .i64 m2) ∧ Below w'.heap.size w' w'') := fun w' hb => by rw [← HM2.out]; exact number_impl tC Bb w' (by have := hb.size; omega) (HT1.out.on HB1 hb) (HE1.out.on HB1 hb) HZ.out.2.2.1
    have K3 : Hid (∀ w', Below w1.heap.size w1 w' → Calls Tryd.prog 65 #[.string tU] w' fun e w'' => e = .returned (.int .i64 m3) ∧ Below w'.heap.size w' w'') := fun w' hb => by rw [← HM3.out]; exact number_impl tU Bb w' (by have := hb.size; omega) (HT1.out.on HB1 hb) (HE1.out.on HB1 hb) HZ.out.2.2.2.1
    have K4 : Hid (∀ w', Below w1.heap.size w1 w' → Calls Tryd.prog 65 #[.string F] w' fun e w'' => e = .returned (.int .i64 m4) ∧ Below w'.heap.size w' w'') := fun w' hb => by rw [← HM4.out]; exact number_impl F Bb w' (by have := hb.size; omega) (HT1.out.on HB1 hb) (HE1.out.on HB1 hb) HZ.out.2.2.2.2
    go_upto_region 4 with fail
    go_cut [5] from 14 (fun p w' => ∃ N, p = .pointer (some ⟨N, 0, none⟩) ∧ w1.heap.size ≤ N ∧ Below w1.heap.size w1 w' ∧ BoxIs N #[.int .i64 m0, .int .i64 m1, .int .i64 m2, .int .i64 0, .int .i64 0] 38 w')
    case first =>
      have hS0 : Below w1.heap.size w1 w1.drew ∧ w1.drew.cell? ⟨g, 0, none⟩ = some (.string A) ∧ w1.drew.cell? ⟨g, 1, none⟩ = some (.string B) ∧ w1.drew.cell? ⟨g, 2, none⟩ = some (.string C) := ⟨(Below.refl _ _).drew, x0, x1, x2⟩
      have hS1 : Below w1.heap.size w1 (w1.alloc (.cells #[.int .i64 0, .int .i64 0, .int .i64 0, .int .i64 0, .int .i64 0] 38)).drew ∧ (w1.alloc (.cells #[.int .i64 0, .int .i64 0, .int .i64 0, .int .i64 0, .int .i64 0] 38)).drew.cell? ⟨g, 0, none⟩ = some (.string A) ∧ (w1.alloc (.cells #[.int .i64 0, .int .i64 0, .int .i64 0, .int .i64 0, .int .i64 0] 38)).drew.cell? ⟨g, 1, none⟩ = some (.string B) ∧ (w1.alloc (.cells #[.int .i64 0, .int .i64 0, .int .i64 0, .int .i64 0, .int .i64 0] 38)).drew.cell? ⟨g, 2, none⟩ = some (.string C) := keep_alloc3 lg hS0 _
      have hB1 : BoxIs w1.heap.size #[.int .i64 0, .int .i64 0, .int .i64 0, .int .i64 0, .int .i64 0] 38 (w1.alloc (.cells #[.int .i64 0, .int .i64 0, .int .i64 0, .int .i64 0, .int .i64 0] 38)).drew := heap_alloc_new w1 _
      go_region_held3 (fun w' => Below w1.heap.size w1 w' ∧ w'.cell? ⟨g, 0, none⟩ = some (.string A) ∧ w'.cell? ⟨g, 1, none⟩ = some (.string B) ∧ w'.cell? ⟨g, 2, none⟩ = some (.string C)) (first | with_reducible assumption | with_reducible exact keep_alloc3 lg (by assumption) _ | (with_reducible refine keep_set3 lg (keep_set3 lg (keep_set3 lg (keep_set3 lg (keep_set3 lg (by assumption) _ _ _ ?_) _ _ _ ?_) _ _ _ ?_) _ _ _ ?_) _ _ _ ?_ <;> omega)) (first
        | (go_at_call 66; (with_reducible refine (T0.out _).mono ?_)
           rintro e w9 ⟨rfl, rfl⟩)
        | (go_at_call 67; first | (with_reducible refine (T1.out _).mono ?_) | (with_reducible refine (T2.out _).mono ?_)
           rintro e w9 ⟨rfl, rfl⟩)
        | (go_at_call 65; first | (with_reducible refine (K0.out _ (And.left (by assumption))).mono ?_) | (with_reducible refine (K1.out _ (And.left (by assumption))).mono ?_) | (with_reducible refine (K2.out _ (And.left (by assumption))).mono ?_)
           rintro e w9 ⟨rfl, hb9⟩
           have hS9 := keep_call3 lg (by assumption) hb9
           have hz9 := hS9.1.size
           try (have hbx := (by with_reducible first | exact BoxIs.new hb9 | exact BoxIs.old (by assumption) hb9 : BoxIs _ _ 38 w9)
                have q0 := hbx.cell 0 (by simp)
                have zz0 := hbx.frozen 0
                have q1 := hbx.cell 1 (by simp)
                have zz1 := hbx.frozen 1
                have q2 := hbx.cell 2 (by simp)
                have zz2 := hbx.frozen 2
                have q3 := hbx.cell 3 (by simp)
                have zz3 := hbx.frozen 3
                have q4 := hbx.cell 4 (by simp)
                have zz4 := hbx.frozen 4)))
      all_goals (go_wp2_with fail; go_meet; refine ⟨_, rfl, by omega, And.left (by with_reducible assumption), ?_⟩; first | with_reducible exact BoxIs.here _ _ _ | with_reducible exact BoxIs.fill5 (by assumption))
    case rest =>
      obtain ⟨N, rfl, hN, hbN, hbox⟩ := hcut
      have HBX := hid hbox
      clear K0 K1 K2 T0 T1 T2
      have hS0 : Below w1.heap.size w1 wc.drew ∧ wc.drew.cell? ⟨g, 3, none⟩ = some (.string E) ∧ wc.drew.cell? ⟨g, 4, none⟩ = some (.string F) := ⟨hbN.drew, (hbN.cell lg).trans x3, (hbN.cell lg).trans x4⟩
      have hB0 : BoxIs N #[.int .i64 m0, .int .i64 m1, .int .i64 m2, .int .i64 0, .int .i64 0] 38 wc.drew := hbox
      clear x0 x1 x2 x3 x4 hbox
      go_upto_region 5 with fail
      go_cut [] from 30 (fun w' => Below w1.heap.size w1 w' ∧ BoxIs N #[.int .i64 m0, .int .i64 m1, .int .i64 m2, .int .i64 m3, .int .i64 m4] 38 w')
      case first =>
        go_region_held3 (fun w' => Below w1.heap.size w1 w' ∧ w'.cell? ⟨g, 3, none⟩ = some (.string E) ∧ w'.cell? ⟨g, 4, none⟩ = some (.string F)) (first | with_reducible assumption | (with_reducible refine keep_set2 lg (by assumption) _ _ _ ?_ <;> omega)) (first
          | (go_at_call 66; (with_reducible refine (T4.out _).mono ?_)
             rintro e w9 ⟨rfl, rfl⟩)
          | (go_at_call 67; (with_reducible refine (T3.out _).mono ?_)
             rintro e w9 ⟨rfl, rfl⟩)
          | (go_at_call 65; first | (with_reducible refine (K3.out _ (And.left (by assumption))).mono ?_) | (with_reducible refine (K4.out _ (And.left (by assumption))).mono ?_)
             rintro e w9 ⟨rfl, hb9⟩
             have hS9 := keep_call2 lg (by assumption) hb9
             have hz9 := hS9.1.size
             have hbx := (by with_reducible exact BoxIs.old (by assumption) hb9 : BoxIs N #[.int .i64 m0, .int .i64 m1, .int .i64 m2, .int .i64 0, .int .i64 0] 38 w9)
             have q3 := hbx.cell 3 (by simp)
             have q4 := hbx.cell 4 (by simp)
             have zz3 := hbx.frozen 3
             have zz4 := hbx.frozen 4))
        all_goals (go_wp2_with fail; go_meet; refine ⟨And.left (by with_reducible assumption), ?_⟩; with_reducible exact BoxIs.fill34 (by assumption))
      case rest =>
        obtain ⟨hbM, hbox⟩ := hcut
        have HBX := hid hbox
        have RB2 := hid (RB1.old hbM)
        have B2 : Below w.heap.size w wc := Below.on B1 B1.size hbM
        have HT2 := hid (HT1.out.on HB1 hbM)
        have HB2 : Bb ≤ wc.heap.size := by have := hbM.size; omega
        clear hbox RB1 K3 K4 T3 T4 hS0 hB0 hbN
        have hl2 : w.heap.size < wc.heap.size := RB2.out.lt
        have lN := HBX.out.lt
        have p0 := HBX.out.cell 0 (by simp)
        have p1 := HBX.out.cell 1 (by simp)
        have p2 := HBX.out.cell 2 (by simp)
        have p3 := HBX.out.cell 3 (by simp)
        have p4 := HBX.out.cell 4 (by simp)
        have u0 := RB2.out.cell 0 (by simp)
        have u1 := RB2.out.cell 1 (by simp)
        have u2 := RB2.out.cell 2 (by simp)
        have u3 := RB2.out.cell 3 (by simp)
        have u4 := RB2.out.cell 4 (by simp)
        have uz0 := RB2.out.frozen 0
        have uz1 := RB2.out.frozen 1
        have uz2 := RB2.out.frozen 2
        have uz3 := RB2.out.frozen 3
        have uz4 := RB2.out.frozen 4
        have ul := hl2
        obtain ⟨q, hq⟩ : ∃ q, sheetTx (⟨m0, m1, m2, m3, m4⟩ : SheetD) = q := ⟨_, rfl⟩
        have HQ := hid hq
        obtain ⟨b, hb⟩ : ∃ b, sheetB (⟨m0, m1, m2, m3, m4⟩ : SheetD) = b := ⟨_, rfl⟩
        have HV := hid hb
        have KT := hid (sheetText_impl (⟨m0, m1, m2, m3, m4⟩ : SheetD) Bb wc HB2 HT2.out)
        rw [hq, hb] at KT
        clear hq hb
        go_wp2_with fail
        refine KT.out.mono ?_
        rintro e w3 ⟨rfl, hb3⟩
        have Bw3 : Below w.heap.size w w3 := Below.on B2 B2.size hb3
        have HBw3 := hid (HBX.out.old hb3)
        have RBw3 := hid (RB2.out.old hb3)
        clear p0 u0 uz0 p1 u1 uz1 p2 u2 uz2 p3 u3 uz3 p4 u4 uz4 ul
        have p0 := HBw3.out.cell 0 (by simp)
        have p1 := HBw3.out.cell 1 (by simp)
        have p2 := HBw3.out.cell 2 (by simp)
        have p3 := HBw3.out.cell 3 (by simp)
        have p4 := HBw3.out.cell 4 (by simp)
        have u0 := RBw3.out.cell 0 (by simp)
        have u1 := RBw3.out.cell 1 (by simp)
        have u2 := RBw3.out.cell 2 (by simp)
        have u3 := RBw3.out.cell 3 (by simp)
        have u4 := RBw3.out.cell 4 (by simp)
        have uz0 := RBw3.out.frozen 0
        have uz1 := RBw3.out.frozen 1
        have uz2 := RBw3.out.frozen 2
        have uz3 := RBw3.out.frozen 3
        have uz4 := RBw3.out.frozen 4
        have ul := RBw3.out.lt
        have lN := HBw3.out.lt
        cases b with
        | true =>
          by_cases hqs : q = s
          · have hps := ps_of (s := s) HV.out (by rw [← sheetTx_yes HV.out, HQ.out]; exact hqs)
            have hyes := hid hps.1
            have hv2 : Hid (psV s = (⟨m0, m1, m2, m3, m4⟩ : SheetD)) := by unfold Hid; rw [psV_yes hps.1, hps.2.1]
            clear hps
            subst hqs
            go_wp2_with fail
            exact bodyPost_ret (v := .tuple #[((⟨m0, m1, m2, m3, m4⟩ : SheetD) : SheetD).val, .bool true]) (by simp [results, Tryd.results37, go_sem, ul, u0, u1, u2, u3, u4]) rfl ⟨by rw [hyes.out, hv2.out], by go_grown⟩
          · have hno : Hid (psB s = false) := by
              unfold Hid
              rw [← Bool.not_eq_true]
              intro h
              obtain ⟨h1, _, h3, _⟩ := psI_yes h
              rw [HX.out] at h1
              rw [← h1] at h3
              apply hqs
              rw [← HQ.out, sheetTx_yes HV.out]
              exact h3
            have hne := bytes_ne hqs
            clear hqs
            go_wp2_with fail
            exact bodyPost_ret (v := .tuple #[(⟨0, 0, 0, 0, 0⟩ : SheetD).val, .bool false]) (by simp [results, Tryd.results37, go_sem, ul, u0, u1, u2, u3, u4]) rfl ⟨by rw [hno.out, psV_no hno.out], by go_grown⟩
        | false =>
          have hno : Hid (psB s = false) := by
            unfold Hid
            rw [← Bool.not_eq_true]
            intro h
            obtain ⟨h1, h2, _, _⟩ := psI_yes h
            rw [← h1, HX.out, HV.out] at h2
            cases h2
          go_wp2_with fail
          exact bodyPost_ret (v := .tuple #[(⟨0, 0, 0, 0, 0⟩ : SheetD).val, .bool false]) (by simp [results, Tryd.results37, go_sem, ul, u0, u1, u2, u3, u4]) rfl ⟨by rw [hno.out, psV_no hno.out], by go_grown⟩
  · have hno : Hid (psB s = false) := by unfold Hid psB; simp [h5]
    obtain ⟨n, hn⟩ : ∃ n, (splitP s 32).length = n := ⟨_, rfl⟩
    rw [hn] at h5
    have HN := hid hn
    clear hn
    go_enter Tryd.func37, Tryd.ntmps37
    go_wp2_with fail
    refine (KS.out _).mono ?_
    rintro e w1 ⟨v, rfl, ho, hb1⟩
    have RB1 := BoxIs.new hb1
    obtain ⟨ao, cap, rfl, _⟩ := ho.slice
    rw [HN.out]
    clear ho
    have hne : ((n : Int) != 5) = true := by simp; omega
    have u0 := RB1.cell 0 (by simp)
    have u1 := RB1.cell 1 (by simp)
    have u2 := RB1.cell 2 (by simp)
    have u3 := RB1.cell 3 (by simp)
    have u4 := RB1.cell 4 (by simp)
    have uz0 := RB1.frozen 0
    have uz1 := RB1.frozen 1
    have uz2 := RB1.frozen 2
    have uz3 := RB1.frozen 3
    have uz4 := RB1.frozen 4
    have ul := RB1.lt
    have B1 : Below w.heap.size w w1 := Below.on (by go_grown) (by simp) hb1
    clear hb1
    go_wp2_with fail
    exact bodyPost_ret (v := .tuple #[(⟨0, 0, 0, 0, 0⟩ : SheetD).val, .bool false]) (by simp [results, Tryd.results37, go_sem, ul, u0, u1, u2, u3, u4]) rfl ⟨by rw [hno.out, psV_no hno.out], by go_grown⟩
end Go.Proofs.YteklomkncfjdlaaDoor
