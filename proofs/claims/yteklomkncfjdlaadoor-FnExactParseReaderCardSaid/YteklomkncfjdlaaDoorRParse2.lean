/-
  ParseReader, by the program. No condition.
-/
import Derived.Test.YteklomkncfjdlaaDoorRParseP
import Derived.Test.YteklomkncfjdlaaDoorBoxes
import Derived.Test.YteklomkncfjdlaaDoorParse2
namespace Go.Proofs.YteklomkncfjdlaaDoor
open Go.RowKit
set_option linter.unusedVariables false
set_option maxRecDepth 100000

theorem below_setP {w w' : World} {B N o : Nat} {v : Value} (h : Below B w w') (hB : B ≤ w'.heap.size) (hN : B ≤ N) : Below B w (w'.setCell ⟨N, o, none⟩ v) := h.grown (grownBy_set w' N o v) hB (fun j hj => by cases hj; omega)

set_option maxHeartbeats 16000000 in
theorem parseReader_impl (s : ByteArray) (Bb : Nat) (w : World) (hBb : Bb ≤ w.heap.size) (ht : Tb Bb w) (he : Er Bb w) (hs : s.size ≤ 1048576) : Calls Tryd.prog 40 #[.string s] w fun e w' => e = .returned (.tuple #[(prV s).val, .bool (prB s)]) ∧ Below w.heap.size w w' := by
  have HT0 := hid ht
  have HE0 := hid he
  clear ht he
  have KS : Hid (∀ w, Calls Tryd.prog 47 #[.string s, .string { data := #[32] }] w fun e w' => ∃ v, e = .returned v ∧ OwnS w.heap.size w' v (splitP s 32) ∧ Below w.heap.size w w') := fun w => split_one s 32 w hs
  obtain ⟨n, hn⟩ : ∃ n, (splitP s 32).length = n := ⟨_, rfl⟩
  have HN := hid hn
  clear hn
  obtain ⟨W0, h0⟩ : ∃ x, wordAt s 0 = x := ⟨_, rfl⟩
  have z0 : W0.size ≤ 1048576 := by rw [← h0]; have := wordAt_le s 0; omega
  have hW0 := hid h0
  clear h0
  obtain ⟨W1, h1⟩ : ∃ x, wordAt s 1 = x := ⟨_, rfl⟩
  have z1 : W1.size ≤ 1048576 := by rw [← h1]; have := wordAt_le s 1; omega
  have hW1 := hid h1
  clear h1
  obtain ⟨W2, h2⟩ : ∃ x, wordAt s 2 = x := ⟨_, rfl⟩
  have z2 : W2.size ≤ 1048576 := by rw [← h2]; have := wordAt_le s 2; omega
  have hW2 := hid h2
  clear h2
  obtain ⟨W4, h4⟩ : ∃ x, wordAt s 4 = x := ⟨_, rfl⟩
  have z4 : W4.size ≤ 1048576 := by rw [← h4]; have := wordAt_le s 4; omega
  have hW4 := hid h4
  clear h4
  obtain ⟨W6, h6⟩ : ∃ x, wordAt s 6 = x := ⟨_, rfl⟩
  have z6 : W6.size ≤ 1048576 := by rw [← h6]; have := wordAt_le s 6; omega
  have hW6 := hid h6
  clear h6
  have hz7 : n ≤ 1048577 := by have := splitP_le s 32; rw [HN.out] at this; omega
  by_cases h57 : n = 5 ∨ n = 7
  · skip
    rcases h57 with rfl | rfl
    · skip
      obtain ⟨tC, htC⟩ : ∃ x, txt (Lib.trimPrefix W2.data.toList [99]) = x := ⟨_, rfl⟩
      have ztC : tC.size ≤ 1048576 := by rw [← htC, txt_size]; have := trimP_le W2.data.toList [99]; rw [← Lib.size_eq] at this; omega
      have T2 : Hid (∀ w, Calls Tryd.prog 67 #[.string W2, .string { data := #[99] }] w fun e w' => e = .returned (.string tC) ∧ w = w') := fun w => (Tryd.strings_TrimPrefix W2 { data := #[99] } w).mono fun e w' h => ⟨by rw [h.1, ← htC]; rfl, h.2.symm⟩
      obtain ⟨m0, hm0⟩ : ∃ n, numN W0.data.toList = n := ⟨_, rfl⟩
      obtain ⟨m2, hm2⟩ : ∃ n, numN W4.data.toList = n := ⟨_, rfl⟩
      obtain ⟨m3, hm3⟩ : ∃ n, numN tC.data.toList = n := ⟨_, rfl⟩
      obtain ⟨m4, hm4⟩ : ∃ n : Int, 0 = n := ⟨_, rfl⟩
      have HX : Hid (outRI s = (⟨m0, W1, m2, m3, 0⟩ : ReaderD)) := by unfold Hid outRI; rw [HN.out, hW0.out, hW1.out, hW2.out, hW4.out, ← hm0, ← hm2, ← hm3, ← htC]; simp only [txt_data]; rfl
      have HM0 := hid hm0
      have HM2 := hid hm2
      have HM3 := hid hm3
      have HZ : Hid (W0.size ≤ 1048576 ∧ W4.size ≤ 1048576 ∧ tC.size ≤ 1048576 ∧ W6.size ≤ 1048576) := ⟨z0, z4, ztC, z6⟩
      have hnm : Hid (W1.size ≤ maxLen) := by unfold Hid maxLen; omega
      clear hm0 hm2 hm3 hm4 htC ztC z0 z1 z2 z4 z6 hz7
      go_enter Tryd.func40, Tryd.ntmps40
      go_wp2_with fail
      refine (KS.out _).mono ?_
      rintro e w1 ⟨v, rfl, ho, hb1⟩
      have RB1 := BoxIs.new hb1
      rcases ho.form with ⟨_, h0⟩ | ⟨g, cap, rfl, _, lg, hc, _, hcell, _⟩
      · exact absurd (congrArg List.length h0) (by rw [HN.out]; simp)
      have x0 : w1.cell? ⟨g, 0, none⟩ = some (.string W0) := by rw [hcell 0 (by rw [HN.out]; omega)]; exact congrArg (fun x => some (Value.string x)) hW0.out
      have x1 : w1.cell? ⟨g, 1, none⟩ = some (.string W1) := by rw [hcell 1 (by rw [HN.out]; omega)]; exact congrArg (fun x => some (Value.string x)) hW1.out
      have x2 : w1.cell? ⟨g, 2, none⟩ = some (.string W2) := by rw [hcell 2 (by rw [HN.out]; omega)]; exact congrArg (fun x => some (Value.string x)) hW2.out
      have x4 : w1.cell? ⟨g, 4, none⟩ = some (.string W4) := by rw [hcell 4 (by rw [HN.out]; omega)]; exact congrArg (fun x => some (Value.string x)) hW4.out
      rw [HN.out] at hc ⊢
      have hw1 : w.heap.size < w1.heap.size := by have := hb1.size; simp at this; omega
      have B1 : Below w.heap.size w w1 := Below.on (by go_grown) (by simp) hb1
      have HB1 : Bb ≤ w1.heap.size := by omega
      have HT1 := hid (HT0.out.on hBb B1)
      have HE1 := hid (HE0.out.on hBb B1)
      clear ho hcell KS hb1
      have K0 : Hid (∀ w', Below w1.heap.size w1 w' → Calls Tryd.prog 65 #[.string W0] w' fun e w'' => e = .returned (.int .i64 m0) ∧ Below w'.heap.size w' w'') := fun w' hb => by rw [← HM0.out]; exact number_impl W0 Bb w' (by have := hb.size; omega) (HT1.out.on HB1 hb) (HE1.out.on HB1 hb) HZ.out.1
      have K2 : Hid (∀ w', Below w1.heap.size w1 w' → Calls Tryd.prog 65 #[.string W4] w' fun e w'' => e = .returned (.int .i64 m2) ∧ Below w'.heap.size w' w'') := fun w' hb => by rw [← HM2.out]; exact number_impl W4 Bb w' (by have := hb.size; omega) (HT1.out.on HB1 hb) (HE1.out.on HB1 hb) HZ.out.2.1
      have K3 : Hid (∀ w', Below w1.heap.size w1 w' → Calls Tryd.prog 65 #[.string tC] w' fun e w'' => e = .returned (.int .i64 m3) ∧ Below w'.heap.size w' w'') := fun w' hb => by rw [← HM3.out]; exact number_impl tC Bb w' (by have := hb.size; omega) (HT1.out.on HB1 hb) (HE1.out.on HB1 hb) HZ.out.2.2.1
      go_upto_region 4 with fail
      go_cut [5] from 14 (fun p w' => ∃ N, p = .pointer (some ⟨N, 0, none⟩) ∧ w1.heap.size ≤ N ∧ Below w1.heap.size w1 w' ∧ BoxIs N #[.int .i64 m0, .string W1, .int .i64 m2, .int .i64 m3, .int .i64 0] 51 w')
      case first =>
        have hS0 : Below w1.heap.size w1 w1.drew ∧ w1.drew.cell? ⟨g, 0, none⟩ = some (.string W0) ∧ w1.drew.cell? ⟨g, 1, none⟩ = some (.string W1) ∧ w1.drew.cell? ⟨g, 2, none⟩ = some (.string W2) ∧ w1.drew.cell? ⟨g, 4, none⟩ = some (.string W4) := ⟨(Below.refl _ _).drew, x0, x1, x2, x4⟩
        have hS1 : Below w1.heap.size w1 (w1.alloc (.cells #[.int .i64 0, .string { data := #[] }, .int .i64 0, .int .i64 0, .int .i64 0] 51)).drew ∧ (w1.alloc (.cells #[.int .i64 0, .string { data := #[] }, .int .i64 0, .int .i64 0, .int .i64 0] 51)).drew.cell? ⟨g, 0, none⟩ = some (.string W0) ∧ (w1.alloc (.cells #[.int .i64 0, .string { data := #[] }, .int .i64 0, .int .i64 0, .int .i64 0] 51)).drew.cell? ⟨g, 1, none⟩ = some (.string W1) ∧ (w1.alloc (.cells #[.int .i64 0, .string { data := #[] }, .int .i64 0, .int .i64 0, .int .i64 0] 51)).drew.cell? ⟨g, 2, none⟩ = some (.string W2) ∧ (w1.alloc (.cells #[.int .i64 0, .string { data := #[] }, .int .i64 0, .int .i64 0, .int .i64 0] 51)).drew.cell? ⟨g, 4, none⟩ = some (.string W4) := keep_alloc4 lg hS0 _
        have hB1 : BoxIs w1.heap.size #[.int .i64 0, .string { data := #[] }, .int .i64 0, .int .i64 0, .int .i64 0] 51 (w1.alloc (.cells #[.int .i64 0, .string { data := #[] }, .int .i64 0, .int .i64 0, .int .i64 0] 51)).drew := heap_alloc_new w1 _
        go_region_held3 (fun w' => Below w1.heap.size w1 w' ∧ w'.cell? ⟨g, 0, none⟩ = some (.string W0) ∧ w'.cell? ⟨g, 1, none⟩ = some (.string W1) ∧ w'.cell? ⟨g, 2, none⟩ = some (.string W2) ∧ w'.cell? ⟨g, 4, none⟩ = some (.string W4)) (first | with_reducible assumption | with_reducible exact keep_alloc4 lg (by assumption) _ | (with_reducible refine keep_set4 lg (keep_set4 lg (keep_set4 lg (keep_set4 lg (keep_set4 lg (by assumption) _ _ _ ?_) _ _ _ ?_) _ _ _ ?_) _ _ _ ?_) _ _ _ ?_ <;> omega)) (first
          | (go_at_call 67; (with_reducible refine (T2.out _).mono ?_)
             rintro e w9 ⟨rfl, rfl⟩)
          | (go_at_call 65; first | (with_reducible refine (K0.out _ (And.left (by assumption))).mono ?_) | (with_reducible refine (K2.out _ (And.left (by assumption))).mono ?_) | (with_reducible refine (K3.out _ (And.left (by assumption))).mono ?_)
             rintro e w9 ⟨rfl, hb9⟩
             have hS9 := keep_call4 lg (by assumption) hb9
             have hz9 := hS9.1.size
             try (have hbx := (by with_reducible first | exact BoxIs.new hb9 | exact BoxIs.old (by assumption) hb9 : BoxIs _ _ 51 w9)
                  have q0 := hbx.cell 0 (by simp)
                  have zz0 := hbx.frozen 0
                  have q1 := hbx.cell 1 (by simp)
                  have zz1 := hbx.frozen 1
                  have q2 := hbx.cell 2 (by simp)
                  have zz2 := hbx.frozen 2
                  have q3 := hbx.cell 3 (by simp)
                  have zz3 := hbx.frozen 3
                  have q4 := hbx.cell 4 (by simp)
                  have zz4 := hbx.frozen 4)))
        all_goals (go_wp2_with fail; go_meet; refine ⟨_, rfl, by omega, And.left (by with_reducible assumption), ?_⟩; first | with_reducible exact BoxIs.here _ _ _ | with_reducible exact BoxIs.fill5 (by assumption))
      case rest =>
        obtain ⟨N, rfl, hN, hbN, hbox⟩ := hcut
        have HBX := hid hbox
        clear K0 K2 K3 T2 x0 x1 x2 x4 hbox
        have RB2 := hid (RB1.old hbN)
        have B2 : Below w.heap.size w wc := Below.on B1 B1.size hbN
        clear RB1
        have hl2 : w.heap.size < wc.heap.size := RB2.out.lt
        have lN := HBX.out.lt
        have p0 := HBX.out.cell 0 (by simp)
        have p1 := HBX.out.cell 1 (by simp)
        have p2 := HBX.out.cell 2 (by simp)
        have p3 := HBX.out.cell 3 (by simp)
        have p4 := HBX.out.cell 4 (by simp)
        have pz0 := HBX.out.frozen 0
        have pz1 := HBX.out.frozen 1
        have pz2 := HBX.out.frozen 2
        have pz3 := HBX.out.frozen 3
        have pz4 := HBX.out.frozen 4
        have u0 := RB2.out.cell 0 (by simp)
        have u1 := RB2.out.cell 1 (by simp)
        have u2 := RB2.out.cell 2 (by simp)
        have u3 := RB2.out.cell 3 (by simp)
        have u4 := RB2.out.cell 4 (by simp)
        have uz0 := RB2.out.frozen 0
        have uz1 := RB2.out.frozen 1
        have uz2 := RB2.out.frozen 2
        have uz3 := RB2.out.frozen 3
        have uz4 := RB2.out.frozen 4
        have ul := hl2
        obtain ⟨q, hq⟩ : ∃ q, rtTx (⟨m0, W1, m2, m3, 0⟩ : ReaderD) = q := ⟨_, rfl⟩
        have HQ := hid hq
        obtain ⟨b, hb⟩ : ∃ b, readerB (⟨m0, W1, m2, m3, 0⟩ : ReaderD) = b := ⟨_, rfl⟩
        have HV := hid hb
        have KT := hid (readerText_impl (⟨m0, W1, m2, m3, 0⟩ : ReaderD) hnm.out Bb wc (by have := hbN.size; omega) (HT1.out.on HB1 hbN))
        rw [hq, hb] at KT
        clear hq hb
        go_wp2_with fail
        refine KT.out.mono ?_
        rintro e w3 ⟨rfl, hb3⟩
        clear p0 pz0 u0 uz0 p1 pz1 u1 uz1 p2 pz2 u2 uz2 p3 pz3 u3 uz3 p4 pz4 u4 uz4 ul
        have HB3 := hid (HBX.out.old hb3)
        have RB3 := hid (RB2.out.old hb3)
        have Bw3 : Below w.heap.size w w3 := Below.on B2 B2.size hb3
        clear lN
        have p0 := HB3.out.cell 0 (by simp)
        have p1 := HB3.out.cell 1 (by simp)
        have p2 := HB3.out.cell 2 (by simp)
        have p3 := HB3.out.cell 3 (by simp)
        have p4 := HB3.out.cell 4 (by simp)
        have pz0 := HB3.out.frozen 0
        have pz1 := HB3.out.frozen 1
        have pz2 := HB3.out.frozen 2
        have pz3 := HB3.out.frozen 3
        have pz4 := HB3.out.frozen 4
        have u0 := RB3.out.cell 0 (by simp)
        have u1 := RB3.out.cell 1 (by simp)
        have u2 := RB3.out.cell 2 (by simp)
        have u3 := RB3.out.cell 3 (by simp)
        have u4 := RB3.out.cell 4 (by simp)
        have uz0 := RB3.out.frozen 0
        have uz1 := RB3.out.frozen 1
        have uz2 := RB3.out.frozen 2
        have uz3 := RB3.out.frozen 3
        have uz4 := RB3.out.frozen 4
        have ul := RB3.out.lt
        have lN := HB3.out.lt
        cases b with
        | true =>
          by_cases hqs : q = s
          · have hps := pr_of (s := s) HV.out (by rw [← rtTx_yes HV.out, HQ.out]; exact hqs)
            have hyes := hid hps.1
            have hv2 : Hid (prV s = (⟨m0, W1, m2, m3, 0⟩ : ReaderD)) := by unfold Hid; rw [prV_yes hps.1, hps.2.1]
            clear hps
            subst hqs
            go_wp2_with fail
            exact bodyPost_ret (v := .tuple #[((⟨m0, W1, m2, m3, 0⟩ : ReaderD) : ReaderD).val, .bool true]) (by simp [results, Tryd.results40, go_sem, ul, u0, u1, u2, u3, u4]) rfl ⟨by rw [hyes.out, hv2.out], by go_grown⟩
          · have hno : Hid (prB s = false) := by
              unfold Hid
              rw [← Bool.not_eq_true]
              intro h
              obtain ⟨h1, _, h3⟩ := prI_yes h
              rw [HX.out] at h1
              rw [← h1] at h3
              apply hqs
              rw [← HQ.out, rtTx_yes HV.out]
              exact h3
            have hne := bytes_ne hqs
            clear hqs
            go_wp2_with fail
            exact bodyPost_ret (v := .tuple #[(⟨0, { data := #[] }, 0, 0, 0⟩ : ReaderD).val, .bool false]) (by simp [results, Tryd.results40, go_sem, ul, u0, u1, u2, u3, u4]) rfl ⟨by rw [hno.out, prV_no hno.out]; first | done | exact rfl, by go_grown⟩
        | false =>
          have hno : Hid (prB s = false) := by
            unfold Hid
            rw [← Bool.not_eq_true]
            intro h
            obtain ⟨h1, h2, _⟩ := prI_yes h
            rw [← h1, HX.out, HV.out] at h2
            cases h2
          go_wp2_with fail
          exact bodyPost_ret (v := .tuple #[(⟨0, { data := #[] }, 0, 0, 0⟩ : ReaderD).val, .bool false]) (by simp [results, Tryd.results40, go_sem, ul, u0, u1, u2, u3, u4]) rfl ⟨by rw [hno.out, prV_no hno.out]; first | done | exact rfl, by go_grown⟩
    · skip
      obtain ⟨tC, htC⟩ : ∃ x, txt (Lib.trimPrefix W2.data.toList [99]) = x := ⟨_, rfl⟩
      have ztC : tC.size ≤ 1048576 := by rw [← htC, txt_size]; have := trimP_le W2.data.toList [99]; rw [← Lib.size_eq] at this; omega
      have T2 : Hid (∀ w, Calls Tryd.prog 67 #[.string W2, .string { data := #[99] }] w fun e w' => e = .returned (.string tC) ∧ w = w') := fun w => (Tryd.strings_TrimPrefix W2 { data := #[99] } w).mono fun e w' h => ⟨by rw [h.1, ← htC]; rfl, h.2.symm⟩
      obtain ⟨m0, hm0⟩ : ∃ n, numN W0.data.toList = n := ⟨_, rfl⟩
      obtain ⟨m2, hm2⟩ : ∃ n, numN W4.data.toList = n := ⟨_, rfl⟩
      obtain ⟨m3, hm3⟩ : ∃ n, numN tC.data.toList = n := ⟨_, rfl⟩
      obtain ⟨m4, hm4⟩ : ∃ n, numN W6.data.toList = n := ⟨_, rfl⟩
      have HX : Hid (outRI s = (⟨m0, W1, m2, m3, m4⟩ : ReaderD)) := by unfold Hid outRI; rw [HN.out, hW0.out, hW1.out, hW2.out, hW4.out, hW6.out, ← hm0, ← hm2, ← hm3, ← hm4, ← htC]; simp only [txt_data]; rfl
      have HM0 := hid hm0
      have HM2 := hid hm2
      have HM3 := hid hm3
      have HM4 := hid hm4
      have HZ : Hid (W0.size ≤ 1048576 ∧ W4.size ≤ 1048576 ∧ tC.size ≤ 1048576 ∧ W6.size ≤ 1048576) := ⟨z0, z4, ztC, z6⟩
      have hnm : Hid (W1.size ≤ maxLen) := by unfold Hid maxLen; omega
      clear hm0 hm2 hm3 hm4 htC ztC z0 z1 z2 z4 z6 hz7
      go_enter Tryd.func40, Tryd.ntmps40
      go_wp2_with fail
      refine (KS.out _).mono ?_
      rintro e w1 ⟨v, rfl, ho, hb1⟩
      have RB1 := BoxIs.new hb1
      rcases ho.form with ⟨_, h0⟩ | ⟨g, cap, rfl, _, lg, hc, _, hcell, _⟩
      · exact absurd (congrArg List.length h0) (by rw [HN.out]; simp)
      have x0 : w1.cell? ⟨g, 0, none⟩ = some (.string W0) := by rw [hcell 0 (by rw [HN.out]; omega)]; exact congrArg (fun x => some (Value.string x)) hW0.out
      have x1 : w1.cell? ⟨g, 1, none⟩ = some (.string W1) := by rw [hcell 1 (by rw [HN.out]; omega)]; exact congrArg (fun x => some (Value.string x)) hW1.out
      have x2 : w1.cell? ⟨g, 2, none⟩ = some (.string W2) := by rw [hcell 2 (by rw [HN.out]; omega)]; exact congrArg (fun x => some (Value.string x)) hW2.out
      have x4 : w1.cell? ⟨g, 4, none⟩ = some (.string W4) := by rw [hcell 4 (by rw [HN.out]; omega)]; exact congrArg (fun x => some (Value.string x)) hW4.out
      have x6 : w1.cell? ⟨g, 6, none⟩ = some (.string W6) := by rw [hcell 6 (by rw [HN.out]; omega)]; exact congrArg (fun x => some (Value.string x)) hW6.out
      have X6 := hid x6
      clear x6
      rw [HN.out] at hc ⊢
      have hw1 : w.heap.size < w1.heap.size := by have := hb1.size; simp at this; omega
      have B1 : Below w.heap.size w w1 := Below.on (by go_grown) (by simp) hb1
      have HB1 : Bb ≤ w1.heap.size := by omega
      have HT1 := hid (HT0.out.on hBb B1)
      have HE1 := hid (HE0.out.on hBb B1)
      clear ho hcell KS hb1
      have K0 : Hid (∀ w', Below w1.heap.size w1 w' → Calls Tryd.prog 65 #[.string W0] w' fun e w'' => e = .returned (.int .i64 m0) ∧ Below w'.heap.size w' w'') := fun w' hb => by rw [← HM0.out]; exact number_impl W0 Bb w' (by have := hb.size; omega) (HT1.out.on HB1 hb) (HE1.out.on HB1 hb) HZ.out.1
      have K2 : Hid (∀ w', Below w1.heap.size w1 w' → Calls Tryd.prog 65 #[.string W4] w' fun e w'' => e = .returned (.int .i64 m2) ∧ Below w'.heap.size w' w'') := fun w' hb => by rw [← HM2.out]; exact number_impl W4 Bb w' (by have := hb.size; omega) (HT1.out.on HB1 hb) (HE1.out.on HB1 hb) HZ.out.2.1
      have K3 : Hid (∀ w', Below w1.heap.size w1 w' → Calls Tryd.prog 65 #[.string tC] w' fun e w'' => e = .returned (.int .i64 m3) ∧ Below w'.heap.size w' w'') := fun w' hb => by rw [← HM3.out]; exact number_impl tC Bb w' (by have := hb.size; omega) (HT1.out.on HB1 hb) (HE1.out.on HB1 hb) HZ.out.2.2.1
      have K4 : Hid (∀ w', Below w1.heap.size w1 w' → Calls Tryd.prog 65 #[.string W6] w' fun e w'' => e = .returned (.int .i64 m4) ∧ Below w'.heap.size w' w'') := fun w' hb => by rw [← HM4.out]; exact number_impl W6 Bb w' (by have := hb.size; omega) (HT1.out.on HB1 hb) (HE1.out.on HB1 hb) HZ.out.2.2.2
      go_upto_region 4 with fail
      go_cut [5] from 14 (fun p w' => ∃ N, p = .pointer (some ⟨N, 0, none⟩) ∧ w1.heap.size ≤ N ∧ Below w1.heap.size w1 w' ∧ BoxIs N #[.int .i64 m0, .string W1, .int .i64 m2, .int .i64 m3, .int .i64 0] 51 w')
      case first =>
        have hS0 : Below w1.heap.size w1 w1.drew ∧ w1.drew.cell? ⟨g, 0, none⟩ = some (.string W0) ∧ w1.drew.cell? ⟨g, 1, none⟩ = some (.string W1) ∧ w1.drew.cell? ⟨g, 2, none⟩ = some (.string W2) ∧ w1.drew.cell? ⟨g, 4, none⟩ = some (.string W4) := ⟨(Below.refl _ _).drew, x0, x1, x2, x4⟩
        have hS1 : Below w1.heap.size w1 (w1.alloc (.cells #[.int .i64 0, .string { data := #[] }, .int .i64 0, .int .i64 0, .int .i64 0] 51)).drew ∧ (w1.alloc (.cells #[.int .i64 0, .string { data := #[] }, .int .i64 0, .int .i64 0, .int .i64 0] 51)).drew.cell? ⟨g, 0, none⟩ = some (.string W0) ∧ (w1.alloc (.cells #[.int .i64 0, .string { data := #[] }, .int .i64 0, .int .i64 0, .int .i64 0] 51)).drew.cell? ⟨g, 1, none⟩ = some (.string W1) ∧ (w1.alloc (.cells #[.int .i64 0, .string { data := #[] }, .int .i64 0, .int .i64 0, .int .i64 0] 51)).drew.cell? ⟨g, 2, none⟩ = some (.string W2) ∧ (w1.alloc (.cells #[.int .i64 0, .string { data := #[] }, .int .i64 0, .int .i64 0, .int .i64 0] 51)).drew.cell? ⟨g, 4, none⟩ = some (.string W4) := keep_alloc4 lg hS0 _
        have hB1 : BoxIs w1.heap.size #[.int .i64 0, .string { data := #[] }, .int .i64 0, .int .i64 0, .int .i64 0] 51 (w1.alloc (.cells #[.int .i64 0, .string { data := #[] }, .int .i64 0, .int .i64 0, .int .i64 0] 51)).drew := heap_alloc_new w1 _
        go_region_held3 (fun w' => Below w1.heap.size w1 w' ∧ w'.cell? ⟨g, 0, none⟩ = some (.string W0) ∧ w'.cell? ⟨g, 1, none⟩ = some (.string W1) ∧ w'.cell? ⟨g, 2, none⟩ = some (.string W2) ∧ w'.cell? ⟨g, 4, none⟩ = some (.string W4)) (first | with_reducible assumption | with_reducible exact keep_alloc4 lg (by assumption) _ | (with_reducible refine keep_set4 lg (keep_set4 lg (keep_set4 lg (keep_set4 lg (keep_set4 lg (by assumption) _ _ _ ?_) _ _ _ ?_) _ _ _ ?_) _ _ _ ?_) _ _ _ ?_ <;> omega)) (first
          | (go_at_call 67; (with_reducible refine (T2.out _).mono ?_)
             rintro e w9 ⟨rfl, rfl⟩)
          | (go_at_call 65; first | (with_reducible refine (K0.out _ (And.left (by assumption))).mono ?_) | (with_reducible refine (K2.out _ (And.left (by assumption))).mono ?_) | (with_reducible refine (K3.out _ (And.left (by assumption))).mono ?_)
             rintro e w9 ⟨rfl, hb9⟩
             have hS9 := keep_call4 lg (by assumption) hb9
             have hz9 := hS9.1.size
             try (have hbx := (by with_reducible first | exact BoxIs.new hb9 | exact BoxIs.old (by assumption) hb9 : BoxIs _ _ 51 w9)
                  have q0 := hbx.cell 0 (by simp)
                  have zz0 := hbx.frozen 0
                  have q1 := hbx.cell 1 (by simp)
                  have zz1 := hbx.frozen 1
                  have q2 := hbx.cell 2 (by simp)
                  have zz2 := hbx.frozen 2
                  have q3 := hbx.cell 3 (by simp)
                  have zz3 := hbx.frozen 3
                  have q4 := hbx.cell 4 (by simp)
                  have zz4 := hbx.frozen 4)))
        all_goals (go_wp2_with fail; go_meet; refine ⟨_, rfl, by omega, And.left (by with_reducible assumption), ?_⟩; first | with_reducible exact BoxIs.here _ _ _ | with_reducible exact BoxIs.fill5 (by assumption))
      case rest =>
        obtain ⟨N, rfl, hN, hbN, hbox⟩ := hcut
        have HBX := hid hbox
        clear K0 K2 K3 T2 x0 x1 x2 x4 hbox
        have RB2 := hid (RB1.old hbN)
        have B2 : Below w.heap.size w wc := Below.on B1 B1.size hbN
        clear RB1
        have hl2 : w.heap.size < wc.heap.size := RB2.out.lt
        have lN := HBX.out.lt
        have p0 := HBX.out.cell 0 (by simp)
        have p1 := HBX.out.cell 1 (by simp)
        have p2 := HBX.out.cell 2 (by simp)
        have p3 := HBX.out.cell 3 (by simp)
        have p4 := HBX.out.cell 4 (by simp)
        have pz0 := HBX.out.frozen 0
        have pz1 := HBX.out.frozen 1
        have pz2 := HBX.out.frozen 2
        have pz3 := HBX.out.frozen 3
        have pz4 := HBX.out.frozen 4
        have u0 := RB2.out.cell 0 (by simp)
        have u1 := RB2.out.cell 1 (by simp)
        have u2 := RB2.out.cell 2 (by simp)
        have u3 := RB2.out.cell 3 (by simp)
        have u4 := RB2.out.cell 4 (by simp)
        have uz0 := RB2.out.frozen 0
        have uz1 := RB2.out.frozen 1
        have uz2 := RB2.out.frozen 2
        have uz3 := RB2.out.frozen 3
        have uz4 := RB2.out.frozen 4
        have ul := hl2
        have x6 : wc.cell? ⟨g, 6, none⟩ = some (.string W6) := (hbN.cell lg).trans X6.out
        go_wp2_with fail
        refine (K4.out _ hbN).mono ?_
        rintro e w2 ⟨rfl, hb2⟩
        clear p0 pz0 u0 uz0 p1 pz1 u1 uz1 p2 pz2 u2 uz2 p3 pz3 u3 uz3 p4 pz4 u4 uz4 ul
        have B3 : Below w1.heap.size w1 (w2.setCell ⟨N, 4, none⟩ (.int .i64 m4)) := below_setP (Below.on hbN hbN.size hb2) (by have := hbN.size; have := hb2.size; omega) hN
        have HBY : BoxIs N #[.int .i64 m0, .string W1, .int .i64 m2, .int .i64 m3, .int .i64 0] 51 w2 := HBX.out.old hb2
        have RBY := hid (RB2.out.old hb2)
        have lN := HBY.lt
        have p0 := HBY.cell 0 (by simp)
        have p1 := HBY.cell 1 (by simp)
        have p2 := HBY.cell 2 (by simp)
        have p3 := HBY.cell 3 (by simp)
        have p4 := HBY.cell 4 (by simp)
        have pz0 := HBY.frozen 0
        have pz1 := HBY.frozen 1
        have pz2 := HBY.frozen 2
        have pz3 := HBY.frozen 3
        have pz4 := HBY.frozen 4
        have u0 := RBY.out.cell 0 (by simp)
        have u1 := RBY.out.cell 1 (by simp)
        have u2 := RBY.out.cell 2 (by simp)
        have u3 := RBY.out.cell 3 (by simp)
        have u4 := RBY.out.cell 4 (by simp)
        have uz0 := RBY.out.frozen 0
        have uz1 := RBY.out.frozen 1
        have uz2 := RBY.out.frozen 2
        have uz3 := RBY.out.frozen 3
        have uz4 := RBY.out.frozen 4
        have ul := RBY.out.lt
        skip
        obtain ⟨q, hq⟩ : ∃ q, rtTx (⟨m0, W1, m2, m3, m4⟩ : ReaderD) = q := ⟨_, rfl⟩
        have HQ := hid hq
        obtain ⟨b, hb⟩ : ∃ b, readerB (⟨m0, W1, m2, m3, m4⟩ : ReaderD) = b := ⟨_, rfl⟩
        have HV := hid hb
        have KT := hid (readerText_impl (⟨m0, W1, m2, m3, m4⟩ : ReaderD) hnm.out Bb (w2.setCell ⟨N, 4, none⟩ (.int .i64 m4)) (by have := B3.size; omega) (HT1.out.on HB1 B3))
        rw [hq, hb] at KT
        clear hq hb
        go_wp2_with fail
        refine KT.out.mono ?_
        rintro e w3 ⟨rfl, hb3⟩
        clear p0 pz0 u0 uz0 p1 pz1 u1 uz1 p2 pz2 u2 uz2 p3 pz3 u3 uz3 p4 pz4 u4 uz4 ul
        have HB3 := hid ((HBY.set 4 (.int .i64 m4)).old hb3)
        have RB3 := hid ((RBY.out.other 4 (.int .i64 m4) (by omega : N ≠ w.heap.size)).old hb3)
        have B4 : Below w.heap.size w (w2.setCell ⟨N, 4, none⟩ (.int .i64 m4)) := Below.on B1 B1.size B3
        have Bw3 : Below w.heap.size w w3 := Below.on B4 B4.size hb3
        clear lN
        have p0 := HB3.out.cell 0 (by simp)
        have p1 := HB3.out.cell 1 (by simp)
        have p2 := HB3.out.cell 2 (by simp)
        have p3 := HB3.out.cell 3 (by simp)
        have p4 := HB3.out.cell 4 (by simp)
        have pz0 := HB3.out.frozen 0
        have pz1 := HB3.out.frozen 1
        have pz2 := HB3.out.frozen 2
        have pz3 := HB3.out.frozen 3
        have pz4 := HB3.out.frozen 4
        have u0 := RB3.out.cell 0 (by simp)
        have u1 := RB3.out.cell 1 (by simp)
        have u2 := RB3.out.cell 2 (by simp)
        have u3 := RB3.out.cell 3 (by simp)
        have u4 := RB3.out.cell 4 (by simp)
        have uz0 := RB3.out.frozen 0
        have uz1 := RB3.out.frozen 1
        have uz2 := RB3.out.frozen 2
        have uz3 := RB3.out.frozen 3
        have uz4 := RB3.out.frozen 4
        have ul := RB3.out.lt
        have lN := HB3.out.lt
        cases b with
        | true =>
          by_cases hqs : q = s
          · have hps := pr_of (s := s) HV.out (by rw [← rtTx_yes HV.out, HQ.out]; exact hqs)
            have hyes := hid hps.1
            have hv2 : Hid (prV s = (⟨m0, W1, m2, m3, m4⟩ : ReaderD)) := by unfold Hid; rw [prV_yes hps.1, hps.2.1]
            clear hps
            subst hqs
            go_wp2_with fail
            exact bodyPost_ret (v := .tuple #[((⟨m0, W1, m2, m3, m4⟩ : ReaderD) : ReaderD).val, .bool true]) (by simp [results, Tryd.results40, go_sem, ul, u0, u1, u2, u3, u4]) rfl ⟨by rw [hyes.out, hv2.out], by go_grown⟩
          · have hno : Hid (prB s = false) := by
              unfold Hid
              rw [← Bool.not_eq_true]
              intro h
              obtain ⟨h1, _, h3⟩ := prI_yes h
              rw [HX.out] at h1
              rw [← h1] at h3
              apply hqs
              rw [← HQ.out, rtTx_yes HV.out]
              exact h3
            have hne := bytes_ne hqs
            clear hqs
            go_wp2_with fail
            exact bodyPost_ret (v := .tuple #[(⟨0, { data := #[] }, 0, 0, 0⟩ : ReaderD).val, .bool false]) (by simp [results, Tryd.results40, go_sem, ul, u0, u1, u2, u3, u4]) rfl ⟨by rw [hno.out, prV_no hno.out]; first | done | exact rfl, by go_grown⟩
        | false =>
          have hno : Hid (prB s = false) := by
            unfold Hid
            rw [← Bool.not_eq_true]
            intro h
            obtain ⟨h1, h2, _⟩ := prI_yes h
            rw [← h1, HX.out, HV.out] at h2
            cases h2
          go_wp2_with fail
          exact bodyPost_ret (v := .tuple #[(⟨0, { data := #[] }, 0, 0, 0⟩ : ReaderD).val, .bool false]) (by simp [results, Tryd.results40, go_sem, ul, u0, u1, u2, u3, u4]) rfl ⟨by rw [hno.out, prV_no hno.out]; first | done | exact rfl, by go_grown⟩
  · have hno : Hid (prB s = false) := by unfold Hid prB; rw [HN.out]; simp; omega
    have hn5 : ((n : Int) != 5) = true := by simp; omega
    have hn7 : ((n : Int) != 7) = true := by simp; omega
    clear h57
    go_enter Tryd.func40, Tryd.ntmps40
    go_wp2_with fail
    refine (KS.out _).mono ?_
    rintro e w1 ⟨v, rfl, ho, hb1⟩
    have RB1 := BoxIs.new hb1
    obtain ⟨ao, cap, rfl, _⟩ := ho.slice
    rw [HN.out]
    clear ho
    have u0 := RB1.cell 0 (by simp)
    have u1 := RB1.cell 1 (by simp)
    have u2 := RB1.cell 2 (by simp)
    have u3 := RB1.cell 3 (by simp)
    have u4 := RB1.cell 4 (by simp)
    have uz0 := RB1.frozen 0
    have uz1 := RB1.frozen 1
    have uz2 := RB1.frozen 2
    have uz3 := RB1.frozen 3
    have uz4 := RB1.frozen 4
    have ul := RB1.lt
    have B1 : Below w.heap.size w w1 := Below.on (by go_grown) (by simp) hb1
    clear hb1
    go_wp2_with fail
    exact bodyPost_ret (v := .tuple #[(⟨0, { data := #[] }, 0, 0, 0⟩ : ReaderD).val, .bool false]) (by simp [results, Tryd.results40, go_sem, ul, u0, u1, u2, u3, u4]) rfl ⟨by rw [hno.out, prV_no hno.out]; first | done | exact rfl, by go_grown⟩
end Go.Proofs.YteklomkncfjdlaaDoor
