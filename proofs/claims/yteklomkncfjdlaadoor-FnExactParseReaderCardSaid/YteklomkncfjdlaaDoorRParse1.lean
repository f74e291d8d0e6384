/-
  ParseReader, by the reference. No condition.
-/
import Derived.Test.YteklomkncfjdlaaDoorRParseP
import Derived.Test.YteklomkncfjdlaaDoorBoxes
namespace Go.Proofs.YteklomkncfjdlaaDoor
open Go.RowKit
set_option linter.unusedVariables false
set_option maxRecDepth 100000

theorem below_set {w w' : World} {B N o : Nat} {v : Value} (h : Below B w w') (hB : B ≤ w'.heap.size) (hN : B ≤ N) : Below B w (w'.setCell ⟨N, o, none⟩ v) := h.grown (grownBy_set w' N o v) hB (fun j hj => by cases hj; omega)

set_option maxHeartbeats 16000000 in
theorem parseReader_spec (s : ByteArray) (w : World) (hs : s.size ≤ 1048576) : Calls Tryd.prog 39 #[.string s] w fun e w' => e = .returned (.tuple #[(prV s).val, .bool (prB s)]) ∧ Below w.heap.size w w' := by
  have KS : Hid (∀ w, Calls Tryd.prog 46 #[.string s, .int .u8 32] w fun e w' => ∃ v, e = .returned v ∧ OwnS w.heap.size w' v (splitP s 32) ∧ Below w.heap.size w w') := fun w => split_spec s 32 w hs
  obtain ⟨n, hn⟩ : ∃ n, (splitP s 32).length = n := ⟨_, rfl⟩
  have HN := hid hn
  clear hn
  obtain ⟨W0, h0⟩ : ∃ x, wordAt s 0 = x := ⟨_, rfl⟩
  have z0 : W0.size ≤ 1048576 := by rw [← h0]; have := wordAt_le s 0; omega
  have hW0 := hid h0
  clear h0
  obtain ⟨W1, h1⟩ : ∃ x, wordAt s 1 = x := ⟨_, rfl⟩
  have z1 : W1.size ≤ 1048576 := by rw [← h1]; have := wordAt_le s 1; omega
  have hW1 := hid h1
  clear h1
  obtain ⟨W2, h2⟩ : ∃ x, wordAt s 2 = x := ⟨_, rfl⟩
  have z2 : W2.size ≤ 1048576 := by rw [← h2]; have := wordAt_le s 2; omega
  have hW2 := hid h2
  clear h2
  obtain ⟨W3, h3⟩ : ∃ x, wordAt s 3 = x := ⟨_, rfl⟩
  have z3 : W3.size ≤ 1048576 := by rw [← h3]; have := wordAt_le s 3; omega
  have hW3 := hid h3
  clear h3
  obtain ⟨W4, h4⟩ : ∃ x, wordAt s 4 = x := ⟨_, rfl⟩
  have z4 : W4.size ≤ 1048576 := by rw [← h4]; have := wordAt_le s 4; omega
  have hW4 := hid h4
  clear h4
  obtain ⟨W5, h5⟩ : ∃ x, wordAt s 5 = x := ⟨_, rfl⟩
  have z5 : W5.size ≤ 1048576 := by rw [← h5]; have := wordAt_le s 5; omega
  have hW5 := hid h5
  clear h5
  obtain ⟨W6, h6⟩ : ∃ x, wordAt s 6 = x := ⟨_, rfl⟩
  have z6 : W6.size ≤ 1048576 := by rw [← h6]; have := wordAt_le s 6; omega
  have hW6 := hid h6
  clear h6
  have hz7 : n ≤ 1048577 := by have := splitP_le s 32; rw [HN.out] at this; omega
  by_cases h60 : s.size ≤ 60
  · skip
    by_cases h57 : n = 5 ∨ n = 7
    · skip
      by_cases hw2 : W2.size = 2
      · rcases h57 with rfl | rfl
        · skip
          obtain ⟨t2, ht2⟩ : ∃ t, W2.extract 1 2 = t := ⟨_, rfl⟩
          have ht2b : W2.extract 1 W2.size = t2 := by rw [hw2]; exact ht2
          have HT2 : Hid (t2.data.toList = W2.data.toList.drop 1) := by unfold Hid; rw [← ht2, ext_list, List.take_of_length_le (by rw [← Lib.size_eq]; omega)]
          have zt2 : t2.size ≤ 1048576 := by rw [← ht2, ByteArray.size_extract]; omega
          have hw2i : (W2.size : Int) = 2 := by omega
          obtain ⟨r0, hr0⟩ : ∃ r, rdN W0.data.toList = r := ⟨_, rfl⟩
          obtain ⟨b0, hb0⟩ : ∃ r, rdB W0.data.toList = r := ⟨_, rfl⟩
          have R0 := hid (fun w => read_spec W0 w z0)
          rw [hr0, hb0] at R0
          obtain ⟨r3, hr3⟩ : ∃ r, rdN t2.data.toList = r := ⟨_, rfl⟩
          obtain ⟨b3, hb3⟩ : ∃ r, rdB t2.data.toList = r := ⟨_, rfl⟩
          have R3 := hid (fun w => read_spec t2 w zt2)
          rw [hr3, hb3] at R3
          obtain ⟨r2, hr2⟩ : ∃ r, rdN W4.data.toList = r := ⟨_, rfl⟩
          obtain ⟨b2, hb2⟩ : ∃ r, rdB W4.data.toList = r := ⟨_, rfl⟩
          have R2 := hid (fun w => read_spec W4 w z4)
          rw [hr2, hb2] at R2
          have HX : Hid (outRS s = (⟨r0, W1, r2, r3, 0⟩ : ReaderD)) := by unfold Hid outRS; rw [HN.out, hW0.out, hW1.out, hW4.out, hW2.out, ← HT2.out, hr0, hr2, hr3]; rfl
          have hnm : Hid (W1.size ≤ maxLen) := by unfold Hid maxLen; omega
          clear hr0 hb0 hr3 hb3 hr2 hb2
          go_enter Tryd.func39, Tryd.ntmps39
          go_wp2_with fail
          refine (KS.out _).mono ?_
          rintro e w1 ⟨v, rfl, ho, hb1⟩
          have RB1 := hid (BoxIs.new hb1)
          rcases ho.form with ⟨_, h0⟩ | ⟨g, cap, rfl, _, lg, hc, _, hcell, _⟩
          · exact absurd (congrArg List.length h0) (by rw [HN.out]; simp)
          have X0 : Hid (w1.cell? ⟨g, 0, none⟩ = some (.string W0)) := by unfold Hid; rw [hcell 0 (by rw [HN.out]; omega)]; exact congrArg (fun x => some (Value.string x)) hW0.out
          have X1 : Hid (w1.cell? ⟨g, 1, none⟩ = some (.string W1)) := by unfold Hid; rw [hcell 1 (by rw [HN.out]; omega)]; exact congrArg (fun x => some (Value.string x)) hW1.out
          have X2 : Hid (w1.cell? ⟨g, 2, none⟩ = some (.string W2)) := by unfold Hid; rw [hcell 2 (by rw [HN.out]; omega)]; exact congrArg (fun x => some (Value.string x)) hW2.out
          have X4 : Hid (w1.cell? ⟨g, 4, none⟩ = some (.string W4)) := by unfold Hid; rw [hcell 4 (by rw [HN.out]; omega)]; exact congrArg (fun x => some (Value.string x)) hW4.out
          rw [HN.out] at hc ⊢
          have hw1 : w.heap.size < w1.heap.size := by have := hb1.size; simp at this; omega
          have B1 : Below w.heap.size w w1 := Below.on (by go_grown) (by simp) hb1
          have Hw1 : Below w1.heap.size w1 w1 := Below.refl _ _
          clear ho hcell hb1
          have ul : w.heap.size < w1.heap.size := by have := Hw1.size; omega
          have x0 : w1.cell? ⟨g, 0, none⟩ = some (.string W0) := (Hw1.cell lg).trans X0.out
          have x1 : w1.cell? ⟨g, 1, none⟩ = some (.string W1) := (Hw1.cell lg).trans X1.out
          have x2 : w1.cell? ⟨g, 2, none⟩ = some (.string W2) := (Hw1.cell lg).trans X2.out
          have x4 : w1.cell? ⟨g, 4, none⟩ = some (.string W4) := (Hw1.cell lg).trans X4.out
          have RBc := RB1.out.old Hw1
          have u0 := RBc.cell 0 (by simp)
          have uz0 := RBc.frozen 0
          have u1 := RBc.cell 1 (by simp)
          have uz1 := RBc.frozen 1
          have u2 := RBc.cell 2 (by simp)
          have uz2 := RBc.frozen 2
          have u3 := RBc.cell 3 (by simp)
          have uz3 := RBc.frozen 3
          have u4 := RBc.cell 4 (by simp)
          have uz4 := RBc.frozen 4
          clear RBc
          go_wp2_with fail
          refine (R0.out _).mono ?_
          rintro e w2 ⟨rfl, hb⟩
          clear ul x0 x1 x2 x4 u0 uz0 u1 uz1 u2 uz2 u3 uz3 u4 uz4
          have Hw2 : Below w1.heap.size w1 w2 := Below.on (by go_grown) (by simp) hb
          have BXw2 : BoxIs w1.heap.size #[.int .i64 0, .string W1, .int .i64 0, .int .i64 0, .int .i64 0] 51 w2 := BoxIs.new hb
          clear hb
          have ul : w.heap.size < w2.heap.size := by have := Hw2.size; omega
          have x0 : w2.cell? ⟨g, 0, none⟩ = some (.string W0) := (Hw2.cell lg).trans X0.out
          have x1 : w2.cell? ⟨g, 1, none⟩ = some (.string W1) := (Hw2.cell lg).trans X1.out
          have x2 : w2.cell? ⟨g, 2, none⟩ = some (.string W2) := (Hw2.cell lg).trans X2.out
          have x4 : w2.cell? ⟨g, 4, none⟩ = some (.string W4) := (Hw2.cell lg).trans X4.out
          have RBc := RB1.out.old Hw2
          have u0 := RBc.cell 0 (by simp)
          have uz0 := RBc.frozen 0
          have u1 := RBc.cell 1 (by simp)
          have uz1 := RBc.frozen 1
          have u2 := RBc.cell 2 (by simp)
          have uz2 := RBc.frozen 2
          have u3 := RBc.cell 3 (by simp)
          have uz3 := RBc.frozen 3
          have u4 := RBc.cell 4 (by simp)
          have uz4 := RBc.frozen 4
          clear RBc
          have lN := BXw2.lt
          have q0 := BXw2.cell 0 (by simp)
          have zz0 := BXw2.frozen 0
          have q1 := BXw2.cell 1 (by simp)
          have zz1 := BXw2.frozen 1
          have q2 := BXw2.cell 2 (by simp)
          have zz2 := BXw2.frozen 2
          have q3 := BXw2.cell 3 (by simp)
          have zz3 := BXw2.frozen 3
          have q4 := BXw2.cell 4 (by simp)
          have zz4 := BXw2.frozen 4
          go_wp2_with fail
          refine (R3.out _).mono ?_
          rintro e w3 ⟨rfl, hb⟩
          clear ul x0 x1 x2 x4 u0 uz0 u1 uz1 u2 uz2 u3 uz3 u4 uz4 lN q0 zz0 q1 zz1 q2 zz2 q3 zz3 q4 zz4
          have Hw3 : Below w1.heap.size w1 w3 := Below.on (below_set Hw2 Hw2.size (Nat.le_refl _)) (by have := Hw2.size; simp; omega) hb
          have BXw3 : BoxIs w1.heap.size #[.int .i64 r0, .string W1, .int .i64 0, .int .i64 0, .int .i64 0] 51 w3 := (BXw2.set 0 (.int .i64 r0)).old hb
          clear hb Hw2 BXw2
          have ul : w.heap.size < w3.heap.size := by have := Hw3.size; omega
          have x0 : w3.cell? ⟨g, 0, none⟩ = some (.string W0) := (Hw3.cell lg).trans X0.out
          have x1 : w3.cell? ⟨g, 1, none⟩ = some (.string W1) := (Hw3.cell lg).trans X1.out
          have x2 : w3.cell? ⟨g, 2, none⟩ = some (.string W2) := (Hw3.cell lg).trans X2.out
          have x4 : w3.cell? ⟨g, 4, none⟩ = some (.string W4) := (Hw3.cell lg).trans X4.out
          have RBc := RB1.out.old Hw3
          have u0 := RBc.cell 0 (by simp)
          have uz0 := RBc.frozen 0
          have u1 := RBc.cell 1 (by simp)
          have uz1 := RBc.frozen 1
          have u2 := RBc.cell 2 (by simp)
          have uz2 := RBc.frozen 2
          have u3 := RBc.cell 3 (by simp)
          have uz3 := RBc.frozen 3
          have u4 := RBc.cell 4 (by simp)
          have uz4 := RBc.frozen 4
          clear RBc
          have lN := BXw3.lt
          have q0 := BXw3.cell 0 (by simp)
          have zz0 := BXw3.frozen 0
          have q1 := BXw3.cell 1 (by simp)
          have zz1 := BXw3.frozen 1
          have q2 := BXw3.cell 2 (by simp)
          have zz2 := BXw3.frozen 2
          have q3 := BXw3.cell 3 (by simp)
          have zz3 := BXw3.frozen 3
          have q4 := BXw3.cell 4 (by simp)
          have zz4 := BXw3.frozen 4
          go_wp2_with fail
          refine (R2.out _).mono ?_
          rintro e w4 ⟨rfl, hb⟩
          clear ul x0 x1 x2 x4 u0 uz0 u1 uz1 u2 uz2 u3 uz3 u4 uz4 lN q0 zz0 q1 zz1 q2 zz2 q3 zz3 q4 zz4
          have Hw4 : Below w1.heap.size w1 w4 := Below.on (below_set Hw3 Hw3.size (Nat.le_refl _)) (by have := Hw3.size; simp; omega) hb
          have BXw4 : BoxIs w1.heap.size #[.int .i64 r0, .string W1, .int .i64 0, .int .i64 r3, .int .i64 0] 51 w4 := (BXw3.set 3 (.int .i64 r3)).old hb
          clear hb Hw3 BXw3
          have ul : w.heap.size < w4.heap.size := by have := Hw4.size; omega
          have x0 : w4.cell? ⟨g, 0, none⟩ = some (.string W0) := (Hw4.cell lg).trans X0.out
          have x1 : w4.cell? ⟨g, 1, none⟩ = some (.string W1) := (Hw4.cell lg).trans X1.out
          have x2 : w4.cell? ⟨g, 2, none⟩ = some (.string W2) := (Hw4.cell lg).trans X2.out
          have x4 : w4.cell? ⟨g, 4, none⟩ = some (.string W4) := (Hw4.cell lg).trans X4.out
          have RBc := RB1.out.old Hw4
          have u0 := RBc.cell 0 (by simp)
          have uz0 := RBc.frozen 0
          have u1 := RBc.cell 1 (by simp)
          have uz1 := RBc.frozen 1
          have u2 := RBc.cell 2 (by simp)
          have uz2 := RBc.frozen 2
          have u3 := RBc.cell 3 (by simp)
          have uz3 := RBc.frozen 3
          have u4 := RBc.cell 4 (by simp)
          have uz4 := RBc.frozen 4
          clear RBc
          have lN := BXw4.lt
          have q0 := BXw4.cell 0 (by simp)
          have zz0 := BXw4.frozen 0
          have q1 := BXw4.cell 1 (by simp)
          have zz1 := BXw4.frozen 1
          have q2 := BXw4.cell 2 (by simp)
          have zz2 := BXw4.frozen 2
          have q3 := BXw4.cell 3 (by simp)
          have zz3 := BXw4.frozen 3
          have q4 := BXw4.cell 4 (by simp)
          have zz4 := BXw4.frozen 4
          by_cases hv : readerB (⟨r0, W1, r2, r3, 0⟩ : ReaderD) = true
          · have HV := hid hv
            obtain ⟨q, hq⟩ : ∃ q, rtS (⟨r0, W1, r2, r3, 0⟩ : ReaderD) = q := ⟨_, rfl⟩
            have HQ := hid hq
            have KT : Hid (∀ w, Calls Tryd.prog 62 #[((⟨r0, W1, r2, r3, 0⟩ : ReaderD)).val] w fun e w' => e = .returned (.string q) ∧ Below w.heap.size w w') := fun w => by rw [← hq]; exact l3Text_spec _ hv w
            clear hq hv
            go_wp2_with fail
            refine (reader_spec (⟨r0, W1, r2, r3, 0⟩ : ReaderD) hnm.out _).mono ?_
            rintro e wx ⟨rfl, hb⟩
            rw [HV.out]
            clear ul x0 x1 x2 x4 u0 uz0 u1 uz1 u2 uz2 u3 uz3 u4 uz4 lN q0 zz0 q1 zz1 q2 zz2 q3 zz3 q4 zz4
            have Hwx : Below w1.heap.size w1 wx := Below.on (below_set Hw4 Hw4.size (Nat.le_refl _)) (by have := Hw4.size; simp; omega) hb
            have BXwx : BoxIs w1.heap.size #[.int .i64 r0, .string W1, .int .i64 r2, .int .i64 r3, .int .i64 0] 51 wx := (BXw4.set 2 (.int .i64 r2)).old hb
            clear hb Hw4 BXw4
            have ul : w.heap.size < wx.heap.size := by have := Hwx.size; omega
            have RBc := RB1.out.old Hwx
            have u0 := RBc.cell 0 (by simp)
            have uz0 := RBc.frozen 0
            have u1 := RBc.cell 1 (by simp)
            have uz1 := RBc.frozen 1
            have u2 := RBc.cell 2 (by simp)
            have uz2 := RBc.frozen 2
            have u3 := RBc.cell 3 (by simp)
            have uz3 := RBc.frozen 3
            have u4 := RBc.cell 4 (by simp)
            have uz4 := RBc.frozen 4
            clear RBc
            have lN := BXwx.lt
            have q0 := BXwx.cell 0 (by simp)
            have zz0 := BXwx.frozen 0
            have q1 := BXwx.cell 1 (by simp)
            have zz1 := BXwx.frozen 1
            have q2 := BXwx.cell 2 (by simp)
            have zz2 := BXwx.frozen 2
            have q3 := BXwx.cell 3 (by simp)
            have zz3 := BXwx.frozen 3
            have q4 := BXwx.cell 4 (by simp)
            have zz4 := BXwx.frozen 4
            have Bx : Below w.heap.size w wx := Below.on B1 B1.size Hwx
            go_wp2_with fail
            refine (KT.out _).mono ?_
            rintro e wy ⟨rfl, hb⟩
            clear ul  u0 uz0 u1 uz1 u2 uz2 u3 uz3 u4 uz4 lN q0 zz0 q1 zz1 q2 zz2 q3 zz3 q4 zz4
            have Hwy : Below w1.heap.size w1 wy := Below.on Hwx Hwx.size hb
            have BXwy : BoxIs w1.heap.size #[.int .i64 r0, .string W1, .int .i64 r2, .int .i64 r3, .int .i64 0] 51 wy := BXwx.old hb
            clear hb Hwx BXwx Bx
            have ul : w.heap.size < wy.heap.size := by have := Hwy.size; omega
            have RBc := RB1.out.old Hwy
            have u0 := RBc.cell 0 (by simp)
            have uz0 := RBc.frozen 0
            have u1 := RBc.cell 1 (by simp)
            have uz1 := RBc.frozen 1
            have u2 := RBc.cell 2 (by simp)
            have uz2 := RBc.frozen 2
            have u3 := RBc.cell 3 (by simp)
            have uz3 := RBc.frozen 3
            have u4 := RBc.cell 4 (by simp)
            have uz4 := RBc.frozen 4
            clear RBc
            have lN := BXwy.lt
            have q0 := BXwy.cell 0 (by simp)
            have zz0 := BXwy.frozen 0
            have q1 := BXwy.cell 1 (by simp)
            have zz1 := BXwy.frozen 1
            have q2 := BXwy.cell 2 (by simp)
            have zz2 := BXwy.frozen 2
            have q3 := BXwy.cell 3 (by simp)
            have zz3 := BXwy.frozen 3
            have q4 := BXwy.cell 4 (by simp)
            have zz4 := BXwy.frozen 4
            have By : Below w.heap.size w wy := Below.on B1 B1.size Hwy
            by_cases hqs : q = s
            · have hps := pr_of (s := s) HV.out (by rw [HQ.out]; exact hqs)
              have hyes := hid hps.1
              have hv2 : Hid (prV s = (⟨r0, W1, r2, r3, 0⟩ : ReaderD)) := by unfold Hid; rw [prV_yes hps.1, hps.2.1]
              clear hps
              subst hqs
              go_wp2_with fail
              exact bodyPost_ret (v := .tuple #[((⟨r0, W1, r2, r3, 0⟩ : ReaderD) : ReaderD).val, .bool true]) (by simp [results, Tryd.results39, go_sem, ul, u0, u1, u2, u3, u4]) rfl ⟨by rw [hyes.out, hv2.out], by go_grown⟩
            · have hno : Hid (prB s = false) := by
                unfold Hid
                rw [← Bool.not_eq_true]
                intro h
                have h3 := (prI_yes h).2.2
                rw [HX.out] at h3
                apply hqs
                rw [← HQ.out]
                exact h3
              have hne := bytes_ne hqs
              clear hqs
              go_wp2_with fail
              exact bodyPost_ret (v := .tuple #[(⟨0, { data := #[] }, 0, 0, 0⟩ : ReaderD).val, .bool false]) (by simp [results, Tryd.results39, go_sem, ul, u0, u1, u2, u3, u4]) rfl ⟨by rw [hno.out, prV_no hno.out]; first | done | exact rfl, by go_grown⟩
          · have HV := hid (show readerB (⟨r0, W1, r2, r3, 0⟩ : ReaderD) = false by simpa using hv)
            clear hv
            have hno : Hid (prB s = false) := by unfold Hid prB; rw [HX.out, HV.out]; simp
            go_wp2_with fail
            refine (reader_spec (⟨r0, W1, r2, r3, 0⟩ : ReaderD) hnm.out _).mono ?_
            rintro e wx ⟨rfl, hb⟩
            rw [HV.out]
            clear ul x0 x1 x2 x4 u0 uz0 u1 uz1 u2 uz2 u3 uz3 u4 uz4 lN q0 zz0 q1 zz1 q2 zz2 q3 zz3 q4 zz4
            have Hwx : Below w1.heap.size w1 wx := Below.on (below_set Hw4 Hw4.size (Nat.le_refl _)) (by have := Hw4.size; simp; omega) hb
            have BXwx : BoxIs w1.heap.size #[.int .i64 r0, .string W1, .int .i64 r2, .int .i64 r3, .int .i64 0] 51 wx := (BXw4.set 2 (.int .i64 r2)).old hb
            clear hb Hw4 BXw4
            have ul : w.heap.size < wx.heap.size := by have := Hwx.size; omega
            have RBc := RB1.out.old Hwx
            have u0 := RBc.cell 0 (by simp)
            have uz0 := RBc.frozen 0
            have u1 := RBc.cell 1 (by simp)
            have uz1 := RBc.frozen 1
            have u2 := RBc.cell 2 (by simp)
            have uz2 := RBc.frozen 2
            have u3 := RBc.cell 3 (by simp)
            have uz3 := RBc.frozen 3
            have u4 := RBc.cell 4 (by simp)
            have uz4 := RBc.frozen 4
            clear RBc
            have lN := BXwx.lt
            have q0 := BXwx.cell 0 (by simp)
            have zz0 := BXwx.frozen 0
            have q1 := BXwx.cell 1 (by simp)
            have zz1 := BXwx.frozen 1
            have q2 := BXwx.cell 2 (by simp)
            have zz2 := BXwx.frozen 2
            have q3 := BXwx.cell 3 (by simp)
            have zz3 := BXwx.frozen 3
            have q4 := BXwx.cell 4 (by simp)
            have zz4 := BXwx.frozen 4
            have Bx : Below w.heap.size w wx := Below.on B1 B1.size Hwx
            go_wp2_with fail
            exact bodyPost_ret (v := .tuple #[(⟨0, { data := #[] }, 0, 0, 0⟩ : ReaderD).val, .bool false]) (by simp [results, Tryd.results39, go_sem, ul, u0, u1, u2, u3, u4]) rfl ⟨by rw [hno.out, prV_no hno.out]; first | done | exact rfl, by go_grown⟩
        · skip
          obtain ⟨t2, ht2⟩ : ∃ t, W2.extract 1 2 = t := ⟨_, rfl⟩
          have ht2b : W2.extract 1 W2.size = t2 := by rw [hw2]; exact ht2
          have HT2 : Hid (t2.data.toList = W2.data.toList.drop 1) := by unfold Hid; rw [← ht2, ext_list, List.take_of_length_le (by rw [← Lib.size_eq]; omega)]
          have zt2 : t2.size ≤ 1048576 := by rw [← ht2, ByteArray.size_extract]; omega
          have hw2i : (W2.size : Int) = 2 := by omega
          obtain ⟨r0, hr0⟩ : ∃ r, rdN W0.data.toList = r := ⟨_, rfl⟩
          obtain ⟨b0, hb0⟩ : ∃ r, rdB W0.data.toList = r := ⟨_, rfl⟩
          have R0 := hid (fun w => read_spec W0 w z0)
          rw [hr0, hb0] at R0
          obtain ⟨r3, hr3⟩ : ∃ r, rdN t2.data.toList = r := ⟨_, rfl⟩
          obtain ⟨b3, hb3⟩ : ∃ r, rdB t2.data.toList = r := ⟨_, rfl⟩
          have R3 := hid (fun w => read_spec t2 w zt2)
          rw [hr3, hb3] at R3
          obtain ⟨r2, hr2⟩ : ∃ r, rdN W4.data.toList = r := ⟨_, rfl⟩
          obtain ⟨b2, hb2⟩ : ∃ r, rdB W4.data.toList = r := ⟨_, rfl⟩
          have R2 := hid (fun w => read_spec W4 w z4)
          rw [hr2, hb2] at R2
          obtain ⟨r4, hr4⟩ : ∃ r, rdN W6.data.toList = r := ⟨_, rfl⟩
          obtain ⟨b4, hb4⟩ : ∃ r, rdB W6.data.toList = r := ⟨_, rfl⟩
          have R4 := hid (fun w => read_spec W6 w z6)
          rw [hr4, hb4] at R4
          have HX : Hid (outRS s = (⟨r0, W1, r2, r3, r4⟩ : ReaderD)) := by unfold Hid outRS; rw [HN.out, hW0.out, hW1.out, hW4.out, hW2.out, hW6.out, ← HT2.out, hr0, hr2, hr3, hr4]; rfl
          have hnm : Hid (W1.size ≤ maxLen) := by unfold Hid maxLen; omega
          clear hr0 hb0 hr3 hb3 hr2 hb2 hr4 hb4
          go_enter Tryd.func39, Tryd.ntmps39
          go_wp2_with fail
          refine (KS.out _).mono ?_
          rintro e w1 ⟨v, rfl, ho, hb1⟩
          have RB1 := hid (BoxIs.new hb1)
          rcases ho.form with ⟨_, h0⟩ | ⟨g, cap, rfl, _, lg, hc, _, hcell, _⟩
          · exact absurd (congrArg List.length h0) (by rw [HN.out]; simp)
          have X0 : Hid (w1.cell? ⟨g, 0, none⟩ = some (.string W0)) := by unfold Hid; rw [hcell 0 (by rw [HN.out]; omega)]; exact congrArg (fun x => some (Value.string x)) hW0.out
          have X1 : Hid (w1.cell? ⟨g, 1, none⟩ = some (.string W1)) := by unfold Hid; rw [hcell 1 (by rw [HN.out]; omega)]; exact congrArg (fun x => some (Value.string x)) hW1.out
          have X2 : Hid (w1.cell? ⟨g, 2, none⟩ = some (.string W2)) := by unfold Hid; rw [hcell 2 (by rw [HN.out]; omega)]; exact congrArg (fun x => some (Value.string x)) hW2.out
          have X4 : Hid (w1.cell? ⟨g, 4, none⟩ = some (.string W4)) := by unfold Hid; rw [hcell 4 (by rw [HN.out]; omega)]; exact congrArg (fun x => some (Value.string x)) hW4.out
          have X6 : Hid (w1.cell? ⟨g, 6, none⟩ = some (.string W6)) := by unfold Hid; rw [hcell 6 (by rw [HN.out]; omega)]; exact congrArg (fun x => some (Value.string x)) hW6.out
          rw [HN.out] at hc ⊢
          have hw1 : w.heap.size < w1.heap.size := by have := hb1.size; simp at this; omega
          have B1 : Below w.heap.size w w1 := Below.on (by go_grown) (by simp) hb1
          have Hw1 : Below w1.heap.size w1 w1 := Below.refl _ _
          clear ho hcell hb1
          have ul : w.heap.size < w1.heap.size := by have := Hw1.size; omega
          have x0 : w1.cell? ⟨g, 0, none⟩ = some (.string W0) := (Hw1.cell lg).trans X0.out
          have x1 : w1.cell? ⟨g, 1, none⟩ = some (.string W1) := (Hw1.cell lg).trans X1.out
          have x2 : w1.cell? ⟨g, 2, none⟩ = some (.string W2) := (Hw1.cell lg).trans X2.out
          have x4 : w1.cell? ⟨g, 4, none⟩ = some (.string W4) := (Hw1.cell lg).trans X4.out
          have x6 : w1.cell? ⟨g, 6, none⟩ = some (.string W6) := (Hw1.cell lg).trans X6.out
          have RBc := RB1.out.old Hw1
          have u0 := RBc.cell 0 (by simp)
          have uz0 := RBc.frozen 0
          have u1 := RBc.cell 1 (by simp)
          have uz1 := RBc.frozen 1
          have u2 := RBc.cell 2 (by simp)
          have uz2 := RBc.frozen 2
          have u3 := RBc.cell 3 (by simp)
          have uz3 := RBc.frozen 3
          have u4 := RBc.cell 4 (by simp)
          have uz4 := RBc.frozen 4
          clear RBc
          go_wp2_with fail
          refine (R0.out _).mono ?_
          rintro e w2 ⟨rfl, hb⟩
          clear ul x0 x1 x2 x4 x6 u0 uz0 u1 uz1 u2 uz2 u3 uz3 u4 uz4
          have Hw2 : Below w1.heap.size w1 w2 := Below.on (by go_grown) (by simp) hb
          have BXw2 : BoxIs w1.heap.size #[.int .i64 0, .string W1, .int .i64 0, .int .i64 0, .int .i64 0] 51 w2 := BoxIs.new hb
          clear hb
          have ul : w.heap.size < w2.heap.size := by have := Hw2.size; omega
          have x0 : w2.cell? ⟨g, 0, none⟩ = some (.string W0) := (Hw2.cell lg).trans X0.out
          have x1 : w2.cell? ⟨g, 1, none⟩ = some (.string W1) := (Hw2.cell lg).trans X1.out
          have x2 : w2.cell? ⟨g, 2, none⟩ = some (.string W2) := (Hw2.cell lg).trans X2.out
          have x4 : w2.cell? ⟨g, 4, none⟩ = some (.string W4) := (Hw2.cell lg).trans X4.out
          have x6 : w2.cell? ⟨g, 6, none⟩ = some (.string W6) := (Hw2.cell lg).trans X6.out
          have RBc := RB1.out.old Hw2
          have u0 := RBc.cell 0 (by simp)
          have uz0 := RBc.frozen 0
          have u1 := RBc.cell 1 (by simp)
          have uz1 := RBc.frozen 1
          have u2 := RBc.cell 2 (by simp)
          have uz2 := RBc.frozen 2
          have u3 := RBc.cell 3 (by simp)
          have uz3 := RBc.frozen 3
          have u4 := RBc.cell 4 (by simp)
          have uz4 := RBc.frozen 4
          clear RBc
          have lN := BXw2.lt
          have q0 := BXw2.cell 0 (by simp)
          have zz0 := BXw2.frozen 0
          have q1 := BXw2.cell 1 (by simp)
          have zz1 := BXw2.frozen 1
          have q2 := BXw2.cell 2 (by simp)
          have zz2 := BXw2.frozen 2
          have q3 := BXw2.cell 3 (by simp)
          have zz3 := BXw2.frozen 3
          have q4 := BXw2.cell 4 (by simp)
          have zz4 := BXw2.frozen 4
          go_wp2_with fail
          refine (R3.out _).mono ?_
          rintro e w3 ⟨rfl, hb⟩
          clear ul x0 x1 x2 x4 x6 u0 uz0 u1 uz1 u2 uz2 u3 uz3 u4 uz4 lN q0 zz0 q1 zz1 q2 zz2 q3 zz3 q4 zz4
          have Hw3 : Below w1.heap.size w1 w3 := Below.on (below_set Hw2 Hw2.size (Nat.le_refl _)) (by have := Hw2.size; simp; omega) hb
          have BXw3 : BoxIs w1.heap.size #[.int .i64 r0, .string W1, .int .i64 0, .int .i64 0, .int .i64 0] 51 w3 := (BXw2.set 0 (.int .i64 r0)).old hb
          clear hb Hw2 BXw2
          have ul : w.heap.size < w3.heap.size := by have := Hw3.size; omega
          have x0 : w3.cell? ⟨g, 0, none⟩ = some (.string W0) := (Hw3.cell lg).trans X0.out
          have x1 : w3.cell? ⟨g, 1, none⟩ = some (.string W1) := (Hw3.cell lg).trans X1.out
          have x2 : w3.cell? ⟨g, 2, none⟩ = some (.string W2) := (Hw3.cell lg).trans X2.out
          have x4 : w3.cell? ⟨g, 4, none⟩ = some (.string W4) := (Hw3.cell lg).trans X4.out
          have x6 : w3.cell? ⟨g, 6, none⟩ = some (.string W6) := (Hw3.cell lg).trans X6.out
          have RBc := RB1.out.old Hw3
          have u0 := RBc.cell 0 (by simp)
          have uz0 := RBc.frozen 0
          have u1 := RBc.cell 1 (by simp)
          have uz1 := RBc.frozen 1
          have u2 := RBc.cell 2 (by simp)
          have uz2 := RBc.frozen 2
          have u3 := RBc.cell 3 (by simp)
          have uz3 := RBc.frozen 3
          have u4 := RBc.cell 4 (by simp)
          have uz4 := RBc.frozen 4
          clear RBc
          have lN := BXw3.lt
          have q0 := BXw3.cell 0 (by simp)
          have zz0 := BXw3.frozen 0
          have q1 := BXw3.cell 1 (by simp)
          have zz1 := BXw3.frozen 1
          have q2 := BXw3.cell 2 (by simp)
          have zz2 := BXw3.frozen 2
          have q3 := BXw3.cell 3 (by simp)
          have zz3 := BXw3.frozen 3
          have q4 := BXw3.cell 4 (by simp)
          have zz4 := BXw3.frozen 4
          go_wp2_with fail
          refine (R2.out _).mono ?_
          rintro e w4 ⟨rfl, hb⟩
          clear ul x0 x1 x2 x4 x6 u0 uz0 u1 uz1 u2 uz2 u3 uz3 u4 uz4 lN q0 zz0 q1 zz1 q2 zz2 q3 zz3 q4 zz4
          have Hw4 : Below w1.heap.size w1 w4 := Below.on (below_set Hw3 Hw3.size (Nat.le_refl _)) (by have := Hw3.size; simp; omega) hb
          have BXw4 : BoxIs w1.heap.size #[.int .i64 r0, .string W1, .int .i64 0, .int .i64 r3, .int .i64 0] 51 w4 := (BXw3.set 3 (.int .i64 r3)).old hb
          clear hb Hw3 BXw3
          have ul : w.heap.size < w4.heap.size := by have := Hw4.size; omega
          have x0 : w4.cell? ⟨g, 0, none⟩ = some (.string W0) := (Hw4.cell lg).trans X0.out
          have x1 : w4.cell? ⟨g, 1, none⟩ = some (.string W1) := (Hw4.cell lg).trans X1.out
          have x2 : w4.cell? ⟨g, 2, none⟩ = some (.string W2) := (Hw4.cell lg).trans X2.out
          have x4 : w4.cell? ⟨g, 4, none⟩ = some (.string W4) := (Hw4.cell lg).trans X4.out
          have x6 : w4.cell? ⟨g, 6, none⟩ = some (.string W6) := (Hw4.cell lg).trans X6.out
          have RBc := RB1.out.old Hw4
          have u0 := RBc.cell 0 (by simp)
          have uz0 := RBc.frozen 0
          have u1 := RBc.cell 1 (by simp)
          have uz1 := RBc.frozen 1
          have u2 := RBc.cell 2 (by simp)
          have uz2 := RBc.frozen 2
          have u3 := RBc.cell 3 (by simp)
          have uz3 := RBc.frozen 3
          have u4 := RBc.cell 4 (by simp)
          have uz4 := RBc.frozen 4
          clear RBc
          have lN := BXw4.lt
          have q0 := BXw4.cell 0 (by simp)
          have zz0 := BXw4.frozen 0
          have q1 := BXw4.cell 1 (by simp)
          have zz1 := BXw4.frozen 1
          have q2 := BXw4.cell 2 (by simp)
          have zz2 := BXw4.frozen 2
          have q3 := BXw4.cell 3 (by simp)
          have zz3 := BXw4.frozen 3
          have q4 := BXw4.cell 4 (by simp)
          have zz4 := BXw4.frozen 4
          go_wp2_with fail
          refine (R4.out _).mono ?_
          rintro e w5 ⟨rfl, hb⟩
          clear ul x0 x1 x2 x4 x6 u0 uz0 u1 uz1 u2 uz2 u3 uz3 u4 uz4 lN q0 zz0 q1 zz1 q2 zz2 q3 zz3 q4 zz4
          have Hw5 : Below w1.heap.size w1 w5 := Below.on (below_set Hw4 Hw4.size (Nat.le_refl _)) (by have := Hw4.size; simp; omega) hb
          have BXw5 : BoxIs w1.heap.size #[.int .i64 r0, .string W1, .int .i64 r2, .int .i64 r3, .int .i64 0] 51 w5 := (BXw4.set 2 (.int .i64 r2)).old hb
          clear hb Hw4 BXw4
          have ul : w.heap.size < w5.heap.size := by have := Hw5.size; omega
          have x0 : w5.cell? ⟨g, 0, none⟩ = some (.string W0) := (Hw5.cell lg).trans X0.out
          have x1 : w5.cell? ⟨g, 1, none⟩ = some (.string W1) := (Hw5.cell lg).trans X1.out
          have x2 : w5.cell? ⟨g, 2, none⟩ = some (.string W2) := (Hw5.cell lg).trans X2.out
          have x4 : w5.cell? ⟨g, 4, none⟩ = some (.string W4) := (Hw5.cell lg).trans X4.out
          have x6 : w5.cell? ⟨g, 6, none⟩ = some (.string W6) := (Hw5.cell lg).trans X6.out
          have RBc := RB1.out.old Hw5
          have u0 := RBc.cell 0 (by simp)
          have uz0 := RBc.frozen 0
          have u1 := RBc.cell 1 (by simp)
          have uz1 := RBc.frozen 1
          have u2 := RBc.cell 2 (by simp)
          have uz2 := RBc.frozen 2
          have u3 := RBc.cell 3 (by simp)
          have uz3 := RBc.frozen 3
          have u4 := RBc.cell 4 (by simp)
          have uz4 := RBc.frozen 4
          clear RBc
          have lN := BXw5.lt
          have q0 := BXw5.cell 0 (by simp)
          have zz0 := BXw5.frozen 0
          have q1 := BXw5.cell 1 (by simp)
          have zz1 := BXw5.frozen 1
          have q2 := BXw5.cell 2 (by simp)
          have zz2 := BXw5.frozen 2
          have q3 := BXw5.cell 3 (by simp)
          have zz3 := BXw5.frozen 3
          have q4 := BXw5.cell 4 (by simp)
          have zz4 := BXw5.frozen 4
          by_cases hv : readerB (⟨r0, W1, r2, r3, r4⟩ : ReaderD) = true
          · have HV := hid hv
            obtain ⟨q, hq⟩ : ∃ q, rtS (⟨r0, W1, r2, r3, r4⟩ : ReaderD) = q := ⟨_, rfl⟩
            have HQ := hid hq
            have KT : Hid (∀ w, Calls Tryd.prog 62 #[((⟨r0, W1, r2, r3, r4⟩ : ReaderD)).val] w fun e w' => e = .returned (.string q) ∧ Below w.heap.size w w') := fun w => by rw [← hq]; exact l3Text_spec _ hv w
            clear hq hv
            go_wp2_with fail
            refine (reader_spec (⟨r0, W1, r2, r3, r4⟩ : ReaderD) hnm.out _).mono ?_
            rintro e wx ⟨rfl, hb⟩
            rw [HV.out]
            clear ul x0 x1 x2 x4 x6 u0 uz0 u1 uz1 u2 uz2 u3 uz3 u4 uz4 lN q0 zz0 q1 zz1 q2 zz2 q3 zz3 q4 zz4
            have Hwx : Below w1.heap.size w1 wx := Below.on (below_set Hw5 Hw5.size (Nat.le_refl _)) (by have := Hw5.size; simp; omega) hb
            have BXwx : BoxIs w1.heap.size #[.int .i64 r0, .string W1, .int .i64 r2, .int .i64 r3, .int .i64 r4] 51 wx := (BXw5.set 4 (.int .i64 r4)).old hb
            clear hb Hw5 BXw5
            have ul : w.heap.size < wx.heap.size := by have := Hwx.size; omega
            have RBc := RB1.out.old Hwx
            have u0 := RBc.cell 0 (by simp)
            have uz0 := RBc.frozen 0
            have u1 := RBc.cell 1 (by simp)
            have uz1 := RBc.frozen 1
            have u2 := RBc.cell 2 (by simp)
            have uz2 := RBc.frozen 2
            have u3 := RBc.cell 3 (by simp)
            have uz3 := RBc.frozen 3
            have u4 := RBc.cell 4 (by simp)
            have uz4 := RBc.frozen 4
            clear RBc
            have lN := BXwx.lt
            have q0 := BXwx.cell 0 (by simp)
            have zz0 := BXwx.frozen 0
            have q1 := BXwx.cell 1 (by simp)
            have zz1 := BXwx.frozen 1
            have q2 := BXwx.cell 2 (by simp)
            have zz2 := BXwx.frozen 2
            have q3 := BXwx.cell 3 (by simp)
            have zz3 := BXwx.frozen 3
            have q4 := BXwx.cell 4 (by simp)
            have zz4 := BXwx.frozen 4
            have Bx : Below w.heap.size w wx := Below.on B1 B1.size Hwx
            go_wp2_with fail
            refine (KT.out _).mono ?_
            rintro e wy ⟨rfl, hb⟩
            clear ul  u0 uz0 u1 uz1 u2 uz2 u3 uz3 u4 uz4 lN q0 zz0 q1 zz1 q2 zz2 q3 zz3 q4 zz4
            have Hwy : Below w1.heap.size w1 wy := Below.on Hwx Hwx.size hb
            have BXwy : BoxIs w1.heap.size #[.int .i64 r0, .string W1, .int .i64 r2, .int .i64 r3, .int .i64 r4] 51 wy := BXwx.old hb
            clear hb Hwx BXwx Bx
            have ul : w.heap.size < wy.heap.size := by have := Hwy.size; omega
            have RBc := RB1.out.old Hwy
            have u0 := RBc.cell 0 (by simp)
            have uz0 := RBc.frozen 0
            have u1 := RBc.cell 1 (by simp)
            have uz1 := RBc.frozen 1
            have u2 := RBc.cell 2 (by simp)
            have uz2 := RBc.frozen 2
            have u3 := RBc.cell 3 (by simp)
            have uz3 := RBc.frozen 3
            have u4 := RBc.cell 4 (by simp)
            have uz4 := RBc.frozen 4
            clear RBc
            have lN := BXwy.lt
            have q0 := BXwy.cell 0 (by simp)
            have zz0 := BXwy.frozen 0
            have q1 := BXwy.cell 1 (by simp)
            have zz1 := BXwy.frozen 1
            have q2 := BXwy.cell 2 (by simp)
            have zz2 := BXwy.frozen 2
            have q3 := BXwy.cell 3 (by simp)
            have zz3 := BXwy.frozen 3
            have q4 := BXwy.cell 4 (by simp)
            have zz4 := BXwy.frozen 4
            have By : Below w.heap.size w wy := Below.on B1 B1.size Hwy
            by_cases hqs : q = s
            · have hps := pr_of (s := s) HV.out (by rw [HQ.out]; exact hqs)
              have hyes := hid hps.1
              have hv2 : Hid (prV s = (⟨r0, W1, r2, r3, r4⟩ : ReaderD)) := by unfold Hid; rw [prV_yes hps.1, hps.2.1]
              clear hps
              subst hqs
              go_wp2_with fail
              exact bodyPost_ret (v := .tuple #[((⟨r0, W1, r2, r3, r4⟩ : ReaderD) : ReaderD).val, .bool true]) (by simp [results, Tryd.results39, go_sem, ul, u0, u1, u2, u3, u4]) rfl ⟨by rw [hyes.out, hv2.out], by go_grown⟩
            · have hno : Hid (prB s = false) := by
                unfold Hid
                rw [← Bool.not_eq_true]
                intro h
                have h3 := (prI_yes h).2.2
                rw [HX.out] at h3
                apply hqs
                rw [← HQ.out]
                exact h3
              have hne := bytes_ne hqs
              clear hqs
              go_wp2_with fail
              exact bodyPost_ret (v := .tuple #[(⟨0, { data := #[] }, 0, 0, 0⟩ : ReaderD).val, .bool false]) (by simp [results, Tryd.results39, go_sem, ul, u0, u1, u2, u3, u4]) rfl ⟨by rw [hno.out, prV_no hno.out]; first | done | exact rfl, by go_grown⟩
          · have HV := hid (show readerB (⟨r0, W1, r2, r3, r4⟩ : ReaderD) = false by simpa using hv)
            clear hv
            have hno : Hid (prB s = false) := by unfold Hid prB; rw [HX.out, HV.out]; simp
            go_wp2_with fail
            refine (reader_spec (⟨r0, W1, r2, r3, r4⟩ : ReaderD) hnm.out _).mono ?_
            rintro e wx ⟨rfl, hb⟩
            rw [HV.out]
            clear ul x0 x1 x2 x4 x6 u0 uz0 u1 uz1 u2 uz2 u3 uz3 u4 uz4 lN q0 zz0 q1 zz1 q2 zz2 q3 zz3 q4 zz4
            have Hwx : Below w1.heap.size w1 wx := Below.on (below_set Hw5 Hw5.size (Nat.le_refl _)) (by have := Hw5.size; simp; omega) hb
            have BXwx : BoxIs w1.heap.size #[.int .i64 r0, .string W1, .int .i64 r2, .int .i64 r3, .int .i64 r4] 51 wx := (BXw5.set 4 (.int .i64 r4)).old hb
            clear hb Hw5 BXw5
            have ul : w.heap.size < wx.heap.size := by have := Hwx.size; omega
            have RBc := RB1.out.old Hwx
            have u0 := RBc.cell 0 (by simp)
            have uz0 := RBc.frozen 0
            have u1 := RBc.cell 1 (by simp)
            have uz1 := RBc.frozen 1
            have u2 := RBc.cell 2 (by simp)
            have uz2 := RBc.frozen 2
            have u3 := RBc.cell 3 (by simp)
            have uz3 := RBc.frozen 3
            have u4 := RBc.cell 4 (by simp)
            have uz4 := RBc.frozen 4
            clear RBc
            have lN := BXwx.lt
            have q0 := BXwx.cell 0 (by simp)
            have zz0 := BXwx.frozen 0
            have q1 := BXwx.cell 1 (by simp)
            have zz1 := BXwx.frozen 1
            have q2 := BXwx.cell 2 (by simp)
            have zz2 := BXwx.frozen 2
            have q3 := BXwx.cell 3 (by simp)
            have zz3 := BXwx.frozen 3
            have q4 := BXwx.cell 4 (by simp)
            have zz4 := BXwx.frozen 4
            have Bx : Below w.heap.size w wx := Below.on B1 B1.size Hwx
            go_wp2_with fail
            exact bodyPost_ret (v := .tuple #[(⟨0, { data := #[] }, 0, 0, 0⟩ : ReaderD).val, .bool false]) (by simp [results, Tryd.results39, go_sem, ul, u0, u1, u2, u3, u4]) rfl ⟨by rw [hno.out, prV_no hno.out]; first | done | exact rfl, by go_grown⟩
      · rcases h57 with rfl | rfl
        · skip
          have hno : Hid (prB s = false) := by unfold Hid prB; rw [hW2.out]; simp [hw2]
          have hw2n : ((W2.size : Int) != 2) = true := by simp; omega
          go_enter Tryd.func39, Tryd.ntmps39
          go_wp2_with fail
          refine (KS.out _).mono ?_
          rintro e w1 ⟨v, rfl, ho, hb1⟩
          have RB1 := hid (BoxIs.new hb1)
          rcases ho.form with ⟨_, h0⟩ | ⟨g, cap, rfl, _, lg, hc, _, hcell, _⟩
          · exact absurd (congrArg List.length h0) (by rw [HN.out]; simp)
          have X2 : Hid (w1.cell? ⟨g, 2, none⟩ = some (.string W2)) := by unfold Hid; rw [hcell 2 (by rw [HN.out]; omega)]; exact congrArg (fun x => some (Value.string x)) hW2.out
          rw [HN.out] at hc ⊢
          have hw1 : w.heap.size < w1.heap.size := by have := hb1.size; simp at this; omega
          have B1 : Below w.heap.size w w1 := Below.on (by go_grown) (by simp) hb1
          have Hw1 : Below w1.heap.size w1 w1 := Below.refl _ _
          clear ho hcell hb1
          have ul : w.heap.size < w1.heap.size := by have := Hw1.size; omega
          have x2 : w1.cell? ⟨g, 2, none⟩ = some (.string W2) := (Hw1.cell lg).trans X2.out
          have RBc := RB1.out.old Hw1
          have u0 := RBc.cell 0 (by simp)
          have uz0 := RBc.frozen 0
          have u1 := RBc.cell 1 (by simp)
          have uz1 := RBc.frozen 1
          have u2 := RBc.cell 2 (by simp)
          have uz2 := RBc.frozen 2
          have u3 := RBc.cell 3 (by simp)
          have uz3 := RBc.frozen 3
          have u4 := RBc.cell 4 (by simp)
          have uz4 := RBc.frozen 4
          clear RBc
          go_wp2_with fail
          exact bodyPost_ret (v := .tuple #[(⟨0, { data := #[] }, 0, 0, 0⟩ : ReaderD).val, .bool false]) (by simp [results, Tryd.results39, go_sem, ul, u0, u1, u2, u3, u4]) rfl ⟨by rw [hno.out, prV_no hno.out]; first | done | exact rfl, by go_grown⟩
        · skip
          have hno : Hid (prB s = false) := by unfold Hid prB; rw [hW2.out]; simp [hw2]
          have hw2n : ((W2.size : Int) != 2) = true := by simp; omega
          go_enter Tryd.func39, Tryd.ntmps39
          go_wp2_with fail
          refine (KS.out _).mono ?_
          rintro e w1 ⟨v, rfl, ho, hb1⟩
          have RB1 := hid (BoxIs.new hb1)
          rcases ho.form with ⟨_, h0⟩ | ⟨g, cap, rfl, _, lg, hc, _, hcell, _⟩
          · exact absurd (congrArg List.length h0) (by rw [HN.out]; simp)
          have X2 : Hid (w1.cell? ⟨g, 2, none⟩ = some (.string W2)) := by unfold Hid; rw [hcell 2 (by rw [HN.out]; omega)]; exact congrArg (fun x => some (Value.string x)) hW2.out
          rw [HN.out] at hc ⊢
          have hw1 : w.heap.size < w1.heap.size := by have := hb1.size; simp at this; omega
          have B1 : Below w.heap.size w w1 := Below.on (by go_grown) (by simp) hb1
          have Hw1 : Below w1.heap.size w1 w1 := Below.refl _ _
          clear ho hcell hb1
          have ul : w.heap.size < w1.heap.size := by have := Hw1.size; omega
          have x2 : w1.cell? ⟨g, 2, none⟩ = some (.string W2) := (Hw1.cell lg).trans X2.out
          have RBc := RB1.out.old Hw1
          have u0 := RBc.cell 0 (by simp)
          have uz0 := RBc.frozen 0
          have u1 := RBc.cell 1 (by simp)
          have uz1 := RBc.frozen 1
          have u2 := RBc.cell 2 (by simp)
          have uz2 := RBc.frozen 2
          have u3 := RBc.cell 3 (by simp)
          have uz3 := RBc.frozen 3
          have u4 := RBc.cell 4 (by simp)
          have uz4 := RBc.frozen 4
          clear RBc
          go_wp2_with fail
          exact bodyPost_ret (v := .tuple #[(⟨0, { data := #[] }, 0, 0, 0⟩ : ReaderD).val, .bool false]) (by simp [results, Tryd.results39, go_sem, ul, u0, u1, u2, u3, u4]) rfl ⟨by rw [hno.out, prV_no hno.out]; first | done | exact rfl, by go_grown⟩
    · skip
      have hno : Hid (prB s = false) := by unfold Hid prB; rw [HN.out]; simp; omega
      have hn5 : ((n : Int) != 5) = true := by simp; omega
      have hn7 : ((n : Int) != 7) = true := by simp; omega
      go_enter Tryd.func39, Tryd.ntmps39
      go_wp2_with fail
      refine (KS.out _).mono ?_
      rintro e w1 ⟨v, rfl, ho, hb1⟩
      have RB1 := hid (BoxIs.new hb1)
      obtain ⟨ao, cap, rfl, _⟩ := ho.slice
      rw [HN.out]
      have hw1 : w.heap.size < w1.heap.size := by have := hb1.size; simp at this; omega
      have B1 : Below w.heap.size w w1 := Below.on (by go_grown) (by simp) hb1
      have Hw1 : Below w1.heap.size w1 w1 := Below.refl _ _
      clear ho hb1
      have ul : w.heap.size < w1.heap.size := by have := Hw1.size; omega
      have RBc := RB1.out.old Hw1
      have u0 := RBc.cell 0 (by simp)
      have uz0 := RBc.frozen 0
      have u1 := RBc.cell 1 (by simp)
      have uz1 := RBc.frozen 1
      have u2 := RBc.cell 2 (by simp)
      have uz2 := RBc.frozen 2
      have u3 := RBc.cell 3 (by simp)
      have uz3 := RBc.frozen 3
      have u4 := RBc.cell 4 (by simp)
      have uz4 := RBc.frozen 4
      clear RBc
      go_wp2_with fail
      exact bodyPost_ret (v := .tuple #[(⟨0, { data := #[] }, 0, 0, 0⟩ : ReaderD).val, .bool false]) (by simp [results, Tryd.results39, go_sem, ul, u0, u1, u2, u3, u4]) rfl ⟨by rw [hno.out, prV_no hno.out]; first | done | exact rfl, by go_grown⟩
  · skip
    have hno : Hid (prB s = false) := by unfold Hid prB; simp [h60]
    have h60i : (60 : Int) < (s.size : Int) := by omega
    go_enter Tryd.func39, Tryd.ntmps39
    go_wp2_with fail
    refine (KS.out _).mono ?_
    rintro e w1 ⟨v, rfl, ho, hb1⟩
    have RB1 := hid (BoxIs.new hb1)
    obtain ⟨ao, cap, rfl, _⟩ := ho.slice
    rw [HN.out]
    have hw1 : w.heap.size < w1.heap.size := by have := hb1.size; simp at this; omega
    have B1 : Below w.heap.size w w1 := Below.on (by go_grown) (by simp) hb1
    have Hw1 : Below w1.heap.size w1 w1 := Below.refl _ _
    clear ho hb1
    have ul : w.heap.size < w1.heap.size := by have := Hw1.size; omega
    have RBc := RB1.out.old Hw1
    have u0 := RBc.cell 0 (by simp)
    have uz0 := RBc.frozen 0
    have u1 := RBc.cell 1 (by simp)
    have uz1 := RBc.frozen 1
    have u2 := RBc.cell 2 (by simp)
    have uz2 := RBc.frozen 2
    have u3 := RBc.cell 3 (by simp)
    have uz3 := RBc.frozen 3
    have u4 := RBc.cell 4 (by simp)
    have uz4 := RBc.frozen 4
    clear RBc
    go_wp2_with fail
    exact bodyPost_ret (v := .tuple #[(⟨0, { data := #[] }, 0, 0, 0⟩ : ReaderD).val, .bool false]) (by simp [results, Tryd.results39, go_sem, ul, u0, u1, u2, u3, u4]) rfl ⟨by rw [hno.out, prV_no hno.out]; first | done | exact rfl, by go_grown⟩
end Go.Proofs.YteklomkncfjdlaaDoor
