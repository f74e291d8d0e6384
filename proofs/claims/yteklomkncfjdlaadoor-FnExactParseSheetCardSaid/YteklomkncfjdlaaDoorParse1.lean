/-
  ParseSheet, by the reference. No condition.
-/
import Derived.Test.YteklomkncfjdlaaDoorParseP
import Derived.Test.YteklomkncfjdlaaDoorBoxes
namespace Go.Proofs.YteklomkncfjdlaaDoor
open Go.RowKit
set_option linter.unusedVariables false
set_option maxRecDepth 100000

set_option maxHeartbeats 16000000 in
theorem parseSheet_spec (s : ByteArray) (w : World) (hs : s.size ≤ 1048576) : Calls Tryd.prog 36 #[.string s] w fun e w' => e = .returned (.tuple #[(psV s).val, .bool (psB s)]) ∧ Below w.heap.size w w' := by
  have KS : Hid (∀ w, Calls Tryd.prog 46 #[.string s, .int .u8 32] w fun e w' => ∃ v, e = .returned v ∧ OwnS w.heap.size w' v (splitP s 32) ∧ Below w.heap.size w w') := fun w => split_spec s 32 w hs
  by_cases h5 : (splitP s 32).length = 5
  · skip
    obtain ⟨A, hA⟩ : ∃ x, wordAt s 0 = x := ⟨_, rfl⟩
    obtain ⟨B, hB⟩ : ∃ x, wordAt s 1 = x := ⟨_, rfl⟩
    obtain ⟨C, hC⟩ : ∃ x, wordAt s 2 = x := ⟨_, rfl⟩
    obtain ⟨E, hE⟩ : ∃ x, wordAt s 3 = x := ⟨_, rfl⟩
    obtain ⟨F, hF⟩ : ∃ x, wordAt s 4 = x := ⟨_, rfl⟩
    have zA : A.size ≤ 1048576 := by rw [← hA]; have := wordAt_le s 0; omega
    have zB : B.size ≤ 1048576 := by rw [← hB]; have := wordAt_le s 1; omega
    have zC : C.size ≤ 1048576 := by rw [← hC]; have := wordAt_le s 2; omega
    have zE : E.size ≤ 1048576 := by rw [← hE]; have := wordAt_le s 3; omega
    have zF : F.size ≤ 1048576 := by rw [← hF]; have := wordAt_le s 4; omega
    obtain ⟨n0, hn0⟩ : ∃ n, cutN A 0 1 = n := ⟨_, rfl⟩
    obtain ⟨n1, hn1⟩ : ∃ n, cutN B 1 0 = n := ⟨_, rfl⟩
    obtain ⟨n2, hn2⟩ : ∃ n, cutN C 1 0 = n := ⟨_, rfl⟩
    obtain ⟨n3, hn3⟩ : ∃ n, cutN E 2 3 = n := ⟨_, rfl⟩
    obtain ⟨n4, hn4⟩ : ∃ n, cutN F 0 0 = n := ⟨_, rfl⟩
    have K0 : Hid (∀ w, Calls Tryd.prog 64 #[.string A, .int .i64 0, .int .i64 1] w fun e w' => e = .returned (.int .i64 n0) ∧ Below w.heap.size w w') := fun w => by rw [← hn0]; exact l2Cut_spec A 0 1 zA (by omega) (by omega) w
    have K1 : Hid (∀ w, Calls Tryd.prog 64 #[.string B, .int .i64 1, .int .i64 0] w fun e w' => e = .returned (.int .i64 n1) ∧ Below w.heap.size w w') := fun w => by rw [← hn1]; exact l2Cut_spec B 1 0 zB (by omega) (by omega) w
    have K2 : Hid (∀ w, Calls Tryd.prog 64 #[.string C, .int .i64 1, .int .i64 0] w fun e w' => e = .returned (.int .i64 n2) ∧ Below w.heap.size w w') := fun w => by rw [← hn2]; exact l2Cut_spec C 1 0 zC (by omega) (by omega) w
    have K3 : Hid (∀ w, Calls Tryd.prog 64 #[.string E, .int .i64 2, .int .i64 3] w fun e w' => e = .returned (.int .i64 n3) ∧ Below w.heap.size w w') := fun w => by rw [← hn3]; exact l2Cut_spec E 2 3 zE (by omega) (by omega) w
    have K4 : Hid (∀ w, Calls Tryd.prog 64 #[.string F, .int .i64 0, .int .i64 0] w fun e w' => e = .returned (.int .i64 n4) ∧ Below w.heap.size w w') := fun w => by rw [← hn4]; exact l2Cut_spec F 0 0 zF (by omega) (by omega) w
    have HX : Hid (outS s = ⟨n0, n1, n2, n3, n4⟩) := by unfold Hid outS; rw [hA, hB, hC, hE, hF, hn0, hn1, hn2, hn3, hn4]
    have H5 := hid h5
    clear hn0 hn1 hn2 hn3 hn4 h5 zA zB zC zE zF
    go_enter Tryd.func36, Tryd.ntmps36
    go_wp2_with fail
    refine (KS.out _).mono ?_
    rintro e w1 ⟨v, rfl, ho, hb1⟩
    have RB1 := BoxIs.new hb1
    rcases ho.form with ⟨_, h0⟩ | ⟨g, cap, rfl, _, lg, hc, _, hcell, _⟩
    · exact absurd (congrArg List.length h0) (by rw [H5.out]; simp)
    have x0 : w1.cell? ⟨g, 0, none⟩ = some (.string A) := by rw [hcell 0 (by rw [H5.out]; omega)]; exact congrArg (fun x => some (Value.string x)) hA
    have x1 : w1.cell? ⟨g, 1, none⟩ = some (.string B) := by rw [hcell 1 (by rw [H5.out]; omega)]; exact congrArg (fun x => some (Value.string x)) hB
    have x2 : w1.cell? ⟨g, 2, none⟩ = some (.string C) := by rw [hcell 2 (by rw [H5.out]; omega)]; exact congrArg (fun x => some (Value.string x)) hC
    have x3 : w1.cell? ⟨g, 3, none⟩ = some (.string E) := by rw [hcell 3 (by rw [H5.out]; omega)]; exact congrArg (fun x => some (Value.string x)) hE
    have x4 : w1.cell? ⟨g, 4, none⟩ = some (.string F) := by rw [hcell 4 (by rw [H5.out]; omega)]; exact congrArg (fun x => some (Value.string x)) hF
    rw [H5.out] at hc ⊢
    have hw1 : w.heap.size < w1.heap.size := by have := hb1.size; simp at this; omega
    have B1 : Below w.heap.size w w1 := Below.on (by go_grown) (by simp) hb1
    clear ho hcell hA hB hC hE hF KS hb1
    go_upto_region 4 with fail
    go_cut [5] from 12 (fun p w' => ∃ N, p = .pointer (some ⟨N, 0, none⟩) ∧ w1.heap.size ≤ N ∧ Below w1.heap.size w1 w' ∧ BoxIs N #[.int .i64 n0, .int .i64 n1, .int .i64 n2, .int .i64 n3, .int .i64 n4] 38 w')
    case first =>
      have hS0 : Below w1.heap.size w1 w1.drew ∧ w1.drew.cell? ⟨g, 0, none⟩ = some (.string A) ∧ w1.drew.cell? ⟨g, 1, none⟩ = some (.string B) ∧ w1.drew.cell? ⟨g, 2, none⟩ = some (.string C) ∧ w1.drew.cell? ⟨g, 3, none⟩ = some (.string E) ∧ w1.drew.cell? ⟨g, 4, none⟩ = some (.string F) := ⟨(Below.refl _ _).drew, x0, x1, x2, x3, x4⟩
      have hS1 : Below w1.heap.size w1 (w1.alloc (.cells #[.int .i64 0, .int .i64 0, .int .i64 0, .int .i64 0, .int .i64 0] 38)).drew ∧ (w1.alloc (.cells #[.int .i64 0, .int .i64 0, .int .i64 0, .int .i64 0, .int .i64 0] 38)).drew.cell? ⟨g, 0, none⟩ = some (.string A) ∧ (w1.alloc (.cells #[.int .i64 0, .int .i64 0, .int .i64 0, .int .i64 0, .int .i64 0] 38)).drew.cell? ⟨g, 1, none⟩ = some (.string B) ∧ (w1.alloc (.cells #[.int .i64 0, .int .i64 0, .int .i64 0, .int .i64 0, .int .i64 0] 38)).drew.cell? ⟨g, 2, none⟩ = some (.string C) ∧ (w1.alloc (.cells #[.int .i64 0, .int .i64 0, .int .i64 0, .int .i64 0, .int .i64 0] 38)).drew.cell? ⟨g, 3, none⟩ = some (.string E) ∧ (w1.alloc (.cells #[.int .i64 0, .int .i64 0, .int .i64 0, .int .i64 0, .int .i64 0] 38)).drew.cell? ⟨g, 4, none⟩ = some (.string F) := keep_alloc5 lg hS0 _
      have hB1 : BoxIs w1.heap.size #[.int .i64 0, .int .i64 0, .int .i64 0, .int .i64 0, .int .i64 0] 38 (w1.alloc (.cells #[.int .i64 0, .int .i64 0, .int .i64 0, .int .i64 0, .int .i64 0] 38)).drew := heap_alloc_new w1 _
      go_region_held3 (fun w' => Below w1.heap.size w1 w' ∧ w'.cell? ⟨g, 0, none⟩ = some (.string A) ∧ w'.cell? ⟨g, 1, none⟩ = some (.string B) ∧ w'.cell? ⟨g, 2, none⟩ = some (.string C) ∧ w'.cell? ⟨g, 3, none⟩ = some (.string E) ∧ w'.cell? ⟨g, 4, none⟩ = some (.string F)) (first | with_reducible assumption | with_reducible exact keep_alloc5 lg (by assumption) _ | (with_reducible refine keep_set5 lg (keep_set5 lg (keep_set5 lg (keep_set5 lg (keep_set5 lg (by assumption) _ _ _ ?_) _ _ _ ?_) _ _ _ ?_) _ _ _ ?_) _ _ _ ?_ <;> omega)) (first
        | (go_at_call 64; first | (with_reducible refine (K0.out _).mono ?_) | (with_reducible refine (K1.out _).mono ?_) | (with_reducible refine (K2.out _).mono ?_) | (with_reducible refine (K3.out _).mono ?_) | (with_reducible refine (K4.out _).mono ?_)
           rintro e w9 ⟨rfl, hb9⟩
           have hS9 := keep_call5 lg (by assumption) hb9
           have hz9 := hS9.1.size
           try (have hbx := (by with_reducible first | exact BoxIs.new hb9 | exact BoxIs.old (by assumption) hb9 : BoxIs _ _ 38 w9)
                have q0 := hbx.cell 0 (by simp)
                have zz0 := hbx.frozen 0
                have q1 := hbx.cell 1 (by simp)
                have zz1 := hbx.frozen 1
                have q2 := hbx.cell 2 (by simp)
                have zz2 := hbx.frozen 2
                have q3 := hbx.cell 3 (by simp)
                have zz3 := hbx.frozen 3
                have q4 := hbx.cell 4 (by simp)
                have zz4 := hbx.frozen 4)))
      all_goals (go_wp2_with fail; go_meet; refine ⟨_, rfl, by omega, And.left (by with_reducible assumption), ?_⟩; first | with_reducible exact BoxIs.here _ _ _ | with_reducible exact BoxIs.fill5 (by assumption))
    case rest =>
      obtain ⟨N, rfl, hN, hbN, hbox⟩ := hcut
      have HBX := hid hbox
      have RB2 := hid (RB1.old hbN)
      have B2 : Below w.heap.size w wc := Below.on B1 B1.size hbN
      clear hbox RB1 K0 K1 K2 K3 K4
      have hl2 : w.heap.size < wc.heap.size := RB2.out.lt
      have lN := HBX.out.lt
      have p0 := HBX.out.cell 0 (by simp)
      have p1 := HBX.out.cell 1 (by simp)
      have p2 := HBX.out.cell 2 (by simp)
      have p3 := HBX.out.cell 3 (by simp)
      have p4 := HBX.out.cell 4 (by simp)
      have u0 := RB2.out.cell 0 (by simp)
      have u1 := RB2.out.cell 1 (by simp)
      have u2 := RB2.out.cell 2 (by simp)
      have u3 := RB2.out.cell 3 (by simp)
      have u4 := RB2.out.cell 4 (by simp)
      have uz0 := RB2.out.frozen 0
      have uz1 := RB2.out.frozen 1
      have uz2 := RB2.out.frozen 2
      have uz3 := RB2.out.frozen 3
      have uz4 := RB2.out.frozen 4
      have ul := hl2
      by_cases hv : sheetB (⟨n0, n1, n2, n3, n4⟩ : SheetD) = true
      · have HV := hid hv
        obtain ⟨q, hq⟩ : ∃ q, sheetS (⟨n0, n1, n2, n3, n4⟩ : SheetD) = q := ⟨_, rfl⟩
        have HQ := hid hq
        have KT : Hid (∀ w, Calls Tryd.prog 57 #[((⟨n0, n1, n2, n3, n4⟩ : SheetD)).val] w fun e w' => e = .returned (.string q) ∧ Below w.heap.size w w') := fun w => by rw [← hq]; exact l2Text_spec _ hv w
        clear hq
        go_wp2_with fail
        refine (sheet_spec (⟨n0, n1, n2, n3, n4⟩ : SheetD) _).mono ?_
        rintro e w3 ⟨rfl, hb3⟩
        rw [HV.out]
        have Bw3 : Below w.heap.size w w3 := Below.on B2 B2.size hb3
        have HBw3 := hid (HBX.out.old hb3)
        have RBw3 := hid (RB2.out.old hb3)
        clear p0 u0 uz0 p1 u1 uz1 p2 u2 uz2 p3 u3 uz3 p4 u4 uz4 ul
        have p0 := HBw3.out.cell 0 (by simp)
        have p1 := HBw3.out.cell 1 (by simp)
        have p2 := HBw3.out.cell 2 (by simp)
        have p3 := HBw3.out.cell 3 (by simp)
        have p4 := HBw3.out.cell 4 (by simp)
        have u0 := RBw3.out.cell 0 (by simp)
        have u1 := RBw3.out.cell 1 (by simp)
        have u2 := RBw3.out.cell 2 (by simp)
        have u3 := RBw3.out.cell 3 (by simp)
        have u4 := RBw3.out.cell 4 (by simp)
        have uz0 := RBw3.out.frozen 0
        have uz1 := RBw3.out.frozen 1
        have uz2 := RBw3.out.frozen 2
        have uz3 := RBw3.out.frozen 3
        have uz4 := RBw3.out.frozen 4
        have ul := RBw3.out.lt
        have lN := HBw3.out.lt
        clear hv
        go_wp2_with fail
        refine (KT.out _).mono ?_
        rintro e w4 ⟨rfl, hb4⟩
        have Bw4 : Below w.heap.size w w4 := Below.on Bw3 Bw3.size hb4
        have HBw4 := hid (HBw3.out.old hb4)
        have RBw4 := hid (RBw3.out.old hb4)
        clear p0 u0 uz0 p1 u1 uz1 p2 u2 uz2 p3 u3 uz3 p4 u4 uz4 ul
        have p0 := HBw4.out.cell 0 (by simp)
        have p1 := HBw4.out.cell 1 (by simp)
        have p2 := HBw4.out.cell 2 (by simp)
        have p3 := HBw4.out.cell 3 (by simp)
        have p4 := HBw4.out.cell 4 (by simp)
        have u0 := RBw4.out.cell 0 (by simp)
        have u1 := RBw4.out.cell 1 (by simp)
        have u2 := RBw4.out.cell 2 (by simp)
        have u3 := RBw4.out.cell 3 (by simp)
        have u4 := RBw4.out.cell 4 (by simp)
        have uz0 := RBw4.out.frozen 0
        have uz1 := RBw4.out.frozen 1
        have uz2 := RBw4.out.frozen 2
        have uz3 := RBw4.out.frozen 3
        have uz4 := RBw4.out.frozen 4
        have ul := RBw4.out.lt
        have lN := HBw4.out.lt
        by_cases hqs : q = s
        · have hyes : Hid (psB s = true) := by unfold Hid psB; rw [HX.out, HV.out, H5.out, HQ.out, hqs]; simp
          have hv2 : Hid (psV s = (⟨n0, n1, n2, n3, n4⟩ : SheetD)) := by unfold Hid; rw [psV_yes hyes.out, HX.out]
          subst hqs
          go_wp2_with fail
          exact bodyPost_ret (v := .tuple #[((⟨n0, n1, n2, n3, n4⟩ : SheetD) : SheetD).val, .bool true]) (by simp [results, Tryd.results36, go_sem, ul, u0, u1, u2, u3, u4]) rfl ⟨by rw [hyes.out, hv2.out], by go_grown⟩
        · have hno : Hid (psB s = false) := by unfold Hid psB; rw [HX.out, HQ.out]; simp [hqs]
          have hne := bytes_ne hqs
          clear hqs
          go_wp2_with fail
          exact bodyPost_ret (v := .tuple #[(⟨0, 0, 0, 0, 0⟩ : SheetD).val, .bool false]) (by simp [results, Tryd.results36, go_sem, ul, u0, u1, u2, u3, u4]) rfl ⟨by rw [hno.out, psV_no hno.out], by go_grown⟩
      · have hv' : sheetB (⟨n0, n1, n2, n3, n4⟩ : SheetD) = false := by simpa using hv
        have HV := hid hv'
        clear hv hv'
        have hno : Hid (psB s = false) := by unfold Hid psB; rw [HX.out, HV.out]; simp
        go_wp2_with fail
        refine (sheet_spec (⟨n0, n1, n2, n3, n4⟩ : SheetD) _).mono ?_
        rintro e w3 ⟨rfl, hb3⟩
        rw [HV.out]
        have Bw3 : Below w.heap.size w w3 := Below.on B2 B2.size hb3
        have HBw3 := hid (HBX.out.old hb3)
        have RBw3 := hid (RB2.out.old hb3)
        clear p0 u0 uz0 p1 u1 uz1 p2 u2 uz2 p3 u3 uz3 p4 u4 uz4 ul
        have p0 := HBw3.out.cell 0 (by simp)
        have p1 := HBw3.out.cell 1 (by simp)
        have p2 := HBw3.out.cell 2 (by simp)
        have p3 := HBw3.out.cell 3 (by simp)
        have p4 := HBw3.out.cell 4 (by simp)
        have u0 := RBw3.out.cell 0 (by simp)
        have u1 := RBw3.out.cell 1 (by simp)
        have u2 := RBw3.out.cell 2 (by simp)
        have u3 := RBw3.out.cell 3 (by simp)
        have u4 := RBw3.out.cell 4 (by simp)
        have uz0 := RBw3.out.frozen 0
        have uz1 := RBw3.out.frozen 1
        have uz2 := RBw3.out.frozen 2
        have uz3 := RBw3.out.frozen 3
        have uz4 := RBw3.out.frozen 4
        have ul := RBw3.out.lt
        have lN := HBw3.out.lt
        go_wp2_with fail
        exact bodyPost_ret (v := .tuple #[(⟨0, 0, 0, 0, 0⟩ : SheetD).val, .bool false]) (by simp [results, Tryd.results36, go_sem, ul, u0, u1, u2, u3, u4]) rfl ⟨by rw [hno.out, psV_no hno.out], by go_grown⟩
  · have hno : Hid (psB s = false) := by unfold Hid psB; simp [h5]
    obtain ⟨n, hn⟩ : ∃ n, (splitP s 32).length = n := ⟨_, rfl⟩
    rw [hn] at h5
    have HN := hid hn
    clear hn
    go_enter Tryd.func36, Tryd.ntmps36
    go_wp2_with fail
    refine (KS.out _).mono ?_
    rintro e w1 ⟨v, rfl, ho, hb1⟩
    have RB1 := BoxIs.new hb1
    obtain ⟨ao, cap, rfl, _⟩ := ho.slice
    rw [HN.out]
    clear ho
    have hne : ((n : Int) != 5) = true := by simp; omega
    have u0 := RB1.cell 0 (by simp)
    have u1 := RB1.cell 1 (by simp)
    have u2 := RB1.cell 2 (by simp)
    have u3 := RB1.cell 3 (by simp)
    have u4 := RB1.cell 4 (by simp)
    have uz0 := RB1.frozen 0
    have uz1 := RB1.frozen 1
    have uz2 := RB1.frozen 2
    have uz3 := RB1.frozen 3
    have uz4 := RB1.frozen 4
    have ul := RB1.lt
    have B1 : Below w.heap.size w w1 := Below.on (by go_grown) (by simp) hb1
    clear hb1
    go_wp2_with fail
    exact bodyPost_ret (v := .tuple #[(⟨0, 0, 0, 0, 0⟩ : SheetD).val, .bool false]) (by simp [results, Tryd.results36, go_sem, ul, u0, u1, u2, u3, u4]) rfl ⟨by rw [hno.out, psV_no hno.out], by go_grown⟩
end Go.Proofs.YteklomkncfjdlaaDoor
