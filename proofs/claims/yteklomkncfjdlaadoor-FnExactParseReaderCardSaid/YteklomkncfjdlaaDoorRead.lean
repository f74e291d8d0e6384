/-
  ParseInt, by the program and by the reference. No condition.
-/
import Derived.Test.YteklomkncfjdlaaDoorReadP
import Derived.Test.YteklomkncfjdlaaDoorVerify
import Derived.Lib.AtoiErrMem
namespace Go.Proofs.YteklomkncfjdlaaDoor
open Go.RowKit
set_option linter.unusedVariables false
set_option maxRecDepth 100000

theorem rd_bad {l : List UInt8} {b : UInt8} (h : b ∈ magL l) (hb : isDg b = false) : rdB l = false := by
  have : (magL l).all isDg = false := by
    rw [← Bool.not_eq_true, List.all_eq_true]
    intro h2
    rw [h2 b h] at hb
    cases hb
  unfold rdB
  rw [this]
  simp
theorem head_byte (s : ByteArray) (h : 0 < s.size) : s.data.toList.headD 0 = s[0]'h := by
  have := byte_at s 0 h
  cases hl : s.data.toList with
  | nil => rw [hl] at this; simp at this
  | cons b r => rw [hl] at this; simp at this; simp [this]

set_option maxHeartbeats 2000000 in
theorem read_neg (s : ByteArray) (w : World) (hs : s.size ≤ 1048576) (h1 : 1 < s.size) (h45 : ((s[0]'(by omega)).toNat : Int) = 45) : Calls Tryd.prog 54 #[.string s] w fun e w' => e = .returned (.tuple #[.int .i64 (rdN s.data.toList), .bool (rdB s.data.toList)]) ∧ Below w.heap.size w w' := by
  have HN : Hid (negL s.data.toList = true) := by
    unfold Hid negL
    rw [← Lib.size_eq, head_byte s (by omega)]
    have : s[0]'(by omega) = 45 := UInt8.toNat_inj.1 (by show _ = 45; omega)
    simp [this, h1]
  obtain ⟨t, ht⟩ : ∃ t, s.extract 1 s.size = t := ⟨_, rfl⟩
  have HM : Hid (t.data.toList = magL s.data.toList) := by
    unfold Hid magL
    rw [if_pos HN.out, ← ht, ext_list, List.take_of_length_le (by rw [← Lib.size_eq]; exact Nat.le_refl _)]
    simp
  have htz : t.size + 1 = s.size := by rw [← ht, ByteArray.size_extract]; omega
  have g1 : (1 : Int) < (s.size : Int) := by omega
  have g2 : (1 : Int) ≤ (s.size : Int) := by omega
  have g3 : (t.size : Int) < (s.size : Int) := by omega
  by_cases hsz : 1 ≤ t.size ∧ t.size ≤ 6
  · obtain ⟨s1, s6⟩ := hsz
    have HL : Hid (1 ≤ (magL s.data.toList).length ∧ (magL s.data.toList).length ≤ 6) := by unfold Hid; rw [← HM.out, ← Lib.size_eq]; exact ⟨s1, s6⟩
    have hib : inB (t.size : Int) 1 6 = true := by simp [inB]; omega
    go_enter Tryd.func54, Tryd.ntmps54
    go_wp2_with fail
    refine (in_spec _ _ _ _).mono ?_
    rintro e w1 ⟨rfl, rfl⟩
    go_wp2_with fail
    go_loop [5, 6] (fun p i => ∃ k m : Nat, k ≤ t.size ∧ m ≤ 999999 ∧ i = .int .i64 k ∧ p = .int .i64 m ∧ Hid (m = digL 0 (t.data.toList.take k)) ∧ Hid (∀ b ∈ t.data.toList.take k, isDg b = true)) (fun _ i => t.size - (intOf i).toNat)
    case atStart => exact ⟨0, 0, by omega, by omega, rfl, rfl, by simp [Hid, digL], fun b hb => by simp at hb⟩
    case round =>
      obtain ⟨k, m, hk, hm6, rfl, rfl, hm, hd⟩ := hrel
      by_cases hlt : k < t.size
      · have hb := (t[k]'hlt).toNat_lt
        by_cases h1 : ((t[k]'hlt).toNat : Int) < 48
        · have hno : Hid (rdB s.data.toList = false) := rd_bad (HM.out ▸ List.mem_of_getElem? (byte_at t k hlt)) (by unfold isDg; simp; omega)
          go_wp2_with fail
          go_ret2
          exact ⟨by rw [hno.out, rdN_no hno.out]; rfl, Below.refl _ _⟩
        · by_cases h2 : 57 < ((t[k]'hlt).toNat : Int)
          · have hno : Hid (rdB s.data.toList = false) := rd_bad (HM.out ▸ List.mem_of_getElem? (byte_at t k hlt)) (by unfold isDg; simp; omega)
            go_wp2_with fail
            go_ret2
            exact ⟨by rw [hno.out, rdN_no hno.out]; rfl, Below.refl _ _⟩
          · have hdg : isDg (t[k]'hlt) = true := by unfold isDg; simp; omega
            obtain ⟨d, hdd⟩ : ∃ d : Nat, (t[k]'hlt).toNat = 48 + d := ⟨(t[k]'hlt).toNat - 48, by omega⟩
            have hd2 : Hid (∀ b ∈ t.data.toList.take (k + 1), isDg b = true) := by
              intro b hb
              rw [take_snoc t k hlt] at hb
              rcases List.mem_append.1 hb with hb | hb
              · exact hd.out b hb
              · simp at hb; rw [hb]; exact hdg
            have hm2 : Hid (10 * m + d = digL 0 (t.data.toList.take (k + 1))) := by
              unfold Hid
              rw [take_snoc t k hlt, digL_snoc, ← hm.out, hdd]
              omega
            have hm3 : 10 * m + d ≤ 999999 := by
              rw [hm2.out]
              exact digL_six hd2.out (by rw [List.length_take]; omega)
            have u1 : (((t[k]'hlt).toNat : Nat) : Int) = 48 + (d : Int) := by omega
            have u2 : IntKind.u8.wrap (48 + (d : Int) - 48) = (d : Int) := by rw [show (48 + (d : Int) - 48) = (d : Int) by omega]; unfold IntKind.wrap; simp [IntKind.signed, IntKind.bits]; omega
            clear hdd hdg
            go_wp2_with fail
            go_round
            case rel => exact ⟨k + 1, 10 * m + d, by omega, by omega, by go_num, by go_num, hm2.out, hd2.out⟩
            case measure => simp [intOf]; omega
      · obtain rfl : k = t.size := by omega
        have hT : t.data.toList.take t.size = t.data.toList := List.take_of_length_le (by rw [← Lib.size_eq]; exact Nat.le_refl _)
        have hmm : Hid (cand s.data.toList = -(m : Int)) := by
          have h1 := hm.out
          rw [hT, HM.out] at h1
          unfold Hid cand
          rw [if_pos HN.out, h1]
        have hall : Hid ((magL s.data.toList).all isDg = true) := by
          have h1 := hd.out
          rw [hT, HM.out] at h1
          unfold Hid
          rw [List.all_eq_true]
          exact h1
        clear hT
        obtain ⟨q, hq⟩ : ∃ q, txt (Lib.itoa (-(m : Int))) = q := ⟨_, rfl⟩
        have KN : Hid (∀ w, Calls Tryd.prog 43 #[.int .i64 (-(m : Int))] w fun e w' => e = .returned (.string q) ∧ Below w.heap.size w w') := fun w => num_specT (by omega) (by omega) hq w
        have HQ := hid hq
        have e9 : IntKind.i64.wrap (-(m : Int)) = -(m : Int) := IntWalk.i64_in _ (by omega)
        clear hq
        by_cases hqs : q = s
        · have hyes : Hid (rdB s.data.toList = true) := by
            have h1 : Lib.itoa (cand s.data.toList) = s.data.toList := by
              rw [hmm.out]
              apply txt_inj
              rw [HQ.out, txt_list]
              exact hqs
            unfold Hid rdB
            rw [hall.out, h1]
            simp [HL.out]
          subst hqs
          go_wp2_with fail
          refine (KN.out _).mono ?_
          rintro e w1 ⟨rfl, hb⟩
          go_wp2_with fail
          go_ret2
          exact ⟨by rw [hyes.out, rdN_yes hyes.out, hmm.out]; rfl, hb⟩
        · have hno : Hid (rdB s.data.toList = false) := by
            unfold Hid rdB
            have h1 : decide (Lib.itoa (cand s.data.toList) = s.data.toList) = false := by
              rw [decide_eq_false_iff_not, hmm.out]
              intro e
              apply hqs
              rw [← HQ.out, e, txt_list]
            rw [h1]
            simp
          have hne := bytes_ne hqs
          clear hqs
          go_wp2_with fail
          refine (KN.out _).mono ?_
          rintro e w1 ⟨rfl, hb⟩
          go_wp2_with fail
          go_ret2
          exact ⟨by rw [hno.out, rdN_no hno.out]; rfl, hb⟩
  · have hib : inB (t.size : Int) 1 6 = false := by simp [inB]; omega
    have hno : Hid (rdB s.data.toList = false) := by
      have h1 : (magL s.data.toList).length = t.size := by rw [← HM.out, ← Lib.size_eq]
      unfold Hid rdB
      rw [h1]
      by_cases h2 : 1 ≤ t.size
      · have h3 : decide (t.size ≤ 6) = false := decide_eq_false (by omega)
        rw [h3]; simp
      · have h3 : decide (1 ≤ t.size) = false := decide_eq_false (by omega)
        rw [h3]; simp
    go_enter Tryd.func54, Tryd.ntmps54
    go_wp2_with fail
    refine (in_spec _ _ _ _).mono ?_
    rintro e w1 ⟨rfl, rfl⟩
    go_wp2_with fail
    go_ret2
    exact ⟨by rw [hno.out, rdN_no hno.out]; rfl, Below.refl _ _⟩

set_option maxHeartbeats 2000000 in
theorem read_short (s : ByteArray) (w : World) (hs : s.size ≤ 1048576) (h1 : s.size ≤ 1) : Calls Tryd.prog 54 #[.string s] w fun e w' => e = .returned (.tuple #[.int .i64 (rdN s.data.toList), .bool (rdB s.data.toList)]) ∧ Below w.heap.size w w' := by
  have HN : Hid (negL s.data.toList = false) := by
    unfold Hid negL
    rw [← Lib.size_eq]
    have : decide (1 < s.size) = false := by simp; omega
    rw [this]; rfl
  have HM : Hid (s.data.toList = magL s.data.toList) := by
    unfold Hid magL
    rw [if_neg (by rw [HN.out]; simp)]
  by_cases hsz : 1 ≤ s.size ∧ s.size ≤ 6
  · obtain ⟨s1, s6⟩ := hsz
    have HL : Hid (1 ≤ (magL s.data.toList).length ∧ (magL s.data.toList).length ≤ 6) := by unfold Hid; rw [← HM.out, ← Lib.size_eq]; exact ⟨s1, s6⟩
    have hib : inB (s.size : Int) 1 6 = true := by simp [inB]; omega
    go_enter Tryd.func54, Tryd.ntmps54
    go_wp2_with fail
    refine (in_spec _ _ _ _).mono ?_
    rintro e w1 ⟨rfl, rfl⟩
    go_wp2_with fail
    go_loop [5, 6] (fun p i => ∃ k m : Nat, k ≤ s.size ∧ m ≤ 999999 ∧ i = .int .i64 k ∧ p = .int .i64 m ∧ Hid (m = digL 0 (s.data.toList.take k)) ∧ Hid (∀ b ∈ s.data.toList.take k, isDg b = true)) (fun _ i => s.size - (intOf i).toNat)
    case atStart => exact ⟨0, 0, by omega, by omega, rfl, rfl, by simp [Hid, digL], fun b hb => by simp at hb⟩
    case round =>
      obtain ⟨k, m, hk, hm6, rfl, rfl, hm, hd⟩ := hrel
      by_cases hlt : k < s.size
      · have hb := (s[k]'hlt).toNat_lt
        by_cases h1 : ((s[k]'hlt).toNat : Int) < 48
        · have hno : Hid (rdB s.data.toList = false) := rd_bad (HM.out ▸ List.mem_of_getElem? (byte_at s k hlt)) (by unfold isDg; simp; omega)
          go_wp2_with fail
          go_ret2
          exact ⟨by rw [hno.out, rdN_no hno.out]; rfl, Below.refl _ _⟩
        · by_cases h2 : 57 < ((s[k]'hlt).toNat : Int)
          · have hno : Hid (rdB s.data.toList = false) := rd_bad (HM.out ▸ List.mem_of_getElem? (byte_at s k hlt)) (by unfold isDg; simp; omega)
            go_wp2_with fail
            go_ret2
            exact ⟨by rw [hno.out, rdN_no hno.out]; rfl, Below.refl _ _⟩
          · have hdg : isDg (s[k]'hlt) = true := by unfold isDg; simp; omega
            obtain ⟨d, hdd⟩ : ∃ d : Nat, (s[k]'hlt).toNat = 48 + d := ⟨(s[k]'hlt).toNat - 48, by omega⟩
            have hd2 : Hid (∀ b ∈ s.data.toList.take (k + 1), isDg b = true) := by
              intro b hb
              rw [take_snoc s k hlt] at hb
              rcases List.mem_append.1 hb with hb | hb
              · exact hd.out b hb
              · simp at hb; rw [hb]; exact hdg
            have hm2 : Hid (10 * m + d = digL 0 (s.data.toList.take (k + 1))) := by
              unfold Hid
              rw [take_snoc s k hlt, digL_snoc, ← hm.out, hdd]
              omega
            have hm3 : 10 * m + d ≤ 999999 := by
              rw [hm2.out]
              exact digL_six hd2.out (by rw [List.length_take]; omega)
            have u1 : (((s[k]'hlt).toNat : Nat) : Int) = 48 + (d : Int) := by omega
            have u2 : IntKind.u8.wrap (48 + (d : Int) - 48) = (d : Int) := by rw [show (48 + (d : Int) - 48) = (d : Int) by omega]; unfold IntKind.wrap; simp [IntKind.signed, IntKind.bits]; omega
            clear hdd hdg
            go_wp2_with fail
            go_round
            case rel => exact ⟨k + 1, 10 * m + d, by omega, by omega, by go_num, by go_num, hm2.out, hd2.out⟩
            case measure => simp [intOf]; omega
      · obtain rfl : k = s.size := by omega
        have hT : s.data.toList.take s.size = s.data.toList := List.take_of_length_le (by rw [← Lib.size_eq]; exact Nat.le_refl _)
        have hmm : Hid (cand s.data.toList = (m : Int)) := by
          have h1 := hm.out
          rw [hT, HM.out] at h1
          unfold Hid cand
          rw [if_neg (by rw [HN.out]; simp), h1]
        have hall : Hid ((magL s.data.toList).all isDg = true) := by
          have h1 := hd.out
          rw [hT, HM.out] at h1
          unfold Hid
          rw [List.all_eq_true]
          exact h1
        clear hT
        obtain ⟨q, hq⟩ : ∃ q, txt (Lib.itoa ((m : Int))) = q := ⟨_, rfl⟩
        have KN : Hid (∀ w, Calls Tryd.prog 43 #[.int .i64 ((m : Int))] w fun e w' => e = .returned (.string q) ∧ Below w.heap.size w w') := fun w => num_specT (by omega) (by omega) hq w
        have HQ := hid hq
        have e9 : IntKind.i64.wrap ((m : Int)) = (m : Int) := IntWalk.i64_in _ (by omega)
        clear hq
        by_cases hqs : q = s
        · have hyes : Hid (rdB s.data.toList = true) := by
            have h1 : Lib.itoa (cand s.data.toList) = s.data.toList := by
              rw [hmm.out]
              apply txt_inj
              rw [HQ.out, txt_list]
              exact hqs
            unfold Hid rdB
            rw [hall.out, h1]
            simp [HL.out]
          subst hqs
          go_wp2_with fail
          refine (KN.out _).mono ?_
          rintro e w1 ⟨rfl, hb⟩
          go_wp2_with fail
          go_ret2
          exact ⟨by rw [hyes.out, rdN_yes hyes.out, hmm.out]; rfl, hb⟩
        · have hno : Hid (rdB s.data.toList = false) := by
            unfold Hid rdB
            have h1 : decide (Lib.itoa (cand s.data.toList) = s.data.toList) = false := by
              rw [decide_eq_false_iff_not, hmm.out]
              intro e
              apply hqs
              rw [← HQ.out, e, txt_list]
            rw [h1]
            simp
          have hne := bytes_ne hqs
          clear hqs
          go_wp2_with fail
          refine (KN.out _).mono ?_
          rintro e w1 ⟨rfl, hb⟩
          go_wp2_with fail
          go_ret2
          exact ⟨by rw [hno.out, rdN_no hno.out]; rfl, hb⟩
  · have hib : inB (s.size : Int) 1 6 = false := by simp [inB]; omega
    have hno : Hid (rdB s.data.toList = false) := by
      have h1 : (magL s.data.toList).length = s.size := by rw [← HM.out, ← Lib.size_eq]
      unfold Hid rdB
      rw [h1]
      by_cases h2 : 1 ≤ s.size
      · have h3 : decide (s.size ≤ 6) = false := decide_eq_false (by omega)
        rw [h3]; simp
      · have h3 : decide (1 ≤ s.size) = false := decide_eq_false (by omega)
        rw [h3]; simp
    go_enter Tryd.func54, Tryd.ntmps54
    go_wp2_with fail
    refine (in_spec _ _ _ _).mono ?_
    rintro e w1 ⟨rfl, rfl⟩
    go_wp2_with fail
    go_ret2
    exact ⟨by rw [hno.out, rdN_no hno.out]; rfl, Below.refl _ _⟩

set_option maxHeartbeats 2000000 in
theorem read_pos (s : ByteArray) (w : World) (hs : s.size ≤ 1048576) (h1 : 1 < s.size) (h45 : ((s[0]'(by omega)).toNat : Int) ≠ 45) : Calls Tryd.prog 54 #[.string s] w fun e w' => e = .returned (.tuple #[.int .i64 (rdN s.data.toList), .bool (rdB s.data.toList)]) ∧ Below w.heap.size w w' := by
  have HN : Hid (negL s.data.toList = false) := by
    unfold Hid negL
    rw [head_byte s (by omega)]
    have : s[0]'(by omega) ≠ 45 := fun e => h45 (congrArg (fun x : UInt8 => (x.toNat : Int)) e)
    simp [this]
  have HM : Hid (s.data.toList = magL s.data.toList) := by
    unfold Hid magL
    rw [if_neg (by rw [HN.out]; simp)]
  have g1 : (1 : Int) < (s.size : Int) := by omega
  by_cases hsz : 1 ≤ s.size ∧ s.size ≤ 6
  · obtain ⟨s1, s6⟩ := hsz
    have HL : Hid (1 ≤ (magL s.data.toList).length ∧ (magL s.data.toList).length ≤ 6) := by unfold Hid; rw [← HM.out, ← Lib.size_eq]; exact ⟨s1, s6⟩
    have hib : inB (s.size : Int) 1 6 = true := by simp [inB]; omega
    go_enter Tryd.func54, Tryd.ntmps54
    go_wp2_with fail
    refine (in_spec _ _ _ _).mono ?_
    rintro e w1 ⟨rfl, rfl⟩
    go_wp2_with fail
    go_loop [5, 6] (fun p i => ∃ k m : Nat, k ≤ s.size ∧ m ≤ 999999 ∧ i = .int .i64 k ∧ p = .int .i64 m ∧ Hid (m = digL 0 (s.data.toList.take k)) ∧ Hid (∀ b ∈ s.data.toList.take k, isDg b = true)) (fun _ i => s.size - (intOf i).toNat)
    case atStart => exact ⟨0, 0, by omega, by omega, rfl, rfl, by simp [Hid, digL], fun b hb => by simp at hb⟩
    case round =>
      obtain ⟨k, m, hk, hm6, rfl, rfl, hm, hd⟩ := hrel
      by_cases hlt : k < s.size
      · have hb := (s[k]'hlt).toNat_lt
        by_cases h1 : ((s[k]'hlt).toNat : Int) < 48
        · have hno : Hid (rdB s.data.toList = false) := rd_bad (HM.out ▸ List.mem_of_getElem? (byte_at s k hlt)) (by unfold isDg; simp; omega)
          go_wp2_with fail
          go_ret2
          exact ⟨by rw [hno.out, rdN_no hno.out]; rfl, Below.refl _ _⟩
        · by_cases h2 : 57 < ((s[k]'hlt).toNat : Int)
          · have hno : Hid (rdB s.data.toList = false) := rd_bad (HM.out ▸ List.mem_of_getElem? (byte_at s k hlt)) (by unfold isDg; simp; omega)
            go_wp2_with fail
            go_ret2
            exact ⟨by rw [hno.out, rdN_no hno.out]; rfl, Below.refl _ _⟩
          · have hdg : isDg (s[k]'hlt) = true := by unfold isDg; simp; omega
            obtain ⟨d, hdd⟩ : ∃ d : Nat, (s[k]'hlt).toNat = 48 + d := ⟨(s[k]'hlt).toNat - 48, by omega⟩
            have hd2 : Hid (∀ b ∈ s.data.toList.take (k + 1), isDg b = true) := by
              intro b hb
              rw [take_snoc s k hlt] at hb
              rcases List.mem_append.1 hb with hb | hb
              · exact hd.out b hb
              · simp at hb; rw [hb]; exact hdg
            have hm2 : Hid (10 * m + d = digL 0 (s.data.toList.take (k + 1))) := by
              unfold Hid
              rw [take_snoc s k hlt, digL_snoc, ← hm.out, hdd]
              omega
            have hm3 : 10 * m + d ≤ 999999 := by
              rw [hm2.out]
              exact digL_six hd2.out (by rw [List.length_take]; omega)
            have u1 : (((s[k]'hlt).toNat : Nat) : Int) = 48 + (d : Int) := by omega
            have u2 : IntKind.u8.wrap (48 + (d : Int) - 48) = (d : Int) := by rw [show (48 + (d : Int) - 48) = (d : Int) by omega]; unfold IntKind.wrap; simp [IntKind.signed, IntKind.bits]; omega
            clear hdd hdg
            go_wp2_with fail
            go_round
            case rel => exact ⟨k + 1, 10 * m + d, by omega, by omega, by go_num, by go_num, hm2.out, hd2.out⟩
            case measure => simp [intOf]; omega
      · obtain rfl : k = s.size := by omega
        have hT : s.data.toList.take s.size = s.data.toList := List.take_of_length_le (by rw [← Lib.size_eq]; exact Nat.le_refl _)
        have hmm : Hid (cand s.data.toList = (m : Int)) := by
          have h1 := hm.out
          rw [hT, HM.out] at h1
          unfold Hid cand
          rw [if_neg (by rw [HN.out]; simp), h1]
        have hall : Hid ((magL s.data.toList).all isDg = true) := by
          have h1 := hd.out
          rw [hT, HM.out] at h1
          unfold Hid
          rw [List.all_eq_true]
          exact h1
        clear hT
        obtain ⟨q, hq⟩ : ∃ q, txt (Lib.itoa ((m : Int))) = q := ⟨_, rfl⟩
        have KN : Hid (∀ w, Calls Tryd.prog 43 #[.int .i64 ((m : Int))] w fun e w' => e = .returned (.string q) ∧ Below w.heap.size w w') := fun w => num_specT (by omega) (by omega) hq w
        have HQ := hid hq
        have e9 : IntKind.i64.wrap ((m : Int)) = (m : Int) := IntWalk.i64_in _ (by omega)
        clear hq
        by_cases hqs : q = s
        · have hyes : Hid (rdB s.data.toList = true) := by
            have h1 : Lib.itoa (cand s.data.toList) = s.data.toList := by
              rw [hmm.out]
              apply txt_inj
              rw [HQ.out, txt_list]
              exact hqs
            unfold Hid rdB
            rw [hall.out, h1]
            simp [HL.out]
          subst hqs
          go_wp2_with fail
          refine (KN.out _).mono ?_
          rintro e w1 ⟨rfl, hb⟩
          go_wp2_with fail
          go_ret2
          exact ⟨by rw [hyes.out, rdN_yes hyes.out, hmm.out]; rfl, hb⟩
        · have hno : Hid (rdB s.data.toList = false) := by
            unfold Hid rdB
            have h1 : decide (Lib.itoa (cand s.data.toList) = s.data.toList) = false := by
              rw [decide_eq_false_iff_not, hmm.out]
              intro e
              apply hqs
              rw [← HQ.out, e, txt_list]
            rw [h1]
            simp
          have hne := bytes_ne hqs
          clear hqs
          go_wp2_with fail
          refine (KN.out _).mono ?_
          rintro e w1 ⟨rfl, hb⟩
          go_wp2_with fail
          go_ret2
          exact ⟨by rw [hno.out, rdN_no hno.out]; rfl, hb⟩
  · have hib : inB (s.size : Int) 1 6 = false := by simp [inB]; omega
    have hno : Hid (rdB s.data.toList = false) := by
      have h1 : (magL s.data.toList).length = s.size := by rw [← HM.out, ← Lib.size_eq]
      unfold Hid rdB
      rw [h1]
      by_cases h2 : 1 ≤ s.size
      · have h3 : decide (s.size ≤ 6) = false := decide_eq_false (by omega)
        rw [h3]; simp
      · have h3 : decide (1 ≤ s.size) = false := decide_eq_false (by omega)
        rw [h3]; simp
    go_enter Tryd.func54, Tryd.ntmps54
    go_wp2_with fail
    refine (in_spec _ _ _ _).mono ?_
    rintro e w1 ⟨rfl, rfl⟩
    go_wp2_with fail
    go_ret2
    exact ⟨by rw [hno.out, rdN_no hno.out]; rfl, Below.refl _ _⟩

theorem read_spec (s : ByteArray) (w : World) (hs : s.size ≤ 1048576) : Calls Tryd.prog 54 #[.string s] w fun e w' => e = .returned (.tuple #[.int .i64 (rdN s.data.toList), .bool (rdB s.data.toList)]) ∧ Below w.heap.size w w' := by
  by_cases h1 : 1 < s.size
  · by_cases h45 : ((s[0]'(by omega)).toNat : Int) = 45
    · exact read_neg s w hs h1 h45
    · exact read_pos s w hs h1 h45
  · exact read_short s w hs (by omega)

/-- The two errors of the library's that its readers name. -/
def Er (B : Nat) (w : World) : Prop := 2 < B ∧ (∃ ev, w.cell? ⟨1, 0, none⟩ = some ev ∧ (ev = .nilIface ∨ ∃ te pe, ev = .iface te pe)) ∧ (∃ ev, w.cell? ⟨2, 0, none⟩ = some ev ∧ (ev = .nilIface ∨ ∃ te pe, ev = .iface te pe))
theorem Er.on {B : Nat} {w w1 : World} (h : Er B w) (hB : B ≤ w.heap.size) (hb : Below w.heap.size w w1) : Er B w1 := by
  obtain ⟨h0, ⟨e1, h1, k1⟩, ⟨e2, h2, k2⟩⟩ := h
  exact ⟨h0, ⟨e1, (hb.cell (p := ⟨1, 0, none⟩) (show 1 < w.heap.size by omega)).trans h1, k1⟩, ⟨e2, (hb.cell (p := ⟨2, 0, none⟩) (show 2 < w.heap.size by omega)).trans h2, k2⟩⟩

/-- What strconv.Atoi hands back at a text: the number, and an error just where the text is none (or a number out of all bounds). -/
theorem atoi_any (s : ByteArray) (B : Nat) (w : World) (hs : s.size ≤ 1048576) (he : Er B w) : Calls Tryd.prog 55 #[.string s] w fun e w' => (∃ n ev, e = .returned (.tuple #[.int .i64 n, ev]) ∧ ((ev = .nilIface ∧ Lib.atoiAll s.data.toList = .ok n) ∨ ((∃ te pe, ev = .iface te pe) ∧ ∀ m, Lib.atoiAll s.data.toList ≠ .ok m))) ∧ Below w.heap.size w w' := by
  obtain ⟨_, ⟨e1, h1, k1⟩, ⟨e2, h2, k2⟩⟩ := he
  cases h : Lib.atoiAll s.data.toList with
  | ok v =>
    refine (Tryd.strconv_Atoi_ok s (by omega) v h w).mono fun e w' hh => ?_
    refine ⟨⟨v, _, hh.1, .inl ⟨rfl, rfl⟩⟩, ?_⟩
    rcases hh.2 with rfl | ⟨t, rfl⟩
    · exact Below.refl _ _
    · exact Lib.bytesWorld_below _ _ _
  | «syntax» =>
    refine (Any.strconv_Atoi_syntax Tryd.laysC172 s (by omega) h e1 w h1 k1).mono fun e w' hh => ?_
    obtain ⟨N, hN, _, _, hb⟩ := hh
    exact ⟨⟨0, _, hN, .inr ⟨⟨_, _, rfl⟩, fun m hm => by cases hm⟩⟩, hb⟩
  | range =>
    refine (Any.strconv_Atoi_range Tryd.laysC172 s (by omega) h e2 w h2 k2).mono fun e w' hh => ?_
    obtain ⟨N, hN, _, _, hb⟩ := hh
    exact ⟨⟨_, _, hN, .inr ⟨⟨_, _, rfl⟩, fun m hm => by cases hm⟩⟩, hb⟩

theorem parseInt_spec (s : ByteArray) (w : World) (hs : s.size ≤ 1048576) : Calls Tryd.prog 24 #[.string s] w fun e w' => e = .returned (.tuple #[.int .i64 (rdN s.data.toList), .bool (rdB s.data.toList)]) ∧ Below w.heap.size w w' := by
  obtain ⟨n, hn⟩ : ∃ n, rdN s.data.toList = n := ⟨_, rfl⟩
  obtain ⟨b, hb⟩ : ∃ b, rdB s.data.toList = b := ⟨_, rfl⟩
  have K := hid (fun w => read_spec s w hs)
  rw [hn, hb] at K ⊢
  clear hn hb
  go_enter Tryd.func24, Tryd.ntmps24
  go_wp2_with fail
  refine (K.out _).mono ?_
  rintro e w1 ⟨rfl, hb1⟩
  go_wp2_with fail
  go_ret2
  exact ⟨rfl, hb1⟩

set_option maxHeartbeats 1000000 in
theorem parseInt_impl (s : ByteArray) (B : Nat) (w : World) (hB : B ≤ w.heap.size) (ht : Tb B w) (he : Er B w) (hs : s.size ≤ 1048576) : Calls Tryd.prog 25 #[.string s] w fun e w' => e = .returned (.tuple #[.int .i64 (rdN s.data.toList), .bool (rdB s.data.toList)]) ∧ Below w.heap.size w w' := by
  have HTB := hid ht
  have KA := hid (atoi_any s B w hs he)
  clear ht he
  go_enter Tryd.func25, Tryd.ntmps25
  go_wp2_with fail
  refine KA.out.mono ?_
  rintro e w1 ⟨⟨n, ev, rfl, hcase⟩, hb1⟩
  have hB1 : B ≤ w1.heap.size := by have := hb1.size; omega
  have HT1 := hid (HTB.out.on hB hb1)
  rcases hcase with ⟨rfl, hok⟩ | ⟨⟨te, pe, rfl⟩, hbad⟩
  · by_cases hin : -999999 ≤ n ∧ n ≤ 999999
    · have hib : inB n (-999999) 999999 = true := by simp [inB]; omega
      obtain ⟨q, hq⟩ : ∃ q, txt (Lib.itoa n) = q := ⟨_, rfl⟩
      have KN : Hid (∀ w, Tb B w → Calls Tryd.prog 45 #[.int .i64 n] w fun e w' => e = .returned (.string q) ∧ Below w.heap.size w w') := fun w h => text_implT (by omega) (by omega) hq B w h
      by_cases hqs : q = s
      · have e1 : Lib.itoa n = s.data.toList := by rw [← hqs, ← hq]; simp [txt]
        have hyes : Hid (rdB s.data.toList = true ∧ rdN s.data.toList = n) := by
          have := rd_itoa hin.1 hin.2
          rw [e1] at this
          exact ⟨this.1, by rw [rdN_yes this.1, this.2]⟩
        clear hq hok e1 hin
        subst hqs
        go_wp2_with fail
        refine (in_impl _ _ _ _).mono ?_
        rintro e w2 ⟨rfl, rfl⟩
        go_wp2_with fail
        refine (KN.out _ HT1.out).mono ?_
        rintro e w3 ⟨rfl, hb3⟩
        go_wp2_with fail
        go_ret2
        exact ⟨by rw [hyes.out.1, hyes.out.2]; rfl, Below.on hb1 hb1.size hb3⟩
      · have hno : Hid (rdB s.data.toList = false) := by
          unfold Hid
          rw [← Bool.not_eq_true]
          intro h
          rw [atoi_yes h] at hok
          have h2 : cand s.data.toList = n := by injection hok
          have h3 := (cand_bd h).2.2
          rw [h2] at h3
          apply hqs
          rw [← hq, h3, txt_list]
        have hne := bytes_ne hqs
        clear hq hok hin hqs
        go_wp2_with fail
        refine (in_impl _ _ _ _).mono ?_
        rintro e w2 ⟨rfl, rfl⟩
        go_wp2_with fail
        refine (KN.out _ HT1.out).mono ?_
        rintro e w3 ⟨rfl, hb3⟩
        go_wp2_with fail
        go_ret2
        exact ⟨by rw [hno.out, rdN_no hno.out]; rfl, Below.on hb1 hb1.size hb3⟩
    · have hib : inB n (-999999) 999999 = false := by
        simp only [inB, Bool.and_eq_false_iff, decide_eq_false_iff_not]
        omega
      have hno : Hid (rdB s.data.toList = false) := by
        unfold Hid
        rw [← Bool.not_eq_true]
        intro h
        rw [atoi_yes h] at hok
        have h2 : cand s.data.toList = n := by injection hok
        have h3 := cand_bd h
        omega
      clear hok hin
      go_wp2_with fail
      refine (in_impl _ _ _ _).mono ?_
      rintro e w2 ⟨rfl, rfl⟩
      go_wp2_with fail
      go_ret2
      exact ⟨by rw [hno.out, rdN_no hno.out]; rfl, hb1⟩
  · have hno : Hid (rdB s.data.toList = false) := by
      unfold Hid
      rw [← Bool.not_eq_true]
      intro h
      exact hbad _ (atoi_yes h)
    clear hbad
    go_wp2_with fail
    go_ret2
    exact ⟨by rw [hno.out, rdN_no hno.out]; rfl, hb1⟩

set_option maxHeartbeats 1000000 in
theorem walk_ExactParseInt (w : World) (s : ByteArray) (hs : s.size ≤ maxLen) (ht : Tb w.heap.size w) (he : Er w.heap.size w) : Calls Tryd.prog 7 #[.string s] w fun e w' => e = .returned (.bool true) ∧ Below w.heap.size w w' := by
  have HT := hid ht
  have HE := hid he
  clear ht he
  obtain ⟨n, hn⟩ : ∃ n, rdN s.data.toList = n := ⟨_, rfl⟩
  obtain ⟨b, hb⟩ : ∃ b, rdB s.data.toList = b := ⟨_, rfl⟩
  have HS := hid hn
  have HBB := hid hb
  clear hn hb
  by_cases h : s.size ≤ 1048576
  · go_enter Tryd.func7, Tryd.ntmps7
    go_wp2_with fail
    refine (parseInt_spec s _ h).mono ?_
    rw [HS.out, HBB.out]
    rintro e w1 ⟨rfl, hb1⟩
    go_wp2_with fail
    refine (parseInt_impl s w.heap.size _ hb1.size (HT.out.via hb1) (HE.out.on (Nat.le_refl _) hb1) h).mono ?_
    rw [HS.out, HBB.out]
    rintro e w2 ⟨rfl, hb2⟩
    go_wp2_with fail
    go_ret
    exact ⟨rfl, Below.on hb1 hb1.size hb2⟩
  · unfold maxLen at hs
    go_enter Tryd.func7, Tryd.ntmps7
    go_wp2_with fail
    go_ret
    exact ⟨rfl, Below.refl _ _⟩

end Go.Proofs.YteklomkncfjdlaaDoor
