/-
  VerifyChecksum, by the program and by the reference. No condition.
-/
import Derived.Test.YteklomkncfjdlaaDoorSeal
import Derived.Test.YteklomkncfjdlaaDoorSplit
namespace Go.Proofs.YteklomkncfjdlaaDoor
open Go.RowKit
set_option linter.unusedVariables false
set_option maxRecDepth 100000

/-- The bytes ahead of the first sign. -/
def hdS (s : ByteArray) (c : UInt8) : ByteArray := txt (s.data.toList.takeWhile (fun b => b != c))
theorem hdS_le (s : ByteArray) (c : UInt8) : (hdS s c).size ≤ s.size := by
  unfold hdS
  rw [txt_size, Lib.size_eq]
  exact List.Sublist.length_le (List.takeWhile_sublist _)
theorem mem_takeWhile {p : UInt8 → Bool} : ∀ {l : List UInt8} {x : UInt8}, x ∈ l.takeWhile p → p x = true
  | [], x, h => by simp at h
  | b :: l, x, h => by
    rw [List.takeWhile_cons] at h
    by_cases hb : p b = true
    · rw [if_pos hb] at h
      rcases List.mem_cons.1 h with rfl | h
      · exact hb
      · exact mem_takeWhile h
    · rw [if_neg hb] at h
      simp at h
theorem hdS_no (s : ByteArray) (c : UInt8) : stB (hdS s c) c = false := by
  unfold stB hdS
  rw [decide_eq_false_iff_not]
  intro h
  have : c ∈ s.data.toList.takeWhile (fun b => b != c) := by simpa [txt] using h
  have := mem_takeWhile this
  simp at this
theorem hdS_index (s : ByteArray) (c : UInt8) (i : Nat) (h : Lib.index s.data.toList [c] = i) : s.extract 0 i = hdS s c ∧ i + 1 ≤ s.size := by
  have h1 := cut_head c s.data.toList
  have h2 := Lib.index_room s.data.toList [c] (by omega)
  rw [Lib.cut, if_pos (by omega)] at h1
  have e : (Lib.index s.data.toList [c]).toNat = i := by omega
  rw [e] at h1
  refine ⟨?_, by rw [h] at h2; rw [Lib.size_eq]; have h3 : ([c] : List UInt8).length = 1 := rfl; omega⟩
  unfold hdS
  rw [← h1, ← txt_list (s.extract 0 i), ext_list]
  rfl
theorem hdS_miss (s : ByteArray) (c : UInt8) (h : Lib.index s.data.toList [c] = -1) : s = hdS s c := by
  have h1 := cut_head c s.data.toList
  rw [Lib.cut, if_neg (by omega)] at h1
  unfold hdS
  rw [← h1]
  exact (txt_list s).symm

set_option maxHeartbeats 1000000 in
theorem cutlite_one (s : ByteArray) (c : UInt8) (w : World) (hs : s.size ≤ 1048576) : Calls Tryd.prog 72 #[.string s, .string ⟨#[c]⟩] w fun e w' => (∃ x b, e = .returned (.tuple #[.string (hdS s c), .string x, .bool b])) ∧ Below w.heap.size w w' := by
  have K0 := hid (Tryd.stringslite_Index_one s c w)
  rw [index_byte] at K0
  have hge := Lib.index_ge s.data.toList [c]
  by_cases hm : Lib.index s.data.toList [c] = -1
  · have HM := hid (hdS_miss s c hm)
    rw [hm] at K0
    clear hm hge
    go_enter Tryd.func72, Tryd.ntmps72
    go_wp2_with fail
    refine K0.out.mono ?_
    rintro e w1 ⟨rfl, rfl⟩
    go_wp2_with fail
    go_ret3
    exact ⟨⟨_, _, by rw [← HM.out]; rfl⟩, Below.refl _ _⟩
  · obtain ⟨i, hi⟩ : ∃ i : Nat, Lib.index s.data.toList [c] = i := ⟨(Lib.index s.data.toList [c]).toNat, by omega⟩
    obtain ⟨e1, e2⟩ := hdS_index s c i hi
    have HE := hid e1
    rw [hi] at K0
    have c1 : (0 : Int) ≤ ↑i := by omega
    have c2 : (↑i : Int) ≤ ↑s.size := by omega
    have hc1 : ((⟨#[c]⟩ : ByteArray).size : Int) = 1 := rfl
    have c3 : (0 : Int) ≤ ↑i + 1 := by omega
    have c4 : (↑i + 1 : Int) ≤ ↑s.size := by omega
    have c5 : IntKind.i64.wrap ((i : Int) + 1) = (i : Int) + 1 := IntWalk.i64_in _ (by omega)
    clear hm hge hi e1
    have hq := fun z : Later w => z.cell
    go_enter Tryd.func72, Tryd.ntmps72
    go_wp2_with fail
    refine K0.out.mono ?_
    rintro e w1 ⟨rfl, rfl⟩
    go_wp2_with fail
    refine region_later (by kernel_rfl) (by kernel_rfl) ?_
    repeat (go_big_quiet_step (fail))
    refine wpQuiet_nil ?_
    intro _ hw'
    obtain ⟨z, rfl⟩ := hw'
    clear hq
    go_wp2_with fail
    go_ret3
    exact ⟨⟨_, _, by rw [← HE.out]; rfl⟩, z.below⟩

theorem cut_one (s : ByteArray) (c : UInt8) (w : World) (hs : s.size ≤ 1048576) : Calls Tryd.prog 53 #[.string s, .string ⟨#[c]⟩] w fun e w' => (∃ x b, e = .returned (.tuple #[.string (hdS s c), .string x, .bool b])) ∧ Below w.heap.size w w' := by
  have K0 := hid (cutlite_one s c w hs)
  obtain ⟨h, hh⟩ : ∃ h, hdS s c = h := ⟨_, rfl⟩
  rw [hh] at K0 ⊢
  clear hh
  go_enter Tryd.func53, Tryd.ntmps53
  go_wp2_with fail
  refine K0.out.mono ?_
  rintro e w1 ⟨⟨x, b, rfl⟩, hb⟩
  go_wp2_with fail
  go_ret3
  exact ⟨⟨x, b, rfl⟩, hb⟩

def verB (s : ByteArray) : Bool := decide (s.size ≤ 4000) && decide (sealS (hdS s 35) = s)
def verS (s : ByteArray) : ByteArray := if verB s = true then hdS s 35 else ByteArray.empty
theorem verS_no {s : ByteArray} (h : verB s = false) : verS s = ByteArray.empty := by unfold verS; rw [if_neg (by rw [h]; simp)]
theorem verS_yes {s : ByteArray} (h : verB s = true) : verS s = hdS s 35 := by unfold verS; rw [if_pos h]
theorem verB_long {s : ByteArray} (h : ¬ s.size ≤ 4000) : verB s = false := by simp [verB, h]
theorem verB_ne {s : ByteArray} (h : sealS (hdS s 35) ≠ s) : verB s = false := by simp [verB, h]
theorem verB_ok {s : ByteArray} (h4 : s.size ≤ 4000) (h : sealS (hdS s 35) = s) : verB s = true := by simp [verB, h, h4]
/-- What the program's way says. -/
theorem verB_app (s : ByteArray) : verB s = (appB (hdS s 35) && decide (appS (hdS s 35) = s)) := by
  by_cases h : appB (hdS s 35) = true
  · rw [h, appS_yes h]
    have h4 : (sealS (hdS s 35)).size ≤ 4000 := by simp [appB] at h; exact h.2
    by_cases e : sealS (hdS s 35) = s
    · rw [verB_ok (by rw [← e]; exact h4) e]; simp [e]
    · rw [verB_ne e]; simp [e]
  · have h' : appB (hdS s 35) = false := by simpa using h
    rw [h']
    by_cases e : sealS (hdS s 35) = s
    · by_cases h4 : s.size ≤ 4000
      · exact absurd (appB_ok (hdS_no s 35) (by rw [e]; exact h4)) h
      · rw [verB_long h4]; rfl
    · rw [verB_ne e]; rfl
theorem bytes_ne {a b : ByteArray} (h : a ≠ b) : (a.toList == b.toList) = false := by
  rw [beq_eq_false_iff_ne]
  intro e
  rw [Lib.toList_data, Lib.toList_data] at e
  exact h (by rw [← txt_list a, ← txt_list b, e])

set_option maxHeartbeats 1000000 in
theorem verify_spec (s : ByteArray) (w : World) (hs : s.size ≤ 1048576) : Calls Tryd.prog 22 #[.string s] w fun e w' => e = .returned (.tuple #[.string (verS s), .bool (verB s)]) ∧ Below w.heap.size w w' := by
  by_cases h4 : s.size ≤ 4000
  · have KS : Hid (∀ w, Calls Tryd.prog 46 #[.string s, .int .u8 35] w fun e w' => ∃ v, e = .returned v ∧ OwnS w.heap.size w' v (splitP s 35) ∧ Below w.heap.size w w') := fun w => split_spec s 35 w hs
    obtain ⟨t, ht⟩ : ∃ t, hdS s 35 = t := ⟨_, rfl⟩
    have HT := hid ht
    have htz : t.size ≤ 4000 := by have := hdS_le s 35; rw [ht] at this; omega
    obtain ⟨q, hq⟩ : ∃ q, sealS t = q := ⟨_, rfl⟩
    have HQ := hid hq
    have KT : Hid (∀ w, Calls Tryd.prog 50 #[.string t] w fun e w' => e = .returned (.string q) ∧ Below w.heap.size w w') := fun w => by rw [← hq]; exact seal_spec t w (by omega)
    have HH : Hid ((splitP s 35).getD 0 default = t) := by rw [← ht]; exact splitP_head s 35
    have HN : Hid ((splitP s 35).length ≠ 0) := by unfold Hid; rw [splitP_len]; omega
    clear ht hq
    by_cases hqs : q = s
    · have hyes : Hid (verB s = true) := verB_ok h4 (by rw [HT.out, HQ.out]; exact hqs)
      subst hqs
      go_enter Tryd.func22, Tryd.ntmps22
      go_wp2_with fail
      refine (KS.out _).mono ?_
      rintro e w1 ⟨v, rfl, ho, hb1⟩
      rcases ho.form with ⟨_, h0⟩ | ⟨g, cap, rfl, _, lg, hc, _, hcell, _⟩
      · exact absurd (congrArg List.length h0) HN.out
      have x0 : w1.cell? ⟨g, 0, none⟩ = some (.string t) := by rw [hcell 0 (by have := HN.out; omega), HH.out]
      obtain ⟨n, hn, hn1⟩ : ∃ n, (splitP q 35).length = n ∧ 0 < n := ⟨_, rfl, by have := HN.out; omega⟩
      rw [hn]
      clear ho hcell hn
      have e1 : (0 : Int) < (n : Int) := by omega
      go_wp2_with fail
      refine (KT.out _).mono ?_
      rintro e w2 ⟨rfl, hb2⟩
      go_wp2_with fail
      go_ret2
      exact ⟨by rw [hyes.out, verS_yes hyes.out, HT.out]; rfl, Below.on hb1 hb1.size hb2⟩
    · have hno : Hid (verB s = false) := verB_ne (by rw [HT.out, HQ.out]; exact hqs)
      have hne := bytes_ne hqs
      clear hqs
      go_enter Tryd.func22, Tryd.ntmps22
      go_wp2_with fail
      refine (KS.out _).mono ?_
      rintro e w1 ⟨v, rfl, ho, hb1⟩
      rcases ho.form with ⟨_, h0⟩ | ⟨g, cap, rfl, _, lg, hc, _, hcell, _⟩
      · exact absurd (congrArg List.length h0) HN.out
      have x0 : w1.cell? ⟨g, 0, none⟩ = some (.string t) := by rw [hcell 0 (by have := HN.out; omega), HH.out]
      obtain ⟨n, hn, hn1⟩ : ∃ n, (splitP s 35).length = n ∧ 0 < n := ⟨_, rfl, by have := HN.out; omega⟩
      rw [hn]
      clear ho hcell hn
      have e1 : (0 : Int) < (n : Int) := by omega
      go_wp2_with fail
      refine (KT.out _).mono ?_
      rintro e w2 ⟨rfl, hb2⟩
      go_wp2_with fail
      go_ret2
      exact ⟨by rw [hno.out, verS_no hno.out]; rfl, Below.on hb1 hb1.size hb2⟩
  · have hno : Hid (verB s = false) := verB_long h4
    go_enter Tryd.func22, Tryd.ntmps22
    go_wp2_with fail
    go_ret2
    exact ⟨by rw [hno.out, verS_no hno.out]; rfl, Below.refl _ _⟩

set_option maxHeartbeats 1000000 in
theorem verify_impl (s : ByteArray) (B : Nat) (w : World) (hB : B ≤ w.heap.size) (ht : Tb B w) (hs : s.size ≤ 1048576) : Calls Tryd.prog 23 #[.string s] w fun e w' => e = .returned (.tuple #[.string (verS s), .bool (verB s)]) ∧ Below w.heap.size w w' := by
  have HTB := hid ht
  clear ht
  have HV := hid (verB_app s)
  have KC : Hid (∀ w, Calls Tryd.prog 53 #[.string s, .string { data := #[35] }] w fun e w' => (∃ x b, e = .returned (.tuple #[.string (hdS s 35), .string x, .bool b])) ∧ Below w.heap.size w w') := fun w => cut_one s 35 w hs
  obtain ⟨t, ht⟩ : ∃ t, hdS s 35 = t := ⟨_, rfl⟩
  have HT := hid ht
  have htz : t.size ≤ 1048576 := by have := hdS_le s 35; rw [ht] at this; omega
  rw [ht] at KC HV
  obtain ⟨q, hq⟩ : ∃ q, appS t = q := ⟨_, rfl⟩
  obtain ⟨b, hb⟩ : ∃ b, appB t = b := ⟨_, rfl⟩
  have KA : Hid (∀ w, B ≤ w.heap.size → Tb B w → Calls Tryd.prog 21 #[.string t] w fun e w' => e = .returned (.tuple #[.string q, .bool b]) ∧ Below w.heap.size w w') := fun w h k => by rw [← hq, ← hb]; exact append_impl t B w h k htz
  rw [hq, hb] at HV
  clear ht hq hb
  by_cases hbt : b = true
  · subst hbt
    by_cases hqs : q = s
    · have hyes : Hid (verB s = true) := by unfold Hid; rw [HV.out]; simp [hqs]
      subst hqs
      go_enter Tryd.func23, Tryd.ntmps23
      go_wp2_with fail
      refine (KC.out _).mono ?_
      rintro e w1 ⟨⟨x, y, rfl⟩, hb1⟩
      go_wp2_with fail
      refine (KA.out _ (by have := hb1.size; omega) (HTB.out.on hB hb1)).mono ?_
      rintro e w2 ⟨rfl, hb2⟩
      go_wp2_with fail
      go_ret2
      exact ⟨by rw [hyes.out, verS_yes hyes.out, HT.out]; rfl, Below.on hb1 hb1.size hb2⟩
    · have hno : Hid (verB s = false) := by unfold Hid; rw [HV.out]; simp [hqs]
      have hne := bytes_ne hqs
      clear hqs
      go_enter Tryd.func23, Tryd.ntmps23
      go_wp2_with fail
      refine (KC.out _).mono ?_
      rintro e w1 ⟨⟨x, y, rfl⟩, hb1⟩
      go_wp2_with fail
      refine (KA.out _ (by have := hb1.size; omega) (HTB.out.on hB hb1)).mono ?_
      rintro e w2 ⟨rfl, hb2⟩
      go_wp2_with fail
      go_ret2
      exact ⟨by rw [hno.out, verS_no hno.out]; rfl, Below.on hb1 hb1.size hb2⟩
  · obtain rfl : b = false := by simpa using hbt
    have hno : Hid (verB s = false) := by unfold Hid; rw [HV.out]; rfl
    go_enter Tryd.func23, Tryd.ntmps23
    go_wp2_with fail
    refine (KC.out _).mono ?_
    rintro e w1 ⟨⟨x, y, rfl⟩, hb1⟩
    go_wp2_with fail
    refine (KA.out _ (by have := hb1.size; omega) (HTB.out.on hB hb1)).mono ?_
    rintro e w2 ⟨rfl, hb2⟩
    go_wp2_with fail
    go_ret2
    exact ⟨by rw [hno.out, verS_no hno.out]; rfl, Below.on hb1 hb1.size hb2⟩

set_option maxHeartbeats 1000000 in
theorem walk_ExactVerifyChecksum (w : World) (s : ByteArray) (hs : s.size ≤ maxLen) (ht : Tb w.heap.size w) : Calls Tryd.prog 6 #[.string s] w fun e w' => e = .returned (.bool true) ∧ Below w.heap.size w w' := by
  have HT := hid ht
  clear ht
  obtain ⟨S, hS⟩ : ∃ S, verS s = S := ⟨_, rfl⟩
  obtain ⟨b, hb⟩ : ∃ b, verB s = b := ⟨_, rfl⟩
  have HS := hid hS
  have HBB := hid hb
  clear hS hb
  by_cases h : s.size ≤ 1048576
  · go_enter Tryd.func6, Tryd.ntmps6
    go_wp2_with fail
    refine (verify_spec s _ h).mono ?_
    rw [HS.out, HBB.out]
    rintro e w1 ⟨rfl, hb1⟩
    go_wp2_with fail
    refine (verify_impl s w.heap.size _ hb1.size (HT.out.via hb1) h).mono ?_
    rw [HS.out, HBB.out]
    rintro e w2 ⟨rfl, hb2⟩
    go_wp2_with fail
    go_ret
    exact ⟨rfl, Below.on hb1 hb1.size hb2⟩
  · unfold maxLen at hs
    go_enter Tryd.func6, Tryd.ntmps6
    go_wp2_with fail
    go_ret
    exact ⟨rfl, Below.refl _ _⟩
end Go.Proofs.YteklomkncfjdlaaDoor
