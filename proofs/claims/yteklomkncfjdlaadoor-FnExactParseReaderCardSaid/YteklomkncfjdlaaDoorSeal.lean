/-
  AppendChecksum and VerifyChecksum, by the program and by the reference. No condition.
-/
import Derived.Test.YteklomkncfjdlaaDoorStands
import Derived.Test.YteklomkncfjdlaaDoorSum
import Derived.Test.YteklomkncfjdlaaDoorSheetText
import Derived.Test.YteklomkncfjdlaaDoorShelf3
namespace Go.Proofs.YteklomkncfjdlaaDoor
open Go.RowKit
set_option linter.unusedVariables false
set_option maxRecDepth 100000

theorem contains_one (s : ByteArray) (c : UInt8) (w : World) : Calls Tryd.prog 52 #[.string s, .string ⟨#[c]⟩] w fun e w' => e = .returned (.bool (stB s c)) ∧ w = w' :=
  (Tryd.strings_Contains_one s c w).mono fun e w' h => ⟨by rw [h.1, stB_index], h.2.symm⟩

/-- A text and its checksum. -/
def sealS (s : ByteArray) : ByteArray := (s ++ ({ data := #[35] } : ByteArray)) ++ txt (Lib.itoa (sumTo s s.size))
theorem sealS_le (s : ByteArray) : s.size + 1 ≤ (sealS s).size := by
  unfold sealS; rw [ByteArray.size_append, ByteArray.size_append]; have : ({ data := #[35] } : ByteArray).size = 1 := rfl; rw [this]; omega
theorem sealS_ub (s : ByteArray) : (sealS s).size ≤ s.size + 31 := by
  have hb := sumTo_bd s s.size
  have := itoa_len (n := sumTo s s.size) (by omega) (by omega)
  unfold sealS; rw [ByteArray.size_append, ByteArray.size_append, txt_size]; have : ({ data := #[35] } : ByteArray).size = 1 := rfl; rw [this]; omega

set_option maxHeartbeats 1000000 in
theorem seal_spec (s : ByteArray) (w : World) (hs : s.size ≤ 1048576) : Calls Tryd.prog 50 #[.string s] w fun e w' => e = .returned (.string (sealS s)) ∧ Below w.heap.size w w' := by
  obtain ⟨b0, b1⟩ := sumTo_bd s s.size
  obtain ⟨m, hm⟩ : ∃ m, m = sumTo s s.size := ⟨_, rfl⟩
  have KS : Hid (∀ w, Calls Tryd.prog 70 #[.string s] w fun e w' => e = .returned (.int .i64 m) ∧ w = w') := fun w => by rw [hm]; exact sum_spec s w hs
  rw [← hm] at b0 b1
  obtain ⟨t, ht, htz⟩ : ∃ t, txt (Lib.itoa m) = t ∧ (t.size : Int) ≤ 30 := ⟨_, rfl, by rw [txt_size]; have := itoa_len (n := m) (by omega) (by omega); omega⟩
  have HT := hid ht
  obtain ⟨p, hp, hpz⟩ : ∃ p, s ++ ({ data := #[35] } : ByteArray) = p ∧ (p.size : Int) ≤ 1048577 := ⟨_, rfl, by rw [ByteArray.size_append]; have hc : ({ data := #[35] } : ByteArray).size = 1 := rfl; rw [hc]; omega⟩
  have HR : Hid (sealS s = p ++ t) := by unfold Hid sealS; rw [← hm, ht, hp]
  have w1 : (s.size : Int) ≤ 8388608 := by omega
  have w2 : (({ data := #[35] } : ByteArray).size : Int) ≤ 8388608 := by show ((1 : Nat) : Int) ≤ _; omega
  have w3 : (p.size : Int) ≤ 8388608 := by omega
  have w4 : (t.size : Int) ≤ 8388608 := by omega
  clear hm ht
  go_enter Tryd.func50, Tryd.ntmps50
  go_wp2_with fail
  refine (KS.out _).mono ?_
  rintro e w1 ⟨rfl, rfl⟩
  go_wp2_with fail
  refine (num_specT (by omega) (by omega) HT.out _).mono ?_
  rintro e w2 ⟨rfl, hb⟩
  go_wp2_with fail
  go_ret
  exact ⟨by rw [HR.out]; rfl, hb⟩

def appB (s : ByteArray) : Bool := decide (s.size ≤ 4000) && !stB s 35 && decide ((sealS s).size ≤ 4000)
def appS (s : ByteArray) : ByteArray := if appB s = true then sealS s else ByteArray.empty
theorem appS_no {s : ByteArray} (h : appB s = false) : appS s = ByteArray.empty := by unfold appS; rw [if_neg (by rw [h]; simp)]
theorem appS_yes {s : ByteArray} (h : appB s = true) : appS s = sealS s := by unfold appS; rw [if_pos h]
theorem appB_sep {s : ByteArray} (h : stB s 35 = true) : appB s = false := by unfold appB; rw [h]; simp
theorem appB_seal {s : ByteArray} (h : 4000 < (sealS s).size) : appB s = false := by
  have hd : decide ((sealS s).size ≤ 4000) = false := by simp; omega
  unfold appB; rw [hd]; simp
theorem appB_ok {s : ByteArray} (h : stB s 35 = false) (h4 : (sealS s).size ≤ 4000) : appB s = true := by
  have := sealS_le s
  have hd : decide ((sealS s).size ≤ 4000) = true := by simp; omega
  have hd2 : decide (s.size ≤ 4000) = true := by simp; omega
  unfold appB; rw [hd, hd2, h]; rfl

theorem stands_hash (s : ByteArray) (w : World) (hs : s.size ≤ 16777216) : Calls Tryd.prog 49 #[.string s, .int .u8 35] w fun e w' => e = .returned (.bool (stB s 35)) ∧ w = w' := stands_spec s 35 w hs

set_option maxHeartbeats 1000000 in
theorem append_spec (s : ByteArray) (w : World) (hs : s.size ≤ 1048576) : Calls Tryd.prog 20 #[.string s] w fun e w' => e = .returned (.tuple #[.string (appS s), .bool (appB s)]) ∧ Below w.heap.size w w' := by
  have hle := sealS_le s
  have hub := sealS_ub s
  obtain ⟨t, ht⟩ : ∃ t, sealS s = t := ⟨_, rfl⟩
  have HT := hid ht
  rw [ht] at hle hub
  have KS : Hid (∀ w, Calls Tryd.prog 50 #[.string s] w fun e w' => e = .returned (.string t) ∧ Below w.heap.size w w') := fun w => by rw [← ht]; exact seal_spec s w hs
  have KT := hid (stands_hash s w (by omega))
  clear ht
  by_cases h1 : s.size ≤ 4000
  · by_cases h2 : stB s 35 = true
    · have hno : Hid (appB s = false) := appB_sep h2
      rw [h2] at KT
      clear h2
      go_enter Tryd.func20, Tryd.ntmps20
      go_wp2_with fail
      refine KT.out.mono ?_
      rintro e w1 ⟨rfl, rfl⟩
      go_wp2_with fail
      go_ret2
      exact ⟨by rw [hno.out, appS_no hno.out]; rfl, Below.refl _ _⟩
    · have h2' : stB s 35 = false := by simpa using h2
      have H2 := hid h2'
      rw [h2'] at KT
      clear h2 h2'
      by_cases h3 : t.size ≤ 4000
      · have hyes : Hid (appB s = true) := appB_ok H2.out (by rw [HT.out]; exact h3)
        go_enter Tryd.func20, Tryd.ntmps20
        go_wp2_with fail
        refine KT.out.mono ?_
        rintro e w1 ⟨rfl, rfl⟩
        go_wp2_with fail
        refine (KS.out _).mono ?_
        rintro e w2 ⟨rfl, hb2⟩
        go_wp2_with fail
        refine (KS.out _).mono ?_
        rintro e w3 ⟨rfl, hb3⟩
        go_wp2_with fail
        go_ret2
        exact ⟨by rw [hyes.out, appS_yes hyes.out, HT.out]; rfl, Below.on hb2 hb2.size hb3⟩
      · have hno : Hid (appB s = false) := appB_seal (by rw [HT.out]; omega)
        go_enter Tryd.func20, Tryd.ntmps20
        go_wp2_with fail
        refine KT.out.mono ?_
        rintro e w1 ⟨rfl, rfl⟩
        go_wp2_with fail
        refine (KS.out _).mono ?_
        rintro e w2 ⟨rfl, hb2⟩
        go_wp2_with fail
        go_ret2
        exact ⟨by rw [hno.out, appS_no hno.out]; rfl, hb2⟩
  · have hno : Hid (appB s = false) := appB_seal (by rw [HT.out]; omega)
    go_enter Tryd.func20, Tryd.ntmps20
    go_wp2_with fail
    go_ret2
    exact ⟨by rw [hno.out, appS_no hno.out]; rfl, Below.refl _ _⟩

set_option maxHeartbeats 1000000 in
theorem append_impl (s : ByteArray) (B : Nat) (w : World) (hB : B ≤ w.heap.size) (ht : Tb B w) (hs : s.size ≤ 1048576) : Calls Tryd.prog 21 #[.string s] w fun e w' => e = .returned (.tuple #[.string (appS s), .bool (appB s)]) ∧ Below w.heap.size w w' := by
  have HTB := hid ht
  clear ht
  have hle := sealS_le s
  have hub := sealS_ub s
  obtain ⟨b0, b1⟩ := sumTo_bd s s.size
  obtain ⟨m, hm⟩ : ∃ m, m = sumTo s s.size := ⟨_, rfl⟩
  have KS : Hid (Calls Tryd.prog 51 #[.string s] w fun e w' => e = .returned (.int .i64 m) ∧ Below w.heap.size w w') := by rw [hm]; exact sum_impl s w hs
  rw [← hm] at b0 b1
  obtain ⟨t, ht, htz⟩ : ∃ t, txt (Lib.itoa m) = t ∧ (t.size : Int) ≤ 30 := ⟨_, rfl, by rw [txt_size]; have := itoa_len (n := m) (by omega) (by omega); omega⟩
  have HT := hid ht
  obtain ⟨p, hp, hpz⟩ : ∃ p, s ++ ({ data := #[35] } : ByteArray) = p ∧ (p.size : Int) ≤ 1048577 := ⟨_, rfl, by rw [ByteArray.size_append]; have hc : ({ data := #[35] } : ByteArray).size = 1 := rfl; rw [hc]; omega⟩
  obtain ⟨q, hq⟩ : ∃ q, p ++ t = q := ⟨_, rfl⟩
  have HR : Hid (sealS s = q) := by unfold Hid sealS; rw [← hm, ht, hp, hq]
  rw [HR.out] at hle hub
  have w1 : (s.size : Int) ≤ 8388608 := by omega
  have w2 : (({ data := #[35] } : ByteArray).size : Int) ≤ 8388608 := by show ((1 : Nat) : Int) ≤ _; omega
  have w3 : (p.size : Int) ≤ 8388608 := by omega
  have w4 : (t.size : Int) ≤ 8388608 := by omega
  have KT : Hid (∀ w, Calls Tryd.prog 52 #[.string s, .string { data := #[35] }] w fun e w' => e = .returned (.bool (stB s 35)) ∧ w = w') := fun w => contains_one s 35 w
  clear hm ht
  by_cases h2 : stB s 35 = true
  · have hno : Hid (appB s = false) := appB_sep h2
    rw [h2] at KT
    clear h2
    go_enter Tryd.func21, Tryd.ntmps21
    go_wp2_with fail
    refine KS.out.mono ?_
    rintro e w1 ⟨rfl, hb1⟩
    go_wp2_with fail
    refine (text_implT (by omega) (by omega) HT.out B _ (HTB.out.on hB hb1)).mono ?_
    rintro e w2 ⟨rfl, hb2⟩
    go_wp2_with fail
    refine (KT.out _).mono ?_
    rintro e w3 ⟨rfl, rfl⟩
    go_wp2_with fail
    go_ret2
    exact ⟨by rw [hno.out, appS_no hno.out]; rfl, Below.on hb1 hb1.size hb2⟩
  · have h2' : stB s 35 = false := by simpa using h2
    have H2 := hid h2'
    rw [h2'] at KT
    clear h2 h2'
    by_cases h3 : q.size ≤ 4000
    · have hyes : Hid (appB s = true) := appB_ok H2.out (by rw [HR.out]; exact h3)
      go_enter Tryd.func21, Tryd.ntmps21
      go_wp2_with fail
      refine KS.out.mono ?_
      rintro e w1 ⟨rfl, hb1⟩
      go_wp2_with fail
      refine (text_implT (by omega) (by omega) HT.out B _ (HTB.out.on hB hb1)).mono ?_
      rintro e w2 ⟨rfl, hb2⟩
      go_wp2_with fail
      refine (KT.out _).mono ?_
      rintro e w3 ⟨rfl, rfl⟩
      go_wp2_with fail
      go_ret2
      exact ⟨by rw [hyes.out, appS_yes hyes.out, HR.out]; rfl, Below.on hb1 hb1.size hb2⟩
    · have hno : Hid (appB s = false) := appB_seal (by rw [HR.out]; omega)
      go_enter Tryd.func21, Tryd.ntmps21
      go_wp2_with fail
      refine KS.out.mono ?_
      rintro e w1 ⟨rfl, hb1⟩
      go_wp2_with fail
      refine (text_implT (by omega) (by omega) HT.out B _ (HTB.out.on hB hb1)).mono ?_
      rintro e w2 ⟨rfl, hb2⟩
      go_wp2_with fail
      refine (KT.out _).mono ?_
      rintro e w3 ⟨rfl, rfl⟩
      go_wp2_with fail
      go_ret2
      exact ⟨by rw [hno.out, appS_no hno.out]; rfl, Below.on hb1 hb1.size hb2⟩

set_option maxHeartbeats 1000000 in
theorem walk_ExactAppendChecksum (w : World) (s : ByteArray) (hs : s.size ≤ maxLen) (ht : Tb w.heap.size w) : Calls Tryd.prog 5 #[.string s] w fun e w' => e = .returned (.bool true) ∧ Below w.heap.size w w' := by
  have HT := hid ht
  clear ht
  obtain ⟨S, hS⟩ : ∃ S, appS s = S := ⟨_, rfl⟩
  obtain ⟨b, hb⟩ : ∃ b, appB s = b := ⟨_, rfl⟩
  have HS := hid hS
  have HBB := hid hb
  clear hS hb
  by_cases h : s.size ≤ 1048576
  · go_enter Tryd.func5, Tryd.ntmps5
    go_wp2_with fail
    refine (append_spec s _ h).mono ?_
    rw [HS.out, HBB.out]
    rintro e w1 ⟨rfl, hb1⟩
    go_wp2_with fail
    refine (append_impl s w.heap.size _ hb1.size (HT.out.via hb1) h).mono ?_
    rw [HS.out, HBB.out]
    rintro e w2 ⟨rfl, hb2⟩
    go_wp2_with fail
    go_ret
    exact ⟨rfl, Below.on hb1 hb1.size hb2⟩
  · unfold maxLen at hs
    go_enter Tryd.func5, Tryd.ntmps5
    go_wp2_with fail
    go_ret
    exact ⟨rfl, Below.refl _ _⟩
end Go.Proofs.YteklomkncfjdlaaDoor
