/-
  The text of a reader, read: what the reference and the program find in it. No program is spoken of. No condition.
-/
import Derived.Test.YteklomkncfjdlaaDoorParseP
import Derived.Test.YteklomkncfjdlaaDoorReaderText
namespace Go.Proofs.YteklomkncfjdlaaDoor
open Go.RowKit
set_option linter.unusedVariables false

theorem itoa_lenk {n : Int} (k : Nat) (h0 : 0 ≤ n) (h : n < 10 ^ (k + 1)) : (Lib.itoa n).length ≤ k + 1 := by
  rw [itoa_nat h0]
  refine dec_len_pow k _ ?_
  have : ((10 ^ (k + 1) : Nat) : Int) = (10 : Int) ^ (k + 1) := by simp
  omega
theorem word_no {s : ByteArray} (h : wordB s = true) {c : UInt8} (hc : c.toNat < 97) : c ∉ s.data.toList := by
  intro hm
  obtain ⟨k, hk⟩ := List.getElem?_of_mem hm
  have hlt : k < s.size := by have := (List.getElem?_eq_some_iff.1 hk).1; rw [Lib.size_eq]; exact this
  rw [byte_at s k hlt] at hk
  have he : s[k]'hlt = c := Option.some.inj hk
  have hl : lowB s k = true := by
    simp [wordB] at h
    exact allI_true.1 h.2 k hlt
  rw [lowB_at hlt, he] at hl
  simp at hl
  omega

/-- The readers that the reference and the program find in a text. -/
def outRS (s : ByteArray) : ReaderD := ⟨rdN (wordAt s 0).data.toList, wordAt s 1, rdN (wordAt s 4).data.toList, rdN ((wordAt s 2).data.toList.drop 1), if (splitP s 32).length = 7 then rdN (wordAt s 6).data.toList else 0⟩
def outRI (s : ByteArray) : ReaderD := ⟨numN (wordAt s 0).data.toList, wordAt s 1, numN (wordAt s 4).data.toList, numN (Lib.trimPrefix (wordAt s 2).data.toList [99]), if (splitP s 32).length = 7 then numN (wordAt s 6).data.toList else 0⟩
def sinceL : List UInt8 := [115, 105, 110, 99, 101]
def owesL : List UInt8 := [111, 119, 101, 115]
theorem reader_words {x : ReaderD} (h : readerB x = true) : splitP (rtS x) 32 = [txt (Lib.itoa x.Id), x.Name, txt ([99] ++ Lib.itoa x.Class), txt sinceL, txt (Lib.itoa x.Joined)] ++ (if 0 < x.Fines then [txt owesL, txt (Lib.itoa x.Fines)] else []) := by
  obtain ⟨a1, a2⟩ := readerB_id h
  obtain ⟨b1, b2⟩ := readerB_joined h
  obtain ⟨c1, c2⟩ := readerB_class h
  obtain ⟨d1, d2⟩ := readerB_fines h
  have n0 : (32 : UInt8) ∉ Lib.itoa x.Id := itoa_no (by omega) (by decide)
  have n1 : (32 : UInt8) ∉ x.Name.data.toList := word_no (readerB_word h) (by decide)
  have n2 : (32 : UInt8) ∉ Lib.itoa x.Class := itoa_no (by omega) (by decide)
  have n3 : (32 : UInt8) ∉ Lib.itoa x.Joined := itoa_no (by omega) (by decide)
  have n4 : (32 : UInt8) ∉ Lib.itoa x.Fines := itoa_no (by omega) (by decide)
  by_cases h0 : 0 < x.Fines
  · have hd : (rtS x).data.toList = Lib.itoa x.Id ++ 32 :: (x.Name.data.toList ++ 32 :: (([99] ++ Lib.itoa x.Class) ++ 32 :: (sinceL ++ 32 :: (Lib.itoa x.Joined ++ 32 :: (owesL ++ 32 :: Lib.itoa x.Fines))))) := by
      unfold rtS rtL
      rw [if_pos h0, txt_data]
      simp [sinceL, owesL]
    unfold splitP
    rw [hd, spl_at 32 _ _ n0, spl_at 32 _ _ n1, spl_at 32 _ _ (by simp [n2]), spl_at 32 _ _ (by decide), spl_at 32 _ _ n3, spl_at 32 _ _ (by decide), spl_none 32 _ n4, if_pos h0]
    simp only [List.map_cons, List.map_nil, txt_list, List.cons_append, List.nil_append]
  · have hd : (rtS x).data.toList = Lib.itoa x.Id ++ 32 :: (x.Name.data.toList ++ 32 :: (([99] ++ Lib.itoa x.Class) ++ 32 :: (sinceL ++ 32 :: Lib.itoa x.Joined))) := by
      unfold rtS rtL
      rw [if_neg h0, txt_data]
      simp [sinceL]
    unfold splitP
    rw [hd, spl_at 32 _ _ n0, spl_at 32 _ _ n1, spl_at 32 _ _ (by simp [n2]), spl_at 32 _ _ (by decide), spl_none 32 _ n3, if_neg h0]
    simp only [List.map_cons, List.map_nil, txt_list, List.append_nil]
theorem reader_len {x : ReaderD} (h : readerB x = true) : (rtS x).size ≤ 60 := by
  obtain ⟨a1, a2⟩ := readerB_id h
  obtain ⟨b1, b2⟩ := readerB_joined h
  obtain ⟨c1, c2⟩ := readerB_class h
  obtain ⟨d1, d2⟩ := readerB_fines h
  have hn := readerB_name h
  have e0 := itoa_lenk (n := x.Id) 2 (by omega) (by omega)
  have e1 := itoa_lenk (n := x.Joined) 3 (by omega) (by omega)
  have e2 := itoa_lenk (n := x.Class) 0 (by omega) (by omega)
  have e3 := itoa_lenk (n := x.Fines) 4 (by omega) (by omega)
  have e4 : x.Name.data.toList.length ≤ 10 := by rw [← Lib.size_eq]; exact hn
  unfold rtS
  rw [txt_size]
  unfold rtL
  split
  · simp only [List.length_append, List.length_cons, List.length_nil]; omega
  · simp only [List.length_append, List.length_cons, List.length_nil]; omega
theorem rdN_itoa {n : Int} (h0 : -999999 ≤ n) (h1 : n ≤ 999999) : rdN (Lib.itoa n) = n := by
  obtain ⟨r1, r2⟩ := rd_itoa h0 h1
  rw [rdN_yes r1, r2]
theorem class_len {x : ReaderD} (h : readerB x = true) : (txt ([99] ++ Lib.itoa x.Class)).size = 2 := by
  obtain ⟨c1, c2⟩ := readerB_class h
  have e2 := itoa_lenk (n := x.Class) 0 (by omega) (by omega)
  have e3 := itoa_len1 (n := x.Class) (by omega)
  rw [txt_size]
  simp
  omega
theorem outR_text {x : ReaderD} (h : readerB x = true) : outRS (rtS x) = x ∧ outRI (rtS x) = x ∧ ((splitP (rtS x) 32).length = 5 ∨ (splitP (rtS x) 32).length = 7) ∧ (wordAt (rtS x) 2).size = 2 := by
  obtain ⟨a1, a2⟩ := readerB_id h
  obtain ⟨b1, b2⟩ := readerB_joined h
  obtain ⟨c1, c2⟩ := readerB_class h
  obtain ⟨d1, d2⟩ := readerB_fines h
  have hw := reader_words h
  have hcl := class_len h
  obtain ⟨xi, xn, xj, xc, xf⟩ := x
  simp only at a1 a2 b1 b2 c1 c2 d1 d2 hw hcl
  by_cases h0 : 0 < xf
  · rw [if_pos h0] at hw
    unfold outRS outRI wordAt
    rw [hw]
    refine ⟨?_, ?_, .inr rfl, hcl⟩
    · simp only [List.cons_append, List.nil_append, List.getD_cons_zero, List.getD_cons_succ, txt_data, List.length_cons, List.length_nil, List.drop_succ_cons, List.drop_zero]
      rw [if_pos trivial, rdN_itoa (by omega) (by omega), rdN_itoa (by omega) (by omega), rdN_itoa (by omega) (by omega), rdN_itoa (by omega) (by omega)]
    · simp only [List.cons_append, List.nil_append, List.getD_cons_zero, List.getD_cons_succ, txt_data, List.length_cons, List.length_nil]
      have ht : Lib.trimPrefix (99 :: Lib.itoa xc) [99] = Lib.itoa xc := trimP [99] _
      rw [if_pos trivial, ht, numN_itoa (by omega) (by omega), numN_itoa (by omega) (by omega), numN_itoa (by omega) (by omega), numN_itoa (by omega) (by omega)]
  · rw [if_neg h0] at hw
    have hf : xf = 0 := by omega
    subst hf
    unfold outRS outRI wordAt
    rw [hw]
    refine ⟨?_, ?_, .inl rfl, hcl⟩
    · simp only [List.cons_append, List.nil_append, List.append_nil, List.getD_cons_zero, List.getD_cons_succ, txt_data, List.length_cons, List.length_nil, List.drop_succ_cons, List.drop_zero]
      rw [if_neg (by omega), rdN_itoa (by omega) (by omega), rdN_itoa (by omega) (by omega), rdN_itoa (by omega) (by omega)]
    · simp only [List.cons_append, List.nil_append, List.append_nil, List.getD_cons_zero, List.getD_cons_succ, txt_data, List.length_cons, List.length_nil]
      have ht : Lib.trimPrefix (99 :: Lib.itoa xc) [99] = Lib.itoa xc := trimP [99] _
      rw [if_neg (by omega), ht, numN_itoa (by omega) (by omega), numN_itoa (by omega) (by omega), numN_itoa (by omega) (by omega)]
/-- A text is a reader's. -/
def prB (s : ByteArray) : Bool := decide (s.size ≤ 60) && (decide ((splitP s 32).length = 5) || decide ((splitP s 32).length = 7)) && decide ((wordAt s 2).size = 2) && readerB (outRS s) && decide (rtS (outRS s) = s)
def prV (s : ByteArray) : ReaderD := if prB s = true then outRS s else ⟨0, ByteArray.empty, 0, 0, 0⟩
theorem prV_yes {s : ByteArray} (h : prB s = true) : prV s = outRS s := by unfold prV; rw [if_pos h]
theorem prV_no {s : ByteArray} (h : prB s = false) : prV s = ⟨0, ByteArray.empty, 0, 0, 0⟩ := by unfold prV; rw [if_neg (by rw [h]; simp)]
theorem pr_of {x : ReaderD} {s : ByteArray} (h : readerB x = true) (e : rtS x = s) : prB s = true ∧ outRS s = x ∧ outRI s = x := by
  subst e
  obtain ⟨h1, h2, h3, h4⟩ := outR_text h
  refine ⟨?_, h1, h2⟩
  have h5 := reader_len h
  unfold prB
  rw [h1, h, h4]
  rcases h3 with h3 | h3 <;> rw [h3] <;> simp [h5]
theorem prI_yes {s : ByteArray} (h : prB s = true) : outRI s = outRS s ∧ readerB (outRS s) = true ∧ rtS (outRS s) = s := by
  simp [prB] at h
  have := pr_of h.1.2 h.2
  exact ⟨by rw [this.2.2], h.1.2, h.2⟩
theorem prB_five {s : ByteArray} (h : prB s = true) : (splitP s 32).length = 5 ∨ (splitP s 32).length = 7 := by
  simp [prB] at h
  exact h.1.1.1.2
end Go.Proofs.YteklomkncfjdlaaDoor
