/-
  The text of a sheet, read: what the reference and the program find in it. No program is spoken of. No condition.
-/
import Derived.Test.YteklomkncfjdlaaDoorCutN
namespace Go.Proofs.YteklomkncfjdlaaDoor
open Go.RowKit
set_option linter.unusedVariables false

theorem spl_at (c : UInt8) : ∀ (a b : List UInt8), c ∉ a → spl c (a ++ c :: b) = a :: spl c b
  | [], b, _ => by rw [List.nil_append, spl, if_pos rfl]
  | x :: a, b, h => by
    have hx : ¬ x = c := fun e => h (by simp [e])
    have ha : c ∉ a := fun e => h (by simp [e])
    rw [List.cons_append, spl, if_neg hx, spl_at c a b ha]
    rfl
theorem dec_no (u : Nat) {c : UInt8} (hc : isDg c = false) : c ∉ Lib.decDigits u := by
  intro h
  rw [(dec_dg u).1 c h] at hc
  cases hc
theorem itoa_nat {n : Int} (h : 0 ≤ n) : Lib.itoa n = Lib.decDigits n.toNat := by
  obtain ⟨u, rfl⟩ : ∃ u : Nat, n = (u : Int) := ⟨n.toNat, by omega⟩
  rw [itoa_pos]; simp
theorem itoa_no {n : Int} (h : 0 ≤ n) {c : UInt8} (hc : isDg c = false) : c ∉ Lib.itoa n := by rw [itoa_nat h]; exact dec_no _ hc
theorem itoa_len1 {n : Int} (h : 0 ≤ n) : 1 ≤ (Lib.itoa n).length := by rw [itoa_nat h]; exact dec_len1 _
/-- A numeral in the midst of a word. -/
theorem cutN_mid (n : Int) (h0 : 0 ≤ n) (h1 : n ≤ 999999) (p q : List UInt8) (f l : Nat) (hf : p.length = f) (hl : q.length = l) : cutN (txt (p ++ Lib.itoa n ++ q)) f l = n := by
  have h2 := itoa_len1 h0
  obtain ⟨r1, r2⟩ := rd_itoa (n := n) (by omega) h1
  have hz : (txt (p ++ Lib.itoa n ++ q)).size = f + (Lib.itoa n).length + l := by rw [txt_size]; simp [hf, hl]; omega
  have hd : (txt (p ++ Lib.itoa n ++ q)).data.toList = p ++ Lib.itoa n ++ q := by simp [txt]
  have hs : ((p ++ Lib.itoa n ++ q).take (f + (Lib.itoa n).length)).drop f = Lib.itoa n := by
    rw [List.take_append_of_le_length (by simp [hf]), List.take_of_length_le (by simp [hf]), ← hf, List.drop_left]
  unfold cutN
  rw [hz, if_neg (by omega), hd, show f + (Lib.itoa n).length + l - l = f + (Lib.itoa n).length by omega, hs, r1, rdN_yes r1, r2]
  simp
theorem numN_itoa {n : Int} (h0 : -999999 ≤ n) (h1 : n ≤ 999999) : numN (Lib.itoa n) = n := by
  obtain ⟨r1, r2⟩ := rd_itoa h0 h1
  unfold numN
  rw [r1, rdN_yes r1, r2]
  simp
theorem trimP (p l : List UInt8) : Lib.trimPrefix (p ++ l) p = l := by
  unfold Lib.trimPrefix Lib.hasPrefix
  rw [if_pos (by simp [List.isPrefixOf_iff_prefix]), List.drop_left]
theorem trimS (l q : List UInt8) : Lib.trimSuffix (l ++ q) q = l := by
  unfold Lib.trimSuffix Lib.hasSuffix
  rw [if_pos (by simp [List.isSuffixOf_iff_suffix])]
  simp

/-- Word i of a text. -/
def wordAt (s : ByteArray) (i : Nat) : ByteArray := (splitP s 32).getD i default
theorem spl_part (c : UInt8) : ∀ (l : List UInt8) (p : List UInt8), p ∈ spl c l → p.length ≤ l.length
  | [], p, h => by simp [spl] at h; simp [h]
  | b :: l, p, h => by
    obtain ⟨hd, tl, e⟩ := spl_cons c l
    by_cases hb : b = c
    · rw [spl, if_pos hb] at h
      rcases List.mem_cons.1 h with rfl | h
      · simp
      · have := spl_part c l p h
        simp; omega
    · rw [spl, if_neg hb, e] at h
      rcases List.mem_cons.1 h with rfl | h
      · have := spl_part c l hd (by rw [e]; simp)
        simp; omega
      · have := spl_part c l p (by rw [e]; simp at h; simp [h])
        simp; omega
theorem wordAt_le (s : ByteArray) (i : Nat) : (wordAt s i).size ≤ s.size := by
  unfold wordAt
  rw [List.getD_eq_getElem?_getD]
  cases h : (splitP s 32)[i]? with
  | none => show (default : ByteArray).size ≤ _; exact Nat.zero_le _
  | some x =>
    have hm := List.mem_of_getElem? h
    unfold splitP at hm
    obtain ⟨p, hp, rfl⟩ := List.mem_map.1 hm
    have := spl_part 32 _ p hp
    show (txt p).size ≤ _
    rw [txt_size, Lib.size_eq]
    exact this
/-- The sheet that the reference finds in a text, and the one that the program finds. -/
def outS (s : ByteArray) : SheetD := ⟨cutN (wordAt s 0) 0 1, cutN (wordAt s 1) 1 0, cutN (wordAt s 2) 1 0, cutN (wordAt s 3) 2 3, cutN (wordAt s 4) 0 0⟩
def outI (s : ByteArray) : SheetD := ⟨numN (Lib.trimSuffix (wordAt s 0).data.toList [58]), numN (Lib.trimPrefix (wordAt s 1).data.toList [114]), numN (Lib.trimPrefix (wordAt s 2).data.toList [99]), numN (Lib.trimSuffix (Lib.trimPrefix (wordAt s 3).data.toList [49, 58]) [48, 48, 48]), numN (wordAt s 4).data.toList⟩
theorem sheet_words {x : SheetD} (h : sheetB x = true) : splitP (sheetS x) 32 = [txt ([] ++ Lib.itoa x.Id ++ [58]), txt ([114] ++ Lib.itoa x.Row ++ []), txt ([99] ++ Lib.itoa x.Col ++ []), txt ([49, 58] ++ Lib.itoa x.Scale ++ [48, 48, 48]), txt ([] ++ Lib.itoa x.Year ++ [])] := by
  obtain ⟨⟨a1, a2⟩, ⟨b1, b2⟩, ⟨c1, c2⟩, ⟨d1, d2⟩, ⟨e1, e2⟩⟩ := sheetB_bd h
  have n0 : (32 : UInt8) ∉ Lib.itoa x.Id := itoa_no (by omega) (by decide)
  have n1 : (32 : UInt8) ∉ Lib.itoa x.Row := itoa_no (by omega) (by decide)
  have n2 : (32 : UInt8) ∉ Lib.itoa x.Col := itoa_no (by omega) (by decide)
  have n3 : (32 : UInt8) ∉ Lib.itoa x.Scale := itoa_no (by omega) (by decide)
  have n4 : (32 : UInt8) ∉ Lib.itoa x.Year := itoa_no (by omega) (by decide)
  have hd : (sheetS x).data.toList = ([] ++ Lib.itoa x.Id ++ [58]) ++ 32 :: (([114] ++ Lib.itoa x.Row ++ []) ++ 32 :: (([99] ++ Lib.itoa x.Col ++ []) ++ 32 :: (([49, 58] ++ Lib.itoa x.Scale ++ [48, 48, 48]) ++ 32 :: ([] ++ Lib.itoa x.Year ++ [])))) := by
    rw [sheetS_txt]
    simp [txt, sheetT]
  unfold splitP
  rw [hd, spl_at 32 _ _ (by simp [n0]), spl_at 32 _ _ (by simp [n1]), spl_at 32 _ _ (by simp [n2]), spl_at 32 _ _ (by simp [n3]), spl_none 32 _ (by simpa using n4)]
  rfl
theorem outS_text {x : SheetD} (h : sheetB x = true) : outS (sheetS x) = x := by
  obtain ⟨⟨a1, a2⟩, ⟨b1, b2⟩, ⟨c1, c2⟩, ⟨d1, d2⟩, ⟨e1, e2⟩⟩ := sheetB_bd h
  unfold outS wordAt
  rw [sheet_words h]
  simp only [List.getD_cons_zero, List.getD_cons_succ]
  rw [cutN_mid _ (by omega) (by omega) [] [58] 0 1 rfl rfl, cutN_mid _ (by omega) (by omega) [114] [] 1 0 rfl rfl, cutN_mid _ (by omega) (by omega) [99] [] 1 0 rfl rfl, cutN_mid _ (by omega) (by omega) [49, 58] [48, 48, 48] 2 3 rfl rfl, cutN_mid _ (by omega) (by omega) [] [] 0 0 rfl rfl]
theorem txt_data (l : List UInt8) : (txt l).data.toList = l := by simp [txt]
theorem outI_text {x : SheetD} (h : sheetB x = true) : outI (sheetS x) = x := by
  obtain ⟨⟨a1, a2⟩, ⟨b1, b2⟩, ⟨c1, c2⟩, ⟨d1, d2⟩, ⟨e1, e2⟩⟩ := sheetB_bd h
  unfold outI wordAt
  rw [sheet_words h]
  simp only [List.getD_cons_zero, List.getD_cons_succ, txt_data]
  rw [trimS, List.append_nil, trimP, List.append_nil, trimP, List.append_assoc, trimP, trimS, List.append_nil, List.nil_append, List.nil_append, numN_itoa (by omega) (by omega), numN_itoa (by omega) (by omega), numN_itoa (by omega) (by omega), numN_itoa (by omega) (by omega), numN_itoa (by omega) (by omega)]
/-- A text is a sheet's. -/
def psB (s : ByteArray) : Bool := decide ((splitP s 32).length = 5) && sheetB (outS s) && decide (sheetS (outS s) = s)
def psV (s : ByteArray) : SheetD := if psB s = true then outS s else ⟨0, 0, 0, 0, 0⟩
theorem psV_yes {s : ByteArray} (h : psB s = true) : psV s = outS s := by unfold psV; rw [if_pos h]
theorem psV_no {s : ByteArray} (h : psB s = false) : psV s = ⟨0, 0, 0, 0, 0⟩ := by unfold psV; rw [if_neg (by rw [h]; simp)]
theorem ps_of {x : SheetD} {s : ByteArray} (h : sheetB x = true) (e : sheetS x = s) : psB s = true ∧ outS s = x ∧ outI s = x := by
  subst e
  have h1 := outS_text h
  refine ⟨?_, h1, outI_text h⟩
  unfold psB
  rw [h1, h, sheet_words h]
  simp
/-- What the program's way finds. -/
theorem psI_yes {s : ByteArray} (h : psB s = true) : outI s = outS s ∧ sheetB (outS s) = true ∧ sheetS (outS s) = s ∧ (splitP s 32).length = 5 := by
  simp [psB] at h
  have := ps_of h.1.2 h.2
  exact ⟨by rw [this.2.2], h.1.2, h.2, h.1.1⟩
theorem psI_no {s : ByteArray} (h : psB s = false) (hI : sheetB (outI s) = true) : sheetS (outI s) ≠ s := by
  intro e
  have := (ps_of hI e).1
  rw [h] at this
  cases this
end Go.Proofs.YteklomkncfjdlaaDoor
