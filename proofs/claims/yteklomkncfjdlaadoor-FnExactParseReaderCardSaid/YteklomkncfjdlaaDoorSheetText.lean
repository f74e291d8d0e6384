/-
  A sheet's text, by the program and by the reference. No condition.
-/
import Derived.Test.YteklomkncfjdlaaDoorText
namespace Go.Proofs.YteklomkncfjdlaaDoor
open Go.RowKit
set_option linter.unusedVariables false
set_option maxRecDepth 100000

theorem num_specT {n : Int} {t : ByteArray} (h0 : -9223372036854775807 ≤ n) (h1 : n ≤ 9223372036854775807) (h : txt (Lib.itoa n) = t) (w : World) : Calls Tryd.prog 43 #[.int .i64 n] w fun e w' => e = .returned (.string t) ∧ Below w.heap.size w w' := by rw [← h]; exact num_spec n h0 h1 w
theorem text_implT {n : Int} {t : ByteArray} (h0 : -9223372036854775808 ≤ n) (h1 : n ≤ 9223372036854775807) (h : txt (Lib.itoa n) = t) (B : Nat) (w : World) (ht : Tb B w) : Calls Tryd.prog 45 #[.int .i64 n] w fun e w' => e = .returned (.string t) ∧ Below w.heap.size w w' := by rw [← h]; exact text_impl n h0 h1 B w ht
theorem Tb.later {B : Nat} {w : World} (h : Tb B w) (hB : B ≤ w.heap.size) (x : Later w) : Tb B x.wd := h.on hB x.below

/-- A sheet's text. -/
def sheetS (s : SheetD) : ByteArray := ((((((((txt (Lib.itoa s.Id) ++ ({ data := #[58, 32, 114] } : ByteArray)) ++ txt (Lib.itoa s.Row)) ++ ({ data := #[32, 99] } : ByteArray)) ++ txt (Lib.itoa s.Col)) ++ ({ data := #[32, 49, 58] } : ByteArray)) ++ txt (Lib.itoa s.Scale)) ++ ({ data := #[48, 48, 48, 32] } : ByteArray)) ++ txt (Lib.itoa s.Year))
def sheetT (s : SheetD) : List UInt8 := Lib.itoa s.Id ++ [58, 32, 114] ++ Lib.itoa s.Row ++ [32, 99] ++ Lib.itoa s.Col ++ [32, 49, 58] ++ Lib.itoa s.Scale ++ [48, 48, 48, 32] ++ Lib.itoa s.Year
theorem sheetS_txt (s : SheetD) : sheetS s = txt (sheetT s) := by
  unfold sheetS sheetT
  simp only [show ({ data := #[58, 32, 114] } : ByteArray) = txt [58, 32, 114] from rfl, show ({ data := #[32, 99] } : ByteArray) = txt [32, 99] from rfl, show ({ data := #[32, 49, 58] } : ByteArray) = txt [32, 49, 58] from rfl, show ({ data := #[48, 48, 48, 32] } : ByteArray) = txt [48, 48, 48, 32] from rfl, txt_append]

theorem sheetB_bd {s : SheetD} (h : sheetB s = true) : (1 ≤ s.Id ∧ s.Id ≤ 999) ∧ (0 ≤ s.Row ∧ s.Row ≤ 99) ∧ (0 ≤ s.Col ∧ s.Col ≤ 99) ∧ (10 ≤ s.Scale ∧ s.Scale ≤ 500) ∧ (1500 ≤ s.Year ∧ s.Year ≤ 2100) := by
  simp [sheetB, inB] at h; omega

def sheetTx (s : SheetD) : ByteArray := if sheetB s = true then sheetS s else ByteArray.empty
theorem sheetTx_yes {s : SheetD} (h : sheetB s = true) : sheetTx s = sheetS s := by unfold sheetTx; rw [if_pos h]
theorem sheetTx_no {s : SheetD} (h : sheetB s = false) : sheetTx s = ByteArray.empty := by unfold sheetTx; rw [if_neg (by rw [h]; simp)]

set_option maxHeartbeats 2000000 in
theorem l2Text_spec (s : SheetD) (hs : sheetB s = true) (w : World) : Calls Tryd.prog 57 #[s.val] w fun e w' => e = .returned (.string (sheetS s)) ∧ Below w.heap.size w w' := by
  obtain ⟨⟨a1, a2⟩, ⟨b1, b2⟩, ⟨c1, c2⟩, ⟨d1, d2⟩, ⟨e1, e2⟩⟩ := sheetB_bd hs
  clear hs
  obtain ⟨t0, ht0, hz0⟩ : ∃ t, txt (Lib.itoa s.Id) = t ∧ (t.size : Int) ≤ 30 := ⟨_, rfl, by rw [txt_size]; have := itoa_len (n := s.Id) (by omega) (by omega); omega⟩
  have HT0 := hid ht0
  obtain ⟨p1, hp1, hq1⟩ : ∃ p, t0 ++ ({ data := #[58, 32, 114] } : ByteArray) = p ∧ (p.size : Int) ≤ 33 := ⟨_, rfl, by rw [ByteArray.size_append]; have hc : (({ data := #[58, 32, 114] } : ByteArray)).size = 3 := rfl; rw [hc]; omega⟩
  obtain ⟨t2, ht2, hz2⟩ : ∃ t, txt (Lib.itoa s.Row) = t ∧ (t.size : Int) ≤ 30 := ⟨_, rfl, by rw [txt_size]; have := itoa_len (n := s.Row) (by omega) (by omega); omega⟩
  have HT2 := hid ht2
  obtain ⟨p2, hp2, hq2⟩ : ∃ p, p1 ++ t2 = p ∧ (p.size : Int) ≤ 63 := ⟨_, rfl, by rw [ByteArray.size_append]; omega⟩
  obtain ⟨p3, hp3, hq3⟩ : ∃ p, p2 ++ ({ data := #[32, 99] } : ByteArray) = p ∧ (p.size : Int) ≤ 65 := ⟨_, rfl, by rw [ByteArray.size_append]; have hc : (({ data := #[32, 99] } : ByteArray)).size = 2 := rfl; rw [hc]; omega⟩
  obtain ⟨t4, ht4, hz4⟩ : ∃ t, txt (Lib.itoa s.Col) = t ∧ (t.size : Int) ≤ 30 := ⟨_, rfl, by rw [txt_size]; have := itoa_len (n := s.Col) (by omega) (by omega); omega⟩
  have HT4 := hid ht4
  obtain ⟨p4, hp4, hq4⟩ : ∃ p, p3 ++ t4 = p ∧ (p.size : Int) ≤ 95 := ⟨_, rfl, by rw [ByteArray.size_append]; omega⟩
  obtain ⟨p5, hp5, hq5⟩ : ∃ p, p4 ++ ({ data := #[32, 49, 58] } : ByteArray) = p ∧ (p.size : Int) ≤ 98 := ⟨_, rfl, by rw [ByteArray.size_append]; have hc : (({ data := #[32, 49, 58] } : ByteArray)).size = 3 := rfl; rw [hc]; omega⟩
  obtain ⟨t6, ht6, hz6⟩ : ∃ t, txt (Lib.itoa s.Scale) = t ∧ (t.size : Int) ≤ 30 := ⟨_, rfl, by rw [txt_size]; have := itoa_len (n := s.Scale) (by omega) (by omega); omega⟩
  have HT6 := hid ht6
  obtain ⟨p6, hp6, hq6⟩ : ∃ p, p5 ++ t6 = p ∧ (p.size : Int) ≤ 128 := ⟨_, rfl, by rw [ByteArray.size_append]; omega⟩
  obtain ⟨p7, hp7, hq7⟩ : ∃ p, p6 ++ ({ data := #[48, 48, 48, 32] } : ByteArray) = p ∧ (p.size : Int) ≤ 132 := ⟨_, rfl, by rw [ByteArray.size_append]; have hc : (({ data := #[48, 48, 48, 32] } : ByteArray)).size = 4 := rfl; rw [hc]; omega⟩
  obtain ⟨t8, ht8, hz8⟩ : ∃ t, txt (Lib.itoa s.Year) = t ∧ (t.size : Int) ≤ 30 := ⟨_, rfl, by rw [txt_size]; have := itoa_len (n := s.Year) (by omega) (by omega); omega⟩
  have HT8 := hid ht8
  obtain ⟨p8, hp8, hq8⟩ : ∃ p, p7 ++ t8 = p ∧ (p.size : Int) ≤ 162 := ⟨_, rfl, by rw [ByteArray.size_append]; omega⟩
  have hw0 : (t0.size : Int) ≤ 8388608 := by omega
  have hw1 : (({ data := #[58, 32, 114] } : ByteArray).size : Int) ≤ 8388608 := by have hc : ({ data := #[58, 32, 114] } : ByteArray).size = 3 := rfl; rw [hc]; omega
  have hv1 : (p1.size : Int) ≤ 8388608 := by omega
  have hw2 : (t2.size : Int) ≤ 8388608 := by omega
  have hv2 : (p2.size : Int) ≤ 8388608 := by omega
  have hw3 : (({ data := #[32, 99] } : ByteArray).size : Int) ≤ 8388608 := by have hc : ({ data := #[32, 99] } : ByteArray).size = 2 := rfl; rw [hc]; omega
  have hv3 : (p3.size : Int) ≤ 8388608 := by omega
  have hw4 : (t4.size : Int) ≤ 8388608 := by omega
  have hv4 : (p4.size : Int) ≤ 8388608 := by omega
  have hw5 : (({ data := #[32, 49, 58] } : ByteArray).size : Int) ≤ 8388608 := by have hc : ({ data := #[32, 49, 58] } : ByteArray).size = 3 := rfl; rw [hc]; omega
  have hv5 : (p5.size : Int) ≤ 8388608 := by omega
  have hw6 : (t6.size : Int) ≤ 8388608 := by omega
  have hv6 : (p6.size : Int) ≤ 8388608 := by omega
  have hw7 : (({ data := #[48, 48, 48, 32] } : ByteArray).size : Int) ≤ 8388608 := by have hc : ({ data := #[48, 48, 48, 32] } : ByteArray).size = 4 := rfl; rw [hc]; omega
  have hv7 : (p7.size : Int) ≤ 8388608 := by omega
  have hw8 : (t8.size : Int) ≤ 8388608 := by omega
  have hv8 : (p8.size : Int) ≤ 8388608 := by omega
  clear hz0 ht0 hz2 ht2 hz4 ht4 hz6 ht6 hz8 ht8 hq1 hq2 hq3 hq4 hq5 hq6 hq7 hq8
  have HR : Hid (sheetS s = p8) := by unfold Hid; rw [← hp8, ← hp7, ← hp6, ← hp5, ← hp4, ← hp3, ← hp2, ← hp1]; unfold sheetS; rw [HT0.out, HT2.out, HT4.out, HT6.out, HT8.out]
  have hq := fun x : Later (w.alloc (.cells #[.int .i64 s.Id, .int .i64 s.Row, .int .i64 s.Col, .int .i64 s.Scale, .int .i64 s.Year] 38)) => x.cell
  go_enter Tryd.func57, Tryd.ntmps57
  go_wp2_with fail
  refine region_later (by kernel_rfl) (by kernel_rfl) ?_
  go_big_quiet_step (fail)
  go_big_quiet_step (fail)
  go_big_quiet_step ((go_at_call 43; refine calls_later (num_specT (by omega) (by omega) HT0.out _)))
  go_big_quiet_step (fail)
  go_big_quiet_step (fail)
  go_big_quiet_step (fail)
  go_big_quiet_step ((go_at_call 43; refine calls_later (num_specT (by omega) (by omega) HT2.out _)))
  go_big_quiet_step (fail)
  go_big_quiet_step (fail)
  go_big_quiet_step (fail)
  go_big_quiet_step (fail)
  go_big_quiet_step ((go_at_call 43; refine calls_later (num_specT (by omega) (by omega) HT4.out _)))
  go_big_quiet_step (fail)
  go_big_quiet_step (fail)
  go_big_quiet_step (fail)
  go_big_quiet_step (fail)
  go_big_quiet_step ((go_at_call 43; refine calls_later (num_specT (by omega) (by omega) HT6.out _)))
  go_big_quiet_step (fail)
  go_big_quiet_step (fail)
  go_big_quiet_step (fail)
  go_big_quiet_step (fail)
  go_big_quiet_step ((go_at_call 43; refine calls_later (num_specT (by omega) (by omega) HT8.out _)))
  go_big_quiet_step (fail)
  go_big_quiet_step (fail)
  refine wpQuiet_nil ?_
  intro _ hw'
  obtain ⟨x, rfl⟩ := hw'
  have B : Below w.heap.size w x.wd := Below.on (by go_grown) (by simp) x.below
  clear hq
  go_wp2_with fail
  go_ret
  exact ⟨by rw [HR.out]; rfl, B⟩

set_option maxHeartbeats 2000000 in
theorem sheetText_spec (s : SheetD) (w : World) : Calls Tryd.prog 26 #[s.val] w fun e w' => e = .returned (.tuple #[.string (sheetTx s), .bool (sheetB s)]) ∧ Below w.heap.size w w' := by
  have A0 : Below w.heap.size w (w.alloc (.cells #[.int .i64 s.Id, .int .i64 s.Row, .int .i64 s.Col, .int .i64 s.Scale, .int .i64 s.Year] 38)) := by go_grown
  go_enter Tryd.func26, Tryd.ntmps26
  go_wp2_with fail
  refine (sheet_spec s _).mono ?_
  rintro e w1 ⟨rfl, hb1⟩
  have B1 := Below.on A0 A0.size hb1
  have x0 : w1.cell? ⟨w.heap.size, 0, none⟩ = some (.int .i64 s.Id) := (hb1.cell (by simp)).trans (by simp [go_sem])
  have x1 : w1.cell? ⟨w.heap.size, 1, none⟩ = some (.int .i64 s.Row) := (hb1.cell (by simp)).trans (by simp [go_sem])
  have x2 : w1.cell? ⟨w.heap.size, 2, none⟩ = some (.int .i64 s.Col) := (hb1.cell (by simp)).trans (by simp [go_sem])
  have x3 : w1.cell? ⟨w.heap.size, 3, none⟩ = some (.int .i64 s.Scale) := (hb1.cell (by simp)).trans (by simp [go_sem])
  have x4 : w1.cell? ⟨w.heap.size, 4, none⟩ = some (.int .i64 s.Year) := (hb1.cell (by simp)).trans (by simp [go_sem])
  have hz : w.heap.size < w1.heap.size := by have := hb1.size; simp at this; omega
  by_cases h : sheetB s = true
  · have HS := hid h
    go_wp2_with fail
    refine (l2Text_spec s HS.out _).mono ?_
    rintro e w2 ⟨rfl, hb2⟩
    clear h
    go_wp2_with fail
    go_ret2
    exact ⟨by rw [HS.out, sheetTx_yes HS.out]; rfl, Below.on B1 B1.size hb2⟩
  · have HS := hid (show sheetB s = false by simpa using h)
    have h' := HS.out
    clear h
    go_wp2_with fail
    go_ret2
    exact ⟨by rw [HS.out, sheetTx_no HS.out]; rfl, B1⟩

set_option maxHeartbeats 4000000 in
theorem sheetText_impl (s : SheetD) (B : Nat) (w : World) (hB : B ≤ w.heap.size) (ht : Tb B w) : Calls Tryd.prog 28 #[s.val] w fun e w' => e = .returned (.tuple #[.string (sheetTx s), .bool (sheetB s)]) ∧ Below w.heap.size w w' := by
  have A0 : Below w.heap.size w (w.alloc (.cells #[.int .i64 s.Id, .int .i64 s.Row, .int .i64 s.Col, .int .i64 s.Scale, .int .i64 s.Year] 38)) := by go_grown
  have HT := hid (ht.on hB A0)
  clear ht
  by_cases h : sheetB s = true
  · have HS := hid h
    obtain ⟨⟨a1, a2⟩, ⟨b1, b2⟩, ⟨c1, c2⟩, ⟨d1, d2⟩, ⟨e1, e2⟩⟩ := sheetB_bd h
    obtain ⟨t0, ht0, hz0⟩ : ∃ t, txt (Lib.itoa s.Id) = t ∧ (t.size : Int) ≤ 30 := ⟨_, rfl, by rw [txt_size]; have := itoa_len (n := s.Id) (by omega) (by omega); omega⟩
    have HT0 := hid ht0
    obtain ⟨p1, hp1, hq1⟩ : ∃ p, t0 ++ ({ data := #[58, 32, 114] } : ByteArray) = p ∧ (p.size : Int) ≤ 33 := ⟨_, rfl, by rw [ByteArray.size_append]; have hc : (({ data := #[58, 32, 114] } : ByteArray)).size = 3 := rfl; rw [hc]; omega⟩
    obtain ⟨t2, ht2, hz2⟩ : ∃ t, txt (Lib.itoa s.Row) = t ∧ (t.size : Int) ≤ 30 := ⟨_, rfl, by rw [txt_size]; have := itoa_len (n := s.Row) (by omega) (by omega); omega⟩
    have HT2 := hid ht2
    obtain ⟨p2, hp2, hq2⟩ : ∃ p, p1 ++ t2 = p ∧ (p.size : Int) ≤ 63 := ⟨_, rfl, by rw [ByteArray.size_append]; omega⟩
    obtain ⟨p3, hp3, hq3⟩ : ∃ p, p2 ++ ({ data := #[32, 99] } : ByteArray) = p ∧ (p.size : Int) ≤ 65 := ⟨_, rfl, by rw [ByteArray.size_append]; have hc : (({ data := #[32, 99] } : ByteArray)).size = 2 := rfl; rw [hc]; omega⟩
    obtain ⟨t4, ht4, hz4⟩ : ∃ t, txt (Lib.itoa s.Col) = t ∧ (t.size : Int) ≤ 30 := ⟨_, rfl, by rw [txt_size]; have := itoa_len (n := s.Col) (by omega) (by omega); omega⟩
    have HT4 := hid ht4
    obtain ⟨p4, hp4, hq4⟩ : ∃ p, p3 ++ t4 = p ∧ (p.size : Int) ≤ 95 := ⟨_, rfl, by rw [ByteArray.size_append]; omega⟩
    obtain ⟨p5, hp5, hq5⟩ : ∃ p, p4 ++ ({ data := #[32, 49, 58] } : ByteArray) = p ∧ (p.size : Int) ≤ 98 := ⟨_, rfl, by rw [ByteArray.size_append]; have hc : (({ data := #[32, 49, 58] } : ByteArray)).size = 3 := rfl; rw [hc]; omega⟩
    obtain ⟨t6, ht6, hz6⟩ : ∃ t, txt (Lib.itoa s.Scale) = t ∧ (t.size : Int) ≤ 30 := ⟨_, rfl, by rw [txt_size]; have := itoa_len (n := s.Scale) (by omega) (by omega); omega⟩
    have HT6 := hid ht6
    obtain ⟨p6, hp6, hq6⟩ : ∃ p, p5 ++ t6 = p ∧ (p.size : Int) ≤ 128 := ⟨_, rfl, by rw [ByteArray.size_append]; omega⟩
    obtain ⟨p7, hp7, hq7⟩ : ∃ p, p6 ++ ({ data := #[48, 48, 48, 32] } : ByteArray) = p ∧ (p.size : Int) ≤ 132 := ⟨_, rfl, by rw [ByteArray.size_append]; have hc : (({ data := #[48, 48, 48, 32] } : ByteArray)).size = 4 := rfl; rw [hc]; omega⟩
    obtain ⟨t8, ht8, hz8⟩ : ∃ t, txt (Lib.itoa s.Year) = t ∧ (t.size : Int) ≤ 30 := ⟨_, rfl, by rw [txt_size]; have := itoa_len (n := s.Year) (by omega) (by omega); omega⟩
    have HT8 := hid ht8
    obtain ⟨p8, hp8, hq8⟩ : ∃ p, p7 ++ t8 = p ∧ (p.size : Int) ≤ 162 := ⟨_, rfl, by rw [ByteArray.size_append]; omega⟩
    have hw0 : (t0.size : Int) ≤ 8388608 := by omega
    have hw1 : (({ data := #[58, 32, 114] } : ByteArray).size : Int) ≤ 8388608 := by have hc : ({ data := #[58, 32, 114] } : ByteArray).size = 3 := rfl; rw [hc]; omega
    have hv1 : (p1.size : Int) ≤ 8388608 := by omega
    have hw2 : (t2.size : Int) ≤ 8388608 := by omega
    have hv2 : (p2.size : Int) ≤ 8388608 := by omega
    have hw3 : (({ data := #[32, 99] } : ByteArray).size : Int) ≤ 8388608 := by have hc : ({ data := #[32, 99] } : ByteArray).size = 2 := rfl; rw [hc]; omega
    have hv3 : (p3.size : Int) ≤ 8388608 := by omega
    have hw4 : (t4.size : Int) ≤ 8388608 := by omega
    have hv4 : (p4.size : Int) ≤ 8388608 := by omega
    have hw5 : (({ data := #[32, 49, 58] } : ByteArray).size : Int) ≤ 8388608 := by have hc : ({ data := #[32, 49, 58] } : ByteArray).size = 3 := rfl; rw [hc]; omega
    have hv5 : (p5.size : Int) ≤ 8388608 := by omega
    have hw6 : (t6.size : Int) ≤ 8388608 := by omega
    have hv6 : (p6.size : Int) ≤ 8388608 := by omega
    have hw7 : (({ data := #[48, 48, 48, 32] } : ByteArray).size : Int) ≤ 8388608 := by have hc : ({ data := #[48, 48, 48, 32] } : ByteArray).size = 4 := rfl; rw [hc]; omega
    have hv7 : (p7.size : Int) ≤ 8388608 := by omega
    have hw8 : (t8.size : Int) ≤ 8388608 := by omega
    have hv8 : (p8.size : Int) ≤ 8388608 := by omega
    clear hz0 ht0 hz2 ht2 hz4 ht4 hz6 ht6 hz8 ht8 hq1 hq2 hq3 hq4 hq5 hq6 hq7 hq8
    have HR : Hid (sheetTx s = p8) := by unfold Hid; rw [sheetTx_yes HS.out]; rw [← hp8, ← hp7, ← hp6, ← hp5, ← hp4, ← hp3, ← hp2, ← hp1]; unfold sheetS; rw [HT0.out, HT2.out, HT4.out, HT6.out, HT8.out]
    go_enter Tryd.func28, Tryd.ntmps28
    go_wp2_with fail
    refine (sheet_impl s _).mono ?_
    rintro e w1 ⟨rfl, hb1⟩
    have B1 := Below.on A0 A0.size hb1
    have T1 := hid (HT.out.on (by simp; omega) hb1)
    have x0 : w1.cell? ⟨w.heap.size, 0, none⟩ = some (.int .i64 s.Id) := (hb1.cell (by simp)).trans (by simp [go_sem])
    have x1 : w1.cell? ⟨w.heap.size, 1, none⟩ = some (.int .i64 s.Row) := (hb1.cell (by simp)).trans (by simp [go_sem])
    have x2 : w1.cell? ⟨w.heap.size, 2, none⟩ = some (.int .i64 s.Col) := (hb1.cell (by simp)).trans (by simp [go_sem])
    have x3 : w1.cell? ⟨w.heap.size, 3, none⟩ = some (.int .i64 s.Scale) := (hb1.cell (by simp)).trans (by simp [go_sem])
    have x4 : w1.cell? ⟨w.heap.size, 4, none⟩ = some (.int .i64 s.Year) := (hb1.cell (by simp)).trans (by simp [go_sem])
    have hz : w.heap.size < w1.heap.size := by have := hb1.size; simp at this; omega
    have hBw : B ≤ w1.heap.size := by omega
    have hq := fun x : Later w1 => x.cell
    have TL := hid (fun x : Later w1 => T1.out.later hBw x)
    go_wp2_with fail
    refine region_later (by kernel_rfl) (by kernel_rfl) ?_
    go_big_quiet_step (fail)
    go_big_quiet_step (fail)
    go_big_quiet_step ((go_at_call 45; refine calls_later (text_implT (by omega) (by omega) HT0.out B _ (TL.out _))))
    go_big_quiet_step (fail)
    go_big_quiet_step (fail)
    go_big_quiet_step (fail)
    go_big_quiet_step ((go_at_call 45; refine calls_later (text_implT (by omega) (by omega) HT2.out B _ (TL.out _))))
    go_big_quiet_step (fail)
    go_big_quiet_step (fail)
    go_big_quiet_step (fail)
    go_big_quiet_step (fail)
    go_big_quiet_step ((go_at_call 45; refine calls_later (text_implT (by omega) (by omega) HT4.out B _ (TL.out _))))
    go_big_quiet_step (fail)
    go_big_quiet_step (fail)
    go_big_quiet_step (fail)
    go_big_quiet_step (fail)
    go_big_quiet_step ((go_at_call 45; refine calls_later (text_implT (by omega) (by omega) HT6.out B _ (TL.out _))))
    go_big_quiet_step (fail)
    go_big_quiet_step (fail)
    go_big_quiet_step (fail)
    go_big_quiet_step (fail)
    go_big_quiet_step ((go_at_call 45; refine calls_later (text_implT (by omega) (by omega) HT8.out B _ (TL.out _))))
    go_big_quiet_step (fail)
    go_big_quiet_step (fail)
    go_big_quiet_step (fail)
    refine wpQuiet_nil ?_
    intro _ hw'
    obtain ⟨x, rfl⟩ := hw'
    have B2 : Below w.heap.size w x.wd := Below.on B1 B1.size x.below
    clear hq
    go_wp2_with fail
    go_ret2
    exact ⟨by rw [HS.out, HR.out]; rfl, B2⟩
  · have HS := hid (show sheetB s = false by simpa using h)
    have h' := HS.out
    clear h
    go_enter Tryd.func28, Tryd.ntmps28
    go_wp2_with fail
    refine (sheet_impl s _).mono ?_
    rintro e w1 ⟨rfl, hb1⟩
    have B1 := Below.on A0 A0.size hb1
    go_wp2_with fail
    go_ret2
    exact ⟨by rw [HS.out, sheetTx_no HS.out]; rfl, B1⟩

theorem toSheet_any (s : SheetD) (w : World) : Calls Tryd.prog 27 #[s.val] w fun e w' => e = .returned s.val ∧ Below w.heap.size w w' := by
  go_enter Tryd.func27, Tryd.ntmps27
  go_wp2
  exact bodyPost_ret (v := s.val) (by simp [results, Tryd.results27, go_sem]) rfl ⟨rfl, by go_grown⟩

set_option maxHeartbeats 1000000 in
theorem walk_ExactSheetText (w : World) (s0 : SheetD) (ok0 : s0.ok) (ht : Tb w.heap.size w) : Calls Tryd.prog 8 #[s0.val] w fun e w' => e = .returned (.bool true) ∧ Below w.heap.size w w' := by
  have C0 : Below (w.alloc (.cells #[.int .i64 s0.Id, .int .i64 s0.Row, .int .i64 s0.Col, .int .i64 s0.Scale, .int .i64 s0.Year] 36)).heap.size (w.alloc (.cells #[.int .i64 s0.Id, .int .i64 s0.Row, .int .i64 s0.Col, .int .i64 s0.Scale, .int .i64 s0.Year] 36)) (w.alloc (.cells #[.int .i64 s0.Id, .int .i64 s0.Row, .int .i64 s0.Col, .int .i64 s0.Scale, .int .i64 s0.Year] 36)) := Below.refl _ _
  have D0 : Below w.heap.size w (w.alloc (.cells #[.int .i64 s0.Id, .int .i64 s0.Row, .int .i64 s0.Col, .int .i64 s0.Scale, .int .i64 s0.Year] 36)) := by go_grown
  clear ok0
  have HT := hid ht
  clear ht
  go_enter Tryd.func8, Tryd.ntmps8
  go_wp2_with fail
  refine (toSheet_any s0 _).mono ?_
  rintro e w1 ⟨rfl, hb1⟩
  have C1 : Below (w.alloc (.cells #[.int .i64 s0.Id, .int .i64 s0.Row, .int .i64 s0.Col, .int .i64 s0.Scale, .int .i64 s0.Year] 36)).heap.size (w.alloc (.cells #[.int .i64 s0.Id, .int .i64 s0.Row, .int .i64 s0.Col, .int .i64 s0.Scale, .int .i64 s0.Year] 36)) w1 := Below.on C0 C0.size hb1
  have x0 : w1.cell? ⟨w.heap.size, 0, none⟩ = some (.int .i64 s0.Id) := (C1.cell (by simp)).trans (by simp [go_sem])
  have x1 : w1.cell? ⟨w.heap.size, 1, none⟩ = some (.int .i64 s0.Row) := (C1.cell (by simp)).trans (by simp [go_sem])
  have x2 : w1.cell? ⟨w.heap.size, 2, none⟩ = some (.int .i64 s0.Col) := (C1.cell (by simp)).trans (by simp [go_sem])
  have x3 : w1.cell? ⟨w.heap.size, 3, none⟩ = some (.int .i64 s0.Scale) := (C1.cell (by simp)).trans (by simp [go_sem])
  have x4 : w1.cell? ⟨w.heap.size, 4, none⟩ = some (.int .i64 s0.Year) := (C1.cell (by simp)).trans (by simp [go_sem])
  go_wp2_with fail
  refine (sheetText_spec s0 _).mono ?_
  rintro e w2 ⟨rfl, hb2⟩
  have C2 : Below (w.alloc (.cells #[.int .i64 s0.Id, .int .i64 s0.Row, .int .i64 s0.Col, .int .i64 s0.Scale, .int .i64 s0.Year] 36)).heap.size (w.alloc (.cells #[.int .i64 s0.Id, .int .i64 s0.Row, .int .i64 s0.Col, .int .i64 s0.Scale, .int .i64 s0.Year] 36)) w2 := Below.on C1 C1.size hb2
  have x0 : w2.cell? ⟨w.heap.size, 0, none⟩ = some (.int .i64 s0.Id) := (C2.cell (by simp)).trans (by simp [go_sem])
  have x1 : w2.cell? ⟨w.heap.size, 1, none⟩ = some (.int .i64 s0.Row) := (C2.cell (by simp)).trans (by simp [go_sem])
  have x2 : w2.cell? ⟨w.heap.size, 2, none⟩ = some (.int .i64 s0.Col) := (C2.cell (by simp)).trans (by simp [go_sem])
  have x3 : w2.cell? ⟨w.heap.size, 3, none⟩ = some (.int .i64 s0.Scale) := (C2.cell (by simp)).trans (by simp [go_sem])
  have x4 : w2.cell? ⟨w.heap.size, 4, none⟩ = some (.int .i64 s0.Year) := (C2.cell (by simp)).trans (by simp [go_sem])
  go_wp2_with fail
  refine (toSheet_any s0 _).mono ?_
  rintro e w3 ⟨rfl, hb3⟩
  have C3 : Below (w.alloc (.cells #[.int .i64 s0.Id, .int .i64 s0.Row, .int .i64 s0.Col, .int .i64 s0.Scale, .int .i64 s0.Year] 36)).heap.size (w.alloc (.cells #[.int .i64 s0.Id, .int .i64 s0.Row, .int .i64 s0.Col, .int .i64 s0.Scale, .int .i64 s0.Year] 36)) w3 := Below.on C2 C2.size hb3
  have x0 : w3.cell? ⟨w.heap.size, 0, none⟩ = some (.int .i64 s0.Id) := (C3.cell (by simp)).trans (by simp [go_sem])
  have x1 : w3.cell? ⟨w.heap.size, 1, none⟩ = some (.int .i64 s0.Row) := (C3.cell (by simp)).trans (by simp [go_sem])
  have x2 : w3.cell? ⟨w.heap.size, 2, none⟩ = some (.int .i64 s0.Col) := (C3.cell (by simp)).trans (by simp [go_sem])
  have x3 : w3.cell? ⟨w.heap.size, 3, none⟩ = some (.int .i64 s0.Scale) := (C3.cell (by simp)).trans (by simp [go_sem])
  have x4 : w3.cell? ⟨w.heap.size, 4, none⟩ = some (.int .i64 s0.Year) := (C3.cell (by simp)).trans (by simp [go_sem])
  go_wp2_with fail
  refine (sheetText_impl s0 w.heap.size _ ((Below.on D0 D0.size C3).size) (HT.out.via (Below.on D0 D0.size C3))).mono ?_
  rintro e w4 ⟨rfl, hb4⟩
  have C4 : Below (w.alloc (.cells #[.int .i64 s0.Id, .int .i64 s0.Row, .int .i64 s0.Col, .int .i64 s0.Scale, .int .i64 s0.Year] 36)).heap.size (w.alloc (.cells #[.int .i64 s0.Id, .int .i64 s0.Row, .int .i64 s0.Col, .int .i64 s0.Scale, .int .i64 s0.Year] 36)) w4 := Below.on C3 C3.size hb4
  go_wp2_with fail
  go_ret
  exact ⟨rfl, Below.on D0 D0.size C4⟩

end Go.Proofs.YteklomkncfjdlaaDoor
