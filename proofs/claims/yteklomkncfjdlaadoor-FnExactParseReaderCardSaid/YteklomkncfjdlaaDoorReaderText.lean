/-
  A reader's text, by the program and by the reference. No condition.
-/
import Derived.Test.YteklomkncfjdlaaDoorSheetText
import Derived.Test.YteklomkncfjdlaaDoorReaders
namespace Go.Proofs.YteklomkncfjdlaaDoor
open Go.RowKit
set_option linter.unusedVariables false
set_option maxRecDepth 100000

theorem readerB_id {s : ReaderD} (h : readerB s = true) : 1 ≤ s.Id ∧ s.Id ≤ 999 := by simp [readerB, inB] at h; omega
theorem readerB_joined {s : ReaderD} (h : readerB s = true) : 0 ≤ s.Joined ∧ s.Joined ≤ 4000 := by simp [readerB, inB] at h; omega
theorem readerB_class {s : ReaderD} (h : readerB s = true) : 1 ≤ s.Class ∧ s.Class ≤ 3 := by simp [readerB, inB] at h; omega
theorem readerB_fines {s : ReaderD} (h : readerB s = true) : 0 ≤ s.Fines ∧ s.Fines ≤ 10000 := by simp [readerB, inB] at h; omega
theorem readerB_word {s : ReaderD} (h : readerB s = true) : wordB s.Name = true := by simp [readerB] at h; exact h.1.1.1.2
theorem readerB_name {s : ReaderD} (h : readerB s = true) : s.Name.size ≤ 10 := by have := readerB_word h; simp [wordB] at this; omega

/-- A reader's text. -/
def rtL (s : ReaderD) : List UInt8 := Lib.itoa s.Id ++ [32] ++ s.Name.data.toList ++ [32, 99] ++ Lib.itoa s.Class ++ [32, 115, 105, 110, 99, 101, 32] ++ Lib.itoa s.Joined ++ (if 0 < s.Fines then [32, 111, 119, 101, 115, 32] ++ Lib.itoa s.Fines else [])
def rtS (s : ReaderD) : ByteArray := txt (rtL s)
def rtTx (s : ReaderD) : ByteArray := if readerB s = true then rtS s else ByteArray.empty
theorem rtTx_yes {s : ReaderD} (h : readerB s = true) : rtTx s = rtS s := by unfold rtTx; rw [if_pos h]
theorem rtTx_no {s : ReaderD} (h : readerB s = false) : rtTx s = ByteArray.empty := by unfold rtTx; rw [if_neg (by rw [h]; simp)]

set_option maxHeartbeats 4000000 in
theorem l3Text_spec (s : ReaderD) (hs : readerB s = true) (w : World) : Calls Tryd.prog 62 #[s.val] w fun e w' => e = .returned (.string (rtS s)) ∧ Below w.heap.size w w' := by
  obtain ⟨a1, a2⟩ : 1 ≤ s.Id ∧ s.Id ≤ 999 := readerB_id hs
  obtain ⟨b1, b2⟩ : 0 ≤ s.Joined ∧ s.Joined ≤ 4000 := readerB_joined hs
  obtain ⟨c1, c2⟩ : 1 ≤ s.Class ∧ s.Class ≤ 3 := readerB_class hs
  obtain ⟨d1, d2⟩ : 0 ≤ s.Fines ∧ s.Fines ≤ 10000 := readerB_fines hs
  have hnn : s.Name.size ≤ 10 := readerB_name hs
  clear hs
  have hnz : (s.Name.size : Int) ≤ 10 := by omega
  have hwn : (s.Name.size : Int) ≤ 8388608 := by omega
  obtain ⟨t0, ht0, hz0⟩ : ∃ t, txt (Lib.itoa s.Id) = t ∧ (t.size : Int) ≤ 30 := ⟨_, rfl, by rw [txt_size]; have := itoa_len (n := s.Id) (by omega) (by omega); omega⟩
  have HT0 := hid ht0
  obtain ⟨p1, hp1, hq1⟩ : ∃ p, t0 ++ ({ data := #[32] } : ByteArray) = p ∧ (p.size : Int) ≤ 31 := ⟨_, rfl, by rw [ByteArray.size_append]; have hc : (({ data := #[32] } : ByteArray)).size = 1 := rfl; rw [hc]; omega⟩
  obtain ⟨p2, hp2, hq2⟩ : ∃ p, p1 ++ s.Name = p ∧ (p.size : Int) ≤ 41 := ⟨_, rfl, by rw [ByteArray.size_append]; omega⟩
  obtain ⟨p3, hp3, hq3⟩ : ∃ p, p2 ++ ({ data := #[32, 99] } : ByteArray) = p ∧ (p.size : Int) ≤ 43 := ⟨_, rfl, by rw [ByteArray.size_append]; have hc : (({ data := #[32, 99] } : ByteArray)).size = 2 := rfl; rw [hc]; omega⟩
  obtain ⟨t4, ht4, hz4⟩ : ∃ t, txt (Lib.itoa s.Class) = t ∧ (t.size : Int) ≤ 30 := ⟨_, rfl, by rw [txt_size]; have := itoa_len (n := s.Class) (by omega) (by omega); omega⟩
  have HT4 := hid ht4
  obtain ⟨p4, hp4, hq4⟩ : ∃ p, p3 ++ t4 = p ∧ (p.size : Int) ≤ 73 := ⟨_, rfl, by rw [ByteArray.size_append]; omega⟩
  obtain ⟨p5, hp5, hq5⟩ : ∃ p, p4 ++ ({ data := #[32, 115, 105, 110, 99, 101, 32] } : ByteArray) = p ∧ (p.size : Int) ≤ 80 := ⟨_, rfl, by rw [ByteArray.size_append]; have hc : (({ data := #[32, 115, 105, 110, 99, 101, 32] } : ByteArray)).size = 7 := rfl; rw [hc]; omega⟩
  obtain ⟨t6, ht6, hz6⟩ : ∃ t, txt (Lib.itoa s.Joined) = t ∧ (t.size : Int) ≤ 30 := ⟨_, rfl, by rw [txt_size]; have := itoa_len (n := s.Joined) (by omega) (by omega); omega⟩
  have HT6 := hid ht6
  obtain ⟨p6, hp6, hq6⟩ : ∃ p, p5 ++ t6 = p ∧ (p.size : Int) ≤ 110 := ⟨_, rfl, by rw [ByteArray.size_append]; omega⟩
  have hw0 : (t0.size : Int) ≤ 8388608 := by omega
  have hw1 : (({ data := #[32] } : ByteArray).size : Int) ≤ 8388608 := by have hc : ({ data := #[32] } : ByteArray).size = 1 := rfl; rw [hc]; omega
  have hv1 : (p1.size : Int) ≤ 8388608 := by omega
  have hv2 : (p2.size : Int) ≤ 8388608 := by omega
  have hw3 : (({ data := #[32, 99] } : ByteArray).size : Int) ≤ 8388608 := by have hc : ({ data := #[32, 99] } : ByteArray).size = 2 := rfl; rw [hc]; omega
  have hv3 : (p3.size : Int) ≤ 8388608 := by omega
  have hw4 : (t4.size : Int) ≤ 8388608 := by omega
  have hv4 : (p4.size : Int) ≤ 8388608 := by omega
  have hw5 : (({ data := #[32, 115, 105, 110, 99, 101, 32] } : ByteArray).size : Int) ≤ 8388608 := by have hc : ({ data := #[32, 115, 105, 110, 99, 101, 32] } : ByteArray).size = 7 := rfl; rw [hc]; omega
  have hv5 : (p5.size : Int) ≤ 8388608 := by omega
  have hw6 : (t6.size : Int) ≤ 8388608 := by omega
  have hv6 : (p6.size : Int) ≤ 8388608 := by omega
  have hpz : (p6.size : Int) ≤ 200 := by omega
  have hF : Hid (Lib.itoa s.Id ++ [32] ++ s.Name.data.toList ++ [32, 99] ++ Lib.itoa s.Class ++ [32, 115, 105, 110, 99, 101, 32] ++ Lib.itoa s.Joined = p6.data.toList) := by
    apply txt_inj
    rw [txt_list, ← hp6, ← hp5, ← hp4, ← hp3, ← hp2, ← hp1, ← HT0.out, ← HT4.out, ← HT6.out]
    conv => rhs; rw [← txt_list s.Name]
    rw [show ({ data := #[32] } : ByteArray) = txt [32] from rfl, show ({ data := #[32, 99] } : ByteArray) = txt [32, 99] from rfl, show ({ data := #[32, 115, 105, 110, 99, 101, 32] } : ByteArray) = txt [32, 115, 105, 110, 99, 101, 32] from rfl, txt_append, txt_append, txt_append, txt_append, txt_append, txt_append]
  have hq := fun x : Later (w.alloc (.cells #[.int .i64 s.Id, .string s.Name, .int .i64 s.Joined, .int .i64 s.Class, .int .i64 s.Fines] 51)) => x.cell
  have A0 : Below w.heap.size w (w.alloc (.cells #[.int .i64 s.Id, .string s.Name, .int .i64 s.Joined, .int .i64 s.Class, .int .i64 s.Fines] 51)) := by go_grown
  by_cases h0 : 0 < s.Fines
  · obtain ⟨t9, ht9, hz9⟩ : ∃ t, txt (Lib.itoa s.Fines) = t ∧ (t.size : Int) ≤ 30 := ⟨_, rfl, by rw [txt_size]; have := itoa_len (n := s.Fines) (by omega) (by omega); omega⟩
    have HT9 := hid ht9
    have hw9 : (t9.size : Int) ≤ 8388608 := by omega
    have hwo : (({ data := #[32, 111, 119, 101, 115, 32] } : ByteArray).size : Int) ≤ 8388608 := by show ((6 : Nat) : Int) ≤ _; omega
    obtain ⟨q1, hu1, hr1⟩ : ∃ q, p6 ++ ({ data := #[32, 111, 119, 101, 115, 32] } : ByteArray) = q ∧ (q.size : Int) ≤ 8388608 := ⟨_, rfl, by rw [ByteArray.size_append]; have hc : ({ data := #[32, 111, 119, 101, 115, 32] } : ByteArray).size = 6 := rfl; rw [hc]; omega⟩
    obtain ⟨q2, hu2⟩ : ∃ q, q1 ++ t9 = q := ⟨_, rfl⟩
    have HR : Hid (rtS s = q2) := by
      unfold Hid rtS rtL
      rw [if_pos h0, hF.out, ← hu2, ← hu1, ← HT9.out, show ({ data := #[32, 111, 119, 101, 115, 32] } : ByteArray) = txt [32, 111, 119, 101, 115, 32] from rfl, ← txt_append, ← txt_append, txt_list, ByteArray.append_assoc]
    clear hz0 ht0 hz4 ht4 hz6 ht6 hq1 hq2 hq3 hq4 hq5 hq6 ht9 hz9
    go_enter Tryd.func62, Tryd.ntmps62
    go_wp2_with fail
    refine region_later (by kernel_rfl) (by kernel_rfl) ?_
    go_big_quiet_step (fail)
    go_big_quiet_step (fail)
    go_big_quiet_step ((go_at_call 43; refine calls_later (num_specT (by omega) (by omega) HT0.out _)))
    go_big_quiet_step (fail)
    go_big_quiet_step (fail)
    go_big_quiet_step (fail)
    go_big_quiet_step (fail)
    go_big_quiet_step (fail)
    go_big_quiet_step (fail)
    go_big_quiet_step (fail)
    go_big_quiet_step ((go_at_call 43; refine calls_later (num_specT (by omega) (by omega) HT4.out _)))
    go_big_quiet_step (fail)
    go_big_quiet_step (fail)
    go_big_quiet_step (fail)
    go_big_quiet_step (fail)
    go_big_quiet_step ((go_at_call 43; refine calls_later (num_specT (by omega) (by omega) HT6.out _)))
    go_big_quiet_step (fail)
    go_big_quiet_step (fail)
    refine wpQuiet_nil ?_
    intro _ hw'
    obtain ⟨x, rfl⟩ := hw'
    have B1 : Below w.heap.size w x.wd := Below.on A0 A0.size x.below
    have lx : w.heap.size < x.wd.heap.size := by have := x.size; simp at this; omega
    have y0 : x.wd.cell? ⟨w.heap.size, 0, none⟩ = some (.int .i64 s.Id) := (x.cell _ _ (by simp)).trans (by simp [go_sem])
    have y1 : x.wd.cell? ⟨w.heap.size, 1, none⟩ = some (.string s.Name) := (x.cell _ _ (by simp)).trans (by simp [go_sem])
    have y2 : x.wd.cell? ⟨w.heap.size, 2, none⟩ = some (.int .i64 s.Joined) := (x.cell _ _ (by simp)).trans (by simp [go_sem])
    have y3 : x.wd.cell? ⟨w.heap.size, 3, none⟩ = some (.int .i64 s.Class) := (x.cell _ _ (by simp)).trans (by simp [go_sem])
    have y4 : x.wd.cell? ⟨w.heap.size, 4, none⟩ = some (.int .i64 s.Fines) := (x.cell _ _ (by simp)).trans (by simp [go_sem])
    clear hq
    go_wp2_with fail
    refine (num_specT (by omega) (by omega) HT9.out _).mono ?_
    rintro e w2 ⟨rfl, hb2⟩
    go_wp2_with fail
    go_ret
    exact ⟨by rw [HR.out]; rfl, Below.on B1 B1.size hb2⟩
  · have HR : Hid (rtS s = p6) := by
      unfold Hid rtS rtL
      rw [if_neg h0, List.append_nil, hF.out, txt_list]
    clear hz0 ht0 hz4 ht4 hz6 ht6 hq1 hq2 hq3 hq4 hq5 hq6
    go_enter Tryd.func62, Tryd.ntmps62
    go_wp2_with fail
    refine region_later (by kernel_rfl) (by kernel_rfl) ?_
    go_big_quiet_step (fail)
    go_big_quiet_step (fail)
    go_big_quiet_step ((go_at_call 43; refine calls_later (num_specT (by omega) (by omega) HT0.out _)))
    go_big_quiet_step (fail)
    go_big_quiet_step (fail)
    go_big_quiet_step (fail)
    go_big_quiet_step (fail)
    go_big_quiet_step (fail)
    go_big_quiet_step (fail)
    go_big_quiet_step (fail)
    go_big_quiet_step ((go_at_call 43; refine calls_later (num_specT (by omega) (by omega) HT4.out _)))
    go_big_quiet_step (fail)
    go_big_quiet_step (fail)
    go_big_quiet_step (fail)
    go_big_quiet_step (fail)
    go_big_quiet_step ((go_at_call 43; refine calls_later (num_specT (by omega) (by omega) HT6.out _)))
    go_big_quiet_step (fail)
    go_big_quiet_step (fail)
    refine wpQuiet_nil ?_
    intro _ hw'
    obtain ⟨x, rfl⟩ := hw'
    have B1 : Below w.heap.size w x.wd := Below.on A0 A0.size x.below
    have lx : w.heap.size < x.wd.heap.size := by have := x.size; simp at this; omega
    have y0 : x.wd.cell? ⟨w.heap.size, 0, none⟩ = some (.int .i64 s.Id) := (x.cell _ _ (by simp)).trans (by simp [go_sem])
    have y1 : x.wd.cell? ⟨w.heap.size, 1, none⟩ = some (.string s.Name) := (x.cell _ _ (by simp)).trans (by simp [go_sem])
    have y2 : x.wd.cell? ⟨w.heap.size, 2, none⟩ = some (.int .i64 s.Joined) := (x.cell _ _ (by simp)).trans (by simp [go_sem])
    have y3 : x.wd.cell? ⟨w.heap.size, 3, none⟩ = some (.int .i64 s.Class) := (x.cell _ _ (by simp)).trans (by simp [go_sem])
    have y4 : x.wd.cell? ⟨w.heap.size, 4, none⟩ = some (.int .i64 s.Fines) := (x.cell _ _ (by simp)).trans (by simp [go_sem])
    clear hq
    go_wp2_with fail
    go_ret
    exact ⟨by rw [HR.out]; rfl, B1⟩

set_option maxHeartbeats 2000000 in
theorem readerText_spec (s : ReaderD) (hn : s.Name.size ≤ maxLen) (w : World) : Calls Tryd.prog 33 #[s.val] w fun e w' => e = .returned (.tuple #[.string (rtTx s), .bool (readerB s)]) ∧ Below w.heap.size w w' := by
  have A0 : Below w.heap.size w (w.alloc (.cells #[.int .i64 s.Id, .string s.Name, .int .i64 s.Joined, .int .i64 s.Class, .int .i64 s.Fines] 51)) := by go_grown
  have HNM := hid hn
  clear hn
  go_enter Tryd.func33, Tryd.ntmps33
  go_wp2_with fail
  refine (reader_spec s HNM.out _).mono ?_
  rintro e w1 ⟨rfl, hb1⟩
  have B1 := Below.on A0 A0.size hb1
  have x0 : w1.cell? ⟨w.heap.size, 0, none⟩ = some (.int .i64 s.Id) := (hb1.cell (by simp)).trans (by simp [go_sem])
  have x1 : w1.cell? ⟨w.heap.size, 1, none⟩ = some (.string s.Name) := (hb1.cell (by simp)).trans (by simp [go_sem])
  have x2 : w1.cell? ⟨w.heap.size, 2, none⟩ = some (.int .i64 s.Joined) := (hb1.cell (by simp)).trans (by simp [go_sem])
  have x3 : w1.cell? ⟨w.heap.size, 3, none⟩ = some (.int .i64 s.Class) := (hb1.cell (by simp)).trans (by simp [go_sem])
  have x4 : w1.cell? ⟨w.heap.size, 4, none⟩ = some (.int .i64 s.Fines) := (hb1.cell (by simp)).trans (by simp [go_sem])
  have hz : w.heap.size < w1.heap.size := by have := hb1.size; simp at this; omega
  by_cases h : readerB s = true
  · have HS := hid h
    go_wp2_with fail
    refine (l3Text_spec s HS.out _).mono ?_
    rintro e w2 ⟨rfl, hb2⟩
    clear h
    go_wp2_with fail
    go_ret2
    exact ⟨by rw [HS.out, rtTx_yes HS.out]; rfl, Below.on B1 B1.size hb2⟩
  · have HS := hid (show readerB s = false by simpa using h)
    have h' := HS.out
    clear h
    go_wp2_with fail
    go_ret2
    exact ⟨by rw [HS.out, rtTx_no HS.out]; rfl, B1⟩

set_option maxHeartbeats 4000000 in
theorem readerText_impl (s : ReaderD) (hn : s.Name.size ≤ maxLen) (B : Nat) (w : World) (hB : B ≤ w.heap.size) (ht : Tb B w) : Calls Tryd.prog 35 #[s.val] w fun e w' => e = .returned (.tuple #[.string (rtTx s), .bool (readerB s)]) ∧ Below w.heap.size w w' := by
  have A0 : Below w.heap.size w (w.alloc (.cells #[.int .i64 s.Id, .string s.Name, .int .i64 s.Joined, .int .i64 s.Class, .int .i64 s.Fines] 51)) := by go_grown
  have HT := hid (ht.on hB A0)
  have HNM := hid hn
  clear ht hn
  by_cases hs : readerB s = true
  · have HS := hid hs
    obtain ⟨a1, a2⟩ : 1 ≤ s.Id ∧ s.Id ≤ 999 := readerB_id hs
    obtain ⟨b1, b2⟩ : 0 ≤ s.Joined ∧ s.Joined ≤ 4000 := readerB_joined hs
    obtain ⟨c1, c2⟩ : 1 ≤ s.Class ∧ s.Class ≤ 3 := readerB_class hs
    obtain ⟨d1, d2⟩ : 0 ≤ s.Fines ∧ s.Fines ≤ 10000 := readerB_fines hs
    have hnn : s.Name.size ≤ 10 := readerB_name hs
    clear hs
    have hnz : (s.Name.size : Int) ≤ 10 := by omega
    have hwn : (s.Name.size : Int) ≤ 8388608 := by omega
    obtain ⟨t0, ht0, hz0⟩ : ∃ t, txt (Lib.itoa s.Id) = t ∧ (t.size : Int) ≤ 30 := ⟨_, rfl, by rw [txt_size]; have := itoa_len (n := s.Id) (by omega) (by omega); omega⟩
    have HT0 := hid ht0
    obtain ⟨p1, hp1, hq1⟩ : ∃ p, t0 ++ ({ data := #[32] } : ByteArray) = p ∧ (p.size : Int) ≤ 31 := ⟨_, rfl, by rw [ByteArray.size_append]; have hc : (({ data := #[32] } : ByteArray)).size = 1 := rfl; rw [hc]; omega⟩
    obtain ⟨p2, hp2, hq2⟩ : ∃ p, p1 ++ s.Name = p ∧ (p.size : Int) ≤ 41 := ⟨_, rfl, by rw [ByteArray.size_append]; omega⟩
    obtain ⟨p3, hp3, hq3⟩ : ∃ p, p2 ++ ({ data := #[32, 99] } : ByteArray) = p ∧ (p.size : Int) ≤ 43 := ⟨_, rfl, by rw [ByteArray.size_append]; have hc : (({ data := #[32, 99] } : ByteArray)).size = 2 := rfl; rw [hc]; omega⟩
    obtain ⟨t4, ht4, hz4⟩ : ∃ t, txt (Lib.itoa s.Class) = t ∧ (t.size : Int) ≤ 30 := ⟨_, rfl, by rw [txt_size]; have := itoa_len (n := s.Class) (by omega) (by omega); omega⟩
    have HT4 := hid ht4
    obtain ⟨p4, hp4, hq4⟩ : ∃ p, p3 ++ t4 = p ∧ (p.size : Int) ≤ 73 := ⟨_, rfl, by rw [ByteArray.size_append]; omega⟩
    obtain ⟨p5, hp5, hq5⟩ : ∃ p, p4 ++ ({ data := #[32, 115, 105, 110, 99, 101, 32] } : ByteArray) = p ∧ (p.size : Int) ≤ 80 := ⟨_, rfl, by rw [ByteArray.size_append]; have hc : (({ data := #[32, 115, 105, 110, 99, 101, 32] } : ByteArray)).size = 7 := rfl; rw [hc]; omega⟩
    obtain ⟨t6, ht6, hz6⟩ : ∃ t, txt (Lib.itoa s.Joined) = t ∧ (t.size : Int) ≤ 30 := ⟨_, rfl, by rw [txt_size]; have := itoa_len (n := s.Joined) (by omega) (by omega); omega⟩
    have HT6 := hid ht6
    obtain ⟨p6, hp6, hq6⟩ : ∃ p, p5 ++ t6 = p ∧ (p.size : Int) ≤ 110 := ⟨_, rfl, by rw [ByteArray.size_append]; omega⟩
    have hw0 : (t0.size : Int) ≤ 8388608 := by omega
    have hw1 : (({ data := #[32] } : ByteArray).size : Int) ≤ 8388608 := by have hc : ({ data := #[32] } : ByteArray).size = 1 := rfl; rw [hc]; omega
    have hv1 : (p1.size : Int) ≤ 8388608 := by omega
    have hv2 : (p2.size : Int) ≤ 8388608 := by omega
    have hw3 : (({ data := #[32, 99] } : ByteArray).size : Int) ≤ 8388608 := by have hc : ({ data := #[32, 99] } : ByteArray).size = 2 := rfl; rw [hc]; omega
    have hv3 : (p3.size : Int) ≤ 8388608 := by omega
    have hw4 : (t4.size : Int) ≤ 8388608 := by omega
    have hv4 : (p4.size : Int) ≤ 8388608 := by omega
    have hw5 : (({ data := #[32, 115, 105, 110, 99, 101, 32] } : ByteArray).size : Int) ≤ 8388608 := by have hc : ({ data := #[32, 115, 105, 110, 99, 101, 32] } : ByteArray).size = 7 := rfl; rw [hc]; omega
    have hv5 : (p5.size : Int) ≤ 8388608 := by omega
    have hw6 : (t6.size : Int) ≤ 8388608 := by omega
    have hv6 : (p6.size : Int) ≤ 8388608 := by omega
    have hpz : (p6.size : Int) ≤ 200 := by omega
    have hF : Hid (Lib.itoa s.Id ++ [32] ++ s.Name.data.toList ++ [32, 99] ++ Lib.itoa s.Class ++ [32, 115, 105, 110, 99, 101, 32] ++ Lib.itoa s.Joined = p6.data.toList) := by
      apply txt_inj
      rw [txt_list, ← hp6, ← hp5, ← hp4, ← hp3, ← hp2, ← hp1, ← HT0.out, ← HT4.out, ← HT6.out]
      conv => rhs; rw [← txt_list s.Name]
      rw [show ({ data := #[32] } : ByteArray) = txt [32] from rfl, show ({ data := #[32, 99] } : ByteArray) = txt [32, 99] from rfl, show ({ data := #[32, 115, 105, 110, 99, 101, 32] } : ByteArray) = txt [32, 115, 105, 110, 99, 101, 32] from rfl, txt_append, txt_append, txt_append, txt_append, txt_append, txt_append]
    have h' := HS.out
    by_cases h0 : 0 < s.Fines
    · obtain ⟨t9, ht9, hz9⟩ : ∃ t, txt (Lib.itoa s.Fines) = t ∧ (t.size : Int) ≤ 30 := ⟨_, rfl, by rw [txt_size]; have := itoa_len (n := s.Fines) (by omega) (by omega); omega⟩
      have HT9 := hid ht9
      have hw9 : (t9.size : Int) ≤ 8388608 := by omega
      have hwo : (({ data := #[32, 111, 119, 101, 115, 32] } : ByteArray).size : Int) ≤ 8388608 := by show ((6 : Nat) : Int) ≤ _; omega
      obtain ⟨q1, hu1, hr1⟩ : ∃ q, ({ data := #[32, 111, 119, 101, 115, 32] } : ByteArray) ++ t9 = q ∧ (q.size : Int) ≤ 8388608 := ⟨_, rfl, by rw [ByteArray.size_append]; have hc : ({ data := #[32, 111, 119, 101, 115, 32] } : ByteArray).size = 6 := rfl; rw [hc]; omega⟩
      obtain ⟨q2, hu2⟩ : ∃ q, p6 ++ q1 = q := ⟨_, rfl⟩
      have HR : Hid (rtS s = q2) := by
        unfold Hid rtS rtL
        rw [if_pos h0, hF.out, ← hu2, ← hu1, ← HT9.out, show ({ data := #[32, 111, 119, 101, 115, 32] } : ByteArray) = txt [32, 111, 119, 101, 115, 32] from rfl, ← txt_append, ← txt_append, txt_list]
      clear hz0 ht0 hz4 ht4 hz6 ht6 hq1 hq2 hq3 hq4 hq5 hq6 ht9 hz9
      go_enter Tryd.func35, Tryd.ntmps35
      go_wp2_with fail
      refine (reader_impl s HNM.out _).mono ?_
      rintro e w1 ⟨rfl, hb1⟩
      have B1 := Below.on A0 A0.size hb1
      have T1 := hid (HT.out.on (by simp; omega) hb1)
      have x0 : w1.cell? ⟨w.heap.size, 0, none⟩ = some (.int .i64 s.Id) := (hb1.cell (by simp)).trans (by simp [go_sem])
      have x1 : w1.cell? ⟨w.heap.size, 1, none⟩ = some (.string s.Name) := (hb1.cell (by simp)).trans (by simp [go_sem])
      have x2 : w1.cell? ⟨w.heap.size, 2, none⟩ = some (.int .i64 s.Joined) := (hb1.cell (by simp)).trans (by simp [go_sem])
      have x3 : w1.cell? ⟨w.heap.size, 3, none⟩ = some (.int .i64 s.Class) := (hb1.cell (by simp)).trans (by simp [go_sem])
      have x4 : w1.cell? ⟨w.heap.size, 4, none⟩ = some (.int .i64 s.Fines) := (hb1.cell (by simp)).trans (by simp [go_sem])
      have hz : w.heap.size < w1.heap.size := by have := hb1.size; simp at this; omega
      have hBw : B ≤ w1.heap.size := by omega
      have hq := fun x : Later w1 => x.cell
      have TL := hid (fun x : Later w1 => T1.out.later hBw x)
      go_wp2_with fail
      refine region_later (by kernel_rfl) (by kernel_rfl) ?_
      go_big_quiet_step (fail)
      go_big_quiet_step (fail)
      go_big_quiet_step ((go_at_call 45; refine calls_later (text_implT (by omega) (by omega) HT0.out B _ (TL.out _))))
      go_big_quiet_step (fail)
      go_big_quiet_step (fail)
      go_big_quiet_step (fail)
      go_big_quiet_step (fail)
      go_big_quiet_step (fail)
      go_big_quiet_step (fail)
      go_big_quiet_step (fail)
      go_big_quiet_step ((go_at_call 45; refine calls_later (text_implT (by omega) (by omega) HT4.out B _ (TL.out _))))
      go_big_quiet_step (fail)
      go_big_quiet_step (fail)
      go_big_quiet_step (fail)
      go_big_quiet_step (fail)
      go_big_quiet_step ((go_at_call 45; refine calls_later (text_implT (by omega) (by omega) HT6.out B _ (TL.out _))))
      go_big_quiet_step (fail)
      go_big_quiet_step (fail)
      refine wpQuiet_nil ?_
      intro _ hw'
      obtain ⟨x, rfl⟩ := hw'
      have B2 : Below w.heap.size w x.wd := Below.on B1 B1.size x.below
      have TX := hid (T1.out.later hBw x)
      have lx : w.heap.size < x.wd.heap.size := by have := x.size; omega
      have y0 : x.wd.cell? ⟨w.heap.size, 0, none⟩ = some (.int .i64 s.Id) := (x.cell _ _ hz).trans x0
      have y1 : x.wd.cell? ⟨w.heap.size, 1, none⟩ = some (.string s.Name) := (x.cell _ _ hz).trans x1
      have y2 : x.wd.cell? ⟨w.heap.size, 2, none⟩ = some (.int .i64 s.Joined) := (x.cell _ _ hz).trans x2
      have y3 : x.wd.cell? ⟨w.heap.size, 3, none⟩ = some (.int .i64 s.Class) := (x.cell _ _ hz).trans x3
      have y4 : x.wd.cell? ⟨w.heap.size, 4, none⟩ = some (.int .i64 s.Fines) := (x.cell _ _ hz).trans x4
      clear hq
      go_wp2_with fail
      refine (text_implT (by omega) (by omega) HT9.out B _ TX.out).mono ?_
      rintro e w2 ⟨rfl, hb2⟩
      go_wp2_with fail
      go_ret2
      exact ⟨by rw [HS.out, rtTx_yes HS.out, HR.out]; rfl, Below.on B2 B2.size hb2⟩
    · have HR : Hid (rtS s = p6) := by
        unfold Hid rtS rtL
        rw [if_neg h0, List.append_nil, hF.out, txt_list]
      clear hz0 ht0 hz4 ht4 hz6 ht6 hq1 hq2 hq3 hq4 hq5 hq6
      go_enter Tryd.func35, Tryd.ntmps35
      go_wp2_with fail
      refine (reader_impl s HNM.out _).mono ?_
      rintro e w1 ⟨rfl, hb1⟩
      have B1 := Below.on A0 A0.size hb1
      have T1 := hid (HT.out.on (by simp; omega) hb1)
      have x0 : w1.cell? ⟨w.heap.size, 0, none⟩ = some (.int .i64 s.Id) := (hb1.cell (by simp)).trans (by simp [go_sem])
      have x1 : w1.cell? ⟨w.heap.size, 1, none⟩ = some (.string s.Name) := (hb1.cell (by simp)).trans (by simp [go_sem])
      have x2 : w1.cell? ⟨w.heap.size, 2, none⟩ = some (.int .i64 s.Joined) := (hb1.cell (by simp)).trans (by simp [go_sem])
      have x3 : w1.cell? ⟨w.heap.size, 3, none⟩ = some (.int .i64 s.Class) := (hb1.cell (by simp)).trans (by simp [go_sem])
      have x4 : w1.cell? ⟨w.heap.size, 4, none⟩ = some (.int .i64 s.Fines) := (hb1.cell (by simp)).trans (by simp [go_sem])
      have hz : w.heap.size < w1.heap.size := by have := hb1.size; simp at this; omega
      have hBw : B ≤ w1.heap.size := by omega
      have hq := fun x : Later w1 => x.cell
      have TL := hid (fun x : Later w1 => T1.out.later hBw x)
      go_wp2_with fail
      refine region_later (by kernel_rfl) (by kernel_rfl) ?_
      go_big_quiet_step (fail)
      go_big_quiet_step (fail)
      go_big_quiet_step ((go_at_call 45; refine calls_later (text_implT (by omega) (by omega) HT0.out B _ (TL.out _))))
      go_big_quiet_step (fail)
      go_big_quiet_step (fail)
      go_big_quiet_step (fail)
      go_big_quiet_step (fail)
      go_big_quiet_step (fail)
      go_big_quiet_step (fail)
      go_big_quiet_step (fail)
      go_big_quiet_step ((go_at_call 45; refine calls_later (text_implT (by omega) (by omega) HT4.out B _ (TL.out _))))
      go_big_quiet_step (fail)
      go_big_quiet_step (fail)
      go_big_quiet_step (fail)
      go_big_quiet_step (fail)
      go_big_quiet_step ((go_at_call 45; refine calls_later (text_implT (by omega) (by omega) HT6.out B _ (TL.out _))))
      go_big_quiet_step (fail)
      go_big_quiet_step (fail)
      refine wpQuiet_nil ?_
      intro _ hw'
      obtain ⟨x, rfl⟩ := hw'
      have B2 : Below w.heap.size w x.wd := Below.on B1 B1.size x.below
      have lx : w.heap.size < x.wd.heap.size := by have := x.size; omega
      have y0 : x.wd.cell? ⟨w.heap.size, 0, none⟩ = some (.int .i64 s.Id) := (x.cell _ _ hz).trans x0
      have y1 : x.wd.cell? ⟨w.heap.size, 1, none⟩ = some (.string s.Name) := (x.cell _ _ hz).trans x1
      have y2 : x.wd.cell? ⟨w.heap.size, 2, none⟩ = some (.int .i64 s.Joined) := (x.cell _ _ hz).trans x2
      have y3 : x.wd.cell? ⟨w.heap.size, 3, none⟩ = some (.int .i64 s.Class) := (x.cell _ _ hz).trans x3
      have y4 : x.wd.cell? ⟨w.heap.size, 4, none⟩ = some (.int .i64 s.Fines) := (x.cell _ _ hz).trans x4
      clear hq
      go_wp2_with fail
      go_ret2
      exact ⟨by rw [HS.out, rtTx_yes HS.out, HR.out]; rfl, B2⟩
  · have HS := hid (show readerB s = false by simpa using hs)
    have h' := HS.out
    clear hs
    go_enter Tryd.func35, Tryd.ntmps35
    go_wp2_with fail
    refine (reader_impl s HNM.out _).mono ?_
    rintro e w1 ⟨rfl, hb1⟩
    have B1 := Below.on A0 A0.size hb1
    go_wp2_with fail
    go_ret2
    exact ⟨by rw [HS.out, rtTx_no HS.out]; rfl, B1⟩

set_option maxHeartbeats 1000000 in
theorem walk_ExactReaderText (w : World) (s0 : ReaderD) (ok0 : s0.ok) (ht : Tb w.heap.size w) : Calls Tryd.prog 10 #[s0.val] w fun e w' => e = .returned (.bool true) ∧ Below w.heap.size w w' := by
  have C0 : Below (w.alloc (.cells #[.int .i64 s0.Id, .string s0.Name, .int .i64 s0.Joined, .int .i64 s0.Class, .int .i64 s0.Fines] 48)).heap.size (w.alloc (.cells #[.int .i64 s0.Id, .string s0.Name, .int .i64 s0.Joined, .int .i64 s0.Class, .int .i64 s0.Fines] 48)) (w.alloc (.cells #[.int .i64 s0.Id, .string s0.Name, .int .i64 s0.Joined, .int .i64 s0.Class, .int .i64 s0.Fines] 48)) := Below.refl _ _
  have D0 : Below w.heap.size w (w.alloc (.cells #[.int .i64 s0.Id, .string s0.Name, .int .i64 s0.Joined, .int .i64 s0.Class, .int .i64 s0.Fines] 48)) := by go_grown
  have hsz : s0.Name.size ≤ maxLen := ok0.2.1
  have HNM := hid hsz
  clear ok0
  have HT := hid ht
  clear ht
  by_cases hL : (s0.Name.size : Int) ≤ 1048576
  · go_enter Tryd.func10, Tryd.ntmps10
    go_wp2_with fail
    refine (szReader_any s0 _ 1048576 (by omega) (by omega) hsz).mono ?_
    rintro e w1 ⟨rfl, hb1⟩
    have C1 : Below (w.alloc (.cells #[.int .i64 s0.Id, .string s0.Name, .int .i64 s0.Joined, .int .i64 s0.Class, .int .i64 s0.Fines] 48)).heap.size (w.alloc (.cells #[.int .i64 s0.Id, .string s0.Name, .int .i64 s0.Joined, .int .i64 s0.Class, .int .i64 s0.Fines] 48)) w1 := Below.on C0 C0.size hb1
    rw [if_pos hL]
    have x0 : w1.cell? ⟨w.heap.size, 0, none⟩ = some (.int .i64 s0.Id) := (C1.cell (by simp)).trans (by simp [go_sem])
    have x1 : w1.cell? ⟨w.heap.size, 1, none⟩ = some (.string s0.Name) := (C1.cell (by simp)).trans (by simp [go_sem])
    have x2 : w1.cell? ⟨w.heap.size, 2, none⟩ = some (.int .i64 s0.Joined) := (C1.cell (by simp)).trans (by simp [go_sem])
    have x3 : w1.cell? ⟨w.heap.size, 3, none⟩ = some (.int .i64 s0.Class) := (C1.cell (by simp)).trans (by simp [go_sem])
    have x4 : w1.cell? ⟨w.heap.size, 4, none⟩ = some (.int .i64 s0.Fines) := (C1.cell (by simp)).trans (by simp [go_sem])
    go_wp2_with fail
    refine (toReader_any s0 _).mono ?_
    rintro e w2 ⟨rfl, hb2⟩
    have C2 : Below (w.alloc (.cells #[.int .i64 s0.Id, .string s0.Name, .int .i64 s0.Joined, .int .i64 s0.Class, .int .i64 s0.Fines] 48)).heap.size (w.alloc (.cells #[.int .i64 s0.Id, .string s0.Name, .int .i64 s0.Joined, .int .i64 s0.Class, .int .i64 s0.Fines] 48)) w2 := Below.on C1 C1.size hb2
    have x0 : w2.cell? ⟨w.heap.size, 0, none⟩ = some (.int .i64 s0.Id) := (C2.cell (by simp)).trans (by simp [go_sem])
    have x1 : w2.cell? ⟨w.heap.size, 1, none⟩ = some (.string s0.Name) := (C2.cell (by simp)).trans (by simp [go_sem])
    have x2 : w2.cell? ⟨w.heap.size, 2, none⟩ = some (.int .i64 s0.Joined) := (C2.cell (by simp)).trans (by simp [go_sem])
    have x3 : w2.cell? ⟨w.heap.size, 3, none⟩ = some (.int .i64 s0.Class) := (C2.cell (by simp)).trans (by simp [go_sem])
    have x4 : w2.cell? ⟨w.heap.size, 4, none⟩ = some (.int .i64 s0.Fines) := (C2.cell (by simp)).trans (by simp [go_sem])
    go_wp2_with fail
    refine (readerText_spec s0 HNM.out _).mono ?_
    rintro e w3 ⟨rfl, hb3⟩
    have C3 : Below (w.alloc (.cells #[.int .i64 s0.Id, .string s0.Name, .int .i64 s0.Joined, .int .i64 s0.Class, .int .i64 s0.Fines] 48)).heap.size (w.alloc (.cells #[.int .i64 s0.Id, .string s0.Name, .int .i64 s0.Joined, .int .i64 s0.Class, .int .i64 s0.Fines] 48)) w3 := Below.on C2 C2.size hb3
    have x0 : w3.cell? ⟨w.heap.size, 0, none⟩ = some (.int .i64 s0.Id) := (C3.cell (by simp)).trans (by simp [go_sem])
    have x1 : w3.cell? ⟨w.heap.size, 1, none⟩ = some (.string s0.Name) := (C3.cell (by simp)).trans (by simp [go_sem])
    have x2 : w3.cell? ⟨w.heap.size, 2, none⟩ = some (.int .i64 s0.Joined) := (C3.cell (by simp)).trans (by simp [go_sem])
    have x3 : w3.cell? ⟨w.heap.size, 3, none⟩ = some (.int .i64 s0.Class) := (C3.cell (by simp)).trans (by simp [go_sem])
    have x4 : w3.cell? ⟨w.heap.size, 4, none⟩ = some (.int .i64 s0.Fines) := (C3.cell (by simp)).trans (by simp [go_sem])
    go_wp2_with fail
    refine (toReader_any s0 _).mono ?_
    rintro e w4 ⟨rfl, hb4⟩
    have C4 : Below (w.alloc (.cells #[.int .i64 s0.Id, .string s0.Name, .int .i64 s0.Joined, .int .i64 s0.Class, .int .i64 s0.Fines] 48)).heap.size (w.alloc (.cells #[.int .i64 s0.Id, .string s0.Name, .int .i64 s0.Joined, .int .i64 s0.Class, .int .i64 s0.Fines] 48)) w4 := Below.on C3 C3.size hb4
    have x0 : w4.cell? ⟨w.heap.size, 0, none⟩ = some (.int .i64 s0.Id) := (C4.cell (by simp)).trans (by simp [go_sem])
    have x1 : w4.cell? ⟨w.heap.size, 1, none⟩ = some (.string s0.Name) := (C4.cell (by simp)).trans (by simp [go_sem])
    have x2 : w4.cell? ⟨w.heap.size, 2, none⟩ = some (.int .i64 s0.Joined) := (C4.cell (by simp)).trans (by simp [go_sem])
    have x3 : w4.cell? ⟨w.heap.size, 3, none⟩ = some (.int .i64 s0.Class) := (C4.cell (by simp)).trans (by simp [go_sem])
    have x4 : w4.cell? ⟨w.heap.size, 4, none⟩ = some (.int .i64 s0.Fines) := (C4.cell (by simp)).trans (by simp [go_sem])
    go_wp2_with fail
    refine (readerText_impl s0 HNM.out w.heap.size _ ((Below.on D0 D0.size C4).size) (HT.out.via (Below.on D0 D0.size C4))).mono ?_
    rintro e w5 ⟨rfl, hb5⟩
    have C5 : Below (w.alloc (.cells #[.int .i64 s0.Id, .string s0.Name, .int .i64 s0.Joined, .int .i64 s0.Class, .int .i64 s0.Fines] 48)).heap.size (w.alloc (.cells #[.int .i64 s0.Id, .string s0.Name, .int .i64 s0.Joined, .int .i64 s0.Class, .int .i64 s0.Fines] 48)) w5 := Below.on C4 C4.size hb5
    go_wp2_with fail
    go_ret
    exact ⟨rfl, Below.on D0 D0.size C5⟩
  · go_enter Tryd.func10, Tryd.ntmps10
    go_wp2_with fail
    refine (szReader_any s0 _ 1048576 (by omega) (by omega) hsz).mono ?_
    rintro e w1 ⟨rfl, hb1⟩
    rw [if_neg (by omega)]
    go_wp2_with fail
    go_ret
    exact ⟨rfl, Below.on D0 D0.size hb1⟩

end Go.Proofs.YteklomkncfjdlaaDoor
