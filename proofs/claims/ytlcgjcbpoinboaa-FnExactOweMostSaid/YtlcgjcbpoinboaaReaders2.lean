/-
  Lists of readers and of makers: which are valid; by the program and by the reference. No condition.
-/
import Derived.Test.YtlcgjcbpoinboaaListReader
namespace Go.Proofs.Ytlcgjcbpoinboaa
open Go.RowKit
set_option linter.unusedVariables false

/-- Element k of a list of n is valid in its place. -/
def readerOk (X : Nat → ReaderD) (n k : Nat) : Bool := readerB (X k) && (k == 0 || decide ((X (k - 1)).Id < (X k).Id))
def readersB (X : Nat → ReaderD) (n : Nat) : Bool := decide (n ≤ 10) && allI (readerOk X n) n
theorem readersB_true {X : Nat → ReaderD} {n : Nat} (h : n ≤ 10) (hh : ∀ i, i < n → readerOk X n i = true) : readersB X n = true := by simp [readersB, h, allI_true.2 hh]
theorem readersB_bad {X : Nat → ReaderD} {n k : Nat} (h : k < n) (hp : readerOk X n k = false) : readersB X n = false := by simp [readersB, allI_false h hp]
theorem readersB_long {X : Nat → ReaderD} {n : Nat} (h : ¬ n ≤ 10) : readersB X n = false := by simp [readersB, h]
theorem readersB_end {X : Nat → ReaderD} {n : Nat} (hh : ∀ i, i < n → readerOk X n i = true) : decide ((n : Int) ≤ 10) = readersB X n := by
  by_cases h : n ≤ 10
  · rw [readersB_true h hh]; simp; omega
  · rw [readersB_long h]; simp; omega
theorem readersB_le {X : Nat → ReaderD} {n : Nat} (h : readersB X n = true) : n ≤ 10 := by simp [readersB] at h; exact h.1
theorem readersB_at {X : Nat → ReaderD} {n k : Nat} (h : readersB X n = true) (hk : k < n) : readerOk X n k = true := by simp [readersB] at h; exact allI_true.1 h.2 k hk

set_option maxHeartbeats 4000000 in
theorem readers_spec (w : World) (b off len cap : Nat) (X : Nat → ReaderD) (h : Rw w b off 5 len (fun i => (X i).cells)) (hm : len ≤ 1048576) (hlc : len ≤ cap) (hnm0 : ∀ i, i < len → (X i).Name.size ≤ maxLen) :
    Calls Try.prog 60 #[.slice (some ⟨b, off, none⟩) len cap] w fun e w' => e = .returned (.bool (readersB X len)) ∧ Below w.heap.size w w' := by
  have H := hid h
  have hb := h.1
  clear h
  have hnm := hid hnm0
  clear hnm0
  go_enter Try.func60, Try.ntmps60
  go_wp2
  go_loopw [3] (fun i wr => ∃ k : Nat, k ≤ len ∧ i = .int .i64 k ∧ Below w.heap.size w wr ∧ Hid (∀ i, i < k → readerOk X len i = true)) (fun i _ => len - (intOf i).toNat)
  case atStart => exact ⟨0, by omega, rfl, Below.refl _ _, fun i hi => absurd hi (by omega)⟩
  case round =>
    obtain ⟨k, hk, rfl, hB, hf⟩ := hrel
    by_cases hlt : k < len
    · have c0 : wr.cell? ⟨b, off + k * 5, none⟩ = some (.int .i64 (X k).Id) := (hB.cell hb).trans (H.out.2 k hlt 0 (by omega))
      have c1 : wr.cell? ⟨b, off + k * 5 + 1, none⟩ = some (.string (X k).Name) := (hB.cell hb).trans (H.out.2 k hlt 1 (by omega))
      have c2 : wr.cell? ⟨b, off + k * 5 + 2, none⟩ = some (.int .i64 (X k).Joined) := (hB.cell hb).trans (H.out.2 k hlt 2 (by omega))
      have c3 : wr.cell? ⟨b, off + k * 5 + 3, none⟩ = some (.int .i64 (X k).Class) := (hB.cell hb).trans (H.out.2 k hlt 3 (by omega))
      have c4 : wr.cell? ⟨b, off + k * 5 + 4, none⟩ = some (.int .i64 (X k).Fines) := (hB.cell hb).trans (H.out.2 k hlt 4 (by omega))
      have hbr : b < wr.heap.size := by have := hB.size; omega
      have hbr1 : b < wr.heap.size + 1 := by omega
      by_cases h1 : readerB (X k) = true
      · by_cases h2 : 0 < k
        · have e0 : IntKind.i64.wrap ((k : Int) - 1) = (k : Int) - 1 := IntWalk.i64_in _ (by omega)
          have e1 : ((k : Int) - 1).toNat = k - 1 := by omega
          have e2 : (0 : Int) ≤ (k : Int) - 1 := by omega
          have e3 : (k : Int) - 1 < (len : Int) := by omega
          have p0 : wr.cell? ⟨b, off + (k - 1) * 5, none⟩ = some (.int .i64 (X (k - 1)).Id) := (hB.cell hb).trans (H.out.2 (k - 1) (by omega) 0 (by omega))
          by_cases h3 : (X (k - 1)).Id < (X k).Id
          · have d3 : decide ((X k).Id ≤ (X (k - 1)).Id) = false := by simp; omega
            have hok : Hid (readerOk X len k = true) := by simp [Hid, readerOk, h1, h3]
            clear h3
            go_wp2
            have hq := fun x : Later (wr) => x.cell
            refine region_later (by kernel_rfl) (by kernel_rfl) ?_
            repeat (go_big_quiet_step (first | (go_at_call 57; refine calls_later (reader_spec (X k) (hnm.out k hlt) _))))
            refine wpQuiet_nil ?_
            intro _ hw'
            obtain ⟨x, rfl⟩ := hw'
            have hB1 : Below w.heap.size w x.wd := Below.on hB hB.size x.below
            clear hq
            go_wp2
            go_roundw
            case rel => exact ⟨k + 1, by omega, by go_num, hB1, fun i hi => by by_cases hik : i < k; exact hf.out i hik; rw [show i = k by omega]; exact hok.out⟩
            case measure => simp [intOf]; omega
          · have d3 : decide ((X k).Id ≤ (X (k - 1)).Id) = true := by simp; omega
            have hok : Hid (readerOk X len k = false) := by simp [Hid, readerOk, h1, h3]; omega
            clear h3
            go_wp2
            have hq := fun x : Later (wr) => x.cell
            refine region_later (by kernel_rfl) (by kernel_rfl) ?_
            repeat (go_big_quiet_step (first | (go_at_call 57; refine calls_later (reader_spec (X k) (hnm.out k hlt) _))))
            refine wpQuiet_nil ?_
            intro _ hw'
            obtain ⟨x, rfl⟩ := hw'
            have hB1 : Below w.heap.size w x.wd := Below.on hB hB.size x.below
            clear hq
            go_wp2
            go_ret
            exact ⟨ret_bool (readersB_bad hlt hok.out).symm, hB1⟩
        · have hkz : (k == 0) = true := by simp; omega
          have hok : Hid (readerOk X len k = true) := by unfold Hid readerOk; rw [h1, hkz]; rfl
          clear hkz
          go_wp2
          have hq := fun x : Later (wr) => x.cell
          refine region_later (by kernel_rfl) (by kernel_rfl) ?_
          repeat (go_big_quiet_step (first | (go_at_call 57; refine calls_later (reader_spec (X k) (hnm.out k hlt) _))))
          refine wpQuiet_nil ?_
          intro _ hw'
          obtain ⟨x, rfl⟩ := hw'
          have hB1 : Below w.heap.size w x.wd := Below.on hB hB.size x.below
          clear hq
          go_wp2
          go_roundw
          case rel => exact ⟨k + 1, by omega, by go_num, hB1, fun i hi => by by_cases hik : i < k; exact hf.out i hik; rw [show i = k by omega]; exact hok.out⟩
          case measure => simp [intOf]; omega
      · have h1' : readerB (X k) = false := by simpa using h1
        have hok : Hid (readerOk X len k = false) := by simp [Hid, readerOk, h1']
        clear h1
        go_wp2
        have hq := fun x : Later (wr) => x.cell
        refine region_later (by kernel_rfl) (by kernel_rfl) ?_
        repeat (go_big_quiet_step (first | (go_at_call 57; refine calls_later (reader_spec (X k) (hnm.out k hlt) _))))
        refine wpQuiet_nil ?_
        intro _ hw'
        obtain ⟨x, rfl⟩ := hw'
        have hB1 : Below w.heap.size w x.wd := Below.on hB hB.size x.below
        clear hq
        go_wp2
        go_ret
        exact ⟨ret_bool (readersB_bad hlt hok.out).symm, hB1⟩
    · go_wp2_with fail
      go_ret
      exact ⟨ret_bool (readersB_end (fun i hi => hf.out i (by omega))), hB⟩

set_option maxHeartbeats 4000000 in
theorem readers_impl (w : World) (b off len cap : Nat) (X : Nat → ReaderD) (h : Rw w b off 5 len (fun i => (X i).cells)) (hm : len ≤ 1048576) (hlc : len ≤ cap) (hnm0 : ∀ i, i < len → (X i).Name.size ≤ maxLen) :
    Calls Try.prog 26 #[.slice (some ⟨b, off, none⟩) len cap] w fun e w' => e = .returned (.bool (readersB X len)) ∧ Below w.heap.size w w' := by
  have H := hid h
  have hb := h.1
  clear h
  have hnm := hid hnm0
  clear hnm0
  go_enter Try.func26, Try.ntmps26
  go_wp2
  go_loopw [7] (fun i wr => ∃ k : Nat, k ≤ len ∧ i = .int .i64 k ∧ Below w.heap.size w wr ∧ Hid (∀ i, i < k → readerOk X len i = true)) (fun i _ => len - (intOf i).toNat)
  case atStart => exact ⟨0, by omega, rfl, Below.refl _ _, fun i hi => absurd hi (by omega)⟩
  case round =>
    obtain ⟨k, hk, rfl, hB, hf⟩ := hrel
    by_cases hlt : k < len
    · have c0 : wr.cell? ⟨b, off + k * 5, none⟩ = some (.int .i64 (X k).Id) := (hB.cell hb).trans (H.out.2 k hlt 0 (by omega))
      have c1 : wr.cell? ⟨b, off + k * 5 + 1, none⟩ = some (.string (X k).Name) := (hB.cell hb).trans (H.out.2 k hlt 1 (by omega))
      have c2 : wr.cell? ⟨b, off + k * 5 + 2, none⟩ = some (.int .i64 (X k).Joined) := (hB.cell hb).trans (H.out.2 k hlt 2 (by omega))
      have c3 : wr.cell? ⟨b, off + k * 5 + 3, none⟩ = some (.int .i64 (X k).Class) := (hB.cell hb).trans (H.out.2 k hlt 3 (by omega))
      have c4 : wr.cell? ⟨b, off + k * 5 + 4, none⟩ = some (.int .i64 (X k).Fines) := (hB.cell hb).trans (H.out.2 k hlt 4 (by omega))
      have hbr : b < wr.heap.size := by have := hB.size; omega
      have hbr1 : b < wr.heap.size + 1 := by omega
      by_cases h1 : readerB (X k) = true
      · by_cases h2 : 0 < k
        · have e0 : IntKind.i64.wrap ((k : Int) - 1) = (k : Int) - 1 := IntWalk.i64_in _ (by omega)
          have e1 : ((k : Int) - 1).toNat = k - 1 := by omega
          have e2 : (0 : Int) ≤ (k : Int) - 1 := by omega
          have e3 : (k : Int) - 1 < (len : Int) := by omega
          have p0 : wr.cell? ⟨b, off + (k - 1) * 5, none⟩ = some (.int .i64 (X (k - 1)).Id) := (hB.cell hb).trans (H.out.2 (k - 1) (by omega) 0 (by omega))
          by_cases h3 : (X (k - 1)).Id < (X k).Id
          · have d3 : decide ((X k).Id ≤ (X (k - 1)).Id) = false := by simp; omega
            have hok : Hid (readerOk X len k = true) := by simp [Hid, readerOk, h1, h3]
            clear h3
            go_wp2
            have hq := fun x : Later (wr.alloc (.cells #[.int .i64 (X k).Id, .string (X k).Name, .int .i64 (X k).Joined, .int .i64 (X k).Class, .int .i64 (X k).Fines] 33)) => x.cell
            refine region_later (by kernel_rfl) (by kernel_rfl) ?_
            repeat (go_big_quiet_step (first | (go_at_call 22; refine calls_later (reader_impl (X k) (hnm.out k hlt) _))))
            refine wpQuiet_nil ?_
            intro _ hw'
            obtain ⟨x, rfl⟩ := hw'
            have hB1 : Below w.heap.size w x.wd := Below.on (hB.alloc hB.size _) (by have := hB.size; simp; omega) x.below
            clear hq
            go_wp2
            go_roundw
            case rel => exact ⟨k + 1, by omega, by go_num, hB1, fun i hi => by by_cases hik : i < k; exact hf.out i hik; rw [show i = k by omega]; exact hok.out⟩
            case measure => simp [intOf]; omega
          · have d3 : decide ((X k).Id ≤ (X (k - 1)).Id) = true := by simp; omega
            have hok : Hid (readerOk X len k = false) := by simp [Hid, readerOk, h1, h3]; omega
            clear h3
            go_wp2
            have hq := fun x : Later (wr.alloc (.cells #[.int .i64 (X k).Id, .string (X k).Name, .int .i64 (X k).Joined, .int .i64 (X k).Class, .int .i64 (X k).Fines] 33)) => x.cell
            refine region_later (by kernel_rfl) (by kernel_rfl) ?_
            repeat (go_big_quiet_step (first | (go_at_call 22; refine calls_later (reader_impl (X k) (hnm.out k hlt) _))))
            refine wpQuiet_nil ?_
            intro _ hw'
            obtain ⟨x, rfl⟩ := hw'
            have hB1 : Below w.heap.size w x.wd := Below.on (hB.alloc hB.size _) (by have := hB.size; simp; omega) x.below
            clear hq
            go_wp2
            go_ret
            exact ⟨ret_bool (readersB_bad hlt hok.out).symm, hB1⟩
        · have hkz : (k == 0) = true := by simp; omega
          have hok : Hid (readerOk X len k = true) := by unfold Hid readerOk; rw [h1, hkz]; rfl
          clear hkz
          go_wp2
          have hq := fun x : Later (wr.alloc (.cells #[.int .i64 (X k).Id, .string (X k).Name, .int .i64 (X k).Joined, .int .i64 (X k).Class, .int .i64 (X k).Fines] 33)) => x.cell
          refine region_later (by kernel_rfl) (by kernel_rfl) ?_
          repeat (go_big_quiet_step (first | (go_at_call 22; refine calls_later (reader_impl (X k) (hnm.out k hlt) _))))
          refine wpQuiet_nil ?_
          intro _ hw'
          obtain ⟨x, rfl⟩ := hw'
          have hB1 : Below w.heap.size w x.wd := Below.on (hB.alloc hB.size _) (by have := hB.size; simp; omega) x.below
          clear hq
          go_wp2
          go_roundw
          case rel => exact ⟨k + 1, by omega, by go_num, hB1, fun i hi => by by_cases hik : i < k; exact hf.out i hik; rw [show i = k by omega]; exact hok.out⟩
          case measure => simp [intOf]; omega
      · have h1' : readerB (X k) = false := by simpa using h1
        have hok : Hid (readerOk X len k = false) := by simp [Hid, readerOk, h1']
        clear h1
        go_wp2
        have hq := fun x : Later (wr.alloc (.cells #[.int .i64 (X k).Id, .string (X k).Name, .int .i64 (X k).Joined, .int .i64 (X k).Class, .int .i64 (X k).Fines] 33)) => x.cell
        refine region_later (by kernel_rfl) (by kernel_rfl) ?_
        repeat (go_big_quiet_step (first | (go_at_call 22; refine calls_later (reader_impl (X k) (hnm.out k hlt) _))))
        refine wpQuiet_nil ?_
        intro _ hw'
        obtain ⟨x, rfl⟩ := hw'
        have hB1 : Below w.heap.size w x.wd := Below.on (hB.alloc hB.size _) (by have := hB.size; simp; omega) x.below
        clear hq
        go_wp2
        go_ret
        exact ⟨ret_bool (readersB_bad hlt hok.out).symm, hB1⟩
    · go_wp2_with fail
      go_ret
      exact ⟨ret_bool (readersB_end (fun i hi => hf.out i (by omega))), hB⟩

theorem areReaders_spec (w : World) (b off len cap : Nat) (X : Nat → ReaderD) (h : Rw w b off 5 len (fun i => (X i).cells)) (hm : len ≤ 1048576) (hlc : len ≤ cap) (hnm : ∀ i, i < len → (X i).Name.size ≤ maxLen) :
    Calls Try.prog 24 #[.slice (some ⟨b, off, none⟩) len cap] w fun e w' => e = .returned (.bool (readersB X len)) ∧ Below w.heap.size w w' := by
  go_enter Try.func24, Try.ntmps24
  go_wp2_with (go_at_call 60; refine (readers_spec _ b off len cap X h hm hlc hnm).mono ?_; rintro e w' ⟨rfl, hb⟩)
  go_ret
  exact ⟨rfl, hb⟩

set_option maxHeartbeats 2000000 in
theorem walk_ExactAreReaders (w : World) (p0 : Option Addr) (len0 cap0 : Nat) (X0 : Nat → ReaderD) (h0 : Sl w 5 p0 len0 (fun i => (X0 i).cells)) (ok0 : ∀ i, i < len0 → (X0 i).ok) (hm0 : len0 ≤ maxLen) :
    Calls Try.prog 5 #[.slice p0 len0 cap0] w fun e w' => e = .returned (.bool true) ∧ Below w.heap.size w w' := by
  go_enter Try.func5, Try.ntmps5
  go_wp2_with fail
  refine (szReaderS_any p0 len0 cap0 X0 _ h0 ok0 hm0).mono ?_
  rintro e w0 ⟨r, rfl, hb0, hr⟩
  clear ok0
  by_cases hr0 : r < 0
  · go_wp2_with fail
    go_ret
    exact ⟨rfl, hb0⟩
  · obtain ⟨hL, hnm⟩ := hr (by omega)
    clear hr
    go_wp2_with fail
    refine (toReaderS_any p0 len0 cap0 X0 _ (h0.below hb0) (by omega)).mono ?_
    rintro e w1 ⟨rfl, hb1, hs1, F1⟩
    have B1 : Below w.heap.size w w1 := Below.on hb0 hb0.size hb1
    go_wp2_with fail
    refine (areReaders_spec _ _ 0 len0 len0 X0 F1.rw (by omega) (Nat.le_refl _) (fun i hi => by have := hnm i hi; unfold maxLen; omega)).mono ?_
    rintro e w2 ⟨rfl, hb2⟩
    have B2 : Below w.heap.size w w2 := Below.on B1 B1.size hb2
    go_wp2_with fail
    refine (toReaderS_any p0 len0 cap0 X0 _ (h0.below B2) (by omega)).mono ?_
    rintro e w3 ⟨rfl, hb3, hs3, F3⟩
    have B3 : Below w.heap.size w w3 := Below.on B2 B2.size hb3
    go_wp2_with fail
    refine (readers_impl _ _ 0 len0 len0 X0 F3.rw (by omega) (Nat.le_refl _) (fun i hi => by have := hnm i hi; unfold maxLen; omega)).mono ?_
    rintro e w4 ⟨rfl, hb4⟩
    have B4 : Below w.heap.size w w4 := Below.on B3 B3.size hb4
    go_wp2_with fail
    refine (toReaderS_any p0 len0 cap0 X0 _ (h0.below B4) (by omega)).mono ?_
    rintro e w5 ⟨rfl, hb5, hs5, F5⟩
    have B5 : Below w.heap.size w w5 := Below.on B4 B4.size hb5
    go_wp2_with fail
    refine (eqReaderS_same _ _ 0 0 len0 len0 len0 X0 _ ((F3.rw.later' hb4).later' hb5) F5.rw (by omega) (Nat.le_refl _) (Nat.le_refl _)).mono ?_
    rintro e w6 ⟨rfl, hb6⟩
    have B6 : Below w.heap.size w w6 := Below.on B5 B5.size hb6
    go_wp2_with fail
    go_ret
    exact ⟨rfl, B6⟩

end Go.Proofs.Ytlcgjcbpoinboaa
