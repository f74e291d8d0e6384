/-
  Lists of zones: which are valid, where a zone lies; by the program and by the reference. No condition.
-/
import Derived.Test.YtcnjafpfkdaoeaaWalks2
import Derived.Test.YtcnjafpfkdaoeaaListZone
namespace Go.Proofs.Ytcnjafpfkdaoeaa
open Go.RowKit
set_option linter.unusedVariables false

/-- Element k of a list of n is valid in its place. -/
def zoneOk (X : Nat → ZoneD) (n k : Nat) : Bool := zoneB (X k) && (k == 0 || decide ((X (k - 1)).Id < (X k).Id))
def zonesB (X : Nat → ZoneD) (n : Nat) : Bool := decide (n ≤ 10) && allI (zoneOk X n) n
theorem zonesB_true {X : Nat → ZoneD} {n : Nat} (h : n ≤ 10) (hh : ∀ i, i < n → zoneOk X n i = true) : zonesB X n = true := by simp [zonesB, h, allI_true.2 hh]
theorem zonesB_bad {X : Nat → ZoneD} {n k : Nat} (h : k < n) (hp : zoneOk X n k = false) : zonesB X n = false := by simp [zonesB, allI_false h hp]
theorem zonesB_long {X : Nat → ZoneD} {n : Nat} (h : ¬ n ≤ 10) : zonesB X n = false := by simp [zonesB, h]
theorem zonesB_end {X : Nat → ZoneD} {n : Nat} (hh : ∀ i, i < n → zoneOk X n i = true) : decide ((n : Int) ≤ 10) = zonesB X n := by
  by_cases h : n ≤ 10
  · rw [zonesB_true h hh]; simp; omega
  · rw [zonesB_long h]; simp; omega
theorem zonesB_le {X : Nat → ZoneD} {n : Nat} (h : zonesB X n = true) : n ≤ 10 := by simp [zonesB] at h; exact h.1
theorem zonesB_at {X : Nat → ZoneD} {n k : Nat} (h : zonesB X n = true) (hk : k < n) : zoneOk X n k = true := by simp [zonesB] at h; exact allI_true.1 h.2 k hk

set_option maxHeartbeats 4000000 in
theorem zones_spec (w : World) (b off len cap : Nat) (X : Nat → ZoneD) (h : Rw w b off 5 len (fun i => (X i).cells)) (hm : len ≤ 1048576) (hlc : len ≤ cap) :
    Calls Try.prog 36 #[.slice (some ⟨b, off, none⟩) len cap] w fun e w' => e = .returned (.bool (zonesB X len)) ∧ Below w.heap.size w w' := by
  have H := hid h
  have hb := h.1
  clear h
  go_enter Try.func36, Try.ntmps36
  go_wp2
  go_loopw [3] (fun i wr => ∃ k : Nat, k ≤ len ∧ i = .int .i64 k ∧ Below w.heap.size w wr ∧ Hid (∀ i, i < k → zoneOk X len i = true)) (fun i _ => len - (intOf i).toNat)
  case atStart => exact ⟨0, by omega, rfl, Below.refl _ _, fun i hi => absurd hi (by omega)⟩
  case round =>
    obtain ⟨k, hk, rfl, hB, hf⟩ := hrel
    by_cases hlt : k < len
    · have c0 : wr.cell? ⟨b, off + k * 5, none⟩ = some (.int .i64 (X k).Id) := (hB.cell hb).trans (H.out.2 k hlt 0 (by omega))
      have c1 : wr.cell? ⟨b, off + k * 5 + 1, none⟩ = some (.int .i64 (X k).West) := (hB.cell hb).trans (H.out.2 k hlt 1 (by omega))
      have c2 : wr.cell? ⟨b, off + k * 5 + 2, none⟩ = some (.int .i64 (X k).South) := (hB.cell hb).trans (H.out.2 k hlt 2 (by omega))
      have c3 : wr.cell? ⟨b, off + k * 5 + 3, none⟩ = some (.int .i64 (X k).East) := (hB.cell hb).trans (H.out.2 k hlt 3 (by omega))
      have c4 : wr.cell? ⟨b, off + k * 5 + 4, none⟩ = some (.int .i64 (X k).North) := (hB.cell hb).trans (H.out.2 k hlt 4 (by omega))
      have hbr : b < wr.heap.size := by have := hB.size; omega
      have hbr1 : b < wr.heap.size + 1 := by omega
      by_cases h1 : zoneB (X k) = true
      · by_cases h2 : 0 < k
        · have e0 : IntKind.i64.wrap ((k : Int) - 1) = (k : Int) - 1 := IntWalk.i64_in _ (by omega)
          have e1 : ((k : Int) - 1).toNat = k - 1 := by omega
          have e2 : (0 : Int) ≤ (k : Int) - 1 := by omega
          have e3 : (k : Int) - 1 < (len : Int) := by omega
          have p0 : wr.cell? ⟨b, off + (k - 1) * 5, none⟩ = some (.int .i64 (X (k - 1)).Id) := (hB.cell hb).trans (H.out.2 (k - 1) (by omega) 0 (by omega))
          by_cases h3 : (X (k - 1)).Id < (X k).Id
          · have d3 : decide ((X k).Id ≤ (X (k - 1)).Id) = false := by simp; omega
            have hok : Hid (zoneOk X len k = true) := by simp [Hid, zoneOk, h1, h3]
            clear h3
            go_wp2
            have hq := fun x : Later (wr) => x.cell
            refine region_later (by kernel_rfl) (by kernel_rfl) ?_
            repeat (go_big_quiet_step (first | (go_at_call 43; refine calls_later (zone_spec (X k) _))))
            refine wpQuiet_nil ?_
            intro _ hw'
            obtain ⟨x, rfl⟩ := hw'
            have hB1 : Below w.heap.size w x.wd := Below.on hB hB.size x.below
            clear hq
            go_wp2
            go_roundw
            case rel => exact ⟨k + 1, by omega, by go_num, hB1, fun i hi => by by_cases hik : i < k; exact hf.out i hik; rw [show i = k by omega]; exact hok.out⟩
            case measure => simp [intOf]; omega
          · have d3 : decide ((X k).Id ≤ (X (k - 1)).Id) = true := by simp; omega
            have hok : Hid (zoneOk X len k = false) := by simp [Hid, zoneOk, h1, h3]; omega
            clear h3
            go_wp2
            have hq := fun x : Later (wr) => x.cell
            refine region_later (by kernel_rfl) (by kernel_rfl) ?_
            repeat (go_big_quiet_step (first | (go_at_call 43; refine calls_later (zone_spec (X k) _))))
            refine wpQuiet_nil ?_
            intro _ hw'
            obtain ⟨x, rfl⟩ := hw'
            have hB1 : Below w.heap.size w x.wd := Below.on hB hB.size x.below
            clear hq
            go_wp2
            go_ret
            exact ⟨ret_bool (zonesB_bad hlt hok.out).symm, hB1⟩
        · have hkz : (k == 0) = true := by simp; omega
          have hok : Hid (zoneOk X len k = true) := by unfold Hid zoneOk; rw [h1, hkz]; rfl
          clear hkz
          go_wp2
          have hq := fun x : Later (wr) => x.cell
          refine region_later (by kernel_rfl) (by kernel_rfl) ?_
          repeat (go_big_quiet_step (first | (go_at_call 43; refine calls_later (zone_spec (X k) _))))
          refine wpQuiet_nil ?_
          intro _ hw'
          obtain ⟨x, rfl⟩ := hw'
          have hB1 : Below w.heap.size w x.wd := Below.on hB hB.size x.below
          clear hq
          go_wp2
          go_roundw
          case rel => exact ⟨k + 1, by omega, by go_num, hB1, fun i hi => by by_cases hik : i < k; exact hf.out i hik; rw [show i = k by omega]; exact hok.out⟩
          case measure => simp [intOf]; omega
      · have h1' : zoneB (X k) = false := by simpa using h1
        have hok : Hid (zoneOk X len k = false) := by simp [Hid, zoneOk, h1']
        clear h1
        go_wp2
        have hq := fun x : Later (wr) => x.cell
        refine region_later (by kernel_rfl) (by kernel_rfl) ?_
        repeat (go_big_quiet_step (first | (go_at_call 43; refine calls_later (zone_spec (X k) _))))
        refine wpQuiet_nil ?_
        intro _ hw'
        obtain ⟨x, rfl⟩ := hw'
        have hB1 : Below w.heap.size w x.wd := Below.on hB hB.size x.below
        clear hq
        go_wp2
        go_ret
        exact ⟨ret_bool (zonesB_bad hlt hok.out).symm, hB1⟩
    · go_wp2_with fail
      go_ret
      exact ⟨ret_bool (zonesB_end (fun i hi => hf.out i (by omega))), hB⟩

set_option maxHeartbeats 4000000 in
theorem zones_impl (w : World) (b off len cap : Nat) (X : Nat → ZoneD) (h : Rw w b off 5 len (fun i => (X i).cells)) (hm : len ≤ 1048576) (hlc : len ≤ cap) :
    Calls Try.prog 16 #[.slice (some ⟨b, off, none⟩) len cap] w fun e w' => e = .returned (.bool (zonesB X len)) ∧ Below w.heap.size w w' := by
  have H := hid h
  have hb := h.1
  clear h
  go_enter Try.func16, Try.ntmps16
  go_wp2
  go_loopw [7] (fun i wr => ∃ k : Nat, k ≤ len ∧ i = .int .i64 k ∧ Below w.heap.size w wr ∧ Hid (∀ i, i < k → zoneOk X len i = true)) (fun i _ => len - (intOf i).toNat)
  case atStart => exact ⟨0, by omega, rfl, Below.refl _ _, fun i hi => absurd hi (by omega)⟩
  case round =>
    obtain ⟨k, hk, rfl, hB, hf⟩ := hrel
    by_cases hlt : k < len
    · have c0 : wr.cell? ⟨b, off + k * 5, none⟩ = some (.int .i64 (X k).Id) := (hB.cell hb).trans (H.out.2 k hlt 0 (by omega))
      have c1 : wr.cell? ⟨b, off + k * 5 + 1, none⟩ = some (.int .i64 (X k).West) := (hB.cell hb).trans (H.out.2 k hlt 1 (by omega))
      have c2 : wr.cell? ⟨b, off + k * 5 + 2, none⟩ = some (.int .i64 (X k).South) := (hB.cell hb).trans (H.out.2 k hlt 2 (by omega))
      have c3 : wr.cell? ⟨b, off + k * 5 + 3, none⟩ = some (.int .i64 (X k).East) := (hB.cell hb).trans (H.out.2 k hlt 3 (by omega))
      have c4 : wr.cell? ⟨b, off + k * 5 + 4, none⟩ = some (.int .i64 (X k).North) := (hB.cell hb).trans (H.out.2 k hlt 4 (by omega))
      have hbr : b < wr.heap.size := by have := hB.size; omega
      have hbr1 : b < wr.heap.size + 1 := by omega
      by_cases h1 : zoneB (X k) = true
      · by_cases h2 : 0 < k
        · have e0 : IntKind.i64.wrap ((k : Int) - 1) = (k : Int) - 1 := IntWalk.i64_in _ (by omega)
          have e1 : ((k : Int) - 1).toNat = k - 1 := by omega
          have e2 : (0 : Int) ≤ (k : Int) - 1 := by omega
          have e3 : (k : Int) - 1 < (len : Int) := by omega
          have p0 : wr.cell? ⟨b, off + (k - 1) * 5, none⟩ = some (.int .i64 (X (k - 1)).Id) := (hB.cell hb).trans (H.out.2 (k - 1) (by omega) 0 (by omega))
          by_cases h3 : (X (k - 1)).Id < (X k).Id
          · have d3 : decide ((X k).Id ≤ (X (k - 1)).Id) = false := by simp; omega
            have hok : Hid (zoneOk X len k = true) := by simp [Hid, zoneOk, h1, h3]
            clear h3
            go_wp2
            have hq := fun x : Later (wr.alloc (.cells #[.int .i64 (X k).Id, .int .i64 (X k).West, .int .i64 (X k).South, .int .i64 (X k).East, .int .i64 (X k).North] 44)) => x.cell
            refine region_later (by kernel_rfl) (by kernel_rfl) ?_
            repeat (go_big_quiet_step (first | (go_at_call 37; refine calls_later (zone_impl (X k) _))))
            refine wpQuiet_nil ?_
            intro _ hw'
            obtain ⟨x, rfl⟩ := hw'
            have hB1 : Below w.heap.size w x.wd := Below.on (hB.alloc hB.size _) (by have := hB.size; simp; omega) x.below
            clear hq
            go_wp2
            go_roundw
            case rel => exact ⟨k + 1, by omega, by go_num, hB1, fun i hi => by by_cases hik : i < k; exact hf.out i hik; rw [show i = k by omega]; exact hok.out⟩
            case measure => simp [intOf]; omega
          · have d3 : decide ((X k).Id ≤ (X (k - 1)).Id) = true := by simp; omega
            have hok : Hid (zoneOk X len k = false) := by simp [Hid, zoneOk, h1, h3]; omega
            clear h3
            go_wp2
            have hq := fun x : Later (wr.alloc (.cells #[.int .i64 (X k).Id, .int .i64 (X k).West, .int .i64 (X k).South, .int .i64 (X k).East, .int .i64 (X k).North] 44)) => x.cell
            refine region_later (by kernel_rfl) (by kernel_rfl) ?_
            repeat (go_big_quiet_step (first | (go_at_call 37; refine calls_later (zone_impl (X k) _))))
            refine wpQuiet_nil ?_
            intro _ hw'
            obtain ⟨x, rfl⟩ := hw'
            have hB1 : Below w.heap.size w x.wd := Below.on (hB.alloc hB.size _) (by have := hB.size; simp; omega) x.below
            clear hq
            go_wp2
            go_ret
            exact ⟨ret_bool (zonesB_bad hlt hok.out).symm, hB1⟩
        · have hkz : (k == 0) = true := by simp; omega
          have hok : Hid (zoneOk X len k = true) := by unfold Hid zoneOk; rw [h1, hkz]; rfl
          clear hkz
          go_wp2
          have hq := fun x : Later (wr.alloc (.cells #[.int .i64 (X k).Id, .int .i64 (X k).West, .int .i64 (X k).South, .int .i64 (X k).East, .int .i64 (X k).North] 44)) => x.cell
          refine region_later (by kernel_rfl) (by kernel_rfl) ?_
          repeat (go_big_quiet_step (first | (go_at_call 37; refine calls_later (zone_impl (X k) _))))
          refine wpQuiet_nil ?_
          intro _ hw'
          obtain ⟨x, rfl⟩ := hw'
          have hB1 : Below w.heap.size w x.wd := Below.on (hB.alloc hB.size _) (by have := hB.size; simp; omega) x.below
          clear hq
          go_wp2
          go_roundw
          case rel => exact ⟨k + 1, by omega, by go_num, hB1, fun i hi => by by_cases hik : i < k; exact hf.out i hik; rw [show i = k by omega]; exact hok.out⟩
          case measure => simp [intOf]; omega
      · have h1' : zoneB (X k) = false := by simpa using h1
        have hok : Hid (zoneOk X len k = false) := by simp [Hid, zoneOk, h1']
        clear h1
        go_wp2
        have hq := fun x : Later (wr.alloc (.cells #[.int .i64 (X k).Id, .int .i64 (X k).West, .int .i64 (X k).South, .int .i64 (X k).East, .int .i64 (X k).North] 44)) => x.cell
        refine region_later (by kernel_rfl) (by kernel_rfl) ?_
        repeat (go_big_quiet_step (first | (go_at_call 37; refine calls_later (zone_impl (X k) _))))
        refine wpQuiet_nil ?_
        intro _ hw'
        obtain ⟨x, rfl⟩ := hw'
        have hB1 : Below w.heap.size w x.wd := Below.on (hB.alloc hB.size _) (by have := hB.size; simp; omega) x.below
        clear hq
        go_wp2
        go_ret
        exact ⟨ret_bool (zonesB_bad hlt hok.out).symm, hB1⟩
    · go_wp2_with fail
      go_ret
      exact ⟨ret_bool (zonesB_end (fun i hi => hf.out i (by omega))), hB⟩

theorem areZones_spec (w : World) (b off len cap : Nat) (X : Nat → ZoneD) (h : Rw w b off 5 len (fun i => (X i).cells)) (hm : len ≤ 1048576) (hlc : len ≤ cap) :
    Calls Try.prog 14 #[.slice (some ⟨b, off, none⟩) len cap] w fun e w' => e = .returned (.bool (zonesB X len)) ∧ Below w.heap.size w w' := by
  go_enter Try.func14, Try.ntmps14
  go_wp2_with (go_at_call 36; refine (zones_spec _ b off len cap X h hm hlc).mono ?_; rintro e w' ⟨rfl, hb⟩)
  go_ret
  exact ⟨rfl, hb⟩

set_option maxHeartbeats 2000000 in
theorem walk_ExactAreZones (w : World) (p0 : Option Addr) (len0 cap0 : Nat) (X0 : Nat → ZoneD) (h0 : Sl w 5 p0 len0 (fun i => (X0 i).cells)) (ok0 : ∀ i, i < len0 → (X0 i).ok) (hm0 : len0 ≤ maxLen) :
    Calls Try.prog 4 #[.slice p0 len0 cap0] w fun e w' => e = .returned (.bool true) ∧ Below w.heap.size w w' := by
  clear ok0
  by_cases hL : (len0 : Int) ≤ 1048576
  · go_enter Try.func4, Try.ntmps4
    go_wp2_with fail
    refine (szZoneS_any p0 len0 cap0 _ hm0).mono ?_
    rintro e w0 ⟨rfl, rfl⟩
    rw [if_pos hL]
    go_wp2_with fail
    refine (toZoneS_any p0 len0 cap0 X0 _ (h0.below (Below.refl w.heap.size w)) (by omega)).mono ?_
    rintro e w1 ⟨rfl, hb1, hs1, F1⟩
    have B1 : Below w.heap.size w w1 := Below.on (Below.refl w.heap.size w) (Below.refl w.heap.size w).size hb1
    go_wp2_with fail
    refine (areZones_spec _ _ 0 len0 len0 X0 F1.rw (by omega) (Nat.le_refl _)).mono ?_
    rintro e w2 ⟨rfl, hb2⟩
    have B2 : Below w.heap.size w w2 := Below.on B1 B1.size hb2
    go_wp2_with fail
    refine (toZoneS_any p0 len0 cap0 X0 _ (h0.below B2) (by omega)).mono ?_
    rintro e w3 ⟨rfl, hb3, hs3, F3⟩
    have B3 : Below w.heap.size w w3 := Below.on B2 B2.size hb3
    go_wp2_with fail
    refine (zones_impl _ _ 0 len0 len0 X0 F3.rw (by omega) (Nat.le_refl _)).mono ?_
    rintro e w4 ⟨rfl, hb4⟩
    have B4 : Below w.heap.size w w4 := Below.on B3 B3.size hb4
    go_wp2_with fail
    refine (toZoneS_any p0 len0 cap0 X0 _ (h0.below B4) (by omega)).mono ?_
    rintro e w5 ⟨rfl, hb5, hs5, F5⟩
    have B5 : Below w.heap.size w w5 := Below.on B4 B4.size hb5
    go_wp2_with fail
    refine (eqZoneS_same _ _ 0 0 len0 len0 len0 X0 _ ((F3.rw.later' hb4).later' hb5) F5.rw (by omega) (Nat.le_refl _) (Nat.le_refl _)).mono ?_
    rintro e w6 ⟨rfl, hb6⟩
    have B6 : Below w.heap.size w w6 := Below.on B5 B5.size hb6
    go_wp2_with fail
    go_ret
    exact ⟨rfl, B6⟩
  · go_enter Try.func4, Try.ntmps4
    go_wp2_with fail
    refine (szZoneS_any p0 len0 cap0 _ hm0).mono ?_
    rintro e w0 ⟨rfl, rfl⟩
    rw [if_neg (by omega)]
    go_wp2_with fail
    go_ret
    exact ⟨rfl, Below.refl _ _⟩

end Go.Proofs.Ytcnjafpfkdaoeaa
