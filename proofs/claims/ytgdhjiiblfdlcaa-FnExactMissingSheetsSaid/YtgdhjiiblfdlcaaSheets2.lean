/-
  Lists of sheets: which are valid; by the program and by the reference. No condition.
-/
import Derived.Test.YtgdhjiiblfdlcaaSheets
import Derived.Test.YtgdhjiiblfdlcaaWalks1
namespace Go.Proofs.Ytgdhjiiblfdlcaa
open Go.RowKit
set_option linter.unusedVariables false

/-- Element k of a list of n is valid in its place. -/
def sheetOk (X : Nat → SheetD) (n k : Nat) : Bool := sheetB (X k) && (k == 0 || decide ((X (k - 1)).Id < (X k).Id)) && (findI (fun i => onB (X i) (X k).Row (X k).Col (X k).Scale) n == (k : Int))
def sheetsB (X : Nat → SheetD) (n : Nat) : Bool := decide (n ≤ 12) && allI (sheetOk X n) n
theorem sheetsB_true {X : Nat → SheetD} {n : Nat} (h : n ≤ 12) (hh : ∀ i, i < n → sheetOk X n i = true) : sheetsB X n = true := by simp [sheetsB, h, allI_true.2 hh]
theorem sheetsB_bad {X : Nat → SheetD} {n k : Nat} (h : k < n) (hp : sheetOk X n k = false) : sheetsB X n = false := by simp [sheetsB, allI_false h hp]
theorem sheetsB_long {X : Nat → SheetD} {n : Nat} (h : ¬ n ≤ 12) : sheetsB X n = false := by simp [sheetsB, h]
theorem sheetsB_end {X : Nat → SheetD} {n : Nat} (hh : ∀ i, i < n → sheetOk X n i = true) : decide ((n : Int) ≤ 12) = sheetsB X n := by
  by_cases h : n ≤ 12
  · rw [sheetsB_true h hh]; simp; omega
  · rw [sheetsB_long h]; simp; omega
theorem sheetsB_le {X : Nat → SheetD} {n : Nat} (h : sheetsB X n = true) : n ≤ 12 := by simp [sheetsB] at h; exact h.1
theorem sheetsB_at {X : Nat → SheetD} {n k : Nat} (h : sheetsB X n = true) (hk : k < n) : sheetOk X n k = true := by simp [sheetsB] at h; exact allI_true.1 h.2 k hk

set_option maxHeartbeats 4000000 in
theorem sheets_spec (w : World) (b off len cap : Nat) (X : Nat → SheetD) (h : Rw w b off 5 len (fun i => (X i).cells)) (hm : len ≤ 1048576) (hlc : len ≤ cap) :
    Calls Try.prog 26 #[.slice (some ⟨b, off, none⟩) len cap] w fun e w' => e = .returned (.bool (sheetsB X len)) ∧ Below w.heap.size w w' := by
  have H := hid h
  have hb := h.1
  clear h
  by_cases h12 : len ≤ 12
  · go_enter Try.func26, Try.ntmps26
    go_wp2
    go_loopw [3] (fun i wr => ∃ k : Nat, k ≤ len ∧ i = .int .i64 k ∧ Below w.heap.size w wr ∧ Hid (∀ i, i < k → sheetOk X len i = true)) (fun i _ => len - (intOf i).toNat)
    case atStart => exact ⟨0, by omega, rfl, Below.refl _ _, fun i hi => absurd hi (by omega)⟩
    case round =>
      obtain ⟨k, hk, rfl, hB, hf⟩ := hrel
      by_cases hlt : k < len
      · have c0 : wr.cell? ⟨b, off + k * 5, none⟩ = some (.int .i64 (X k).Id) := (hB.cell hb).trans (H.out.2 k hlt 0 (by omega))
        have c1 : wr.cell? ⟨b, off + k * 5 + 1, none⟩ = some (.int .i64 (X k).Row) := (hB.cell hb).trans (H.out.2 k hlt 1 (by omega))
        have c2 : wr.cell? ⟨b, off + k * 5 + 2, none⟩ = some (.int .i64 (X k).Col) := (hB.cell hb).trans (H.out.2 k hlt 2 (by omega))
        have c3 : wr.cell? ⟨b, off + k * 5 + 3, none⟩ = some (.int .i64 (X k).Scale) := (hB.cell hb).trans (H.out.2 k hlt 3 (by omega))
        have c4 : wr.cell? ⟨b, off + k * 5 + 4, none⟩ = some (.int .i64 (X k).Year) := (hB.cell hb).trans (H.out.2 k hlt 4 (by omega))
        have hbr : b < wr.heap.size := by have := hB.size; omega
        have hbr1 : b < wr.heap.size + 1 := by omega
        by_cases h1 : sheetB (X k) = true
        · by_cases h2 : 0 < k
          · have e0 : IntKind.i64.wrap ((k : Int) - 1) = (k : Int) - 1 := IntWalk.i64_in _ (by omega)
            have e1 : ((k : Int) - 1).toNat = k - 1 := by omega
            have e2 : (0 : Int) ≤ (k : Int) - 1 := by omega
            have e3 : (k : Int) - 1 < (len : Int) := by omega
            have p0 : wr.cell? ⟨b, off + (k - 1) * 5, none⟩ = some (.int .i64 (X (k - 1)).Id) := (hB.cell hb).trans (H.out.2 (k - 1) (by omega) 0 (by omega))
            by_cases h3 : (X (k - 1)).Id < (X k).Id
            · have d3 : decide ((X k).Id ≤ (X (k - 1)).Id) = false := by simp; omega
              by_cases h4 : findI (fun i => onB (X i) (X k).Row (X k).Col (X k).Scale) len = (k : Int)
              · have hok : Hid (sheetOk X len k = true) := by simp [Hid, sheetOk, h1, h3, h4]
                have d4 : (findI (fun i => onB (X i) (X k).Row (X k).Col (X k).Scale) len != (k : Int)) = false := by simp [h4]
                clear h4
                clear h3
                go_wp2
                have hq := fun x : Later (wr.alloc (.cells #[.int .i64 (X k).Id, .int .i64 (X k).Row, .int .i64 (X k).Col, .int .i64 (X k).Scale, .int .i64 (X k).Year] 55)) => x.cell
                refine region_later (by kernel_rfl) (by kernel_rfl) ?_
                repeat (go_big_quiet_step (first | (go_at_call 46; refine calls_later (sheet_spec (X k) _)) | (go_at_call 30; refine calls_later_same (at_spec _ b off len cap X _ _ _ ((H.out.below hB hb).later' (by go_grown) |>.later _) hm hlc))))
                refine wpQuiet_nil ?_
                intro _ hw'
                obtain ⟨x, rfl⟩ := hw'
                have hB1 : Below w.heap.size w x.wd := Below.on (hB.alloc hB.size _) (by have := hB.size; simp; omega) x.below
                clear hq
                go_wp2
                go_roundw
                case rel => exact ⟨k + 1, by omega, by go_num, hB1, fun i hi => by by_cases hik : i < k; exact hf.out i hik; rw [show i = k by omega]; exact hok.out⟩
                case measure => simp [intOf]; omega
              · have hok : Hid (sheetOk X len k = false) := by simp [Hid, sheetOk, h1, h3, h4]
                have d4 : (findI (fun i => onB (X i) (X k).Row (X k).Col (X k).Scale) len != (k : Int)) = true := by simp [h4]
                clear h4
                clear h3
                go_wp2
                have hq := fun x : Later (wr.alloc (.cells #[.int .i64 (X k).Id, .int .i64 (X k).Row, .int .i64 (X k).Col, .int .i64 (X k).Scale, .int .i64 (X k).Year] 55)) => x.cell
                refine region_later (by kernel_rfl) (by kernel_rfl) ?_
                repeat (go_big_quiet_step (first | (go_at_call 46; refine calls_later (sheet_spec (X k) _)) | (go_at_call 30; refine calls_later_same (at_spec _ b off len cap X _ _ _ ((H.out.below hB hb).later' (by go_grown) |>.later _) hm hlc))))
                refine wpQuiet_nil ?_
                intro _ hw'
                obtain ⟨x, rfl⟩ := hw'
                have hB1 : Below w.heap.size w x.wd := Below.on (hB.alloc hB.size _) (by have := hB.size; simp; omega) x.below
                clear hq
                go_wp2
                go_ret
                exact ⟨ret_bool (sheetsB_bad hlt hok.out).symm, hB1⟩
            · have d3 : decide ((X k).Id ≤ (X (k - 1)).Id) = true := by simp; omega
              have hok : Hid (sheetOk X len k = false) := by simp [Hid, sheetOk, h1, h3]; omega
              clear h3
              go_wp2
              have hq := fun x : Later (wr.alloc (.cells #[.int .i64 (X k).Id, .int .i64 (X k).Row, .int .i64 (X k).Col, .int .i64 (X k).Scale, .int .i64 (X k).Year] 55)) => x.cell
              refine region_later (by kernel_rfl) (by kernel_rfl) ?_
              repeat (go_big_quiet_step (first | (go_at_call 46; refine calls_later (sheet_spec (X k) _)) | (go_at_call 30; refine calls_later_same (at_spec _ b off len cap X _ _ _ ((H.out.below hB hb).later' (by go_grown) |>.later _) hm hlc))))
              refine wpQuiet_nil ?_
              intro _ hw'
              obtain ⟨x, rfl⟩ := hw'
              have hB1 : Below w.heap.size w x.wd := Below.on (hB.alloc hB.size _) (by have := hB.size; simp; omega) x.below
              clear hq
              go_wp2
              go_ret
              exact ⟨ret_bool (sheetsB_bad hlt hok.out).symm, hB1⟩
          · have hkz : (k == 0) = true := by simp; omega
            by_cases h4 : findI (fun i => onB (X i) (X k).Row (X k).Col (X k).Scale) len = (k : Int)
            · have hok : Hid (sheetOk X len k = true) := by unfold Hid sheetOk; rw [h1, hkz]; simp [h4]
              have d4 : (findI (fun i => onB (X i) (X k).Row (X k).Col (X k).Scale) len != (k : Int)) = false := by simp [h4]
              clear h4
              clear hkz
              go_wp2
              have hq := fun x : Later (wr.alloc (.cells #[.int .i64 (X k).Id, .int .i64 (X k).Row, .int .i64 (X k).Col, .int .i64 (X k).Scale, .int .i64 (X k).Year] 55)) => x.cell
              refine region_later (by kernel_rfl) (by kernel_rfl) ?_
              repeat (go_big_quiet_step (first | (go_at_call 46; refine calls_later (sheet_spec (X k) _)) | (go_at_call 30; refine calls_later_same (at_spec _ b off len cap X _ _ _ ((H.out.below hB hb).later' (by go_grown) |>.later _) hm hlc))))
              refine wpQuiet_nil ?_
              intro _ hw'
              obtain ⟨x, rfl⟩ := hw'
              have hB1 : Below w.heap.size w x.wd := Below.on (hB.alloc hB.size _) (by have := hB.size; simp; omega) x.below
              clear hq
              go_wp2
              go_roundw
              case rel => exact ⟨k + 1, by omega, by go_num, hB1, fun i hi => by by_cases hik : i < k; exact hf.out i hik; rw [show i = k by omega]; exact hok.out⟩
              case measure => simp [intOf]; omega
            · have hok : Hid (sheetOk X len k = false) := by unfold Hid sheetOk; rw [h1, hkz]; simp [h4]
              have d4 : (findI (fun i => onB (X i) (X k).Row (X k).Col (X k).Scale) len != (k : Int)) = true := by simp [h4]
              clear h4
              clear hkz
              go_wp2
              have hq := fun x : Later (wr.alloc (.cells #[.int .i64 (X k).Id, .int .i64 (X k).Row, .int .i64 (X k).Col, .int .i64 (X k).Scale, .int .i64 (X k).Year] 55)) => x.cell
              refine region_later (by kernel_rfl) (by kernel_rfl) ?_
              repeat (go_big_quiet_step (first | (go_at_call 46; refine calls_later (sheet_spec (X k) _)) | (go_at_call 30; refine calls_later_same (at_spec _ b off len cap X _ _ _ ((H.out.below hB hb).later' (by go_grown) |>.later _) hm hlc))))
              refine wpQuiet_nil ?_
              intro _ hw'
              obtain ⟨x, rfl⟩ := hw'
              have hB1 : Below w.heap.size w x.wd := Below.on (hB.alloc hB.size _) (by have := hB.size; simp; omega) x.below
              clear hq
              go_wp2
              go_ret
              exact ⟨ret_bool (sheetsB_bad hlt hok.out).symm, hB1⟩
        · have h1' : sheetB (X k) = false := by simpa using h1
          have hok : Hid (sheetOk X len k = false) := by simp [Hid, sheetOk, h1']
          clear h1
          go_wp2
          have hq := fun x : Later (wr.alloc (.cells #[.int .i64 (X k).Id, .int .i64 (X k).Row, .int .i64 (X k).Col, .int .i64 (X k).Scale, .int .i64 (X k).Year] 55)) => x.cell
          refine region_later (by kernel_rfl) (by kernel_rfl) ?_
          repeat (go_big_quiet_step (first | (go_at_call 46; refine calls_later (sheet_spec (X k) _)) | (go_at_call 30; refine calls_later_same (at_spec _ b off len cap X _ _ _ ((H.out.below hB hb).later' (by go_grown) |>.later _) hm hlc))))
          refine wpQuiet_nil ?_
          intro _ hw'
          obtain ⟨x, rfl⟩ := hw'
          have hB1 : Below w.heap.size w x.wd := Below.on (hB.alloc hB.size _) (by have := hB.size; simp; omega) x.below
          clear hq
          go_wp2
          go_ret
          exact ⟨ret_bool (sheetsB_bad hlt hok.out).symm, hB1⟩
      · go_wp2_with fail
        go_ret
        exact ⟨ret_bool (sheetsB_true h12 (fun i hi => hf.out i (by omega))).symm, hB⟩
  · go_enter Try.func26, Try.ntmps26
    go_wp2
    go_ret
    exact ⟨ret_bool (sheetsB_long h12).symm, Below.refl _ _⟩

set_option maxHeartbeats 4000000 in
theorem sheets_impl (w : World) (b off len cap : Nat) (X : Nat → SheetD) (h : Rw w b off 5 len (fun i => (X i).cells)) (hm : len ≤ 1048576) (hlc : len ≤ cap) :
    Calls Try.prog 33 #[.slice (some ⟨b, off, none⟩) len cap] w fun e w' => e = .returned (.bool (sheetsB X len)) ∧ Below w.heap.size w w' := by
  have H := hid h
  have hb := h.1
  clear h
  go_enter Try.func33, Try.ntmps33
  go_wp2
  go_loopw [7] (fun i wr => ∃ k : Nat, k ≤ len ∧ i = .int .i64 k ∧ Below w.heap.size w wr ∧ Hid (∀ i, i < k → sheetOk X len i = true)) (fun i _ => len - (intOf i).toNat)
  case atStart => exact ⟨0, by omega, rfl, Below.refl _ _, fun i hi => absurd hi (by omega)⟩
  case round =>
    obtain ⟨k, hk, rfl, hB, hf⟩ := hrel
    by_cases hlt : k < len
    · have c0 : wr.cell? ⟨b, off + k * 5, none⟩ = some (.int .i64 (X k).Id) := (hB.cell hb).trans (H.out.2 k hlt 0 (by omega))
      have c1 : wr.cell? ⟨b, off + k * 5 + 1, none⟩ = some (.int .i64 (X k).Row) := (hB.cell hb).trans (H.out.2 k hlt 1 (by omega))
      have c2 : wr.cell? ⟨b, off + k * 5 + 2, none⟩ = some (.int .i64 (X k).Col) := (hB.cell hb).trans (H.out.2 k hlt 2 (by omega))
      have c3 : wr.cell? ⟨b, off + k * 5 + 3, none⟩ = some (.int .i64 (X k).Scale) := (hB.cell hb).trans (H.out.2 k hlt 3 (by omega))
      have c4 : wr.cell? ⟨b, off + k * 5 + 4, none⟩ = some (.int .i64 (X k).Year) := (hB.cell hb).trans (H.out.2 k hlt 4 (by omega))
      have hbr : b < wr.heap.size := by have := hB.size; omega
      have hbr1 : b < wr.heap.size + 1 := by omega
      by_cases h1 : sheetB (X k) = true
      · by_cases h2 : 0 < k
        · have e0 : IntKind.i64.wrap ((k : Int) - 1) = (k : Int) - 1 := IntWalk.i64_in _ (by omega)
          have e1 : ((k : Int) - 1).toNat = k - 1 := by omega
          have e2 : (0 : Int) ≤ (k : Int) - 1 := by omega
          have e3 : (k : Int) - 1 < (len : Int) := by omega
          have p0 : wr.cell? ⟨b, off + (k - 1) * 5, none⟩ = some (.int .i64 (X (k - 1)).Id) := (hB.cell hb).trans (H.out.2 (k - 1) (by omega) 0 (by omega))
          by_cases h3 : (X (k - 1)).Id < (X k).Id
          · have d3 : decide ((X k).Id ≤ (X (k - 1)).Id) = false := by simp; omega
            by_cases h4 : findI (fun i => onB (X i) (X k).Row (X k).Col (X k).Scale) len = (k : Int)
            · have hok : Hid (sheetOk X len k = true) := by simp [Hid, sheetOk, h1, h3, h4]
              have d4 : (findI (fun i => onB (X i) (X k).Row (X k).Col (X k).Scale) len != (k : Int)) = false := by simp [h4]
              clear h4
              clear h3
              go_wp2
              have hq := fun x : Later (wr.alloc (.cells #[.int .i64 (X k).Id, .int .i64 (X k).Row, .int .i64 (X k).Col, .int .i64 (X k).Scale, .int .i64 (X k).Year] 55)) => x.cell
              refine region_later (by kernel_rfl) (by kernel_rfl) ?_
              repeat (go_big_quiet_step (first | (go_at_call 52; refine calls_later (sheet_impl (X k) _)) | (go_at_call 34; refine calls_later (on_impl _ b off len cap X _ _ _ ((H.out.below hB hb).later' (by go_grown) |>.later _) hm hlc))))
              refine wpQuiet_nil ?_
              intro _ hw'
              obtain ⟨x, rfl⟩ := hw'
              have hB1 : Below w.heap.size w x.wd := Below.on (hB.alloc hB.size _) (by have := hB.size; simp; omega) x.below
              clear hq
              go_wp2
              go_roundw
              case rel => exact ⟨k + 1, by omega, by go_num, hB1, fun i hi => by by_cases hik : i < k; exact hf.out i hik; rw [show i = k by omega]; exact hok.out⟩
              case measure => simp [intOf]; omega
            · have hok : Hid (sheetOk X len k = false) := by simp [Hid, sheetOk, h1, h3, h4]
              have d4 : (findI (fun i => onB (X i) (X k).Row (X k).Col (X k).Scale) len != (k : Int)) = true := by simp [h4]
              clear h4
              clear h3
              go_wp2
              have hq := fun x : Later (wr.alloc (.cells #[.int .i64 (X k).Id, .int .i64 (X k).Row, .int .i64 (X k).Col, .int .i64 (X k).Scale, .int .i64 (X k).Year] 55)) => x.cell
              refine region_later (by kernel_rfl) (by kernel_rfl) ?_
              repeat (go_big_quiet_step (first | (go_at_call 52; refine calls_later (sheet_impl (X k) _)) | (go_at_call 34; refine calls_later (on_impl _ b off len cap X _ _ _ ((H.out.below hB hb).later' (by go_grown) |>.later _) hm hlc))))
              refine wpQuiet_nil ?_
              intro _ hw'
              obtain ⟨x, rfl⟩ := hw'
              have hB1 : Below w.heap.size w x.wd := Below.on (hB.alloc hB.size _) (by have := hB.size; simp; omega) x.below
              clear hq
              go_wp2
              go_ret
              exact ⟨ret_bool (sheetsB_bad hlt hok.out).symm, hB1⟩
          · have d3 : decide ((X k).Id ≤ (X (k - 1)).Id) = true := by simp; omega
            have hok : Hid (sheetOk X len k = false) := by simp [Hid, sheetOk, h1, h3]; omega
            clear h3
            go_wp2
            have hq := fun x : Later (wr.alloc (.cells #[.int .i64 (X k).Id, .int .i64 (X k).Row, .int .i64 (X k).Col, .int .i64 (X k).Scale, .int .i64 (X k).Year] 55)) => x.cell
            refine region_later (by kernel_rfl) (by kernel_rfl) ?_
            repeat (go_big_quiet_step (first | (go_at_call 52; refine calls_later (sheet_impl (X k) _)) | (go_at_call 34; refine calls_later (on_impl _ b off len cap X _ _ _ ((H.out.below hB hb).later' (by go_grown) |>.later _) hm hlc))))
            refine wpQuiet_nil ?_
            intro _ hw'
            obtain ⟨x, rfl⟩ := hw'
            have hB1 : Below w.heap.size w x.wd := Below.on (hB.alloc hB.size _) (by have := hB.size; simp; omega) x.below
            clear hq
            go_wp2
            go_ret
            exact ⟨ret_bool (sheetsB_bad hlt hok.out).symm, hB1⟩
        · have hkz : (k == 0) = true := by simp; omega
          by_cases h4 : findI (fun i => onB (X i) (X k).Row (X k).Col (X k).Scale) len = (k : Int)
          · have hok : Hid (sheetOk X len k = true) := by unfold Hid sheetOk; rw [h1, hkz]; simp [h4]
            have d4 : (findI (fun i => onB (X i) (X k).Row (X k).Col (X k).Scale) len != (k : Int)) = false := by simp [h4]
            clear h4
            clear hkz
            go_wp2
            have hq := fun x : Later (wr.alloc (.cells #[.int .i64 (X k).Id, .int .i64 (X k).Row, .int .i64 (X k).Col, .int .i64 (X k).Scale, .int .i64 (X k).Year] 55)) => x.cell
            refine region_later (by kernel_rfl) (by kernel_rfl) ?_
            repeat (go_big_quiet_step (first | (go_at_call 52; refine calls_later (sheet_impl (X k) _)) | (go_at_call 34; refine calls_later (on_impl _ b off len cap X _ _ _ ((H.out.below hB hb).later' (by go_grown) |>.later _) hm hlc))))
            refine wpQuiet_nil ?_
            intro _ hw'
            obtain ⟨x, rfl⟩ := hw'
            have hB1 : Below w.heap.size w x.wd := Below.on (hB.alloc hB.size _) (by have := hB.size; simp; omega) x.below
            clear hq
            go_wp2
            go_roundw
            case rel => exact ⟨k + 1, by omega, by go_num, hB1, fun i hi => by by_cases hik : i < k; exact hf.out i hik; rw [show i = k by omega]; exact hok.out⟩
            case measure => simp [intOf]; omega
          · have hok : Hid (sheetOk X len k = false) := by unfold Hid sheetOk; rw [h1, hkz]; simp [h4]
            have d4 : (findI (fun i => onB (X i) (X k).Row (X k).Col (X k).Scale) len != (k : Int)) = true := by simp [h4]
            clear h4
            clear hkz
            go_wp2
            have hq := fun x : Later (wr.alloc (.cells #[.int .i64 (X k).Id, .int .i64 (X k).Row, .int .i64 (X k).Col, .int .i64 (X k).Scale, .int .i64 (X k).Year] 55)) => x.cell
            refine region_later (by kernel_rfl) (by kernel_rfl) ?_
            repeat (go_big_quiet_step (first | (go_at_call 52; refine calls_later (sheet_impl (X k) _)) | (go_at_call 34; refine calls_later (on_impl _ b off len cap X _ _ _ ((H.out.below hB hb).later' (by go_grown) |>.later _) hm hlc))))
            refine wpQuiet_nil ?_
            intro _ hw'
            obtain ⟨x, rfl⟩ := hw'
            have hB1 : Below w.heap.size w x.wd := Below.on (hB.alloc hB.size _) (by have := hB.size; simp; omega) x.below
            clear hq
            go_wp2
            go_ret
            exact ⟨ret_bool (sheetsB_bad hlt hok.out).symm, hB1⟩
      · have h1' : sheetB (X k) = false := by simpa using h1
        have hok : Hid (sheetOk X len k = false) := by simp [Hid, sheetOk, h1']
        clear h1
        go_wp2
        have hq := fun x : Later (wr.alloc (.cells #[.int .i64 (X k).Id, .int .i64 (X k).Row, .int .i64 (X k).Col, .int .i64 (X k).Scale, .int .i64 (X k).Year] 55)) => x.cell
        refine region_later (by kernel_rfl) (by kernel_rfl) ?_
        repeat (go_big_quiet_step (first | (go_at_call 52; refine calls_later (sheet_impl (X k) _)) | (go_at_call 34; refine calls_later (on_impl _ b off len cap X _ _ _ ((H.out.below hB hb).later' (by go_grown) |>.later _) hm hlc))))
        refine wpQuiet_nil ?_
        intro _ hw'
        obtain ⟨x, rfl⟩ := hw'
        have hB1 : Below w.heap.size w x.wd := Below.on (hB.alloc hB.size _) (by have := hB.size; simp; omega) x.below
        clear hq
        go_wp2
        go_ret
        exact ⟨ret_bool (sheetsB_bad hlt hok.out).symm, hB1⟩
    · go_wp2_with fail
      go_ret
      exact ⟨ret_bool (sheetsB_end (fun i hi => hf.out i (by omega))), hB⟩

end Go.Proofs.Ytgdhjiiblfdlcaa
