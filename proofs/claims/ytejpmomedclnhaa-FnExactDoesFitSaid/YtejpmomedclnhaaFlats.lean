/-
  Flats, and lists of flats: which are valid; by the program and by the reference. No condition.
-/
import Derived.Test.YtejpmomedclnhaaWalks1
import Derived.Test.YtejpmomedclnhaaListFlat
namespace Go.Proofs.Ytejpmomedclnhaa
open Go.RowKit
set_option linter.unusedVariables false

/-- A flat is valid. -/
def flatB (s : FlatD) : Bool := inB s.Id 1 999 && inB s.Wide 10 2000 && inB s.High 10 2000 && inB s.Grams 1 5000

theorem flat_spec (s : FlatD) (w : World) : Calls Try.prog 53 #[s.val] w fun e w' => e = .returned (.bool (flatB s)) ∧ Below w.heap.size w w' := by
  go_enter Try.func53, Try.ntmps53
  go_wp2_with (go_at_call 89; refine (in_spec _ _ _ _).mono ?_; rintro e w' ⟨rfl, rfl⟩)
  all_goals go_ret
  all_goals exact ⟨by simp [flatB, *], by go_grown⟩

theorem flat_impl (s : FlatD) (w : World) : Calls Try.prog 57 #[s.val] w fun e w' => e = .returned (.bool (flatB s)) ∧ Below w.heap.size w w' := by
  go_enter Try.func57, Try.ntmps57
  go_wp2_with (first | (go_at_call 92; refine (in_impl _ _ _ _).mono ?_; rintro e w' ⟨rfl, rfl⟩) | (go_at_call 91; refine (id_impl _ _).mono ?_; rintro e w' ⟨rfl, rfl⟩))
  all_goals go_ret
  all_goals exact ⟨by simp [flatB, *], by go_grown⟩

/-- Element k of a list of n is valid in its place. -/
def flatOk (X : Nat → FlatD) (n k : Nat) : Bool := flatB (X k) && (k == 0 || decide ((X (k - 1)).Id < (X k).Id))
def flatsB (X : Nat → FlatD) (n : Nat) : Bool := decide (n ≤ 20) && allI (flatOk X n) n
theorem flatsB_true {X : Nat → FlatD} {n : Nat} (h : n ≤ 20) (hh : ∀ i, i < n → flatOk X n i = true) : flatsB X n = true := by simp [flatsB, h, allI_true.2 hh]
theorem flatsB_bad {X : Nat → FlatD} {n k : Nat} (h : k < n) (hp : flatOk X n k = false) : flatsB X n = false := by simp [flatsB, allI_false h hp]
theorem flatsB_long {X : Nat → FlatD} {n : Nat} (h : ¬ n ≤ 20) : flatsB X n = false := by simp [flatsB, h]
theorem flatsB_end {X : Nat → FlatD} {n : Nat} (hh : ∀ i, i < n → flatOk X n i = true) : decide ((n : Int) ≤ 20) = flatsB X n := by
  by_cases h : n ≤ 20
  · rw [flatsB_true h hh]; simp; omega
  · rw [flatsB_long h]; simp; omega
theorem flatsB_le {X : Nat → FlatD} {n : Nat} (h : flatsB X n = true) : n ≤ 20 := by simp [flatsB] at h; exact h.1
theorem flatsB_at {X : Nat → FlatD} {n k : Nat} (h : flatsB X n = true) (hk : k < n) : flatOk X n k = true := by simp [flatsB] at h; exact allI_true.1 h.2 k hk

set_option maxHeartbeats 4000000 in
theorem flats_spec (w : World) (b off len cap : Nat) (X : Nat → FlatD) (h : Rw w b off 4 len (fun i => (X i).cells)) (hm : len ≤ 1048576) (hlc : len ≤ cap) :
    Calls Try.prog 93 #[.slice (some ⟨b, off, none⟩) len cap] w fun e w' => e = .returned (.bool (flatsB X len)) ∧ Below w.heap.size w w' := by
  have H := hid h
  have hb := h.1
  clear h
  go_enter Try.func93, Try.ntmps93
  go_wp2
  go_loopw [3] (fun i wr => ∃ k : Nat, k ≤ len ∧ i = .int .i64 k ∧ Below w.heap.size w wr ∧ Hid (∀ i, i < k → flatOk X len i = true)) (fun i _ => len - (intOf i).toNat)
  case atStart => exact ⟨0, by omega, rfl, Below.refl _ _, fun i hi => absurd hi (by omega)⟩
  case round =>
    obtain ⟨k, hk, rfl, hB, hf⟩ := hrel
    by_cases hlt : k < len
    · have c0 : wr.cell? ⟨b, off + k * 4, none⟩ = some (.int .i64 (X k).Id) := (hB.cell hb).trans (H.out.2 k hlt 0 (by omega))
      have c1 : wr.cell? ⟨b, off + k * 4 + 1, none⟩ = some (.int .i64 (X k).Wide) := (hB.cell hb).trans (H.out.2 k hlt 1 (by omega))
      have c2 : wr.cell? ⟨b, off + k * 4 + 2, none⟩ = some (.int .i64 (X k).High) := (hB.cell hb).trans (H.out.2 k hlt 2 (by omega))
      have c3 : wr.cell? ⟨b, off + k * 4 + 3, none⟩ = some (.int .i64 (X k).Grams) := (hB.cell hb).trans (H.out.2 k hlt 3 (by omega))
      have hbr : b < wr.heap.size := by have := hB.size; omega
      have hbr1 : b < wr.heap.size + 1 := by omega
      by_cases h1 : flatB (X k) = true
      · by_cases h2 : 0 < k
        · have e0 : IntKind.i64.wrap ((k : Int) - 1) = (k : Int) - 1 := IntWalk.i64_in _ (by omega)
          have e1 : ((k : Int) - 1).toNat = k - 1 := by omega
          have e2 : (0 : Int) ≤ (k : Int) - 1 := by omega
          have e3 : (k : Int) - 1 < (len : Int) := by omega
          have p0 : wr.cell? ⟨b, off + (k - 1) * 4, none⟩ = some (.int .i64 (X (k - 1)).Id) := (hB.cell hb).trans (H.out.2 (k - 1) (by omega) 0 (by omega))
          by_cases h3 : (X (k - 1)).Id < (X k).Id
          · have d3 : decide ((X k).Id ≤ (X (k - 1)).Id) = false := by simp; omega
            have hok : Hid (flatOk X len k = true) := by simp [Hid, flatOk, h1, h3]
            clear h3
            go_wp2
            have hq := fun x : Later (wr) => x.cell
            refine region_later (by kernel_rfl) (by kernel_rfl) ?_
            repeat (go_big_quiet_step (first | (go_at_call 53; refine calls_later (flat_spec (X k) _))))
            refine wpQuiet_nil ?_
            intro _ hw'
            obtain ⟨x, rfl⟩ := hw'
            have hB1 : Below w.heap.size w x.wd := Below.on hB hB.size x.below
            clear hq
            go_wp2
            go_roundw
            case rel => exact ⟨k + 1, by omega, by go_num, hB1, fun i hi => by by_cases hik : i < k; exact hf.out i hik; rw [show i = k by omega]; exact hok.out⟩
            case measure => simp [intOf]; omega
          · have d3 : decide ((X k).Id ≤ (X (k - 1)).Id) = true := by simp; omega
            have hok : Hid (flatOk X len k = false) := by simp [Hid, flatOk, h1, h3]; omega
            clear h3
            go_wp2
            have hq := fun x : Later (wr) => x.cell
            refine region_later (by kernel_rfl) (by kernel_rfl) ?_
            repeat (go_big_quiet_step (first | (go_at_call 53; refine calls_later (flat_spec (X k) _))))
            refine wpQuiet_nil ?_
            intro _ hw'
            obtain ⟨x, rfl⟩ := hw'
            have hB1 : Below w.heap.size w x.wd := Below.on hB hB.size x.below
            clear hq
            go_wp2
            go_ret
            exact ⟨ret_bool (flatsB_bad hlt hok.out).symm, hB1⟩
        · have hkz : (k == 0) = true := by simp; omega
          have hok : Hid (flatOk X len k = true) := by unfold Hid flatOk; rw [h1, hkz]; rfl
          clear hkz
          go_wp2
          have hq := fun x : Later (wr) => x.cell
          refine region_later (by kernel_rfl) (by kernel_rfl) ?_
          repeat (go_big_quiet_step (first | (go_at_call 53; refine calls_later (flat_spec (X k) _))))
          refine wpQuiet_nil ?_
          intro _ hw'
          obtain ⟨x, rfl⟩ := hw'
          have hB1 : Below w.heap.size w x.wd := Below.on hB hB.size x.below
          clear hq
          go_wp2
          go_roundw
          case rel => exact ⟨k + 1, by omega, by go_num, hB1, fun i hi => by by_cases hik : i < k; exact hf.out i hik; rw [show i = k by omega]; exact hok.out⟩
          case measure => simp [intOf]; omega
      · have h1' : flatB (X k) = false := by simpa using h1
        have hok : Hid (flatOk X len k = false) := by simp [Hid, flatOk, h1']
        clear h1
        go_wp2
        have hq := fun x : Later (wr) => x.cell
        refine region_later (by kernel_rfl) (by kernel_rfl) ?_
        repeat (go_big_quiet_step (first | (go_at_call 53; refine calls_later (flat_spec (X k) _))))
        refine wpQuiet_nil ?_
        intro _ hw'
        obtain ⟨x, rfl⟩ := hw'
        have hB1 : Below w.heap.size w x.wd := Below.on hB hB.size x.below
        clear hq
        go_wp2
        go_ret
        exact ⟨ret_bool (flatsB_bad hlt hok.out).symm, hB1⟩
    · go_wp2_with fail
      go_ret
      exact ⟨ret_bool (flatsB_end (fun i hi => hf.out i (by omega))), hB⟩

set_option maxHeartbeats 4000000 in
theorem flats_impl (w : World) (b off len cap : Nat) (X : Nat → FlatD) (h : Rw w b off 4 len (fun i => (X i).cells)) (hm : len ≤ 1048576) (hlc : len ≤ cap) :
    Calls Try.prog 61 #[.slice (some ⟨b, off, none⟩) len cap] w fun e w' => e = .returned (.bool (flatsB X len)) ∧ Below w.heap.size w w' := by
  have H := hid h
  have hb := h.1
  clear h
  go_enter Try.func61, Try.ntmps61
  go_wp2
  go_loopw [7] (fun i wr => ∃ k : Nat, k ≤ len ∧ i = .int .i64 k ∧ Below w.heap.size w wr ∧ Hid (∀ i, i < k → flatOk X len i = true)) (fun i _ => len - (intOf i).toNat)
  case atStart => exact ⟨0, by omega, rfl, Below.refl _ _, fun i hi => absurd hi (by omega)⟩
  case round =>
    obtain ⟨k, hk, rfl, hB, hf⟩ := hrel
    by_cases hlt : k < len
    · have c0 : wr.cell? ⟨b, off + k * 4, none⟩ = some (.int .i64 (X k).Id) := (hB.cell hb).trans (H.out.2 k hlt 0 (by omega))
      have c1 : wr.cell? ⟨b, off + k * 4 + 1, none⟩ = some (.int .i64 (X k).Wide) := (hB.cell hb).trans (H.out.2 k hlt 1 (by omega))
      have c2 : wr.cell? ⟨b, off + k * 4 + 2, none⟩ = some (.int .i64 (X k).High) := (hB.cell hb).trans (H.out.2 k hlt 2 (by omega))
      have c3 : wr.cell? ⟨b, off + k * 4 + 3, none⟩ = some (.int .i64 (X k).Grams) := (hB.cell hb).trans (H.out.2 k hlt 3 (by omega))
      have hbr : b < wr.heap.size := by have := hB.size; omega
      have hbr1 : b < wr.heap.size + 1 := by omega
      by_cases h1 : flatB (X k) = true
      · by_cases h2 : 0 < k
        · have e0 : IntKind.i64.wrap ((k : Int) - 1) = (k : Int) - 1 := IntWalk.i64_in _ (by omega)
          have e1 : ((k : Int) - 1).toNat = k - 1 := by omega
          have e2 : (0 : Int) ≤ (k : Int) - 1 := by omega
          have e3 : (k : Int) - 1 < (len : Int) := by omega
          have p0 : wr.cell? ⟨b, off + (k - 1) * 4, none⟩ = some (.int .i64 (X (k - 1)).Id) := (hB.cell hb).trans (H.out.2 (k - 1) (by omega) 0 (by omega))
          by_cases h3 : (X (k - 1)).Id < (X k).Id
          · have d3 : decide ((X k).Id ≤ (X (k - 1)).Id) = false := by simp; omega
            have hok : Hid (flatOk X len k = true) := by simp [Hid, flatOk, h1, h3]
            clear h3
            go_wp2
            have hq := fun x : Later (wr.alloc (.cells #[.int .i64 (X k).Id, .int .i64 (X k).Wide, .int .i64 (X k).High, .int .i64 (X k).Grams] 30)) => x.cell
            refine region_later (by kernel_rfl) (by kernel_rfl) ?_
            repeat (go_big_quiet_step (first | (go_at_call 57; refine calls_later (flat_impl (X k) _))))
            refine wpQuiet_nil ?_
            intro _ hw'
            obtain ⟨x, rfl⟩ := hw'
            have hB1 : Below w.heap.size w x.wd := Below.on (hB.alloc hB.size _) (by have := hB.size; simp; omega) x.below
            clear hq
            go_wp2
            go_roundw
            case rel => exact ⟨k + 1, by omega, by go_num, hB1, fun i hi => by by_cases hik : i < k; exact hf.out i hik; rw [show i = k by omega]; exact hok.out⟩
            case measure => simp [intOf]; omega
          · have d3 : decide ((X k).Id ≤ (X (k - 1)).Id) = true := by simp; omega
            have hok : Hid (flatOk X len k = false) := by simp [Hid, flatOk, h1, h3]; omega
            clear h3
            go_wp2
            have hq := fun x : Later (wr.alloc (.cells #[.int .i64 (X k).Id, .int .i64 (X k).Wide, .int .i64 (X k).High, .int .i64 (X k).Grams] 30)) => x.cell
            refine region_later (by kernel_rfl) (by kernel_rfl) ?_
            repeat (go_big_quiet_step (first | (go_at_call 57; refine calls_later (flat_impl (X k) _))))
            refine wpQuiet_nil ?_
            intro _ hw'
            obtain ⟨x, rfl⟩ := hw'
            have hB1 : Below w.heap.size w x.wd := Below.on (hB.alloc hB.size _) (by have := hB.size; simp; omega) x.below
            clear hq
            go_wp2
            go_ret
            exact ⟨ret_bool (flatsB_bad hlt hok.out).symm, hB1⟩
        · have hkz : (k == 0) = true := by simp; omega
          have hok : Hid (flatOk X len k = true) := by unfold Hid flatOk; rw [h1, hkz]; rfl
          clear hkz
          go_wp2
          have hq := fun x : Later (wr.alloc (.cells #[.int .i64 (X k).Id, .int .i64 (X k).Wide, .int .i64 (X k).High, .int .i64 (X k).Grams] 30)) => x.cell
          refine region_later (by kernel_rfl) (by kernel_rfl) ?_
          repeat (go_big_quiet_step (first | (go_at_call 57; refine calls_later (flat_impl (X k) _))))
          refine wpQuiet_nil ?_
          intro _ hw'
          obtain ⟨x, rfl⟩ := hw'
          have hB1 : Below w.heap.size w x.wd := Below.on (hB.alloc hB.size _) (by have := hB.size; simp; omega) x.below
          clear hq
          go_wp2
          go_roundw
          case rel => exact ⟨k + 1, by omega, by go_num, hB1, fun i hi => by by_cases hik : i < k; exact hf.out i hik; rw [show i = k by omega]; exact hok.out⟩
          case measure => simp [intOf]; omega
      · have h1' : flatB (X k) = false := by simpa using h1
        have hok : Hid (flatOk X len k = false) := by simp [Hid, flatOk, h1']
        clear h1
        go_wp2
        have hq := fun x : Later (wr.alloc (.cells #[.int .i64 (X k).Id, .int .i64 (X k).Wide, .int .i64 (X k).High, .int .i64 (X k).Grams] 30)) => x.cell
        refine region_later (by kernel_rfl) (by kernel_rfl) ?_
        repeat (go_big_quiet_step (first | (go_at_call 57; refine calls_later (flat_impl (X k) _))))
        refine wpQuiet_nil ?_
        intro _ hw'
        obtain ⟨x, rfl⟩ := hw'
        have hB1 : Below w.heap.size w x.wd := Below.on (hB.alloc hB.size _) (by have := hB.size; simp; omega) x.below
        clear hq
        go_wp2
        go_ret
        exact ⟨ret_bool (flatsB_bad hlt hok.out).symm, hB1⟩
    · go_wp2_with fail
      go_ret
      exact ⟨ret_bool (flatsB_end (fun i hi => hf.out i (by omega))), hB⟩

end Go.Proofs.Ytejpmomedclnhaa
