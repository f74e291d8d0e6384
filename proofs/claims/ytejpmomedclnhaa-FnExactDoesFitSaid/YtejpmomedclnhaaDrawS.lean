/-
  Flats and drawers, by the reference. No condition.
-/
import Derived.Test.YtejpmomedclnhaaDrawM3
namespace Go.Proofs.Ytejpmomedclnhaa
open Go.RowKit
set_option linter.unusedVariables false

theorem HasI.open {w : World} {v : Value} {L : List Int} (h : HasI w v L) : ∃ a cap g off, v = .slice a L.length cap ∧ L.length ≤ cap ∧ (0 < L.length → a = some ⟨g, off, none⟩ ∧ g < w.heap.size) ∧ ∀ k, k < L.length → w.cell? ⟨g, off + k, none⟩ = some (.int .i64 (L.getD k 0)) := by
  obtain ⟨a, cap, rfl, hc, g, off, rfl, hg, h⟩ := h
  exact ⟨_, cap, g, off, rfl, hc, fun _ => ⟨rfl, hg⟩, h⟩
/-- The numbers under a name of their own. -/
theorem HasI.named {w : World} {v : Value} {L : List Int} (h : HasI w v L) : ∃ (f : Nat → Int) (n : Nat) (a : Option Addr) (cap g off : Nat), (∀ k, L.getD k 0 = f k) ∧ L.length = n ∧ v = .slice a n cap ∧ n ≤ cap ∧ (0 < n → a = some ⟨g, off, none⟩ ∧ g < w.heap.size) ∧ ∀ k, k < n → w.cell? ⟨g, off + k, none⟩ = some (.int .i64 (f k)) := by
  obtain ⟨a, cap, g, off, h1, h2, h3, h4⟩ := h.open
  exact ⟨fun k => L.getD k 0, _, a, cap, g, off, fun _ => rfl, rfl, h1, h2, h3, h4⟩

set_option maxHeartbeats 1000000 in
theorem rising_spec (v : Value) (L : List Int) (w : World) (h : HasI w v L) (hL : L.length ≤ 1048576) : Calls Try.prog 90 #[v, .int .i64 1, .int .i64 999] w fun e w' => e = .returned (.bool (risB L)) ∧ Below w.heap.size w w' := by
  obtain ⟨f, n, a, cap, g, off, hf, hn, rfl, hc, ha, hcell⟩ := h.named
  have HF := hid hf
  have HL := hid hn
  have HA := hid ha
  have HC := hid hcell
  rw [hn] at hL
  clear h hf hn ha hcell
  go_enter Try.func90, Try.ntmps90
  go_wp2
  go_loopw [7] (fun i wr => ∃ k : Nat, k ≤ n ∧ i = .int .i64 k ∧ Below w.heap.size w wr ∧ Hid (∀ i, i < k → risOk L i = true)) (fun i _ => n - (intOf i).toNat)
  case atStart => exact ⟨0, by omega, rfl, Below.refl _ _, fun i hi => absurd hi (by omega)⟩
  case round =>
    obtain ⟨k, hk, rfl, hB, hf⟩ := hrel
    by_cases hlt : k < n
    · obtain ⟨rfl, hg⟩ := HA.out (by omega)
      have c0 : wr.cell? ⟨g, off + k, none⟩ = some (.int .i64 (f k)) := (hB.cell hg).trans (HC.out k hlt)
      have hbr : g < wr.heap.size := by have := hB.size; omega
      have e8 : (0 : Int) ≤ (k : Int) := by omega
      have e9 : (k : Int) < (n : Int) := by omega
      by_cases h1 : inB (f k) 1 999 = true
      · by_cases h2 : 0 < k
        · have e0 : IntKind.i64.wrap ((k : Int) - 1) = (k : Int) - 1 := IntWalk.i64_in _ (by omega)
          have e1 : ((k : Int) - 1).toNat = k - 1 := by omega
          have e2 : (0 : Int) ≤ (k : Int) - 1 := by omega
          have e3 : (k : Int) - 1 < (n : Int) := by omega
          have p0 : wr.cell? ⟨g, off + (k - 1), none⟩ = some (.int .i64 (f (k - 1))) := (hB.cell hg).trans (HC.out (k - 1) (by omega))
          have d2 : decide ((0 : Int) < (k : Int)) = true := by simp; omega
          by_cases h3 : f (k - 1) < f k
          · have d3 : decide (f k ≤ f (k - 1)) = false := by simp; omega
            have hok : Hid (risOk L k = true) := by unfold Hid risOk; rw [HF.out, HF.out, h1]; simp [h3]
            clear h3
            go_wp2_with fail
            have hq := fun x : Later (wr) => x.cell
            refine region_later (by kernel_rfl) (by kernel_rfl) ?_
            repeat (go_big_quiet_step ((go_at_call 89; refine calls_later_same (in_spec _ _ _ _))))
            refine wpQuiet_nil ?_
            intro _ hw'
            obtain ⟨x, rfl⟩ := hw'
            have hB1 : Below w.heap.size w x.wd := Below.on hB hB.size x.below
            clear hq
            go_wp2
            go_roundw
            case rel => exact ⟨k + 1, by omega, by go_num, hB1, fun i hi => by by_cases hik : i < k; exact hf.out i hik; rw [show i = k by omega]; exact hok.out⟩
            case measure => simp [intOf]; omega
          · have d3 : decide (f k ≤ f (k - 1)) = true := by simp; omega
            have hok : Hid (risOk L k = false) := by unfold Hid risOk; rw [HF.out, HF.out, h1]; simp [h3]; omega
            clear h3
            go_wp2_with fail
            have hq := fun x : Later (wr) => x.cell
            refine region_later (by kernel_rfl) (by kernel_rfl) ?_
            repeat (go_big_quiet_step ((go_at_call 89; refine calls_later_same (in_spec _ _ _ _))))
            refine wpQuiet_nil ?_
            intro _ hw'
            obtain ⟨x, rfl⟩ := hw'
            have hB1 : Below w.heap.size w x.wd := Below.on hB hB.size x.below
            clear hq
            go_wp2
            go_ret
            exact ⟨ret_bool (by rw [← HL.out] at hlt; exact (allI_false hlt hok.out).symm), hB1⟩
        · have hkz : (k == 0) = true := by simp; omega
          have d2 : decide ((0 : Int) < (k : Int)) = false := by simp; omega
          have hok : Hid (risOk L k = true) := by unfold Hid risOk; rw [HF.out, h1, hkz]; rfl
          clear hkz
          go_wp2_with fail
          have hq := fun x : Later (wr) => x.cell
          refine region_later (by kernel_rfl) (by kernel_rfl) ?_
          repeat (go_big_quiet_step ((go_at_call 89; refine calls_later_same (in_spec _ _ _ _))))
          refine wpQuiet_nil ?_
          intro _ hw'
          obtain ⟨x, rfl⟩ := hw'
          have hB1 : Below w.heap.size w x.wd := Below.on hB hB.size x.below
          clear hq
          go_wp2
          go_roundw
          case rel => exact ⟨k + 1, by omega, by go_num, hB1, fun i hi => by by_cases hik : i < k; exact hf.out i hik; rw [show i = k by omega]; exact hok.out⟩
          case measure => simp [intOf]; omega
      · have h1' : inB (f k) 1 999 = false := by simpa using h1
        have hok : Hid (risOk L k = false) := by unfold Hid risOk; rw [HF.out, h1']; rfl
        clear h1
        go_wp2_with fail
        have hq := fun x : Later (wr) => x.cell
        refine region_later (by kernel_rfl) (by kernel_rfl) ?_
        repeat (go_big_quiet_step ((go_at_call 89; refine calls_later_same (in_spec _ _ _ _))))
        refine wpQuiet_nil ?_
        intro _ hw'
        obtain ⟨x, rfl⟩ := hw'
        have hB1 : Below w.heap.size w x.wd := Below.on hB hB.size x.below
        clear hq
        go_wp2
        go_ret
        exact ⟨ret_bool (by rw [← HL.out] at hlt; exact (allI_false hlt hok.out).symm), hB1⟩
    · obtain rfl : k = n := by omega
      go_wp2_with fail
      go_ret
      exact ⟨ret_bool (by unfold risB; rw [HL.out]; exact (allI_true.2 hf.out).symm), hB⟩

set_option maxHeartbeats 1000000 in
theorem has_spec (v : Value) (L : List Int) (x : Int) (w : World) (h : HasI w v L) (hL : L.length ≤ 1048576) : Calls Try.prog 98 #[v, .int .i64 x] w fun e w' => e = .returned (.bool (L.contains x)) ∧ w = w' := by
  obtain ⟨f, n, a, cap, g, off, hf, hn, rfl, hc, ha, hcell⟩ := h.named
  have HF := hid hf
  have HL := hid hn
  have HA := hid ha
  have HC := hid hcell
  rw [hn] at hL
  obtain ⟨r, hr⟩ : ∃ r, L.contains x = r := ⟨_, rfl⟩
  have HR := hid hr
  rw [hr]
  clear h hf hn ha hcell hr
  go_enter Try.func98, Try.ntmps98
  go_wp2
  go_loop [5] (fun i => ∃ k : Nat, k ≤ n ∧ i = .int .i64 k ∧ Hid (∀ i, i < k → f i ≠ x)) (fun i => n - (intOf i).toNat)
  case atStart => exact ⟨0, by omega, rfl, fun i hi => absurd hi (by omega)⟩
  case round =>
    obtain ⟨k, hk, rfl, hf⟩ := hrel
    by_cases hlt : k < n
    · obtain ⟨rfl, hg⟩ := HA.out (by omega)
      have c0 : w.cell? ⟨g, off + k, none⟩ = some (.int .i64 (f k)) := HC.out k hlt
      by_cases h1 : f k = x
      · have d1 : (f k == x) = true := by simp [h1]
        have hok : Hid (r = true) := by unfold Hid; rw [← HR.out, ← h1, ← HF.out]; simp [List.getD, show k < L.length by rw [HL.out]; exact hlt]
        clear h1
        go_wp2_with fail
        go_ret
        exact ⟨by rw [hok.out]; rfl, rfl⟩
      · have d1 : (f k == x) = false := by simp [h1]
        have hok := hid h1
        clear h1
        go_wp2_with fail
        go_round
        case rel => exact ⟨k + 1, by omega, by go_num, fun i hi => by by_cases hik : i < k; exact hf.out i hik; rw [show i = k by omega]; exact hok.out⟩
        case measure => simp [intOf]; omega
    · obtain rfl : k = n := by omega
      go_wp2_with fail
      go_ret
      refine ⟨ret_bool ?_, rfl⟩
      rw [← HR.out]
      cases hq : L.contains x with
      | false => rfl
      | true =>
        obtain ⟨i, hi⟩ := List.getElem?_of_mem (List.contains_iff_mem.1 hq)
        have hil := (List.getElem?_eq_some_iff.1 hi).1
        exact absurd (by rw [← HF.out]; simp [List.getD, hi]) (hf.out i (by rw [← HL.out]; exact hil))

theorem drawer_spec (d : DrawerD) (v : Value) (w : World) (h : HasI w v d.Flats) (hL : d.Flats.length ≤ 1048576) : Calls Try.prog 54 #[d.val v] w fun e w' => e = .returned (.bool (drawerB d)) ∧ Below w.heap.size w w' := by
  have K : Hid (∀ w', Below w.heap.size w w' → Calls Try.prog 90 #[v, .int .i64 1, .int .i64 999] w' fun e w'' => e = .returned (.bool (risB d.Flats)) ∧ Below w'.heap.size w' w'') := fun w' hb => rising_spec v _ w' (h.below hb) hL
  have hA : Below w.heap.size w (w.alloc (.cells #[.int .i64 d.Id, .int .i64 d.Wide, .int .i64 d.High, .int .i64 d.Holds, v] 32)) := by go_grown
  obtain ⟨a, cap, rfl, hc, _⟩ := h
  by_cases h12 : d.Flats.length ≤ 12
  · have h12i : (d.Flats.length : Int) ≤ 12 := by omega
    go_enter Try.func54, Try.ntmps54
    go_wp2_with (first | (go_at_call 89; refine (in_spec _ _ _ _).mono ?_; rintro e w' ⟨rfl, rfl⟩) | (go_at_call 90; refine (K.out _ hA).mono ?_; rintro e w' ⟨rfl, hb⟩))
    all_goals go_ret
    all_goals first | exact ⟨by simp [drawerB, *], hA⟩ | exact ⟨by simp [drawerB, *], Below.on hA (by simp) hb⟩
  · have h12i : ¬ (d.Flats.length : Int) ≤ 12 := by omega
    go_enter Try.func54, Try.ntmps54
    go_wp2_with (go_at_call 89; refine (in_spec _ _ _ _).mono ?_; rintro e w' ⟨rfl, rfl⟩)
    all_goals go_ret
    all_goals exact ⟨by simp [drawerB, *], hA⟩

theorem fits_spec (f : FlatD) (d : DrawerD) (v : Value) (w : World) : Calls Try.prog 55 #[f.val, d.val v] w fun e w' => e = .returned (.bool (fitsB f d)) ∧ Below w.heap.size w w' := by
  go_enter Try.func55, Try.ntmps55
  go_wp2
  all_goals go_ret
  all_goals exact ⟨ret_bool (by rw [Bool.eq_iff_iff]; simp [fitsB]; omega), by go_grown⟩

set_option maxHeartbeats 400000 in
theorem flatFind_spec (w : World) (b off len cap : Nat) (X : Nat → FlatD) (id : Int) (h : Rw w b off 4 len (fun i => (X i).cells)) (hm : len ≤ 1048576) (hlc : len ≤ cap) :
    Calls Try.prog 67 #[.slice (some ⟨b, off, none⟩) len cap, .int .i64 id] w fun e w' => e = .returned (.int .i64 (findI (fun i => (X i).Id == id) len)) ∧ w = w' := by
  have H := hid h.2
  have hb := h.1
  clear h
  go_enter Try.func67, Try.ntmps67
  go_wp2
  go_loop [5] (fun i => ∃ k : Nat, k ≤ len ∧ i = .int .i64 k ∧ Hid (findI (fun i => (X i).Id == id) len = findFrom (fun i => (X i).Id == id) k (len - k))) (fun i => len - (intOf i).toNat)
  case atStart => exact ⟨0, by omega, rfl, rfl⟩
  case round =>
    obtain ⟨k, hk, rfl, hf⟩ := hrel
    by_cases hlt : k < len
    · have c0 : w.cell? ⟨b, off + k * 4, none⟩ = some (.int .i64 (X k).Id) := H.out k hlt 0 (by omega)
      go_wp2
      all_goals first
        | (go_ret; exact ⟨ret_int (findFrom_hit hlt (by simp [*]) hf.out).symm, rfl⟩)
        | (go_round; (case rel => exact ⟨k + 1, by omega, by go_num, findFrom_miss hlt (by simp [*]) hf.out⟩); (case measure => simp [intOf]; omega))
    · go_wp2
      go_ret
      exact ⟨ret_int (findFrom_end (by omega) hf.out).symm, rfl⟩

end Go.Proofs.Ytejpmomedclnhaa
