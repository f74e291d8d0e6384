/-
  Slices of arrays of 2 numbers that a call has made: compared, marked, held. No condition.
-/
import Derived.Test.YtgdhjiiblfdlcaaOwn
namespace Go.Proofs.Ytgdhjiiblfdlcaa
open Go.RowKit
set_option linter.unusedVariables false
set_option maxRecDepth 100000

theorem info_A2 : (Try.prog.info? 58).map (fun i => (i.zero, i.size, i.bytes)) = some (some (.agg #[.int .i64 0, .int .i64 0]), 2, 16) := by kernel_rfl
/-- v is a slice of the call's own, of arrays of 2 numbers; L: all the numbers. -/
def OwnA2 (B : Nat) (w : World) (v : Value) (L : List Int) : Prop := w.ownsRow B 58 2 v (L.length / 2) (L.map (Value.int .i64))
theorem OwnA2.len {B : Nat} {w : World} {v : Value} {L : List Int} (h : OwnA2 B w v L) : L.length = L.length / 2 * 2 := by have := h.1; rwa [List.length_map] at this
theorem OwnA2.below {B : Nat} {w w' : World} {v : Value} {L : List Int} (h : OwnA2 B w v L) (hb : Below w.heap.size w w') : OwnA2 B w' v L := ownsRow_below h hb
theorem OwnA2.base {B B' : Nat} {w : World} {v : Value} {L : List Int} (h : OwnA2 B w v L) (hb : B' ≤ B) : OwnA2 B' w v L := ownsRow_base h hb
theorem OwnA2.nil (B : Nat) (w : World) : OwnA2 B w (.slice none 0 0) [] := World.ownsRow_nil _ _ _ _
theorem OwnA2.empty (w : World) : OwnA2 w.heap.size (w.alloc (.cells #[] 58)) (.slice (some ⟨w.heap.size, 0, none⟩) 0 0) [] :=
  World.ownsRow_made w #[] 0 (Nat.le_refl _) (by simp [maxLen]) rfl
theorem OwnA2.kept {B : Nat} {w w' : World} {v : Value} {L : List Int} {row : Option Nat} (h : OwnA2 B w v L) (hg : w.grownBy w' row) (hne : v.ownBlock = none ∨ v.ownBlock ≠ row) : OwnA2 B w' v L := World.ownsRow.kept h hg hne
theorem OwnA2.form {B : Nat} {w : World} {v : Value} {L : List Int} (h : OwnA2 B w v L) :
    (v = .slice none 0 0 ∧ L = []) ∨ ∃ g cap n, L.length = n * 2 ∧ v = .slice (some ⟨g, 0, none⟩) n cap ∧ B ≤ g ∧ g < w.heap.size ∧ n ≤ cap ∧ cap ≤ maxLen ∧ (∀ k, k < n * 2 → w.cell? ⟨g, k, none⟩ = some (.int .i64 (L.getD k 0))) ∧ ∀ o, w.frozen? ⟨g, o, none⟩ = false := by
  have hl := h.len
  rcases h.2 with ⟨rfl, h0⟩ | ⟨g, cap, cur, rfl, hb, hg, hnc, hcm, hcs, htk⟩
  · exact .inl ⟨rfl, List.eq_nil_of_length_eq_zero (by omega)⟩
  · refine .inr ⟨g, cap, L.length / 2, hl, rfl, hb, (Array.getElem?_eq_some_iff.1 hg).1, hnc, hcm, fun k hk => ?_, fun o => World.ownsRow.frozenAt h o⟩
    rw [World.ownsRow.cellAt h k (by omega)]
    have hk' : k < L.length := by omega
    simp [List.getD, hk']
theorem OwnA2.ne_hi {B H : Nat} {w : World} {v : Value} {L : List Int} (h : OwnA2 B w v L) (hH : H < B) : v.ownBlock = none ∨ v.ownBlock ≠ some H := by
  cases hv : v.ownBlock with
  | none => exact .inl rfl
  | some k => exact .inr fun e => by have := (World.ownsRow.lt h k hv).1; injection e with e; omega
theorem OwnA2.ne_lo {B H : Nat} {w : World} {v : Value} {L : List Int} (h : OwnA2 B w v L) (hH : w.heap.size ≤ H) : v.ownBlock = none ∨ v.ownBlock ≠ some H := by
  cases hv : v.ownBlock with
  | none => exact .inl rfl
  | some k => exact .inr fun e => by have := (World.ownsRow.lt h k hv).2; injection e with e; omega
theorem OwnA2.lt {B : Nat} {w : World} {v : Value} {L : List Int} (h : OwnA2 B w v L) : ∀ k, v.ownBlock = some k → k < w.heap.size := fun k hk => (World.ownsRow.lt h k hk).2
theorem OwnA2.ge {B : Nat} {w : World} {v : Value} {L : List Int} (h : OwnA2 B w v L) : ∀ k, v.ownBlock = some k → B ≤ k := fun k hk => (World.ownsRow.lt h k hk).1

set_option maxHeartbeats 1000000 in
theorem eqIntA2_same (a0 a1 : Int) (w : World) : Calls Try.prog 35 #[.agg #[.int .i64 a0, .int .i64 a1], .agg #[.int .i64 a0, .int .i64 a1]] w fun e w' => e = .returned (.bool true) ∧ Below w.heap.size w w' := by
  obtain ⟨W, hW⟩ : ∃ W, W = (w.alloc (.cells #[.int .i64 a0, .int .i64 a1] 58)).alloc (.cells #[.int .i64 a0, .int .i64 a1] 58) := ⟨_, rfl⟩
  have HS : Below w.heap.size w W := by rw [hW]; go_grown
  have hz : W.heap.size = w.heap.size + 2 := by rw [hW]; simp
  have p0 : W.cell? ⟨w.heap.size, 0, none⟩ = some (.int .i64 a0) := by rw [hW]; simp [go_sem]
  have p1 : W.cell? ⟨w.heap.size, 1, none⟩ = some (.int .i64 a1) := by rw [hW]; simp [go_sem]
  have q0 : W.cell? ⟨w.heap.size + 1, 0, none⟩ = some (.int .i64 a0) := by rw [hW]; simp [go_sem]
  have q1 : W.cell? ⟨w.heap.size + 1, 1, none⟩ = some (.int .i64 a1) := by rw [hW]; simp [go_sem]
  have HW := hid hW
  clear hW
  go_enter Try.func35, Try.ntmps35
  go_wp2_with fail
  rw [← HW.out]
  go_loopw [5] (fun i wr => ∃ k : Nat, k ≤ 2 ∧ i = .int .i64 k ∧ Below W.heap.size W wr) (fun i _ => 2 - (intOf i).toNat)
  case atStart => exact ⟨0, by omega, rfl, Below.refl _ _⟩
  case round =>
    obtain ⟨k, hk, rfl, hB⟩ := hrel
    have l1 : w.heap.size < wr.heap.size := by have := hB.size; omega
    have l2 : w.heap.size + 1 < wr.heap.size := by have := hB.size; omega
    have hq := fun x : Later wr => x.cell
    have hk' : k = 0 ∨ k = 1 ∨ k = 2 := by omega
    rcases hk' with rfl | rfl | rfl
    · have r1 := (hB.cell (p := ⟨w.heap.size, 0, none⟩) (by simp only; omega)).trans p0
      have r2 := (hB.cell (p := ⟨w.heap.size + 1, 0, none⟩) (by simp only; omega)).trans q0
      go_wp2_with fail
      refine region_later (by kernel_rfl) (by kernel_rfl) ?_
      repeat (go_big_quiet_step (fail))
      refine wpQuiet_nil ?_
      intro _ hw'
      obtain ⟨x, rfl⟩ := hw'
      have hB1 : Below W.heap.size W x.wd := Below.on hB hB.size x.below
      clear hq r1 r2
      go_wp2_with fail
      go_roundw
      case rel => exact ⟨1, by omega, by first | rfl | go_num, hB1⟩
      case measure => simp [intOf]
    · have r1 := (hB.cell (p := ⟨w.heap.size, 1, none⟩) (by simp only; omega)).trans p1
      have r2 := (hB.cell (p := ⟨w.heap.size + 1, 1, none⟩) (by simp only; omega)).trans q1
      go_wp2_with fail
      refine region_later (by kernel_rfl) (by kernel_rfl) ?_
      repeat (go_big_quiet_step (fail))
      refine wpQuiet_nil ?_
      intro _ hw'
      obtain ⟨x, rfl⟩ := hw'
      have hB1 : Below W.heap.size W x.wd := Below.on hB hB.size x.below
      clear hq r1 r2
      go_wp2_with fail
      go_roundw
      case rel => exact ⟨2, by omega, by first | rfl | go_num, hB1⟩
      case measure => simp [intOf]
    · go_wp2_with fail
      go_ret
      exact ⟨rfl, Below.on HS HS.size hB⟩

set_option maxHeartbeats 1000000 in
theorem eqIntA2S_own (v1 v2 : Value) (L : List Int) (B1 B2 : Nat) (w : World) (h1 : OwnA2 B1 w v1 L) (h2 : OwnA2 B2 w v2 L) (hL : L.length ≤ 1048576) :
    Calls Try.prog 10 #[v1, v2] w fun e w' => e = .returned (.bool true) ∧ Below w.heap.size w w' := by
  rcases h1.form with ⟨rfl, hn⟩ | ⟨g1, c1, n, hn, rfl, _, l1, hc1, hm1, H1, _⟩
  · subst hn
    rcases h2.form with ⟨rfl, _⟩ | ⟨g2, c2, n, hn, rfl, _, l2, hc2, hm2, H2, _⟩
    · clear h1 h2
      go_enter Try.func10, Try.ntmps10
      go_wp2
      refine wp_loop_rounds 1 ?_
      rw [rounds_succ]
      go_wp2
      go_ret
      exact ⟨rfl, Below.refl _ _⟩
    · obtain rfl : n = 0 := by simp at hn; omega
      clear h1 h2
      go_enter Try.func10, Try.ntmps10
      go_wp2
      refine wp_loop_rounds 1 ?_
      rw [rounds_succ]
      go_wp2
      go_ret
      exact ⟨rfl, Below.refl _ _⟩
  · rcases h2.form with ⟨rfl, hn2⟩ | ⟨g2, c2, n2, hn2, rfl, _, l2, hc2, hm2, H2, _⟩
    · subst hn2
      obtain rfl : n = 0 := by simp at hn; omega
      clear h1 h2
      go_enter Try.func10, Try.ntmps10
      go_wp2
      refine wp_loop_rounds 1 ?_
      rw [rounds_succ]
      go_wp2
      go_ret
      exact ⟨rfl, Below.refl _ _⟩
    obtain rfl : n2 = n := by omega
    have K1 := hid H1
    have K2 := hid H2
    clear h1 h2 H1 H2
    obtain ⟨f, hf⟩ : ∃ f : Nat → Int, ∀ k, L.getD k 0 = f k := ⟨_, fun _ => rfl⟩
    have HF := hid hf
    have hn' : n2 ≤ 1048576 := by omega
    clear hf hn2 hn
    go_enter Try.func10, Try.ntmps10
    go_wp2
    go_loopw [5] (fun i wr => ∃ k : Nat, k ≤ n2 ∧ i = .int .i64 k ∧ Below w.heap.size w wr) (fun i _ => n2 - (intOf i).toNat)
    case atStart => exact ⟨0, by omega, rfl, Below.refl _ _⟩
    case round =>
      obtain ⟨k, hk, rfl, hB⟩ := hrel
      by_cases hlt : k < n2
      · have hq := fun x : Later wr => x.cell
        have lr1 : g1 < wr.heap.size := by have := hB.size; omega
        have lr2 : g2 < wr.heap.size := by have := hB.size; omega
        have e2 : (0 : Int) ≤ (k : Int) := by omega
        have e3 : (k : Int) < (n2 : Int) := by omega
        have p0 : wr.cell? ⟨g1, k * 2, none⟩ = some (.int .i64 (f (k * 2 + 0))) := (hB.cell l1).trans (by have hh := K1.out (k * 2 + 0) (by omega); rw [HF.out] at hh; exact hh)
        have p1 : wr.cell? ⟨g1, k * 2 + 1, none⟩ = some (.int .i64 (f (k * 2 + 1))) := (hB.cell l1).trans (by have hh := K1.out (k * 2 + 1) (by omega); rw [HF.out] at hh; exact hh)
        have r0 : wr.cell? ⟨g2, k * 2, none⟩ = some (.int .i64 (f (k * 2 + 0))) := (hB.cell l2).trans (by have hh := K2.out (k * 2 + 0) (by omega); rw [HF.out] at hh; exact hh)
        have r1 : wr.cell? ⟨g2, k * 2 + 1, none⟩ = some (.int .i64 (f (k * 2 + 1))) := (hB.cell l2).trans (by have hh := K2.out (k * 2 + 1) (by omega); rw [HF.out] at hh; exact hh)
        generalize f (k * 2 + 0) = x0 at p0 r0
        generalize f (k * 2 + 1) = x1 at p1 r1
        go_wp2_with fail
        refine region_later (by kernel_rfl) (by kernel_rfl) ?_
        repeat (go_big_quiet_step ((go_at_call 35; refine calls_later (eqIntA2_same x0 x1 _))))
        refine wpQuiet_nil ?_
        intro _ hw'
        obtain ⟨x, rfl⟩ := hw'
        have hB1 : Below w.heap.size w x.wd := Below.on hB hB.size x.below
        clear hq
        go_wp2_with fail
        go_roundw
        case rel => exact ⟨k + 1, by omega, by go_num, hB1⟩
        case measure => simp [intOf]; omega
      · go_wp2_with fail
        go_ret
        exact ⟨rfl, hB⟩

set_option maxHeartbeats 1000000 in
theorem markIntA2S_own (v : Value) (L : List Int) (B : Nat) (k0 : Int) (w : World) (h : OwnA2 B w v L) (hL : L.length ≤ 16777216) (hk0 : 0 ≤ k0) (hk1 : k0 ≤ 1073741824) :
    Calls Try.prog 13 #[v, .int .i64 k0] w fun e w' => e = .returned (.int .i64 (k0 + (L.length : Int))) ∧ OwnA2 B w' v (marks k0 L.length) ∧ w.grownBy w' v.ownBlock := by
  rcases h.form with ⟨rfl, rfl⟩ | ⟨g, cap, n, hn, rfl, hb, hl, hc, hm, _, _⟩
  · go_enter Try.func13, Try.ntmps13
    go_wp2
    refine wp_loop_rounds 1 ?_
    rw [rounds_succ]
    go_wp2
    go_ret
    exact ⟨by simp, by simpa [marks] using OwnA2.nil B w, World.grownBy.refl _ _⟩
  · have HO : Hid (w.ownsRow B 58 2 (.slice (some ⟨g, 0, none⟩) n cap) n (L.map (Value.int .i64))) := by
      unfold Hid
      have := h
      unfold OwnA2 at this
      rwa [hn, Nat.mul_div_cancel _ (by omega : 0 < 2)] at this
    have HN := hid hn
    have hn1 : n ≤ 16777216 := by omega
    rw [hn]
    clear h hn hL
    go_enter Try.func13, Try.ntmps13
    go_wp2
    go_loopw [1, 5] (fun q i wr => ∃ k : Nat, k ≤ n ∧ i = .int .i64 k ∧ q = .int .i64 (k0 + (k : Int) * 2) ∧ Hid (w.grownBy wr (some g)) ∧ Hid (wr.ownsRow B 58 2 (.slice (some ⟨g, 0, none⟩) n cap) n ((marked k0 L (k * 2)).map (Value.int .i64)))) (fun _ i _ => n - (intOf i).toNat)
    case atStart => exact ⟨0, by omega, rfl, by simp, World.grownBy.refl _ _, by rw [Nat.zero_mul, marked_zero]; exact HO⟩
    case round =>
      obtain ⟨k, hk, rfl, rfl, hg, ho⟩ := hrel
      by_cases hlt : k < n
      · go_wp2_with fail
        go_loopw [1, 6] (fun q i wr => ∃ j : Nat, j ≤ 2 ∧ i = .int .i64 j ∧ q = .int .i64 (k0 + (k : Int) * 2 + (j : Int)) ∧ Hid (w.grownBy wr (some g)) ∧ Hid (wr.ownsRow B 58 2 (.slice (some ⟨g, 0, none⟩) n cap) n ((marked k0 L (k * 2 + j)).map (Value.int .i64)))) (fun _ i _ => 2 - (intOf i).toNat)
        case atStart => exact ⟨0, by omega, rfl, by simp, hg, ho⟩
        case round =>
          clear hg ho
          obtain ⟨j, hj, rfl, rfl, hg, ho⟩ := hrel
          by_cases hjt : j < 2
          · have hkj : k * 2 + j < n * 2 := by omega
            have hcell := (ho.out).cellAt (k * 2 + j) (by omega)
            obtain ⟨u, hu⟩ : ∃ u, wr.cell? ⟨g, k * 2 + j, none⟩ = some u := ⟨_, hcell.trans (by simp [marked_length, HN.out, hkj]; rfl)⟩
            have hfz := (ho.out).frozenAt (k * 2 + j)
            obtain ⟨st, gr⟩ := (ho.out).stored (k * 2 + j) (.int .i64 (k0 + ((k * 2 + j : Nat) : Int)))
            rw [marked_step k0 L (k * 2 + j) (by rw [HN.out]; exact hkj)] at st
            rw [show k0 + ((k * 2 + j : Nat) : Int) = k0 + (k : Int) * 2 + (j : Int) by omega] at st gr
            have ST := hid st
            have GR := hid gr
            clear st gr hcell
            go_wp2_with fail
            go_roundw
            case rel => exact ⟨j + 1, by omega, by go_num, by go_num, grownBy_trans hg.out GR.out, ST⟩
            case measure => simp [intOf]; omega
          · obtain rfl : j = 2 := by omega
            go_wp2_with fail
            go_roundw
            case rel => exact ⟨k + 1, by omega, by go_num, by go_num, hg, by rw [show (k + 1) * 2 = k * 2 + 2 by omega]; exact ho⟩
            case measure => simp [intOf]; omega
      · obtain rfl : k = n := by omega
        go_wp2_with fail
        go_ret
        refine ⟨ret_int (by omega), ?_, hg.out⟩
        have := ho.out
        rw [← HN.out, marked_end] at this
        unfold OwnA2
        rw [← HN.out, marks_length, HN.out, Nat.mul_div_cancel _ (by omega : 0 < 2)]
        rw [HN.out] at this
        exact this

set_option maxHeartbeats 1000000 in
theorem heldIntA2S_own (v : Value) (m B : Nat) (k0 : Int) (w : World) (h : OwnA2 B w v (marks k0 m)) (hL : m ≤ 16777216) (hk0 : 0 ≤ k0) (hk1 : k0 ≤ 1073741824) :
    Calls Try.prog 14 #[v, .int .i64 k0] w fun e w' => e = .returned (.int .i64 (k0 + (m : Int))) ∧ w = w' := by
  rcases h.form with ⟨rfl, h0⟩ | ⟨g, cap, n, hn, rfl, hb, hl, hc, hm, hcell, _⟩
  · have : m = 0 := by rw [← marks_length k0 m, h0]; rfl
    subst this
    go_enter Try.func14, Try.ntmps14
    go_wp2
    refine wp_loop_rounds 1 ?_
    rw [rounds_succ]
    go_wp2
    go_ret
    exact ⟨by simp, rfl⟩
  · rw [marks_length] at hn
    subst hn
    have HC := hid hcell
    clear h hcell
    go_enter Try.func14, Try.ntmps14
    go_wp2
    go_loop [1, 5] (fun q i => ∃ k : Nat, k ≤ n ∧ i = .int .i64 k ∧ q = .int .i64 (k0 + (k : Int) * 2)) (fun _ i => n - (intOf i).toNat)
    case atStart => exact ⟨0, by omega, rfl, by simp⟩
    case round =>
      obtain ⟨k, hk, rfl, rfl⟩ := hrel
      by_cases hlt : k < n
      · go_wp2_with fail
        go_loop [1, 6] (fun q i => ∃ j : Nat, j ≤ 2 ∧ i = .int .i64 j ∧ q = .int .i64 (k0 + (k : Int) * 2 + (j : Int))) (fun _ i => 2 - (intOf i).toNat)
        case atStart => exact ⟨0, by omega, rfl, by simp⟩
        case round =>
          obtain ⟨j, hj, rfl, rfl⟩ := hrel
          by_cases hjt : j < 2
          · have hkj : k * 2 + j < n * 2 := by omega
            have p1 : w.cell? ⟨g, k * 2 + j, none⟩ = some (.int .i64 (k0 + (k : Int) * 2 + (j : Int))) := by rw [HC.out _ hkj, marks_at hkj]; congr 2; omega
            go_wp2_with fail
            go_round
            case rel => exact ⟨j + 1, by omega, by go_num, by go_num⟩
            case measure => simp [intOf]; omega
          · obtain rfl : j = 2 := by omega
            go_wp2_with fail
            go_round
            case rel => exact ⟨k + 1, by omega, by go_num, by go_num⟩
            case measure => simp [intOf]; omega
      · obtain rfl : k = n := by omega
        go_wp2_with fail
        go_ret
        exact ⟨ret_int (by omega), rfl⟩

/-- The results: a slice of the call's own that holds L, and a bool. -/
def RetA2B (L : List Int) (ok : Bool) (w : World) (e : Ending) (w' : World) : Prop := ∃ v, e = .returned (.tuple #[v, .bool ok]) ∧ OwnA2 w.heap.size w' v L ∧ Below w.heap.size w w'
end Go.Proofs.Ytgdhjiiblfdlcaa
