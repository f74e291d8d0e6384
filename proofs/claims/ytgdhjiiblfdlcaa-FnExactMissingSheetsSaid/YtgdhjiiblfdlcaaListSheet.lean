/-
  Lists of Sheet: copied, compared, measured. No condition.
-/
import Derived.Test.YtgdhjiiblfdlcaaMem
import Derived.Test.YtgdhjiiblfdlcaaShapes
namespace Go.Proofs.Ytgdhjiiblfdlcaa
open Go.RowKit
set_option linter.unusedVariables false

theorem szSheetS_any (a : Option Addr) (len cap : Nat) (w : World) (hm : len ≤ maxLen) :
    Calls Try.prog 6 #[.slice a len cap, .int .i64 1048576] w fun e w' => e = .returned (.int .i64 (if (len : Int) ≤ 1048576 then 1048576 - (len : Int) else -1)) ∧ w = w' := by
  unfold maxLen at hm
  by_cases h : (len : Int) ≤ 1048576
  · rw [if_pos h]
    go_enter Try.func6, Try.ntmps6
    go_wp2
    go_ret
    exact ⟨rfl, rfl⟩
  · rw [if_neg h]
    go_enter Try.func6, Try.ntmps6
    go_wp2
    go_ret
    exact ⟨rfl, rfl⟩

theorem toSheet_any (s : SheetD) (w : World) : Calls Try.prog 31 #[s.val] w fun e w' => e = .returned s.val ∧ Below w.heap.size w w' := by
  go_enter Try.func31, Try.ntmps31
  go_wp2
  exact bodyPost_ret (v := s.val) (by simp [results, Try.results31, go_sem]) rfl ⟨rfl, by go_grown⟩

theorem eqSheet_same (s : SheetD) (w : World) : Calls Try.prog 36 #[s.val, s.val] w fun e w' => e = .returned (.bool true) ∧ Below w.heap.size w w' := by
  go_enter Try.func36, Try.ntmps36
  go_wp2
  go_ret
  exact ⟨rfl, by go_grown⟩

theorem info_Sheet : (Try.prog.info? 55).map (fun i => (i.zero, i.size, i.bytes)) = some (some (.agg #[.int .i64 0, .int .i64 0, .int .i64 0, .int .i64 0, .int .i64 0]), 5, 40) := by kernel_rfl

/-- A row of the call's own, filled up to element k. -/
def FillSheet (H len k : Nat) (X : Nat → SheetD) (w : World) : Prop := ∃ arr : Array Value, w.heap[H]? = some (.cells arr 55 (0, 0)) ∧ arr.size = len * 5 ∧ ∀ i, i < k → ∀ j, j < 5 → arr[i * 5 + j]? = ((X i).cells)[j]?

theorem FillSheet.cell {H len k : Nat} {X : Nat → SheetD} {w : World} (h : FillSheet H len k X w) (j : Nat) (hj : j < len * 5) : ∃ v, w.cell? ⟨H, j, none⟩ = some v := by
  obtain ⟨arr, h1, h2, _⟩ := h
  exact ⟨arr[j], by simp [World.cell?, h1, h2, hj]⟩
theorem FillSheet.frozen {H len k : Nat} {X : Nat → SheetD} {w : World} (h : FillSheet H len k X w) (j : Nat) : w.frozen? ⟨H, j, none⟩ = false := by
  obtain ⟨arr, h1, h2, _⟩ := h
  simp [World.frozen?, h1]
theorem FillSheet.below {H len k : Nat} {X : Nat → SheetD} {w w' : World} (h : FillSheet H len k X w) (hb : Below w.heap.size w w') (hH : H < w.heap.size) : FillSheet H len k X w' := by
  obtain ⟨arr, h1, h2, h3⟩ := h
  exact ⟨arr, (hb.block H hH).trans h1, h2, h3⟩
theorem FillSheet.store {H len k : Nat} {X : Nat → SheetD} {w : World} (h : FillSheet H len k X w) (hk : k < len) : FillSheet H len (k + 1) X ((((((w.setCell ⟨H, k * 5, none⟩ (.int .i64 (X k).Id)).setCell ⟨H, k * 5 + 1, none⟩ (.int .i64 (X k).Row)).setCell ⟨H, k * 5 + 2, none⟩ (.int .i64 (X k).Col)).setCell ⟨H, k * 5 + 3, none⟩ (.int .i64 (X k).Scale)).setCell ⟨H, k * 5 + 4, none⟩ (.int .i64 (X k).Year))) := by
  obtain ⟨arr, h1, h2, h3⟩ := h
  have g1 := heap_setCell_same w H (k * 5) arr 55 (.int .i64 (X k).Id) h1
  have g2 := heap_setCell_same _ H (k * 5 + 1) _ 55 (.int .i64 (X k).Row) g1
  have g3 := heap_setCell_same _ H (k * 5 + 2) _ 55 (.int .i64 (X k).Col) g2
  have g4 := heap_setCell_same _ H (k * 5 + 3) _ 55 (.int .i64 (X k).Scale) g3
  have g5 := heap_setCell_same _ H (k * 5 + 4) _ 55 (.int .i64 (X k).Year) g4
  refine ⟨_, g5, by simpa using h2, fun i hi j hj => ?_⟩
  have hsz : k * 5 + 5 ≤ arr.size := by rw [h2]; have := Nat.mul_le_mul_right 5 (show k + 1 ≤ len from hk); omega
  by_cases hik : i = k
  · subst hik
    have hj' : j = 0 ∨ j = 1 ∨ j = 2 ∨ j = 3 ∨ j = 4 := by omega
    rcases hj' with rfl | rfl | rfl | rfl | rfl <;> simp [SheetD.cells, Array.getElem?_setIfInBounds] <;> omega
  · have h4 := h3 i (by omega) j hj
    rw [← h4]
    have hm := Nat.mul_le_mul_right 5 (show i + 1 ≤ k by omega)
    simp only [Array.getElem?_setIfInBounds]
    rw [if_neg (by omega)]
    rw [if_neg (by omega)]
    rw [if_neg (by omega)]
    rw [if_neg (by omega)]
    rw [if_neg (by omega)]

set_option maxHeartbeats 1000000 in
theorem toSheetS_any (a : Option Addr) (len cap : Nat) (X : Nat → SheetD) (w : World) (h : Sl w 5 a len (fun i => (X i).cells)) (hm : len ≤ 1048576) :
    Calls Try.prog 8 #[.slice a len cap] w fun e w' => e = .returned (.slice (some ⟨w.heap.size, 0, none⟩) len len) ∧ Below w.heap.size w w' ∧ w.heap.size < w'.heap.size ∧ FillSheet w.heap.size len len X w' := by
  obtain ⟨i0, hi, hz0, hz1, hz2⟩ := info_parts info_Sheet
  have hmk : ∀ (w : World), (Instr.makeSlice 27 (.int .i64 (len : Int)) (.int .i64 (len : Int))).run Try.prog w = .ok (.slice (some ⟨w.heap.size, 0, none⟩) len len) (w.alloc (.cells (madeCells #[.int .i64 0, .int .i64 0, .int .i64 0, .int .i64 0, .int .i64 0] (len * 5)) 55)) := by
    intro w
    have := run_make (P := Try.prog) w 27 55 i0 _ Try.underlying27 hi hz0 .i64 .i64 len len (by omega) (Int.le_refl _) (by rw [hz2]; omega) (by omega)
    rw [hz1] at this
    simp only [Int.toNat_natCast] at this
    exact this
  have F0 : FillSheet w.heap.size len 0 X (w.alloc (.cells (madeCells #[.int .i64 0, .int .i64 0, .int .i64 0, .int .i64 0, .int .i64 0] (len * 5)) 55)) := ⟨_, heap_alloc_new w _, size_madeCells _ _, fun i hi => absurd hi (by omega)⟩
  have HF0 := hid F0
  clear F0 hi hz0 hz1 hz2
  rcases h with h | ⟨b, off, rfl, hb, h⟩
  · have H := hid h
    clear h
    go_enter Try.func8, Try.ntmps8
    go_wp2
    go_loopw [4] (fun i wr => ∃ k : Nat, k ≤ len ∧ i = .int .i64 k ∧ Below w.heap.size w wr ∧ w.heap.size < wr.heap.size ∧ Hid (FillSheet w.heap.size len k X wr)) (fun i _ => len - (intOf i).toNat)
    case atStart => exact ⟨0, by omega, rfl, by go_grown, by simp, HF0⟩
    case round =>
      clear hmk HF0
      obtain ⟨k, hk, rfl, hB, hs, hF⟩ := hrel
      have hge : ¬ k < len := by have := H.out; omega
      go_wp2_with fail
      go_ret
      exact ⟨rfl, hB, hs, by have := hF.out; rwa [show k = len by omega] at this⟩
  · have H := hid h
    clear h
    go_enter Try.func8, Try.ntmps8
    go_wp2
    go_loopw [4] (fun i wr => ∃ k : Nat, k ≤ len ∧ i = .int .i64 k ∧ Below w.heap.size w wr ∧ w.heap.size < wr.heap.size ∧ Hid (FillSheet w.heap.size len k X wr)) (fun i _ => len - (intOf i).toNat)
    case atStart => exact ⟨0, by omega, rfl, by go_grown, by simp, HF0⟩
    case round =>
      clear hmk HF0
      obtain ⟨k, hk, rfl, hB, hs, hF⟩ := hrel
      by_cases hlt : k < len
      · have c0 : wr.cell? ⟨b, off + k * 5, none⟩ = some (.int .i64 (X k).Id) := (hB.cell hb).trans (H.out k hlt 0 (by omega))
        have c1 : wr.cell? ⟨b, off + k * 5 + 1, none⟩ = some (.int .i64 (X k).Row) := (hB.cell hb).trans (H.out k hlt 1 (by omega))
        have c2 : wr.cell? ⟨b, off + k * 5 + 2, none⟩ = some (.int .i64 (X k).Col) := (hB.cell hb).trans (H.out k hlt 2 (by omega))
        have c3 : wr.cell? ⟨b, off + k * 5 + 3, none⟩ = some (.int .i64 (X k).Scale) := (hB.cell hb).trans (H.out k hlt 3 (by omega))
        have c4 : wr.cell? ⟨b, off + k * 5 + 4, none⟩ = some (.int .i64 (X k).Year) := (hB.cell hb).trans (H.out k hlt 4 (by omega))
        go_wp2_with fail
        refine (toSheet_any (X k) _).mono ?_
        rintro e w1 ⟨rfl, hb1⟩
        have hB1 : Below w.heap.size w w1 := Below.on hB hB.size hb1
        have hs1 : w.heap.size < w1.heap.size := by have := hb1.size; omega
        have hF1 := hid (hF.out.below hb1 hs)
        have hkm := Nat.mul_le_mul_right 5 (show k + 1 ≤ len from hlt)
        obtain ⟨q0, t0⟩ := hF1.out.cell (k * 5) (by omega)
        obtain ⟨q1, t1⟩ := hF1.out.cell (k * 5 + 1) (by omega)
        obtain ⟨q2, t2⟩ := hF1.out.cell (k * 5 + 2) (by omega)
        obtain ⟨q3, t3⟩ := hF1.out.cell (k * 5 + 3) (by omega)
        obtain ⟨q4, t4⟩ := hF1.out.cell (k * 5 + 4) (by omega)
        have z0 := hF1.out.frozen (k * 5)
        have z1 := hF1.out.frozen (k * 5 + 1)
        have z2 := hF1.out.frozen (k * 5 + 2)
        have z3 := hF1.out.frozen (k * 5 + 3)
        have z4 := hF1.out.frozen (k * 5 + 4)
        clear c0 c1 c2 c3 c4
        go_wp2_with fail
        go_roundw
        case rel => exact ⟨k + 1, by omega, by go_num, by go_grown, by simp; omega, hF1.out.store hlt⟩
        case measure => simp [intOf]; omega
      · go_wp2_with fail
        go_ret
        exact ⟨rfl, hB, hs, by have := hF.out; rwa [show k = len by omega] at this⟩

theorem FillSheet.rw {H len : Nat} {X : Nat → SheetD} {w : World} (h : FillSheet H len len X w) : Rw w H 0 5 len (fun i => (X i).cells) := by
  obtain ⟨arr, h1, h2, h3⟩ := h
  refine ⟨(Array.getElem?_eq_some_iff.1 h1).1, fun i hi j hj => ?_⟩
  simp only [World.cell?, h1, Nat.zero_add]
  exact h3 i hi j hj

set_option maxHeartbeats 1000000 in
theorem eqSheetS_same (b1 b2 o1 o2 c1 c2 len : Nat) (X : Nat → SheetD) (w : World) (h1 : Rw w b1 o1 5 len (fun i => (X i).cells)) (h2 : Rw w b2 o2 5 len (fun i => (X i).cells)) (hm : len ≤ 1048576) (hc1 : len ≤ c1) (hc2 : len ≤ c2) :
    Calls Try.prog 11 #[.slice (some ⟨b1, o1, none⟩) len c1, .slice (some ⟨b2, o2, none⟩) len c2] w fun e w' => e = .returned (.bool true) ∧ Below w.heap.size w w' := by
  have H1 := hid h1
  have H2 := hid h2
  have l1 := h1.1
  have l2 := h2.1
  clear h1 h2
  go_enter Try.func11, Try.ntmps11
  go_wp2
  go_loopw [5] (fun i wr => ∃ k : Nat, k ≤ len ∧ i = .int .i64 k ∧ Below w.heap.size w wr) (fun i _ => len - (intOf i).toNat)
  case atStart => exact ⟨0, by omega, rfl, Below.refl _ _⟩
  case round =>
    obtain ⟨k, hk, rfl, hB⟩ := hrel
    by_cases hlt : k < len
    · have hq := fun x : Later wr => x.cell
      have lr1 : b1 < wr.heap.size := by have := hB.size; omega
      have lr2 : b2 < wr.heap.size := by have := hB.size; omega
      have e2 : (0 : Int) ≤ (k : Int) := by omega
      have e3 : (k : Int) < (len : Int) := by omega
      have p0 : wr.cell? ⟨b1, o1 + k * 5, none⟩ = some (.int .i64 (X k).Id) := (hB.cell l1).trans (H1.out.2 k hlt 0 (by omega))
      have p1 : wr.cell? ⟨b1, o1 + k * 5 + 1, none⟩ = some (.int .i64 (X k).Row) := (hB.cell l1).trans (H1.out.2 k hlt 1 (by omega))
      have p2 : wr.cell? ⟨b1, o1 + k * 5 + 2, none⟩ = some (.int .i64 (X k).Col) := (hB.cell l1).trans (H1.out.2 k hlt 2 (by omega))
      have p3 : wr.cell? ⟨b1, o1 + k * 5 + 3, none⟩ = some (.int .i64 (X k).Scale) := (hB.cell l1).trans (H1.out.2 k hlt 3 (by omega))
      have p4 : wr.cell? ⟨b1, o1 + k * 5 + 4, none⟩ = some (.int .i64 (X k).Year) := (hB.cell l1).trans (H1.out.2 k hlt 4 (by omega))
      have r0 : wr.cell? ⟨b2, o2 + k * 5, none⟩ = some (.int .i64 (X k).Id) := (hB.cell l2).trans (H2.out.2 k hlt 0 (by omega))
      have r1 : wr.cell? ⟨b2, o2 + k * 5 + 1, none⟩ = some (.int .i64 (X k).Row) := (hB.cell l2).trans (H2.out.2 k hlt 1 (by omega))
      have r2 : wr.cell? ⟨b2, o2 + k * 5 + 2, none⟩ = some (.int .i64 (X k).Col) := (hB.cell l2).trans (H2.out.2 k hlt 2 (by omega))
      have r3 : wr.cell? ⟨b2, o2 + k * 5 + 3, none⟩ = some (.int .i64 (X k).Scale) := (hB.cell l2).trans (H2.out.2 k hlt 3 (by omega))
      have r4 : wr.cell? ⟨b2, o2 + k * 5 + 4, none⟩ = some (.int .i64 (X k).Year) := (hB.cell l2).trans (H2.out.2 k hlt 4 (by omega))
      go_wp2_with fail
      refine region_later (by kernel_rfl) (by kernel_rfl) ?_
      repeat (go_big_quiet_step ((go_at_call 36; refine calls_later (eqSheet_same (X k) _))))
      refine wpQuiet_nil ?_
      intro _ hw'
      obtain ⟨x, rfl⟩ := hw'
      have hB1 : Below w.heap.size w x.wd := Below.on hB hB.size x.below
      clear hq
      go_wp2_with fail
      go_roundw
      case rel => exact ⟨k + 1, by omega, by go_num, hB1⟩
      case measure => simp [intOf]; omega
    · go_wp2_with fail
      go_ret
      exact ⟨rfl, hB⟩

set_option maxHeartbeats 1000000 in
theorem markSheetS_any (H len cap : Nat) (k0 : Int) (w : World) (h : Blk 55 H (len * 5) w) (hlc : len ≤ cap) (hL : len ≤ 16777216) (hk0 : 0 ≤ k0) (hk1 : k0 ≤ 1073741824) :
    Calls Try.prog 12 #[.slice (some ⟨H, 0, none⟩) len cap, .int .i64 k0] w fun e w' => e = .returned (.int .i64 (k0 + 5 * (len : Int))) ∧ w.grownBy w' (some H) := by
  have HO := hid h
  clear h
  go_enter Try.func12, Try.ntmps12
  go_wp2
  go_loopw [1, 5] (fun q i wr => ∃ k : Nat, k ≤ len ∧ i = .int .i64 k ∧ q = .int .i64 (k0 + 5 * (k : Int)) ∧ Hid (w.grownBy wr (some H)) ∧ Hid (Blk 55 H (len * 5) wr)) (fun _ i _ => len - (intOf i).toNat)
  case atStart => exact ⟨0, by omega, rfl, by simp, World.grownBy.refl _ _, HO⟩
  case round =>
    obtain ⟨k, hk, rfl, rfl, hg, ho⟩ := hrel
    by_cases hlt : k < len
    · have hkm := Nat.mul_le_mul_right 5 (show k + 1 ≤ len from hlt)
      obtain ⟨q0, t0⟩ := ho.out.cell (k * 5) (by omega)
      obtain ⟨q1, t1⟩ := ho.out.cell (k * 5 + 1) (by omega)
      obtain ⟨q2, t2⟩ := ho.out.cell (k * 5 + 2) (by omega)
      obtain ⟨q3, t3⟩ := ho.out.cell (k * 5 + 3) (by omega)
      obtain ⟨q4, t4⟩ := ho.out.cell (k * 5 + 4) (by omega)
      have z0 := ho.out.frozen (k * 5)
      have z1 := ho.out.frozen (k * 5 + 1)
      have z2 := ho.out.frozen (k * 5 + 2)
      have z3 := ho.out.frozen (k * 5 + 3)
      have z4 := ho.out.frozen (k * 5 + 4)
      go_wp2_with fail
      go_roundw
      case rel => exact ⟨k + 1, by omega, by go_num, val_int (by omega), (grownBy_trans (grownBy_trans (grownBy_trans (grownBy_trans (grownBy_trans hg.out (grownBy_set _ _ _ _)) (grownBy_set _ _ _ _)) (grownBy_set _ _ _ _)) (grownBy_set _ _ _ _)) (grownBy_set _ _ _ _)), (((((ho.out.set (k * 5) _).set (k * 5 + 1) _).set (k * 5 + 2) _).set (k * 5 + 3) _).set (k * 5 + 4) _)⟩
      case measure => simp [intOf]; omega
    · obtain rfl : k = len := by omega
      go_wp2_with fail
      go_ret
      exact ⟨rfl, hg.out⟩

theorem FillSheet.blk {H len k : Nat} {X : Nat → SheetD} {w : World} (h : FillSheet H len k X w) : Blk 55 H (len * 5) w := by
  obtain ⟨arr, h1, h2, _⟩ := h
  exact ⟨arr, h1, h2⟩

end Go.Proofs.Ytgdhjiiblfdlcaa
