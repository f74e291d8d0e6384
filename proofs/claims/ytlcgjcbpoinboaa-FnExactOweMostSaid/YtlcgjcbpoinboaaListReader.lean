/-
  Lists of Reader: copied, compared, measured. No condition.
-/
import Derived.Test.YtlcgjcbpoinboaaMem
import Derived.Test.YtlcgjcbpoinboaaShapes
import Derived.Test.YtlcgjcbpoinboaaReaders
namespace Go.Proofs.Ytlcgjcbpoinboaa
open Go.RowKit
set_option linter.unusedVariables false

set_option maxHeartbeats 1000000 in
theorem szReaderS_any (a : Option Addr) (len cap : Nat) (X : Nat → ReaderD) (w : World) (h : Sl w 5 a len (fun i => (X i).cells)) (ok : ∀ i, i < len → (X i).ok) (hm : len ≤ maxLen) :
    Calls Try.prog 23 #[.slice a len cap, .int .i64 1048576] w fun e w' => ∃ r : Int, e = .returned (.int .i64 r) ∧ Below w.heap.size w w' ∧ (0 ≤ r → (len : Int) ≤ 1048576 ∧ ∀ i, i < len → (X i).Name.size ≤ 1048576) := by
  unfold maxLen at hm
  have hok : Hid (∀ i, i < len → (X i).Name.size ≤ maxLen) := fun i hi => by have := ok i hi; simp [ReaderD.ok] at this; exact this.2.1
  clear ok
  by_cases hl : (len : Int) ≤ 1048576
  · rcases h with h | ⟨b, off, rfl, hb, h⟩
    · obtain rfl : len = 0 := by have := h; omega
      clear h
      go_enter Try.func23, Try.ntmps23
      go_wp2
      go_loopw [1, 5] (fun q i wr => i = .int .i64 0 ∧ q = .int .i64 1048576 ∧ wr = w) (fun _ i _ => 0)
      case atStart => exact ⟨rfl, rfl, rfl⟩
      case round =>
        obtain ⟨rfl, rfl, rfl⟩ := hrel
        go_wp2_with fail
        go_ret
        exact ⟨_, rfl, Below.refl _ _, fun _ => ⟨by omega, fun i hi => absurd hi (by omega)⟩⟩
    · have H := hid h
      clear h
      go_enter Try.func23, Try.ntmps23
      go_wp2
      go_loopw [1, 5] (fun q i wr => ∃ k : Nat, ∃ r : Int, k ≤ len ∧ i = .int .i64 k ∧ q = .int .i64 r ∧ 0 ≤ r ∧ r ≤ 1048576 ∧ Below w.heap.size w wr ∧ Hid (∀ i, i < k → (X i).Name.size ≤ 1048576)) (fun _ i _ => len - (intOf i).toNat)
      case atStart => exact ⟨0, _, by omega, rfl, rfl, by omega, by omega, Below.refl _ _, fun i hi => absurd hi (by omega)⟩
      case round =>
        obtain ⟨k, r, hk, rfl, rfl, hr0, hr1, hB, hf⟩ := hrel
        by_cases hlt : k < len
        · have c0 : wr.cell? ⟨b, off + k * 5, none⟩ = some (.int .i64 (X k).Id) := (hB.cell hb).trans (H.out k hlt 0 (by omega))
          have c1 : wr.cell? ⟨b, off + k * 5 + 1, none⟩ = some (.string (X k).Name) := (hB.cell hb).trans (H.out k hlt 1 (by omega))
          have c2 : wr.cell? ⟨b, off + k * 5 + 2, none⟩ = some (.int .i64 (X k).Joined) := (hB.cell hb).trans (H.out k hlt 2 (by omega))
          have c3 : wr.cell? ⟨b, off + k * 5 + 3, none⟩ = some (.int .i64 (X k).Class) := (hB.cell hb).trans (H.out k hlt 3 (by omega))
          have c4 : wr.cell? ⟨b, off + k * 5 + 4, none⟩ = some (.int .i64 (X k).Fines) := (hB.cell hb).trans (H.out k hlt 4 (by omega))
          go_wp2_with fail
          refine (szReader_any (X k) _ r hr0 hr1 (hok k hlt)).mono ?_
          rintro e w1 ⟨rfl, hb1⟩
          have hB1 : Below w.heap.size w w1 := Below.on hB hB.size hb1
          by_cases hz : ((X k).Name.size : Int) ≤ r
          · rw [if_pos hz]
            go_wp2_with fail
            go_roundw
            case rel => exact ⟨k + 1, r - ((X k).Name.size : Int), by omega, by go_num, rfl, by omega, by omega, hB1, fun i hi => by by_cases hik : i < k; exact hf.out i hik; rw [show i = k by omega]; omega⟩
            case measure => simp [intOf]; omega
          · rw [if_neg hz]
            go_wp2_with fail
            go_ret
            exact ⟨_, rfl, hB1, fun h => absurd h (by omega)⟩
        · go_wp2_with fail
          go_ret
          exact ⟨_, rfl, hB, fun _ => ⟨by omega, fun i hi => hf.out i (by omega)⟩⟩
  · go_enter Try.func23, Try.ntmps23
    go_wp2
    go_ret
    exact ⟨_, rfl, Below.refl _ _, fun h => absurd h (by omega)⟩

theorem info_Reader : (Try.prog.info? 33).map (fun i => (i.zero, i.size, i.bytes)) = some (some (.agg #[.int .i64 0, .string ByteArray.empty, .int .i64 0, .int .i64 0, .int .i64 0]), 5, 48) := by kernel_rfl

/-- A row of the call's own, filled up to element k. -/
def FillReader (H len k : Nat) (X : Nat → ReaderD) (w : World) : Prop := ∃ arr : Array Value, w.heap[H]? = some (.cells arr 33 (0, 0)) ∧ arr.size = len * 5 ∧ ∀ i, i < k → ∀ j, j < 5 → arr[i * 5 + j]? = ((X i).cells)[j]?

theorem FillReader.cell {H len k : Nat} {X : Nat → ReaderD} {w : World} (h : FillReader H len k X w) (j : Nat) (hj : j < len * 5) : ∃ v, w.cell? ⟨H, j, none⟩ = some v := by
  obtain ⟨arr, h1, h2, _⟩ := h
  exact ⟨arr[j], by simp [World.cell?, h1, h2, hj]⟩
theorem FillReader.frozen {H len k : Nat} {X : Nat → ReaderD} {w : World} (h : FillReader H len k X w) (j : Nat) : w.frozen? ⟨H, j, none⟩ = false := by
  obtain ⟨arr, h1, h2, _⟩ := h
  simp [World.frozen?, h1]
theorem FillReader.below {H len k : Nat} {X : Nat → ReaderD} {w w' : World} (h : FillReader H len k X w) (hb : Below w.heap.size w w') (hH : H < w.heap.size) : FillReader H len k X w' := by
  obtain ⟨arr, h1, h2, h3⟩ := h
  exact ⟨arr, (hb.block H hH).trans h1, h2, h3⟩
theorem FillReader.store {H len k : Nat} {X : Nat → ReaderD} {w : World} (h : FillReader H len k X w) (hk : k < len) : FillReader H len (k + 1) X ((((((w.setCell ⟨H, k * 5, none⟩ (.int .i64 (X k).Id)).setCell ⟨H, k * 5 + 1, none⟩ (.string (X k).Name)).setCell ⟨H, k * 5 + 2, none⟩ (.int .i64 (X k).Joined)).setCell ⟨H, k * 5 + 3, none⟩ (.int .i64 (X k).Class)).setCell ⟨H, k * 5 + 4, none⟩ (.int .i64 (X k).Fines))) := by
  obtain ⟨arr, h1, h2, h3⟩ := h
  have g1 := heap_setCell_same w H (k * 5) arr 33 (.int .i64 (X k).Id) h1
  have g2 := heap_setCell_same _ H (k * 5 + 1) _ 33 (.string (X k).Name) g1
  have g3 := heap_setCell_same _ H (k * 5 + 2) _ 33 (.int .i64 (X k).Joined) g2
  have g4 := heap_setCell_same _ H (k * 5 + 3) _ 33 (.int .i64 (X k).Class) g3
  have g5 := heap_setCell_same _ H (k * 5 + 4) _ 33 (.int .i64 (X k).Fines) g4
  refine ⟨_, g5, by simpa using h2, fun i hi j hj => ?_⟩
  have hsz : k * 5 + 5 ≤ arr.size := by rw [h2]; have := Nat.mul_le_mul_right 5 (show k + 1 ≤ len from hk); omega
  by_cases hik : i = k
  · subst hik
    have hj' : j = 0 ∨ j = 1 ∨ j = 2 ∨ j = 3 ∨ j = 4 := by omega
    rcases hj' with rfl | rfl | rfl | rfl | rfl <;> simp [ReaderD.cells, Array.getElem?_setIfInBounds] <;> omega
  · have h4 := h3 i (by omega) j hj
    rw [← h4]
    have hm := Nat.mul_le_mul_right 5 (show i + 1 ≤ k by omega)
    simp only [Array.getElem?_setIfInBounds]
    rw [if_neg (by omega)]
    rw [if_neg (by omega)]
    rw [if_neg (by omega)]
    rw [if_neg (by omega)]
    rw [if_neg (by omega)]

set_option maxHeartbeats 1000000 in
theorem toReaderS_any (a : Option Addr) (len cap : Nat) (X : Nat → ReaderD) (w : World) (h : Sl w 5 a len (fun i => (X i).cells)) (hm : len ≤ 1048576) :
    Calls Try.prog 25 #[.slice a len cap] w fun e w' => e = .returned (.slice (some ⟨w.heap.size, 0, none⟩) len len) ∧ Below w.heap.size w w' ∧ w.heap.size < w'.heap.size ∧ FillReader w.heap.size len len X w' := by
  obtain ⟨i0, hi, hz0, hz1, hz2⟩ := info_parts info_Reader
  have hmk : ∀ (w : World), (Instr.makeSlice 39 (.int .i64 (len : Int)) (.int .i64 (len : Int))).run Try.prog w = .ok (.slice (some ⟨w.heap.size, 0, none⟩) len len) (w.alloc (.cells (madeCells #[.int .i64 0, .string ByteArray.empty, .int .i64 0, .int .i64 0, .int .i64 0] (len * 5)) 33)) := by
    intro w
    have := run_make (P := Try.prog) w 39 33 i0 _ Try.underlying39 hi hz0 .i64 .i64 len len (by omega) (Int.le_refl _) (by rw [hz2]; omega) (by omega)
    rw [hz1] at this
    simp only [Int.toNat_natCast] at this
    exact this
  have F0 : FillReader w.heap.size len 0 X (w.alloc (.cells (madeCells #[.int .i64 0, .string ByteArray.empty, .int .i64 0, .int .i64 0, .int .i64 0] (len * 5)) 33)) := ⟨_, heap_alloc_new w _, size_madeCells _ _, fun i hi => absurd hi (by omega)⟩
  have HF0 := hid F0
  clear F0 hi hz0 hz1 hz2
  rcases h with h | ⟨b, off, rfl, hb, h⟩
  · have H := hid h
    clear h
    go_enter Try.func25, Try.ntmps25
    go_wp2
    go_loopw [4] (fun i wr => ∃ k : Nat, k ≤ len ∧ i = .int .i64 k ∧ Below w.heap.size w wr ∧ w.heap.size < wr.heap.size ∧ Hid (FillReader w.heap.size len k X wr)) (fun i _ => len - (intOf i).toNat)
    case atStart => exact ⟨0, by omega, rfl, by go_grown, by simp, HF0⟩
    case round =>
      clear hmk HF0
      obtain ⟨k, hk, rfl, hB, hs, hF⟩ := hrel
      have hge : ¬ k < len := by have := H.out; omega
      go_wp2_with fail
      go_ret
      exact ⟨rfl, hB, hs, by have := hF.out; rwa [show k = len by omega] at this⟩
  · have H := hid h
    clear h
    go_enter Try.func25, Try.ntmps25
    go_wp2
    go_loopw [4] (fun i wr => ∃ k : Nat, k ≤ len ∧ i = .int .i64 k ∧ Below w.heap.size w wr ∧ w.heap.size < wr.heap.size ∧ Hid (FillReader w.heap.size len k X wr)) (fun i _ => len - (intOf i).toNat)
    case atStart => exact ⟨0, by omega, rfl, by go_grown, by simp, HF0⟩
    case round =>
      clear hmk HF0
      obtain ⟨k, hk, rfl, hB, hs, hF⟩ := hrel
      by_cases hlt : k < len
      · have c0 : wr.cell? ⟨b, off + k * 5, none⟩ = some (.int .i64 (X k).Id) := (hB.cell hb).trans (H.out k hlt 0 (by omega))
        have c1 : wr.cell? ⟨b, off + k * 5 + 1, none⟩ = some (.string (X k).Name) := (hB.cell hb).trans (H.out k hlt 1 (by omega))
        have c2 : wr.cell? ⟨b, off + k * 5 + 2, none⟩ = some (.int .i64 (X k).Joined) := (hB.cell hb).trans (H.out k hlt 2 (by omega))
        have c3 : wr.cell? ⟨b, off + k * 5 + 3, none⟩ = some (.int .i64 (X k).Class) := (hB.cell hb).trans (H.out k hlt 3 (by omega))
        have c4 : wr.cell? ⟨b, off + k * 5 + 4, none⟩ = some (.int .i64 (X k).Fines) := (hB.cell hb).trans (H.out k hlt 4 (by omega))
        go_wp2_with fail
        refine (toReader_any (X k) _).mono ?_
        rintro e w1 ⟨rfl, hb1⟩
        have hB1 : Below w.heap.size w w1 := Below.on hB hB.size hb1
        have hs1 : w.heap.size < w1.heap.size := by have := hb1.size; omega
        have hF1 := hid (hF.out.below hb1 hs)
        have hkm := Nat.mul_le_mul_right 5 (show k + 1 ≤ len from hlt)
        obtain ⟨q0, t0⟩ := hF1.out.cell (k * 5) (by omega)
        obtain ⟨q1, t1⟩ := hF1.out.cell (k * 5 + 1) (by omega)
        obtain ⟨q2, t2⟩ := hF1.out.cell (k * 5 + 2) (by omega)
        obtain ⟨q3, t3⟩ := hF1.out.cell (k * 5 + 3) (by omega)
        obtain ⟨q4, t4⟩ := hF1.out.cell (k * 5 + 4) (by omega)
        have z0 := hF1.out.frozen (k * 5)
        have z1 := hF1.out.frozen (k * 5 + 1)
        have z2 := hF1.out.frozen (k * 5 + 2)
        have z3 := hF1.out.frozen (k * 5 + 3)
        have z4 := hF1.out.frozen (k * 5 + 4)
        clear c0 c1 c2 c3 c4
        go_wp2_with fail
        go_roundw
        case rel => exact ⟨k + 1, by omega, by go_num, by go_grown, by simp; omega, hF1.out.store hlt⟩
        case measure => simp [intOf]; omega
      · go_wp2_with fail
        go_ret
        exact ⟨rfl, hB, hs, by have := hF.out; rwa [show k = len by omega] at this⟩

theorem FillReader.rw {H len : Nat} {X : Nat → ReaderD} {w : World} (h : FillReader H len len X w) : Rw w H 0 5 len (fun i => (X i).cells) := by
  obtain ⟨arr, h1, h2, h3⟩ := h
  refine ⟨(Array.getElem?_eq_some_iff.1 h1).1, fun i hi j hj => ?_⟩
  simp only [World.cell?, h1, Nat.zero_add]
  exact h3 i hi j hj

set_option maxHeartbeats 1000000 in
theorem eqReaderS_same (b1 b2 o1 o2 c1 c2 len : Nat) (X : Nat → ReaderD) (w : World) (h1 : Rw w b1 o1 5 len (fun i => (X i).cells)) (h2 : Rw w b2 o2 5 len (fun i => (X i).cells)) (hm : len ≤ 1048576) (hc1 : len ≤ c1) (hc2 : len ≤ c2) :
    Calls Try.prog 27 #[.slice (some ⟨b1, o1, none⟩) len c1, .slice (some ⟨b2, o2, none⟩) len c2] w fun e w' => e = .returned (.bool true) ∧ Below w.heap.size w w' := by
  have H1 := hid h1
  have H2 := hid h2
  have l1 := h1.1
  have l2 := h2.1
  clear h1 h2
  go_enter Try.func27, Try.ntmps27
  go_wp2
  go_loopw [5] (fun i wr => ∃ k : Nat, k ≤ len ∧ i = .int .i64 k ∧ Below w.heap.size w wr) (fun i _ => len - (intOf i).toNat)
  case atStart => exact ⟨0, by omega, rfl, Below.refl _ _⟩
  case round =>
    obtain ⟨k, hk, rfl, hB⟩ := hrel
    by_cases hlt : k < len
    · have hq := fun x : Later wr => x.cell
      have lr1 : b1 < wr.heap.size := by have := hB.size; omega
      have lr2 : b2 < wr.heap.size := by have := hB.size; omega
      have e2 : (0 : Int) ≤ (k : Int) := by omega
      have e3 : (k : Int) < (len : Int) := by omega
      have p0 : wr.cell? ⟨b1, o1 + k * 5, none⟩ = some (.int .i64 (X k).Id) := (hB.cell l1).trans (H1.out.2 k hlt 0 (by omega))
      have p1 : wr.cell? ⟨b1, o1 + k * 5 + 1, none⟩ = some (.string (X k).Name) := (hB.cell l1).trans (H1.out.2 k hlt 1 (by omega))
      have p2 : wr.cell? ⟨b1, o1 + k * 5 + 2, none⟩ = some (.int .i64 (X k).Joined) := (hB.cell l1).trans (H1.out.2 k hlt 2 (by omega))
      have p3 : wr.cell? ⟨b1, o1 + k * 5 + 3, none⟩ = some (.int .i64 (X k).Class) := (hB.cell l1).trans (H1.out.2 k hlt 3 (by omega))
      have p4 : wr.cell? ⟨b1, o1 + k * 5 + 4, none⟩ = some (.int .i64 (X k).Fines) := (hB.cell l1).trans (H1.out.2 k hlt 4 (by omega))
      have r0 : wr.cell? ⟨b2, o2 + k * 5, none⟩ = some (.int .i64 (X k).Id) := (hB.cell l2).trans (H2.out.2 k hlt 0 (by omega))
      have r1 : wr.cell? ⟨b2, o2 + k * 5 + 1, none⟩ = some (.string (X k).Name) := (hB.cell l2).trans (H2.out.2 k hlt 1 (by omega))
      have r2 : wr.cell? ⟨b2, o2 + k * 5 + 2, none⟩ = some (.int .i64 (X k).Joined) := (hB.cell l2).trans (H2.out.2 k hlt 2 (by omega))
      have r3 : wr.cell? ⟨b2, o2 + k * 5 + 3, none⟩ = some (.int .i64 (X k).Class) := (hB.cell l2).trans (H2.out.2 k hlt 3 (by omega))
      have r4 : wr.cell? ⟨b2, o2 + k * 5 + 4, none⟩ = some (.int .i64 (X k).Fines) := (hB.cell l2).trans (H2.out.2 k hlt 4 (by omega))
      go_wp2_with fail
      refine region_later (by kernel_rfl) (by kernel_rfl) ?_
      repeat (go_big_quiet_step ((go_at_call 61; refine calls_later (eqReader_same (X k) _))))
      refine wpQuiet_nil ?_
      intro _ hw'
      obtain ⟨x, rfl⟩ := hw'
      have hB1 : Below w.heap.size w x.wd := Below.on hB hB.size x.below
      clear hq
      go_wp2_with fail
      go_roundw
      case rel => exact ⟨k + 1, by omega, by go_num, hB1⟩
      case measure => simp [intOf]; omega
    · go_wp2_with fail
      go_ret
      exact ⟨rfl, hB⟩

end Go.Proofs.Ytlcgjcbpoinboaa
