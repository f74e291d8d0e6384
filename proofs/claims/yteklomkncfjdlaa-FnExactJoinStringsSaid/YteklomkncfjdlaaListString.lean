/-
  Slices of strings: read, copied, compared, measured. No condition.
-/
import Derived.Test.YteklomkncfjdlaaMem
namespace Go.Proofs.Yteklomkncfjdlaa
open Go.RowKit
set_option linter.unusedVariables false

section
variable {H : Type} {enc : TypeId × Value → H} {w : World} {base : Nat} {spare : Nat → Bool} {held : Bool}
theorem strs_cells (n : Nat) (cs : List Value) (y : DataW H × List MemPlace) (h : DataW.trod enc Try.prog w base spare held n 9 cs = some y) : ∃ d : ByteArray, cs = (fun x : ByteArray => [Value.string x]) d ∧ (fun s : ByteArray => s.size ≤ maxLen) d := by
  obtain ⟨s, r, _, k⟩ := DataW.trod_string Try.underlying9 h
  exact ⟨s, r, k⟩
end

/-- The cells of strings. -/
abbrev strC (X : Nat → ByteArray) : Nat → List Value := fun i => [Value.string (X i)]

theorem Rw.str {w : World} {b off n i : Nat} {X : Nat → ByteArray} (h : Rw w b off 1 n (strC X)) (hi : i < n) : w.cell? ⟨b, off + i, none⟩ = some (.string (X i)) := by
  have := h.2 i hi 0 (by omega)
  simpa using this

theorem info_string : (Try.prog.info? 9).map (fun i => (i.zero, i.size, i.bytes)) = some (some (.string ByteArray.empty), 1, 16) := by kernel_rfl

/-- A row of the call's own, filled up to element k. -/
def FillStr (H len k : Nat) (X : Nat → ByteArray) (w : World) : Prop := ∃ arr : Array Value, w.heap[H]? = some (.cells arr 9 (0, 0)) ∧ arr.size = len ∧ ∀ i, i < k → arr[i]? = some (.string (X i))
theorem FillStr.cell {H len k : Nat} {X : Nat → ByteArray} {w : World} (h : FillStr H len k X w) (j : Nat) (hj : j < len) : ∃ v, w.cell? ⟨H, j, none⟩ = some v := by
  obtain ⟨arr, h1, h2, _⟩ := h
  exact ⟨arr[j], by simp [World.cell?, h1, h2, hj]⟩
theorem FillStr.frozen {H len k : Nat} {X : Nat → ByteArray} {w : World} (h : FillStr H len k X w) (j : Nat) : w.frozen? ⟨H, j, none⟩ = false := by
  obtain ⟨arr, h1, h2, _⟩ := h
  simp [World.frozen?, h1]
theorem FillStr.below {H len k : Nat} {X : Nat → ByteArray} {w w' : World} (h : FillStr H len k X w) (hb : Below w.heap.size w w') (hH : H < w.heap.size) : FillStr H len k X w' := by
  obtain ⟨arr, h1, h2, h3⟩ := h
  exact ⟨arr, (hb.block H hH).trans h1, h2, h3⟩
theorem FillStr.store {H len k : Nat} {X : Nat → ByteArray} {w : World} (h : FillStr H len k X w) (hk : k < len) : FillStr H len (k + 1) X (w.setCell ⟨H, k, none⟩ (.string (X k))) := by
  obtain ⟨arr, h1, h2, h3⟩ := h
  have g1 := heap_setCell_same w H k arr 9 (.string (X k)) h1
  refine ⟨_, g1, by simpa using h2, fun i hi => ?_⟩
  by_cases hik : i = k
  · subst hik
    simp [Array.getElem?_setIfInBounds]; omega
  · have h4 := h3 i (by omega)
    rw [← h4]
    simp only [Array.getElem?_setIfInBounds]
    rw [if_neg (by omega)]
theorem FillStr.rw {H len : Nat} {X : Nat → ByteArray} {w : World} (h : FillStr H len len X w) : Rw w H 0 1 len (strC X) := by
  obtain ⟨arr, h1, h2, h3⟩ := h
  refine ⟨(Array.getElem?_eq_some_iff.1 h1).1, fun i hi j hj => ?_⟩
  obtain rfl : j = 0 := by omega
  simp only [World.cell?, h1, Nat.zero_add]
  simpa using h3 i hi
theorem FillStr.blk {H len k : Nat} {X : Nat → ByteArray} {w : World} (h : FillStr H len k X w) : Blk 9 H len w := by
  obtain ⟨arr, h1, h2, _⟩ := h
  exact ⟨arr, h1, h2⟩

set_option maxHeartbeats 1000000 in
theorem toStringS_any (a : Option Addr) (len cap : Nat) (X : Nat → ByteArray) (w : World) (h : Sl w 1 a len (strC X)) (hm : len ≤ 1048576) :
    Calls Try.prog 6 #[.slice a len cap] w fun e w' => e = .returned (.slice (some ⟨w.heap.size, 0, none⟩) len len) ∧ Below w.heap.size w w' ∧ w.heap.size < w'.heap.size ∧ FillStr w.heap.size len len X w' := by
  obtain ⟨i0, hi, hz0, hz1, hz2⟩ := info_parts info_string
  have hmk : ∀ (w : World), (Instr.makeSlice 22 (.int .i64 (len : Int)) (.int .i64 (len : Int))).run Try.prog w = .ok (.slice (some ⟨w.heap.size, 0, none⟩) len len) (w.alloc (.cells (madeCells #[.string ByteArray.empty] len) 9)) := by
    intro w
    have := run_make (P := Try.prog) w 22 9 i0 _ Try.underlying22 hi hz0 .i64 .i64 len len (by omega) (Int.le_refl _) (by rw [hz2]; omega) (by omega)
    rw [hz1] at this
    simp only [Int.toNat_natCast, Nat.mul_one] at this
    exact this
  have F0 : FillStr w.heap.size len 0 X (w.alloc (.cells (madeCells #[.string ByteArray.empty] len) 9)) := ⟨_, heap_alloc_new w _, size_madeCells _ _, fun i hi => absurd hi (by omega)⟩
  have HF0 := hid F0
  clear F0 hi hz0 hz1 hz2
  rcases h with h | ⟨b, off, rfl, hb, h⟩
  · have H := hid h
    clear h
    go_enter Try.func6, Try.ntmps6
    go_wp2
    go_loopw [4] (fun i wr => ∃ k : Nat, k ≤ len ∧ i = .int .i64 k ∧ Below w.heap.size w wr ∧ w.heap.size < wr.heap.size ∧ Hid (FillStr w.heap.size len k X wr)) (fun i _ => len - (intOf i).toNat)
    case atStart => exact ⟨0, by omega, rfl, by go_grown, by simp, HF0⟩
    case round =>
      clear hmk HF0
      obtain ⟨k, hk, rfl, hB, hs, hF⟩ := hrel
      have hge : ¬ k < len := by have := H.out; omega
      go_wp2_with fail
      go_ret
      exact ⟨rfl, hB, hs, by have := hF.out; rwa [show k = len by omega] at this⟩
  · have H := hid h
    clear h
    go_enter Try.func6, Try.ntmps6
    go_wp2
    go_loopw [4] (fun i wr => ∃ k : Nat, k ≤ len ∧ i = .int .i64 k ∧ Below w.heap.size w wr ∧ w.heap.size < wr.heap.size ∧ Hid (FillStr w.heap.size len k X wr)) (fun i _ => len - (intOf i).toNat)
    case atStart => exact ⟨0, by omega, rfl, by go_grown, by simp, HF0⟩
    case round =>
      clear hmk HF0
      obtain ⟨k, hk, rfl, hB, hs, hF⟩ := hrel
      by_cases hlt : k < len
      · have c0 : wr.cell? ⟨b, off + k, none⟩ = some (.string (X k)) := (hB.cell hb).trans (by have := H.out k hlt 0 (by omega); simpa using this)
        obtain ⟨q0, t0⟩ := hF.out.cell k (by omega)
        have z0 := hF.out.frozen k
        have hF1 := hid (hF.out.store hlt)
        go_wp2_with fail
        go_roundw
        case rel => exact ⟨k + 1, by omega, by go_num, by go_grown, by simp; omega, hF1.out⟩
        case measure => simp [intOf]; omega
      · go_wp2_with fail
        go_ret
        exact ⟨rfl, hB, hs, by have := hF.out; rwa [show k = len by omega] at this⟩

set_option maxHeartbeats 1000000 in
theorem eqStringS_same (b1 b2 o1 o2 c1 c2 n : Nat) (X : Nat → ByteArray) (w : World) (h1 : Rw w b1 o1 1 n (strC X)) (h2 : Rw w b2 o2 1 n (strC X)) (hn : n ≤ 1048576) (hc1 : n ≤ c1) (hc2 : n ≤ c2) :
    Calls Try.prog 8 #[.slice (some ⟨b1, o1, none⟩) n c1, .slice (some ⟨b2, o2, none⟩) n c2] w fun e w' => e = .returned (.bool true) ∧ Below w.heap.size w w' := by
  have K1 := hid h1
  have K2 := hid h2
  have l1 := h1.1
  have l2 := h2.1
  clear h1 h2
  go_enter Try.func8, Try.ntmps8
  go_wp2
  go_loopw [5] (fun i wr => ∃ k : Nat, k ≤ n ∧ i = .int .i64 k ∧ Below w.heap.size w wr) (fun i _ => n - (intOf i).toNat)
  case atStart => exact ⟨0, by omega, rfl, Below.refl _ _⟩
  case round =>
    obtain ⟨k, hk, rfl, hB⟩ := hrel
    by_cases hlt : k < n
    · have hq := fun x : Later wr => x.cell
      have lr1 : b1 < wr.heap.size := by have := hB.size; omega
      have lr2 : b2 < wr.heap.size := by have := hB.size; omega
      have e2 : (0 : Int) ≤ (k : Int) := by omega
      have e3 : (k : Int) < (n : Int) := by omega
      have p1 : wr.cell? ⟨b1, o1 + k, none⟩ = some (.string (X k)) := (hB.cell l1).trans (K1.out.str hlt)
      have p2 : wr.cell? ⟨b2, o2 + k, none⟩ = some (.string (X k)) := (hB.cell l2).trans (K2.out.str hlt)
      go_wp2_with fail
      refine region_later (by kernel_rfl) (by kernel_rfl) ?_
      repeat (go_big_quiet_step (fail))
      refine wpQuiet_nil ?_
      intro _ hw'
      obtain ⟨x, rfl⟩ := hw'
      have hB1 : Below w.heap.size w x.wd := Below.on hB hB.size x.below
      clear hq
      go_wp2_with fail
      go_roundw
      case rel => exact ⟨k + 1, by omega, by go_num, hB1⟩
      case measure => simp [intOf]; omega
    · go_wp2_with fail
      go_ret
      exact ⟨rfl, hB⟩

/-- The bytes of the first k texts. -/
def sumZ (X : Nat → ByteArray) : Nat → Nat
  | 0 => 0
  | k + 1 => sumZ X k + (X k).size
theorem sumZ_le (X : Nat → ByteArray) {k n : Nat} (h : k ≤ n) : sumZ X k ≤ sumZ X n := by
  induction n with
  | zero => rw [show k = 0 by omega]; exact Nat.le_refl _
  | succ n ih =>
    by_cases e : k = n + 1
    · rw [e]; exact Nat.le_refl _
    · exact Nat.le_trans (ih (by omega)) (Nat.le_add_right _ _)

set_option maxHeartbeats 1000000 in
theorem szStringS_any (a : Option Addr) (len cap : Nat) (X : Nat → ByteArray) (w : World) (h : Sl w 1 a len (strC X)) (ok : ∀ i, i < len → (X i).size ≤ maxLen) (hm : len ≤ maxLen) :
    Calls Try.prog 4 #[.slice a len cap, .int .i64 1048576] w fun e w' => ∃ r : Int, e = .returned (.int .i64 r) ∧ w = w' ∧ (0 ≤ r → len + sumZ X len ≤ 1048576) := by
  unfold maxLen at hm
  have hok : Hid (∀ i, i < len → (X i).size ≤ maxLen) := ok
  clear ok
  by_cases hl : (len : Int) ≤ 1048576
  · rcases h with h | ⟨b, off, rfl, hb, h⟩
    · obtain rfl : len = 0 := by have := h; omega
      clear h
      go_enter Try.func4, Try.ntmps4
      go_wp2
      refine wp_loop_rounds 1 ?_
      rw [rounds_succ]
      go_wp2
      go_ret
      exact ⟨_, rfl, rfl, fun _ => by simp [sumZ]⟩
    · have H := hid h
      clear h
      go_enter Try.func4, Try.ntmps4
      go_wp2
      go_loop [1, 5] (fun q i => ∃ k : Nat, ∃ r : Int, k ≤ len ∧ i = .int .i64 k ∧ q = .int .i64 r ∧ 0 ≤ r ∧ r ≤ 1048576 ∧ Hid (r + (len : Int) + (sumZ X k : Int) = 1048576)) (fun _ i => len - (intOf i).toNat)
      case atStart => exact ⟨0, _, by omega, rfl, rfl, by omega, by omega, by simp [Hid, sumZ]⟩
      case round =>
        obtain ⟨k, r, hk, rfl, rfl, hr0, hr1, hf⟩ := hrel
        by_cases hlt : k < len
        · have c0 : w.cell? ⟨b, off + k, none⟩ = some (.string (X k)) := by have := H.out k hlt 0 (by omega); simpa using this
          have hz : (X k).size ≤ 9223372036854775807 := by have := hok.out k hlt; unfold maxLen at this; omega
          obtain ⟨z, hzz⟩ : ∃ z, (X k).size = z := ⟨_, rfl⟩
          have hs := hf.out
          have HS : Hid (sumZ X (k + 1) = sumZ X k + z) := by unfold Hid; rw [← hzz]; rfl
          rw [hzz] at hz
          by_cases hd : (z : Int) ≤ r
          · go_wp2_with fail
            go_round
            case rel => exact ⟨k + 1, r - (z : Int), by omega, by go_num, by go_num, by omega, by omega, by have := HS.out; unfold Hid; rw [this]; omega⟩
            case measure => simp [intOf]; omega
          · go_wp2_with fail
            go_ret
            exact ⟨_, rfl, rfl, fun h => absurd h (by omega)⟩
        · go_wp2_with fail
          go_ret
          obtain rfl : k = len := by omega
          exact ⟨_, rfl, rfl, fun h => by have := hf.out; omega⟩
  · go_enter Try.func4, Try.ntmps4
    go_wp2
    go_ret
    exact ⟨_, rfl, rfl, fun h => absurd h (by omega)⟩
end Go.Proofs.Yteklomkncfjdlaa
