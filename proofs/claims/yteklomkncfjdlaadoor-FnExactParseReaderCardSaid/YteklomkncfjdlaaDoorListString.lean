/-
  Slices of strings: read, copied, compared, measured. No condition.
-/
import Derived.Test.YteklomkncfjdlaaDoorMem
namespace Go.Proofs.YteklomkncfjdlaaDoor
open Go.RowKit
set_option linter.unusedVariables false

section
variable {H : Type} {enc : TypeId × Value → H} {w : World} {base : Nat} {spare : Nat → Bool} {held : Bool}
theorem strs_cells (n : Nat) (cs : List Value) (y : DataW H × List MemPlace) (h : DataW.trod enc Tryd.prog w base spare held n 9 cs = some y) : ∃ d : ByteArray, cs = (fun x : ByteArray => [Value.string x]) d ∧ (fun s : ByteArray => s.size ≤ maxLen) d := by
  obtain ⟨s, r, _, k⟩ := DataW.trod_string Tryd.underlying9 h
  exact ⟨s, r, k⟩
end

/-- The cells of strings. -/
abbrev strC (X : Nat → ByteArray) : Nat → List Value := fun i => [Value.string (X i)]

theorem Rw.str {w : World} {b off n i : Nat} {X : Nat → ByteArray} (h : Rw w b off 1 n (strC X)) (hi : i < n) : w.cell? ⟨b, off + i, none⟩ = some (.string (X i)) := by
  have := h.2 i hi 0 (by omega)
  simpa using this

theorem info_string : (Tryd.prog.info? 9).map (fun i => (i.zero, i.size, i.bytes)) = some (some (.string ByteArray.empty), 1, 16) := by kernel_rfl

/-- A row of the call's own, filled up to element k. -/
def FillStr (H len k : Nat) (X : Nat → ByteArray) (w : World) : Prop := ∃ arr : Array Value, w.heap[H]? = some (.cells arr 9 (0, 0)) ∧ arr.size = len ∧ ∀ i, i < k → arr[i]? = some (.string (X i))
theorem FillStr.cell {H len k : Nat} {X : Nat → ByteArray} {w : World} (h : FillStr H len k X w) (j : Nat) (hj : j < len) : ∃ v, w.cell? ⟨H, j, none⟩ = some v := by
  obtain ⟨arr, h1, h2, _⟩ := h
  exact ⟨arr[j], by simp [World.cell?, h1, h2, hj]⟩
theorem FillStr.frozen {H len k : Nat} {X : Nat → ByteArray} {w : World} (h : FillStr H len k X w) (j : Nat) : w.frozen? ⟨H, j, none⟩ = false := by
  obtain ⟨arr, h1, h2, _⟩ := h
  simp [World.frozen?, h1]
theorem FillStr.below {H len k : Nat} {X : Nat → ByteArray} {w w' : World} (h : FillStr H len k X w) (hb : Below w.heap.size w w') (hH : H < w.heap.size) : FillStr H len k X w' := by
  obtain ⟨arr, h1, h2, h3⟩ := h
  exact ⟨arr, (hb.block H hH).trans h1, h2, h3⟩
theorem FillStr.store {H len k : Nat} {X : Nat → ByteArray} {w : World} (h : FillStr H len k X w) (hk : k < len) : FillStr H len (k + 1) X (w.setCell ⟨H, k, none⟩ (.string (X k))) := by
  obtain ⟨arr, h1, h2, h3⟩ := h
  have g1 := heap_setCell_same w H k arr 9 (.string (X k)) h1
  refine ⟨_, g1, by simpa using h2, fun i hi => ?_⟩
  by_cases hik : i = k
  · subst hik
    simp [Array.getElem?_setIfInBounds]; omega
  · have h4 := h3 i (by omega)
    rw [← h4]
    simp only [Array.getElem?_setIfInBounds]
    rw [if_neg (by omega)]
theorem FillStr.rw {H len : Nat} {X : Nat → ByteArray} {w : World} (h : FillStr H len len X w) : Rw w H 0 1 len (strC X) := by
  obtain ⟨arr, h1, h2, h3⟩ := h
  refine ⟨(Array.getElem?_eq_some_iff.1 h1).1, fun i hi j hj => ?_⟩
  obtain rfl : j = 0 := by omega
  simp only [World.cell?, h1, Nat.zero_add]
  simpa using h3 i hi
theorem FillStr.blk {H len k : Nat} {X : Nat → ByteArray} {w : World} (h : FillStr H len k X w) : Blk 9 H len w := by
  obtain ⟨arr, h1, h2, _⟩ := h
  exact ⟨arr, h1, h2⟩


set_option maxHeartbeats 1000000 in
theorem eqStringS_same (b1 b2 o1 o2 c1 c2 n : Nat) (X : Nat → ByteArray) (w : World) (h1 : Rw w b1 o1 1 n (strC X)) (h2 : Rw w b2 o2 1 n (strC X)) (hn : n ≤ 1048576) (hc1 : n ≤ c1) (hc2 : n ≤ c2) :
    Calls Tryd.prog 17 #[.slice (some ⟨b1, o1, none⟩) n c1, .slice (some ⟨b2, o2, none⟩) n c2] w fun e w' => e = .returned (.bool true) ∧ Below w.heap.size w w' := by
  have K1 := hid h1
  have K2 := hid h2
  have l1 := h1.1
  have l2 := h2.1
  clear h1 h2
  go_enter Tryd.func17, Tryd.ntmps17
  go_wp2
  go_loopw [5] (fun i wr => ∃ k : Nat, k ≤ n ∧ i = .int .i64 k ∧ Below w.heap.size w wr) (fun i _ => n - (intOf i).toNat)
  case atStart => exact ⟨0, by omega, rfl, Below.refl _ _⟩
  case round =>
    obtain ⟨k, hk, rfl, hB⟩ := hrel
    by_cases hlt : k < n
    · have hq := fun x : Later wr => x.cell
      have lr1 : b1 < wr.heap.size := by have := hB.size; omega
      have lr2 : b2 < wr.heap.size := by have := hB.size; omega
      have e2 : (0 : Int) ≤ (k : Int) := by omega
      have e3 : (k : Int) < (n : Int) := by omega
      have p1 : wr.cell? ⟨b1, o1 + k, none⟩ = some (.string (X k)) := (hB.cell l1).trans (K1.out.str hlt)
      have p2 : wr.cell? ⟨b2, o2 + k, none⟩ = some (.string (X k)) := (hB.cell l2).trans (K2.out.str hlt)
      go_wp2_with fail
      refine region_later (by kernel_rfl) (by kernel_rfl) ?_
      repeat (go_big_quiet_step (fail))
      refine wpQuiet_nil ?_
      intro _ hw'
      obtain ⟨x, rfl⟩ := hw'
      have hB1 : Below w.heap.size w x.wd := Below.on hB hB.size x.below
      clear hq
      go_wp2_with fail
      go_roundw
      case rel => exact ⟨k + 1, by omega, by go_num, hB1⟩
      case measure => simp [intOf]; omega
    · go_wp2_with fail
      go_ret
      exact ⟨rfl, hB⟩

/-- The bytes of the first k texts. -/
def sumZ (X : Nat → ByteArray) : Nat → Nat
  | 0 => 0
  | k + 1 => sumZ X k + (X k).size
theorem sumZ_le (X : Nat → ByteArray) {k n : Nat} (h : k ≤ n) : sumZ X k ≤ sumZ X n := by
  induction n with
  | zero => rw [show k = 0 by omega]; exact Nat.le_refl _
  | succ n ih =>
    by_cases e : k = n + 1
    · rw [e]; exact Nat.le_refl _
    · exact Nat.le_trans (ih (by omega)) (Nat.le_add_right _ _)

end Go.Proofs.YteklomkncfjdlaaDoor
