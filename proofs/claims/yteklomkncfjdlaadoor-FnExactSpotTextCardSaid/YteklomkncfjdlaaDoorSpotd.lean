/-
  Spots: turned by quarters and brought to lowest terms, by the program and by the reference. No condition.
-/
import Derived.Test.YteklomkncfjdlaaDoorGcd
import Derived.Test.YteklomkncfjdlaaDoorWalks1
import Derived.Deep.RegionHeld3
namespace Go.Proofs.YteklomkncfjdlaaDoor
open Go.RowKit
set_option linter.unusedVariables false
set_option maxRecDepth 100000

structure Sp where
  X : Int
  Y : Int
  Den : Int
abbrev Sp.val (s : Sp) : Value := .agg #[.int .i64 s.X, .int .i64 s.Y, .int .i64 s.Den]
/-- Block H holds the spot s. -/
def AtSpot (H : Nat) (s : Sp) (w : World) : Prop := w.heap[H]? = some (.cells #[.int .i64 s.X, .int .i64 s.Y, .int .i64 s.Den] 44 (0, 0))
theorem AtSpot.new (s : Sp) (w : World) : AtSpot w.heap.size s (w.alloc (.cells #[.int .i64 s.X, .int .i64 s.Y, .int .i64 s.Den] 44)) := heap_alloc_new w _
theorem AtSpot.lt {H : Nat} {s : Sp} {w : World} (h : AtSpot H s w) : H < w.heap.size := (Array.getElem?_eq_some_iff.1 h).1
theorem AtSpot.below {H : Nat} {s : Sp} {w w' : World} (h : AtSpot H s w) (hb : Below w.heap.size w w') : AtSpot H s w' := (hb.block H h.lt).trans h
theorem AtSpot.frozen {H j : Nat} {s : Sp} {w : World} (h : AtSpot H s w) : w.frozen? ⟨H, j, none⟩ = false := by
  have h' : w.heap[H]? = _ := h
  simp [World.frozen?, h']
theorem AtSpot.c0 {H : Nat} {s : Sp} {w : World} (h : AtSpot H s w) : w.cell? ⟨H, 0, none⟩ = some (.int .i64 s.X) := by
  have h' : w.heap[H]? = _ := h
  simp [World.cell?, h']
theorem AtSpot.c1 {H : Nat} {s : Sp} {w : World} (h : AtSpot H s w) : w.cell? ⟨H, 1, none⟩ = some (.int .i64 s.Y) := by
  have h' : w.heap[H]? = _ := h
  simp [World.cell?, h']
theorem AtSpot.c2 {H : Nat} {s : Sp} {w : World} (h : AtSpot H s w) : w.cell? ⟨H, 2, none⟩ = some (.int .i64 s.Den) := by
  have h' : w.heap[H]? = _ := h
  simp [World.cell?, h']
theorem AtSpot.other {H : Nat} {s : Sp} {w : World} (h : AtSpot H s w) (K j : Nat) (v : Value) (hne : K ≠ H) : AtSpot H s (w.setCell ⟨K, j, none⟩ v) := (heap_setCell_other w ⟨K, j, none⟩ H v (by intro e; exact hne e.symm)).trans h
theorem AtSpot.put2 {H : Nat} {s : Sp} {w : World} (h : AtSpot H s w) (x y : Int) : AtSpot H ⟨x, y, s.Den⟩ ((w.setCell ⟨H, 0, none⟩ (.int .i64 x)).setCell ⟨H, 1, none⟩ (.int .i64 y)) := by
  have g1 := heap_setCell_same w H 0 _ 44 (.int .i64 x) h
  exact heap_setCell_same _ H 1 _ 44 (.int .i64 y) g1
theorem AtSpot.put {H : Nat} {s : Sp} {w : World} (h : AtSpot H s w) (t : Sp) : AtSpot H t (((w.setCell ⟨H, 0, none⟩ (.int .i64 t.X)).setCell ⟨H, 1, none⟩ (.int .i64 t.Y)).setCell ⟨H, 2, none⟩ (.int .i64 t.Den)) := by
  have g1 := heap_setCell_same w H 0 _ 44 (.int .i64 t.X) h
  have g2 := heap_setCell_same _ H 1 _ 44 (.int .i64 t.Y) g1
  exact heap_setCell_same _ H 2 _ 44 (.int .i64 t.Den) g2

def SpBd (s : Sp) : Prop := (-4611686018427387904 ≤ s.X ∧ s.X ≤ 4611686018427387904) ∧ (-4611686018427387904 ≤ s.Y ∧ s.Y ≤ 4611686018427387904)
def rot1 (s : Sp) : Sp := ⟨-s.Y, s.X, s.Den⟩
def rotS : Nat → Sp → Sp
  | 0, s => s
  | n + 1, s => rotS n (rot1 s)
theorem rot1_bd {s : Sp} (h : SpBd s) : SpBd (rot1 s) := by unfold SpBd rot1 at *; simp only; omega
theorem rotS_step {q k : Nat} {s t : Sp} (hk : k < q) (h : rotS (q - k) t = rotS q s) : rotS (q - (k + 1)) (rot1 t) = rotS q s := by
  rw [← h, show q - k = (q - (k + 1)) + 1 by omega]; rfl
theorem rotS_4 (s : Sp) : rotS 4 s = s := by simp [rotS, rot1]

set_option maxHeartbeats 1000000 in
theorem divisor_spec (a : Int) (d : Nat) (h0 : -4611686018427387904 ≤ a) (h1 : a ≤ 4611686018427387904) (hd : d ≤ 4611686018427387904) (w : World) : Calls Tryd.prog 59 #[.int .i64 a, .int .i64 (d : Int)] w fun e w' => e = .returned (.int .i64 (gcdI a.natAbs d)) ∧ Below w.heap.size w w' := by
  have e0 : IntKind.i64.wrap (-a) = -a := IntWalk.i64_in _ (by omega)
  have e1 := imax_abs a
  go_enter Tryd.func59, Tryd.ntmps59
  go_wp2_with fail
  refine (most_spec _ _ _).mono ?_
  rintro e w1 ⟨rfl, rfl⟩
  rw [e1]
  go_wp2
  go_loopw [0, 1] (fun p q wr => ∃ x y : Nat, x ≤ 4611686018427387904 ∧ y ≤ 4611686018427387904 ∧ p = .int .i64 x ∧ q = .int .i64 y ∧ Below w.heap.size w wr ∧ Hid (Nat.gcd x y = Nat.gcd a.natAbs d)) (fun _ q _ => (intOf q).toNat)
  case atStart => exact ⟨a.natAbs, d, by omega, hd, rfl, rfl, Below.refl _ _, rfl⟩
  case round =>
    obtain ⟨x, y, hx, hy, rfl, rfl, hB, hgc⟩ := hrel
    by_cases hz : (y : Int) = 0
    · obtain rfl : y = 0 := by omega
      have hxg : (x : Int) = gcdI a.natAbs d := by have := hgc.out; simp at this; simp [gcdI, ← this]
      rw [hxg]
      clear hxg hgc
      go_wp2_with fail
      go_ret
      exact ⟨rfl, hB⟩
    · have hyp : 0 < y := by omega
      have hm := Nat.mod_lt x hyp
      have e1 : (x : Int) % (y : Int) = ((x % y : Nat) : Int) := by simp
      have e2 : IntKind.i64.wrap ((x % y : Nat) : Int) = ((x % y : Nat) : Int) := IntWalk.i64_in _ (by omega)
      go_wp2_with fail
      go_roundw
      case rel => exact ⟨y, x % y, hy, by omega, rfl, by rw [e1], hB, by rw [← hgc.out]; exact (gcd_step x y).symm⟩
      case measure => simp [intOf]; omega

end Go.Proofs.YteklomkncfjdlaaDoor
