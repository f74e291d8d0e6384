/-
  Memory words for the walks: rows of cells behind a slice, later worlds, a drawn region whose callees only lay new blocks. No condition.
-/
import Derived.Test.YtgdhjiiblfdlcaaBase
import Derived.BigQuiet
namespace Go.Proofs.Ytgdhjiiblfdlcaa
open Go.RowKit
set_option linter.unusedVariables false

/-- Rows of k cells from an address on: element i's cells are C i. -/
def Rw (w : World) (b off k n : Nat) (C : Nat → List Value) : Prop := b < w.heap.size ∧ ∀ i, i < n → ∀ j, j < k → w.cell? ⟨b, off + i * k + j, none⟩ = (C i)[j]?

theorem Rw.below {w w' : World} {b off k n B : Nat} {C : Nat → List Value} (h : Rw w b off k n C) (hb : Below B w w') (hB : b < B) : Rw w' b off k n C :=
  ⟨by have := hb.size; have := h.1; omega, fun i hi j hj => (hb.cell (p := ⟨b, off + i * k + j, none⟩) hB).trans (h.2 i hi j hj)⟩

theorem Rw.later' {w w' : World} {b off k n : Nat} {C : Nat → List Value} (h : Rw w b off k n C) (hb : Below w.heap.size w w') : Rw w' b off k n C := h.below hb h.1

theorem Rw.take {w : World} {b off k n m : Nat} {C : Nat → List Value} (h : Rw w b off k n C) (hm : m ≤ n) : Rw w b off k m C := ⟨h.1, fun i hi => h.2 i (by omega)⟩

theorem Rw.drop {w : World} {b off k n m : Nat} {C : Nat → List Value} (h : Rw w b off k n C) (hm : m ≤ n) : Rw w b (off + m * k) k (n - m) (fun i => C (m + i)) :=
  ⟨h.1, fun i hi j hj => by rw [← h.2 (m + i) (by omega) j hj]; congr 2; rw [Nat.add_mul]; omega⟩

theorem Rw.at_ {w : World} {b off k n i j : Nat} {C : Nat → List Value} {v : Value} (h : Rw w b off k n C) (hi : i < n) (hj : j < k) (hv : (C i)[j]? = some v) : w.cell? ⟨b, off + i * k + j, none⟩ = some v := (h.2 i hi j hj).trans hv

/-- A later world: nothing that was there has turned. -/
structure Later (w : World) where
  wd : World
  below : Below w.heap.size w wd

instance (w : World) : Nonempty (Later w) := ⟨⟨w, Below.refl _ _⟩⟩

theorem Later.cell {w : World} (x : Later w) (b o : Nat) (h : b < w.heap.size) : x.wd.cell? ⟨b, o, none⟩ = w.cell? ⟨b, o, none⟩ := x.below.cell (p := ⟨b, o, none⟩) h

theorem Later.size {w : World} (x : Later w) : w.heap.size ≤ x.wd.heap.size := x.below.size

theorem Rw.later {w : World} {b off k n : Nat} {C : Nat → List Value} (h : Rw w b off k n C) (x : Later w) : Rw x.wd b off k n C := h.later' x.below

/-- A drawn region of reads and of calls that only lay new blocks: one walk in the order of the text. -/
theorem region_later {P : Program} {id : Nat} {Q : Exit → Act → World → Prop} {a : Act} {w : World} {l : List Oper} (hm : P.follows .mixedOrders = true) (hB : Region.lexB .any l.toArray = true)
    (h : wpQuiet P l.toArray (fun w' => ∃ x : Later w, w' = x.wd) (fun a' => ∀ w', (∃ x : Later w, w' = x.wd) → Q .normal a' w') l a) : (Code.region id l.toArray true).wp P Q a w :=
  wp_region_quiet (C := fun w' => ∃ x : Later w, w' = x.wd) hm hB ⟨⟨_, (Below.refl _ w).drew⟩, rfl⟩ (by simpa using h)

theorem calls_later {P : Program} {f : FuncId} {args : Array Value} {w : World} {x : Later w} {v : Value}
    (h : Calls P f args x.wd fun e w'' => e = .returned v ∧ Below x.wd.heap.size x.wd w'') : Calls P f args x.wd fun e w'' => e = .returned v ∧ ∃ y : Later w, w'' = y.wd :=
  h.mono fun _ _ ⟨he, hb⟩ => ⟨he, ⟨⟨_, Below.on x.below x.size hb⟩, rfl⟩⟩

theorem calls_later_same {P : Program} {f : FuncId} {args : Array Value} {w : World} {x : Later w} {v : Value}
    (h : Calls P f args x.wd fun e w'' => e = .returned v ∧ x.wd = w'') : Calls P f args x.wd fun e w'' => e = .returned v ∧ ∃ y : Later w, w'' = y.wd :=
  h.mono fun _ _ ⟨he, hb⟩ => ⟨he, ⟨x, hb.symm⟩⟩

/-- A block of m cells, none frozen. -/
def Blk (E : TypeId) (H m : Nat) (w : World) : Prop := ∃ arr : Array Value, w.heap[H]? = some (.cells arr E (0, 0)) ∧ arr.size = m
theorem Blk.cell {E : TypeId} {H m : Nat} {w : World} (h : Blk E H m w) (j : Nat) (hj : j < m) : ∃ v, w.cell? ⟨H, j, none⟩ = some v := by
  obtain ⟨arr, h1, h2⟩ := h
  exact ⟨arr[j], by simp [World.cell?, h1, h2, hj]⟩
theorem Blk.frozen {E : TypeId} {H m : Nat} {w : World} (h : Blk E H m w) (j : Nat) : w.frozen? ⟨H, j, none⟩ = false := by
  obtain ⟨arr, h1, h2⟩ := h
  simp [World.frozen?, h1]
theorem Blk.set {E : TypeId} {H m : Nat} {w : World} (h : Blk E H m w) (o : Nat) (v : Value) : Blk E H m (w.setCell ⟨H, o, none⟩ v) := by
  obtain ⟨arr, h1, h2⟩ := h
  exact ⟨_, heap_setCell_same w H o arr E v h1, by simpa using h2⟩
theorem grownBy_trans {a b c : World} {g : Nat} (h : a.grownBy b (some g)) (k : b.grownBy c (some g)) : a.grownBy c (some g) :=
  ⟨k.os.trans h.os, k.tape.trans h.tape, k.output.trans h.output, Nat.le_trans h.size k.size, fun i hi hne => (k.block i (by have := h.size; omega) hne).trans (h.block i hi hne)⟩
theorem grownBy_set (w : World) (H o : Nat) (v : Value) : w.grownBy (w.setCell ⟨H, o, none⟩ v) (some H) :=
  ⟨rfl, rfl, rfl, by simp, fun k _ hk => heap_setCell_other w ⟨H, o, none⟩ k v (fun e => hk (by simp [e]))⟩
theorem val_int {a b : Int} (h : a = b) : Value.int .i64 a = Value.int .i64 b := by rw [h]

/-- The first index from k on, of m more, at which p holds; or -1. -/
def findFrom (p : Nat → Bool) : Nat → Nat → Int
  | _, 0 => -1
  | k, m + 1 => if p k then (k : Int) else findFrom p (k + 1) m
/-- The first index below n at which p holds; or -1. -/
def findI (p : Nat → Bool) (n : Nat) : Int := findFrom p 0 n

theorem findFrom_step {p : Nat → Bool} {k n : Nat} (h : k < n) : findFrom p k (n - k) = if p k then (k : Int) else findFrom p (k + 1) (n - (k + 1)) := by
  rw [show n - k = (n - (k + 1)) + 1 by omega]; rfl
theorem findFrom_hit {p : Nat → Bool} {k n : Nat} {r : Int} (h : k < n) (hp : p k = true) (hr : r = findFrom p k (n - k)) : r = (k : Int) := by
  rw [hr, findFrom_step h, if_pos hp]
theorem findFrom_miss {p : Nat → Bool} {k n : Nat} {r : Int} (h : k < n) (hp : p k = false) (hr : r = findFrom p k (n - k)) : r = findFrom p (k + 1) (n - (k + 1)) := by
  rw [hr, findFrom_step h, hp]; rfl
theorem findFrom_end {p : Nat → Bool} {k n : Nat} {r : Int} (h : n ≤ k) (hr : r = findFrom p k (n - k)) : r = -1 := by
  rw [hr, show n - k = 0 by omega]; cases k <;> rfl

theorem findFrom_cases (p : Nat → Bool) : ∀ m k, findFrom p k m = -1 ∨ ∃ j, k ≤ j ∧ j < k + m ∧ findFrom p k m = (j : Int) ∧ p j = true
  | 0, k => .inl rfl
  | m + 1, k => by
    by_cases h : p k = true
    · exact .inr ⟨k, Nat.le_refl _, by omega, by simp [findFrom, h], h⟩
    · have e : findFrom p k (m + 1) = findFrom p (k + 1) m := by simp [findFrom, h]
      rcases findFrom_cases p m (k + 1) with h1 | ⟨j, h1, h2, h3, h4⟩
      · exact .inl (e.trans h1)
      · exact .inr ⟨j, by omega, by omega, e.trans h3, h4⟩
theorem findI_cases (p : Nat → Bool) (n : Nat) : findI p n = -1 ∨ ∃ j, j < n ∧ findI p n = (j : Int) ∧ p j = true := by
  rcases findFrom_cases p n 0 with h | ⟨j, _, h2, h3, h4⟩
  · exact .inl h
  · exact .inr ⟨j, by omega, h3, h4⟩

theorem findFrom_none (p : Nat → Bool) : ∀ m k, findFrom p k m = -1 → ∀ i, k ≤ i → i < k + m → p i = false
  | 0, k, _, i, h1, h2 => by omega
  | m + 1, k, h, i, h1, h2 => by
    by_cases hp : p k = true
    · simp [findFrom, hp] at h
    · have e : findFrom p k (m + 1) = findFrom p (k + 1) m := by simp [findFrom, hp]
      by_cases hik : i = k
      · rw [hik]; simpa using hp
      · exact findFrom_none p m (k + 1) (e.symm.trans h) i (by omega) (by omega)
theorem findI_none {p : Nat → Bool} {n : Nat} (h : findI p n = -1) : ∀ i, i < n → p i = false := fun i hi => findFrom_none p n 0 h i (Nat.zero_le _) (by omega)

/-- All indices from k on, m of them, hold. -/
def allI (p : Nat → Bool) (n : Nat) : Bool := decide (∀ i, i < n → p i = true)
theorem allI_true {p : Nat → Bool} {n : Nat} : allI p n = true ↔ ∀ i, i < n → p i = true := by simp [allI]
theorem allI_false {p : Nat → Bool} {n k : Nat} (h : k < n) (hp : p k = false) : allI p n = false := by
  rw [← Bool.not_eq_true, allI_true]; intro hh; rw [hh k h] at hp; cases hp


end Go.Proofs.Ytgdhjiiblfdlcaa
