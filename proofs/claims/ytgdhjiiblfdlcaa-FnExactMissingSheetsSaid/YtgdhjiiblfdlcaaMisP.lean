/-
  The places without a sheet within all sheets of a scale: plain facts. No condition.
-/
import Derived.Test.YtgdhjiiblfdlcaaSclP
import Derived.Test.YtgdhjiiblfdlcaaGcd
namespace Go.Proofs.Ytgdhjiiblfdlcaa
open Go.RowKit
set_option linter.unusedVariables false

/-- The least and the greatest of f's first k numbers (and of its first one). -/
def minY (f : Nat → Int) : Nat → Int
  | 0 => f 0
  | k + 1 => imin (minY f k) (f k)
def maxY (f : Nat → Int) : Nat → Int
  | 0 => f 0
  | k + 1 => imax (maxY f k) (f k)
theorem minY_le (f : Nat → Int) : ∀ k j, j < k ∨ j = 0 → minY f k ≤ f j
  | 0, j, h => by rcases h with h | h; omega; subst h; exact Int.le_refl _
  | k + 1, j, h => by
    unfold minY imin
    by_cases hj : j = k
    · subst hj; split <;> omega
    · have := minY_le f k j (by omega)
      split <;> omega
theorem maxY_le (f : Nat → Int) : ∀ k j, j < k ∨ j = 0 → f j ≤ maxY f k
  | 0, j, h => by rcases h with h | h; omega; subst h; exact Int.le_refl _
  | k + 1, j, h => by
    unfold maxY imax
    by_cases hj : j = k
    · subst hj; split <;> omega
    · have := maxY_le f k j (by omega)
      split <;> omega
theorem minY_at (f : Nat → Int) : ∀ k, ∃ j, (j < k ∨ j = 0) ∧ minY f k = f j
  | 0 => ⟨0, .inr rfl, rfl⟩
  | k + 1 => by
    obtain ⟨j, h1, h2⟩ := minY_at f k
    unfold minY imin
    split
    · exact ⟨k, by omega, rfl⟩
    · exact ⟨j, by omega, h2⟩
theorem maxY_at (f : Nat → Int) : ∀ k, ∃ j, (j < k ∨ j = 0) ∧ maxY f k = f j
  | 0 => ⟨0, .inr rfl, rfl⟩
  | k + 1 => by
    obtain ⟨j, h1, h2⟩ := maxY_at f k
    unfold maxY imax
    split
    · exact ⟨k, by omega, rfl⟩
    · exact ⟨j, by omega, h2⟩

/-- The reference's: over the sheets of the scale, from 99 down, from 0 up. -/
def minS (X : Nat → SheetD) (sc : Int) (f : SheetD → Int) : Nat → Int
  | 0 => 99
  | k + 1 => if (X k).Scale = sc then imin (minS X sc f k) (f (X k)) else minS X sc f k
def maxS (X : Nat → SheetD) (sc : Int) (f : SheetD → Int) : Nat → Int
  | 0 => 0
  | k + 1 => if (X k).Scale = sc then imax (maxS X sc f k) (f (X k)) else maxS X sc f k
theorem minS_yes {X : Nat → SheetD} {sc : Int} {f : SheetD → Int} {k : Nat} (h : (X k).Scale = sc) : minS X sc f (k + 1) = imin (minS X sc f k) (f (X k)) := by simp [minS, h]
theorem minS_no {X : Nat → SheetD} {sc : Int} {f : SheetD → Int} {k : Nat} (h : ¬ (X k).Scale = sc) : minS X sc f (k + 1) = minS X sc f k := by simp [minS, h]
theorem maxS_yes {X : Nat → SheetD} {sc : Int} {f : SheetD → Int} {k : Nat} (h : (X k).Scale = sc) : maxS X sc f (k + 1) = imax (maxS X sc f k) (f (X k)) := by simp [maxS, h]
theorem maxS_no {X : Nat → SheetD} {sc : Int} {f : SheetD → Int} {k : Nat} (h : ¬ (X k).Scale = sc) : maxS X sc f (k + 1) = maxS X sc f k := by simp [maxS, h]
theorem minS_le {X : Nat → SheetD} {sc : Int} {f : SheetD → Int} : ∀ k i, i < k → (X i).Scale = sc → minS X sc f k ≤ f (X i)
  | 0, i, h, _ => by omega
  | k + 1, i, h, hs => by
    by_cases hk : (X k).Scale = sc
    · rw [minS_yes hk]
      unfold imin
      by_cases hi : i = k
      · subst hi; split <;> omega
      · have := minS_le (f := f) k i (by omega) hs
        split <;> omega
    · rw [minS_no hk]
      exact minS_le k i (by have : i ≠ k := fun e => hk (by rw [← e]; exact hs)
                            omega) hs
theorem maxS_le {X : Nat → SheetD} {sc : Int} {f : SheetD → Int} : ∀ k i, i < k → (X i).Scale = sc → f (X i) ≤ maxS X sc f k
  | 0, i, h, _ => by omega
  | k + 1, i, h, hs => by
    by_cases hk : (X k).Scale = sc
    · rw [maxS_yes hk]
      unfold imax
      by_cases hi : i = k
      · subst hi; split <;> omega
      · have := maxS_le (f := f) k i (by omega) hs
        split <;> omega
    · rw [maxS_no hk]
      exact maxS_le k i (by have : i ≠ k := fun e => hk (by rw [← e]; exact hs)
                            omega) hs
theorem minS_at {X : Nat → SheetD} {sc : Int} {f : SheetD → Int} : ∀ k, minS X sc f k = 99 ∨ ∃ i, i < k ∧ (X i).Scale = sc ∧ minS X sc f k = f (X i)
  | 0 => .inl rfl
  | k + 1 => by
    by_cases hk : (X k).Scale = sc
    · rw [minS_yes hk]
      unfold imin
      split
      · exact .inr ⟨k, by omega, hk, rfl⟩
      · rcases minS_at (X := X) (sc := sc) (f := f) k with h | ⟨i, h1, h2, h3⟩
        · exact .inl h
        · exact .inr ⟨i, by omega, h2, h3⟩
    · rw [minS_no hk]
      rcases minS_at (X := X) (sc := sc) (f := f) k with h | ⟨i, h1, h2, h3⟩
      · exact .inl h
      · exact .inr ⟨i, by omega, h2, h3⟩
theorem maxS_at {X : Nat → SheetD} {sc : Int} {f : SheetD → Int} : ∀ k, maxS X sc f k = 0 ∨ ∃ i, i < k ∧ (X i).Scale = sc ∧ maxS X sc f k = f (X i)
  | 0 => .inl rfl
  | k + 1 => by
    by_cases hk : (X k).Scale = sc
    · rw [maxS_yes hk]
      unfold imax
      split
      · exact .inr ⟨k, by omega, hk, rfl⟩
      · rcases maxS_at (X := X) (sc := sc) (f := f) k with h | ⟨i, h1, h2, h3⟩
        · exact .inl h
        · exact .inr ⟨i, by omega, h2, h3⟩
    · rw [maxS_no hk]
      rcases maxS_at (X := X) (sc := sc) (f := f) k with h | ⟨i, h1, h2, h3⟩
      · exact .inl h
      · exact .inr ⟨i, by omega, h2, h3⟩

theorem minS_eq {X : Nat → SheetD} {n : Nat} {sc : Int} {Y : Nat → SheetD} {N : Nat} (P : Places X n sc Y N) (h0 : 0 < N) (f : SheetD → Int) (hf : ∀ j, j < N → f (Y j) ≤ 99) : minS X sc f n = minY (fun j => f (Y j)) N := by
  obtain ⟨j, h1, h2⟩ := minY_at (fun j => f (Y j)) N
  have hj : j < N := by omega
  obtain ⟨i, hi, e, hs⟩ := P.of j hj
  have a1 := minS_le (X := X) (sc := sc) (f := f) n i hi (by rw [e]; exact hs)
  rw [e] at a1
  rcases minS_at (X := X) (sc := sc) (f := f) n with h3 | ⟨i2, h3, h4, h5⟩
  · have a2 := hf j hj
    omega
  · obtain ⟨j2, h6, h7⟩ := P.mem i2 h3 h4
    have a2 := minY_le (fun j => f (Y j)) N j2 (.inl h6)
    rw [h7] at a2
    omega
theorem maxS_eq {X : Nat → SheetD} {n : Nat} {sc : Int} {Y : Nat → SheetD} {N : Nat} (P : Places X n sc Y N) (h0 : 0 < N) (f : SheetD → Int) (hf : ∀ j, j < N → 0 ≤ f (Y j)) : maxS X sc f n = maxY (fun j => f (Y j)) N := by
  obtain ⟨j, h1, h2⟩ := maxY_at (fun j => f (Y j)) N
  have hj : j < N := by omega
  obtain ⟨i, hi, e, hs⟩ := P.of j hj
  have a1 := maxS_le (X := X) (sc := sc) (f := f) n i hi (by rw [e]; exact hs)
  rw [e] at a1
  rcases maxS_at (X := X) (sc := sc) (f := f) n with h3 | ⟨i2, h3, h4, h5⟩
  · have a2 := hf j hj
    omega
  · obtain ⟨j2, h6, h7⟩ := P.mem i2 h3 h4
    have a2 := maxY_le (fun j => f (Y j)) N j2 (.inl h6)
    rw [h7] at a2
    omega

/-- The places of one row, the first m columns from le on, at which A holds. -/
def mRow (A : Int → Int → Bool) (row le : Int) : Nat → List Int
  | 0 => []
  | m + 1 => mRow A row le m ++ (if A row (le + (m : Int)) = true then [row, le + (m : Int)] else [])
/-- .. of the first r rows from lo on, each of W columns. -/
def mAll (A : Int → Int → Bool) (lo le : Int) (W : Nat) : Nat → List Int
  | 0 => []
  | r + 1 => mAll A lo le W r ++ mRow A (lo + (r : Int)) le W
theorem mRow_yes {A : Int → Int → Bool} {row le : Int} {m : Nat} (h : A row (le + (m : Int)) = true) : mRow A row le (m + 1) = mRow A row le m ++ [row, le + (m : Int)] := by simp [mRow, h]
theorem mRow_no {A : Int → Int → Bool} {row le : Int} {m : Nat} (h : A row (le + (m : Int)) = false) : mRow A row le (m + 1) = mRow A row le m := by simp [mRow, h]
theorem mRow_le (A : Int → Int → Bool) (row le : Int) : ∀ m, (mRow A row le m).length ≤ 2 * m
  | 0 => by simp [mRow]
  | m + 1 => by
    have := mRow_le A row le m
    unfold mRow
    rw [List.length_append]
    split <;> simp <;> omega
theorem mAll_le (A : Int → Int → Bool) (lo le : Int) (W : Nat) (hW : W ≤ 100) : ∀ r, (mAll A lo le W r).length ≤ 200 * r
  | 0 => by simp [mAll]
  | r + 1 => by
    have := mAll_le A lo le W hW r
    have := mRow_le A (lo + (r : Int)) le W
    unfold mAll
    rw [List.length_append]
    omega
theorem mRow_mono (A : Int → Int → Bool) (row le : Int) {m : Nat} : ∀ {m'}, m ≤ m' → (mRow A row le m).length ≤ (mRow A row le m').length
  | 0, h => by rw [show m = 0 by omega]; exact Nat.le_refl _
  | m' + 1, h => by
    by_cases e : m = m' + 1
    · rw [e]; exact Nat.le_refl _
    · have := mRow_mono A row le (m := m) (m' := m') (by omega)
      rw [show mRow A row le (m' + 1) = mRow A row le m' ++ (if A row (le + (m' : Int)) = true then [row, le + (m' : Int)] else []) from rfl, List.length_append]
      omega
theorem mAll_mono (A : Int → Int → Bool) (lo le : Int) (W : Nat) {r : Nat} : ∀ {r'}, r ≤ r' → (mAll A lo le W r).length ≤ (mAll A lo le W r').length
  | 0, h => by rw [show r = 0 by omega]; exact Nat.le_refl _
  | r' + 1, h => by
    by_cases e : r = r' + 1
    · rw [e]; exact Nat.le_refl _
    · have := mAll_mono A lo le W (r := r) (r' := r') (by omega)
      rw [show mAll A lo le W (r' + 1) = mAll A lo le W r' ++ mRow A (lo + (r' : Int)) le W from rfl, List.length_append]
      omega
theorem mAll_part (A : Int → Int → Bool) (lo le : Int) (W : Nat) {r H m : Nat} (hr : r < H) (hm : m ≤ W) : (mAll A lo le W r ++ mRow A (lo + (r : Int)) le m).length ≤ (mAll A lo le W H).length := by
  have h1 := mAll_mono A lo le W (r := r + 1) (r' := H) (by omega)
  rw [show mAll A lo le W (r + 1) = mAll A lo le W r ++ mRow A (lo + (r : Int)) le W from rfl, List.length_append] at h1
  have := mRow_mono A (lo + (r : Int)) le hm
  rw [List.length_append]
  omega

/-- Row by row: what stands and what is missing make up the row. -/
theorem mRow_count {Y : Nat → SheetD} {N : Nat} (G : Grid Y N) (A : Int → Int → Bool) (hA : ∀ r c, A r c = true ↔ ∀ j, j < N → ¬ ((Y j).Row = r ∧ (Y j).Col = c)) (row le : Int) {c0 : Nat} (C : Cur Y N row le c0) :
    ∀ m : Nat, ∃ c : Nat, Cur Y N row (le + (m : Int)) c ∧ (mRow A row le m).length + 2 * c = 2 * m + 2 * c0
  | 0 => ⟨c0, by simpa using C, by simp [mRow]⟩
  | m + 1 => by
    obtain ⟨c, h1, h2⟩ := mRow_count G A hA row le C m
    by_cases h : A row (le + (m : Int)) = true
    · refine ⟨c, ?_, ?_⟩
      · have := h1.miss ((hA _ _).1 h)
        rw [show le + ((m + 1 : Nat) : Int) = le + (m : Int) + 1 by omega]; exact this
      · rw [mRow_yes h, List.length_append]; simp; omega
    · have hn : ¬ ∀ j, j < N → ¬ ((Y j).Row = row ∧ (Y j).Col = le + (m : Int)) := fun e => h ((hA _ _).2 e)
      have : ∃ j, j < N ∧ (Y j).Row = row ∧ (Y j).Col = le + (m : Int) := by
        apply Classical.byContradiction
        intro hc
        exact hn fun j hj he => hc ⟨j, hj, he.1, he.2⟩
      obtain ⟨j, hj, e1, e2⟩ := this
      refine ⟨c + 1, ?_, ?_⟩
      · have := (h1.hit G hj e1 e2).2
        rw [show le + ((m + 1 : Nat) : Int) = le + (m : Int) + 1 by omega]; exact this
      · rw [Bool.not_eq_true] at h
        rw [mRow_no h]; omega
theorem mAll_count {Y : Nat → SheetD} {N : Nat} (G : Grid Y N) (A : Int → Int → Bool) (hA : ∀ r c, A r c = true ↔ ∀ j, j < N → ¬ ((Y j).Row = r ∧ (Y j).Col = c)) (lo le : Int) (W : Nat)
    (h1 : ∀ j, j < N → lo ≤ (Y j).Row) (h2 : ∀ j, j < N → le ≤ (Y j).Col) (h3 : ∀ j, j < N → (Y j).Col < le + (W : Int)) :
    ∀ r : Nat, ∃ c : Nat, Cur Y N (lo + (r : Int)) le c ∧ (mAll A lo le W r).length + 2 * c = 2 * (r * W)
  | 0 => ⟨0, by simpa using Cur.start h1 h2, by simp [mAll]⟩
  | r + 1 => by
    obtain ⟨c, k1, k2⟩ := mAll_count G A hA lo le W h1 h2 h3 r
    obtain ⟨c', k3, k4⟩ := mRow_count G A hA (lo + (r : Int)) le k1 W
    refine ⟨c', ?_, ?_⟩
    · have := k3.turn h3 h2
      rw [show lo + ((r + 1 : Nat) : Int) = lo + (r : Int) + 1 by omega]; exact this
    · rw [show mAll A lo le W (r + 1) = mAll A lo le W r ++ mRow A (lo + (r : Int)) le W from rfl, List.length_append, Nat.add_mul]
      omega

/-- The bounds of all sheets of a scale. -/
structure MBox where
  lo : Int
  hi : Int
  le : Int
  ri : Int
def msBox (X : Nat → SheetD) (n : Nat) (sc : Int) : MBox :=
  ⟨minY (fun j => (srtY X n sc j).Row) (srtN X n sc), maxY (fun j => (srtY X n sc j).Row) (srtN X n sc), minY (fun j => (srtY X n sc j).Col) (srtN X n sc), maxY (fun j => (srtY X n sc j).Col) (srtN X n sc)⟩
/-- There is no sheet of the scale at a place. -/
def msA (X : Nat → SheetD) (n : Nat) (sc : Int) (r c : Int) : Bool := decide (findI (fun i => onB (X i) r c sc) n < 0)
def msAll (X : Nat → SheetD) (n : Nat) (sc : Int) : List Int :=
  mAll (msA X n sc) (msBox X n sc).lo (msBox X n sc).le ((msBox X n sc).ri - (msBox X n sc).le + 1).toNat ((msBox X n sc).hi - (msBox X n sc).lo + 1).toNat
def msOk (X : Nat → SheetD) (n : Nat) (sc : Int) : Bool := sheetsB X n && decide (0 < srtN X n sc) && decide ((msAll X n sc).length ≤ 800)
/-- The places without a sheet, one behind the other. -/
def msL (X : Nat → SheetD) (n : Nat) (sc : Int) : List Int := if msOk X n sc = true then msAll X n sc else []
theorem msL_le (X : Nat → SheetD) (n : Nat) (sc : Int) : (msL X n sc).length ≤ 800 := by
  unfold msL
  split
  · rename_i h; simp [msOk] at h; exact h.2
  · simp
theorem ms_no {X : Nat → SheetD} {n : Nat} {sc : Int} (h : msOk X n sc = false) : msL X n sc = [] := by unfold msL; rw [h]; rfl
theorem ms_yes {X : Nat → SheetD} {n : Nat} {sc : Int} (h : msOk X n sc = true) : msL X n sc = msAll X n sc := by unfold msL; rw [if_pos h]

theorem msA_iff {X : Nat → SheetD} {n : Nat} {sc : Int} {Y : Nat → SheetD} {N : Nat} (P : Places X n sc Y N) (r c : Int) : msA X n sc r c = true ↔ ∀ j, j < N → ¬ ((Y j).Row = r ∧ (Y j).Col = c) := by
  unfold msA
  simp only [decide_eq_true_eq]
  rcases findI_cases (fun i => onB (X i) r c sc) n with h1 | ⟨k, hk, h1, h2⟩
  · rw [h1]; exact ⟨fun _ => P.none h1, fun _ => by omega⟩
  · rw [h1]
    constructor
    · intro h; omega
    · intro h
      obtain ⟨_, j, hj, _, e1, e2⟩ := P.some h1
      exact (h j hj ⟨e1, e2⟩).elim

/-- All of it for a valid list with a sheet of the scale. -/
structure MsFacts (X : Nat → SheetD) (n : Nat) (sc : Int) (Y : Nat → SheetD) (N : Nat) (b : MBox) (W H : Nat) : Prop where
  lo : b.lo = minY (fun j => (Y j).Row) N ∧ b.lo = minS X sc SheetD.Row n
  hi : b.hi = maxY (fun j => (Y j).Row) N ∧ b.hi = maxS X sc SheetD.Row n
  le : b.le = minY (fun j => (Y j).Col) N ∧ b.le = minS X sc SheetD.Col n
  ri : b.ri = maxY (fun j => (Y j).Col) N ∧ b.ri = maxS X sc SheetD.Col n
  bd : 0 ≤ b.lo ∧ b.lo ≤ b.hi ∧ b.hi ≤ 99 ∧ 0 ≤ b.le ∧ b.le ≤ b.ri ∧ b.ri ≤ 99
  wd : (W : Int) = b.ri - b.le + 1
  ht : (H : Int) = b.hi - b.lo + 1
  all : msAll X n sc = mAll (msA X n sc) b.lo b.le W H
  count : (msAll X n sc).length + 2 * N = 2 * (H * W)
  len : N = (selS X sc n).length
theorem ms_facts {X : Nat → SheetD} {n : Nat} {sc : Int} (hv : sheetsB X n = true) (h0 : 0 < srtN X n sc) :
    MsFacts X n sc (srtY X n sc) (srtN X n sc) (msBox X n sc) ((msBox X n sc).ri - (msBox X n sc).le + 1).toNat ((msBox X n sc).hi - (msBox X n sc).lo + 1).toNat := by
  have P := srt_places (sc := sc) hv
  have hl : srtN X n sc = (selS X sc n).length := srtN_sel X n sc
  have bd := P.grid.bd
  have r1 : ∀ j, j < srtN X n sc → (msBox X n sc).lo ≤ (srtY X n sc j).Row := fun j hj => minY_le (fun j => (srtY X n sc j).Row) _ j (.inl hj)
  have r2 : ∀ j, j < srtN X n sc → (srtY X n sc j).Row ≤ (msBox X n sc).hi := fun j hj => maxY_le (fun j => (srtY X n sc j).Row) _ j (.inl hj)
  have r3 : ∀ j, j < srtN X n sc → (msBox X n sc).le ≤ (srtY X n sc j).Col := fun j hj => minY_le (fun j => (srtY X n sc j).Col) _ j (.inl hj)
  have r4 : ∀ j, j < srtN X n sc → (srtY X n sc j).Col ≤ (msBox X n sc).ri := fun j hj => maxY_le (fun j => (srtY X n sc j).Col) _ j (.inl hj)
  obtain ⟨j1, k1, e1⟩ := minY_at (fun j => (srtY X n sc j).Row) (srtN X n sc)
  obtain ⟨j2, k2, e2⟩ := maxY_at (fun j => (srtY X n sc j).Row) (srtN X n sc)
  obtain ⟨j3, k3, e3⟩ := minY_at (fun j => (srtY X n sc j).Col) (srtN X n sc)
  obtain ⟨j4, k4, e4⟩ := maxY_at (fun j => (srtY X n sc j).Col) (srtN X n sc)
  have b0 : 0 ≤ (msBox X n sc).lo ∧ (msBox X n sc).lo ≤ (msBox X n sc).hi ∧ (msBox X n sc).hi ≤ 99 ∧ 0 ≤ (msBox X n sc).le ∧ (msBox X n sc).le ≤ (msBox X n sc).ri ∧ (msBox X n sc).ri ≤ 99 := by
    have a1 : (msBox X n sc).lo = (srtY X n sc j1).Row := e1
    have a2 : (msBox X n sc).hi = (srtY X n sc j2).Row := e2
    have a3 : (msBox X n sc).le = (srtY X n sc j3).Col := e3
    have a4 : (msBox X n sc).ri = (srtY X n sc j4).Col := e4
    have c1 := bd j1 (by omega)
    have c2 := bd j2 (by omega)
    have c3 := bd j3 (by omega)
    have c4 := bd j4 (by omega)
    have d1 := r1 j2 (by omega)
    have d2 := r3 j4 (by omega)
    omega
  refine ⟨⟨rfl, (minS_eq P h0 SheetD.Row fun j hj => (bd j hj).2.1).symm⟩, ⟨rfl, (maxS_eq P h0 SheetD.Row fun j hj => (bd j hj).1).symm⟩, ⟨rfl, (minS_eq P h0 SheetD.Col fun j hj => (bd j hj).2.2.2).symm⟩, ⟨rfl, (maxS_eq P h0 SheetD.Col fun j hj => (bd j hj).2.2.1).symm⟩, b0, by omega, by omega, rfl, ?_, hl⟩
  obtain ⟨c, k5, k6⟩ := mAll_count P.grid (msA X n sc) (msA_iff P) (msBox X n sc).lo (msBox X n sc).le ((msBox X n sc).ri - (msBox X n sc).le + 1).toNat r1 r3 (fun j hj => by have := r4 j hj; omega) ((msBox X n sc).hi - (msBox X n sc).lo + 1).toNat
  have : c = srtN X n sc := k5.fin (fun j hj => by have := r2 j hj; omega)
  rw [← this]
  exact k6

end Go.Proofs.Ytgdhjiiblfdlcaa
