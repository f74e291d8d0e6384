/-
  The sheets of one scale in the order of their places: plain facts. No condition.
-/
import Derived.Test.YtgdhjiiblfdlcaaSheets2
namespace Go.Proofs.Ytgdhjiiblfdlcaa
open Go.RowKit
set_option linter.unusedVariables false

theorem shB_bd {s : SheetD} (h : sheetB s = true) : (1 ≤ s.Id ∧ s.Id ≤ 999) ∧ (0 ≤ s.Row ∧ s.Row ≤ 99) ∧ (0 ≤ s.Col ∧ s.Col ≤ 99) ∧ (10 ≤ s.Scale ∧ s.Scale ≤ 500) ∧ (1500 ≤ s.Year ∧ s.Year ≤ 2100) := by
  simp [sheetB, inB] at h; omega

theorem shsB_valid {X : Nat → SheetD} {n i : Nat} (h : sheetsB X n = true) (hi : i < n) : sheetB (X i) = true := by
  have := sheetsB_at h hi
  simp [sheetOk] at this; exact this.1.1

/-- Before the first index at which p holds it holds nowhere. -/
theorem findFrom_first (p : Nat → Bool) : ∀ m k (j : Nat), findFrom p k m = (j : Int) → ∀ i : Nat, k ≤ i → i < j → p i = false
  | 0, k, j, h, i, h1, h2 => by simp [findFrom] at h
  | m + 1, k, j, h, i, h1, h2 => by
    by_cases hp : p k = true
    · simp [findFrom, hp] at h; omega
    · have e : findFrom p k (m + 1) = findFrom p (k + 1) m := by simp [findFrom, hp]
      by_cases hik : i = k
      · rw [hik]; simpa using hp
      · exact findFrom_first p m (k + 1) j (e.symm.trans h) i (by omega) h2
theorem findI_first {p : Nat → Bool} {n j : Nat} (h : findI p n = (j : Int)) : ∀ i : Nat, i < j → p i = false := fun i hi => findFrom_first p n 0 j h i (Nat.zero_le _) hi

/-- Two sheets of a valid list at one place and of one scale are one. -/
theorem shsB_place {X : Nat → SheetD} {n i k : Nat} (h : sheetsB X n = true) (hi : i < n) (hk : k < n) (h1 : (X i).Row = (X k).Row) (h2 : (X i).Col = (X k).Col) (h3 : (X i).Scale = (X k).Scale) : i = k := by
  have a : ∀ i k, i < n → k < n → i < k → (X i).Row = (X k).Row → (X i).Col = (X k).Col → (X i).Scale = (X k).Scale → False := by
    intro i k hi hk hik h1 h2 h3
    have h4 := sheetsB_at h hk
    simp only [sheetOk, Bool.and_eq_true, beq_iff_eq] at h4
    have h5 := findI_first h4.2 i hik
    simp [onB, h1, h2, h3] at h5
  rcases Nat.lt_trichotomy i k with hl | hl | hl
  · exact (a i k hi hk hl h1 h2 h3).elim
  · exact hl
  · exact (a k i hk hi hl h1.symm h2.symm h3.symm).elim

/-- The sheets of a scale among the first n, in the list's order. -/
def selS (X : Nat → SheetD) (sc : Int) (n : Nat) : List SheetD := ((List.range n).filter fun i => (X i).Scale == sc).map X
theorem selS_yes {X : Nat → SheetD} {sc : Int} {n : Nat} (h : ((X n).Scale == sc) = true) : selS X sc (n + 1) = selS X sc n ++ [X n] := by simp [selS, List.range_succ] at h ⊢; simp [h]
theorem selS_no {X : Nat → SheetD} {sc : Int} {n : Nat} (h : ((X n).Scale == sc) = false) : selS X sc (n + 1) = selS X sc n := by simp [selS, List.range_succ] at h ⊢; simp [h]
theorem selS_le (X : Nat → SheetD) (sc : Int) (n : Nat) : (selS X sc n).length ≤ n := by
  simp only [selS, List.length_map]
  exact Nat.le_trans (List.length_filter_le _ _) (by simp)
theorem selS_mem {X : Nat → SheetD} {sc : Int} {n : Nat} {s : SheetD} : s ∈ selS X sc n ↔ ∃ i, i < n ∧ (X i).Scale = sc ∧ X i = s := by
  simp only [selS, List.mem_map, List.mem_filter, List.mem_range, beq_iff_eq]
  constructor
  · rintro ⟨i, ⟨h1, h2⟩, h3⟩; exact ⟨i, h1, h2, h3⟩
  · rintro ⟨i, h1, h2, h3⟩; exact ⟨i, ⟨h1, h2⟩, h3⟩
theorem selS_apart {X : Nat → SheetD} {sc : Int} {n : Nat} (h : sheetsB X n = true) : (selS X sc n).Pairwise fun s t => ¬ (s.Row = t.Row ∧ s.Col = t.Col) := by
  unfold selS
  rw [List.pairwise_map, List.pairwise_filter]
  refine List.Pairwise.imp_of_mem ?_ List.pairwise_lt_range
  intro i j hi hj hij h1 h2 h3
  simp at hi hj h1 h2
  have := shsB_place h hi hj h3.1 h3.2 (h1.trans h2.symm)
  omega

/-- The first one does not lie behind the second one. -/
def leB (s t : SheetD) : Bool := decide (s.Row < t.Row ∨ (s.Row = t.Row ∧ s.Col ≤ t.Col))
/-- L holds all sheets of the scale, in the order of their places. -/
structure Scaled (X : Nat → SheetD) (n : Nat) (sc : Int) (L : List SheetD) : Prop where
  perm : L.Perm (selS X sc n)
  sorted : L.Pairwise fun s t => leB s t = true
def srt (X : Nat → SheetD) (n : Nat) (sc : Int) : List SheetD := (selS X sc n).mergeSort leB

theorem leB_trans (a b c : SheetD) (h1 : leB a b = true) (h2 : leB b c = true) : leB a c = true := by
  simp only [leB, decide_eq_true_eq] at *; omega
theorem leB_total (a b : SheetD) : (leB a b || leB b a) = true := by
  simp only [leB, Bool.or_eq_true, decide_eq_true_eq]; omega
theorem srt_scaled (X : Nat → SheetD) (n : Nat) (sc : Int) : Scaled X n sc (srt X n sc) :=
  ⟨List.mergeSort_perm _ _, List.pairwise_mergeSort leB_trans leB_total _⟩
theorem Scaled.eq {X : Nat → SheetD} {n : Nat} {sc : Int} {L : List SheetD} (h : Scaled X n sc L) (hv : sheetsB X n = true) : L = srt X n sc := by
  have k := srt_scaled X n sc
  refine List.Perm.eq_of_pairwise (le := fun s t => leB s t = true) ?_ h.sorted k.sorted (h.perm.trans k.perm.symm)
  intro a b ha hb h1 h2
  obtain ⟨i, hi, si, rfl⟩ := selS_mem.1 (h.perm.mem_iff.1 ha)
  obtain ⟨j, hj, sj, rfl⟩ := selS_mem.1 (k.perm.mem_iff.1 hb)
  simp only [leB, decide_eq_true_eq] at h1 h2
  rw [shsB_place hv hi hj (by omega) (by omega) (si.trans sj.symm)]
theorem Scaled.len {X : Nat → SheetD} {n : Nat} {sc : Int} {L : List SheetD} (h : Scaled X n sc L) : L.length ≤ n := by
  rw [h.perm.length_eq]; exact selS_le X sc n

/-- The sheets Y, N of them, stand in the order of their places; no two at one place. -/
structure Grid (Y : Nat → SheetD) (N : Nat) : Prop where
  lt : ∀ i j, i < j → j < N → (Y i).Row < (Y j).Row ∨ ((Y i).Row = (Y j).Row ∧ (Y i).Col < (Y j).Col)
  bd : ∀ j, j < N → 0 ≤ (Y j).Row ∧ (Y j).Row ≤ 99 ∧ 0 ≤ (Y j).Col ∧ (Y j).Col ≤ 99
/-- .. and they are those of the scale among X. -/
structure Places (X : Nat → SheetD) (n : Nat) (sc : Int) (Y : Nat → SheetD) (N : Nat) : Prop where
  grid : Grid Y N
  of : ∀ j, j < N → ∃ i, i < n ∧ X i = Y j ∧ (Y j).Scale = sc
  mem : ∀ i, i < n → (X i).Scale = sc → ∃ j, j < N ∧ Y j = X i

/-- The sheets of the scale, by their places. -/
def srtY (X : Nat → SheetD) (n : Nat) (sc : Int) (j : Nat) : SheetD := (srt X n sc).getD j default
def srtN (X : Nat → SheetD) (n : Nat) (sc : Int) : Nat := (srt X n sc).length
theorem srtN_le (X : Nat → SheetD) (n : Nat) (sc : Int) : srtN X n sc ≤ n := (srt_scaled X n sc).len
theorem srtN_sel (X : Nat → SheetD) (n : Nat) (sc : Int) : srtN X n sc = (selS X sc n).length := (srt_scaled X n sc).perm.length_eq

theorem srt_places {X : Nat → SheetD} {n : Nat} {sc : Int} (hv : sheetsB X n = true) : Places X n sc (srtY X n sc) (srtN X n sc) := by
  have k := srt_scaled X n sc
  have ap := k.perm.symm.pairwise (selS_apart (sc := sc) hv) (fun h e => h ⟨e.1.symm, e.2.symm⟩)
  have at_ : ∀ j, j < srtN X n sc → srtY X n sc j ∈ srt X n sc := fun j hj => by
    have hj' : j < (srt X n sc).length := hj
    simp [srtY, List.getD, hj']
  have of_ : ∀ j, j < srtN X n sc → ∃ i, i < n ∧ X i = srtY X n sc j ∧ (srtY X n sc j).Scale = sc := fun j hj => by
    obtain ⟨i, h1, h2, h3⟩ := selS_mem.1 (k.perm.mem_iff.1 (at_ j hj))
    exact ⟨i, h1, h3, by rw [← h3]; exact h2⟩
  refine ⟨⟨fun i j hij hj => ?_, fun j hj => ?_⟩, of_, fun i hi hs => ?_⟩
  · have hj' : j < (srt X n sc).length := hj
    have hi' : i < (srt X n sc).length := by omega
    have h1 := List.pairwise_iff_getElem.1 k.sorted i j hi' hj' hij
    have h2 := List.pairwise_iff_getElem.1 ap i j hi' hj' hij
    have e1 : srtY X n sc i = (srt X n sc)[i] := by simp [srtY, List.getD, hi']
    have e2 : srtY X n sc j = (srt X n sc)[j] := by simp [srtY, List.getD, hj']
    rw [e1, e2]
    simp only [leB, decide_eq_true_eq] at h1
    omega
  · obtain ⟨i, h1, h2, h3⟩ := of_ j hj
    obtain ⟨_, ⟨a, b⟩, ⟨c, d⟩, _⟩ := shB_bd (shsB_valid hv h1)
    rw [← h2]; exact ⟨a, b, c, d⟩
  · have hm : X i ∈ srt X n sc := k.perm.mem_iff.2 (selS_mem.2 ⟨i, hi, hs, rfl⟩)
    obtain ⟨j, hj, e⟩ := List.getElem_of_mem hm
    exact ⟨j, hj, by simp [srtY, List.getD, hj, e]⟩

theorem Places.some {X : Nat → SheetD} {n : Nat} {sc : Int} {Y : Nat → SheetD} {N : Nat} (P : Places X n sc Y N) {row col : Int} {k : Nat} (h : findI (fun i => onB (X i) row col sc) n = (k : Int)) :
    k < n ∧ ∃ j, j < N ∧ Y j = X k ∧ (Y j).Row = row ∧ (Y j).Col = col := by
  rcases findI_cases (fun i => onB (X i) row col sc) n with h1 | ⟨j, hj, h1, h2⟩
  · omega
  · obtain rfl : j = k := by omega
    simp only [onB, Bool.and_eq_true, beq_iff_eq] at h2
    obtain ⟨i, hi, e⟩ := P.mem j hj h2.2
    exact ⟨hj, i, hi, e, by rw [e]; exact h2.1.1, by rw [e]; exact h2.1.2⟩
theorem Places.none {X : Nat → SheetD} {n : Nat} {sc : Int} {Y : Nat → SheetD} {N : Nat} (P : Places X n sc Y N) {row col : Int} (h : findI (fun i => onB (X i) row col sc) n = -1) :
    ∀ j, j < N → ¬ ((Y j).Row = row ∧ (Y j).Col = col) := by
  intro j hj ⟨h1, h2⟩
  obtain ⟨i, hi, e, hs⟩ := P.of j hj
  have := findI_none h i hi
  simp [onB, e, h1, h2, hs] at this
theorem Places.findY {X : Nat → SheetD} {n : Nat} {sc : Int} {Y : Nat → SheetD} {N : Nat} (P : Places X n sc Y N) (row col : Int) :
    decide (findI (fun j => onB (Y j) row col sc) N < 0) = decide (findI (fun i => onB (X i) row col sc) n < 0) := by
  rcases findI_cases (fun i => onB (X i) row col sc) n with h1 | ⟨k, hk, h1, h2⟩
  · rcases findI_cases (fun j => onB (Y j) row col sc) N with h3 | ⟨j, hj, h3, h4⟩
    · rw [h1, h3]
    · simp only [onB, Bool.and_eq_true, beq_iff_eq] at h4
      exact (P.none h1 j hj h4.1).elim
  · rcases findI_cases (fun j => onB (Y j) row col sc) N with h3 | ⟨j, hj, h3, h4⟩
    · obtain ⟨_, j, hj, e, h5, h6⟩ := P.some h1
      have h7 := findI_none h3 j hj
      obtain ⟨_, _, _, h8⟩ := P.of j hj
      simp [onB, h5, h6, h8] at h7
    · rw [h1, h3]; simp <;> omega

/-- c sheets stand before a place. -/
def Cur (Y : Nat → SheetD) (N : Nat) (row col : Int) (c : Nat) : Prop :=
  c ≤ N ∧ (∀ j, j < c → (Y j).Row < row ∨ ((Y j).Row = row ∧ (Y j).Col < col)) ∧ (∀ j, c ≤ j → j < N → row < (Y j).Row ∨ ((Y j).Row = row ∧ col ≤ (Y j).Col))
theorem Cur.hit {Y : Nat → SheetD} {N : Nat} {row col : Int} {c j : Nat} (G : Grid Y N) (h : Cur Y N row col c) (hj : j < N) (h1 : (Y j).Row = row) (h2 : (Y j).Col = col) : j = c ∧ Cur Y N row (col + 1) (c + 1) := by
  obtain ⟨a, b, d⟩ := h
  have e : j = c := by
    rcases Nat.lt_trichotomy j c with hl | hl | hl
    · have := b j hl; omega
    · exact hl
    · have := d c (Nat.le_refl _) (by omega); have := G.lt c j hl hj; omega
  subst e
  refine ⟨rfl, by omega, fun i hi => ?_, fun i hi hN => ?_⟩
  · by_cases hij : i = j
    · subst hij; omega
    · have := b i (by omega); omega
  · have := G.lt j i (by omega) hN; omega
theorem Cur.miss {Y : Nat → SheetD} {N : Nat} {row col : Int} {c : Nat} (h : Cur Y N row col c) (hm : ∀ j, j < N → ¬ ((Y j).Row = row ∧ (Y j).Col = col)) : Cur Y N row (col + 1) c :=
  ⟨h.1, fun j hj => by have := h.2.1 j hj; omega, fun j hj hN => by have := h.2.2 j hj hN; have := hm j hN; omega⟩
theorem Cur.turn {Y : Nat → SheetD} {N : Nat} {row col lo : Int} {c : Nat} (h : Cur Y N row col c) (h1 : ∀ j, j < N → (Y j).Col < col) (h2 : ∀ j, j < N → lo ≤ (Y j).Col) : Cur Y N (row + 1) lo c :=
  ⟨h.1, fun j hj => by have := h.2.1 j hj; omega, fun j hj hN => by have := h.2.2 j hj hN; have := h1 j hN; have := h2 j hN; omega⟩
theorem Cur.start {Y : Nat → SheetD} {N : Nat} {row col : Int} (h1 : ∀ j, j < N → row ≤ (Y j).Row) (h2 : ∀ j, j < N → col ≤ (Y j).Col) : Cur Y N row col 0 :=
  ⟨Nat.zero_le _, fun j hj => by omega, fun j _ hN => by have := h1 j hN; have := h2 j hN; omega⟩
theorem Cur.fin {Y : Nat → SheetD} {N : Nat} {row col : Int} {c : Nat} (h : Cur Y N row col c) (h1 : ∀ j, j < N → (Y j).Row < row) : c = N := by
  rcases Nat.lt_or_ge c N with hl | hl
  · have := h.2.2 c (Nat.le_refl _) hl; have := h1 c hl; omega
  · have := h.1; omega

end Go.Proofs.Ytgdhjiiblfdlcaa
