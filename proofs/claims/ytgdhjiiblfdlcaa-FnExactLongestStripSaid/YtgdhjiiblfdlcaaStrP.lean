/-
  Strips of sheets side by side, the longest one: plain facts. No condition.
-/
import Derived.Test.YtgdhjiiblfdlcaaSclP
namespace Go.Proofs.Ytgdhjiiblfdlcaa
open Go.RowKit
set_option linter.unusedVariables false

/-- Sheet i + 1 lies right of sheet i. -/
def adjS (Y : Nat → SheetD) (i : Nat) : Prop := (Y (i + 1)).Row = (Y i).Row ∧ (Y (i + 1)).Col = (Y i).Col + 1
instance (Y : Nat → SheetD) (i : Nat) : Decidable (adjS Y i) := by unfold adjS; infer_instance
/-- m sheets from a on, among the first N, lie side by side. -/
def St (Y : Nat → SheetD) (N a m : Nat) : Prop := a + m ≤ N ∧ ∀ i, a ≤ i → i + 1 < a + m → adjS Y i
/-- Of the strips that begin before c this is the first of the longest ones. -/
structure Best (Y : Nat → SheetD) (N c a m : Nat) : Prop where
  st : St Y N a m
  most : ∀ a' m', a' < c → St Y N a' m' → m' ≤ m
  first : ∀ a', a' < c → 0 < m → St Y N a' m → a ≤ a'
  lt : m = 0 ∨ a < c
/-- The ids of m sheets from a on. -/
def idsF (Y : Nat → SheetD) (a m : Nat) : List Int := (List.range m).map fun i => (Y (a + i)).Id
theorem idsF_length (Y : Nat → SheetD) (a m : Nat) : (idsF Y a m).length = m := by simp [idsF]
theorem idsF_zero (Y : Nat → SheetD) (a : Nat) : idsF Y a 0 = [] := rfl
theorem idsF_succ (Y : Nat → SheetD) (a m : Nat) : idsF Y a (m + 1) = idsF Y a m ++ [(Y (a + m)).Id] := by simp [idsF, List.range_succ]

theorem best_same {Y : Nat → SheetD} {N a m a' m' : Nat} (h : Best Y N N a m) (k : Best Y N N a' m') : idsF Y a m = idsF Y a' m' := by
  have e1 : m ≤ m' := by rcases h.lt with h1 | h1; omega; exact k.most a m h1 h.st
  have e2 : m' ≤ m := by rcases k.lt with h1 | h1; omega; exact h.most a' m' h1 k.st
  obtain rfl : m = m' := by omega
  by_cases h0 : m = 0
  · subst h0; rfl
  · have h1 : a < N := by rcases h.lt with h1 | h1; omega; exact h1
    have h2 : a' < N := by rcases k.lt with h1 | h1; omega; exact h1
    have e3 := h.first a' h2 (by omega) k.st
    have e4 := k.first a h1 (by omega) h.st
    rw [show a = a' by omega]

/-- Behind k sheets the strip that is being gathered begins at s. -/
def RunI (Y : Nat → SheetD) (k s : Nat) : Prop := s ≤ k ∧ (0 < k → s < k) ∧ (∀ i, s ≤ i → i + 1 < k → adjS Y i) ∧ (s = 0 ∨ ¬ adjS Y (s - 1))
theorem RunI.zero (Y : Nat → SheetD) : RunI Y 0 0 := ⟨Nat.le_refl _, fun h => by omega, fun i _ h => by omega, .inl rfl⟩
theorem RunI.turn {Y : Nat → SheetD} {k s : Nat} (hk : 0 < k) (h : ¬ adjS Y (k - 1)) : RunI Y (k + 1) k := ⟨by omega, fun _ => by omega, fun i h1 h2 => by omega, .inr h⟩
theorem RunI.on {Y : Nat → SheetD} {k s : Nat} (R : RunI Y k s) (h : k = 0 ∨ adjS Y (k - 1)) : RunI Y (k + 1) s := by
  refine ⟨by have := R.1; omega, fun _ => by have := R.1; omega, fun i h1 h2 => ?_, R.2.2.2⟩
  by_cases h3 : i + 1 < k
  · exact R.2.2.1 i h1 h3
  · rcases h with h | h
    · omega
    · rw [show i = k - 1 by omega]; exact h
theorem RunI.st {Y : Nat → SheetD} {k s : Nat} (R : RunI Y k s) : St Y k s (k - s) := ⟨by have := R.1; omega, fun i h1 h2 => R.2.2.1 i h1 (by have := R.1; omega)⟩

theorem st_new {Y : Nat → SheetD} {k s a m : Nat} (R : RunI Y (k + 1) s) (S : St Y (k + 1) a m) : St Y k a m ∨ (a + m = k + 1 ∧ s ≤ a) ∨ m = 0 := by
  obtain ⟨h1, h2⟩ := S
  by_cases h0 : m = 0
  · exact .inr (.inr h0)
  by_cases h3 : a + m ≤ k
  · exact .inl ⟨h3, h2⟩
  · refine .inr (.inl ⟨by omega, ?_⟩)
    rcases Nat.lt_or_ge a s with hl | hl
    · have hs := R.2.1 (by omega)
      rcases R.2.2.2 with h4 | h4
      · omega
      · exact (h4 (h2 (s - 1) (by omega) (by omega))).elim
    · exact hl

theorem Best.zero (Y : Nat → SheetD) (N : Nat) : Best Y N 0 0 0 := ⟨⟨by omega, fun i _ h => by omega⟩, fun a m h => by omega, fun a h => by omega, .inl rfl⟩
theorem St.mono {Y : Nat → SheetD} {N N' a m : Nat} (h : St Y N a m) (hN : N ≤ N') : St Y N' a m := ⟨by have := h.1; omega, h.2⟩
theorem Best.more {Y : Nat → SheetD} {k s a m : Nat} (R : RunI Y (k + 1) s) (B : Best Y k k a m) (h : m < k + 1 - s) : Best Y (k + 1) (k + 1) s (k + 1 - s) := by
  have hs := R.2.1 (by omega)
  have most : ∀ a' m', a' < k + 1 → St Y (k + 1) a' m' → m' ≤ k + 1 - s := fun a' m' h1 S => by
    rcases st_new R S with S1 | ⟨S1, S2⟩ | S1
    · by_cases h2 : a' < k
      · have := B.most a' m' h2 S1; omega
      · have := S1.1; omega
    · omega
    · omega
  refine ⟨R.st, most, fun a' h1 h2 S => ?_, .inr hs⟩
  rcases st_new R S with S1 | ⟨S1, S2⟩ | S1
  · by_cases h2 : a' < k
    · have := B.most a' _ h2 S1; omega
    · have := S1.1; omega
  · exact S2
  · omega
theorem Best.keep {Y : Nat → SheetD} {k s a m : Nat} (R : RunI Y (k + 1) s) (B : Best Y k k a m) (h : ¬ m < k + 1 - s) : Best Y (k + 1) (k + 1) a m := by
  have hs := R.2.1 (by omega)
  have hst := B.st.1
  refine ⟨B.st.mono (by omega), fun a' m' h1 S => ?_, fun a' h1 h2 S => ?_, ?_⟩
  · rcases st_new R S with S1 | ⟨S1, S2⟩ | S1
    · by_cases h2 : a' < k
      · exact B.most a' m' h2 S1
      · have := S1.1; omega
    · omega
    · omega
  · rcases st_new R S with S1 | ⟨S1, S2⟩ | S1
    · by_cases h3 : a' < k
      · exact B.first a' h3 h2 S1
      · have := S1.1; omega
    · omega
    · omega
  · rcases B.lt with h1 | h1
    · exact .inl h1
    · exact .inr (by omega)

/-- What the program gathers: the strip's begin, the best strip's begin and length. -/
def stF (Y : Nat → SheetD) : Nat → Nat × Nat × Nat
  | 0 => (0, 0, 0)
  | k + 1 =>
    let s := if k = 0 ∨ adjS Y (k - 1) then (stF Y k).1 else k
    if (stF Y k).2.2 < k + 1 - s then (s, s, k + 1 - s) else (s, (stF Y k).2.1, (stF Y k).2.2)
theorem stF_best (Y : Nat → SheetD) : ∀ k, RunI Y k (stF Y k).1 ∧ Best Y k k (stF Y k).2.1 (stF Y k).2.2
  | 0 => ⟨RunI.zero Y, Best.zero Y 0⟩
  | k + 1 => by
    obtain ⟨R, B⟩ := stF_best Y k
    have R1 : RunI Y (k + 1) (if k = 0 ∨ adjS Y (k - 1) then (stF Y k).1 else k) := by
      split
      · rename_i h; exact R.on h
      · rename_i h
        have h1 : ¬ k = 0 := fun e => h (.inl e)
        exact RunI.turn (s := 0) (by omega) (fun e => h (.inr e))
    unfold stF
    generalize (if k = 0 ∨ adjS Y (k - 1) then (stF Y k).1 else k) = s at R1 ⊢
    by_cases h : (stF Y k).2.2 < k + 1 - s
    · simp only [if_pos h]; exact ⟨R1, B.more R1 h⟩
    · simp only [if_neg h]; exact ⟨R1, B.keep R1 h⟩

/-- The ids of the longest strip of sheets of a scale; whether there is one. -/
def lsOk (X : Nat → SheetD) (n : Nat) (sc : Int) : Bool := sheetsB X n && decide (0 < srtN X n sc)
def lsL (X : Nat → SheetD) (n : Nat) (sc : Int) : List Int :=
  if lsOk X n sc = true then idsF (srtY X n sc) (stF (srtY X n sc) (srtN X n sc)).2.1 (stF (srtY X n sc) (srtN X n sc)).2.2 else []
theorem lsL_eq {X : Nat → SheetD} {n : Nat} {sc : Int} {a m : Nat} (h : lsOk X n sc = true) (B : Best (srtY X n sc) (srtN X n sc) (srtN X n sc) a m) : lsL X n sc = idsF (srtY X n sc) a m := by
  unfold lsL
  rw [if_pos h]
  exact best_same (stF_best _ _).2 B
theorem lsL_no {X : Nat → SheetD} {n : Nat} {sc : Int} (h : lsOk X n sc = false) : lsL X n sc = [] := by unfold lsL; rw [h]; rfl
theorem lsL_le (X : Nat → SheetD) (n : Nat) (sc : Int) : (lsL X n sc).length ≤ n := by
  unfold lsL
  split
  · rw [idsF_length]
    have := (stF_best (srtY X n sc) (srtN X n sc)).2.st.1
    have := srtN_le X n sc
    omega
  · simp
theorem best_pos {Y : Nat → SheetD} {N a m : Nat} (B : Best Y N N a m) : decide (0 < N) = decide (0 < m) := by
  have h : 0 < N ↔ 0 < m := by
    constructor
    · intro h
      have := B.most 0 1 h ⟨by omega, fun i h1 h2 => by omega⟩
      omega
    · intro h
      have := B.st.1
      rcases B.lt with h1 | h1 <;> omega
  simp [h]

/-- A strip's sheets lie in one row, each right of the one before. -/
theorem St.place {Y : Nat → SheetD} {N c m : Nat} {row col : Int} (S : St Y N c m) (h1 : (Y c).Row = row) (h2 : (Y c).Col = col) : ∀ i, i < m → (Y (c + i)).Row = row ∧ (Y (c + i)).Col = col + (i : Int)
  | 0, _ => ⟨h1, by simpa using h2⟩
  | i + 1, hi => by
    have ih := St.place S h1 h2 i (by omega)
    have := S.2 (c + i) (by omega) (by omega)
    unfold adjS at this
    rw [show c + (i + 1) = c + i + 1 by omega]
    omega

/-- The reference's strip from sheet c on goes on: there is a sheet at the next place. -/
theorem St.next {Y : Nat → SheetD} {N c j q : Nat} {row col : Int} (G : Grid Y N) (h1 : (Y c).Row = row) (h2 : (Y c).Col = col) (S : St Y N c j) (hj : 0 < j) (hq : q < N) (h3 : (Y q).Row = row) (h4 : (Y q).Col = col + (j : Int)) : q = c + j ∧ St Y N c (j + 1) := by
  have p := S.place h1 h2 (j - 1) (by omega)
  have e : c + (j - 1) + 1 = c + j := by omega
  have hS := S.1
  have hqc : q = c + j := by
    rcases Nat.lt_trichotomy q (c + j) with hl | hl | hl
    · rcases Nat.lt_trichotomy q (c + (j - 1)) with hl2 | hl2 | hl2
      · have := G.lt q (c + (j - 1)) hl2 (by omega); omega
      · subst hl2; omega
      · omega
    · exact hl
    · have a1 := G.lt (c + (j - 1)) (c + j) (by omega) (by omega)
      have a2 := G.lt (c + j) q hl hq
      omega
  subst hqc
  refine ⟨rfl, by omega, fun i h5 h6 => ?_⟩
  by_cases h7 : i + 1 < c + j
  · exact S.2 i h5 h7
  · obtain rfl : i = c + (j - 1) := by omega
    unfold adjS
    rw [e]
    omega
theorem St.stop {Y : Nat → SheetD} {N c j : Nat} {row col : Int} (h1 : (Y c).Row = row) (h2 : (Y c).Col = col) (h : ∀ q, q < N → ¬ ((Y q).Row = row ∧ (Y q).Col = col + (j : Int))) : ∀ m, St Y N c m → m ≤ j := by
  intro m S
  rcases Nat.lt_or_ge j m with hl | hl
  · have := S.place h1 h2 j hl
    exact (h (c + j) (by have := S.1; omega) this).elim
  · exact hl
theorem Best.refMore {Y : Nat → SheetD} {N c a m m1 : Nat} (B : Best Y N c a m) (S : St Y N c m1) (M : ∀ m', St Y N c m' → m' ≤ m1) (h : m < m1) : Best Y N (c + 1) c m1 := by
  refine ⟨S, fun a' m' h1 S' => ?_, fun a' h1 h2 S' => ?_, .inr (by omega)⟩
  · by_cases e : a' = c
    · subst e; exact M m' S'
    · have := B.most a' m' (by omega) S'; omega
  · by_cases e : a' = c
    · omega
    · have := B.most a' m1 (by omega) S'; omega
theorem Best.refKeep {Y : Nat → SheetD} {N c a m m1 : Nat} (B : Best Y N c a m) (M : ∀ m', St Y N c m' → m' ≤ m1) (h : ¬ m < m1) : Best Y N (c + 1) a m := by
  refine ⟨B.st, fun a' m' h1 S' => ?_, fun a' h1 h2 S' => ?_, ?_⟩
  · by_cases e : a' = c
    · subst e; have := M m' S'; omega
    · exact B.most a' m' (by omega) S'
  · by_cases e : a' = c
    · rcases B.lt with h3 | h3 <;> omega
    · exact B.first a' (by omega) h2 S'
  · rcases B.lt with h3 | h3
    · exact .inl h3
    · exact .inr (by omega)

end Go.Proofs.Ytgdhjiiblfdlcaa
