/-
  Drawers of flats: which are valid and right, where a flat lies, how heavy a drawer is. No program is spoken of. No condition.
-/
import Derived.Test.YtejpmomedclnhaaFlats
namespace Go.Proofs.Ytejpmomedclnhaa
open Go.RowKit
set_option linter.unusedVariables false

/-- A drawer, and the ids of the flats in it. -/
structure DrawerD where
  Id : Int
  Wide : Int
  High : Int
  Holds : Int
  Flats : List Int
instance : Inhabited DrawerD := ⟨⟨0, 0, 0, 0, []⟩⟩

theorem findFrom_eq {p : Nat → Bool} : ∀ (m k j : Nat), k ≤ j → j < k + m → p j = true → (∀ i, k ≤ i → i < j → p i = false) → findFrom p k m = (j : Int)
  | 0, k, j, h1, h2, _, _ => by omega
  | m + 1, k, j, h1, h2, h3, h4 => by
    by_cases hkj : k = j
    · subst hkj; simp [findFrom, h3]
    · have hk : p k = false := h4 k (Nat.le_refl _) (by omega)
      have : findFrom p k (m + 1) = findFrom p (k + 1) m := by simp [findFrom, hk]
      rw [this]
      exact findFrom_eq m (k + 1) j (by omega) (by omega) h3 fun i hi hj => h4 i (by omega) hj
theorem findI_eq {p : Nat → Bool} {n j : Nat} (h : j < n) (hp : p j = true) (hno : ∀ i, i < j → p i = false) : findI p n = (j : Int) := findFrom_eq n 0 j (Nat.zero_le _) (by omega) hp fun i _ hi => hno i hi
theorem findI_no {p : Nat → Bool} {n : Nat} (h : ∀ i, i < n → p i = false) : findI p n = -1 := by
  rcases findI_cases p n with h1 | ⟨j, h1, _, h3⟩
  · exact h1
  · rw [h j h1] at h3; cases h3
theorem findI_least {p : Nat → Bool} : ∀ {n j : Nat}, findI p n = (j : Int) → ∀ i, i < j → p i = false := by
  intro n j h i hi
  have key : ∀ (m k : Nat) (j : Nat), findFrom p k m = (j : Int) → ∀ i, k ≤ i → i < j → p i = false := by
    intro m
    induction m with
    | zero => intro k j h i h1 h2; simp [findFrom] at h
    | succ m ih =>
      intro k j h i h1 h2
      by_cases hp : p k = true
      · simp [findFrom, hp] at h; omega
      · have e : findFrom p k (m + 1) = findFrom p (k + 1) m := by simp [findFrom, hp]
        by_cases hik : i = k
        · rw [hik]; simpa using hp
        · exact ih (k + 1) j (e.symm.trans h) i (by omega) h2
  exact key n 0 j h i (Nat.zero_le _) hi
/-- A place at which p holds is the first one just where none lies ahead of it. -/
theorem findI_first {p : Nat → Bool} {n k : Nat} (hk : k < n) (hp : p k = true) : (findI p k == -1) = (findI p n == (k : Int)) := by
  rcases findI_cases p k with h | ⟨j, h1, h2, h3⟩
  · rw [h, findI_eq hk hp fun i hi => findI_none h i hi]; simp
  · have h4 := findI_eq (n := n) (j := j) (by omega) h3 fun i hi => findI_least h2 i hi
    rw [h2, h4]
    have e1 : ((j : Int) == -1) = false := by simp
    have e2 : ((j : Int) == (k : Int)) = false := by simp; omega
    rw [e1, e2]
theorem allI_congr {p q : Nat → Bool} {n : Nat} (h : ∀ i, i < n → p i = q i) : allI p n = allI q n := by
  have : ∀ {p q : Nat → Bool}, (∀ i, i < n → p i = q i) → allI p n = true → allI q n = true := fun h k => allI_true.2 fun i hi => (h i hi) ▸ allI_true.1 k i hi
  cases hp : allI p n with
  | true => exact (this h hp).symm
  | false =>
    cases hq : allI q n with
    | false => rfl
    | true => rw [this (fun i hi => (h i hi).symm) hq] at hp; cases hp
theorem allI_bad {p : Nat → Bool} {n : Nat} (h : allI p n = false) : ∃ k, k < n ∧ p k = false := by
  have h1 : ¬ ∀ i, i < n → p i = true := fun hh => by rw [allI_true.2 hh] at h; cases h
  exact Classical.byContradiction fun hno => h1 fun i hi => by
    cases hp : p i with
    | true => rfl
    | false => exact absurd ⟨i, hi, hp⟩ hno

/-- Number k of a rising list of ids is in its place. -/
def risOk (L : List Int) (k : Nat) : Bool := inB (L.getD k 0) 1 999 && (k == 0 || decide (L.getD (k - 1) 0 < L.getD k 0))
def risB (L : List Int) : Bool := allI (risOk L) L.length
/-- A drawer is valid. -/
def drawerB (d : DrawerD) : Bool := inB d.Id 1 99 && inB d.Wide 100 2000 && inB d.High 100 2000 && inB d.Holds 100 50000 && decide (d.Flats.length ≤ 12) && risB d.Flats
/-- A flat fits into a drawer. -/
def fitsB (f : FlatD) (d : DrawerD) : Bool := (decide (f.Wide ≤ d.Wide) && decide (f.High ≤ d.High)) || (decide (f.High ≤ d.Wide) && decide (f.Wide ≤ d.High))
/-- Where the flat with an id lies; or -1. -/
def fAt (Y : Nat → FlatD) (m : Nat) (id : Int) : Int := findI (fun i => (Y i).Id == id) m
def gOf (Y : Nat → FlatD) (m : Nat) (id : Int) : Int := (Y (fAt Y m id).toNat).Grams
/-- What the first k flats of a list weigh. -/
def sumG (Y : Nat → FlatD) (m : Nat) (L : List Int) : Nat → Int
  | 0 => 0
  | k + 1 => IntKind.i64.wrap (sumG Y m L k + gOf Y m (L.getD k 0))
/-- Flat k of a drawer is there and fits. -/
def okG (Y : Nat → FlatD) (m : Nat) (d : DrawerD) (k : Nat) : Bool := decide (0 ≤ fAt Y m (d.Flats.getD k 0)) && fitsB (Y (fAt Y m (d.Flats.getD k 0)).toNat) d
/-- The grams of a drawer, as the reference has them. -/
def gramsR (Y : Nat → FlatD) (m : Nat) (d : DrawerD) : Int := if allI (okG Y m d) d.Flats.length = true then sumG Y m d.Flats d.Flats.length else -1
def rightB (Y : Nat → FlatD) (m : Nat) (d : DrawerD) : Bool := allI (okG Y m d) d.Flats.length && decide (sumG Y m d.Flats d.Flats.length ≤ d.Holds)
/-- The first drawer with a flat; or -1. -/
def whereI (X : Nat → DrawerD) (n : Nat) (flat : Int) : Int := findI (fun i => (X i).Flats.contains flat) n
/-- Drawer k is valid in its place: as the reference has it. -/
def refOk (Y : Nat → FlatD) (m : Nat) (X : Nat → DrawerD) (k : Nat) : Bool := drawerB (X k) && (k == 0 || decide ((X (k - 1)).Id < (X k).Id)) && inB (gramsR Y m (X k)) 0 (X k).Holds && allI (fun j => whereI X k ((X k).Flats.getD j 0) == -1) (X k).Flats.length
/-- As the program has it. -/
def impOk (Y : Nat → FlatD) (m : Nat) (X : Nat → DrawerD) (n k : Nat) : Bool := drawerB (X k) && rightB Y m (X k) && (k == 0 || decide ((X (k - 1)).Id < (X k).Id)) && allI (fun j => whereI X n ((X k).Flats.getD j 0) == (k : Int)) (X k).Flats.length
/-- Flats and drawers are valid, and the drawers are right. -/
def goodB (Y : Nat → FlatD) (m : Nat) (X : Nat → DrawerD) (n : Nat) : Bool := flatsB Y m && decide (n ≤ 8) && allI (refOk Y m X) n

theorem flatB_grams {f : FlatD} (h : flatB f = true) : 1 ≤ f.Grams ∧ f.Grams ≤ 5000 := by simp [flatB, inB] at h; omega
theorem flatsB_flat {Y : Nat → FlatD} {m k : Nat} (h : flatsB Y m = true) (hk : k < m) : flatB (Y k) = true := by
  have := flatsB_at h hk
  simp [flatOk] at this
  exact this.1
theorem fAt_cases (Y : Nat → FlatD) (m : Nat) (id : Int) : fAt Y m id = -1 ∨ ∃ j, j < m ∧ fAt Y m id = (j : Int) ∧ (Y j).Id = id := by
  rcases findI_cases (fun i => (Y i).Id == id) m with h | ⟨j, h1, h2, h3⟩
  · exact .inl h
  · exact .inr ⟨j, h1, h2, by simpa using h3⟩
theorem okG_at {Y : Nat → FlatD} {m : Nat} {d : DrawerD} {k : Nat} (h : okG Y m d k = true) : ∃ j, j < m ∧ fAt Y m (d.Flats.getD k 0) = (j : Int) ∧ (Y j).Id = d.Flats.getD k 0 ∧ fitsB (Y j) d = true := by
  simp [okG] at h
  rcases fAt_cases Y m (d.Flats.getD k 0) with h1 | ⟨j, h1, h2, h3⟩
  · simp [List.getD] at h1 h; omega
  · refine ⟨j, h1, h2, h3, ?_⟩
    have := h.2
    simp [List.getD] at h2
    rw [h2] at this
    simpa using this
theorem sumG_bd {Y : Nat → FlatD} {m : Nat} {d : DrawerD} (hY : flatsB Y m = true) : ∀ k, k ≤ 1000 → (∀ i, i < k → okG Y m d i = true) → 0 ≤ sumG Y m d.Flats k ∧ sumG Y m d.Flats k ≤ 5000 * (k : Int)
  | 0, _, _ => by simp [sumG]
  | k + 1, hk, h => by
    obtain ⟨h1, h2⟩ := sumG_bd hY k (by omega) fun i hi => h i (by omega)
    obtain ⟨j, hj, e, _, _⟩ := okG_at (h k (by omega))
    obtain ⟨g1, g2⟩ := flatB_grams (flatsB_flat hY hj)
    have hg : gOf Y m (d.Flats.getD k 0) = (Y j).Grams := by unfold gOf; rw [e]; simp
    have hw : sumG Y m d.Flats (k + 1) = sumG Y m d.Flats k + (Y j).Grams := by
      show IntKind.i64.wrap _ = _
      rw [hg]
      exact IntWalk.i64_in _ (by omega)
    rw [hw]
    have : ((k + 1 : Nat) : Int) = (k : Int) + 1 := by simp
    omega
theorem right_same {Y : Nat → FlatD} {m : Nat} {d : DrawerD} (hY : flatsB Y m = true) (hd : drawerB d = true) : inB (gramsR Y m d) 0 d.Holds = rightB Y m d := by
  simp [drawerB] at hd
  unfold gramsR rightB
  cases h : allI (okG Y m d) d.Flats.length with
  | true =>
    obtain ⟨h1, h2⟩ := sumG_bd hY d.Flats.length (by omega) (allI_true.1 h)
    rw [if_pos rfl]
    simp [inB, h1]
  | false => simp [inB]
theorem ok_same {Y : Nat → FlatD} {m : Nat} {X : Nat → DrawerD} {n k : Nat} (hY : flatsB Y m = true) (hk : k < n) : refOk Y m X k = impOk Y m X n k := by
  unfold refOk impOk
  cases hd : drawerB (X k) with
  | false => simp
  | true =>
    rw [right_same hY hd]
    have hw : allI (fun j => whereI X k ((X k).Flats.getD j 0) == -1) (X k).Flats.length = allI (fun j => whereI X n ((X k).Flats.getD j 0) == (k : Int)) (X k).Flats.length :=
      allI_congr fun i hi => findI_first (p := fun i_1 => (X i_1).Flats.contains ((X k).Flats.getD i 0)) hk (by simp [List.getD, hi])
    rw [hw]
    cases rightB Y m (X k) <;> cases (k == 0 || decide ((X (k - 1)).Id < (X k).Id)) <;> simp
theorem good_same {Y : Nat → FlatD} {m : Nat} {X : Nat → DrawerD} {n : Nat} (hY : flatsB Y m = true) : allI (refOk Y m X) n = allI (impOk Y m X n) n := allI_congr fun i hi => ok_same hY hi

theorem goodB_flats {Y : Nat → FlatD} {m : Nat} {X : Nat → DrawerD} {n : Nat} (h : goodB Y m X n = true) : flatsB Y m = true := by simp [goodB] at h; exact h.1.1
theorem goodB_le {Y : Nat → FlatD} {m : Nat} {X : Nat → DrawerD} {n : Nat} (h : goodB Y m X n = true) : n ≤ 8 := by simp [goodB] at h; exact h.1.2
theorem goodB_at {Y : Nat → FlatD} {m : Nat} {X : Nat → DrawerD} {n k : Nat} (h : goodB Y m X n = true) (hk : k < n) : refOk Y m X k = true := by simp [goodB] at h; exact allI_true.1 h.2 k hk
theorem goodB_drawer {Y : Nat → FlatD} {m : Nat} {X : Nat → DrawerD} {n k : Nat} (h : goodB Y m X n = true) (hk : k < n) : drawerB (X k) = true := by
  have := goodB_at h hk
  simp [refOk] at this
  exact this.1.1.1
theorem goodB_right {Y : Nat → FlatD} {m : Nat} {X : Nat → DrawerD} {n k : Nat} (h : goodB Y m X n = true) (hk : k < n) : rightB Y m (X k) = true := by
  have h1 := goodB_at h hk
  rw [ok_same (goodB_flats h) hk] at h1
  simp [impOk] at h1
  exact h1.1.1.2
theorem goodB_okG {Y : Nat → FlatD} {m : Nat} {X : Nat → DrawerD} {n k : Nat} (h : goodB Y m X n = true) (hk : k < n) : ∀ i, i < (X k).Flats.length → okG Y m (X k) i = true := by
  have h1 := goodB_right h hk
  simp [rightB] at h1
  exact allI_true.1 h1.1
theorem goodB_grams {Y : Nat → FlatD} {m : Nat} {X : Nat → DrawerD} {n k : Nat} (h : goodB Y m X n = true) (hk : k < n) : gramsR Y m (X k) = sumG Y m (X k).Flats (X k).Flats.length := by
  unfold gramsR
  rw [if_pos (allI_true.2 (goodB_okG h hk))]
theorem goodB_long {Y : Nat → FlatD} {m : Nat} {X : Nat → DrawerD} {n : Nat} (h : ¬ n ≤ 8) : goodB Y m X n = false := by simp [goodB, h]
theorem goodB_noflats {Y : Nat → FlatD} {m : Nat} {X : Nat → DrawerD} {n : Nat} (h : flatsB Y m = false) : goodB Y m X n = false := by simp [goodB, h]
theorem goodB_bad {Y : Nat → FlatD} {m : Nat} {X : Nat → DrawerD} {n k : Nat} (hk : k < n) (h : refOk Y m X k = false) : goodB Y m X n = false := by simp [goodB, allI_false hk h]
theorem goodB_end {Y : Nat → FlatD} {m : Nat} {X : Nat → DrawerD} {n : Nat} (h8 : n ≤ 8) (h : ∀ i, i < n → refOk Y m X i = true) : goodB Y m X n = flatsB Y m := by simp [goodB, h8, allI_true.2 h]
theorem drawerB_id {d : DrawerD} (h : drawerB d = true) : 1 ≤ d.Id ∧ d.Id ≤ 99 := by simp [drawerB, inB] at h; omega
theorem drawerB_wide {d : DrawerD} (h : drawerB d = true) : 100 ≤ d.Wide ∧ d.Wide ≤ 2000 := by simp [drawerB, inB] at h; omega
theorem drawerB_high {d : DrawerD} (h : drawerB d = true) : 100 ≤ d.High ∧ d.High ≤ 2000 := by simp [drawerB, inB] at h; omega
theorem drawerB_len {d : DrawerD} (h : drawerB d = true) : d.Flats.length ≤ 12 := by simp [drawerB] at h; omega
theorem goodB_step {Y : Nat → FlatD} {m : Nat} {X : Nat → DrawerD} {n i : Nat} (h : goodB Y m X n = true) (hi : i + 1 < n) : (X i).Id < (X (i + 1)).Id := by
  have := goodB_at h hi
  simp [refOk] at this
  exact this.1.1.2
theorem goodB_lt {Y : Nat → FlatD} {m : Nat} {X : Nat → DrawerD} {n : Nat} (h : goodB Y m X n = true) : ∀ {i j : Nat}, i < j → j < n → (X i).Id < (X j).Id := by
  intro i j
  induction j with
  | zero => intro h1; omega
  | succ j ih =>
    intro h1 h2
    have s := goodB_step h h2
    by_cases e : i = j
    · subst e; exact s
    · have := ih (by omega) (by omega); omega
theorem goodB_inj {Y : Nat → FlatD} {m : Nat} {X : Nat → DrawerD} {n i j : Nat} (h : goodB Y m X n = true) (hi : i < n) (hj : j < n) (he : (X i).Id = (X j).Id) : i = j := by
  rcases Nat.lt_trichotomy i j with h1 | h1 | h1
  · have := goodB_lt h h1 hj; omega
  · exact h1
  · have := goodB_lt h h1 hi; omega
end Go.Proofs.Ytejpmomedclnhaa
