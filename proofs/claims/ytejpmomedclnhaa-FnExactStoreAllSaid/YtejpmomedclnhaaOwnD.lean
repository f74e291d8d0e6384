/-
  Slices of drawers that a call has made: each drawer has a slice of flats of its own. No condition.
-/
import Derived.Test.YtejpmomedclnhaaInts
import Derived.Test.YtejpmomedclnhaaDrawL
namespace Go.Proofs.Ytejpmomedclnhaa
open Go.RowKit
set_option linter.unusedVariables false
set_option maxRecDepth 100000

abbrev DrP := DrawerD × Value
instance : Inhabited DrP := ⟨(default, .slice none 0 0)⟩
def cellsP (p : DrP) : List Value := p.1.cells p.2
theorem lenP (p : DrP) : (cellsP p).length = 5 := rfl
theorem flat_lenP : ∀ P : List DrP, (P.flatMap cellsP).length = P.length * 5
  | [] => rfl
  | a :: P => by rw [List.flatMap_cons, List.length_append, flat_lenP P, lenP]; simp; omega
theorem flat_getP : ∀ (P : List DrP) (i j : Nat), i < P.length → j < 5 → (P.flatMap cellsP)[i * 5 + j]? = (cellsP (P.getD i default))[j]?
  | [], i, j, hi, hj => absurd hi (by simp)
  | a :: P, 0, j, hi, hj => by
    rw [List.flatMap_cons, List.getElem?_append_left (by rw [lenP]; omega)]
    simp
  | a :: P, i + 1, j, hi, hj => by
    rw [List.flatMap_cons, List.getElem?_append_right (by rw [lenP]; omega), lenP, show (i + 1) * 5 + j - 5 = i * 5 + j by omega, flat_getP P i j (by simpa using hi) hj]
    simp
theorem flat_setP (j : Nat) (x : Value) (hj : j < 5) (q : DrP → DrP) (hq : ∀ p, (cellsP p).set j x = cellsP (q p)) : ∀ (P : List DrP) (k : Nat), k < P.length → (P.flatMap cellsP).set (k * 5 + j) x = (P.set k (q (P.getD k default))).flatMap cellsP
  | [], k, hk => absurd hk (by simp)
  | a :: P, 0, hk => by
    rw [List.flatMap_cons, List.set_append_left _ _ (by rw [lenP]; omega), Nat.zero_mul, Nat.zero_add, hq a]
    simp [List.flatMap_cons]
  | a :: P, k + 1, hk => by
    rw [List.set_cons_succ, List.flatMap_cons, List.flatMap_cons, List.set_append_right _ _ (by rw [lenP]; omega), lenP, show (k + 1) * 5 + j - 5 = k * 5 + j by omega, flat_setP j x hj q hq P k (by simpa using hk)]
    simp
theorem getP_set (P : List DrP) (p : DrP) (k i : Nat) (h : k < P.length) : (P.set k p).getD i default = if i = k then p else P.getD i default := by
  by_cases hi : k = i
  · subst hi; simp [List.getD, h]
  · simp [List.getD, List.getElem?_set, hi, Ne.symm hi]

/-- v is a slice of the call's own that holds the drawers P, each with its slice; no two of the slices share a block. -/
structure OwnP (B : Nat) (w : World) (v : Value) (P : List DrP) : Prop where
  row : w.ownsRow B 32 5 v P.length (P.flatMap cellsP)
  inn : ∀ i, i < P.length → OwnJ B w (P.getD i default).2 (P.getD i default).1.Flats
  ne : ∀ i, i < P.length → ∀ g, v.ownBlock = some g → (P.getD i default).2.ownBlock ≠ some g
  pw : ∀ i j, i < P.length → j < P.length → i ≠ j → (P.getD i default).2.ownBlock ≠ (P.getD j default).2.ownBlock

theorem OwnP.nil (B : Nat) (w : World) : OwnP B w (.slice none 0 0) [] := ⟨World.ownsRow_nil _ _ _ _, fun i hi => absurd hi (by simp), fun i hi => absurd hi (by simp), fun i j hi => absurd hi (by simp)⟩
theorem OwnP.below {B : Nat} {w w' : World} {v : Value} {P : List DrP} (h : OwnP B w v P) (hb : Below w.heap.size w w') : OwnP B w' v P := ⟨ownsRow_below h.row hb, fun i hi => (h.inn i hi).below hb, h.ne, h.pw⟩
theorem OwnP.base {B B' : Nat} {w : World} {v : Value} {P : List DrP} (h : OwnP B w v P) (hb : B' ≤ B) : OwnP B' w v P := ⟨ownsRow_base h.row hb, fun i hi => (h.inn i hi).base hb, h.ne, h.pw⟩
theorem OwnP.lt {B : Nat} {w : World} {v : Value} {P : List DrP} (h : OwnP B w v P) : ∀ k, v.ownBlock = some k → k < w.heap.size := fun k hk => (World.ownsRow.lt h.row k hk).2
theorem OwnP.ge {B : Nat} {w : World} {v : Value} {P : List DrP} (h : OwnP B w v P) : ∀ k, v.ownBlock = some k → B ≤ k := fun k hk => (World.ownsRow.lt h.row k hk).1
theorem OwnP.inn_lt {B : Nat} {w : World} {v : Value} {P : List DrP} (h : OwnP B w v P) {i : Nat} (hi : i < P.length) : ∀ k, (P.getD i default).2.ownBlock = some k → B ≤ k ∧ k < w.heap.size := fun k hk => ⟨(h.inn i hi).1.ge k hk, (h.inn i hi).1.lt k hk⟩
theorem ownsRow_only {Q : Nat → Prop} {B size n : Nat} {e : TypeId} {w w' : World} {v : Value} {xs : List Value} (h : w.ownsRow B e size v n xs) (k : Only Q w w') (hp : ∀ i, v.ownBlock = some i → ¬ Q i) : w'.ownsRow B e size v n xs := by
  refine ⟨h.1, ?_⟩
  rcases h.2 with hn | ⟨g, cap, cur, rfl, hbg, hg, rest⟩
  · exact .inl hn
  · exact .inr ⟨g, cap, cur, rfl, hbg, (k.block g (Array.getElem?_eq_some_iff.1 hg).1 (hp g rfl)).trans hg, rest⟩
theorem OwnP.only {Q : Nat → Prop} {B : Nat} {w w' : World} {v : Value} {P : List DrP} (h : OwnP B w v P) (k : Only Q w w') (hp : ∀ i, B ≤ i → i < w.heap.size → ¬ Q i) : OwnP B w' v P :=
  ⟨ownsRow_only h.row k fun i hi => hp i (h.ge i hi) (h.lt i hi), fun i hi => (h.inn i hi).only k fun j hj => hp j (h.inn_lt hi j hj).1 (h.inn_lt hi j hj).2, h.ne, h.pw⟩
theorem OwnP.only' {Q : Nat → Prop} {B : Nat} {w w' : World} {v : Value} {P : List DrP} (h : OwnP B w v P) (k : Only Q w w') (hv : ∀ i, v.ownBlock = some i → ¬ Q i) (hp : ∀ j, j < P.length → ∀ i, (P.getD j default).2.ownBlock = some i → ¬ Q i) : OwnP B w' v P :=
  ⟨ownsRow_only h.row k hv, fun i hi => (h.inn i hi).only k fun j hj => hp i hi j hj, h.ne, h.pw⟩
theorem OwnP.form {B : Nat} {w : World} {v : Value} {P : List DrP} (h : OwnP B w v P) :
    (v = .slice none 0 0 ∧ P = []) ∨ ∃ g cap, v = .slice (some ⟨g, 0, none⟩) P.length cap ∧ B ≤ g ∧ g < w.heap.size ∧ P.length ≤ cap ∧ cap ≤ maxLen ∧ Drs w g 0 P.length (fun i => (P.getD i default).1) (fun i => (P.getD i default).2) ∧ Blk 32 g (cap * 5) w := by
  rcases h.row.2 with ⟨rfl, h0⟩ | ⟨g, cap, cur, rfl, hb, hg, hnc, hcm, hcs, htk⟩
  · exact .inl ⟨rfl, List.eq_nil_of_length_eq_zero h0⟩
  · refine .inr ⟨g, cap, rfl, hb, (Array.getElem?_eq_some_iff.1 hg).1, hnc, hcm, ⟨⟨(Array.getElem?_eq_some_iff.1 hg).1, fun i hi j hj => ?_⟩, fun i hi => (h.inn i hi).has⟩, cur, hg, hcs⟩
    have hm := Nat.mul_le_mul_right 5 (show i + 1 ≤ P.length from hi)
    rw [show 0 + i * 5 + j = i * 5 + j by omega, World.ownsRow.cellAt h.row (i * 5 + j) (by omega)]
    exact flat_getP P i j hi hj
theorem OwnP.empty (w : World) : OwnP w.heap.size (w.alloc (.cells #[] 32)) (.slice (some ⟨w.heap.size, 0, none⟩) 0 0) [] :=
  ⟨World.ownsRow_made w #[] 0 (Nat.le_refl _) (by simp [maxLen]) rfl, fun i hi => absurd hi (by simp), fun i hi => absurd hi (by simp), fun i j hi => absurd hi (by simp)⟩

/-- One drawer more. -/
theorem OwnP.snoc {B : Nat} {w w' : World} {v v' : Value} {P : List DrP} {p : DrP} (h : OwnP B w v P) (hrow : w'.ownsRow B 32 5 v' (P.length + 1) (P.flatMap cellsP ++ cellsP p)) (hg : w.grownBy w' v.ownBlock) (hv : v'.ownBlock = v.ownBlock ∨ ∃ g, v'.ownBlock = some g ∧ w.heap.size ≤ g)
    (hp : OwnJ B w p.2 p.1.Flats) (hpv : ∀ g, v.ownBlock = some g → p.2.ownBlock ≠ some g) (hpi : ∀ i, i < P.length → (P.getD i default).2.ownBlock ≠ p.2.ownBlock) : OwnP B w' v' (P ++ [p]) := by
  have hO : Only (fun i => v.ownBlock = some i) w w' := Only.of_grown' hg fun k hk => hk
  have hget : ∀ i, i < P.length + 1 → (P ++ [p]).getD i default = if i < P.length then P.getD i default else p := fun i hi => by
    by_cases h1 : i < P.length
    · rw [if_pos h1]; simp [List.getD, List.getElem?_append_left h1]
    · rw [if_neg h1]; simp [List.getD, List.getElem?_append_right (Nat.le_of_not_lt h1), show i - P.length = 0 by omega]
  refine ⟨by simpa using hrow, fun i hi => ?_, fun i hi g hgv => ?_, fun i j hi hj hij => ?_⟩
  · rw [List.length_append, List.length_singleton] at hi
    rw [hget i hi]
    split
    · next h1 => exact (h.inn i h1).only hO fun k hk e => h.ne i h1 k e hk
    · exact hp.only hO fun k hk e => hpv k e hk
  · rw [List.length_append, List.length_singleton] at hi
    rw [hget i hi]
    have key : ∀ q : Value, (∀ g, v.ownBlock = some g → q.ownBlock ≠ some g) → (∀ k, q.ownBlock = some k → k < w.heap.size) → q.ownBlock ≠ some g := fun q h1 h2 e => by
      rcases hv with hv | ⟨g', h3, h4⟩
      · exact h1 g (hv ▸ hgv) e
      · rw [hgv] at h3; cases h3; have := h2 g e; omega
    split
    · next h1 => exact key _ (fun k hk => h.ne i h1 k hk) fun k hk => (h.inn_lt h1 k hk).2
    · exact key _ hpv fun k hk => hp.1.lt k hk
  · rw [List.length_append, List.length_singleton] at hi hj
    rw [hget i hi, hget j hj]
    split
    · next h1 =>
      split
      · next h2 => exact h.pw i j h1 h2 hij
      · exact hpi i h1
    · next h1 =>
      split
      · next h2 => exact fun e => hpi j h2 e.symm
      · omega
/-- The slice of one drawer replaced. -/
theorem OwnP.swap {B g n cap k : Nat} {w w1 : World} {P : List DrP} {u : Value} {F : List Int} (h : OwnP B w (.slice (some ⟨g, 0, none⟩) n cap) P) (hn : P.length = n) (hk : k < n) (hO : Only (fun i => (P.getD k default).2.ownBlock = some i) w w1) (hu : OwnJ B w1 u F) (hub : u.ownBlock = (P.getD k default).2.ownBlock ∨ ∃ q, u.ownBlock = some q ∧ w.heap.size ≤ q) :
    OwnP B (w1.setCell ⟨g, k * 5 + 4, none⟩ u) (.slice (some ⟨g, 0, none⟩) n cap) (P.set k ({ (P.getD k default).1 with Flats := F }, u)) := by
  have hk' : k < P.length := by omega
  have hgl : g < w.heap.size := h.lt g rfl
  have hug : u.ownBlock ≠ some g := fun e => by
    rcases hub with h1 | ⟨q, h1, h2⟩
    · exact h.ne k hk' g rfl (h1 ▸ e)
    · rw [e] at h1; cases h1; omega
  have hrow1 : w1.ownsRow B 32 5 (.slice (some ⟨g, 0, none⟩) n cap) P.length (P.flatMap cellsP) := ownsRow_only h.row hO fun i hi e => h.ne k hk' i hi e
  have hG : w1.grownBy (w1.setCell ⟨g, k * 5 + 4, none⟩ u) (some g) := grownBy_set _ _ _ _
  have hO2 : Only (fun i => i = g) w1 (w1.setCell ⟨g, k * 5 + 4, none⟩ u) := Only.of_grown hG rfl
  have hgt : ∀ i, i ≠ k → (P.set k ({ (P.getD k default).1 with Flats := F }, u)).getD i default = P.getD i default := fun i hi => by rw [getP_set _ _ _ _ hk', if_neg hi]
  have hgk : (P.set k ({ (P.getD k default).1 with Flats := F }, u)).getD k default = ({ (P.getD k default).1 with Flats := F }, u) := by rw [getP_set _ _ _ _ hk', if_pos rfl]
  refine ⟨?_, fun i hi => ?_, fun i hi q hq => ?_, fun i j hi hj hij => ?_⟩
  · rw [List.length_set, ← flat_setP 4 u (by omega) (fun p => ({ p.1 with Flats := F }, u)) (fun p => rfl) P k hk', hn]
    rw [hn] at hrow1
    exact (World.ownsRow.stored hrow1 _ _).1
  · rw [List.length_set] at hi
    by_cases hik : i = k
    · subst hik
      rw [hgk]
      exact hu.only hO2 fun q hq e => hug (by rw [hq, e])
    · rw [hgt i hik]
      exact ((h.inn i hi).only hO fun q hq e => h.pw i k hi hk' hik (hq.trans e.symm)).only hO2 fun q hq e => h.ne i hi g rfl (by rw [hq, e])
  · rw [List.length_set] at hi
    cases hq
    by_cases hik : i = k
    · subst hik; rw [hgk]; exact hug
    · rw [hgt i hik]; exact h.ne i hi g rfl
  · rw [List.length_set] at hi hj
    have hother : ∀ i, i < P.length → i ≠ k → (P.getD i default).2.ownBlock ≠ u.ownBlock := fun i hi hik e => by
      rcases hub with h1 | ⟨q, h1, h2⟩
      · exact h.pw i k hi hk' hik (e.trans h1)
      · have := (h.inn_lt hi q (e.trans h1)).2; omega
    by_cases hik : i = k
    · subst hik
      rw [hgk, hgt j (Ne.symm hij)]
      exact fun e => hother j hj (Ne.symm hij) e.symm
    · rw [hgt i hik]
      by_cases hjk : j = k
      · subst hjk; rw [hgk]; exact hother i hi hik
      · rw [hgt j hjk]; exact h.pw i j hi hj hij

def lstD (X : Nat → DrawerD) (n : Nat) : List DrawerD := (List.range n).map X
theorem lstD_len (X : Nat → DrawerD) (n : Nat) : (lstD X n).length = n := by simp [lstD]
theorem lstD_succ (X : Nat → DrawerD) (n : Nat) : lstD X (n + 1) = lstD X n ++ [X n] := by simp [lstD, List.range_succ]
theorem lstD_congr {X Y : Nat → DrawerD} {n : Nat} (h : ∀ i, i < n → X i = Y i) : lstD X n = lstD Y n := List.map_congr_left fun i hi => h i (by simpa using hi)
theorem fst_at {P : List DrP} {X : Nat → DrawerD} {n i : Nat} (h : P.map Prod.fst = lstD X n) (hi : i < n) : (P.getD i default).1 = X i := by
  have hl : P.length = n := by have := congrArg List.length h; simpa [lstD] using this
  have h1 : (P.map Prod.fst)[i]? = some (X i) := by rw [h]; simp [lstD, hi]
  rw [List.getElem?_map, List.getElem?_eq_getElem (by omega)] at h1
  simp at h1
  simp [List.getD, show i < P.length by omega, h1]
/-- The call returns a slice of its own that holds the drawers X 0 .. X (n - 1). -/
def RetD (X : Nat → DrawerD) (n : Nat) (w : World) (e : Ending) (w' : World) : Prop := ∃ v P, e = .returned v ∧ OwnP w.heap.size w' v P ∧ P.map Prod.fst = lstD X n ∧ Below w.heap.size w w'
/-- The same beside a bool. -/
def RetDB (X : Nat → DrawerD) (n : Nat) (b : Bool) (w : World) (e : Ending) (w' : World) : Prop := ∃ v P, e = .returned (.tuple #[v, .bool b]) ∧ OwnP w.heap.size w' v P ∧ P.map Prod.fst = lstD X n ∧ Below w.heap.size w w'
end Go.Proofs.Ytejpmomedclnhaa
