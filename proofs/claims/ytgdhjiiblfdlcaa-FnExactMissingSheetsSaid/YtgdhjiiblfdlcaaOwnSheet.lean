/-
  Slices of Sheet that a call has made: read, compared, marked, held. No condition.
-/
import Derived.Test.YtgdhjiiblfdlcaaOwn
import Derived.Test.YtgdhjiiblfdlcaaListSheet
namespace Go.Proofs.Ytgdhjiiblfdlcaa
open Go.RowKit
set_option linter.unusedVariables false
set_option maxRecDepth 100000

theorem cells_len_Sheet (s : SheetD) : s.cells.length = 5 := rfl
theorem flat_len_Sheet : ∀ L : List SheetD, (L.flatMap SheetD.cells).length = L.length * 5
  | [] => rfl
  | a :: L => by simp [List.flatMap_cons, cells_len_Sheet, flat_len_Sheet L]; omega
theorem flat_get_Sheet : ∀ (L : List SheetD) (i j : Nat), i < L.length → j < 5 → (L.flatMap SheetD.cells)[i * 5 + j]? = ((L.getD i default).cells)[j]?
  | [], i, j, hi, hj => absurd hi (by simp)
  | a :: L, 0, j, hi, hj => by
    rw [List.flatMap_cons, List.getElem?_append_left (by simp [cells_len_Sheet]; omega)]
    simp
  | a :: L, i + 1, j, hi, hj => by
    rw [List.flatMap_cons, List.getElem?_append_right (by simp [cells_len_Sheet]; omega), cells_len_Sheet, show (i + 1) * 5 + j - 5 = i * 5 + j by omega, flat_get_Sheet L i j (by simpa using hi) hj]
    simp
theorem flat_one_Sheet (L : List SheetD) : ∀ u ∈ L.flatMap SheetD.cells, u.oneCell' = true := by
  intro u hu
  rw [List.mem_flatMap] at hu
  obtain ⟨a, _, ha⟩ := hu
  simp [SheetD.cells] at ha
  rcases ha with rfl | rfl | rfl | rfl | rfl <;> rfl

/-- v is a slice of the call's own that holds the elements L. -/
def OwnSheet (B : Nat) (w : World) (v : Value) (L : List SheetD) : Prop := w.ownsRow B 55 5 v L.length (L.flatMap SheetD.cells)

theorem OwnSheet.below {B : Nat} {w w' : World} {v : Value} {L : List SheetD} (h : OwnSheet B w v L) (hb : Below w.heap.size w w') : OwnSheet B w' v L := ownsRow_below h hb
theorem OwnSheet.base {B B' : Nat} {w : World} {v : Value} {L : List SheetD} (h : OwnSheet B w v L) (hb : B' ≤ B) : OwnSheet B' w v L := ownsRow_base h hb
theorem OwnSheet.nil (B : Nat) (w : World) : OwnSheet B w (.slice none 0 0) [] := World.ownsRow_nil _ _ _ _
theorem OwnSheet.kept {B : Nat} {w w' : World} {v : Value} {L : List SheetD} {row : Option Nat} (h : OwnSheet B w v L) (hg : w.grownBy w' row) (hne : v.ownBlock = none ∨ v.ownBlock ≠ row) : OwnSheet B w' v L := World.ownsRow.kept h hg hne
theorem OwnSheet.form {B : Nat} {w : World} {v : Value} {L : List SheetD} (h : OwnSheet B w v L) :
    (v = .slice none 0 0 ∧ L = []) ∨ ∃ g cap, v = .slice (some ⟨g, 0, none⟩) L.length cap ∧ B ≤ g ∧ g < w.heap.size ∧ L.length ≤ cap ∧ cap ≤ maxLen ∧ Rw w g 0 5 L.length (fun i => (L.getD i default).cells) ∧ Blk 55 g (cap * 5) w := by
  rcases h.2 with ⟨rfl, h0⟩ | ⟨g, cap, cur, rfl, hb, hg, hnc, hcm, hcs, htk⟩
  · exact .inl ⟨rfl, List.eq_nil_of_length_eq_zero h0⟩
  · refine .inr ⟨g, cap, rfl, hb, (Array.getElem?_eq_some_iff.1 hg).1, hnc, hcm, ⟨(Array.getElem?_eq_some_iff.1 hg).1, fun i hi j hj => ?_⟩, cur, hg, hcs⟩
    have hm := Nat.mul_le_mul_right 5 (show i + 1 ≤ L.length from hi)
    rw [show 0 + i * 5 + j = i * 5 + j by omega, World.ownsRow.cellAt h (i * 5 + j) (by omega)]
    exact flat_get_Sheet L i j hi hj
theorem OwnSheet.slice {B : Nat} {w : World} {v : Value} {L : List SheetD} (h : OwnSheet B w v L) : ∃ ao cap, v = .slice ao L.length cap ∧ L.length ≤ cap := by
  rcases h.form with ⟨rfl, rfl⟩ | ⟨g, cap, rfl, _, _, hc, _⟩
  · exact ⟨none, 0, rfl, Nat.le_refl _⟩
  · exact ⟨_, cap, rfl, hc⟩
theorem OwnSheet.ne_hi {B H : Nat} {w : World} {v : Value} {L : List SheetD} (h : OwnSheet B w v L) (hH : H < B) : v.ownBlock = none ∨ v.ownBlock ≠ some H := by
  rcases h.form with ⟨rfl, _⟩ | ⟨g, cap, rfl, hb, _⟩
  · exact .inl rfl
  · refine .inr ?_
    simp [Value.ownBlock]; omega
theorem OwnSheet.ne_lo {B H : Nat} {w : World} {v : Value} {L : List SheetD} (h : OwnSheet B w v L) (hH : w.heap.size ≤ H) : v.ownBlock = none ∨ v.ownBlock ≠ some H := by
  rcases h.form with ⟨rfl, _⟩ | ⟨g, cap, rfl, hb, hl, _⟩
  · exact .inl rfl
  · refine .inr ?_
    simp [Value.ownBlock]; omega
theorem OwnSheet.lt {B : Nat} {w : World} {v : Value} {L : List SheetD} (h : OwnSheet B w v L) : ∀ k, v.ownBlock = some k → k < w.heap.size := fun k hk => (World.ownsRow.lt h k hk).2
theorem OwnSheet.ge {B : Nat} {w : World} {v : Value} {L : List SheetD} (h : OwnSheet B w v L) : ∀ k, v.ownBlock = some k → B ≤ k := fun k hk => (World.ownsRow.lt h k hk).1
/-- A slice made empty. -/
theorem OwnSheet.empty (w : World) : OwnSheet w.heap.size (w.alloc (.cells #[] 55)) (.slice (some ⟨w.heap.size, 0, none⟩) 0 0) [] :=
  World.ownsRow_made w #[] 0 (Nat.le_refl _) (by simp [maxLen]) rfl

set_option maxHeartbeats 1000000 in
theorem eqSheetS_own (v1 v2 : Value) (L : List SheetD) (B1 B2 : Nat) (w : World) (h1 : OwnSheet B1 w v1 L) (h2 : OwnSheet B2 w v2 L) (hL : L.length ≤ 1048576) :
    Calls Try.prog 11 #[v1, v2] w fun e w' => e = .returned (.bool true) ∧ Below w.heap.size w w' := by
  by_cases hn : L = []
  · obtain ⟨a1, c1, rfl, _⟩ := h1.slice
    obtain ⟨a2, c2, rfl, _⟩ := h2.slice
    clear h1 h2
    subst hn
    go_enter Try.func11, Try.ntmps11
    go_wp2
    refine wp_loop_rounds 1 ?_
    rw [rounds_succ]
    go_wp2
    go_ret
    exact ⟨rfl, Below.refl _ _⟩
  · rcases h1.form with ⟨_, h0⟩ | ⟨g1, c1, rfl, _, l1, hc1, hm1, H1, _⟩
    · exact absurd h0 hn
    rcases h2.form with ⟨_, h0⟩ | ⟨g2, c2, rfl, _, l2, hc2, hm2, H2, _⟩
    · exact absurd h0 hn
    exact eqSheetS_same g1 g2 0 0 c1 c2 L.length (fun i => L.getD i default) w H1 H2 hL hc1 hc2

end Go.Proofs.Ytgdhjiiblfdlcaa
