/-
  How the program compares two sheets by their places; what slices.SortFunc makes of a slice of the call's own. No condition.
-/
import Derived.Test.YtgdhjiiblfdlcaaShelf5
import Derived.Test.YtgdhjiiblfdlcaaOwnSheet
import Derived.Test.YtgdhjiiblfdlcaaSclP
import Derived.Deep.RegionHeld3
namespace Go.Proofs.Ytgdhjiiblfdlcaa
open Go.RowKit
set_option linter.unusedVariables false
set_option maxRecDepth 100000

/-- The first of two numbers that is not 0. -/
def orI (a b : Int) : Int := if a = 0 then b else a

set_option maxHeartbeats 400000 in
theorem or_any (a b : Int) (g : Nat) (w : World) (h0 : w.cell? ⟨g, 0, none⟩ = some (.int .i64 a)) (h1 : w.cell? ⟨g, 1, none⟩ = some (.int .i64 b)) (hg : g < w.heap.size) :
    Calls Try.prog 50 #[.slice (some ⟨g, 0, none⟩) 2 2] w fun e w' => e = .returned (.int .i64 (orI a b)) ∧ w' = w := by
  by_cases ha : a = 0
  · subst ha
    have d0 : ((0 : Int) != 0) = false := rfl
    by_cases hb : b = 0
    · subst hb
      go_enter Try.func50, Try.ntmps50
      go_wp2
      refine wp_loop_rounds 3 ?_
      repeat any_goals (rw [rounds_succ]; go_wp2)
      all_goals go_ret
      all_goals exact ⟨by simp [orI], rfl⟩
    · have d1 : (b != 0) = true := by simp [hb]
      clear hb
      go_enter Try.func50, Try.ntmps50
      go_wp2
      refine wp_loop_rounds 3 ?_
      repeat any_goals (rw [rounds_succ]; go_wp2)
      all_goals go_ret
      all_goals exact ⟨by simp [orI], rfl⟩
  · have d1 : (a != 0) = true := by simp [ha]
    have HA := hid ha
    clear ha
    go_enter Try.func50, Try.ntmps50
    go_wp2
    refine wp_loop_rounds 3 ?_
    repeat any_goals (rw [rounds_succ]; go_wp2)
    all_goals go_ret
    all_goals exact ⟨ret_int (by unfold orI; rw [if_neg HA.out]), rfl⟩

/-- Two sheets compared by row, then by column. -/
def placeCmp (s t : SheetD) : Int := orI (Lib.compareInt s.Row t.Row) (Lib.compareInt s.Col t.Col)

set_option maxHeartbeats 2000000 in
theorem place_1 (s t : SheetD) (W : World) : Calls Try.prog 49 #[s.val, t.val] W fun e w' => e = .returned (.int .i64 (placeCmp s t)) ∧ ∃ q os', w' = Sort.grow (W.drewN q) os' := by
  obtain ⟨a0, a1, a2, a3, a4⟩ := s
  obtain ⟨b0, b1, b2, b3, b4⟩ := t
  have hcon := fun W' => Try.cmp_Compare_int a1 b1 W'
  have hcon2 := fun W' => Try.cmp_Compare_int a2 b2 W'
  unfold placeCmp
  dsimp only
  generalize Lib.compareInt a1 b1 = r1 at hcon ⊢
  generalize Lib.compareInt a2 b2 = r2 at hcon2 ⊢
  have hor := or_any r1 r2
  generalize orI r1 r2 = r at hor ⊢
  have HC1 := hid hcon
  have HC2 := hid hcon2
  have HOR := hid hor
  clear hcon hcon2 hor
  go_enter Try.func49, Try.ntmps49
  go_wp2_with fail
  go_region_held3 (fun w' => w'.cell? ⟨W.heap.size, 1, none⟩ = some (.int .i64 a1) ∧ w'.cell? ⟨W.heap.size, 2, none⟩ = some (.int .i64 a2) ∧ w'.cell? ⟨W.heap.size + 1, 1, none⟩ = some (.int .i64 b1) ∧ w'.cell? ⟨W.heap.size + 1, 2, none⟩ = some (.int .i64 b2)) (go_keep) (first
     | (go_at_call 51; first | (with_reducible refine (HC1.out _).mono ?_) | (with_reducible refine (HC2.out _).mono ?_)
        rintro e w' ⟨rfl, rfl⟩)
     | (go_at_call 50; with_reducible refine (HOR.out _ _ ?_ ?_ ?_).mono ?_
        · simp [go_sem]
        · simp [go_sem]
        · simp
        rintro e w' ⟨rfl, rfl⟩))
  all_goals (go_wp2_with fail; go_ret; exact ⟨rfl, 1, _, by rw [Sort.alloc_eq_grow, Sort.alloc_eq_grow, Sort.alloc_eq_grow, Sort.grow_grow, Sort.grow_grow, Sort.drew_grow]; rfl⟩)

theorem ltOf_place (s t : SheetD) : ltOf placeCmp s t = decide (s.Row < t.Row ∨ (s.Row = t.Row ∧ s.Col < t.Col)) := by
  unfold ltOf placeCmp orI Lib.compareInt
  by_cases h1 : s.Row < t.Row
  · simp [h1]
  · by_cases h2 : t.Row < s.Row
    · have h3 : ¬ s.Row = t.Row := by omega
      simp [h1, h2, h3]
    · have h3 : s.Row = t.Row := by omega
      by_cases h4 : s.Col < t.Col
      · simp [h3, h4]
      · by_cases h5 : t.Col < s.Col <;> simp [h3, h4, h5]
theorem swo_place : Sort.SWO (ltOf placeCmp) where
  irrefl x := by rw [ltOf_place]; simp
  trans x y z h1 h2 := by rw [ltOf_place] at *; simp only [decide_eq_true_eq] at *; omega
  ntrans x y z h1 h2 := by rw [ltOf_place] at *; simp only [decide_eq_false_iff_not] at *; omega
theorem leB_place {s t : SheetD} (h : ltOf placeCmp t s = false) : leB s t = true := by
  rw [ltOf_place] at h
  simp only [decide_eq_false_iff_not] at h
  simp only [leB, decide_eq_true_eq]
  omega

theorem lays_place (blk off size : Nat) (w : World) : CmpLays Try.prog 49 #[] SheetD.cells 5 placeCmp blk off size w :=
  fun _ _ _ _ x y => place_1 x y _

theorem arr_at (L : List SheetD) (i : Nat) : L.toArray[i]! = L.getD i default := by simp [List.getD]
theorem flat_at (L : List SheetD) (t : Nat) (ht : t < L.length * 5) : (L.flatMap SheetD.cells)[t]? = some (Sort.flatK SheetD.cells 5 L.toArray)[t]! := by
  have h := flat_get_Sheet L (t / 5) (t % 5) (by omega) (Nat.mod_lt _ (by omega))
  rw [show t / 5 * 5 + t % 5 = t by omega] at h
  rw [h, Sort.get_flatK _ _ _ _ (by simpa using ht), arr_at]
  have h5 : t % 5 < ((L.getD (t / 5) default).cells).length := by rw [cells_len_Sheet]; exact Nat.mod_lt _ (by omega)
  rw [List.getElem?_eq_getElem h5, getElem!_pos (L.getD (t / 5) default).cells (t % 5) h5]

theorem OwnSheet.holds {B g cap : Nat} {w : World} {L : List SheetD} (h : OwnSheet B w (.slice (some ⟨g, 0, none⟩) L.length cap) L) : Sort.HoldsK SheetD.cells 5 w g 0 L.toArray := by
  intro j hj
  have hj' : j < L.length * 5 := by simpa using hj
  rw [Nat.zero_add]
  exact ⟨(World.ownsRow.cellAt h j hj').trans (flat_at L j hj'), World.ownsRow.frozenAt h j⟩

theorem OwnSheet.laid {B g cap m n : Nat} {w : World} {L L' : List SheetD} {os : Array Obj} (h : OwnSheet B w (.slice (some ⟨g, 0, none⟩) m cap) L) (hl : L'.length = L.length) :
    OwnSheet B (sortWorldK SheetD.cells 5 w g 0 n L'.toArray os) (.slice (some ⟨g, 0, none⟩) m cap) L' := by
  refine ⟨flat_len_Sheet L', ?_⟩
  rcases h.2 with ⟨h1, _⟩ | ⟨g', cap', cur, hv, hb, hg, hnc, hcm, hcs, htk⟩
  · cases h1
  · injection hv with e1 e2 e3
    injection e1 with e1
    injection e1 with e1
    subst e1 e2 e3
    have hlt := (Array.getElem?_eq_some_iff.1 hg).1
    refine .inr ⟨g, cap, Sort.putCells id 0 (Sort.flatK SheetD.cells 5 L'.toArray) cur, by rw [hl], hb, ?_, by omega, hcm, by simp [Sort.putCells, hcs], ?_⟩
    · unfold sortWorldK Sort.grow Sort.putRowK Sort.putRow Sort.mapBlock Sort.ahead
      have hg2 := (Array.getElem?_eq_some_iff.1 hg).2
      simp [Array.getElem?_append, hlt, Array.getElem_modify, Sort.onCells, hg2]
    · apply List.ext_getElem?
      intro t
      by_cases ht : t < L'.length * 5
      · have hm := Nat.mul_le_mul_right 5 hnc
        have ht2 : t < cur.size := by omega
        rw [flat_at L' t ht, List.getElem?_take, if_pos ht]
        simp [Sort.putCells, ht, ht2]
      · rw [List.getElem?_take, if_neg ht, List.getElem?_eq_none (by rw [flat_len_Sheet]; omega)]

theorem sortWorld_below {B g n : Nat} {w : World} {L : List SheetD} {os : Array Obj} (hB : B ≤ g) (hg : g < w.heap.size) : Below B w (sortWorldK SheetD.cells 5 w g 0 n L.toArray os) := by
  refine ⟨rfl, rfl, rfl, size_sortWorldK_c _ _ _ _ _ _ _ _, fun k hk => ?_⟩
  unfold sortWorldK Sort.grow Sort.putRowK Sort.putRow Sort.mapBlock Sort.ahead
  have h1 : k < w.heap.size := by omega
  have h2 : ¬ g = k := by omega
  simp [Array.getElem?_append, h1, Array.getElem_modify, h2]

/-- slices.SortFunc AT A SLICE OF THE CALL's OWN: the same sheets, by their places. -/
theorem sort_sheets (B g cap m : Nat) (w : World) (L : List SheetD) (h : OwnSheet B w (.slice (some ⟨g, 0, none⟩) m cap) L) (hL : L.length ≤ 1048576) :
    Calls Try.prog 48 #[.slice (some ⟨g, 0, none⟩) m cap, .func (.func 49) #[] #[]] w fun e w' =>
      e = .returned (.tuple #[]) ∧ ∃ L', L'.Perm L ∧ (L'.Pairwise fun s t => leB s t = true) ∧ OwnSheet B w' (.slice (some ⟨g, 0, none⟩) m cap) L' ∧ Below B w w' := by
  obtain ⟨hm, hB, hg⟩ : m = L.length ∧ B ≤ g ∧ g < w.heap.size := by
    rcases h.form with ⟨h1, _⟩ | ⟨g', cap', hv, hb, hlt, _⟩
    · cases h1
    · injection hv with e1 e2 e3
      injection e1 with e1
      injection e1 with e1
      subst e1
      exact ⟨e2, hb, hlt⟩
  subst hm
  have hcon := AnyQ.slices_SortFunc Try.sortSheet 5 Try.isAgg55 Try.sizeOf55 SheetD.cells (fun _ => rfl) (fun x v hv => by simp [SheetD.cells] at hv; rcases hv with rfl | rfl | rfl | rfl | rfl <;> rfl) placeCmp swo_place 49 #[] g 0 cap L.toArray w (enters_of Try.func49 (by kernel_rfl) rfl) (lays_place _ _ _ _) h.holds hg (by simp; omega)
  simp only [List.size_toArray] at hcon
  refine Calls.mono hcon ?_
  rintro e w' ⟨rfl, d', n, os, hp, hs, rfl⟩
  obtain ⟨L', rfl⟩ : ∃ L' : List SheetD, d' = L'.toArray := ⟨d'.toList, by simp⟩
  have hlen : L'.length = L.length := by simpa using hp.1
  refine ⟨rfl, L', ?_, ?_, h.laid hlen, sortWorld_below hB hg⟩
  · have := hp.2.2
    have e1 : (L'.toArray.extract 0 L.length).toList = L' := by simp [← hlen]
    have e2 : (L.toArray.extract 0 L.length).toList = L := by simp
    rw [e1, e2] at this
    exact this
  · rw [List.pairwise_iff_getElem]
    intro i j hi hj hij
    have := hs i j (Nat.zero_le _) hij (by omega)
    rw [arr_at, arr_at] at this
    have h1 := leB_place this
    simpa [List.getD, hi, hj] using h1

end Go.Proofs.Ytgdhjiiblfdlcaa
