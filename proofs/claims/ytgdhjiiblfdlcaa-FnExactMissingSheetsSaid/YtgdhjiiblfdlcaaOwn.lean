/-
  Slices of numbers that a call has made: compared, marked, held; ids gathered by a test. No condition.
-/
import Derived.Test.YtgdhjiiblfdlcaaMem
import Derived.Maps.AppendAt
namespace Go.Proofs.Ytgdhjiiblfdlcaa
open Go.RowKit
set_option linter.unusedVariables false

theorem ownsRow_below {w w' : World} {base : Nat} {e : TypeId} {size : Nat} {v : Value} {n : Nat} {xs : List Value} (h : w.ownsRow base e size v n xs) (hb : Below w.heap.size w w') : w'.ownsRow base e size v n xs := by
  refine ⟨h.1, ?_⟩
  rcases h.2 with hn | ⟨g, cap, cur, rfl, hbg, hg, rest⟩
  · exact .inl hn
  · exact .inr ⟨g, cap, cur, rfl, hbg, (hb.block g (Array.getElem?_eq_some_iff.1 hg).1).trans hg, rest⟩

theorem ownsRow_base {w : World} {base base' : Nat} {e : TypeId} {size : Nat} {v : Value} {n : Nat} {xs : List Value} (h : w.ownsRow base e size v n xs) (hb : base' ≤ base) : w.ownsRow base' e size v n xs := by
  refine ⟨h.1, ?_⟩
  rcases h.2 with hn | ⟨g, cap, cur, rfl, hbg, rest⟩
  · exact .inl hn
  · exact .inr ⟨g, cap, cur, rfl, by omega, rest⟩

/-- v is a slice of the call's own that holds the numbers L. -/
def OwnI (B : Nat) (w : World) (v : Value) (L : List Int) : Prop := w.ownsRow B 3 1 v L.length (L.map (Value.int .i64))

theorem OwnI.below {B : Nat} {w w' : World} {v : Value} {L : List Int} (h : OwnI B w v L) (hb : Below w.heap.size w w') : OwnI B w' v L := ownsRow_below h hb
theorem OwnI.base {B B' : Nat} {w : World} {v : Value} {L : List Int} (h : OwnI B w v L) (hb : B' ≤ B) : OwnI B' w v L := ownsRow_base h hb
theorem OwnI.nil (B : Nat) (w : World) : OwnI B w (.slice none 0 0) [] := World.ownsRow_nil _ _ _ _
theorem OwnI.kept {B : Nat} {w w' : World} {v : Value} {L : List Int} {row : Option Nat} (h : OwnI B w v L) (hg : w.grownBy w' row) (hne : v.ownBlock = none ∨ v.ownBlock ≠ row) : OwnI B w' v L := World.ownsRow.kept h hg hne

theorem OwnI.form {B : Nat} {w : World} {v : Value} {L : List Int} (h : OwnI B w v L) :
    (v = .slice none 0 0 ∧ L = []) ∨ ∃ g cap, v = .slice (some ⟨g, 0, none⟩) L.length cap ∧ B ≤ g ∧ g < w.heap.size ∧ L.length ≤ cap ∧ cap ≤ maxLen ∧ (∀ k, k < L.length → w.cell? ⟨g, k, none⟩ = some (.int .i64 (L.getD k 0))) ∧ ∀ o, w.frozen? ⟨g, o, none⟩ = false := by
  rcases h.2 with ⟨rfl, h0⟩ | ⟨g, cap, cur, rfl, hb, hg, hnc, hcm, hcs, htk⟩
  · exact .inl ⟨rfl, List.eq_nil_of_length_eq_zero h0⟩
  · refine .inr ⟨g, cap, rfl, hb, (Array.getElem?_eq_some_iff.1 hg).1, hnc, hcm, fun k hk => ?_, fun o => World.ownsRow.frozenAt h o⟩
    rw [World.ownsRow.cellAt h k (by omega)]
    simp [List.getD, hk]

theorem OwnI.slice {B : Nat} {w : World} {v : Value} {L : List Int} (h : OwnI B w v L) : ∃ ao cap, v = .slice ao L.length cap ∧ L.length ≤ cap := by
  rcases h.form with ⟨rfl, rfl⟩ | ⟨g, cap, rfl, _, _, hc, _⟩
  · exact ⟨none, 0, rfl, Nat.le_refl _⟩
  · exact ⟨_, cap, rfl, hc⟩

theorem OwnI.ne_hi {B H : Nat} {w : World} {v : Value} {L : List Int} (h : OwnI B w v L) (hH : H < B) : v.ownBlock = none ∨ v.ownBlock ≠ some H := by
  rcases h.form with ⟨rfl, _⟩ | ⟨g, cap, rfl, hb, _⟩
  · exact .inl rfl
  · refine .inr ?_
    simp [Value.ownBlock]; omega
theorem OwnI.ne_lo {B H : Nat} {w : World} {v : Value} {L : List Int} (h : OwnI B w v L) (hH : w.heap.size ≤ H) : v.ownBlock = none ∨ v.ownBlock ≠ some H := by
  rcases h.form with ⟨rfl, _⟩ | ⟨g, cap, rfl, hb, hl, _⟩
  · exact .inl rfl
  · refine .inr ?_
    simp [Value.ownBlock]; omega
/-- Two slices made one behind the other lie in two blocks. -/
theorem own_ne {v g : Value} {a : Nat} (hv : ∀ k, v.ownBlock = some k → k < a) (hg : ∀ k, g.ownBlock = some k → a ≤ k) : v.ownBlock = none ∨ v.ownBlock ≠ g.ownBlock := by
  cases h : v.ownBlock with
  | none => exact .inl rfl
  | some k =>
    refine .inr fun e => ?_
    have h1 := hv k h
    have h2 := hg k e.symm
    omega
theorem OwnI.lt {B : Nat} {w : World} {v : Value} {L : List Int} (h : OwnI B w v L) : ∀ k, v.ownBlock = some k → k < w.heap.size := fun k hk => (World.ownsRow.lt h k hk).2
theorem OwnI.ge {B : Nat} {w : World} {v : Value} {L : List Int} (h : OwnI B w v L) : ∀ k, v.ownBlock = some k → B ≤ k := fun k hk => (World.ownsRow.lt h k hk).1

set_option maxHeartbeats 1000000 in
theorem eqIntS_own (v1 v2 : Value) (L : List Int) (B1 B2 : Nat) (w : World) (h1 : OwnI B1 w v1 L) (h2 : OwnI B2 w v2 L) (hL : L.length ≤ 1048576) :
    Calls Try.prog 17 #[v1, v2] w fun e w' => e = .returned (.bool true) ∧ Below w.heap.size w w' := by
  by_cases hn : L = []
  · obtain ⟨a1, c1, rfl, _⟩ := h1.slice
    obtain ⟨a2, c2, rfl, _⟩ := h2.slice
    clear h1 h2
    subst hn
    go_enter Try.func17, Try.ntmps17
    go_wp2
    refine wp_loop_rounds 1 ?_
    rw [rounds_succ]
    go_wp2
    go_ret
    exact ⟨rfl, Below.refl _ _⟩
  · rcases h1.form with ⟨_, h0⟩ | ⟨g1, c1, rfl, _, l1, hc1, hm1, H1, _⟩
    · exact absurd h0 hn
    rcases h2.form with ⟨_, h0⟩ | ⟨g2, c2, rfl, _, l2, hc2, hm2, H2, _⟩
    · exact absurd h0 hn
    have K1 := hid H1
    have K2 := hid H2
    clear h1 h2 H1 H2 hn
    obtain ⟨f, hf⟩ : ∃ f : Nat → Int, ∀ k, L.getD k 0 = f k := ⟨_, fun _ => rfl⟩
    obtain ⟨n, hn⟩ : ∃ n, n = L.length := ⟨_, rfl⟩
    rw [← hn] at hL hc1 hc2 K1 K2 ⊢
    have HF := hid hf
    clear hf hn
    go_enter Try.func17, Try.ntmps17
    go_wp2
    go_loopw [5] (fun i wr => ∃ k : Nat, k ≤ n ∧ i = .int .i64 k ∧ Below w.heap.size w wr) (fun i _ => n - (intOf i).toNat)
    case atStart => exact ⟨0, by omega, rfl, Below.refl _ _⟩
    case round =>
      obtain ⟨k, hk, rfl, hB⟩ := hrel
      by_cases hlt : k < n
      · have hq := fun x : Later wr => x.cell
        have lr1 : g1 < wr.heap.size := by have := hB.size; omega
        have lr2 : g2 < wr.heap.size := by have := hB.size; omega
        have e2 : (0 : Int) ≤ (k : Int) := by omega
        have e3 : (k : Int) < (n : Int) := by omega
        have p1 : wr.cell? ⟨g1, k, none⟩ = some (.int .i64 (f k)) := (hB.cell l1).trans (by rw [K1.out k hlt, HF.out])
        have p2 : wr.cell? ⟨g2, k, none⟩ = some (.int .i64 (f k)) := (hB.cell l2).trans (by rw [K2.out k hlt, HF.out])
        go_wp2_with fail
        refine region_later (by kernel_rfl) (by kernel_rfl) ?_
        repeat (go_big_quiet_step (fail))
        refine wpQuiet_nil ?_
        intro _ hw'
        obtain ⟨x, rfl⟩ := hw'
        have hB1 : Below w.heap.size w x.wd := Below.on hB hB.size x.below
        clear hq
        go_wp2_with fail
        go_roundw
        case rel => exact ⟨k + 1, by omega, by go_num, hB1⟩
        case measure => simp [intOf]; omega
      · go_wp2_with fail
        go_ret
        exact ⟨rfl, hB⟩


/-- The numbers k0, k0 + 1, .. -/
def marks (k0 : Int) (n : Nat) : List Int := (List.range n).map fun (i : Nat) => k0 + (i : Int)
theorem marks_length (k0 : Int) (n : Nat) : (marks k0 n).length = n := by simp [marks]
theorem marks_at {k0 : Int} {n k : Nat} (h : k < n) : (marks k0 n).getD k 0 = k0 + (k : Int) := by simp [marks, List.getD, h]

/-- The first j numbers are marks, the others as they were. -/
def marked (k0 : Int) (L : List Int) (j : Nat) : List Int := (List.range L.length).map fun t => if t < j then k0 + (t : Int) else L.getD t 0
theorem marked_length (k0 : Int) (L : List Int) (j : Nat) : (marked k0 L j).length = L.length := by simp [marked]
theorem marked_zero (k0 : Int) (L : List Int) : marked k0 L 0 = L := by
  apply List.ext_getElem?
  intro t
  by_cases h : t < L.length <;> simp [marked, h]
theorem marked_end (k0 : Int) (L : List Int) : marked k0 L L.length = marks k0 L.length := by
  unfold marked marks
  exact List.map_congr_left fun t ht => by simp at ht; simp [ht]
theorem marked_step (k0 : Int) (L : List Int) (j : Nat) (h : j < L.length) : ((marked k0 L j).map (Value.int .i64)).set j (.int .i64 (k0 + (j : Int))) = (marked k0 L (j + 1)).map (Value.int .i64) := by
  apply List.ext_getElem?
  intro t
  by_cases ht : t < L.length
  · by_cases hj : j = t
    · subst hj; simp [marked, h]
    · have e : (t < j) = (t < j + 1) := by simp; omega
      simp [marked, hj, ht, e]
  · simp [marked, ht] <;> omega

set_option maxHeartbeats 1000000 in
theorem markIntS_own (v : Value) (L : List Int) (B : Nat) (k0 : Int) (w : World) (h : OwnI B w v L) (hL : L.length ≤ 16777216) (hk0 : 0 ≤ k0) (hk1 : k0 ≤ 1073741824) :
    Calls Try.prog 18 #[v, .int .i64 k0] w fun e w' => e = .returned (.int .i64 (k0 + (L.length : Int))) ∧ OwnI B w' v (marks k0 L.length) ∧ w.grownBy w' v.ownBlock := by
  rcases h.form with ⟨rfl, rfl⟩ | ⟨g, cap, rfl, hb, hl, hc, hm, _, _⟩
  · go_enter Try.func18, Try.ntmps18
    go_wp2
    refine wp_loop_rounds 1 ?_
    rw [rounds_succ]
    go_wp2
    go_ret
    exact ⟨by simp, by simpa [marks] using OwnI.nil B w, World.grownBy.refl _ _⟩
  · have HO := hid h
    clear h
    obtain ⟨n, hn⟩ : ∃ n, n = L.length := ⟨_, rfl⟩
    have HN := hid hn
    rw [← hn] at hL hc ⊢
    clear hn
    go_enter Try.func18, Try.ntmps18
    go_wp2
    go_loopw [1, 5] (fun q i wr => ∃ k : Nat, k ≤ n ∧ i = .int .i64 k ∧ q = .int .i64 (k0 + (k : Int)) ∧ Hid (w.grownBy wr (some g)) ∧ Hid (wr.ownsRow B 3 1 (.slice (some ⟨g, 0, none⟩) n cap) n ((marked k0 L k).map (Value.int .i64)))) (fun _ i _ => n - (intOf i).toNat)
    case atStart => exact ⟨0, by omega, rfl, by simp, World.grownBy.refl _ _, by rw [marked_zero]; have := HO.out; unfold OwnI at this; rw [← HN.out] at this; exact this⟩
    case round =>
      obtain ⟨k, hk, rfl, rfl, hg, ho⟩ := hrel
      by_cases hlt : k < n
      · have hcell := (ho.out).cellAt k (by omega)
        obtain ⟨u, hu⟩ : ∃ u, wr.cell? ⟨g, k, none⟩ = some u := ⟨_, hcell.trans (by simp [marked_length, ← HN.out, hlt]; rfl)⟩
        have hfz := (ho.out).frozenAt k
        obtain ⟨st, gr⟩ := (ho.out).stored k (.int .i64 (k0 + (k : Int)))
        rw [marked_step k0 L k (by rw [← HN.out]; exact hlt)] at st
        have ST := hid st
        have GR := hid gr
        clear st gr hcell
        go_wp2_with fail
        go_roundw
        case rel => exact ⟨k + 1, by omega, by go_num, by go_num, grownBy_trans hg.out GR.out, ST⟩
        case measure => simp [intOf]; omega
      · obtain rfl : k = n := by omega
        go_wp2_with fail
        go_ret
        refine ⟨rfl, ?_, hg.out⟩
        have := ho.out
        rw [HN.out, marked_end] at this
        unfold OwnI
        rw [marks_length, HN.out]
        exact this

set_option maxHeartbeats 1000000 in
theorem heldIntS_own (v : Value) (n B : Nat) (k0 : Int) (w : World) (h : OwnI B w v (marks k0 n)) (hL : n ≤ 16777216) (hk0 : 0 ≤ k0) (hk1 : k0 ≤ 1073741824) :
    Calls Try.prog 19 #[v, .int .i64 k0] w fun e w' => e = .returned (.int .i64 (k0 + (n : Int))) ∧ w = w' := by
  rcases h.form with ⟨rfl, h0⟩ | ⟨g, cap, rfl, hb, hl, hc, hm, hcell, _⟩
  · have : n = 0 := by rw [← marks_length k0 n, h0]; rfl
    subst this
    go_enter Try.func19, Try.ntmps19
    go_wp2
    refine wp_loop_rounds 1 ?_
    rw [rounds_succ]
    go_wp2
    go_ret
    exact ⟨by simp, rfl⟩
  · rw [marks_length] at hc hcell ⊢
    have HC := hid hcell
    clear h hcell
    go_enter Try.func19, Try.ntmps19
    go_wp2
    go_loop [1, 5] (fun q i => ∃ k : Nat, k ≤ n ∧ i = .int .i64 k ∧ q = .int .i64 (k0 + (k : Int))) (fun _ i => n - (intOf i).toNat)
    case atStart => exact ⟨0, by omega, rfl, by simp⟩
    case round =>
      obtain ⟨k, hk, rfl, rfl⟩ := hrel
      by_cases hlt : k < n
      · have p1 : w.cell? ⟨g, k, none⟩ = some (.int .i64 (k0 + (k : Int))) := by rw [HC.out k hlt, marks_at hlt]
        go_wp2_with fail
        go_round
        case rel => exact ⟨k + 1, by omega, by go_num, by go_num⟩
        case measure => simp [intOf]; omega
      · obtain rfl : k = n := by omega
        go_wp2_with fail
        go_ret
        exact ⟨rfl, rfl⟩

/-- Of the first n indices those at which p holds: what f says of them. -/
def selI (p : Nat → Bool) (f : Nat → Int) (n : Nat) : List Int := ((List.range n).filter p).map f
theorem selI_zero (p : Nat → Bool) (f : Nat → Int) : selI p f 0 = [] := rfl
theorem selI_yes {p : Nat → Bool} {f : Nat → Int} {n : Nat} (h : p n = true) : selI p f (n + 1) = selI p f n ++ [f n] := by simp [selI, List.range_succ, h]
theorem selI_no {p : Nat → Bool} {f : Nat → Int} {n : Nat} (h : p n = false) : selI p f (n + 1) = selI p f n := by simp [selI, List.range_succ, h]
theorem selI_le (p : Nat → Bool) (f : Nat → Int) (n : Nat) : (selI p f n).length ≤ n := by
  simp only [selI, List.length_map]
  exact Nat.le_trans (List.length_filter_le _ _) (by simp)
theorem selI_congr {p q : Nat → Bool} {f : Nat → Int} {n : Nat} (h : ∀ i, i < n → p i = q i) : selI p f n = selI q f n := by
  unfold selI
  congr 1
  exact List.filter_congr fun i hi => h i (by simpa using hi)

/-- The call returns a slice of its own that holds the numbers L. -/
def RetI (L : List Int) (w : World) (e : Ending) (w' : World) : Prop := ∃ v, e = .returned v ∧ OwnI w.heap.size w' v L ∧ Below w.heap.size w w'
/-- The same beside a bool. -/
def RetIB (L : List Int) (b : Bool) (w : World) (e : Ending) (w' : World) : Prop := ∃ v, e = .returned (.tuple #[v, .bool b]) ∧ OwnI w.heap.size w' v L ∧ Below w.heap.size w w'

theorem info_int : (Try.prog.info? 3).map (fun i => (i.zero, i.size, i.bytes)) = some (some (.int .i64 0), 1, 8) := by kernel_rfl

end Go.Proofs.Ytgdhjiiblfdlcaa
