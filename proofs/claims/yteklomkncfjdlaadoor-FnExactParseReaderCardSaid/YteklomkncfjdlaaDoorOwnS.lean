/-
  Slices of strings that a call has made: compared, marked, held. No condition.
-/
import Derived.Test.YteklomkncfjdlaaDoorListString
import Derived.Test.YteklomkncfjdlaaDoorMark
import Derived.Test.YteklomkncfjdlaaDoorOwn
import Derived.Maps.AppendAt
namespace Go.Proofs.YteklomkncfjdlaaDoor
open Go.RowKit
set_option linter.unusedVariables false

/-- v is a slice of the call's own that holds the texts L. -/
def OwnS (B : Nat) (w : World) (v : Value) (L : List ByteArray) : Prop := w.ownsRow B 9 1 v L.length (L.map Value.string)

theorem OwnS.below {B : Nat} {w w' : World} {v : Value} {L : List ByteArray} (h : OwnS B w v L) (hb : Below w.heap.size w w') : OwnS B w' v L := ownsRow_below h hb
theorem OwnS.base {B B' : Nat} {w : World} {v : Value} {L : List ByteArray} (h : OwnS B w v L) (hb : B' ≤ B) : OwnS B' w v L := ownsRow_base h hb
theorem OwnS.nil (B : Nat) (w : World) : OwnS B w (.slice none 0 0) [] := World.ownsRow_nil _ _ _ _
theorem OwnS.kept {B : Nat} {w w' : World} {v : Value} {L : List ByteArray} {row : Option Nat} (h : OwnS B w v L) (hg : w.grownBy w' row) (hne : v.ownBlock = none ∨ v.ownBlock ≠ row) : OwnS B w' v L := World.ownsRow.kept h hg hne
theorem OwnS.form {B : Nat} {w : World} {v : Value} {L : List ByteArray} (h : OwnS B w v L) :
    (v = .slice none 0 0 ∧ L = []) ∨ ∃ g cap, v = .slice (some ⟨g, 0, none⟩) L.length cap ∧ B ≤ g ∧ g < w.heap.size ∧ L.length ≤ cap ∧ cap ≤ maxLen ∧ (∀ k, k < L.length → w.cell? ⟨g, k, none⟩ = some (.string (L.getD k default))) ∧ ∀ o, w.frozen? ⟨g, o, none⟩ = false := by
  rcases h.2 with ⟨rfl, h0⟩ | ⟨g, cap, cur, rfl, hb, hg, hnc, hcm, hcs, htk⟩
  · exact .inl ⟨rfl, List.eq_nil_of_length_eq_zero h0⟩
  · refine .inr ⟨g, cap, rfl, hb, (Array.getElem?_eq_some_iff.1 hg).1, hnc, hcm, fun k hk => ?_, fun o => World.ownsRow.frozenAt h o⟩
    rw [World.ownsRow.cellAt h k (by omega)]
    simp [List.getD, hk]
theorem OwnS.slice {B : Nat} {w : World} {v : Value} {L : List ByteArray} (h : OwnS B w v L) : ∃ ao cap, v = .slice ao L.length cap ∧ L.length ≤ cap := by
  rcases h.form with ⟨rfl, rfl⟩ | ⟨g, cap, rfl, _, _, hc, _⟩
  · exact ⟨none, 0, rfl, Nat.le_refl _⟩
  · exact ⟨_, cap, rfl, hc⟩
theorem OwnS.lt {B : Nat} {w : World} {v : Value} {L : List ByteArray} (h : OwnS B w v L) : ∀ k, v.ownBlock = some k → k < w.heap.size := fun k hk => (World.ownsRow.lt h k hk).2
theorem OwnS.ge {B : Nat} {w : World} {v : Value} {L : List ByteArray} (h : OwnS B w v L) : ∀ k, v.ownBlock = some k → B ≤ k := fun k hk => (World.ownsRow.lt h k hk).1
/-- A slice made empty. -/
theorem OwnS.empty (w : World) : OwnS w.heap.size (w.alloc (.cells #[] 9)) (.slice (some ⟨w.heap.size, 0, none⟩) 0 0) [] :=
  World.ownsRow_made w #[] 0 (Nat.le_refl _) (by simp [maxLen]) rfl

set_option maxHeartbeats 1000000 in
theorem eqStringS_own (v1 v2 : Value) (L : List ByteArray) (B1 B2 : Nat) (w : World) (h1 : OwnS B1 w v1 L) (h2 : OwnS B2 w v2 L) (hL : L.length ≤ 1048576) :
    Calls Tryd.prog 17 #[v1, v2] w fun e w' => e = .returned (.bool true) ∧ Below w.heap.size w w' := by
  by_cases hn : L = []
  · obtain ⟨a1, c1, rfl, _⟩ := h1.slice
    obtain ⟨a2, c2, rfl, _⟩ := h2.slice
    clear h1 h2
    subst hn
    go_enter Tryd.func17, Tryd.ntmps17
    go_wp2
    refine wp_loop_rounds 1 ?_
    rw [rounds_succ]
    go_wp2
    go_ret
    exact ⟨rfl, Below.refl _ _⟩
  · rcases h1.form with ⟨_, h0⟩ | ⟨g1, c1, rfl, _, l1, hc1, hm1, H1, _⟩
    · exact absurd h0 hn
    rcases h2.form with ⟨_, h0⟩ | ⟨g2, c2, rfl, _, l2, hc2, hm2, H2, _⟩
    · exact absurd h0 hn
    refine eqStringS_same g1 g2 0 0 c1 c2 L.length (fun i => L.getD i default) w ⟨l1, ?_⟩ ⟨l2, ?_⟩ hL hc1 hc2
    all_goals
      intro i hi j hj
      obtain rfl : j = 0 := by omega
      first
        | (simpa using H1 i hi)
        | (simpa using H2 i hi)

/-- The texts of the marks k0, k0 + 1, .. -/
def smarks (k0 : Int) (n : Nat) : List ByteArray := (List.range n).map fun (i : Nat) => markT (k0 + (i : Int))
theorem smarks_length (k0 : Int) (n : Nat) : (smarks k0 n).length = n := by simp [smarks]
theorem smarks_at {k0 : Int} {n k : Nat} (h : k < n) : (smarks k0 n).getD k default = markT (k0 + (k : Int)) := by simp [smarks, List.getD, h]
def smarked (k0 : Int) (L : List ByteArray) (j : Nat) : List ByteArray := (List.range L.length).map fun t => if t < j then markT (k0 + (t : Int)) else L.getD t default
theorem smarked_length (k0 : Int) (L : List ByteArray) (j : Nat) : (smarked k0 L j).length = L.length := by simp [smarked]
theorem smarked_zero (k0 : Int) (L : List ByteArray) : smarked k0 L 0 = L := by
  apply List.ext_getElem?
  intro t
  by_cases h : t < L.length <;> simp [smarked, h]
theorem smarked_end (k0 : Int) (L : List ByteArray) : smarked k0 L L.length = smarks k0 L.length := by
  unfold smarked smarks
  exact List.map_congr_left fun t ht => by simp at ht; simp [ht]
theorem smarked_step (k0 : Int) (L : List ByteArray) (j : Nat) (h : j < L.length) : ((smarked k0 L j).map Value.string).set j (.string (markT (k0 + (j : Int)))) = (smarked k0 L (j + 1)).map Value.string := by
  apply List.ext_getElem?
  intro t
  by_cases ht : t < L.length
  · by_cases hj : j = t
    · subst hj; simp [smarked, h]
    · have e : (t < j) = (t < j + 1) := by simp; omega
      simp [smarked, hj, ht, e]
  · simp [smarked, ht] <;> omega

set_option maxHeartbeats 1000000 in
theorem markStringS_own (v : Value) (L : List ByteArray) (B : Nat) (k0 : Int) (w : World) (h : OwnS B w v L) (hL : L.length ≤ 16777216) (hk0 : 0 < k0) (hk1 : k0 ≤ 1073741824) :
    Calls Tryd.prog 18 #[v, .int .i64 k0] w fun e w' => e = .returned (.int .i64 (k0 + (L.length : Int))) ∧ OwnS B w' v (smarks k0 L.length) ∧ w.grownBy w' v.ownBlock := by
  rcases h.form with ⟨rfl, rfl⟩ | ⟨g, cap, rfl, hb, hl, hc, hm, _, _⟩
  · go_enter Tryd.func18, Tryd.ntmps18
    go_wp2
    refine wp_loop_rounds 1 ?_
    rw [rounds_succ]
    go_wp2
    go_ret
    exact ⟨by simp, by simpa [smarks] using OwnS.nil B w, World.grownBy.refl _ _⟩
  · have HO := hid h
    clear h
    obtain ⟨n, hn⟩ : ∃ n, n = L.length := ⟨_, rfl⟩
    have HN := hid hn
    rw [← hn] at hL hc ⊢
    clear hn
    go_enter Tryd.func18, Tryd.ntmps18
    go_wp2_with fail
    go_loopw [1, 5] (fun q i wr => ∃ k : Nat, k ≤ n ∧ i = .int .i64 k ∧ q = .int .i64 (k0 + (k : Int)) ∧ Hid (w.grownBy wr (some g)) ∧ Hid (wr.ownsRow B 9 1 (.slice (some ⟨g, 0, none⟩) n cap) n ((smarked k0 L k).map Value.string))) (fun _ i _ => n - (intOf i).toNat)
    case atStart => exact ⟨0, by omega, rfl, by simp, World.grownBy.refl _ _, by rw [smarked_zero]; have := HO.out; unfold OwnS at this; rw [← HN.out] at this; exact this⟩
    case round =>
      obtain ⟨k, hk, rfl, rfl, hg, ho⟩ := hrel
      by_cases hlt : k < n
      · go_wp2_with fail
        refine (markText_any (k0 + (k : Int)) (by omega) (by omega) _).mono ?_
        rintro e w1 ⟨rfl, hb1⟩
        have hg1 := hid (grownBy_trans hg.out (grownBy_of_below hb1 (some g)))
        have ho1 := hid (ownsRow_below ho.out hb1)
        clear hg ho
        have hcell := (ho1.out).cellAt k (by omega)
        obtain ⟨u, hu⟩ : ∃ u, w1.cell? ⟨g, k, none⟩ = some u := ⟨_, hcell.trans (by simp [smarked_length, ← HN.out, hlt]; rfl)⟩
        have hfz := (ho1.out).frozenAt k
        obtain ⟨st, gr⟩ := (ho1.out).stored k (.string (markT (k0 + (k : Int))))
        rw [smarked_step k0 L k (by rw [← HN.out]; exact hlt)] at st
        have ST := hid st
        have GR := hid gr
        clear st gr hcell
        obtain ⟨t, ht⟩ : ∃ t, markT (k0 + (k : Int)) = t := ⟨_, rfl⟩
        rw [ht] at ST GR ⊢
        clear ht
        go_wp2_with fail
        go_roundw
        case rel => exact ⟨k + 1, by omega, by go_num, by go_num, grownBy_trans hg1.out GR.out, ST⟩
        case measure => simp [intOf]; omega
      · obtain rfl : k = n := by omega
        go_wp2_with fail
        go_ret
        refine ⟨rfl, ?_, hg.out⟩
        have := ho.out
        rw [HN.out, smarked_end] at this
        unfold OwnS
        rw [smarks_length, HN.out]
        exact this

set_option maxHeartbeats 1000000 in
theorem heldStringS_own (v : Value) (n B : Nat) (k0 : Int) (w : World) (h : OwnS B w v (smarks k0 n)) (hL : n ≤ 16777216) (hk0 : 0 < k0) (hk1 : k0 ≤ 1073741824) :
    Calls Tryd.prog 19 #[v, .int .i64 k0] w fun e w' => e = .returned (.int .i64 (k0 + (n : Int))) ∧ Below w.heap.size w w' := by
  rcases h.form with ⟨rfl, h0⟩ | ⟨g, cap, rfl, hb, hl, hc, hm, hcell, _⟩
  · have : n = 0 := by rw [← smarks_length k0 n, h0]; rfl
    subst this
    go_enter Tryd.func19, Tryd.ntmps19
    go_wp2
    refine wp_loop_rounds 1 ?_
    rw [rounds_succ]
    go_wp2
    go_ret
    exact ⟨by simp, Below.refl _ _⟩
  · rw [smarks_length] at hc hcell ⊢
    have HC := hid hcell
    clear h hcell
    go_enter Tryd.func19, Tryd.ntmps19
    go_wp2_with fail
    go_loopw [1, 5] (fun q i wr => ∃ k : Nat, k ≤ n ∧ i = .int .i64 k ∧ q = .int .i64 (k0 + (k : Int)) ∧ Below w.heap.size w wr) (fun _ i _ => n - (intOf i).toNat)
    case atStart => exact ⟨0, by omega, rfl, by simp, Below.refl _ _⟩
    case round =>
      obtain ⟨k, hk, rfl, rfl, hB⟩ := hrel
      by_cases hlt : k < n
      · obtain ⟨t, ht⟩ : ∃ t, markT (k0 + (k : Int)) = t := ⟨_, rfl⟩
        have p1 : wr.cell? ⟨g, k, none⟩ = some (.string t) := (hB.cell hl).trans (by rw [HC.out k hlt, smarks_at hlt, ht])
        have K0 : Hid (∀ w, Calls Tryd.prog 48 #[.int .i64 (k0 + (k : Int))] w fun e w' => e = .returned (.string t) ∧ Below w.heap.size w w') := fun w => by rw [← ht]; exact markText_any _ (by omega) (by omega) w
        clear ht
        have lr1 : g < wr.heap.size := by have := hB.size; omega
        have e2 : (0 : Int) ≤ (k : Int) := by omega
        have e3 : (k : Int) < (n : Int) := by omega
        have hq := fun x : Later wr => x.cell
        go_wp2_with fail
        refine region_later (by kernel_rfl) (by kernel_rfl) ?_
        repeat (go_big_quiet_step ((go_at_call 48; refine calls_later (K0.out _))))
        refine wpQuiet_nil ?_
        intro _ hw'
        obtain ⟨x, rfl⟩ := hw'
        have hB1 : Below w.heap.size w x.wd := Below.on hB hB.size x.below
        clear hq
        go_wp2_with fail
        go_roundw
        case rel => exact ⟨k + 1, by omega, by go_num, by go_num, hB1⟩
        case measure => simp [intOf]; omega
      · obtain rfl : k = n := by omega
        go_wp2_with fail
        go_ret
        exact ⟨rfl, hB⟩
end Go.Proofs.YteklomkncfjdlaaDoor
