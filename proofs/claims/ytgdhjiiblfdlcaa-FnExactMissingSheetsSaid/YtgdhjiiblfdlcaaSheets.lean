import Derived.Test.YtgdhjiiblfdlcaaMem
import Derived.Test.YtgdhjiiblfdlcaaShapes
namespace Go.Proofs.Ytgdhjiiblfdlcaa
open Go.RowKit
set_option linter.unusedVariables false

def onB (s : SheetD) (r c sc : Int) : Bool := (s.Row == r) && (s.Col == c) && (s.Scale == sc)

set_option maxHeartbeats 400000 in
theorem at_spec (w : World) (b off len cap : Nat) (X : Nat → SheetD) (row col scale : Int) (h : Rw w b off 5 len (fun i => (X i).cells)) (hm : len ≤ 1048576) (hlc : len ≤ cap) :
    Calls Try.prog 30 #[.slice (some ⟨b, off, none⟩) len cap, .int .i64 row, .int .i64 col, .int .i64 scale] w fun e w' => e = .returned (.int .i64 (findI (fun i => onB (X i) row col scale) len)) ∧ w = w' := by
  have H := hid h.2
  have hb := h.1
  clear h
  go_enter Try.func30, Try.ntmps30
  go_wp2
  go_loop [9] (fun i => ∃ k : Nat, k ≤ len ∧ i = .int .i64 k ∧ Hid (findI (fun i => onB (X i) row col scale) len = findFrom (fun i => onB (X i) row col scale) k (len - k))) (fun i => len - (intOf i).toNat)
  case atStart => exact ⟨0, by omega, rfl, rfl⟩
  case round =>
    obtain ⟨k, hk, rfl, hf⟩ := hrel
    by_cases hlt : k < len
    · have c1 : w.cell? ⟨b, off + k * 5 + 1, none⟩ = some (.int .i64 (X k).Row) := H.out k hlt 1 (by omega)
      have c2 : w.cell? ⟨b, off + k * 5 + 2, none⟩ = some (.int .i64 (X k).Col) := H.out k hlt 2 (by omega)
      have c3 : w.cell? ⟨b, off + k * 5 + 3, none⟩ = some (.int .i64 (X k).Scale) := H.out k hlt 3 (by omega)
      go_wp2
      all_goals first
        | (go_ret; exact ⟨ret_int (findFrom_hit hlt (by simp [onB, *]) hf.out).symm, rfl⟩)
        | (go_round; (case rel => exact ⟨k + 1, by omega, by go_num, findFrom_miss hlt (by simp [onB, *]) hf.out⟩); (case measure => simp [intOf]; omega))
    · go_wp2
      go_ret
      exact ⟨ret_int (findFrom_end (by omega) hf.out).symm, rfl⟩


set_option maxHeartbeats 400000 in
theorem idx_sheet (w : World) (b off len cap : Nat) (X : Nat → SheetD) (g : FuncId) (cs : Array Value) (p : Nat → Bool) (hcall : ∀ args w, (callFunc g args).run Try.prog w = .ok (.enter g args) w) (h : Rw w b off 5 len (fun i => (X i).cells)) (hm : len ≤ 1048576) (hlc : len ≤ cap)
    (hg : ∀ (x : Later w) (i : Nat), i < len → Calls Try.prog g (#[(X i).val] ++ cs) x.wd fun e w' => e = .returned (.bool (p i)) ∧ Below x.wd.heap.size x.wd w') :
    Calls Try.prog 53 #[.slice (some ⟨b, off, none⟩) len cap, .func (.func g) #[] cs] w fun e w' => e = .returned (.int .i64 (findI p len)) ∧ Below w.heap.size w w' := by
  have H := hid h.2
  have HG := hid hg
  have hb := h.1
  clear h hg
  go_enter Try.func53, Try.ntmps53
  go_wp2
  go_loopw [8] (fun i wr => ∃ k : Nat, k ≤ len ∧ i = .int .i64 k ∧ Below w.heap.size w wr ∧ Hid (findI p len = findFrom p k (len - k))) (fun i _ => len - (intOf i).toNat)
  case atStart => exact ⟨0, by omega, rfl, Below.refl _ _, rfl⟩
  case round =>
    obtain ⟨k, hk, rfl, hB, hf⟩ := hrel
    by_cases hlt : k < len
    · have c0 : wr.cell? ⟨b, off + k * 5, none⟩ = some (.int .i64 (X k).Id) := (hB.cell hb).trans (H.out k hlt 0 (by omega))
      have c1 : wr.cell? ⟨b, off + k * 5 + 1, none⟩ = some (.int .i64 (X k).Row) := (hB.cell hb).trans (H.out k hlt 1 (by omega))
      have c2 : wr.cell? ⟨b, off + k * 5 + 2, none⟩ = some (.int .i64 (X k).Col) := (hB.cell hb).trans (H.out k hlt 2 (by omega))
      have c3 : wr.cell? ⟨b, off + k * 5 + 3, none⟩ = some (.int .i64 (X k).Scale) := (hB.cell hb).trans (H.out k hlt 3 (by omega))
      have c4 : wr.cell? ⟨b, off + k * 5 + 4, none⟩ = some (.int .i64 (X k).Year) := (hB.cell hb).trans (H.out k hlt 4 (by omega))
      go_wp2_with fail
      refine (HG.out ⟨wr, hB⟩ k hlt).mono ?_
      rintro e w1 ⟨rfl, hb1⟩
      have hB1 : Below w.heap.size w w1 := Below.on hB hB.size hb1
      by_cases hp : p k = true
      · go_wp2_with fail
        go_ret
        exact ⟨ret_int (findFrom_hit hlt hp hf.out).symm, hB1⟩
      · have hp' : p k = false := by simpa using hp
        clear hp
        go_wp2_with fail
        go_roundw
        case rel => exact ⟨k + 1, by omega, by go_num, hB1, findFrom_miss hlt hp' hf.out⟩
        case measure => simp [intOf]; omega
    · go_wp2_with fail
      go_ret
      exact ⟨ret_int (findFrom_end (by omega) hf.out).symm, hB⟩

theorem sheetOn1 (s : SheetD) (r c sc : Int) (b1 b2 b3 : Nat) (w : World) (h1 : w.cell? ⟨b1, 0, none⟩ = some (.int .i64 r)) (h2 : w.cell? ⟨b2, 0, none⟩ = some (.int .i64 c)) (h3 : w.cell? ⟨b3, 0, none⟩ = some (.int .i64 sc))
    (l1 : b1 < w.heap.size) (l2 : b2 < w.heap.size) (l3 : b3 < w.heap.size) :
    Calls Try.prog 54 #[s.val, .pointer (some ⟨b1, 0, none⟩), .pointer (some ⟨b2, 0, none⟩), .pointer (some ⟨b3, 0, none⟩)] w fun e w' => e = .returned (.bool (onB s r c sc)) ∧ Below w.heap.size w w' := by
  go_enter Try.func54, Try.ntmps54
  go_wp2
  all_goals go_ret
  all_goals exact ⟨by simp [onB, *], by go_grown⟩

theorem on_impl (w : World) (b off len cap : Nat) (X : Nat → SheetD) (row col scale : Int) (h : Rw w b off 5 len (fun i => (X i).cells)) (hm : len ≤ 1048576) (hlc : len ≤ cap) :
    Calls Try.prog 34 #[.slice (some ⟨b, off, none⟩) len cap, .int .i64 row, .int .i64 col, .int .i64 scale] w fun e w' => e = .returned (.int .i64 (findI (fun i => onB (X i) row col scale) len)) ∧ Below w.heap.size w w' := by
  go_enter Try.func34, Try.ntmps34
  go_wp2_with fail
  have hB : Below w.heap.size w (((w.alloc (.cells #[.int .i64 row] 3)).alloc (.cells #[.int .i64 col] 3)).alloc (.cells #[.int .i64 scale] 3)) := by go_grown
  refine (idx_sheet _ b off len cap X 54 _ (fun i => onB (X i) row col scale) (fun _ _ => by kernel_rfl) (h.later' hB) hm hlc ?_).mono ?_
  · intro x i hi
    have hz := x.size
    refine sheetOn1 (X i) row col scale _ _ _ _ ((x.cell _ _ (by simp <;> omega)).trans ?_) ((x.cell _ _ (by simp <;> omega)).trans ?_) ((x.cell _ _ (by simp <;> omega)).trans ?_) ?_ ?_ ?_
    · simp [go_sem]
    · simp [go_sem]
    · simp [go_sem]
    · simp at hz; omega
    · simp at hz; omega
    · simp at hz; omega
  · rintro e w1 ⟨rfl, hb1⟩
    go_wp2_with fail
    go_ret
    exact ⟨rfl, Below.on hB (by simp; omega) hb1⟩

end Go.Proofs.Ytgdhjiiblfdlcaa
