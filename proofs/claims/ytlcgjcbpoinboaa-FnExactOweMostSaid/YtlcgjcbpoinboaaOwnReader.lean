/-
  Slices of Reader that a call has made: read, compared, marked, held. No condition.
-/
import Derived.Test.YtlcgjcbpoinboaaOwn
import Derived.Test.YtlcgjcbpoinboaaListReader
import Derived.Test.YtlcgjcbpoinboaaMark
namespace Go.Proofs.Ytlcgjcbpoinboaa
open Go.RowKit
set_option linter.unusedVariables false
set_option maxRecDepth 100000

theorem FillReader.blk {H len k : Nat} {X : Nat → ReaderD} {w : World} (h : FillReader H len k X w) : Blk 33 H (len * 5) w := by
  obtain ⟨arr, h1, h2, _⟩ := h
  exact ⟨arr, h1, h2⟩
theorem cells_len_Reader (s : ReaderD) : s.cells.length = 5 := rfl
theorem flat_len_Reader : ∀ L : List ReaderD, (L.flatMap ReaderD.cells).length = L.length * 5
  | [] => rfl
  | a :: L => by simp [List.flatMap_cons, cells_len_Reader, flat_len_Reader L]; omega
theorem flat_get_Reader : ∀ (L : List ReaderD) (i j : Nat), i < L.length → j < 5 → (L.flatMap ReaderD.cells)[i * 5 + j]? = ((L.getD i default).cells)[j]?
  | [], i, j, hi, hj => absurd hi (by simp)
  | a :: L, 0, j, hi, hj => by
    rw [List.flatMap_cons, List.getElem?_append_left (by simp [cells_len_Reader]; omega)]
    simp
  | a :: L, i + 1, j, hi, hj => by
    rw [List.flatMap_cons, List.getElem?_append_right (by simp [cells_len_Reader]; omega), cells_len_Reader, show (i + 1) * 5 + j - 5 = i * 5 + j by omega, flat_get_Reader L i j (by simpa using hi) hj]
    simp
theorem flat_one_Reader (L : List ReaderD) : ∀ u ∈ L.flatMap ReaderD.cells, u.oneCell' = true := by
  intro u hu
  rw [List.mem_flatMap] at hu
  obtain ⟨a, _, ha⟩ := hu
  simp [ReaderD.cells] at ha
  rcases ha with rfl | rfl | rfl | rfl | rfl <;> rfl

/-- v is a slice of the call's own that holds the elements L. -/
def OwnReader (B : Nat) (w : World) (v : Value) (L : List ReaderD) : Prop := w.ownsRow B 33 5 v L.length (L.flatMap ReaderD.cells)

theorem OwnReader.below {B : Nat} {w w' : World} {v : Value} {L : List ReaderD} (h : OwnReader B w v L) (hb : Below w.heap.size w w') : OwnReader B w' v L := ownsRow_below h hb
theorem OwnReader.base {B B' : Nat} {w : World} {v : Value} {L : List ReaderD} (h : OwnReader B w v L) (hb : B' ≤ B) : OwnReader B' w v L := ownsRow_base h hb
theorem OwnReader.nil (B : Nat) (w : World) : OwnReader B w (.slice none 0 0) [] := World.ownsRow_nil _ _ _ _
theorem OwnReader.kept {B : Nat} {w w' : World} {v : Value} {L : List ReaderD} {row : Option Nat} (h : OwnReader B w v L) (hg : w.grownBy w' row) (hne : v.ownBlock = none ∨ v.ownBlock ≠ row) : OwnReader B w' v L := World.ownsRow.kept h hg hne
theorem OwnReader.form {B : Nat} {w : World} {v : Value} {L : List ReaderD} (h : OwnReader B w v L) :
    (v = .slice none 0 0 ∧ L = []) ∨ ∃ g cap, v = .slice (some ⟨g, 0, none⟩) L.length cap ∧ B ≤ g ∧ g < w.heap.size ∧ L.length ≤ cap ∧ cap ≤ maxLen ∧ Rw w g 0 5 L.length (fun i => (L.getD i default).cells) ∧ Blk 33 g (cap * 5) w := by
  rcases h.2 with ⟨rfl, h0⟩ | ⟨g, cap, cur, rfl, hb, hg, hnc, hcm, hcs, htk⟩
  · exact .inl ⟨rfl, List.eq_nil_of_length_eq_zero h0⟩
  · refine .inr ⟨g, cap, rfl, hb, (Array.getElem?_eq_some_iff.1 hg).1, hnc, hcm, ⟨(Array.getElem?_eq_some_iff.1 hg).1, fun i hi j hj => ?_⟩, cur, hg, hcs⟩
    have hm := Nat.mul_le_mul_right 5 (show i + 1 ≤ L.length from hi)
    rw [show 0 + i * 5 + j = i * 5 + j by omega, World.ownsRow.cellAt h (i * 5 + j) (by omega)]
    exact flat_get_Reader L i j hi hj
theorem OwnReader.slice {B : Nat} {w : World} {v : Value} {L : List ReaderD} (h : OwnReader B w v L) : ∃ ao cap, v = .slice ao L.length cap ∧ L.length ≤ cap := by
  rcases h.form with ⟨rfl, rfl⟩ | ⟨g, cap, rfl, _, _, hc, _⟩
  · exact ⟨none, 0, rfl, Nat.le_refl _⟩
  · exact ⟨_, cap, rfl, hc⟩
theorem OwnReader.ne_hi {B H : Nat} {w : World} {v : Value} {L : List ReaderD} (h : OwnReader B w v L) (hH : H < B) : v.ownBlock = none ∨ v.ownBlock ≠ some H := by
  rcases h.form with ⟨rfl, _⟩ | ⟨g, cap, rfl, hb, _⟩
  · exact .inl rfl
  · refine .inr ?_
    simp [Value.ownBlock]; omega
theorem OwnReader.ne_lo {B H : Nat} {w : World} {v : Value} {L : List ReaderD} (h : OwnReader B w v L) (hH : w.heap.size ≤ H) : v.ownBlock = none ∨ v.ownBlock ≠ some H := by
  rcases h.form with ⟨rfl, _⟩ | ⟨g, cap, rfl, hb, hl, _⟩
  · exact .inl rfl
  · refine .inr ?_
    simp [Value.ownBlock]; omega
theorem OwnReader.lt {B : Nat} {w : World} {v : Value} {L : List ReaderD} (h : OwnReader B w v L) : ∀ k, v.ownBlock = some k → k < w.heap.size := fun k hk => (World.ownsRow.lt h k hk).2
theorem OwnReader.ge {B : Nat} {w : World} {v : Value} {L : List ReaderD} (h : OwnReader B w v L) : ∀ k, v.ownBlock = some k → B ≤ k := fun k hk => (World.ownsRow.lt h k hk).1
/-- A slice made empty. -/
theorem OwnReader.empty (w : World) : OwnReader w.heap.size (w.alloc (.cells #[] 33)) (.slice (some ⟨w.heap.size, 0, none⟩) 0 0) [] :=
  World.ownsRow_made w #[] 0 (Nat.le_refl _) (by simp [maxLen]) rfl

set_option maxHeartbeats 1000000 in
theorem eqReaderS_own (v1 v2 : Value) (L : List ReaderD) (B1 B2 : Nat) (w : World) (h1 : OwnReader B1 w v1 L) (h2 : OwnReader B2 w v2 L) (hL : L.length ≤ 1048576) :
    Calls Try.prog 27 #[v1, v2] w fun e w' => e = .returned (.bool true) ∧ Below w.heap.size w w' := by
  by_cases hn : L = []
  · obtain ⟨a1, c1, rfl, _⟩ := h1.slice
    obtain ⟨a2, c2, rfl, _⟩ := h2.slice
    clear h1 h2
    subst hn
    go_enter Try.func27, Try.ntmps27
    go_wp2
    refine wp_loop_rounds 1 ?_
    rw [rounds_succ]
    go_wp2
    go_ret
    exact ⟨rfl, Below.refl _ _⟩
  · rcases h1.form with ⟨_, h0⟩ | ⟨g1, c1, rfl, _, l1, hc1, hm1, H1, _⟩
    · exact absurd h0 hn
    rcases h2.form with ⟨_, h0⟩ | ⟨g2, c2, rfl, _, l2, hc2, hm2, H2, _⟩
    · exact absurd h0 hn
    exact eqReaderS_same g1 g2 0 0 c1 c2 L.length (fun i => L.getD i default) w H1 H2 hL hc1 hc2

/-- The cells of n elements are marks from k0 on. -/
def MarkedReader (g n : Nat) (k0 : Int) (w : World) : Prop := ∀ k, k < n → w.cell? ⟨g, k * 5, none⟩ = some (.int .i64 (k0 + 5 * (k : Int))) ∧ w.cell? ⟨g, k * 5 + 1, none⟩ = some (.string (markT (k0 + 5 * (k : Int) + 1))) ∧ w.cell? ⟨g, k * 5 + 2, none⟩ = some (.int .i64 (k0 + 5 * (k : Int) + 2)) ∧ w.cell? ⟨g, k * 5 + 3, none⟩ = some (.int .i64 (k0 + 5 * (k : Int) + 3)) ∧ w.cell? ⟨g, k * 5 + 4, none⟩ = some (.int .i64 (k0 + 5 * (k : Int) + 4))
theorem MarkedReader.later {g n : Nat} {k0 : Int} {w w' : World} (h : MarkedReader g n k0 w) (hb : Below w.heap.size w w') (hg : g < w.heap.size) : MarkedReader g n k0 w' := by
  intro k hk
  obtain ⟨a0, a1, a2, a3, a4⟩ := h k hk
  exact ⟨(hb.cell hg).trans a0, (hb.cell hg).trans a1, (hb.cell hg).trans a2, (hb.cell hg).trans a3, (hb.cell hg).trans a4⟩
/-- A slice of n elements whose cells are marks from k0 on. -/
def HeldReader (B : Nat) (v : Value) (n : Nat) (k0 : Int) (w : World) : Prop := (v = .slice none 0 0 ∧ n = 0) ∨ ∃ g cap, v = .slice (some ⟨g, 0, none⟩) n cap ∧ g < w.heap.size ∧ n ≤ cap ∧ cap ≤ maxLen ∧ MarkedReader g n k0 w
theorem HeldReader.below {B : Nat} {v : Value} {n : Nat} {k0 : Int} {w w' : World} (h : HeldReader B v n k0 w) (hb : Below w.heap.size w w') : HeldReader B v n k0 w' := by
  rcases h with h | ⟨g, cap, rfl, hl, hc, hm, hM⟩
  · exact .inl h
  · exact .inr ⟨g, cap, rfl, Nat.lt_of_lt_of_le hl hb.size, hc, hm, hM.later hb hl⟩

set_option maxHeartbeats 4000000 in
theorem markReaderS_any (H len cap capn : Nat) (k0 : Int) (w : World) (h : Blk 33 H (capn * 5) w) (hlc : len ≤ cap) (hln : len ≤ capn) (hL : len ≤ 16777216) (hk0 : 0 < k0) (hk1 : k0 ≤ 1073741824) :
    Calls Try.prog 38 #[.slice (some ⟨H, 0, none⟩) len cap, .int .i64 k0] w fun e w' => e = .returned (.int .i64 (k0 + 5 * (len : Int))) ∧ w.grownBy w' (some H) ∧ Blk 33 H (capn * 5) w' ∧ MarkedReader H len k0 w' := by
  have HO := hid h
  have hH : H < w.heap.size := by obtain ⟨arr, h1, _⟩ := h; exact (Array.getElem?_eq_some_iff.1 h1).1
  clear h
  go_enter Try.func38, Try.ntmps38
  go_wp2
  go_loopw [1, 5] (fun q i wr => ∃ k : Nat, k ≤ len ∧ i = .int .i64 k ∧ q = .int .i64 (k0 + 5 * (k : Int)) ∧ Hid (w.grownBy wr (some H)) ∧ Hid (Blk 33 H (capn * 5) wr) ∧ Hid (MarkedReader H k k0 wr)) (fun _ i _ => len - (intOf i).toNat)
  case atStart => exact ⟨0, by omega, rfl, by simp, World.grownBy.refl _ _, HO, fun k hk => absurd hk (by omega)⟩
  case round =>
    obtain ⟨k, hk, rfl, rfl, hg, ho, hmk⟩ := hrel
    by_cases hlt : k < len
    · have hkm := Nat.mul_le_mul_right 5 (show k + 1 ≤ capn by omega)
      obtain ⟨q0, t0⟩ := ho.out.cell (k * 5) (by omega)
      have z0 := ho.out.frozen (k * 5)
      have hga : Hid (w.grownBy (wr.setCell ⟨H, k * 5, none⟩ (.int .i64 (k0 + 5 * (k : Int)))) (some H)) := (grownBy_trans hg.out (grownBy_set _ _ _ _))
      have hoa : Hid (Blk 33 H (capn * 5) (wr.setCell ⟨H, k * 5, none⟩ (.int .i64 (k0 + 5 * (k : Int))))) := (ho.out.set (k * 5) _)
      go_wp2_with fail
      refine (markText_any (k0 + 5 * (k : Int) + 1) (by omega) (by omega) _).mono ?_
      rintro e w1 ⟨rfl, hb1⟩
      have hg1 := hid (grownBy_trans hga.out (grownBy_of_below hb1 (some H)))
      have hHa : H < (wr.setCell ⟨H, k * 5, none⟩ (.int .i64 (k0 + 5 * (k : Int)))).heap.size := by have := hga.out.size; omega
      have ho1 := hid (hoa.out.below hb1 hHa)
      have hx0 : Hid (MarkedReader H k k0 w1) := by
        intro i hi
        have hmi := Nat.mul_le_mul_right 5 (show i + 1 ≤ k from hi)
        obtain ⟨a0, a1, a2, a3, a4⟩ := hmk.out i hi
        refine ⟨?_, ?_, ?_, ?_, ?_⟩
        · refine (hb1.cell hHa).trans ?_
          refine (cell_set_other (by omega)).trans ?_
          exact a0
        · refine (hb1.cell hHa).trans ?_
          refine (cell_set_other (by omega)).trans ?_
          exact a1
        · refine (hb1.cell hHa).trans ?_
          refine (cell_set_other (by omega)).trans ?_
          exact a2
        · refine (hb1.cell hHa).trans ?_
          refine (cell_set_other (by omega)).trans ?_
          exact a3
        · refine (hb1.cell hHa).trans ?_
          refine (cell_set_other (by omega)).trans ?_
          exact a4
      have m0 : Hid (w1.cell? ⟨H, k * 5, none⟩ = some (.int .i64 (k0 + 5 * (k : Int)))) := by
        · refine (hb1.cell hHa).trans ?_
          refine (cell_set_same (q := q0) ?_).trans (congrArg some (val_int (by omega)))
          exact t0
      have hp1 : Hid (∀ o, w1.cell? ⟨H, o, none⟩ = (wr.setCell ⟨H, k * 5, none⟩ (.int .i64 (k0 + 5 * (k : Int)))).cell? ⟨H, o, none⟩) := fun o => hb1.cell hHa
      clear hga hoa t0 z0
      obtain ⟨q1, t1⟩ := ho1.out.cell (k * 5 + 1) (by omega)
      have z1 := ho1.out.frozen (k * 5 + 1)
      obtain ⟨q2, t2⟩ := ho1.out.cell (k * 5 + 2) (by omega)
      have z2 := ho1.out.frozen (k * 5 + 2)
      obtain ⟨q3, t3⟩ := ho1.out.cell (k * 5 + 3) (by omega)
      have z3 := ho1.out.frozen (k * 5 + 3)
      obtain ⟨q4, t4⟩ := ho1.out.cell (k * 5 + 4) (by omega)
      have z4 := ho1.out.frozen (k * 5 + 4)
      go_wp2_with fail
      go_roundw
      case rel =>
        refine ⟨k + 1, by omega, by go_num, val_int (by omega), (grownBy_trans (grownBy_trans (grownBy_trans (grownBy_trans hg1.out (grownBy_set _ _ _ _)) (grownBy_set _ _ _ _)) (grownBy_set _ _ _ _)) (grownBy_set _ _ _ _)), ((((ho1.out.set (k * 5 + 1) _).set (k * 5 + 2) _).set (k * 5 + 3) _).set (k * 5 + 4) _), ?_⟩
        intro i hi
        by_cases hik : i < k
        · have hmi := Nat.mul_le_mul_right 5 (show i + 1 ≤ k from hik)
          obtain ⟨a0, a1, a2, a3, a4⟩ := hx0.out i hik
          refine ⟨?_, ?_, ?_, ?_, ?_⟩
          · refine (cell_set_other (by omega)).trans ?_
            refine (cell_set_other (by omega)).trans ?_
            refine (cell_set_other (by omega)).trans ?_
            refine (cell_set_other (by omega)).trans ?_
            exact a0
          · refine (cell_set_other (by omega)).trans ?_
            refine (cell_set_other (by omega)).trans ?_
            refine (cell_set_other (by omega)).trans ?_
            refine (cell_set_other (by omega)).trans ?_
            exact a1
          · refine (cell_set_other (by omega)).trans ?_
            refine (cell_set_other (by omega)).trans ?_
            refine (cell_set_other (by omega)).trans ?_
            refine (cell_set_other (by omega)).trans ?_
            exact a2
          · refine (cell_set_other (by omega)).trans ?_
            refine (cell_set_other (by omega)).trans ?_
            refine (cell_set_other (by omega)).trans ?_
            refine (cell_set_other (by omega)).trans ?_
            exact a3
          · refine (cell_set_other (by omega)).trans ?_
            refine (cell_set_other (by omega)).trans ?_
            refine (cell_set_other (by omega)).trans ?_
            refine (cell_set_other (by omega)).trans ?_
            exact a4
        · obtain rfl : i = k := by omega
          refine ⟨?_, ?_, ?_, ?_, ?_⟩
          · refine (cell_set_other (by omega)).trans ?_
            refine (cell_set_other (by omega)).trans ?_
            refine (cell_set_other (by omega)).trans ?_
            refine (cell_set_other (by omega)).trans ?_
            exact m0.out
          · refine (cell_set_other (by omega)).trans ?_
            refine (cell_set_other (by omega)).trans ?_
            refine (cell_set_other (by omega)).trans ?_
            refine (cell_set_same (q := q1) ?_).trans (rfl)
            exact t1
          · refine (cell_set_other (by omega)).trans ?_
            refine (cell_set_other (by omega)).trans ?_
            refine (cell_set_same (q := q2) ?_).trans (congrArg some (val_int (by omega)))
            refine (cell_set_other (by omega)).trans ?_
            exact t2
          · refine (cell_set_other (by omega)).trans ?_
            refine (cell_set_same (q := q3) ?_).trans (congrArg some (val_int (by omega)))
            refine (cell_set_other (by omega)).trans ?_
            refine (cell_set_other (by omega)).trans ?_
            exact t3
          · refine (cell_set_same (q := q4) ?_).trans (congrArg some (val_int (by omega)))
            refine (cell_set_other (by omega)).trans ?_
            refine (cell_set_other (by omega)).trans ?_
            refine (cell_set_other (by omega)).trans ?_
            exact t4
      case measure => simp [intOf]; omega
    · obtain rfl : k = len := by omega
      go_wp2_with fail
      go_ret
      exact ⟨rfl, hg.out, ho.out, hmk.out⟩

set_option maxHeartbeats 4000000 in
theorem markReaderS_own (v : Value) (L : List ReaderD) (B : Nat) (k0 : Int) (w : World) (h : OwnReader B w v L) (hL : L.length ≤ 16777216) (hk0 : 0 < k0) (hk1 : k0 ≤ 1073741824) :
    Calls Try.prog 38 #[v, .int .i64 k0] w fun e w' => e = .returned (.int .i64 (k0 + 5 * (L.length : Int))) ∧ HeldReader B v L.length k0 w' ∧ w.grownBy w' v.ownBlock := by
  rcases h.form with ⟨rfl, rfl⟩ | ⟨g, cap, rfl, hb, hl, hc, hm, _, hbl⟩
  · go_enter Try.func38, Try.ntmps38
    go_wp2
    refine wp_loop_rounds 1 ?_
    rw [rounds_succ]
    go_wp2
    go_ret
    exact ⟨by simp, .inl ⟨rfl, rfl⟩, World.grownBy.refl _ _⟩
  · refine (markReaderS_any g L.length cap cap k0 w hbl hc hc hL hk0 hk1).mono ?_
    rintro e w1 ⟨rfl, hg, hb1, hM⟩
    have hs := hg.size
    exact ⟨rfl, .inr ⟨g, cap, rfl, by omega, hc, hm, hM⟩, hg⟩

set_option maxHeartbeats 4000000 in
theorem heldReaderS_own (v : Value) (n B : Nat) (k0 : Int) (w : World) (h : HeldReader B v n k0 w) (hL : n ≤ 16777216) (hk0 : 0 < k0) (hk1 : k0 ≤ 1073741824) :
    Calls Try.prog 45 #[v, .int .i64 k0] w fun e w' => e = .returned (.int .i64 (k0 + 5 * (n : Int))) ∧ Below w.heap.size w w' := by
  rcases h with ⟨rfl, rfl⟩ | ⟨g, cap, rfl, hl, hc, hm, hM⟩
  · go_enter Try.func45, Try.ntmps45
    go_wp2
    refine wp_loop_rounds 1 ?_
    rw [rounds_succ]
    go_wp2
    go_ret
    exact ⟨by simp, Below.refl _ _⟩
  · have HM := hid hM
    clear hM
    go_enter Try.func45, Try.ntmps45
    go_wp2
    go_loopw [1, 5] (fun q i wr => ∃ k : Nat, k ≤ n ∧ i = .int .i64 k ∧ q = .int .i64 (k0 + 5 * (k : Int)) ∧ Below w.heap.size w wr) (fun _ i _ => n - (intOf i).toNat)
    case atStart => exact ⟨0, by omega, rfl, by simp, Below.refl _ _⟩
    case round =>
      obtain ⟨k, hk, rfl, rfl, hB⟩ := hrel
      by_cases hlt : k < n
      · have lb : g < wr.heap.size := by have := hB.size; omega
        have e2 : (0 : Int) ≤ (k : Int) := by omega
        have e3 : (k : Int) < (n : Int) := by omega
        obtain ⟨a0, a1, a2, a3, a4⟩ := (HM.out.later hB hl) k hlt
        go_wp2_with fail
        have hq := fun x : Later wr => x.cell
        refine region_later (by kernel_rfl) (by kernel_rfl) ?_
        repeat (go_big_quiet_step ((go_at_call 70; refine calls_later (markText_any (k0 + 5 * (k : Int) + 1) (by omega) (by omega) _))))
        refine wpQuiet_nil ?_
        intro _ hw'
        obtain ⟨x, rfl⟩ := hw'
        have hB1 : Below w.heap.size w x.wd := Below.on hB hB.size x.below
        clear hq a0 a1 a2 a3 a4
        obtain ⟨a0, a1, a2, a3, a4⟩ := (HM.out.later hB1 hl) k hlt
        go_wp2_with fail
        go_roundw
        case rel => exact ⟨k + 1, by omega, by go_num, val_int (by omega), hB1⟩
        case measure => simp [intOf]; omega
      · obtain rfl : k = n := by omega
        go_wp2_with fail
        go_ret
        exact ⟨rfl, hB⟩

end Go.Proofs.Ytlcgjcbpoinboaa
