/-
  Lists of drawers copied, compared, marked. No condition.
-/
import Derived.Test.YtejpmomedclnhaaDrawM
namespace Go.Proofs.Ytejpmomedclnhaa
open Go.RowKit
set_option linter.unusedVariables false

theorem IBlk.other {w : World} {g : Nat} {L : List Int} (h : IBlk w g L) {H o : Nat} {v : Value} (hne : g ≠ H) : IBlk (w.setCell ⟨H, o, none⟩ v) g L := (heap_setCell_other w ⟨H, o, none⟩ g v hne).trans h

set_option maxHeartbeats 1000000 in
theorem toDrawer_any (s : DrawerL) (w : World) (h : Sl w 1 s.a s.n (fun j => [.int .i64 (s.F j)])) (hm : s.n ≤ 1048576) :
    Calls Try.prog 17 #[s.val] w fun e w' => ∃ g, e = .returned (s.d.val (.slice (some ⟨g, 0, none⟩) s.n s.n)) ∧ w.heap.size ≤ g ∧ Below w.heap.size w w' ∧ IBlk w' g s.d.Flats := by
  have HS := hid h
  clear h
  go_enter Try.func17, Try.ntmps17
  go_wp2_with fail
  refine (toIntS_any s.a s.n s.cap s.F _ (HS.out.below ?_) hm).mono ?_
  · go_grown
  rintro e w1 ⟨rfl, hb1, hi1⟩
  have hz := hb1.size
  simp at hz
  have HI : Hid (IBlk w1 (w.heap.size + 1 + 1 + 1) s.d.Flats) := by
    simp only [World.size_alloc] at hi1
    exact hi1
  clear hi1
  obtain ⟨hc1, hf1⟩ := bcell hb1
  have o0 : w1.cell? ⟨w.heap.size + 2, 0, none⟩ = some (.int .i64 s.Id) := (hc1 _ _ (by simp)).trans (by simp [go_sem])
  have o1 : w1.cell? ⟨w.heap.size + 2, 1, none⟩ = some (.int .i64 s.Wide) := (hc1 _ _ (by simp)).trans (by simp [go_sem])
  have o2 : w1.cell? ⟨w.heap.size + 2, 2, none⟩ = some (.int .i64 s.High) := (hc1 _ _ (by simp)).trans (by simp [go_sem])
  have o3 : w1.cell? ⟨w.heap.size + 2, 3, none⟩ = some (.int .i64 s.Holds) := (hc1 _ _ (by simp)).trans (by simp [go_sem])
  have o4 : w1.cell? ⟨w.heap.size + 2, 4, none⟩ = some (.slice none 0 0) := (hc1 _ _ (by simp)).trans (by simp [go_sem])
  have oz4 : w1.frozen? ⟨w.heap.size + 2, 4, none⟩ = false := (hf1 _ _ (by simp)).trans (by simp [go_sem])
  have r0 : w1.cell? ⟨w.heap.size + 1, 0, none⟩ = some (.int .i64 0) := (hc1 _ _ (by simp)).trans (by simp [go_sem])
  have rz0 : w1.frozen? ⟨w.heap.size + 1, 0, none⟩ = false := (hf1 _ _ (by simp)).trans (by simp [go_sem])
  have r1 : w1.cell? ⟨w.heap.size + 1, 1, none⟩ = some (.int .i64 0) := (hc1 _ _ (by simp)).trans (by simp [go_sem])
  have rz1 : w1.frozen? ⟨w.heap.size + 1, 1, none⟩ = false := (hf1 _ _ (by simp)).trans (by simp [go_sem])
  have r2 : w1.cell? ⟨w.heap.size + 1, 2, none⟩ = some (.int .i64 0) := (hc1 _ _ (by simp)).trans (by simp [go_sem])
  have rz2 : w1.frozen? ⟨w.heap.size + 1, 2, none⟩ = false := (hf1 _ _ (by simp)).trans (by simp [go_sem])
  have r3 : w1.cell? ⟨w.heap.size + 1, 3, none⟩ = some (.int .i64 0) := (hc1 _ _ (by simp)).trans (by simp [go_sem])
  have rz3 : w1.frozen? ⟨w.heap.size + 1, 3, none⟩ = false := (hf1 _ _ (by simp)).trans (by simp [go_sem])
  have r4 : w1.cell? ⟨w.heap.size + 1, 4, none⟩ = some (.slice none 0 0) := (hc1 _ _ (by simp)).trans (by simp [go_sem])
  have rz4 : w1.frozen? ⟨w.heap.size + 1, 4, none⟩ = false := (hf1 _ _ (by simp)).trans (by simp [go_sem])
  have l1 : w.heap.size + 1 < w1.heap.size := by omega
  have l2 : w.heap.size + 2 < w1.heap.size := by omega
  have B1 : Below w.heap.size w w1 := Below.on (by go_grown) (by simp; omega) hb1
  clear hc1 hf1
  go_wp2_with fail
  exact bodyPost_ret (v := s.d.val (.slice (some ⟨w.heap.size + 1 + 1 + 1, 0, none⟩) s.n s.n)) (by simp [results, Try.results17, go_sem, l1, r0, r1, r2, r3, r4, DrawerL.d]) rfl ⟨w.heap.size + 1 + 1 + 1, rfl, by omega, by go_grown, (((((HI.out.other (by omega)).other (by omega)).other (by omega)).other (by omega)).other (by omega)).other (by omega)⟩

/-- A list of drawers of the call's own, filled up to drawer k. -/
def FillD (H len k : Nat) (X : Nat → DrawerD) (w : World) : Prop := ∃ arr : Array Value, w.heap[H]? = some (.cells arr 32 (0, 0)) ∧ arr.size = len * 5 ∧ ∀ i, i < k → ∃ g, H < g ∧ IBlk w g (X i).Flats ∧ ∀ j, j < 5 → arr[i * 5 + j]? = ((X i).cells (.slice (some ⟨g, 0, none⟩) (X i).Flats.length (X i).Flats.length))[j]?
theorem FillD.cell {H len k : Nat} {X : Nat → DrawerD} {w : World} (h : FillD H len k X w) (j : Nat) (hj : j < len * 5) : ∃ v, w.cell? ⟨H, j, none⟩ = some v := by
  obtain ⟨arr, h1, h2, _⟩ := h
  exact ⟨arr[j], by simp [World.cell?, h1, h2, hj]⟩
theorem FillD.frozen {H len k : Nat} {X : Nat → DrawerD} {w : World} (h : FillD H len k X w) (j : Nat) : w.frozen? ⟨H, j, none⟩ = false := by
  obtain ⟨arr, h1, h2, _⟩ := h
  simp [World.frozen?, h1]
theorem FillD.below {H len k : Nat} {X : Nat → DrawerD} {w w' : World} (h : FillD H len k X w) (hb : Below w.heap.size w w') : FillD H len k X w' := by
  obtain ⟨arr, h1, h2, h3⟩ := h
  refine ⟨arr, (hb.block H (Array.getElem?_eq_some_iff.1 h1).1).trans h1, h2, fun i hi => ?_⟩
  obtain ⟨g, g1, g2, g3⟩ := h3 i hi
  exact ⟨g, g1, g2.below hb, g3⟩
theorem FillD.store {H len k g : Nat} {X : Nat → DrawerD} {w : World} (h : FillD H len k X w) (hk : k < len) (hg : H < g) (hi : IBlk w g (X k).Flats) : FillD H len (k + 1) X (((((w.setCell ⟨H, k * 5, none⟩ (.int .i64 (X k).Id)).setCell ⟨H, k * 5 + 1, none⟩ (.int .i64 (X k).Wide)).setCell ⟨H, k * 5 + 2, none⟩ (.int .i64 (X k).High)).setCell ⟨H, k * 5 + 3, none⟩ (.int .i64 (X k).Holds)).setCell ⟨H, k * 5 + 4, none⟩ (.slice (some ⟨g, 0, none⟩) (X k).Flats.length (X k).Flats.length)) := by
  obtain ⟨arr, h1, h2, h3⟩ := h
  have g1 := heap_setCell_same w H (k * 5) arr 32 (.int .i64 (X k).Id) h1
  have g2 := heap_setCell_same _ H (k * 5 + 1) _ 32 (.int .i64 (X k).Wide) g1
  have g3 := heap_setCell_same _ H (k * 5 + 2) _ 32 (.int .i64 (X k).High) g2
  have g4 := heap_setCell_same _ H (k * 5 + 3) _ 32 (.int .i64 (X k).Holds) g3
  have g5 := heap_setCell_same _ H (k * 5 + 4) _ 32 (.slice (some ⟨g, 0, none⟩) (X k).Flats.length (X k).Flats.length) g4
  refine ⟨_, g5, by simpa using h2, fun i hi' => ?_⟩
  have hsz : k * 5 + 5 ≤ arr.size := by rw [h2]; have := Nat.mul_le_mul_right 5 (show k + 1 ≤ len from hk); omega
  by_cases hik : i = k
  · subst hik
    refine ⟨g, hg, ((((hi.other (by omega)).other (by omega)).other (by omega)).other (by omega)).other (by omega), fun j hj => ?_⟩
    have hj' : j = 0 ∨ j = 1 ∨ j = 2 ∨ j = 3 ∨ j = 4 := by omega
    rcases hj' with rfl | rfl | rfl | rfl | rfl <;> simp [DrawerD.cells, Array.getElem?_setIfInBounds] <;> omega
  · obtain ⟨e, e1, e2, e3⟩ := h3 i (by omega)
    refine ⟨e, e1, ((((e2.other (by omega)).other (by omega)).other (by omega)).other (by omega)).other (by omega), fun j hj => ?_⟩
    rw [← e3 j hj]
    have hm := Nat.mul_le_mul_right 5 (show i + 1 ≤ k by omega)
    simp only [Array.getElem?_setIfInBounds]
    rw [if_neg (by omega), if_neg (by omega), if_neg (by omega), if_neg (by omega), if_neg (by omega)]
theorem FillD.drs {H len : Nat} {X : Nat → DrawerD} {w : World} (h : FillD H len len X w) : ∃ S, Drs w H 0 len X S := by
  obtain ⟨arr, h1, h2, h3⟩ := h
  obtain ⟨S, hS⟩ := Deep.choose_lt (α := Value) (n := len) (p := fun i v => HasI w v (X i).Flats ∧ ∀ j, j < 5 → arr[i * 5 + j]? = ((X i).cells v)[j]?) (fun i hi => by
    obtain ⟨g, g1, g2, g3⟩ := h3 i hi
    exact ⟨_, g2.has, g3⟩)
  refine ⟨S, ⟨(Array.getElem?_eq_some_iff.1 h1).1, fun i hi j hj => ?_⟩, fun i hi => (hS i hi).1⟩
  simp only [World.cell?, h1, Nat.zero_add]
  exact (hS i hi).2 j hj

set_option maxHeartbeats 1000000 in
theorem toDrawerS_any (a : Option Addr) (len cap : Nat) (X : Nat → DrawerL) (w : World) (h : Sl w 5 a len (fun i => (X i).cells)) (ok : ∀ i, i < len → (X i).ok w) (hn : ∀ i, i < len → (X i).n ≤ 1048576) (hm : len ≤ 1048576) :
    Calls Try.prog 24 #[.slice a len cap] w fun e w' => e = .returned (.slice (some ⟨w.heap.size, 0, none⟩) len len) ∧ Below w.heap.size w w' ∧ w.heap.size < w'.heap.size ∧ FillD w.heap.size len len (fun i => (X i).d) w' := by
  obtain ⟨i0, hi, hz0, hz1, hz2⟩ := info_parts info_Drawer
  have hmk : ∀ (w : World), (Instr.makeSlice 43 (.int .i64 (len : Int)) (.int .i64 (len : Int))).run Try.prog w = .ok (.slice (some ⟨w.heap.size, 0, none⟩) len len) (w.alloc (.cells (madeCells #[.int .i64 0, .int .i64 0, .int .i64 0, .int .i64 0, .slice none 0 0] (len * 5)) 32)) := by
    intro w
    have := run_make (P := Try.prog) w 43 32 i0 _ Try.underlying43 hi hz0 .i64 .i64 len len (by omega) (Int.le_refl _) (by rw [hz2]; omega) (by omega)
    rw [hz1] at this
    simp only [Int.toNat_natCast] at this
    exact this
  have F0 : FillD w.heap.size len 0 (fun i => (X i).d) (w.alloc (.cells (madeCells #[.int .i64 0, .int .i64 0, .int .i64 0, .int .i64 0, .slice none 0 0] (len * 5)) 32)) := ⟨_, heap_alloc_new w _, size_madeCells _ _, fun i hi => absurd hi (by omega)⟩
  have HF0 := hid F0
  have HO := hid ok
  have HN := hid hn
  clear F0 hi hz0 hz1 hz2 ok hn
  rcases h with h | ⟨b, off, rfl, hb, h⟩
  · have H := hid h
    clear h
    go_enter Try.func24, Try.ntmps24
    go_wp2
    go_loopw [4] (fun i wr => ∃ k : Nat, k ≤ len ∧ i = .int .i64 k ∧ Below w.heap.size w wr ∧ w.heap.size < wr.heap.size ∧ Hid (FillD w.heap.size len k (fun i => (X i).d) wr)) (fun i _ => len - (intOf i).toNat)
    case atStart => exact ⟨0, by omega, rfl, by go_grown, by simp, HF0⟩
    case round =>
      clear hmk HF0
      obtain ⟨k, hk, rfl, hB, hs, hF⟩ := hrel
      have hge : ¬ k < len := by have := H.out; omega
      go_wp2_with fail
      go_ret
      exact ⟨rfl, hB, hs, by have := hF.out; rwa [show k = len by omega] at this⟩
  · have H := hid h
    clear h
    go_enter Try.func24, Try.ntmps24
    go_wp2
    go_loopw [4] (fun i wr => ∃ k : Nat, k ≤ len ∧ i = .int .i64 k ∧ Below w.heap.size w wr ∧ w.heap.size < wr.heap.size ∧ Hid (FillD w.heap.size len k (fun i => (X i).d) wr)) (fun i _ => len - (intOf i).toNat)
    case atStart => exact ⟨0, by omega, rfl, by go_grown, by simp, HF0⟩
    case round =>
      clear hmk HF0
      obtain ⟨k, hk, rfl, hB, hs, hF⟩ := hrel
      by_cases hlt : k < len
      · have c0 : wr.cell? ⟨b, off + k * 5, none⟩ = some (.int .i64 (X k).Id) := (hB.cell hb).trans (H.out k hlt 0 (by omega))
        have c1 : wr.cell? ⟨b, off + k * 5 + 1, none⟩ = some (.int .i64 (X k).Wide) := (hB.cell hb).trans (H.out k hlt 1 (by omega))
        have c2 : wr.cell? ⟨b, off + k * 5 + 2, none⟩ = some (.int .i64 (X k).High) := (hB.cell hb).trans (H.out k hlt 2 (by omega))
        have c3 : wr.cell? ⟨b, off + k * 5 + 3, none⟩ = some (.int .i64 (X k).Holds) := (hB.cell hb).trans (H.out k hlt 3 (by omega))
        have c4 : wr.cell? ⟨b, off + k * 5 + 4, none⟩ = some (.slice (X k).a (X k).n (X k).cap) := (hB.cell hb).trans (H.out k hlt 4 (by omega))
        go_wp2_with fail
        refine (toDrawer_any (X k) _ (((HO.out k hlt).below hB).1) (HN.out k hlt)).mono ?_
        rintro e w1 ⟨g, rfl, hg, hb1, hi1⟩
        have HI1 := hid hi1
        clear hi1
        have hB1 : Below w.heap.size w w1 := Below.on hB hB.size hb1
        have hs1 : w.heap.size < w1.heap.size := by have := hb1.size; omega
        have hF1 := hid (hF.out.below hb1)
        have hkm := Nat.mul_le_mul_right 5 (show k + 1 ≤ len from hlt)
        obtain ⟨q0, t0⟩ := hF1.out.cell (k * 5) (by omega)
        obtain ⟨q1, t1⟩ := hF1.out.cell (k * 5 + 1) (by omega)
        obtain ⟨q2, t2⟩ := hF1.out.cell (k * 5 + 2) (by omega)
        obtain ⟨q3, t3⟩ := hF1.out.cell (k * 5 + 3) (by omega)
        obtain ⟨q4, t4⟩ := hF1.out.cell (k * 5 + 4) (by omega)
        have z0 := hF1.out.frozen (k * 5)
        have z1 := hF1.out.frozen (k * 5 + 1)
        have z2 := hF1.out.frozen (k * 5 + 2)
        have z3 := hF1.out.frozen (k * 5 + 3)
        have z4 := hF1.out.frozen (k * 5 + 4)
        clear c0 c1 c2 c3 c4
        go_wp2_with fail
        go_roundw
        case rel => exact ⟨k + 1, by omega, by go_num, by go_grown, by simp; omega, by have := hF1.out.store (g := g) hlt (by omega) HI1.out; rw [DrawerL.d_len] at this; exact this⟩
        case measure => simp [intOf]; omega
      · go_wp2_with fail
        go_ret
        exact ⟨rfl, hB, hs, by have := hF.out; rwa [show k = len by omega] at this⟩

set_option maxHeartbeats 1000000 in
theorem eqIntS_has (v1 v2 : Value) (L : List Int) (w : World) (h1 : HasI w v1 L) (h2 : HasI w v2 L) (hL : L.length ≤ 1048576) :
    Calls Try.prog 34 #[v1, v2] w fun e w' => e = .returned (.bool true) ∧ Below w.heap.size w w' := by
  obtain ⟨a1, c1, rfl, hc1, g1, o1, rfl, l1, H1⟩ := h1
  obtain ⟨a2, c2, rfl, hc2, g2, o2, rfl, l2, H2⟩ := h2
  by_cases hn : L = []
  · clear H1 H2
    subst hn
    go_enter Try.func34, Try.ntmps34
    go_wp2
    refine wp_loop_rounds 1 ?_
    rw [rounds_succ]
    go_wp2
    go_ret
    exact ⟨rfl, Below.refl _ _⟩
  · have K1 := hid H1
    have K2 := hid H2
    clear H1 H2 hn
    obtain ⟨f, hf⟩ : ∃ f : Nat → Int, ∀ k, L.getD k 0 = f k := ⟨_, fun _ => rfl⟩
    obtain ⟨n, hn⟩ : ∃ n, n = L.length := ⟨_, rfl⟩
    rw [← hn] at hL hc1 hc2 K1 K2 ⊢
    have HF := hid hf
    clear hf hn
    go_enter Try.func34, Try.ntmps34
    go_wp2
    go_loopw [5] (fun i wr => ∃ k : Nat, k ≤ n ∧ i = .int .i64 k ∧ Below w.heap.size w wr) (fun i _ => n - (intOf i).toNat)
    case atStart => exact ⟨0, by omega, rfl, Below.refl _ _⟩
    case round =>
      obtain ⟨k, hk, rfl, hB⟩ := hrel
      by_cases hlt : k < n
      · have hq := fun x : Later wr => x.cell
        have lr1 : g1 < wr.heap.size := by have := hB.size; omega
        have lr2 : g2 < wr.heap.size := by have := hB.size; omega
        have e2 : (0 : Int) ≤ (k : Int) := by omega
        have e3 : (k : Int) < (n : Int) := by omega
        have p1 : wr.cell? ⟨g1, o1 + k, none⟩ = some (.int .i64 (f k)) := (hB.cell l1).trans (by rw [K1.out k hlt, HF.out])
        have p2 : wr.cell? ⟨g2, o2 + k, none⟩ = some (.int .i64 (f k)) := (hB.cell l2).trans (by rw [K2.out k hlt, HF.out])
        go_wp2_with fail
        refine region_later (by kernel_rfl) (by kernel_rfl) ?_
        repeat (go_big_quiet_step (fail))
        refine wpQuiet_nil ?_
        intro _ hw'
        obtain ⟨x, rfl⟩ := hw'
        have hB1 : Below w.heap.size w x.wd := Below.on hB hB.size x.below
        clear hq
        go_wp2_with fail
        go_roundw
        case rel => exact ⟨k + 1, by omega, by go_num, hB1⟩
        case measure => simp [intOf]; omega
      · go_wp2_with fail
        go_ret
        exact ⟨rfl, hB⟩

theorem eqDrawer_same (d : DrawerD) (v1 v2 : Value) (w : World) (h1 : HasI w v1 d.Flats) (h2 : HasI w v2 d.Flats) (hL : d.Flats.length ≤ 1048576) :
    Calls Try.prog 19 #[d.val v1, d.val v2] w fun e w' => e = .returned (.bool true) ∧ Below w.heap.size w w' := by
  have H1 := hid h1
  have H2 := hid h2
  clear h1 h2
  go_enter Try.func19, Try.ntmps19
  go_wp2_with fail
  refine (eqIntS_has v1 v2 d.Flats _ (H1.out.below ?_) (H2.out.below ?_) hL).mono ?_
  · go_grown
  · go_grown
  rintro e w1 ⟨rfl, hb1⟩
  have B1 : Below w.heap.size w w1 := Below.on (by go_grown) (by simp; omega) hb1
  go_wp2_with fail
  go_ret
  exact ⟨rfl, B1⟩

set_option maxHeartbeats 1000000 in
theorem eqDrawerS_same (b1 b2 o1 o2 c1 c2 len : Nat) (X : Nat → DrawerD) (S1 S2 : Nat → Value) (w : World) (h1 : Drs w b1 o1 len X S1) (h2 : Drs w b2 o2 len X S2) (hn : ∀ i, i < len → (X i).Flats.length ≤ 1048576) (hm : len ≤ 1048576) (hc1 : len ≤ c1) (hc2 : len ≤ c2) :
    Calls Try.prog 27 #[.slice (some ⟨b1, o1, none⟩) len c1, .slice (some ⟨b2, o2, none⟩) len c2] w fun e w' => e = .returned (.bool true) ∧ Below w.heap.size w w' := by
  have H1 := hid h1
  have H2 := hid h2
  have HN := hid hn
  have l1 := h1.rw.1
  have l2 := h2.rw.1
  clear h1 h2 hn
  go_enter Try.func27, Try.ntmps27
  go_wp2
  go_loopw [5] (fun i wr => ∃ k : Nat, k ≤ len ∧ i = .int .i64 k ∧ Below w.heap.size w wr) (fun i _ => len - (intOf i).toNat)
  case atStart => exact ⟨0, by omega, rfl, Below.refl _ _⟩
  case round =>
    obtain ⟨k, hk, rfl, hB⟩ := hrel
    by_cases hlt : k < len
    · have hq := fun x : Later wr => x.cell
      have lr1 : b1 < wr.heap.size := by have := hB.size; omega
      have lr2 : b2 < wr.heap.size := by have := hB.size; omega
      have e2 : (0 : Int) ≤ (k : Int) := by omega
      have e3 : (k : Int) < (len : Int) := by omega
      have p0 : wr.cell? ⟨b1, o1 + k * 5, none⟩ = some (.int .i64 (X k).Id) := (hB.cell l1).trans (H1.out.rw.2 k hlt 0 (by omega))
      have p1 : wr.cell? ⟨b1, o1 + k * 5 + 1, none⟩ = some (.int .i64 (X k).Wide) := (hB.cell l1).trans (H1.out.rw.2 k hlt 1 (by omega))
      have p2 : wr.cell? ⟨b1, o1 + k * 5 + 2, none⟩ = some (.int .i64 (X k).High) := (hB.cell l1).trans (H1.out.rw.2 k hlt 2 (by omega))
      have p3 : wr.cell? ⟨b1, o1 + k * 5 + 3, none⟩ = some (.int .i64 (X k).Holds) := (hB.cell l1).trans (H1.out.rw.2 k hlt 3 (by omega))
      have p4 : wr.cell? ⟨b1, o1 + k * 5 + 4, none⟩ = some (S1 k) := (hB.cell l1).trans (H1.out.rw.2 k hlt 4 (by omega))
      have r0 : wr.cell? ⟨b2, o2 + k * 5, none⟩ = some (.int .i64 (X k).Id) := (hB.cell l2).trans (H2.out.rw.2 k hlt 0 (by omega))
      have r1 : wr.cell? ⟨b2, o2 + k * 5 + 1, none⟩ = some (.int .i64 (X k).Wide) := (hB.cell l2).trans (H2.out.rw.2 k hlt 1 (by omega))
      have r2 : wr.cell? ⟨b2, o2 + k * 5 + 2, none⟩ = some (.int .i64 (X k).High) := (hB.cell l2).trans (H2.out.rw.2 k hlt 2 (by omega))
      have r3 : wr.cell? ⟨b2, o2 + k * 5 + 3, none⟩ = some (.int .i64 (X k).Holds) := (hB.cell l2).trans (H2.out.rw.2 k hlt 3 (by omega))
      have r4 : wr.cell? ⟨b2, o2 + k * 5 + 4, none⟩ = some (S2 k) := (hB.cell l2).trans (H2.out.rw.2 k hlt 4 (by omega))
      have K := hid (fun x : Later wr => calls_later (eqDrawer_same (X k) (S1 k) (S2 k) x.wd (((H1.out.has k hlt).below hB).below x.below) (((H2.out.has k hlt).below hB).below x.below) (HN.out k hlt)))
      go_wp2_with fail
      refine region_later (by kernel_rfl) (by kernel_rfl) ?_
      repeat (go_big_quiet_step ((go_at_call 19; refine (K.out _))))
      refine wpQuiet_nil ?_
      intro _ hw'
      obtain ⟨x, rfl⟩ := hw'
      have hB1 : Below w.heap.size w x.wd := Below.on hB hB.size x.below
      clear hq K
      go_wp2_with fail
      go_roundw
      case rel => exact ⟨k + 1, by omega, by go_num, hB1⟩
      case measure => simp [intOf]; omega
    · go_wp2_with fail
      go_ret
      exact ⟨rfl, hB⟩
end Go.Proofs.Ytejpmomedclnhaa
