/-
  How many readers are of each class, by the program and by the reference. No condition.
-/
import Derived.Test.YtlcgjcbpoinboaaRipe
import Derived.Test.YtlcgjcbpoinboaaOwnReader
namespace Go.Proofs.Ytlcgjcbpoinboaa
open Go.RowKit
set_option linter.unusedVariables false
set_option maxRecDepth 100000

/-- How many of the first k readers are of class j + 1. -/
def cf (X : Nat → ReaderD) : Nat → Nat → Int
  | 0, _ => 0
  | k + 1, j => cf X k j + (if (X k).Class = (j : Int) + 1 then 1 else 0)
theorem cf_bd (X : Nat → ReaderD) (j : Nat) : ∀ k : Nat, 0 ≤ cf X k j ∧ cf X k j ≤ k
  | 0 => by simp [cf]
  | k + 1 => by
    have := cf_bd X j k
    simp only [cf]
    split <;> omega
def AtCnt (g : Nat) (a b c : Int) (w : World) : Prop := w.heap[g]? = some (.cells #[.int .i64 a, .int .i64 b, .int .i64 c] 3 (0, 0))
theorem AtCnt.lt {g : Nat} {a b c : Int} {w : World} (h : AtCnt g a b c w) : g < w.heap.size := (Array.getElem?_eq_some_iff.1 h).1
theorem AtCnt.below {g : Nat} {a b c : Int} {w w' : World} (h : AtCnt g a b c w) (hb : Below w.heap.size w w') : AtCnt g a b c w' := (hb.block g h.lt).trans h
theorem AtCnt.frozen {g j : Nat} {a b c : Int} {w : World} (h : AtCnt g a b c w) : w.frozen? ⟨g, j, none⟩ = false := by
  have h' : w.heap[g]? = _ := h
  simp [World.frozen?, h']
theorem AtCnt.c0 {g : Nat} {a b c : Int} {w : World} (h : AtCnt g a b c w) : w.cell? ⟨g, 0, none⟩ = some (.int .i64 a) := by
  have h' : w.heap[g]? = _ := h
  simp [World.cell?, h']
theorem AtCnt.c1 {g : Nat} {a b c : Int} {w : World} (h : AtCnt g a b c w) : w.cell? ⟨g, 1, none⟩ = some (.int .i64 b) := by
  have h' : w.heap[g]? = _ := h
  simp [World.cell?, h']
theorem AtCnt.c2 {g : Nat} {a b c : Int} {w : World} (h : AtCnt g a b c w) : w.cell? ⟨g, 2, none⟩ = some (.int .i64 c) := by
  have h' : w.heap[g]? = _ := h
  simp [World.cell?, h']
theorem AtCnt.put0 {g : Nat} {a b c : Int} {w : World} (h : AtCnt g a b c w) (x : Int) : AtCnt g x b c (w.setCell ⟨g, 0, none⟩ (.int .i64 x)) := heap_setCell_same w g 0 _ 3 (.int .i64 x) h
theorem AtCnt.put1 {g : Nat} {a b c : Int} {w : World} (h : AtCnt g a b c w) (x : Int) : AtCnt g a x c (w.setCell ⟨g, 1, none⟩ (.int .i64 x)) := heap_setCell_same w g 1 _ 3 (.int .i64 x) h
theorem AtCnt.put2 {g : Nat} {a b c : Int} {w : World} (h : AtCnt g a b c w) (x : Int) : AtCnt g a b x (w.setCell ⟨g, 2, none⟩ (.int .i64 x)) := heap_setCell_same w g 2 _ 3 (.int .i64 x) h
theorem AtCnt.own {g B : Nat} {a b c : Int} {w : World} (h : AtCnt g a b c w) (hB : B ≤ g) : OwnI B w (.slice (some ⟨g, 0, none⟩) 3 3) [a, b, c] :=
  ⟨by simp, .inr ⟨g, 3, _, rfl, hB, h, by simp, by simp [maxLen], rfl, rfl⟩⟩
def ccOk (X : Nat → ReaderD) (n : Nat) : Bool := readersB X n
def ccL (X : Nat → ReaderD) (n : Nat) : List Int := if ccOk X n = true then [cf X n 0, cf X n 1, cf X n 2] else []
theorem ccL_le (X : Nat → ReaderD) (n : Nat) : (ccL X n).length ≤ 3 := by unfold ccL; split <;> simp
theorem ccL_no {X : Nat → ReaderD} {n : Nat} (h : ccOk X n = false) : ccL X n = [] := by unfold ccL; rw [h]; rfl
theorem ccL_ok {X : Nat → ReaderD} {n : Nat} (h : ccOk X n = true) : ccL X n = [cf X n 0, cf X n 1, cf X n 2] := by unfold ccL; rw [if_pos h]

set_option maxHeartbeats 4000000 in
theorem cc_spec (w : World) (b off len cap : Nat) (X : Nat → ReaderD) (h : Rw w b off 5 len (fun i => (X i).cells)) (hm : len ≤ 1048576) (hlc : len ≤ cap) (hnm : ∀ i, i < len → (X i).Name.size ≤ maxLen) :
    Calls Try.prog 35 #[.slice (some ⟨b, off, none⟩) len cap] w (RetIB (ccL X len) (ccOk X len) w) := by
  have H := hid h
  have HN := hid hnm
  have hb := h.1
  clear h hnm
  obtain ⟨i0, hi, hz0, hz1, hz2⟩ := info_parts info_int
  have hmk : ∀ (w : World), (Instr.makeSlice 53 (.int .i64 3) (.int .i64 3)).run Try.prog w = .ok (.slice (some ⟨w.heap.size, 0, none⟩) 3 3) (w.alloc (.cells #[.int .i64 0, .int .i64 0, .int .i64 0] 3)) := by
    intro w
    have := run_make (P := Try.prog) w 53 3 i0 _ Try.underlying53 hi hz0 .i64 .i64 3 3 (by omega) (Int.le_refl _) (by rw [hz2]; decide) (by omega)
    rw [hz1] at this
    have e3 : madeCells (Value.int .i64 0).cells (Int.toNat 3 * 1) = #[.int .i64 0, .int .i64 0, .int .i64 0] := by first | rfl | decide | kernel_rfl | (simp [madeCells, Value.cells])
    rw [e3] at this
    exact this
  clear hi hz0 hz1 hz2
  go_enter Try.func35, Try.ntmps35
  go_wp2_with fail
  refine (readers_spec _ b off len cap X H.out hm hlc HN.out).mono ?_
  rintro e w1 ⟨he, B1⟩
  change e = .returned (.bool (ccOk X len)) at he
  subst he
  by_cases hS : ccOk X len = true
  · have HS := hid hS
    have z1 := B1.size
    go_wp2_with fail
    go_loopw [5] (fun i wr => ∃ k : Nat, k ≤ len ∧ i = .int .i64 k ∧ Below w.heap.size w wr ∧ Hid (AtCnt w1.heap.size (cf X k 0) (cf X k 1) (cf X k 2) wr)) (fun i _ => len - (intOf i).toNat)
    case atStart => exact ⟨0, by omega, rfl, by go_grown, hid (heap_alloc_new w1 _)⟩
    case round =>
      clear hS hmk B1
      obtain ⟨k, hk, rfl, hB, hF⟩ := hrel
      have b0 := cf_bd X 0 k
      have b1 := cf_bd X 1 k
      have b2 := cf_bd X 2 k
      obtain ⟨a, ha⟩ : ∃ a, cf X k 0 = a := ⟨_, rfl⟩
      obtain ⟨bb, hbb⟩ : ∃ bb, cf X k 1 = bb := ⟨_, rfl⟩
      obtain ⟨c, hcc⟩ : ∃ c, cf X k 2 = c := ⟨_, rfl⟩
      rw [ha] at b0
      rw [hbb] at b1
      rw [hcc] at b2
      rw [ha, hbb, hcc] at hF
      have Ha := hid ha
      have Hb := hid hbb
      have Hc := hid hcc
      clear ha hbb hcc
      have lg := hF.out.lt
      have g0 := hF.out.c0
      have g1 := hF.out.c1
      have g2 := hF.out.c2
      have f0 := hF.out.frozen (j := 0)
      have f1 := hF.out.frozen (j := 1)
      have f2 := hF.out.frozen (j := 2)
      by_cases hlt : k < len
      · obtain ⟨_, _, q2, _⟩ := readersB_bd HS.out hlt
        have c0 : wr.cell? ⟨b, off + k * 5, none⟩ = some (.int .i64 (X k).Id) := (hB.cell hb).trans (H.out.2 k hlt 0 (by omega))
        have c1 : wr.cell? ⟨b, off + k * 5 + 1, none⟩ = some (.string (X k).Name) := (hB.cell hb).trans (H.out.2 k hlt 1 (by omega))
        have c2 : wr.cell? ⟨b, off + k * 5 + 2, none⟩ = some (.int .i64 (X k).Joined) := (hB.cell hb).trans (H.out.2 k hlt 2 (by omega))
        have c3 : wr.cell? ⟨b, off + k * 5 + 3, none⟩ = some (.int .i64 (X k).Class) := (hB.cell hb).trans (H.out.2 k hlt 3 (by omega))
        have c4 : wr.cell? ⟨b, off + k * 5 + 4, none⟩ = some (.int .i64 (X k).Fines) := (hB.cell hb).trans (H.out.2 k hlt 4 (by omega))
        have lb : b < wr.heap.size := by have := hB.size; omega
        have e4 : (0 : Int) ≤ (k : Int) := by omega
        have e5 : (k : Int) < (len : Int) := by omega
        have hq : (X k).Class = 1 ∨ (X k).Class = 2 ∨ (X k).Class = 3 := by omega
        clear q2
        rcases hq with hc | hc | hc
        · have hn : IntKind.i64.wrap (a + 1) = a + 1 := IntWalk.i64_in _ (by omega)
          have hn0 : cf X (k + 1) 0 = a + 1 := by simp only [cf]; rw [Ha.out, hc]; simp
          have hn1 : cf X (k + 1) 1 = bb := by simp only [cf]; rw [Hb.out, hc]; simp
          have hn2 : cf X (k + 1) 2 = c := by simp only [cf]; rw [Hc.out, hc]; simp
          rw [hc] at c3
          go_wp2_with fail
          go_roundw
          case rel => exact ⟨k + 1, by omega, by go_num, by go_grown, hid (by rw [hn0, hn1, hn2]; first | exact hF.out.put0 (a + 1) | exact (hF.out.below (by go_grown)).put0 (a + 1) | exact (hF.out.put0 (a + 1)).below (by go_grown))⟩
          case measure => simp [intOf]; omega
        · have hn : IntKind.i64.wrap (bb + 1) = bb + 1 := IntWalk.i64_in _ (by omega)
          have hn0 : cf X (k + 1) 0 = a := by simp only [cf]; rw [Ha.out, hc]; simp
          have hn1 : cf X (k + 1) 1 = bb + 1 := by simp only [cf]; rw [Hb.out, hc]; simp
          have hn2 : cf X (k + 1) 2 = c := by simp only [cf]; rw [Hc.out, hc]; simp
          rw [hc] at c3
          go_wp2_with fail
          go_roundw
          case rel => exact ⟨k + 1, by omega, by go_num, by go_grown, hid (by rw [hn0, hn1, hn2]; first | exact hF.out.put1 (bb + 1) | exact (hF.out.below (by go_grown)).put1 (bb + 1) | exact (hF.out.put1 (bb + 1)).below (by go_grown))⟩
          case measure => simp [intOf]; omega
        · have hn : IntKind.i64.wrap (c + 1) = c + 1 := IntWalk.i64_in _ (by omega)
          have hn0 : cf X (k + 1) 0 = a := by simp only [cf]; rw [Ha.out, hc]; simp
          have hn1 : cf X (k + 1) 1 = bb := by simp only [cf]; rw [Hb.out, hc]; simp
          have hn2 : cf X (k + 1) 2 = c + 1 := by simp only [cf]; rw [Hc.out, hc]; simp
          rw [hc] at c3
          go_wp2_with fail
          go_roundw
          case rel => exact ⟨k + 1, by omega, by go_num, by go_grown, hid (by rw [hn0, hn1, hn2]; first | exact hF.out.put2 (c + 1) | exact (hF.out.below (by go_grown)).put2 (c + 1) | exact (hF.out.put2 (c + 1)).below (by go_grown))⟩
          case measure => simp [intOf]; omega
      · obtain rfl : k = len := by omega
        go_wp2_with fail
        go_ret2
        exact ⟨_, by rw [HS.out]; rfl, by rw [ccL_ok HS.out, Ha.out, Hb.out, Hc.out]; exact hF.out.own (by omega), hB⟩
  · have hS' : ccOk X len = false := by simpa using hS
    have HS := hid hS'
    clear hS
    go_wp2_with fail
    go_ret2
    exact ⟨_, by rw [HS.out]; rfl, by rw [ccL_no HS.out]; exact (ownI_empty w1).base B1.size, B1.alloc B1.size _⟩

set_option maxHeartbeats 4000000 in
theorem cc_impl (w : World) (b off len cap : Nat) (X : Nat → ReaderD) (h : Rw w b off 5 len (fun i => (X i).cells)) (hm : len ≤ 1048576) (hlc : len ≤ cap) (hnm : ∀ i, i < len → (X i).Name.size ≤ maxLen) :
    Calls Try.prog 36 #[.slice (some ⟨b, off, none⟩) len cap] w (RetIB (ccL X len) (ccOk X len) w) := by
  have H := hid h
  have HN := hid hnm
  have hb := h.1
  clear h hnm
  obtain ⟨i0, hi, hz0, hz1, hz2⟩ := info_parts info_int
  have hmk : ∀ (w : World), (Instr.makeSlice 53 (.int .i64 3) (.int .i64 3)).run Try.prog w = .ok (.slice (some ⟨w.heap.size, 0, none⟩) 3 3) (w.alloc (.cells #[.int .i64 0, .int .i64 0, .int .i64 0] 3)) := by
    intro w
    have := run_make (P := Try.prog) w 53 3 i0 _ Try.underlying53 hi hz0 .i64 .i64 3 3 (by omega) (Int.le_refl _) (by rw [hz2]; decide) (by omega)
    rw [hz1] at this
    have e3 : madeCells (Value.int .i64 0).cells (Int.toNat 3 * 1) = #[.int .i64 0, .int .i64 0, .int .i64 0] := by first | rfl | decide | kernel_rfl | (simp [madeCells, Value.cells])
    rw [e3] at this
    exact this
  clear hi hz0 hz1 hz2
  go_enter Try.func36, Try.ntmps36
  go_wp2_with fail
  refine (readers_impl _ b off len cap X H.out hm hlc HN.out).mono ?_
  rintro e w1 ⟨he, B1⟩
  change e = .returned (.bool (ccOk X len)) at he
  subst he
  by_cases hS : ccOk X len = true
  · have HS := hid hS
    have z1 := B1.size
    go_wp2_with fail
    go_loopw [13] (fun i wr => ∃ k : Nat, k ≤ len ∧ i = .int .i64 k ∧ Below w.heap.size w wr ∧ Hid (AtCnt w1.heap.size (cf X k 0) (cf X k 1) (cf X k 2) wr)) (fun i _ => len - (intOf i).toNat)
    case atStart => exact ⟨0, by omega, rfl, by go_grown, hid (heap_alloc_new w1 _)⟩
    case round =>
      clear hS hmk B1
      obtain ⟨k, hk, rfl, hB, hF⟩ := hrel
      have b0 := cf_bd X 0 k
      have b1 := cf_bd X 1 k
      have b2 := cf_bd X 2 k
      obtain ⟨a, ha⟩ : ∃ a, cf X k 0 = a := ⟨_, rfl⟩
      obtain ⟨bb, hbb⟩ : ∃ bb, cf X k 1 = bb := ⟨_, rfl⟩
      obtain ⟨c, hcc⟩ : ∃ c, cf X k 2 = c := ⟨_, rfl⟩
      rw [ha] at b0
      rw [hbb] at b1
      rw [hcc] at b2
      rw [ha, hbb, hcc] at hF
      have Ha := hid ha
      have Hb := hid hbb
      have Hc := hid hcc
      clear ha hbb hcc
      have lg := hF.out.lt
      have g0 := hF.out.c0
      have g1 := hF.out.c1
      have g2 := hF.out.c2
      have f0 := hF.out.frozen (j := 0)
      have f1 := hF.out.frozen (j := 1)
      have f2 := hF.out.frozen (j := 2)
      by_cases hlt : k < len
      · obtain ⟨_, _, q2, _⟩ := readersB_bd HS.out hlt
        have c0 : wr.cell? ⟨b, off + k * 5, none⟩ = some (.int .i64 (X k).Id) := (hB.cell hb).trans (H.out.2 k hlt 0 (by omega))
        have c1 : wr.cell? ⟨b, off + k * 5 + 1, none⟩ = some (.string (X k).Name) := (hB.cell hb).trans (H.out.2 k hlt 1 (by omega))
        have c2 : wr.cell? ⟨b, off + k * 5 + 2, none⟩ = some (.int .i64 (X k).Joined) := (hB.cell hb).trans (H.out.2 k hlt 2 (by omega))
        have c3 : wr.cell? ⟨b, off + k * 5 + 3, none⟩ = some (.int .i64 (X k).Class) := (hB.cell hb).trans (H.out.2 k hlt 3 (by omega))
        have c4 : wr.cell? ⟨b, off + k * 5 + 4, none⟩ = some (.int .i64 (X k).Fines) := (hB.cell hb).trans (H.out.2 k hlt 4 (by omega))
        have lb : b < wr.heap.size := by have := hB.size; omega
        have e4 : (0 : Int) ≤ (k : Int) := by omega
        have e5 : (k : Int) < (len : Int) := by omega
        have hq : (X k).Class = 1 ∨ (X k).Class = 2 ∨ (X k).Class = 3 := by omega
        clear q2
        rcases hq with hc | hc | hc
        · have hn : IntKind.i64.wrap (a + 1) = a + 1 := IntWalk.i64_in _ (by omega)
          have hn0 : cf X (k + 1) 0 = a + 1 := by simp only [cf]; rw [Ha.out, hc]; simp
          have hn1 : cf X (k + 1) 1 = bb := by simp only [cf]; rw [Hb.out, hc]; simp
          have hn2 : cf X (k + 1) 2 = c := by simp only [cf]; rw [Hc.out, hc]; simp
          rw [hc] at c3
          go_wp2_with fail
          go_roundw
          case rel => exact ⟨k + 1, by omega, by go_num, by go_grown, hid (by rw [hn0, hn1, hn2]; first | exact hF.out.put0 (a + 1) | exact (hF.out.below (by go_grown)).put0 (a + 1) | exact (hF.out.put0 (a + 1)).below (by go_grown))⟩
          case measure => simp [intOf]; omega
        · have hn : IntKind.i64.wrap (bb + 1) = bb + 1 := IntWalk.i64_in _ (by omega)
          have hn0 : cf X (k + 1) 0 = a := by simp only [cf]; rw [Ha.out, hc]; simp
          have hn1 : cf X (k + 1) 1 = bb + 1 := by simp only [cf]; rw [Hb.out, hc]; simp
          have hn2 : cf X (k + 1) 2 = c := by simp only [cf]; rw [Hc.out, hc]; simp
          rw [hc] at c3
          go_wp2_with fail
          go_roundw
          case rel => exact ⟨k + 1, by omega, by go_num, by go_grown, hid (by rw [hn0, hn1, hn2]; first | exact hF.out.put1 (bb + 1) | exact (hF.out.below (by go_grown)).put1 (bb + 1) | exact (hF.out.put1 (bb + 1)).below (by go_grown))⟩
          case measure => simp [intOf]; omega
        · have hn : IntKind.i64.wrap (c + 1) = c + 1 := IntWalk.i64_in _ (by omega)
          have hn0 : cf X (k + 1) 0 = a := by simp only [cf]; rw [Ha.out, hc]; simp
          have hn1 : cf X (k + 1) 1 = bb := by simp only [cf]; rw [Hb.out, hc]; simp
          have hn2 : cf X (k + 1) 2 = c + 1 := by simp only [cf]; rw [Hc.out, hc]; simp
          rw [hc] at c3
          go_wp2_with fail
          go_roundw
          case rel => exact ⟨k + 1, by omega, by go_num, by go_grown, hid (by rw [hn0, hn1, hn2]; first | exact hF.out.put2 (c + 1) | exact (hF.out.below (by go_grown)).put2 (c + 1) | exact (hF.out.put2 (c + 1)).below (by go_grown))⟩
          case measure => simp [intOf]; omega
      · obtain rfl : k = len := by omega
        go_wp2_with fail
        go_ret2
        exact ⟨_, by rw [HS.out]; rfl, by rw [ccL_ok HS.out, Ha.out, Hb.out, Hc.out]; exact hF.out.own (by omega), hB⟩
  · have hS' : ccOk X len = false := by simpa using hS
    have HS := hid hS'
    clear hS
    go_wp2_with fail
    go_ret2
    exact ⟨_, by rw [HS.out]; rfl, by rw [ccL_no HS.out]; exact OwnI.nil _ _, B1⟩

set_option maxRecDepth 100000 in
set_option maxHeartbeats 8000000 in
theorem walk_ExactClassCounts (w : World) (p0 : Option Addr) (len0 cap0 : Nat) (X0 : Nat → ReaderD) (h0 : Sl w 5 p0 len0 (fun i => (X0 i).cells)) (ok0 : ∀ i, i < len0 → (X0 i).ok) (hm0 : len0 ≤ maxLen) :
    Calls Try.prog 8 #[.slice p0 len0 cap0] w fun e w' => e = .returned (.bool true) ∧ Below w.heap.size w w' := by
  go_enter Try.func8, Try.ntmps8
  go_wp2_with fail
  refine (szReaderS_any p0 len0 cap0 X0 _ h0 ok0 hm0).mono ?_
  rintro e w0 ⟨r, rfl, hb0, hr⟩
  have z0 := hb0.size
  clear ok0
  by_cases hr0 : r < 0
  · go_wp2_with fail
    go_ret
    exact ⟨rfl, hb0⟩
  obtain ⟨hL, hnm⟩ := hr (by omega)
  clear hr
  have hLL : (ccL X0 len0).length ≤ 1048576 := by have := ccL_le X0 len0; omega
  have hNM : Hid (∀ i, i < len0 → (X0 i).Name.size ≤ maxLen) := fun i hi => by have := hnm i hi; unfold maxLen; omega
  clear hnm
  obtain ⟨LL, hLe⟩ : ∃ LL, LL = ccL X0 len0 := ⟨_, rfl⟩
  have HLe := hid hLe
  rw [← hLe] at hLL
  clear hLe
  go_wp2_with fail
  refine (toReaderS_any p0 len0 cap0 X0 _ (h0.below hb0) (by omega)).mono ?_
  rintro e w1 ⟨rfl, hb1, hs1, F1⟩
  have z1 := hb1.size
  have B1 : Below w.heap.size w w1 := Below.on hb0 hb0.size hb1
  go_wp2_with fail
  refine (cc_spec _ _ 0 len0 len0 X0 F1.rw (by omega) (Nat.le_refl _) hNM.out).mono ?_
  rintro e w2 ⟨v, rfl, oV0, hb2⟩
  rw [← HLe.out] at oV0
  have oV := hid oV0
  clear oV0
  have z2 := hb2.size
  have B2 : Below w.heap.size w w2 := Below.on B1 B1.size hb2
  go_wp2_with fail
  refine (toReaderS_any p0 len0 cap0 X0 _ (h0.below B2) (by omega)).mono ?_
  rintro e w3 ⟨rfl, hb3, hs3, F3⟩
  have z3 := hb3.size
  have B3 : Below w.heap.size w w3 := Below.on B2 B2.size hb3
  go_wp2_with fail
  refine (cc_impl _ _ 0 len0 len0 X0 F3.rw (by omega) (Nat.le_refl _) hNM.out).mono ?_
  rintro e w4 ⟨g, rfl, oG0, hb4⟩
  rw [← HLe.out] at oG0
  have oG := hid oG0
  clear oG0
  have z4 := hb4.size
  have B4 : Below w.heap.size w w4 := Below.on B3 B3.size hb4
  go_wp2_with fail
  refine (eqIntS_own g v LL _ _ _ oG.out ((oV.out.below hb3).below hb4) hLL).mono ?_
  rintro e w5 ⟨rfl, hb5⟩
  have z5 := hb5.size
  have B5 : Below w.heap.size w w5 := Below.on B4 B4.size hb5
  go_wp2_with fail
  refine (toReaderS_any p0 len0 cap0 X0 _ (h0.below B5) (by omega)).mono ?_
  rintro e w6 ⟨rfl, hb6, hs6, F6⟩
  have z6 := hb6.size
  have B6 : Below w.heap.size w w6 := Below.on B5 B5.size hb6
  go_wp2_with fail
  refine (eqReaderS_same _ _ 0 0 len0 len0 len0 X0 _ (((F3.rw.later' hb4).later' hb5).later' hb6) F6.rw (by omega) (Nat.le_refl _) (Nat.le_refl _)).mono ?_
  rintro e w7 ⟨rfl, hb7⟩
  have z7 := hb7.size
  have B7 : Below w.heap.size w w7 := Below.on B6 B6.size hb7
  go_wp2_with fail
  refine (markReaderS_any _ len0 len0 len0 1 _ ((((F3.below hb4 (by omega)).below hb5 (by omega)).below hb6 (by omega)).below hb7 (by omega)).blk (Nat.le_refl _) (Nat.le_refl _) (by omega) (by omega) (by omega)).mono ?_
  rintro e w8 ⟨rfl, gr8, _, _⟩
  have z8 := gr8.size
  have B8 : Below w.heap.size w w8 := B7.grown gr8 B7.size (fun k hk => by cases hk; omega)
  have oV8 := hid (((((((oV.out.below hb3).below hb4).below hb5).below hb6).below hb7)).kept gr8 (oV.out.ne_lo (by omega)))
  have oG8 := hid (((((oG.out.below hb5).below hb6).below hb7)).kept gr8 (oG.out.ne_hi (by omega)))
  go_wp2_with fail
  refine (eqIntS_own g v LL _ _ _ oG8.out oV8.out hLL).mono ?_
  rintro e w9 ⟨rfl, hb9⟩
  have z9 := hb9.size
  have B9 : Below w.heap.size w w9 := Below.on B8 B8.size hb9
  go_wp2_with fail
  refine (markIntS_own g LL _ 1 _ (oG8.out.below hb9) (by omega) (by omega) (by omega)).mono ?_
  rintro e w10 ⟨rfl, oM0, gr10⟩
  have oM := hid oM0
  clear oM0
  have z10 := gr10.size
  have B10 : Below w.heap.size w w10 := B9.grown gr10 B9.size (fun k hk => by have := oG.out.ge k hk; omega)
  have oV10 := hid ((oV8.out.below hb9).kept gr10 (own_ne oV.out.lt (fun k hk => by have := oG.out.ge k hk; omega)))
  go_wp2_with fail
  refine (heldIntS_own g LL.length _ 1 _ oM.out (by omega) (by omega) (by omega)).mono ?_
  rintro e w11 ⟨rfl, rfl⟩
  go_wp2_with fail
  refine (toReaderS_any p0 len0 cap0 X0 _ (h0.below B10) (by omega)).mono ?_
  rintro e w12 ⟨rfl, hb12, hs12, F12⟩
  have z12 := hb12.size
  have B12 : Below w.heap.size w w12 := Below.on B10 B10.size hb12
  go_wp2_with fail
  refine (cc_impl _ _ 0 len0 len0 X0 F12.rw (by omega) (Nat.le_refl _) hNM.out).mono ?_
  rintro e w13 ⟨u, rfl, oH0, hb13⟩
  rw [← HLe.out] at oH0
  have oH := hid oH0
  clear oH0
  have z13 := hb13.size
  have B13 : Below w.heap.size w w13 := Below.on B12 B12.size hb13
  go_wp2_with fail
  refine (eqIntS_own u v LL _ _ _ oH.out ((oV10.out.below hb12).below hb13) hLL).mono ?_
  rintro e w14 ⟨rfl, hb14⟩
  have z14 := hb14.size
  have B14 : Below w.heap.size w w14 := Below.on B13 B13.size hb14
  go_wp2_with fail
  refine (heldIntS_own g LL.length _ 1 _ (((oM.out.below hb12).below hb13).below hb14) (by omega) (by omega) (by omega)).mono ?_
  rintro e w15 ⟨rfl, rfl⟩
  go_wp2_with fail
  go_ret
  exact ⟨rfl, B14⟩

end Go.Proofs.Ytlcgjcbpoinboaa
