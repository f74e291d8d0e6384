/-
  The best sheet that shows a place, by the program and by the reference. No condition.
-/
import Derived.Test.YtigiihhfmdgdlaaPlace
namespace Go.Proofs.Ytigiihhfmdgdlaa
open Go.RowKit
set_option linter.unusedVariables false
set_option maxRecDepth 100000

/-- Block H holds the sheet s. -/
def AtSheet (H : Nat) (s : SheetD) (w : World) : Prop := w.heap[H]? = some (.cells #[.int .i64 s.Id, .int .i64 s.Row, .int .i64 s.Col, .int .i64 s.Scale, .int .i64 s.Year] 73 (0, 0))
theorem AtSheet.new (s : SheetD) (w : World) : AtSheet w.heap.size s (w.alloc (.cells #[.int .i64 s.Id, .int .i64 s.Row, .int .i64 s.Col, .int .i64 s.Scale, .int .i64 s.Year] 73)) := heap_alloc_new w _
theorem AtSheet.lt {H : Nat} {s : SheetD} {w : World} (h : AtSheet H s w) : H < w.heap.size := (Array.getElem?_eq_some_iff.1 h).1
theorem AtSheet.below {H : Nat} {s : SheetD} {w w' : World} (h : AtSheet H s w) (hb : Below w.heap.size w w') : AtSheet H s w' := (hb.block H h.lt).trans h
theorem AtSheet.frozen {H j : Nat} {s : SheetD} {w : World} (h : AtSheet H s w) : w.frozen? ⟨H, j, none⟩ = false := by
  have h' : w.heap[H]? = _ := h
  simp [World.frozen?, h']

theorem AtSheet.c0 {H : Nat} {s : SheetD} {w : World} (h : AtSheet H s w) : w.cell? ⟨H, 0, none⟩ = some (.int .i64 s.Id) := by
  have h' : w.heap[H]? = _ := h
  simp [World.cell?, h']
theorem AtSheet.c1 {H : Nat} {s : SheetD} {w : World} (h : AtSheet H s w) : w.cell? ⟨H, 1, none⟩ = some (.int .i64 s.Row) := by
  have h' : w.heap[H]? = _ := h
  simp [World.cell?, h']
theorem AtSheet.c2 {H : Nat} {s : SheetD} {w : World} (h : AtSheet H s w) : w.cell? ⟨H, 2, none⟩ = some (.int .i64 s.Col) := by
  have h' : w.heap[H]? = _ := h
  simp [World.cell?, h']
theorem AtSheet.c3 {H : Nat} {s : SheetD} {w : World} (h : AtSheet H s w) : w.cell? ⟨H, 3, none⟩ = some (.int .i64 s.Scale) := by
  have h' : w.heap[H]? = _ := h
  simp [World.cell?, h']
theorem AtSheet.c4 {H : Nat} {s : SheetD} {w : World} (h : AtSheet H s w) : w.cell? ⟨H, 4, none⟩ = some (.int .i64 s.Year) := by
  have h' : w.heap[H]? = _ := h
  simp [World.cell?, h']
theorem AtSheet.put {H : Nat} {s : SheetD} {w : World} (h : AtSheet H s w) (t : SheetD) : AtSheet H t (((((w.setCell ⟨H, 0, none⟩ (.int .i64 t.Id)).setCell ⟨H, 1, none⟩ (.int .i64 t.Row)).setCell ⟨H, 2, none⟩ (.int .i64 t.Col)).setCell ⟨H, 3, none⟩ (.int .i64 t.Scale)).setCell ⟨H, 4, none⟩ (.int .i64 t.Year)) := by
  have g1 := heap_setCell_same w H 0 _ 73 (.int .i64 t.Id) h
  have g2 := heap_setCell_same _ H 1 _ 73 (.int .i64 t.Row) g1
  have g3 := heap_setCell_same _ H 2 _ 73 (.int .i64 t.Col) g2
  have g4 := heap_setCell_same _ H 3 _ 73 (.int .i64 t.Scale) g3
  have g5 := heap_setCell_same _ H 4 _ 73 (.int .i64 t.Year) g4
  exact g5

/-- Sheet s shows the place and is better than the best one so far. -/
def betterB (x y : Int) (s t : SheetD) : Bool := plB x y s && ((t.Id == 0 || decide (s.Scale < t.Scale)) || (s.Scale == t.Scale && decide (s.Year > t.Year)))
def bestS (X : Nat → SheetD) (x y : Int) : Nat → SheetD
  | 0 => ⟨0, 0, 0, 0, 0⟩
  | k + 1 => if betterB x y (X k) (bestS X x y k) = true then X k else bestS X x y k
theorem bestS_yes {X : Nat → SheetD} {x y : Int} {k : Nat} (h : betterB x y (X k) (bestS X x y k) = true) : bestS X x y (k + 1) = X k := by simp [bestS, h]
theorem bestS_no {X : Nat → SheetD} {x y : Int} {k : Nat} (h : betterB x y (X k) (bestS X x y k) = false) : bestS X x y (k + 1) = bestS X x y k := by simp [bestS, h]
def bestI (X : Nat → SheetD) (n : Nat) (x y : Int) : Int := if (sheetsB X n && placeB x y) = true then (bestS X x y n).Id else 0
def bestB (X : Nat → SheetD) (n : Nat) (x y : Int) : Bool := decide (bestI X n x y > 0)
theorem best_miss {X : Nat → SheetD} {n : Nat} {x y : Int} (h : sheetsB X n = false ∨ placeB x y = false) : bestI X n x y = 0 ∧ bestB X n x y = false := by
  have h1 : bestI X n x y = 0 := by unfold bestI; rcases h with h | h <;> simp [h]
  exact ⟨h1, by unfold bestB; rw [h1]; rfl⟩
theorem best_hit {X : Nat → SheetD} {n : Nat} {x y : Int} (h : sheetsB X n = true) (hp : placeB x y = true) : bestI X n x y = (bestS X x y n).Id ∧ bestB X n x y = decide ((bestS X x y n).Id > 0) := by
  have h1 : bestI X n x y = (bestS X x y n).Id := by unfold bestI; rw [h, hp]; rfl
  exact ⟨h1, by unfold bestB; rw [h1]⟩

set_option maxHeartbeats 4000000 in
theorem best_spec (w : World) (b off len cap : Nat) (X : Nat → SheetD) (x y : Int) (h : Rw w b off 5 len (fun i => (X i).cells)) (hm : len ≤ 1048576) (hlc : len ≤ cap) :
    Calls Try.prog 26 #[.slice (some ⟨b, off, none⟩) len cap, .int .i64 x, .int .i64 y] w fun e w' => e = .returned (.tuple #[.int .i64 (bestI X len x y), .bool (bestB X len x y)]) ∧ Below w.heap.size w w' := by
  have H := hid h
  have hb := h.1
  clear h
  go_enter Try.func26, Try.ntmps26
  go_wp2_with fail
  refine (sheets_spec _ b off len cap X H.out hm hlc).mono ?_
  rintro e w1 ⟨rfl, B1⟩
  by_cases hS : sheetsB X len = true
  · have HS := hid hS
    go_wp2_with fail
    refine (place_spec _ _ _).mono ?_
    rintro e wq ⟨rfl, rfl⟩
    by_cases hP : placeB x y = true
    · have HP := hid hP
      have HE := hid ((best_hit (n := len) hS hP))
      have z1 := B1.size
      go_wp2_with fail
      go_loopw [9] (fun i wr => ∃ k : Nat, k ≤ len ∧ i = .int .i64 k ∧ Below w.heap.size w wr ∧ Hid (AtSheet w1.heap.size (bestS X x y k) wr)) (fun i _ => len - (intOf i).toNat)
      case atStart =>
        refine ⟨0, by omega, rfl, by go_grown, hid ?_⟩
        show AtSheet w1.heap.size ⟨0, 0, 0, 0, 0⟩ _
        first | exact AtSheet.new ⟨0, 0, 0, 0, 0⟩ w1 | exact (AtSheet.new ⟨0, 0, 0, 0, 0⟩ w1).put ⟨0, 0, 0, 0, 0⟩
      case round =>
        clear hS hP
        obtain ⟨k, hk, rfl, hB, hF⟩ := hrel
        obtain ⟨t, ht⟩ : ∃ t, bestS X x y k = t := ⟨_, rfl⟩
        have HT := hid ht
        rw [ht] at hF
        clear ht
        have lB := hF.out.lt
        by_cases hlt : k < len
        · have c0 : wr.cell? ⟨b, off + k * 5, none⟩ = some (.int .i64 (X k).Id) := (hB.cell hb).trans (H.out.2 k hlt 0 (by omega))
          have c1 : wr.cell? ⟨b, off + k * 5 + 1, none⟩ = some (.int .i64 (X k).Row) := (hB.cell hb).trans (H.out.2 k hlt 1 (by omega))
          have c2 : wr.cell? ⟨b, off + k * 5 + 2, none⟩ = some (.int .i64 (X k).Col) := (hB.cell hb).trans (H.out.2 k hlt 2 (by omega))
          have c3 : wr.cell? ⟨b, off + k * 5 + 3, none⟩ = some (.int .i64 (X k).Scale) := (hB.cell hb).trans (H.out.2 k hlt 3 (by omega))
          have c4 : wr.cell? ⟨b, off + k * 5 + 4, none⟩ = some (.int .i64 (X k).Year) := (hB.cell hb).trans (H.out.2 k hlt 4 (by omega))
          have lb : b < wr.heap.size := by have := hB.size; omega
          have hA2 : Below w.heap.size w (wr.alloc (.cells #[.int .i64 (X k).Id, .int .i64 (X k).Row, .int .i64 (X k).Col, .int .i64 (X k).Scale, .int .i64 (X k).Year] 73)) := hB.alloc hB.size _
          go_wp2_with fail
          refine (pl_spec (X k) x y HP.out (sheetsB_valid HS.out hlt) _).mono ?_
          rintro e w2 ⟨rfl, hb2⟩
          have B2 := Below.on hA2 hA2.size hb2
          have z2 := hb2.size
          simp only [World.size_alloc] at z2
          have F2 := hid ((hF.out.below (by go_grown : Below wr.heap.size wr (wr.alloc (.cells #[.int .i64 (X k).Id, .int .i64 (X k).Row, .int .i64 (X k).Col, .int .i64 (X k).Scale, .int .i64 (X k).Year] 73)))).below hb2)
          have e0 : w2.cell? ⟨wr.heap.size, 0, none⟩ = some (.int .i64 (X k).Id) := (hb2.cell (by simp)).trans (by simp [go_sem])
          have e1 : w2.cell? ⟨wr.heap.size, 1, none⟩ = some (.int .i64 (X k).Row) := (hb2.cell (by simp)).trans (by simp [go_sem])
          have e2 : w2.cell? ⟨wr.heap.size, 2, none⟩ = some (.int .i64 (X k).Col) := (hb2.cell (by simp)).trans (by simp [go_sem])
          have e3 : w2.cell? ⟨wr.heap.size, 3, none⟩ = some (.int .i64 (X k).Scale) := (hb2.cell (by simp)).trans (by simp [go_sem])
          have e4 : w2.cell? ⟨wr.heap.size, 4, none⟩ = some (.int .i64 (X k).Year) := (hb2.cell (by simp)).trans (by simp [go_sem])
          have f0 := F2.out.c0
          have f1 := F2.out.c1
          have f2 := F2.out.c2
          have f3 := F2.out.c3
          have f4 := F2.out.c4
          have z3 := F2.out.frozen (j := 0)
          have z4 := F2.out.frozen (j := 1)
          have z5 := F2.out.frozen (j := 2)
          have z6 := F2.out.frozen (j := 3)
          have z7 := F2.out.frozen (j := 4)
          clear c0 c1 c2 c3 c4
          by_cases g1 : plB x y (X k) = true
          · by_cases g2 : t.Id = 0
            · have hp : Hid (betterB x y (X k) t = true) := by simp [Hid, betterB, g1, g2]
              have d2 : decide (t.Id = 0) = true := by simp [g2]
              have d2' : (t.Id == 0) = true := by simp [g2]
              clear g2
              go_wp2_with fail
              go_roundw
              case rel => exact ⟨k + 1, by omega, by go_num, by go_grown, hid (by rw [bestS_yes (by rw [HT.out]; exact hp.out)]; exact F2.out.put (X k))⟩
              case measure => simp [intOf]; omega
            · have d2 : decide (t.Id = 0) = false := by simp [g2]
              have d2' : (t.Id == 0) = false := by simp [g2]
              by_cases g3 : (X k).Scale < t.Scale
              · have hp : Hid (betterB x y (X k) t = true) := by simp [Hid, betterB, g1, g3]
                have d3 : decide ((X k).Scale < t.Scale) = true := by simp [g3]
                clear g2 g3
                go_wp2_with fail
                go_roundw
                case rel => exact ⟨k + 1, by omega, by go_num, by go_grown, hid (by rw [bestS_yes (by rw [HT.out]; exact hp.out)]; exact F2.out.put (X k))⟩
                case measure => simp [intOf]; omega
              · have d3 : decide ((X k).Scale < t.Scale) = false := by simp [g3]
                by_cases g4 : (X k).Scale = t.Scale
                · have d4 : decide ((X k).Scale = t.Scale) = true := by simp [g4]
                  have d4' : ((X k).Scale == t.Scale) = true := by simp [g4]
                  by_cases g5 : t.Year < (X k).Year
                  · have hp : Hid (betterB x y (X k) t = true) := by simp [Hid, betterB, g1, g4, g5]
                    have d5 : decide (t.Year < (X k).Year) = true := by simp [g5]
                    clear g2 g3 g4 g5
                    go_wp2_with fail
                    go_roundw
                    case rel => exact ⟨k + 1, by omega, by go_num, by go_grown, hid (by rw [bestS_yes (by rw [HT.out]; exact hp.out)]; exact F2.out.put (X k))⟩
                    case measure => simp [intOf]; omega
                  · have hp : Hid (betterB x y (X k) t = false) := by simp [Hid, betterB, g2, g4]; omega
                    have d5 : decide (t.Year < (X k).Year) = false := by simp [g5]
                    clear g2 g3 g4 g5
                    go_wp2_with fail
                    go_roundw
                    case rel => exact ⟨k + 1, by omega, by go_num, B2, hid (by rw [bestS_no (by rw [HT.out]; exact hp.out), HT.out]; exact F2.out)⟩
                    case measure => simp [intOf]; omega
                · have hp : Hid (betterB x y (X k) t = false) := by simp [Hid, betterB, g2, g4]; omega
                  have d4 : decide ((X k).Scale = t.Scale) = false := by simp [g4]
                  have d4' : ((X k).Scale == t.Scale) = false := by simp [g4]
                  clear g2 g3 g4
                  go_wp2_with fail
                  go_roundw
                  case rel => exact ⟨k + 1, by omega, by go_num, B2, hid (by rw [bestS_no (by rw [HT.out]; exact hp.out), HT.out]; exact F2.out)⟩
                  case measure => simp [intOf]; omega
          · have g1' : plB x y (X k) = false := by simpa using g1
            clear g1
            have hp : Hid (betterB x y (X k) t = false) := by simp [Hid, betterB, g1']
            go_wp2_with fail
            go_roundw
            case rel => exact ⟨k + 1, by omega, by go_num, B2, hid (by rw [bestS_no (by rw [HT.out]; exact hp.out), HT.out]; exact F2.out)⟩
            case measure => simp [intOf]; omega
        · obtain rfl : k = len := by omega
          have f0 := hF.out.c0
          have f1 := hF.out.c1
          have f2 := hF.out.c2
          have f3 := hF.out.c3
          have f4 := hF.out.c4
          go_wp2_with fail
          have hq := fun x : Later wr => x.cell
          refine region_later (by kernel_rfl) (by kernel_rfl) ?_
          repeat (go_big_quiet_step (fail))
          refine wpQuiet_nil ?_
          intro _ hw'
          obtain ⟨xx, rfl⟩ := hw'
          clear hq
          go_wp2_with fail
          go_ret2
          exact ⟨by rw [HE.out.1, HE.out.2, HT.out]; rfl, Below.on hB hB.size xx.below⟩
    · have hP' : placeB x y = false := by simpa using hP
      clear hP
      go_wp2_with fail
      go_ret2
      exact ⟨by rw [(best_miss (.inr hP')).1, (best_miss (.inr hP')).2]; rfl, B1⟩
  · have hS' : sheetsB X len = false := by simpa using hS
    clear hS
    go_wp2_with fail
    go_ret2
    exact ⟨by rw [(best_miss (.inl hS')).1, (best_miss (.inl hS')).2]; rfl, B1⟩

set_option maxHeartbeats 4000000 in
theorem best_impl (w : World) (b off len cap : Nat) (X : Nat → SheetD) (x y : Int) (h : Rw w b off 5 len (fun i => (X i).cells)) (hm : len ≤ 1048576) (hlc : len ≤ cap) :
    Calls Try.prog 28 #[.slice (some ⟨b, off, none⟩) len cap, .int .i64 x, .int .i64 y] w fun e w' => e = .returned (.tuple #[.int .i64 (bestI X len x y), .bool (bestB X len x y)]) ∧ Below w.heap.size w w' := by
  have H := hid h
  have hb := h.1
  clear h
  go_enter Try.func28, Try.ntmps28
  go_wp2_with fail
  refine (sheets_impl _ b off len cap X H.out hm hlc).mono ?_
  rintro e w1 ⟨rfl, B1⟩
  by_cases hS : sheetsB X len = true
  · have HS := hid hS
    go_wp2_with fail
    refine (place_impl _ _ _).mono ?_
    rintro e wq ⟨rfl, rfl⟩
    by_cases hP : placeB x y = true
    · have HP := hid hP
      have HE := hid ((best_hit (n := len) hS hP))
      have z1 := B1.size
      go_wp2_with fail
      go_loopw [22] (fun i wr => ∃ k : Nat, k ≤ len ∧ i = .int .i64 k ∧ Below w.heap.size w wr ∧ Hid (AtSheet w1.heap.size (bestS X x y k) wr)) (fun i _ => len - (intOf i).toNat)
      case atStart =>
        refine ⟨0, by omega, rfl, by go_grown, hid ?_⟩
        show AtSheet w1.heap.size ⟨0, 0, 0, 0, 0⟩ _
        first | exact AtSheet.new ⟨0, 0, 0, 0, 0⟩ w1 | exact (AtSheet.new ⟨0, 0, 0, 0, 0⟩ w1).put ⟨0, 0, 0, 0, 0⟩
      case round =>
        clear hS hP
        obtain ⟨k, hk, rfl, hB, hF⟩ := hrel
        obtain ⟨t, ht⟩ : ∃ t, bestS X x y k = t := ⟨_, rfl⟩
        have HT := hid ht
        rw [ht] at hF
        clear ht
        have lB := hF.out.lt
        by_cases hlt : k < len
        · have c0 : wr.cell? ⟨b, off + k * 5, none⟩ = some (.int .i64 (X k).Id) := (hB.cell hb).trans (H.out.2 k hlt 0 (by omega))
          have c1 : wr.cell? ⟨b, off + k * 5 + 1, none⟩ = some (.int .i64 (X k).Row) := (hB.cell hb).trans (H.out.2 k hlt 1 (by omega))
          have c2 : wr.cell? ⟨b, off + k * 5 + 2, none⟩ = some (.int .i64 (X k).Col) := (hB.cell hb).trans (H.out.2 k hlt 2 (by omega))
          have c3 : wr.cell? ⟨b, off + k * 5 + 3, none⟩ = some (.int .i64 (X k).Scale) := (hB.cell hb).trans (H.out.2 k hlt 3 (by omega))
          have c4 : wr.cell? ⟨b, off + k * 5 + 4, none⟩ = some (.int .i64 (X k).Year) := (hB.cell hb).trans (H.out.2 k hlt 4 (by omega))
          have lb : b < wr.heap.size := by have := hB.size; omega
          have hA2 : Below w.heap.size w (wr.alloc (.cells #[.int .i64 (X k).Id, .int .i64 (X k).Row, .int .i64 (X k).Col, .int .i64 (X k).Scale, .int .i64 (X k).Year] 73)) := hB.alloc hB.size _
          go_wp2_with fail
          refine (pl_impl (X k) x y HP.out (sheetsB_valid HS.out hlt) _).mono ?_
          rintro e w2 ⟨rfl, hb2⟩
          have B2 := Below.on hA2 hA2.size hb2
          have z2 := hb2.size
          simp only [World.size_alloc] at z2
          have F2 := hid ((hF.out.below (by go_grown : Below wr.heap.size wr (wr.alloc (.cells #[.int .i64 (X k).Id, .int .i64 (X k).Row, .int .i64 (X k).Col, .int .i64 (X k).Scale, .int .i64 (X k).Year] 73)))).below hb2)
          have e0 : w2.cell? ⟨wr.heap.size, 0, none⟩ = some (.int .i64 (X k).Id) := (hb2.cell (by simp)).trans (by simp [go_sem])
          have e1 : w2.cell? ⟨wr.heap.size, 1, none⟩ = some (.int .i64 (X k).Row) := (hb2.cell (by simp)).trans (by simp [go_sem])
          have e2 : w2.cell? ⟨wr.heap.size, 2, none⟩ = some (.int .i64 (X k).Col) := (hb2.cell (by simp)).trans (by simp [go_sem])
          have e3 : w2.cell? ⟨wr.heap.size, 3, none⟩ = some (.int .i64 (X k).Scale) := (hb2.cell (by simp)).trans (by simp [go_sem])
          have e4 : w2.cell? ⟨wr.heap.size, 4, none⟩ = some (.int .i64 (X k).Year) := (hb2.cell (by simp)).trans (by simp [go_sem])
          have f0 := F2.out.c0
          have f1 := F2.out.c1
          have f2 := F2.out.c2
          have f3 := F2.out.c3
          have f4 := F2.out.c4
          have z3 := F2.out.frozen (j := 0)
          have z4 := F2.out.frozen (j := 1)
          have z5 := F2.out.frozen (j := 2)
          have z6 := F2.out.frozen (j := 3)
          have z7 := F2.out.frozen (j := 4)
          clear c0 c1 c2 c3 c4
          by_cases g1 : plB x y (X k) = true
          · by_cases g2 : t.Id = 0
            · have hp : Hid (betterB x y (X k) t = true) := by simp [Hid, betterB, g1, g2]
              have d2 : decide (t.Id = 0) = true := by simp [g2]
              have d2' : (t.Id == 0) = true := by simp [g2]
              clear g2
              go_wp2_with fail
              go_roundw
              case rel => exact ⟨k + 1, by omega, by go_num, by go_grown, hid (by rw [bestS_yes (by rw [HT.out]; exact hp.out)]; exact F2.out.put (X k))⟩
              case measure => simp [intOf]; omega
            · have d2 : decide (t.Id = 0) = false := by simp [g2]
              have d2' : (t.Id == 0) = false := by simp [g2]
              by_cases g3 : (X k).Scale < t.Scale
              · have hp : Hid (betterB x y (X k) t = true) := by simp [Hid, betterB, g1, g3]
                have d3 : decide ((X k).Scale < t.Scale) = true := by simp [g3]
                clear g2 g3
                go_wp2_with fail
                go_roundw
                case rel => exact ⟨k + 1, by omega, by go_num, by go_grown, hid (by rw [bestS_yes (by rw [HT.out]; exact hp.out)]; exact F2.out.put (X k))⟩
                case measure => simp [intOf]; omega
              · have d3 : decide ((X k).Scale < t.Scale) = false := by simp [g3]
                by_cases g4 : (X k).Scale = t.Scale
                · have d4 : decide ((X k).Scale = t.Scale) = true := by simp [g4]
                  have d4' : ((X k).Scale == t.Scale) = true := by simp [g4]
                  by_cases g5 : t.Year < (X k).Year
                  · have hp : Hid (betterB x y (X k) t = true) := by simp [Hid, betterB, g1, g4, g5]
                    have d5 : decide (t.Year < (X k).Year) = true := by simp [g5]
                    clear g2 g3 g4 g5
                    go_wp2_with fail
                    go_roundw
                    case rel => exact ⟨k + 1, by omega, by go_num, by go_grown, hid (by rw [bestS_yes (by rw [HT.out]; exact hp.out)]; exact F2.out.put (X k))⟩
                    case measure => simp [intOf]; omega
                  · have hp : Hid (betterB x y (X k) t = false) := by simp [Hid, betterB, g2, g4]; omega
                    have d5 : decide (t.Year < (X k).Year) = false := by simp [g5]
                    clear g2 g3 g4 g5
                    go_wp2_with fail
                    go_roundw
                    case rel => exact ⟨k + 1, by omega, by go_num, B2, hid (by rw [bestS_no (by rw [HT.out]; exact hp.out), HT.out]; exact F2.out)⟩
                    case measure => simp [intOf]; omega
                · have hp : Hid (betterB x y (X k) t = false) := by simp [Hid, betterB, g2, g4]; omega
                  have d4 : decide ((X k).Scale = t.Scale) = false := by simp [g4]
                  have d4' : ((X k).Scale == t.Scale) = false := by simp [g4]
                  clear g2 g3 g4
                  go_wp2_with fail
                  go_roundw
                  case rel => exact ⟨k + 1, by omega, by go_num, B2, hid (by rw [bestS_no (by rw [HT.out]; exact hp.out), HT.out]; exact F2.out)⟩
                  case measure => simp [intOf]; omega
          · have g1' : plB x y (X k) = false := by simpa using g1
            clear g1
            have hp : Hid (betterB x y (X k) t = false) := by simp [Hid, betterB, g1']
            go_wp2_with fail
            go_roundw
            case rel => exact ⟨k + 1, by omega, by go_num, B2, hid (by rw [bestS_no (by rw [HT.out]; exact hp.out), HT.out]; exact F2.out)⟩
            case measure => simp [intOf]; omega
        · obtain rfl : k = len := by omega
          have f0 := hF.out.c0
          have f1 := hF.out.c1
          have f2 := hF.out.c2
          have f3 := hF.out.c3
          have f4 := hF.out.c4
          go_wp2_with fail
          have hq := fun x : Later wr => x.cell
          refine region_later (by kernel_rfl) (by kernel_rfl) ?_
          repeat (go_big_quiet_step (fail))
          refine wpQuiet_nil ?_
          intro _ hw'
          obtain ⟨xx, rfl⟩ := hw'
          clear hq
          go_wp2_with fail
          go_ret2
          exact ⟨by rw [HE.out.1, HE.out.2, HT.out]; rfl, Below.on hB hB.size xx.below⟩
    · have hP' : placeB x y = false := by simpa using hP
      clear hP
      go_wp2_with fail
      go_ret2
      exact ⟨by rw [(best_miss (.inr hP')).1, (best_miss (.inr hP')).2]; rfl, B1⟩
  · have hS' : sheetsB X len = false := by simpa using hS
    clear hS
    go_wp2_with fail
    go_ret2
    exact ⟨by rw [(best_miss (.inl hS')).1, (best_miss (.inl hS')).2]; rfl, B1⟩

set_option maxHeartbeats 2000000 in
theorem walk_ExactBestSheet (w : World) (p0 : Option Addr) (len0 cap0 : Nat) (X0 : Nat → SheetD) (a1 : Int) (a2 : Int) (h0 : Sl w 5 p0 len0 (fun i => (X0 i).cells)) (ok0 : ∀ i, i < len0 → (X0 i).ok) (hm0 : len0 ≤ maxLen) (i1 : isI a1) (i2 : isI a2) :
    Calls Try.prog 8 #[.slice p0 len0 cap0, .int .i64 a1, .int .i64 a2] w fun e w' => e = .returned (.bool true) ∧ Below w.heap.size w w' := by
  clear ok0
  by_cases hL : (len0 : Int) ≤ 1048576
  · go_enter Try.func8, Try.ntmps8
    go_wp2_with fail
    refine (szSheetS_any p0 len0 cap0 _ hm0).mono ?_
    rintro e w0 ⟨rfl, rfl⟩
    rw [if_pos hL]
    go_wp2_with fail
    refine (toSheetS_any p0 len0 cap0 X0 _ (h0.below (Below.refl w.heap.size w)) (by omega)).mono ?_
    rintro e w1 ⟨rfl, hb1, hs1, F1⟩
    have B1 : Below w.heap.size w w1 := Below.on (Below.refl w.heap.size w) (Below.refl w.heap.size w).size hb1
    go_wp2_with fail
    refine (best_spec _ _ 0 len0 len0 X0 a1 a2 F1.rw (by omega) (Nat.le_refl _)).mono ?_
    rintro e w2 ⟨rfl, hb2⟩
    have B2 : Below w.heap.size w w2 := Below.on B1 B1.size hb2
    go_wp2_with fail
    refine (toSheetS_any p0 len0 cap0 X0 _ (h0.below B2) (by omega)).mono ?_
    rintro e w3 ⟨rfl, hb3, hs3, F3⟩
    have B3 : Below w.heap.size w w3 := Below.on B2 B2.size hb3
    go_wp2_with fail
    refine (best_impl _ _ 0 len0 len0 X0 a1 a2 F3.rw (by omega) (Nat.le_refl _)).mono ?_
    rintro e w4 ⟨rfl, hb4⟩
    have B4 : Below w.heap.size w w4 := Below.on B3 B3.size hb4
    go_wp2_with fail
    refine (toSheetS_any p0 len0 cap0 X0 _ (h0.below B4) (by omega)).mono ?_
    rintro e w5 ⟨rfl, hb5, hs5, F5⟩
    have B5 : Below w.heap.size w w5 := Below.on B4 B4.size hb5
    go_wp2_with fail
    refine (eqSheetS_same _ _ 0 0 len0 len0 len0 X0 _ ((F3.rw.later' hb4).later' hb5) F5.rw (by omega) (Nat.le_refl _) (Nat.le_refl _)).mono ?_
    rintro e w6 ⟨rfl, hb6⟩
    have B6 : Below w.heap.size w w6 := Below.on B5 B5.size hb6
    go_wp2_with fail
    go_ret
    exact ⟨rfl, B6⟩
  · go_enter Try.func8, Try.ntmps8
    go_wp2_with fail
    refine (szSheetS_any p0 len0 cap0 _ hm0).mono ?_
    rintro e w0 ⟨rfl, rfl⟩
    rw [if_neg (by omega)]
    go_wp2_with fail
    go_ret
    exact ⟨rfl, Below.refl _ _⟩

end Go.Proofs.Ytigiihhfmdgdlaa
