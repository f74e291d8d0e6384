/-
  What is left of a zone when another is cut out of it, by the program; and the law's walk. No condition.
-/
import Derived.Test.YtcnjafpfkdaoeaaCut
namespace Go.Proofs.Ytcnjafpfkdaoeaa
open Go.RowKit
set_option linter.unusedVariables false
set_option maxRecDepth 100000

theorem OwnA4.row {B n : Nat} {w : World} {v : Value} {L : List Int} (h : OwnA4 B w v L) (hn : n = L.length / 4) : w.ownsRow B 66 4 v n (L.map (Value.int .i64)) := by rw [hn]; exact h
theorem OwnA4.none {B : Nat} {w : World} {v : Value} {L L' P : List Int} (h : OwnA4 B w v L) (o : Obj) (he : L' = L ++ P) (hp : P = []) : OwnA4 B (w.alloc o) v L' := by rw [he, hp, List.append_nil]; exact World.ownsRow.alloc h o

/-- The four rectangles lie in a block, one behind the other. -/
def Four (w : World) (g : Nat) (a b : ZoneD) : Prop := ∀ k, k < 4 → ∀ j, j < 4 → w.cell? ⟨g, k * 4 + j, none⟩ = (pC a b k)[j]?
theorem Four.grown {w w' : World} {g : Nat} {a b : ZoneD} {row : Option Nat} (h : Four w g a b) (hg : w.grownBy w' row) (hlt : g < w.heap.size) (hne : row ≠ some g) : Four w' g a b :=
  fun k hk j hj => (World.cell?_of_block (hg.block g hlt (fun e => hne e.symm))).trans (h k hk j hj)
theorem Four.below {w w' : World} {g : Nat} {a b : ZoneD} (h : Four w g a b) (hb : Below w.heap.size w w') (hg : g < w.heap.size) : Four w' g a b := fun k hk j hj => (hb.cell (p := ⟨g, k * 4 + j, none⟩) hg).trans (h k hk j hj)

theorem four_new (w : World) (a b : ZoneD) : Four (w.alloc (.cells #[.int .i64 a.West, .int .i64 a.South, .int .i64 a.East, .int .i64 (imin a.North b.South), .int .i64 a.West, .int .i64 (imax a.South b.North), .int .i64 a.East, .int .i64 a.North, .int .i64 a.West, .int .i64 (imax a.South b.South), .int .i64 (imin a.East b.West), .int .i64 (imin a.North b.North), .int .i64 (imax a.West b.East), .int .i64 (imax a.South b.South), .int .i64 a.East, .int .i64 (imin a.North b.North)] 66)) w.heap.size a b := by
  intro k hk j hj
  have hk' : k = 0 ∨ k = 1 ∨ k = 2 ∨ k = 3 := by omega
  have hj' : j = 0 ∨ j = 1 ∨ j = 2 ∨ j = 3 := by omega
  rcases hk' with rfl | rfl | rfl | rfl <;> rcases hj' with rfl | rfl | rfl | rfl <;> simp [go_sem, pC, pz]

set_option maxHeartbeats 4000000 in
theorem cut_impl (a b : ZoneD) (w : World) : Calls Try.prog 22 #[a.val, b.val] w (RetA4B (cutL a b) (cutOk a b) w) := by
  have A2 : Below (w.heap.size + 2) ((w.alloc (.cells #[.int .i64 a.Id, .int .i64 a.West, .int .i64 a.South, .int .i64 a.East, .int .i64 a.North] 44)).alloc (.cells #[.int .i64 b.Id, .int .i64 b.West, .int .i64 b.South, .int .i64 b.East, .int .i64 b.North] 44)) ((w.alloc (.cells #[.int .i64 a.Id, .int .i64 a.West, .int .i64 a.South, .int .i64 a.East, .int .i64 a.North] 44)).alloc (.cells #[.int .i64 b.Id, .int .i64 b.West, .int .i64 b.South, .int .i64 b.East, .int .i64 b.North] 44)) := Below.refl _ _
  have A0 : Below w.heap.size w ((w.alloc (.cells #[.int .i64 a.Id, .int .i64 a.West, .int .i64 a.South, .int .i64 a.East, .int .i64 a.North] 44)).alloc (.cells #[.int .i64 b.Id, .int .i64 b.West, .int .i64 b.South, .int .i64 b.East, .int .i64 b.North] 44)) := by go_grown
  obtain ⟨i0, hi, hz0, hz1, hz2⟩ := info_parts info_A4
  go_enter Try.func22, Try.ntmps22
  go_wp2_with fail
  refine (zone_impl a _).mono ?_
  rintro e w1 ⟨rfl, hb1⟩
  have B1 : Below (w.heap.size + 2) ((w.alloc (.cells #[.int .i64 a.Id, .int .i64 a.West, .int .i64 a.South, .int .i64 a.East, .int .i64 a.North] 44)).alloc (.cells #[.int .i64 b.Id, .int .i64 b.West, .int .i64 b.South, .int .i64 b.East, .int .i64 b.North] 44)) w1 := A2.trans (hb1.mono (by simp))
  have A1 : Below w.heap.size w w1 := Below.on A0 A0.size hb1
  have x0 : w1.cell? ⟨w.heap.size, 0, none⟩ = some (.int .i64 a.Id) := (B1.cell (by simp only; omega)).trans (by simp [go_sem])
  have x1 : w1.cell? ⟨w.heap.size, 1, none⟩ = some (.int .i64 a.West) := (B1.cell (by simp only; omega)).trans (by simp [go_sem])
  have x2 : w1.cell? ⟨w.heap.size, 2, none⟩ = some (.int .i64 a.South) := (B1.cell (by simp only; omega)).trans (by simp [go_sem])
  have x3 : w1.cell? ⟨w.heap.size, 3, none⟩ = some (.int .i64 a.East) := (B1.cell (by simp only; omega)).trans (by simp [go_sem])
  have x4 : w1.cell? ⟨w.heap.size, 4, none⟩ = some (.int .i64 a.North) := (B1.cell (by simp only; omega)).trans (by simp [go_sem])
  have y0 : w1.cell? ⟨w.heap.size + 1, 0, none⟩ = some (.int .i64 b.Id) := (B1.cell (by simp only; omega)).trans (by simp [go_sem])
  have y1 : w1.cell? ⟨w.heap.size + 1, 1, none⟩ = some (.int .i64 b.West) := (B1.cell (by simp only; omega)).trans (by simp [go_sem])
  have y2 : w1.cell? ⟨w.heap.size + 1, 2, none⟩ = some (.int .i64 b.South) := (B1.cell (by simp only; omega)).trans (by simp [go_sem])
  have y3 : w1.cell? ⟨w.heap.size + 1, 3, none⟩ = some (.int .i64 b.East) := (B1.cell (by simp only; omega)).trans (by simp [go_sem])
  have y4 : w1.cell? ⟨w.heap.size + 1, 4, none⟩ = some (.int .i64 b.North) := (B1.cell (by simp only; omega)).trans (by simp [go_sem])
  have G1 : w.heap.size + 1 < w1.heap.size := by have := hb1.size; simp at this; omega
  by_cases ha : zoneB a = true
  · go_wp2_with fail
    refine (zone_impl b _).mono ?_
    rintro e q ⟨rfl, hb2⟩
    have B2 : Below w.heap.size w q := Below.on A1 A1.size hb2
    have G2 : w.heap.size + 1 < q.heap.size := by have := hb2.size; omega
    have z0 : q.cell? ⟨w.heap.size, 0, none⟩ = some (.int .i64 a.Id) := (hb2.cell (by simp only; omega)).trans x0
    have z1 : q.cell? ⟨w.heap.size, 1, none⟩ = some (.int .i64 a.West) := (hb2.cell (by simp only; omega)).trans x1
    have z2 : q.cell? ⟨w.heap.size, 2, none⟩ = some (.int .i64 a.South) := (hb2.cell (by simp only; omega)).trans x2
    have z3 : q.cell? ⟨w.heap.size, 3, none⟩ = some (.int .i64 a.East) := (hb2.cell (by simp only; omega)).trans x3
    have z4 : q.cell? ⟨w.heap.size, 4, none⟩ = some (.int .i64 a.North) := (hb2.cell (by simp only; omega)).trans x4
    have u0 : q.cell? ⟨w.heap.size + 1, 0, none⟩ = some (.int .i64 b.Id) := (hb2.cell (by simp only; omega)).trans y0
    have u1 : q.cell? ⟨w.heap.size + 1, 1, none⟩ = some (.int .i64 b.West) := (hb2.cell (by simp only; omega)).trans y1
    have u2 : q.cell? ⟨w.heap.size + 1, 2, none⟩ = some (.int .i64 b.South) := (hb2.cell (by simp only; omega)).trans y2
    have u3 : q.cell? ⟨w.heap.size + 1, 3, none⟩ = some (.int .i64 b.East) := (hb2.cell (by simp only; omega)).trans y3
    have u4 : q.cell? ⟨w.heap.size + 1, 4, none⟩ = some (.int .i64 b.North) := (hb2.cell (by simp only; omega)).trans y4
    clear x0 y0 x1 y1 x2 y2 x3 y3 x4 y4
    by_cases hb : zoneB b = true
    · have HL : Hid (cutL a b = cutF a b 4 ∧ cutOk a b = true) := by unfold Hid cutL cutOk; rw [ha, hb]; exact ⟨rfl, rfl⟩
      go_wp2_with fail
      have HA := hid ha
      have HB := hid hb
      clear ha hb
      have r1 := run_min2
      have r2 := run_max2
      have hq := fun x : Later q => x.cell
      have lq0 : w.heap.size < q.heap.size := by omega
      have lq1 : w.heap.size + 1 < q.heap.size := by omega
      refine region_later (by kernel_rfl) (by kernel_rfl) ?_
      repeat (go_big_quiet_step (fail))
      refine wpQuiet_nil ?_
      intro _ hw'
      obtain ⟨x, rfl⟩ := hw'
      have G0 : w.heap.size + 1 < x.wd.heap.size := by have := x.size; omega
      have B3 : Below w.heap.size w x.wd := Below.on B2 B2.size x.below
      have x0 : x.wd.cell? ⟨w.heap.size, 0, none⟩ = some (.int .i64 a.Id) := (x.cell _ _ (by omega)).trans z0
      have x1 : x.wd.cell? ⟨w.heap.size, 1, none⟩ = some (.int .i64 a.West) := (x.cell _ _ (by omega)).trans z1
      have x2 : x.wd.cell? ⟨w.heap.size, 2, none⟩ = some (.int .i64 a.South) := (x.cell _ _ (by omega)).trans z2
      have x3 : x.wd.cell? ⟨w.heap.size, 3, none⟩ = some (.int .i64 a.East) := (x.cell _ _ (by omega)).trans z3
      have x4 : x.wd.cell? ⟨w.heap.size, 4, none⟩ = some (.int .i64 a.North) := (x.cell _ _ (by omega)).trans z4
      have y0 : x.wd.cell? ⟨w.heap.size + 1, 0, none⟩ = some (.int .i64 b.Id) := (x.cell _ _ (by omega)).trans u0
      have y1 : x.wd.cell? ⟨w.heap.size + 1, 1, none⟩ = some (.int .i64 b.West) := (x.cell _ _ (by omega)).trans u1
      have y2 : x.wd.cell? ⟨w.heap.size + 1, 2, none⟩ = some (.int .i64 b.South) := (x.cell _ _ (by omega)).trans u2
      have y3 : x.wd.cell? ⟨w.heap.size + 1, 3, none⟩ = some (.int .i64 b.East) := (x.cell _ _ (by omega)).trans u3
      have y4 : x.wd.cell? ⟨w.heap.size + 1, 4, none⟩ = some (.int .i64 b.North) := (x.cell _ _ (by omega)).trans u4
      clear hq z0 u0 z1 u1 z2 u2 z3 u3 z4 u4 hb1 hb2 B1 B2 A1
      generalize x.wd = q0 at *
      go_wp2_with fail
      have hF := hid (four_new q0 a b)
      have B4 : Below w.heap.size w (q0.alloc (.cells #[.int .i64 a.West, .int .i64 a.South, .int .i64 a.East, .int .i64 (imin a.North b.South), .int .i64 a.West, .int .i64 (imax a.South b.North), .int .i64 a.East, .int .i64 a.North, .int .i64 a.West, .int .i64 (imax a.South b.South), .int .i64 (imin a.East b.West), .int .i64 (imin a.North b.North), .int .i64 (imax a.West b.East), .int .i64 (imax a.South b.South), .int .i64 a.East, .int .i64 (imin a.North b.North)] 66)) := B3.alloc B3.size _
      have hg0 : q0.heap.size < (q0.alloc (.cells #[.int .i64 a.West, .int .i64 a.South, .int .i64 a.East, .int .i64 (imin a.North b.South), .int .i64 a.West, .int .i64 (imax a.South b.North), .int .i64 a.East, .int .i64 a.North, .int .i64 a.West, .int .i64 (imax a.South b.South), .int .i64 (imin a.East b.West), .int .i64 (imin a.North b.North), .int .i64 (imax a.West b.East), .int .i64 (imax a.South b.South), .int .i64 a.East, .int .i64 (imin a.North b.North)] 66)).heap.size := by simp
      obtain ⟨g, hg⟩ : ∃ g, q0.heap.size = g := ⟨_, rfl⟩
      have hwg : w.heap.size ≤ g := by omega
      rw [hg]
      rw [hg] at hF hg0
      go_loopw [8, 75] (fun v i wr => ∃ k : Nat, k ≤ 4 ∧ i = .int .i64 k ∧ Below w.heap.size w wr ∧ g < wr.heap.size ∧ Hid (Four wr g a b) ∧ Hid (OwnA4 w.heap.size wr v (cutF a b k)) ∧ Hid (v.ownBlock ≠ some g)) (fun _ i _ => 4 - (intOf i).toNat)
      case atStart => exact ⟨0, by omega, rfl, B4, hg0, hF, OwnA4.nil _ _, by simp [Hid, Value.ownBlock]⟩
      case round =>
        clear hF hg0 B4 B3 x0 x1 x2 x3 x4 y0 y1 y2 y3 y4
        obtain ⟨k, hk, rfl, hB, hgr, hF, hO, hne⟩ := hrel
        by_cases hlt : k < 4
        · have hle := cutF_le a b k
          obtain ⟨p0, p1, p2, p3, hp⟩ : ∃ p0 p1 p2 p3, pz a b k = (p0, p1, p2, p3) := ⟨_, _, _, _, rfl⟩
          have hstep : cutF a b (k + 1) = cutF a b k ++ partZ p0 p1 p2 p3 := by simp only [cutF, hp]
          have hpc : pC a b k = [.int .i64 p0, .int .i64 p1, .int .i64 p2, .int .i64 p3] := by simp only [pC, hp]
          have c0 : wr.cell? ⟨g, k * 4, none⟩ = some (.int .i64 p0) := (hF.out k hlt 0 (by omega)).trans (by rw [hpc]; rfl)
          have c1 : wr.cell? ⟨g, k * 4 + 1, none⟩ = some (.int .i64 p1) := (hF.out k hlt 1 (by omega)).trans (by rw [hpc]; rfl)
          have c2 : wr.cell? ⟨g, k * 4 + 2, none⟩ = some (.int .i64 p2) := (hF.out k hlt 2 (by omega)).trans (by rw [hpc]; rfl)
          have c3 : wr.cell? ⟨g, k * 4 + 3, none⟩ = some (.int .i64 p3) := (hF.out k hlt 3 (by omega)).trans (by rw [hpc]; rfl)
          have e2 : (0 : Int) ≤ (k : Int) := by omega
          have e3 : (k : Int) < 4 := by omega
          obtain ⟨n, hn4⟩ : ∃ n, n = (cutF a b k).length / 4 := ⟨_, rfl⟩
          have HO := hid (hO.out.row hn4)
          have hn : n ≤ 4 := by omega
          have HN := hid hn4
          have HS := hid hstep
          clear hn4 hstep hpc hp hle
          have hBW : Below w.heap.size w (wr.alloc (.cells #[.int .i64 p0, .int .i64 p1, .int .i64 p2, .int .i64 p3] 66)) := hB.alloc hB.size _
          by_cases h1 : p0 < p2
          · by_cases h2 : p1 < p3
            · have HP := hid (partZ_yes h1 h2)
              go_wp2_with (at_builtin; refine wpList_append_own_at _ rfl _ _ 41 rfl w.heap.size 66 i0 (.agg #[.int .i64 0, .int .i64 0, .int .i64 0, .int .i64 0]) 4 32 Try.underlying41 hi hz0 hz1 hz2 rfl (by decide) _ _ _ rfl (World.ownsRow.alloc (World.ownsRow.alloc HO.out _) _) ⟨wr.heap.size + 1, 0, none⟩ 1 1 [.int .i64 p0, .int .i64 p1, .int .i64 p2, .int .i64 p3] rfl rfl ?c1 ?c2 ?c3 ?c4 ?c5 ?_)
              case c1 => have hh := World.news_of_block (heap_alloc_new (wr.alloc (.cells #[.int .i64 p0, .int .i64 p1, .int .i64 p2, .int .i64 p3] 66)) (.cells #[.int .i64 p0, .int .i64 p1, .int .i64 p2, .int .i64 p3] 66)); rw [World.size_alloc] at hh; exact hh
              case c2 => intro u hu; simp at hu; rcases hu with rfl | rfl | rfl | rfl <;> rfl
              case c3 => unfold maxLen; omega
              case c4 => omega
              case c5 => have := hB.size; simp; omega
              intro v' w2 hown hgrow _ hat
              have hb2 : Below w.heap.size w w2 := Below.grown (hBW.alloc hBW.size _) hgrow (by have := hB.size; simp; omega) (fun g hg => (World.ownsRow.lt HO.out g hg).1)
              have hs2 := hgrow.size
              simp only [World.size_alloc] at hs2 hat
              have ho2 : Hid (OwnA4 w.heap.size w2 v' (cutF a b (k + 1))) := by
                rw [HS.out, HP.out]
                unfold Hid OwnA4
                rw [List.length_append, List.map_append, show ((cutF a b k).length + [p0, p1, p2, p3].length) / 4 = (cutF a b k).length / 4 + 1 from by simp only [List.length_cons, List.length_nil]; omega, ← HN.out]
                exact hown
              have hF2 := hid ((hF.out.below (((Below.refl wr.heap.size wr).alloc (Nat.le_refl _) (.cells #[.int .i64 p0, .int .i64 p1, .int .i64 p2, .int .i64 p3] 66)).alloc (by simp) (.cells #[.int .i64 p0, .int .i64 p1, .int .i64 p2, .int .i64 p3] 66)) hgr).grown hgrow (by simp; omega) hne.out)
              have hne2 : Hid (v'.ownBlock ≠ some g) := by
                rcases hat with h | h
                · unfold Hid; rw [h]; exact hne.out
                · unfold Hid; rw [h]; intro e; injection e with e; omega
              clear hown hgrow hat hBW
              go_wp2_with fail
              go_roundw
              case rel => exact ⟨k + 1, by omega, by go_num, hb2, by omega, hF2, ho2, hne2⟩
              case measure => simp [intOf]; omega
            · have HP := hid (partZ_no (w := p0) (e := p2) (s := p1) (n := p3) (fun h => h2 h.2))
              have hF2 := hid (hF.out.below ((Below.refl wr.heap.size wr).alloc (Nat.le_refl _) (.cells #[.int .i64 p0, .int .i64 p1, .int .i64 p2, .int .i64 p3] 66)) hgr)
              have ho2 := hid (hO.out.none (.cells #[.int .i64 p0, .int .i64 p1, .int .i64 p2, .int .i64 p3] 66) HS.out HP.out)
              go_wp2_with fail
              go_roundw
              case rel => exact ⟨k + 1, by omega, by go_num, hBW, by simp; omega, hF2, ho2, hne⟩
              case measure => simp [intOf]; omega
          · have HP := hid (partZ_no (w := p0) (e := p2) (s := p1) (n := p3) (fun h => h1 h.1))
            have hF2 := hid (hF.out.below ((Below.refl wr.heap.size wr).alloc (Nat.le_refl _) (.cells #[.int .i64 p0, .int .i64 p1, .int .i64 p2, .int .i64 p3] 66)) hgr)
            have ho2 := hid (hO.out.none (.cells #[.int .i64 p0, .int .i64 p1, .int .i64 p2, .int .i64 p3] 66) HS.out HP.out)
            go_wp2_with fail
            go_roundw
            case rel => exact ⟨k + 1, by omega, by go_num, hBW, by simp; omega, hF2, ho2, hne⟩
            case measure => simp [intOf]; omega
        · obtain rfl : k = 4 := by omega
          go_wp2_with fail
          go_ret2
          exact ⟨_, by rw [HL.out.2]; rfl, by rw [HL.out.1]; exact hO.out, hB⟩
    · have hb' : zoneB b = false := by simpa using hb
      have HL : Hid (cutL a b = [] ∧ cutOk a b = false) := by unfold Hid cutL cutOk; rw [hb', Bool.and_false]; exact ⟨rfl, rfl⟩
      clear hb
      go_wp2_with fail
      go_ret2
      exact ⟨_, by rw [HL.out.2]; rfl, by rw [HL.out.1]; exact OwnA4.nil _ _, B2⟩
  · have ha' : zoneB a = false := by simpa using ha
    have HL : Hid (cutL a b = [] ∧ cutOk a b = false) := by unfold Hid cutL cutOk; rw [ha']; exact ⟨rfl, rfl⟩
    clear ha
    go_wp2_with fail
    go_ret2
    exact ⟨_, by rw [HL.out.2]; rfl, by rw [HL.out.1]; exact OwnA4.nil _ _, A1⟩

end Go.Proofs.Ytcnjafpfkdaoeaa
