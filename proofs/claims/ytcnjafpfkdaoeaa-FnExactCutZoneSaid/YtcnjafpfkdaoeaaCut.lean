/-
  What is left of a zone when another is cut out of it: by the program and by the reference. No condition.
-/
import Derived.Test.YtcnjafpfkdaoeaaOver
import Derived.Test.YtcnjafpfkdaoeaaOwnA4
import Derived.Deep.AppendLies
import Derived.Deep.RegionLaw
import Derived.StillTailTactics
namespace Go.Proofs.Ytcnjafpfkdaoeaa
open Go.RowKit
set_option linter.unusedVariables false
set_option maxRecDepth 100000

/-- A rectangle, if it is not empty. -/
def partZ (w s e n : Int) : List Int := if w < e ∧ s < n then [w, s, e, n] else []
theorem partZ_le (w s e n : Int) : (partZ w s e n).length ≤ 4 := by unfold partZ; split <;> simp
theorem partZ_yes {w s e n : Int} (h1 : w < e) (h2 : s < n) : partZ w s e n = [w, s, e, n] := by unfold partZ; rw [if_pos ⟨h1, h2⟩]
theorem partZ_no {w s e n : Int} (h : ¬ (w < e ∧ s < n)) : partZ w s e n = [] := by unfold partZ; rw [if_neg h]
def pz (a b : ZoneD) : Nat → Int × Int × Int × Int
  | 0 => (a.West, a.South, a.East, imin a.North b.South)
  | 1 => (a.West, imax a.South b.North, a.East, a.North)
  | 2 => (a.West, imax a.South b.South, imin a.East b.West, imin a.North b.North)
  | _ => (imax a.West b.East, imax a.South b.South, a.East, imin a.North b.North)
def pC (a b : ZoneD) (k : Nat) : List Value := [.int .i64 (pz a b k).1, .int .i64 (pz a b k).2.1, .int .i64 (pz a b k).2.2.1, .int .i64 (pz a b k).2.2.2]
def cutF (a b : ZoneD) : Nat → List Int
  | 0 => []
  | k + 1 => cutF a b k ++ partZ (pz a b k).1 (pz a b k).2.1 (pz a b k).2.2.1 (pz a b k).2.2.2
theorem cutF_le (a b : ZoneD) : ∀ k, (cutF a b k).length ≤ 4 * k
  | 0 => by simp [cutF]
  | k + 1 => by
    have h1 := cutF_le a b k
    have h2 := partZ_le (pz a b k).1 (pz a b k).2.1 (pz a b k).2.2.1 (pz a b k).2.2.2
    unfold cutF
    rw [List.length_append]
    omega
def cutOk (a b : ZoneD) : Bool := zoneB a && zoneB b
def cutL (a b : ZoneD) : List Int := if cutOk a b = true then cutF a b 4 else []
theorem cutL_le (a b : ZoneD) : (cutL a b).length ≤ 16 := by
  unfold cutL
  split
  · exact cutF_le a b 4
  · simp
theorem partZ_eq {w s e n w' s' e' n' : Int} (h : (w < e ∧ s < n) → w = w' ∧ s = s' ∧ e = e' ∧ n = n') (h' : (w' < e' ∧ s' < n') → w < e ∧ s < n) : partZ w s e n = partZ w' s' e' n' := by
  by_cases hc : w < e ∧ s < n
  · obtain ⟨rfl, rfl, rfl, rfl⟩ := h hc
    rfl
  · rw [partZ_no hc, partZ_no (fun x => hc (h' x))]
theorem imin_or (a b : Int) : (imin a b = a ∧ a ≤ b) ∨ (imin a b = b ∧ b < a) := by unfold imin; split <;> omega
theorem imax_or (a b : Int) : (imax a b = a ∧ b ≤ a) ∨ (imax a b = b ∧ a < b) := by unfold imax; split <;> omega
/-- The reference's parts are the program's. -/
theorem cut_same {a b : ZoneD} (ha : zoneB a = true) (hb : zoneB b = true) {low high : Int} (hl : low = imin a.North (imax a.South b.South)) (hh : high = imax a.South (imin a.North b.North)) :
    partZ a.West a.South a.East low ++ partZ a.West (imax low high) a.East a.North ++ partZ a.West low (imin a.East b.West) high ++ partZ (imax a.West b.East) low a.East high = cutF a b 4 := by
  obtain ⟨_, ⟨a1, a2, a3⟩, ⟨a4, a5, a6⟩⟩ := zoneB_bd ha
  obtain ⟨_, ⟨b1, b2, b3⟩, ⟨b4, b5, b6⟩⟩ := zoneB_bd hb
  have e1 : partZ a.West a.South a.East low = partZ a.West a.South a.East (imin a.North b.South) := by
    have h1 := imin_or a.North (imax a.South b.South)
    have h2 := imax_or a.South b.South
    have h3 := imin_or a.North b.South
    refine partZ_eq (fun h => ?_) (fun h => ?_) <;> omega
  have e2 : partZ a.West (imax low high) a.East a.North = partZ a.West (imax a.South b.North) a.East a.North := by
    have h1 := imin_or a.North (imax a.South b.South)
    have h2 := imax_or a.South b.South
    have h3 := imax_or a.South (imin a.North b.North)
    have h4 := imin_or a.North b.North
    have h5 := imax_or low high
    have h6 := imax_or a.South b.North
    refine partZ_eq (fun h => ?_) (fun h => ?_) <;> omega
  have e3 : ∀ p q : Int, partZ p low q high = partZ p (imax a.South b.South) q (imin a.North b.North) := by
    intro p q
    have h1 := imin_or a.North (imax a.South b.South)
    have h2 := imax_or a.South b.South
    have h3 := imax_or a.South (imin a.North b.North)
    have h4 := imin_or a.North b.North
    refine partZ_eq (fun h => ?_) (fun h => ?_) <;> omega
  rw [e1, e2, e3, e3]
  simp [cutF, pz]

theorem most_still (a b : Int) (w : World) : Calls Try.prog 45 #[.int .i64 a, .int .i64 b] w fun e w' => e = .returned (.int .i64 (imax a b)) ∧ w' = w := (most_spec a b w).mono fun _ _ h => ⟨h.1, h.2.symm⟩
theorem least_still (a b : Int) (w : World) : Calls Try.prog 44 #[.int .i64 a, .int .i64 b] w fun e w' => e = .returned (.int .i64 (imin a b)) ∧ w' = w := (least_spec a b w).mono fun _ _ h => ⟨h.1, h.2.symm⟩

set_option maxHeartbeats 1000000 in
theorem some_spec (v : Value) (L : List Int) (B : Nat) (W S E N : Int) (w : World) (h : OwnA4 B w v L) (hB : B ≤ w.heap.size) (hl : L.length ≤ 100) :
    Calls Try.prog 46 #[v, .int .i64 W, .int .i64 S, .int .i64 E, .int .i64 N] w fun e w' => ∃ v', e = .returned v' ∧ OwnA4 B w' v' (L ++ partZ W S E N) ∧ Below B w w' := by
  obtain ⟨i0, hi, hz0, hz1, hz2⟩ := info_parts info_A4
  obtain ⟨n, hn4⟩ : ∃ n, n = L.length / 4 := ⟨_, rfl⟩
  have HO : Hid (w.ownsRow B 66 4 v n (L.map (Value.int .i64))) := by rw [hn4]; exact h
  have HH := hid h
  have HN := hid hn4
  have hn : n ≤ 25 := by omega
  clear h hn4
  by_cases h1 : W < E
  · have d1 : decide (E ≤ W) = false := by simp [h1]
    by_cases h2 : S < N
    · have d2 : decide (N ≤ S) = false := by simp [h2]
      have HP := hid (partZ_yes h1 h2)
      clear h1 h2
      go_enter Try.func46, Try.ntmps46
      go_wp2_with (at_builtin; refine wpList_append_own_at _ rfl _ _ 41 rfl B 66 i0 (.agg #[.int .i64 0, .int .i64 0, .int .i64 0, .int .i64 0]) 4 32 Try.underlying41 hi hz0 hz1 hz2 rfl (by decide) _ _ _ rfl (World.ownsRow.alloc HO.out _) ⟨w.heap.size, 0, none⟩ 1 1 [.int .i64 W, .int .i64 S, .int .i64 E, .int .i64 N] rfl rfl ?c1 ?c2 ?c3 ?c4 ?c5 ?_)
      case c1 => exact World.news_of_block (heap_alloc_new w _)
      case c2 => intro u hu; simp at hu; rcases hu with rfl | rfl | rfl | rfl <;> rfl
      case c3 => unfold maxLen; omega
      case c4 => omega
      case c5 => simp; omega
      intro v' w2 hown hgrow _ _
      have hb2 : Below B w w2 := Below.grown ((Below.refl w.heap.size w).mono hB |>.alloc hB _) hgrow (by simp; omega) (fun g hg => (World.ownsRow.lt HO.out g hg).1)
      have ho2 : Hid (OwnA4 B w2 v' (L ++ partZ W S E N)) := by
        rw [HP.out]
        unfold Hid OwnA4
        rw [List.length_append, List.map_append, show (L.length + [W, S, E, N].length) / 4 = L.length / 4 + 1 from by simp only [List.length_cons, List.length_nil]; omega, ← HN.out]
        exact hown
      clear hown hgrow
      go_wp2_with fail
      go_ret
      exact ⟨_, rfl, ho2.out, hb2⟩
    · have d2 : decide (N ≤ S) = true := by simp; omega
      have HP := hid (partZ_no (w := W) (e := E) (s := S) (n := N) (fun h => h2 h.2))
      clear h1 h2
      go_enter Try.func46, Try.ntmps46
      go_wp2_with fail
      go_ret
      exact ⟨_, rfl, by rw [HP.out, List.append_nil]; exact HH.out, (Below.refl _ _).mono hB⟩
  · have d1 : decide (E ≤ W) = true := by simp; omega
    have HP := hid (partZ_no (w := W) (e := E) (s := S) (n := N) (fun h => h1 h.1))
    clear h1
    go_enter Try.func46, Try.ntmps46
    go_wp2_with fail
    go_ret
    exact ⟨_, rfl, by rw [HP.out, List.append_nil]; exact HH.out, (Below.refl _ _).mono hB⟩

set_option maxHeartbeats 4000000 in
theorem cut_spec (a b : ZoneD) (w : World) : Calls Try.prog 20 #[a.val, b.val] w (RetA4B (cutL a b) (cutOk a b) w) := by
  have hE0 : OwnA4 ((w.alloc (.cells #[.int .i64 a.Id, .int .i64 a.West, .int .i64 a.South, .int .i64 a.East, .int .i64 a.North] 44)).alloc (.cells #[.int .i64 b.Id, .int .i64 b.West, .int .i64 b.South, .int .i64 b.East, .int .i64 b.North] 44)).heap.size (((w.alloc (.cells #[.int .i64 a.Id, .int .i64 a.West, .int .i64 a.South, .int .i64 a.East, .int .i64 a.North] 44)).alloc (.cells #[.int .i64 b.Id, .int .i64 b.West, .int .i64 b.South, .int .i64 b.East, .int .i64 b.North] 44)).alloc (.cells #[] 66)) (.slice (some ⟨((w.alloc (.cells #[.int .i64 a.Id, .int .i64 a.West, .int .i64 a.South, .int .i64 a.East, .int .i64 a.North] 44)).alloc (.cells #[.int .i64 b.Id, .int .i64 b.West, .int .i64 b.South, .int .i64 b.East, .int .i64 b.North] 44)).heap.size, 0, none⟩) 0 0) [] := OwnA4.empty ((w.alloc (.cells #[.int .i64 a.Id, .int .i64 a.West, .int .i64 a.South, .int .i64 a.East, .int .i64 a.North] 44)).alloc (.cells #[.int .i64 b.Id, .int .i64 b.West, .int .i64 b.South, .int .i64 b.East, .int .i64 b.North] 44))
  rw [show ((w.alloc (.cells #[.int .i64 a.Id, .int .i64 a.West, .int .i64 a.South, .int .i64 a.East, .int .i64 a.North] 44)).alloc (.cells #[.int .i64 b.Id, .int .i64 b.West, .int .i64 b.South, .int .i64 b.East, .int .i64 b.North] 44)).heap.size = w.heap.size + 2 from by simp] at hE0
  have hE := hid hE0
  clear hE0
  have A2 : Below (w.heap.size + 3) (((w.alloc (.cells #[.int .i64 a.Id, .int .i64 a.West, .int .i64 a.South, .int .i64 a.East, .int .i64 a.North] 44)).alloc (.cells #[.int .i64 b.Id, .int .i64 b.West, .int .i64 b.South, .int .i64 b.East, .int .i64 b.North] 44)).alloc (.cells #[] 66)) (((w.alloc (.cells #[.int .i64 a.Id, .int .i64 a.West, .int .i64 a.South, .int .i64 a.East, .int .i64 a.North] 44)).alloc (.cells #[.int .i64 b.Id, .int .i64 b.West, .int .i64 b.South, .int .i64 b.East, .int .i64 b.North] 44)).alloc (.cells #[] 66)) := Below.refl _ _
  have A0 : Below w.heap.size w (((w.alloc (.cells #[.int .i64 a.Id, .int .i64 a.West, .int .i64 a.South, .int .i64 a.East, .int .i64 a.North] 44)).alloc (.cells #[.int .i64 b.Id, .int .i64 b.West, .int .i64 b.South, .int .i64 b.East, .int .i64 b.North] 44)).alloc (.cells #[] 66)) := by go_grown
  go_enter Try.func20, Try.ntmps20
  go_wp2_with fail
  refine (zone_spec a _).mono ?_
  rintro e w1 ⟨rfl, hb1⟩
  have B1 : Below (w.heap.size + 3) (((w.alloc (.cells #[.int .i64 a.Id, .int .i64 a.West, .int .i64 a.South, .int .i64 a.East, .int .i64 a.North] 44)).alloc (.cells #[.int .i64 b.Id, .int .i64 b.West, .int .i64 b.South, .int .i64 b.East, .int .i64 b.North] 44)).alloc (.cells #[] 66)) w1 := A2.trans (hb1.mono (by simp))
  have A1 : Below w.heap.size w w1 := Below.on A0 A0.size hb1
  have x0 : w1.cell? ⟨w.heap.size, 0, none⟩ = some (.int .i64 a.Id) := (B1.cell (by simp only; omega)).trans (by simp [go_sem])
  have x1 : w1.cell? ⟨w.heap.size, 1, none⟩ = some (.int .i64 a.West) := (B1.cell (by simp only; omega)).trans (by simp [go_sem])
  have x2 : w1.cell? ⟨w.heap.size, 2, none⟩ = some (.int .i64 a.South) := (B1.cell (by simp only; omega)).trans (by simp [go_sem])
  have x3 : w1.cell? ⟨w.heap.size, 3, none⟩ = some (.int .i64 a.East) := (B1.cell (by simp only; omega)).trans (by simp [go_sem])
  have x4 : w1.cell? ⟨w.heap.size, 4, none⟩ = some (.int .i64 a.North) := (B1.cell (by simp only; omega)).trans (by simp [go_sem])
  have y0 : w1.cell? ⟨w.heap.size + 1, 0, none⟩ = some (.int .i64 b.Id) := (B1.cell (by simp only; omega)).trans (by simp [go_sem])
  have y1 : w1.cell? ⟨w.heap.size + 1, 1, none⟩ = some (.int .i64 b.West) := (B1.cell (by simp only; omega)).trans (by simp [go_sem])
  have y2 : w1.cell? ⟨w.heap.size + 1, 2, none⟩ = some (.int .i64 b.South) := (B1.cell (by simp only; omega)).trans (by simp [go_sem])
  have y3 : w1.cell? ⟨w.heap.size + 1, 3, none⟩ = some (.int .i64 b.East) := (B1.cell (by simp only; omega)).trans (by simp [go_sem])
  have y4 : w1.cell? ⟨w.heap.size + 1, 4, none⟩ = some (.int .i64 b.North) := (B1.cell (by simp only; omega)).trans (by simp [go_sem])
  have G1 : w.heap.size + 2 < w1.heap.size := by have := hb1.size; simp at this; omega
  have O1 := hid (hE.out.below hb1)
  by_cases ha : zoneB a = true
  · go_wp2_with fail
    refine (zone_spec b _).mono ?_
    rintro e q ⟨rfl, hb2⟩
    have B2 : Below w.heap.size w q := Below.on A1 A1.size hb2
    have G2 : w.heap.size + 2 < q.heap.size := by have := hb2.size; omega
    have O2 := hid (O1.out.below hb2)
    have z0 : q.cell? ⟨w.heap.size, 0, none⟩ = some (.int .i64 a.Id) := (hb2.cell (by simp only; omega)).trans x0
    have z1 : q.cell? ⟨w.heap.size, 1, none⟩ = some (.int .i64 a.West) := (hb2.cell (by simp only; omega)).trans x1
    have z2 : q.cell? ⟨w.heap.size, 2, none⟩ = some (.int .i64 a.South) := (hb2.cell (by simp only; omega)).trans x2
    have z3 : q.cell? ⟨w.heap.size, 3, none⟩ = some (.int .i64 a.East) := (hb2.cell (by simp only; omega)).trans x3
    have z4 : q.cell? ⟨w.heap.size, 4, none⟩ = some (.int .i64 a.North) := (hb2.cell (by simp only; omega)).trans x4
    have u0 : q.cell? ⟨w.heap.size + 1, 0, none⟩ = some (.int .i64 b.Id) := (hb2.cell (by simp only; omega)).trans y0
    have u1 : q.cell? ⟨w.heap.size + 1, 1, none⟩ = some (.int .i64 b.West) := (hb2.cell (by simp only; omega)).trans y1
    have u2 : q.cell? ⟨w.heap.size + 1, 2, none⟩ = some (.int .i64 b.South) := (hb2.cell (by simp only; omega)).trans y2
    have u3 : q.cell? ⟨w.heap.size + 1, 3, none⟩ = some (.int .i64 b.East) := (hb2.cell (by simp only; omega)).trans y3
    have u4 : q.cell? ⟨w.heap.size + 1, 4, none⟩ = some (.int .i64 b.North) := (hb2.cell (by simp only; omega)).trans y4
    clear x0 y0 x1 y1 x2 y2 x3 y3 x4 y4 O1 hE
    by_cases hb : zoneB b = true
    · have HL : Hid (cutL a b = cutF a b 4 ∧ cutOk a b = true) := by unfold Hid cutL cutOk; rw [ha, hb]; exact ⟨rfl, rfl⟩
      have HA := hid ha
      have HB := hid hb
      obtain ⟨low, hlow⟩ : ∃ low, low = imin a.North (imax a.South b.South) := ⟨_, rfl⟩
      obtain ⟨high, hhigh⟩ : ∃ high, high = imax a.South (imin a.North b.North) := ⟨_, rfl⟩
      have HS := hid (cut_same ha hb hlow hhigh)
      go_wp2_with fail
      have hq := fun x : Later q => x.cell
      have lq0 : w.heap.size < q.heap.size := by omega
      have lq1 : w.heap.size + 1 < q.heap.size := by omega
      refine region_later (by kernel_rfl) (by kernel_rfl) ?_
      repeat (go_big_quiet_step (first | (go_at_call 44; refine calls_later_same (least_spec _ _ _)) | (go_at_call 45; refine calls_later_same (most_spec _ _ _))))
      refine wpQuiet_nil ?_
      intro _ hw'
      obtain ⟨x, rfl⟩ := hw'
      rw [← hlow, ← hhigh]
      have O0 := hid (O2.out.below x.below)
      have G0 : w.heap.size + 2 < x.wd.heap.size := by have := x.size; omega
      have B3 : Below w.heap.size w x.wd := Below.on B2 B2.size x.below
      have x0 : x.wd.cell? ⟨w.heap.size, 0, none⟩ = some (.int .i64 a.Id) := (x.cell _ _ (by omega)).trans z0
      have x1 : x.wd.cell? ⟨w.heap.size, 1, none⟩ = some (.int .i64 a.West) := (x.cell _ _ (by omega)).trans z1
      have x2 : x.wd.cell? ⟨w.heap.size, 2, none⟩ = some (.int .i64 a.South) := (x.cell _ _ (by omega)).trans z2
      have x3 : x.wd.cell? ⟨w.heap.size, 3, none⟩ = some (.int .i64 a.East) := (x.cell _ _ (by omega)).trans z3
      have x4 : x.wd.cell? ⟨w.heap.size, 4, none⟩ = some (.int .i64 a.North) := (x.cell _ _ (by omega)).trans z4
      have y0 : x.wd.cell? ⟨w.heap.size + 1, 0, none⟩ = some (.int .i64 b.Id) := (x.cell _ _ (by omega)).trans u0
      have y1 : x.wd.cell? ⟨w.heap.size + 1, 1, none⟩ = some (.int .i64 b.West) := (x.cell _ _ (by omega)).trans u1
      have y2 : x.wd.cell? ⟨w.heap.size + 1, 2, none⟩ = some (.int .i64 b.South) := (x.cell _ _ (by omega)).trans u2
      have y3 : x.wd.cell? ⟨w.heap.size + 1, 3, none⟩ = some (.int .i64 b.East) := (x.cell _ _ (by omega)).trans u3
      have y4 : x.wd.cell? ⟨w.heap.size + 1, 4, none⟩ = some (.int .i64 b.North) := (x.cell _ _ (by omega)).trans u4
      clear hq z0 u0 z1 u1 z2 u2 z3 u3 z4 u4 O2 hlow hhigh hb1 hb2 B1 B2 A1
      generalize x.wd = q0 at *
      have qx0 := x0
      have qx1 := x1
      have qx2 := x2
      have qx3 := x3
      have qx4 := x4
      have qy0 := y0
      have qy1 := y1
      have qy2 := y2
      have qy3 := y3
      have qy4 := y4
      have HX := hid (And.intro qx0 qy0)
      go_wp2_with fail
      refine (some_spec _ [] (w.heap.size + 2) _ _ _ _ _ (O0.out) (by have := G0; first | omega | (simp only [World.size_drew]; omega)) (by simp only [List.length_append, List.length_nil, List.nil_append] ; omega)).mono ?_
      rintro e q1 ⟨v1, rfl, o1, b1⟩
      have R1 : Below (w.heap.size + 2) q0 q1 := b1
      have O1 := hid o1
      have G1 : w.heap.size + 2 < q1.heap.size := by have := b1.size; omega
      have x0 : q1.cell? ⟨w.heap.size, 0, none⟩ = some (.int .i64 a.Id) := (R1.cell (by simp only; omega)).trans qx0
      have x1 : q1.cell? ⟨w.heap.size, 1, none⟩ = some (.int .i64 a.West) := (R1.cell (by simp only; omega)).trans qx1
      have x2 : q1.cell? ⟨w.heap.size, 2, none⟩ = some (.int .i64 a.South) := (R1.cell (by simp only; omega)).trans qx2
      have x3 : q1.cell? ⟨w.heap.size, 3, none⟩ = some (.int .i64 a.East) := (R1.cell (by simp only; omega)).trans qx3
      have x4 : q1.cell? ⟨w.heap.size, 4, none⟩ = some (.int .i64 a.North) := (R1.cell (by simp only; omega)).trans qx4
      have y0 : q1.cell? ⟨w.heap.size + 1, 0, none⟩ = some (.int .i64 b.Id) := (R1.cell (by simp only; omega)).trans qy0
      have y1 : q1.cell? ⟨w.heap.size + 1, 1, none⟩ = some (.int .i64 b.West) := (R1.cell (by simp only; omega)).trans qy1
      have y2 : q1.cell? ⟨w.heap.size + 1, 2, none⟩ = some (.int .i64 b.South) := (R1.cell (by simp only; omega)).trans qy2
      have y3 : q1.cell? ⟨w.heap.size + 1, 3, none⟩ = some (.int .i64 b.East) := (R1.cell (by simp only; omega)).trans qy3
      have y4 : q1.cell? ⟨w.heap.size + 1, 4, none⟩ = some (.int .i64 b.North) := (R1.cell (by simp only; omega)).trans qy4
      clear o1 b1
      go_wp2_with fail
      refine wp_region_still_tail 10 (by kernel_rfl) (by kernel_rfl) ?_
      simp only [List.take_succ_cons, List.take_zero, List.drop_succ_cons, List.drop_zero]
      repeat still_step
      still_call (most_still _ _ _)
      repeat still_step
      refine wpStill_nil ?_
      change wpList _ _ _ _ _ q1.drew
      go_wp2_with fail
      refine (some_spec _ ([] ++ partZ a.West a.South a.East low) (w.heap.size + 2) _ _ _ _ _ (O1.out.below (Below.refl _ _).drew) (by have := G1; first | omega | (simp only [World.size_drew]; omega)) (by have := partZ_le a.West a.South a.East low; simp only [List.length_append, List.length_nil, List.nil_append] ; omega)).mono ?_
      rintro e q2 ⟨v2, rfl, o2, b2⟩
      have R2 : Below (w.heap.size + 2) q0 q2 := R1.trans (((Below.refl q1.heap.size q1).drew.mono (by have := G1; omega)).trans b2)
      have O2 := hid o2
      have G2 : w.heap.size + 2 < q2.heap.size := by have := b2.size; simp only [World.size_drew] at this; omega
      have x0 : q2.cell? ⟨w.heap.size, 0, none⟩ = some (.int .i64 a.Id) := (R2.cell (by simp only; omega)).trans qx0
      have x1 : q2.cell? ⟨w.heap.size, 1, none⟩ = some (.int .i64 a.West) := (R2.cell (by simp only; omega)).trans qx1
      have x2 : q2.cell? ⟨w.heap.size, 2, none⟩ = some (.int .i64 a.South) := (R2.cell (by simp only; omega)).trans qx2
      have x3 : q2.cell? ⟨w.heap.size, 3, none⟩ = some (.int .i64 a.East) := (R2.cell (by simp only; omega)).trans qx3
      have x4 : q2.cell? ⟨w.heap.size, 4, none⟩ = some (.int .i64 a.North) := (R2.cell (by simp only; omega)).trans qx4
      have y0 : q2.cell? ⟨w.heap.size + 1, 0, none⟩ = some (.int .i64 b.Id) := (R2.cell (by simp only; omega)).trans qy0
      have y1 : q2.cell? ⟨w.heap.size + 1, 1, none⟩ = some (.int .i64 b.West) := (R2.cell (by simp only; omega)).trans qy1
      have y2 : q2.cell? ⟨w.heap.size + 1, 2, none⟩ = some (.int .i64 b.South) := (R2.cell (by simp only; omega)).trans qy2
      have y3 : q2.cell? ⟨w.heap.size + 1, 3, none⟩ = some (.int .i64 b.East) := (R2.cell (by simp only; omega)).trans qy3
      have y4 : q2.cell? ⟨w.heap.size + 1, 4, none⟩ = some (.int .i64 b.North) := (R2.cell (by simp only; omega)).trans qy4
      clear o2 b2
      go_wp2_with fail
      refine wp_region_still_tail 10 (by kernel_rfl) (by kernel_rfl) ?_
      simp only [List.take_succ_cons, List.take_zero, List.drop_succ_cons, List.drop_zero]
      repeat still_step
      still_call (least_still _ _ _)
      repeat still_step
      refine wpStill_nil ?_
      change wpList _ _ _ _ _ q2.drew
      go_wp2_with fail
      refine (some_spec _ (([] ++ partZ a.West a.South a.East low) ++ partZ a.West (imax low high) a.East a.North) (w.heap.size + 2) _ _ _ _ _ (O2.out.below (Below.refl _ _).drew) (by have := G2; first | omega | (simp only [World.size_drew]; omega)) (by have := partZ_le a.West a.South a.East low; have := partZ_le a.West (imax low high) a.East a.North; simp only [List.length_append, List.length_nil, List.nil_append] ; omega)).mono ?_
      rintro e q3 ⟨v3, rfl, o3, b3⟩
      have R3 : Below (w.heap.size + 2) q0 q3 := R2.trans (((Below.refl q2.heap.size q2).drew.mono (by have := G2; omega)).trans b3)
      have O3 := hid o3
      have G3 : w.heap.size + 2 < q3.heap.size := by have := b3.size; simp only [World.size_drew] at this; omega
      have x0 : q3.cell? ⟨w.heap.size, 0, none⟩ = some (.int .i64 a.Id) := (R3.cell (by simp only; omega)).trans qx0
      have x1 : q3.cell? ⟨w.heap.size, 1, none⟩ = some (.int .i64 a.West) := (R3.cell (by simp only; omega)).trans qx1
      have x2 : q3.cell? ⟨w.heap.size, 2, none⟩ = some (.int .i64 a.South) := (R3.cell (by simp only; omega)).trans qx2
      have x3 : q3.cell? ⟨w.heap.size, 3, none⟩ = some (.int .i64 a.East) := (R3.cell (by simp only; omega)).trans qx3
      have x4 : q3.cell? ⟨w.heap.size, 4, none⟩ = some (.int .i64 a.North) := (R3.cell (by simp only; omega)).trans qx4
      have y0 : q3.cell? ⟨w.heap.size + 1, 0, none⟩ = some (.int .i64 b.Id) := (R3.cell (by simp only; omega)).trans qy0
      have y1 : q3.cell? ⟨w.heap.size + 1, 1, none⟩ = some (.int .i64 b.West) := (R3.cell (by simp only; omega)).trans qy1
      have y2 : q3.cell? ⟨w.heap.size + 1, 2, none⟩ = some (.int .i64 b.South) := (R3.cell (by simp only; omega)).trans qy2
      have y3 : q3.cell? ⟨w.heap.size + 1, 3, none⟩ = some (.int .i64 b.East) := (R3.cell (by simp only; omega)).trans qy3
      have y4 : q3.cell? ⟨w.heap.size + 1, 4, none⟩ = some (.int .i64 b.North) := (R3.cell (by simp only; omega)).trans qy4
      clear o3 b3
      go_wp2_with fail
      refine wp_region_still_tail 10 (by kernel_rfl) (by kernel_rfl) ?_
      simp only [List.take_succ_cons, List.take_zero, List.drop_succ_cons, List.drop_zero]
      repeat still_step
      still_call (most_still _ _ _)
      repeat still_step
      refine wpStill_nil ?_
      change wpList _ _ _ _ _ q3.drew
      go_wp2_with fail
      refine (some_spec _ ((([] ++ partZ a.West a.South a.East low) ++ partZ a.West (imax low high) a.East a.North) ++ partZ a.West low (imin a.East b.West) high) (w.heap.size + 2) _ _ _ _ _ (O3.out.below (Below.refl _ _).drew) (by have := G3; first | omega | (simp only [World.size_drew]; omega)) (by have := partZ_le a.West a.South a.East low; have := partZ_le a.West (imax low high) a.East a.North; have := partZ_le a.West low (imin a.East b.West) high; simp only [List.length_append, List.length_nil, List.nil_append] ; omega)).mono ?_
      rintro e q4 ⟨v4, rfl, o4, b4⟩
      have R4 : Below (w.heap.size + 2) q0 q4 := R3.trans (((Below.refl q3.heap.size q3).drew.mono (by have := G3; omega)).trans b4)
      have O4 := hid o4
      have G4 : w.heap.size + 2 < q4.heap.size := by have := b4.size; simp only [World.size_drew] at this; omega
      have x0 : q4.cell? ⟨w.heap.size, 0, none⟩ = some (.int .i64 a.Id) := (R4.cell (by simp only; omega)).trans qx0
      have x1 : q4.cell? ⟨w.heap.size, 1, none⟩ = some (.int .i64 a.West) := (R4.cell (by simp only; omega)).trans qx1
      have x2 : q4.cell? ⟨w.heap.size, 2, none⟩ = some (.int .i64 a.South) := (R4.cell (by simp only; omega)).trans qx2
      have x3 : q4.cell? ⟨w.heap.size, 3, none⟩ = some (.int .i64 a.East) := (R4.cell (by simp only; omega)).trans qx3
      have x4 : q4.cell? ⟨w.heap.size, 4, none⟩ = some (.int .i64 a.North) := (R4.cell (by simp only; omega)).trans qx4
      have y0 : q4.cell? ⟨w.heap.size + 1, 0, none⟩ = some (.int .i64 b.Id) := (R4.cell (by simp only; omega)).trans qy0
      have y1 : q4.cell? ⟨w.heap.size + 1, 1, none⟩ = some (.int .i64 b.West) := (R4.cell (by simp only; omega)).trans qy1
      have y2 : q4.cell? ⟨w.heap.size + 1, 2, none⟩ = some (.int .i64 b.South) := (R4.cell (by simp only; omega)).trans qy2
      have y3 : q4.cell? ⟨w.heap.size + 1, 3, none⟩ = some (.int .i64 b.East) := (R4.cell (by simp only; omega)).trans qy3
      have y4 : q4.cell? ⟨w.heap.size + 1, 4, none⟩ = some (.int .i64 b.North) := (R4.cell (by simp only; omega)).trans qy4
      clear o4 b4

      go_wp2_with fail
      go_ret2
      exact ⟨_, by rw [HL.out.2]; rfl, by rw [HL.out.1, ← HS.out]; exact O4.out.base (by omega), B3.trans (R4.mono (by omega))⟩
    · have hb' : zoneB b = false := by simpa using hb
      have HL : Hid (cutL a b = [] ∧ cutOk a b = false) := by unfold Hid cutL cutOk; rw [hb', Bool.and_false]; exact ⟨rfl, rfl⟩
      clear hb
      go_wp2_with fail
      go_ret2
      exact ⟨_, by rw [HL.out.2]; rfl, by rw [HL.out.1]; exact O2.out.base (by omega), B2⟩
  · have ha' : zoneB a = false := by simpa using ha
    have HL : Hid (cutL a b = [] ∧ cutOk a b = false) := by unfold Hid cutL cutOk; rw [ha']; exact ⟨rfl, rfl⟩
    clear ha
    go_wp2_with fail
    go_ret2
    exact ⟨_, by rw [HL.out.2]; rfl, by rw [HL.out.1]; exact O1.out.base (by omega), A1⟩

end Go.Proofs.Ytcnjafpfkdaoeaa
