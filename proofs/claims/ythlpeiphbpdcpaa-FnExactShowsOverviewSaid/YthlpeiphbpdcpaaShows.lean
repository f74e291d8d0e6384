/-
  The sheets that show where a sheet begins; by the program and by the reference. No condition.
-/
import Derived.Test.YthlpeiphbpdcpaaNear2
namespace Go.Proofs.Ythlpeiphbpdcpaa
open Go.RowKit
set_option linter.unusedVariables false
set_option maxRecDepth 100000

/-- A sheet of a greater scale than S on which the point of row R and column C lies. -/
def showB (R C S : Int) (s : SheetD) : Bool := decide (S < s.Scale) && (inB (R - s.Row * s.Scale) 0 (s.Scale - 1) && inB (C - s.Col * s.Scale) 0 (s.Scale - 1))
def rowS (s : SheetD) : Int := s.Row * s.Scale
def colS (s : SheetD) : Int := s.Col * s.Scale
theorem prod_bd {p q : Int} (p0 : 0 ≤ p) (p1 : p ≤ 99) (q0 : 10 ≤ q) (q1 : q ≤ 500) : 0 ≤ p * q ∧ p * q ≤ 49500 :=
  ⟨Int.mul_nonneg p0 (by omega), Int.le_trans (Int.mul_le_mul p1 q1 (by omega) (by omega)) (by decide)⟩
theorem sheet_prod {s : SheetD} (h : sheetB s = true) : (0 ≤ rowS s ∧ rowS s ≤ 49500) ∧ (0 ≤ colS s ∧ colS s ≤ 49500) ∧ 10 ≤ s.Scale ∧ s.Scale ≤ 500 := by
  have h1 : 0 ≤ s.Row ∧ s.Row ≤ 99 ∧ 0 ≤ s.Col ∧ s.Col ≤ 99 ∧ 10 ≤ s.Scale ∧ s.Scale ≤ 500 := by simp [sheetB, inB] at h; omega
  exact ⟨prod_bd (by omega) (by omega) (by omega) (by omega), prod_bd (by omega) (by omega) (by omega) (by omega), by omega, by omega⟩
def shP (X : Nat → SheetD) (j i : Nat) : Bool := showB (rowS (X j)) (colS (X j)) (X j).Scale (X i)
def shL (X : Nat → SheetD) (n : Nat) (id : Int) : List Int := if nbOk X n id = true then selI (shP X (findI (fun i => (X i).Id == id) n).toNat) (fun i => (X i).Id) n else []
theorem shL_le (X : Nat → SheetD) (n : Nat) (id : Int) : (shL X n id).length ≤ n := by
  unfold shL; split
  · exact selI_le _ _ _
  · simp
theorem sh_miss {X : Nat → SheetD} {n : Nat} {id : Int} (h : sheetsB X n = false ∨ findI (fun i => (X i).Id == id) n = -1) : shL X n id = [] ∧ nbOk X n id = false := by
  have h2 := (nb_miss h).2
  exact ⟨by unfold shL; rw [h2]; rfl, h2⟩
theorem sh_hit {X : Nat → SheetD} {n j : Nat} {id : Int} (h : sheetsB X n = true) (hj : findI (fun i => (X i).Id == id) n = (j : Int)) : shL X n id = selI (shP X j) (fun i => (X i).Id) n ∧ nbOk X n id = true := by
  have h2 := (nb_hit h hj).2
  exact ⟨by unfold shL; rw [if_pos h2, hj]; rfl, h2⟩

set_option maxHeartbeats 8000000 in
theorem shows_spec (w : World) (b off len cap : Nat) (X : Nat → SheetD) (id : Int) (h : Rw w b off 5 len (fun i => (X i).cells)) (hm : len ≤ 1048576) (hlc : len ≤ cap) :
    Calls Try.prog 24 #[.slice (some ⟨b, off, none⟩) len cap, .int .i64 id] w (RetIB (shL X len id) (nbOk X len id) w) := by
  have H := hid h
  have hb := h.1
  clear h
  obtain ⟨i0, hi, hz0, hz1, hz2⟩ := info_parts info_int
  have hE := hid (ownI_empty w)
  have hA : Below w.heap.size w (w.alloc (.cells #[] 3)) := by go_grown
  go_enter Try.func24, Try.ntmps24
  go_wp2_with fail
  refine (find_spec _ b off len cap X id (H.out.later' hA) hm hlc).mono ?_
  rintro e w1 ⟨he, rfl⟩
  rcases findI_cases (fun i => (X i).Id == id) len with hK | ⟨j, hj, hK, hpj⟩
  · rw [hK] at he
    have HK := hid hK
    clear hK
    subst he
    go_wp2_with fail
    refine (sheets_spec _ b off len cap X (H.out.later' hA) hm hlc).mono ?_
    rintro e w1 ⟨rfl, hb1⟩
    have B1 := Below.on hA hA.size hb1
    have ho1 := hid (hE.out.below hb1)
    by_cases hS : sheetsB X len = true
    all_goals
      go_wp2_with fail
      go_ret2
      exact ⟨_, by rw [(sh_miss (.inr HK.out)).2]; rfl, by rw [(sh_miss (.inr HK.out)).1]; exact ho1, B1⟩
  · clear hpj
    rw [hK] at he
    have HK := hid hK
    clear hK
    subst he
    go_wp2_with fail
    refine (sheets_spec _ b off len cap X (H.out.later' hA) hm hlc).mono ?_
    rintro e w1 ⟨rfl, hb1⟩
    have B1 := Below.on hA hA.size hb1
    have ho1 := hid (hE.out.below hb1)
    clear hE
    by_cases hS : sheetsB X len = true
    · have HS := hid hS
      obtain ⟨⟨r0, r1⟩, ⟨s0, s1⟩, t0, t1⟩ := sheet_prod (sheetsB_valid hS hj)
      obtain ⟨R, hR⟩ : ∃ R, (X j).Row * (X j).Scale = R := ⟨_, rfl⟩
      obtain ⟨C, hC⟩ : ∃ C, (X j).Col * (X j).Scale = C := ⟨_, rfl⟩
      have HP : Hid (∀ k, shP X j k = (decide ((X j).Scale < (X k).Scale) && (inB (R - (X k).Row * (X k).Scale) 0 ((X k).Scale - 1) && inB (C - (X k).Col * (X k).Scale) 0 ((X k).Scale - 1)))) := by intro k; unfold shP showB rowS colS; rw [hR, hC]
      simp only [rowS, colS] at r0 r1 s0 s1
      rw [hR] at r0 r1
      rw [hC] at s0 s1
      have e4 : (0 : Int) ≤ (j : Int) := by omega
      have e5 : (j : Int) < (len : Int) := by omega
      have d0 : w1.cell? ⟨b, off + j * 5, none⟩ = some (.int .i64 (X j).Id) := (B1.cell hb).trans (H.out.2 j hj 0 (by omega))
      have d1 : w1.cell? ⟨b, off + j * 5 + 1, none⟩ = some (.int .i64 (X j).Row) := (B1.cell hb).trans (H.out.2 j hj 1 (by omega))
      have d2 : w1.cell? ⟨b, off + j * 5 + 2, none⟩ = some (.int .i64 (X j).Col) := (B1.cell hb).trans (H.out.2 j hj 2 (by omega))
      have d3 : w1.cell? ⟨b, off + j * 5 + 3, none⟩ = some (.int .i64 (X j).Scale) := (B1.cell hb).trans (H.out.2 j hj 3 (by omega))
      have d4 : w1.cell? ⟨b, off + j * 5 + 4, none⟩ = some (.int .i64 (X j).Year) := (B1.cell hb).trans (H.out.2 j hj 4 (by omega))
      have n1 : IntKind.i64.wrap ((X j).Row * (X j).Scale) = R := (IntWalk.i64_in _ (by omega)).trans hR
      have n2 : IntKind.i64.wrap ((X j).Col * (X j).Scale) = C := (IntWalk.i64_in _ (by omega)).trans hC
      clear hR hC
      have lb1 : b < w1.heap.size := by have := B1.size; omega
      have hq := fun x : Later w1 => x.cell
      go_wp2_with fail
      refine region_later (by kernel_rfl) (by kernel_rfl) ?_
      repeat (go_big_quiet_step (fail))
      refine wpQuiet_nil ?_
      intro _ hw'
      obtain ⟨x, rfl⟩ := hw'
      have B2 : Below w.heap.size w x.wd := Below.on B1 B1.size x.below
      have ho2 := hid (ho1.out.below x.below)
      clear hq n1 n2 d0 d1 d2 d3 d4 ho1 hb1
      go_wp2_with fail
      go_loopw [6, 10] (fun v i wr => ∃ k : Nat, k ≤ len ∧ i = .int .i64 k ∧ Below w.heap.size w wr ∧ Hid (OwnI w.heap.size wr v (selI (shP X j) (fun i => (X i).Id) k))) (fun _ i _ => len - (intOf i).toNat)
      case atStart => exact ⟨0, by omega, rfl, B2, ho2⟩
      case round =>
        clear B1 B2 ho2 hA hS x lb1
        obtain ⟨k, hk, rfl, hB, ho⟩ := hrel
        by_cases hlt : k < len
        · obtain ⟨⟨r2, r3⟩, ⟨s2, s3⟩, t2, t3⟩ := sheet_prod (sheetsB_valid HS.out hlt)
          simp only [rowS, colS] at r2 r3 s2 s3
          have c0 : wr.cell? ⟨b, off + k * 5, none⟩ = some (.int .i64 (X k).Id) := (hB.cell hb).trans (H.out.2 k hlt 0 (by omega))
          have c1 : wr.cell? ⟨b, off + k * 5 + 1, none⟩ = some (.int .i64 (X k).Row) := (hB.cell hb).trans (H.out.2 k hlt 1 (by omega))
          have c2 : wr.cell? ⟨b, off + k * 5 + 2, none⟩ = some (.int .i64 (X k).Col) := (hB.cell hb).trans (H.out.2 k hlt 2 (by omega))
          have c3 : wr.cell? ⟨b, off + k * 5 + 3, none⟩ = some (.int .i64 (X k).Scale) := (hB.cell hb).trans (H.out.2 k hlt 3 (by omega))
          have c4 : wr.cell? ⟨b, off + k * 5 + 4, none⟩ = some (.int .i64 (X k).Year) := (hB.cell hb).trans (H.out.2 k hlt 4 (by omega))
          have d3 : wr.cell? ⟨b, off + j * 5 + 3, none⟩ = some (.int .i64 (X j).Scale) := (hB.cell hb).trans (H.out.2 j hj 3 (by omega))
          have m1 : IntKind.i64.wrap ((X k).Row * (X k).Scale) = (X k).Row * (X k).Scale := IntWalk.i64_in _ (by omega)
          have m2 : IntKind.i64.wrap (R - (X k).Row * (X k).Scale) = R - (X k).Row * (X k).Scale := IntWalk.i64_in _ (by omega)
          have m3 : IntKind.i64.wrap ((X k).Scale - 1) = (X k).Scale - 1 := IntWalk.i64_in _ (by omega)
          have m4 : IntKind.i64.wrap ((X k).Col * (X k).Scale) = (X k).Col * (X k).Scale := IntWalk.i64_in _ (by omega)
          have m5 : IntKind.i64.wrap (C - (X k).Col * (X k).Scale) = C - (X k).Col * (X k).Scale := IntWalk.i64_in _ (by omega)
          have lb : b < wr.heap.size := by have := hB.size; omega
          have lb' : b < wr.heap.size + 1 := by omega
          have hA2 : Below w.heap.size w (wr.alloc (.cells #[.int .i64 (X k).Id, .int .i64 (X k).Row, .int .i64 (X k).Col, .int .i64 (X k).Scale, .int .i64 (X k).Year] 26)) := hB.alloc hB.size _
          have hle := selI_le (shP X j) (fun i => (X i).Id) k
          by_cases g1 : (X j).Scale < (X k).Scale
          · have g1' : decide ((X j).Scale < (X k).Scale) = true := by simpa using g1
            by_cases g2 : inB (R - (X k).Row * (X k).Scale) 0 ((X k).Scale - 1) = true
            · by_cases g3 : inB (C - (X k).Col * (X k).Scale) 0 ((X k).Scale - 1) = true
              · have hp : Hid (shP X j k = true) := by unfold Hid; rw [HP.out k, g1', g2, g3]; rfl
                go_wp2_with fail
                have hq := fun x : Later (wr.alloc (.cells #[.int .i64 (X k).Id, .int .i64 (X k).Row, .int .i64 (X k).Col, .int .i64 (X k).Scale, .int .i64 (X k).Year] 26)) => x.cell
                refine region_later (by kernel_rfl) (by kernel_rfl) ?_
                repeat (go_big_quiet_step ((go_at_call 27; refine calls_later_same (in_spec _ _ _ _))))
                refine wpQuiet_nil ?_
                intro _ hw'
                obtain ⟨x, rfl⟩ := hw'
                have hB1 : Below w.heap.size w x.wd := Below.on hA2 hA2.size x.below
                have f0 : x.wd.cell? ⟨wr.heap.size, 0, none⟩ = some (.int .i64 (X k).Id) := (x.cell _ _ (by simp)).trans (by simp [go_sem])
                have ho1 := hid ((World.ownsRow.alloc ho.out (.cells #[.int .i64 (X k).Id, .int .i64 (X k).Row, .int .i64 (X k).Col, .int .i64 (X k).Scale, .int .i64 (X k).Year] 26) |> ownsRow_below) x.below)
                clear hq
                go_wp2_with (at_builtin; refine wpList_append_own_at _ rfl _ _ 39 rfl w.heap.size 3 i0 (.int .i64 0) 1 8 Try.underlying39 hi hz0 hz1 hz2 rfl (by decide) _ _ _ rfl (World.ownsRow.alloc ho1.out _) ⟨x.wd.heap.size, 0, none⟩ 1 1 [.int .i64 (X k).Id] rfl rfl ?c1 ?c2 ?c3 ?c4 ?c5 ?_)
                case c1 => exact cell_one_new _ _ _
                case c2 => intro u hu; simp at hu; subst hu; rfl
                case c3 => unfold maxLen; omega
                case c4 => omega
                case c5 => have := hB1.size; simp; omega
                intro v' w2 hown' hgrow _ _
                have hb2 : Below w.heap.size w w2 := (hB1.alloc hB1.size _).grown hgrow (by have := hB1.size; simp; omega) (fun g hg => by have := (World.ownsRow.lt ho1.out g hg).1; omega)
                have ho2 : Hid (OwnI w.heap.size w2 v' (selI (shP X j) (fun i => (X i).Id) (k + 1))) := by
                  rw [selI_yes hp.out]
                  unfold Hid OwnI
                  simpa using hown'
                clear hown' hgrow ho1
                go_wp2_with fail
                go_roundw
                case rel => exact ⟨k + 1, by omega, by go_num, hb2, ho2⟩
                case measure => simp [intOf]; omega
              · have g3' : inB (C - (X k).Col * (X k).Scale) 0 ((X k).Scale - 1) = false := by simpa using g3
                have hp : Hid (shP X j k = false) := by unfold Hid; rw [HP.out k, g1', g2, g3']; rfl
                clear g3
                go_wp2_with fail
                have hq := fun x : Later (wr.alloc (.cells #[.int .i64 (X k).Id, .int .i64 (X k).Row, .int .i64 (X k).Col, .int .i64 (X k).Scale, .int .i64 (X k).Year] 26)) => x.cell
                refine region_later (by kernel_rfl) (by kernel_rfl) ?_
                repeat (go_big_quiet_step ((go_at_call 27; refine calls_later_same (in_spec _ _ _ _))))
                refine wpQuiet_nil ?_
                intro _ hw'
                obtain ⟨x, rfl⟩ := hw'
                have hB1 : Below w.heap.size w x.wd := Below.on hA2 hA2.size x.below
                have f0 : x.wd.cell? ⟨wr.heap.size, 0, none⟩ = some (.int .i64 (X k).Id) := (x.cell _ _ (by simp)).trans (by simp [go_sem])
                have ho1 := hid ((World.ownsRow.alloc ho.out (.cells #[.int .i64 (X k).Id, .int .i64 (X k).Row, .int .i64 (X k).Col, .int .i64 (X k).Scale, .int .i64 (X k).Year] 26) |> ownsRow_below) x.below)
                clear hq
                go_wp2_with fail
                go_roundw
                case rel => exact ⟨k + 1, by omega, by go_num, hB1, by rw [selI_no hp.out]; exact ho1.out⟩
                case measure => simp [intOf]; omega
            · have g2' : inB (R - (X k).Row * (X k).Scale) 0 ((X k).Scale - 1) = false := by simpa using g2
              have hp : Hid (shP X j k = false) := by unfold Hid; rw [HP.out k, g1', g2']; rfl
              clear g2
              go_wp2_with fail
              have hq := fun x : Later (wr.alloc (.cells #[.int .i64 (X k).Id, .int .i64 (X k).Row, .int .i64 (X k).Col, .int .i64 (X k).Scale, .int .i64 (X k).Year] 26)) => x.cell
              refine region_later (by kernel_rfl) (by kernel_rfl) ?_
              repeat (go_big_quiet_step ((go_at_call 27; refine calls_later_same (in_spec _ _ _ _))))
              refine wpQuiet_nil ?_
              intro _ hw'
              obtain ⟨x, rfl⟩ := hw'
              have hB1 : Below w.heap.size w x.wd := Below.on hA2 hA2.size x.below
              have f0 : x.wd.cell? ⟨wr.heap.size, 0, none⟩ = some (.int .i64 (X k).Id) := (x.cell _ _ (by simp)).trans (by simp [go_sem])
              have ho1 := hid ((World.ownsRow.alloc ho.out (.cells #[.int .i64 (X k).Id, .int .i64 (X k).Row, .int .i64 (X k).Col, .int .i64 (X k).Scale, .int .i64 (X k).Year] 26) |> ownsRow_below) x.below)
              clear hq
              go_wp2_with fail
              go_roundw
              case rel => exact ⟨k + 1, by omega, by go_num, hB1, by rw [selI_no hp.out]; exact ho1.out⟩
              case measure => simp [intOf]; omega
          · have g1' : decide ((X j).Scale < (X k).Scale) = false := by simpa using g1
            have hp : Hid (shP X j k = false) := by unfold Hid; rw [HP.out k, g1']; rfl
            clear g1
            go_wp2_with fail
            have hq := fun x : Later (wr.alloc (.cells #[.int .i64 (X k).Id, .int .i64 (X k).Row, .int .i64 (X k).Col, .int .i64 (X k).Scale, .int .i64 (X k).Year] 26)) => x.cell
            refine region_later (by kernel_rfl) (by kernel_rfl) ?_
            repeat (go_big_quiet_step ((go_at_call 27; refine calls_later_same (in_spec _ _ _ _))))
            refine wpQuiet_nil ?_
            intro _ hw'
            obtain ⟨x, rfl⟩ := hw'
            have hB1 : Below w.heap.size w x.wd := Below.on hA2 hA2.size x.below
            have f0 : x.wd.cell? ⟨wr.heap.size, 0, none⟩ = some (.int .i64 (X k).Id) := (x.cell _ _ (by simp)).trans (by simp [go_sem])
            have ho1 := hid ((World.ownsRow.alloc ho.out (.cells #[.int .i64 (X k).Id, .int .i64 (X k).Row, .int .i64 (X k).Col, .int .i64 (X k).Scale, .int .i64 (X k).Year] 26) |> ownsRow_below) x.below)
            clear hq
            go_wp2_with fail
            go_roundw
            case rel => exact ⟨k + 1, by omega, by go_num, hB1, by rw [selI_no hp.out]; exact ho1.out⟩
            case measure => simp [intOf]; omega
        · obtain rfl : k = len := by omega
          go_wp2_with fail
          go_ret2
          exact ⟨_, by rw [(sh_hit HS.out HK.out).2]; rfl, by rw [(sh_hit HS.out HK.out).1]; exact ho.out, hB⟩
    · have hS' : sheetsB X len = false := by simpa using hS
      clear hS
      go_wp2_with fail
      go_ret2
      exact ⟨_, by rw [(sh_miss (.inl hS')).2]; rfl, by rw [(sh_miss (.inl hS')).1]; exact ho1, B1⟩

end Go.Proofs.Ythlpeiphbpdcpaa
