/-
  The library's insertion sort over flats. No condition.
-/
import Derived.Test.YtejpmomedclnhaaStor
import Derived.Test.YtejpmomedclnhaaDelFlat
import Derived.BigQuiet
import Derived.Deep.QuietTactic
import Derived.StillTailTactics
import Derived.Deep.RegionHeld3
namespace Go.Proofs.Ytejpmomedclnhaa
open Go.RowKit
set_option linter.unusedVariables false
set_option maxRecDepth 100000

theorem sinkL_len : ∀ (j : Nat) (L : List FlatD), (sinkL j L).length = L.length
  | 0, L => rfl
  | j + 1, L => by
    unfold sinkL
    split
    · rw [sinkL_len j]; simp
    · rfl
def isL (L : List FlatD) : Nat → List FlatD
  | 0 => L
  | k + 1 => sinkL k (isL L k)
theorem isL_len (L : List FlatD) : ∀ k, (isL L k).length = L.length
  | 0 => rfl
  | k + 1 => by unfold isL; rw [sinkL_len, isL_len L k]

set_option maxHeartbeats 8000000 in
theorem isort_any (w : World) (B g n cap : Nat) (L : List FlatD) (h : OwnFlat B w (.slice (some ⟨g, 0, none⟩) n cap) L) (hn : L.length = n) (h10 : n ≤ 20) (hB0 : B ≤ w.heap.size) :
    Calls Try.prog 116 #[.slice (some ⟨g, 0, none⟩) n cap, .int .i64 0, .int .i64 (n : Int), .func (.func 87) #[] #[]] w fun e w' => e = .returned (.tuple #[]) ∧ OwnFlat B w' (.slice (some ⟨g, 0, none⟩) n cap) (isL L n) ∧ w.grownBy w' (some g) := by
  have HO := hid h
  clear h
  go_enter Try.func116, Try.ntmps116
  go_wp2_with fail
  go_loopw [8] (fun i wr => ∃ k : Nat, 1 ≤ k ∧ (k ≤ n ∨ k = 1) ∧ i = .int .i64 k ∧ Hid (OwnFlat B wr (.slice (some ⟨g, 0, none⟩) n cap) (isL L k)) ∧ Hid (w.grownBy wr (some g))) (fun i _ => n + 1 - (intOf i).toNat)
  case atStart => exact ⟨1, by omega, by omega, rfl, HO, World.grownBy.refl _ _⟩
  case round =>
    obtain ⟨k, hk1, hk, rfl, hO, hG⟩ := hrel
    by_cases hlt : k < n
    · go_wp2_with fail
      go_loopw [9] (fun j wi => ∃ m : Nat, ∃ M : List FlatD, m ≤ k ∧ j = .int .i64 m ∧ Hid (M.length = n) ∧ Hid (sinkL m M = isL L (k + 1)) ∧ Hid (OwnFlat B wi (.slice (some ⟨g, 0, none⟩) n cap) M) ∧ Hid (w.grownBy wi (some g))) (fun j _ => (intOf j).toNat)
      case atStart => exact ⟨k, isL L k, by omega, rfl, by unfold Hid; rw [isL_len, hn], rfl, hO, hG⟩
      case round =>
        obtain ⟨m, M, hm, rfl, hM, hS, hW, hg⟩ := hrel
        rcases m with _ | j
        · have d0 : decide ((0 : Int) < ((0 : Nat) : Int)) = false := by decide
          have hq := fun x : Later wr => x.cell
          go_wp2_with fail
          refine region_later (by kernel_rfl) (by kernel_rfl) ?_
          repeat (go_big_quiet_step (fail))
          refine wpQuiet_nil ?_
          intro _ hw'
          obtain ⟨x, rfl⟩ := hw'
          have hgx : Hid (w.grownBy x.wd (some g)) := grownBy_trans hg.out (grownBy_of_below x.below _)
          have hWx := hid (hW.out.below x.below)
          clear hq
          go_wp2_with fail
          go_roundw
          case rel => exact ⟨k + 1, by omega, .inl (by omega), by go_num, hid (by have hh := hS.out; unfold sinkL at hh; rw [← hh]; exact hWx.out), hgx⟩
          case measure => simp [intOf] <;> omega
        · have hjn : j + 1 < n := by omega
          obtain ⟨A, hA⟩ : ∃ A, M.getD (j + 1) default = A := ⟨_, rfl⟩
          obtain ⟨C, hC⟩ : ∃ C, M.getD j default = C := ⟨_, rfl⟩
          rcases hW.out.form with ⟨hv, _⟩ | ⟨g', cap', hv, hg1, hg2, hc1, _, hRw0, hBlk0⟩
          · exact absurd hv (by simp)
          injection hv with e1 e2 e3
          injection e1 with e1
          injection e1 with e1
          subst e1
          subst e3
          have hRw := hid hRw0
          have hBlk := hid hBlk0
          clear hRw0 hBlk0 e2
          have p0 : wr.cell? ⟨g, (j + 1) * 4, none⟩ = some (.int .i64 A.Id) := by have hh := hRw.out.2 (j + 1) (by rw [hM.out]; omega) 0 (by omega); simp only [hA, Nat.zero_add] at hh; exact hh
          have p1 : wr.cell? ⟨g, (j + 1) * 4 + 1, none⟩ = some (.int .i64 A.Wide) := by have hh := hRw.out.2 (j + 1) (by rw [hM.out]; omega) 1 (by omega); simp only [hA, Nat.zero_add] at hh; exact hh
          have p2 : wr.cell? ⟨g, (j + 1) * 4 + 2, none⟩ = some (.int .i64 A.High) := by have hh := hRw.out.2 (j + 1) (by rw [hM.out]; omega) 2 (by omega); simp only [hA, Nat.zero_add] at hh; exact hh
          have p3 : wr.cell? ⟨g, (j + 1) * 4 + 3, none⟩ = some (.int .i64 A.Grams) := by have hh := hRw.out.2 (j + 1) (by rw [hM.out]; omega) 3 (by omega); simp only [hA, Nat.zero_add] at hh; exact hh
          have r0 : wr.cell? ⟨g, j * 4, none⟩ = some (.int .i64 C.Id) := by have hh := hRw.out.2 (j) (by rw [hM.out]; omega) 0 (by omega); simp only [hC, Nat.zero_add] at hh; exact hh
          have r1 : wr.cell? ⟨g, j * 4 + 1, none⟩ = some (.int .i64 C.Wide) := by have hh := hRw.out.2 (j) (by rw [hM.out]; omega) 1 (by omega); simp only [hC, Nat.zero_add] at hh; exact hh
          have r2 : wr.cell? ⟨g, j * 4 + 2, none⟩ = some (.int .i64 C.High) := by have hh := hRw.out.2 (j) (by rw [hM.out]; omega) 2 (by omega); simp only [hC, Nat.zero_add] at hh; exact hh
          have r3 : wr.cell? ⟨g, j * 4 + 3, none⟩ = some (.int .i64 C.Grams) := by have hh := hRw.out.2 (j) (by rw [hM.out]; omega) 3 (by omega); simp only [hC, Nat.zero_add] at hh; exact hh
          have z0 : (0 : Int) ≤ (j : Int) := by omega
          have z1 : (j : Int) < (n : Int) := by omega
          have z2 : ((j : Int) + 1) < (n : Int) := by omega
          have z3 : IntKind.i64.wrap ((j : Int) + 1 - 1) = (j : Int) := (IntWalk.i64_in _ (by omega)).trans (by omega)
          have z4 : (0 : Int) < (j : Int) + 1 := by omega
          have d0 : decide ((0 : Int) < (j : Int) + 1) = true := by first | (simp; done) | (simp; omega)
          have hq := fun x : Later wr => x.cell
          have HM := hid hM.out
          by_cases hlt2 : C.wh < A.wh
          · have d1 : decide (cmpI C.wh A.wh < 0) = true := by rw [cmpI_lt]; simp [hlt2]
            have HL := hid hlt2
            clear hlt2
            go_wp2_with fail
            refine region_later (by kernel_rfl) (by kernel_rfl) ?_
            repeat (go_big_quiet_step ((go_at_call 87; refine calls_later (sa_1 A C _))))
            refine wpQuiet_nil ?_
            intro _ hw'
            obtain ⟨x, rfl⟩ := hw'
            have hgx : Hid (w.grownBy x.wd (some g)) := grownBy_trans hg.out (grownBy_of_below x.below _)
            have hWx := hid (hW.out.below x.below)
            have lgx : g < x.wd.heap.size := by have := x.size; omega
            have pp0 := (x.cell _ _ hg2).trans p0
            have pp1 := (x.cell _ _ hg2).trans p1
            have pp2 := (x.cell _ _ hg2).trans p2
            have pp3 := (x.cell _ _ hg2).trans p3
            have rr0 := (x.cell _ _ hg2).trans r0
            have rr1 := (x.cell _ _ hg2).trans r1
            have rr2 := (x.cell _ _ hg2).trans r2
            have rr3 := (x.cell _ _ hg2).trans r3
            have y0 : x.wd.frozen? ⟨g, (j + 1) * 4, none⟩ = false := by rcases hWx.out.form with ⟨hv, _⟩ | ⟨g', cap', hv, _, _, _, _, _, hBlk2⟩; exact absurd hv (by simp); injection hv with e1 e2 e3; injection e1 with e1; injection e1 with e1; subst e1; exact hBlk2.frozen _
            have y1 : x.wd.frozen? ⟨g, (j + 1) * 4 + 1, none⟩ = false := by rcases hWx.out.form with ⟨hv, _⟩ | ⟨g', cap', hv, _, _, _, _, _, hBlk2⟩; exact absurd hv (by simp); injection hv with e1 e2 e3; injection e1 with e1; injection e1 with e1; subst e1; exact hBlk2.frozen _
            have y2 : x.wd.frozen? ⟨g, (j + 1) * 4 + 2, none⟩ = false := by rcases hWx.out.form with ⟨hv, _⟩ | ⟨g', cap', hv, _, _, _, _, _, hBlk2⟩; exact absurd hv (by simp); injection hv with e1 e2 e3; injection e1 with e1; injection e1 with e1; subst e1; exact hBlk2.frozen _
            have y3 : x.wd.frozen? ⟨g, (j + 1) * 4 + 3, none⟩ = false := by rcases hWx.out.form with ⟨hv, _⟩ | ⟨g', cap', hv, _, _, _, _, _, hBlk2⟩; exact absurd hv (by simp); injection hv with e1 e2 e3; injection e1 with e1; injection e1 with e1; subst e1; exact hBlk2.frozen _
            have v0 : x.wd.frozen? ⟨g, j * 4, none⟩ = false := by rcases hWx.out.form with ⟨hv, _⟩ | ⟨g', cap', hv, _, _, _, _, _, hBlk2⟩; exact absurd hv (by simp); injection hv with e1 e2 e3; injection e1 with e1; injection e1 with e1; subst e1; exact hBlk2.frozen _
            have v1 : x.wd.frozen? ⟨g, j * 4 + 1, none⟩ = false := by rcases hWx.out.form with ⟨hv, _⟩ | ⟨g', cap', hv, _, _, _, _, _, hBlk2⟩; exact absurd hv (by simp); injection hv with e1 e2 e3; injection e1 with e1; injection e1 with e1; subst e1; exact hBlk2.frozen _
            have v2 : x.wd.frozen? ⟨g, j * 4 + 2, none⟩ = false := by rcases hWx.out.form with ⟨hv, _⟩ | ⟨g', cap', hv, _, _, _, _, _, hBlk2⟩; exact absurd hv (by simp); injection hv with e1 e2 e3; injection e1 with e1; injection e1 with e1; subst e1; exact hBlk2.frozen _
            have v3 : x.wd.frozen? ⟨g, j * 4 + 3, none⟩ = false := by rcases hWx.out.form with ⟨hv, _⟩ | ⟨g', cap', hv, _, _, _, _, _, hBlk2⟩; exact absurd hv (by simp); injection hv with e1 e2 e3; injection e1 with e1; injection e1 with e1; subst e1; exact hBlk2.frozen _
            clear p0 p1 p2 p3 r0 r1 r2 r3
            clear hq hRw hBlk
            generalize x.wd = wx at *
            go_wp2_with fail
            go_region
            all_goals
              go_wp2_with fail
              go_roundw
              case rel =>
                refine ⟨j, (M.set (j + 1) C).set j A, by omega, by go_num, by unfold Hid; simp [hM.out], ?_, ?_, ?_⟩
                · have hh := hS.out
                  unfold sinkL at hh
                  rw [hA, hC, if_pos HL.out] at hh
                  exact hh
                · exact hid ((hWx.out.put (k := j + 1) hM.out hjn C).put (k := j) (by rw [List.length_set]; exact hM.out) (by omega) A |>.below (Below.refl _ _).drew)
                · exact hid (grownBy_trans (grownBy_trans (grownBy_trans (grownBy_trans (grownBy_trans (grownBy_trans (grownBy_trans (grownBy_trans (grownBy_trans hgx.out (grownBy_set _ _ _ _)) (grownBy_set _ _ _ _)) (grownBy_set _ _ _ _)) (grownBy_set _ _ _ _)) (grownBy_set _ _ _ _)) (grownBy_set _ _ _ _)) (grownBy_set _ _ _ _)) (grownBy_set _ _ _ _)) (grownBy_of_below (Below.refl _ _).drew _))
              case measure => simp [intOf] <;> omega
          · have d1 : decide (cmpI C.wh A.wh < 0) = false := by rw [cmpI_lt]; simp [hlt2]
            have HL := hid hlt2
            clear hlt2
            go_wp2_with fail
            refine region_later (by kernel_rfl) (by kernel_rfl) ?_
            repeat (go_big_quiet_step ((go_at_call 87; refine calls_later (sa_1 A C _))))
            refine wpQuiet_nil ?_
            intro _ hw'
            obtain ⟨x, rfl⟩ := hw'
            have hgx : Hid (w.grownBy x.wd (some g)) := grownBy_trans hg.out (grownBy_of_below x.below _)
            have hWx := hid (hW.out.below x.below)
            clear hq
            go_wp2_with fail
            go_roundw
            case rel => exact ⟨k + 1, by omega, .inl (by omega), by go_num, hid (by have hh := hS.out; unfold sinkL at hh; rw [hA, hC, if_neg (by have := HL.out; omega)] at hh; rw [← hh]; exact hWx.out), hgx⟩
            case measure => simp [intOf] <;> omega
    · go_wp2_with fail
      go_end0
      refine ⟨rfl, ?_, hG.out⟩
      rcases hk with hk | hk
      · have : k = n := by omega
        subst this
        exact hO.out
      · subst hk
        have h0 : n = 0 ∨ n = 1 := by omega
        rcases h0 with rfl | rfl
        · exact hO.out
        · exact hO.out

end Go.Proofs.Ytejpmomedclnhaa
