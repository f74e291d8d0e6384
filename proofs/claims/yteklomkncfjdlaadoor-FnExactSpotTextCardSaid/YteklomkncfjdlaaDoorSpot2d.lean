/-
  Spots in lowest terms, by the program and by the reference. No condition.
-/
import Derived.Test.YteklomkncfjdlaaDoorSpotd
namespace Go.Proofs.YteklomkncfjdlaaDoor
open Go.RowKit
set_option linter.unusedVariables false
set_option maxRecDepth 100000

/-- The greatest common divisor of the three numbers of a spot, D its denominator. -/
def gS (x y : Int) (D : Nat) : Int := gcdI (Nat.gcd x.natAbs y.natAbs) D
def lowP (x y : Int) (D : Nat) : Sp := ⟨Int.tdiv x (gS x y D), Int.tdiv y (gS x y D), (D : Int) / gS x y D⟩
theorem gS_pos (x y : Int) {D : Nat} (h : 0 < D) : 1 ≤ gS x y D := by have := gcd_pos (Nat.gcd x.natAbs y.natAbs) D h; unfold gS gcdI; omega
theorem gS_assoc (x y : Int) (D : Nat) : gcdI x.natAbs (Nat.gcd y.natAbs D) = gS x y D := by unfold gS gcdI; rw [Nat.gcd_assoc]
theorem tdiv_bd (x g : Int) : -(x.natAbs : Int) ≤ Int.tdiv x g ∧ Int.tdiv x g ≤ x.natAbs := by
  have h1 : (Int.tdiv x g).natAbs = x.natAbs / g.natAbs := Int.natAbs_tdiv ..
  have h2 := Nat.div_le_self x.natAbs g.natAbs
  omega
theorem ediv_bd (D : Nat) {g : Int} (h : 1 ≤ g) : 0 ≤ (D : Int) / g ∧ (D : Int) / g ≤ D := by
  refine ⟨Int.ediv_nonneg (by omega) (by omega), Int.ediv_le_self _ (by omega)⟩


theorem gS_neg (x y : Int) (D : Nat) : gS (-x) (-y) D = gS x y D := by unfold gS; rw [Int.natAbs_neg, Int.natAbs_neg]

set_option maxHeartbeats 4000000 in
theorem low_impl_pos (x y : Int) (D : Nat) (hb : SpBd ⟨x, y, 0⟩) (hd : 0 < D) (hd1 : D ≤ 4611686018427387904) (w : World) : Calls Tryd.prog 60 #[.agg #[.int .i64 x, .int .i64 y, .int .i64 (D : Int)]] w fun e w' => e = .returned (lowP x y D).val ∧ Below w.heap.size w w' := by
  obtain ⟨⟨x0, x1⟩, y0, y1⟩ := hb
  simp only at x0 x1 y0 y1
  have hA : Below w.heap.size w ((w.alloc (.cells #[.int .i64 x, .int .i64 y, .int .i64 (D : Int)] 44)).alloc (.cells #[.int .i64 0, .int .i64 0, .int .i64 0] 44)) := by go_grown
  obtain ⟨g, hg⟩ : ∃ g, gS x y D = g := ⟨_, rfl⟩
  have g1 := gS_pos x y hd
  have hg' : gcdI (Nat.gcd x.natAbs y.natAbs) D = g := hg
  rw [hg] at g1
  have HG := hid hg
  have hp : Hid (lowP x y D = ⟨Int.tdiv x g, Int.tdiv y g, (D : Int) / g⟩) := by unfold Hid lowP; rw [hg]
  have hn : ((D : Int)).natAbs = D := by omega
  have hgl : (Nat.gcd x.natAbs y.natAbs) ≤ 4611686018427387904 ∨ (x = 0 ∧ y = 0) := by
    by_cases h : x.natAbs = 0
    · by_cases h2 : y.natAbs = 0
      · exact .inr ⟨by omega, by omega⟩
      · exact .inl (Nat.le_trans (Nat.le_of_dvd (by omega) (Nat.gcd_dvd_right _ _)) (by omega))
    · exact .inl (Nat.le_trans (Nat.le_of_dvd (by omega) (Nat.gcd_dvd_left _ _)) (by omega))
  have hgl : (Nat.gcd x.natAbs y.natAbs) ≤ 4611686018427387904 := by
    rcases hgl with h | ⟨rfl, rfl⟩
    · exact h
    · simp
  have hdd : D ≤ 4611686018427387904 := hd1
  clear hg
  have hg0 : ¬ g = 0 := by omega
  have hg2 : ¬ -g = 0 := by omega
  have b1 := tdiv_bd x g
  have b2 := tdiv_bd y g
  have b3 := ediv_bd D g1
  have ng : IntKind.i64.wrap (-g) = -g := IntWalk.i64_in _ (by have := Nat.le_of_dvd hd (Nat.gcd_dvd_right (Nat.gcd x.natAbs y.natAbs) D); have h9 : ((Nat.gcd (Nat.gcd x.natAbs y.natAbs) D : Nat) : Int) = g := hg'; omega)
  have n1 : IntKind.i64.wrap (Int.tdiv x g) = Int.tdiv x g := IntWalk.i64_in _ (by omega)
  have n2 : IntKind.i64.wrap (Int.tdiv y g) = Int.tdiv y g := IntWalk.i64_in _ (by omega)
  have n3 : IntKind.i64.wrap ((D : Int) / g) = (D : Int) / g := IntWalk.i64_in _ (by omega)
  have K0 : ∀ w, Calls Tryd.prog 81 #[.int .i64 x] w fun e w' => e = .returned (.int .i64 (x.natAbs : Int)) ∧ w = w' := fun w => absN_any x x0 x1 w
  have K1 : ∀ w, Calls Tryd.prog 81 #[.int .i64 y] w fun e w' => e = .returned (.int .i64 (y.natAbs : Int)) ∧ w = w' := fun w => absN_any y y0 y1 w
  have K2 : ∀ w, Calls Tryd.prog 81 #[.int .i64 (D : Int)] w fun e w' => e = .returned (.int .i64 (D : Int)) ∧ w = w' := fun w => by
    have := absN_any (D : Int) (by omega) (by omega) w
    rwa [hn] at this
  have K3 : ∀ w, Calls Tryd.prog 80 #[.int .i64 (x.natAbs : Int), .int .i64 (y.natAbs : Int)] w fun e w' => e = .returned (.int .i64 ((Nat.gcd x.natAbs y.natAbs : Nat) : Int)) ∧ Below w.heap.size w w' := fun w => gcd_impl x.natAbs y.natAbs (by omega) (by omega) w
  have K4 : ∀ w, Calls Tryd.prog 80 #[.int .i64 ((Nat.gcd x.natAbs y.natAbs : Nat) : Int), .int .i64 (D : Int)] w fun e w' => e = .returned (.int .i64 g) ∧ Below w.heap.size w w' := fun w => by
    rw [← hg']
    exact gcd_impl (Nat.gcd x.natAbs y.natAbs) D hgl hd1 w
  generalize Nat.gcd x.natAbs y.natAbs = m at K3 K4
  generalize x.natAbs = a1 at K0 K3
  generalize y.natAbs = a2 at K1 K3
  have k0 := hid K0
  have k1 := hid K1
  have k2 := hid K2
  have k3 := hid K3
  have k4 := hid K4
  clear K0 K1 K2 K3 K4 hg' hn hgl
  go_enter Tryd.func60, Tryd.ntmps60
  go_wp2_with fail
  have hq0 : ∀ z : Later ((w.alloc (.cells #[.int .i64 x, .int .i64 y, .int .i64 (D : Int)] 44)).alloc (.cells #[.int .i64 0, .int .i64 0, .int .i64 0] 44)), z.wd.cell? ⟨w.heap.size, 0, none⟩ = some (.int .i64 x) := fun z => (z.cell _ _ (by simp; omega)).trans (by simp [go_sem])
  have hq1 : ∀ z : Later ((w.alloc (.cells #[.int .i64 x, .int .i64 y, .int .i64 (D : Int)] 44)).alloc (.cells #[.int .i64 0, .int .i64 0, .int .i64 0] 44)), z.wd.cell? ⟨w.heap.size, 1, none⟩ = some (.int .i64 y) := fun z => (z.cell _ _ (by simp; omega)).trans (by simp [go_sem])
  have hq2 : ∀ z : Later ((w.alloc (.cells #[.int .i64 x, .int .i64 y, .int .i64 (D : Int)] 44)).alloc (.cells #[.int .i64 0, .int .i64 0, .int .i64 0] 44)), z.wd.cell? ⟨w.heap.size, 2, none⟩ = some (.int .i64 ((D : Int))) := fun z => (z.cell _ _ (by simp; omega)).trans (by simp [go_sem])
  refine region_later (by kernel_rfl) (by kernel_rfl) ?_
  go_big_quiet_step (fail)
  go_big_quiet_step (fail)
  go_big_quiet_step ((go_at_call 81; refine calls_later_same (k0.out _)))
  go_big_quiet_step (fail)
  go_big_quiet_step (fail)
  go_big_quiet_step ((go_at_call 81; refine calls_later_same (k1.out _)))
  go_big_quiet_step ((go_at_call 80; refine calls_later (k3.out _)))
  go_big_quiet_step (fail)
  go_big_quiet_step (fail)
  go_big_quiet_step ((go_at_call 81; refine calls_later_same (k2.out _)))
  go_big_quiet_step ((go_at_call 80; refine calls_later (k4.out _)))
  go_big_quiet_step (fail)
  refine wpQuiet_nil ?_
  intro _ hw'
  obtain ⟨z, rfl⟩ := hw'
  have B1 := Below.on hA hA.size z.below
  have hR : AtSpot (w.heap.size + 1) ⟨0, 0, 0⟩ z.wd := by
    have := (AtSpot.new ⟨0, 0, 0⟩ (w.alloc (.cells #[.int .i64 x, .int .i64 y, .int .i64 (D : Int)] 44))).below z.below
    simpa only [World.size_alloc] using this
  have lR := hR.lt
  have r0 := hR.c0
  have r1 := hR.c1
  have r2 := hR.c2
  have z0 := hR.frozen (j := 0)
  have z1 := hR.frozen (j := 1)
  have z2 := hR.frozen (j := 2)
  have s0 : z.wd.cell? ⟨w.heap.size, 0, none⟩ = some (.int .i64 x) := (z.cell _ _ (by simp; omega)).trans (by simp [go_sem])
  have s1 : z.wd.cell? ⟨w.heap.size, 1, none⟩ = some (.int .i64 y) := (z.cell _ _ (by simp; omega)).trans (by simp [go_sem])
  have s2 : z.wd.cell? ⟨w.heap.size, 2, none⟩ = some (.int .i64 ((D : Int))) := (z.cell _ _ (by simp; omega)).trans (by simp [go_sem])
  clear hR hq0 hq1 hq2 hA
  generalize z.wd = wz at *
  go_wp2_with fail
  go_region_held3 (fun w' => w'.cell? ⟨w.heap.size, 0, none⟩ = some (.int .i64 x) ∧ w'.cell? ⟨w.heap.size, 1, none⟩ = some (.int .i64 y) ∧ w'.cell? ⟨w.heap.size, 2, none⟩ = some (.int .i64 ((D : Int)))) (go_keep) (first | fail)
  all_goals
    go_wp2_with fail
    exact bodyPost_ret (v := (⟨Int.tdiv x g, Int.tdiv y g, (D : Int) / g⟩ : Sp).val) (by simp [results, Tryd.results60, go_sem, lR, r0, r1, r2]) rfl ⟨by rw [hp.out], by go_grown⟩

end Go.Proofs.YteklomkncfjdlaaDoor
