/-
  The only spot that a turn leads to itself, by the program and by the reference. No condition.
-/
import Derived.Test.YtigiihhfmdgdlaaTurn
namespace Go.Proofs.Ytigiihhfmdgdlaa
open Go.RowKit
set_option linter.unusedVariables false
set_option maxRecDepth 100000

def fixOk (t : GridTurnD) : Bool := turnB t && !(t.Quarters == 0 && t.Num == t.Den)
def fixS (t : GridTurnD) : Sp :=
  if t.Quarters = 0 then (if t.Num < t.Den then lowP (t.East * t.Den) (t.North * t.Den) (t.Den - t.Num).toNat else lowP (-(t.East * t.Den)) (-(t.North * t.Den)) (t.Num - t.Den).toNat)
  else if t.Quarters = 1 then lowP (t.Den * (t.Den * t.East - t.Num * t.North)) (t.Den * (t.Den * t.North + t.Num * t.East)) (t.Den * t.Den + t.Num * t.Num).toNat
  else if t.Quarters = 2 then lowP (t.East * t.Den) (t.North * t.Den) (t.Den + t.Num).toNat
  else lowP (t.Den * (t.Den * t.East + t.Num * t.North)) (t.Den * (t.Den * t.North - t.Num * t.East)) (t.Den * t.Den + t.Num * t.Num).toNat
def fixR (t : GridTurnD) : Sp := if fixOk t = true then fixS t else ⟨0, 0, 0⟩
theorem fixR_no {t : GridTurnD} (h : fixOk t = false) : fixR t = ⟨0, 0, 0⟩ := by unfold fixR; rw [h]; rfl
theorem fixR_ok {t : GridTurnD} (h : fixOk t = true) : fixR t = fixS t := by unfold fixR; rw [if_pos h]

set_option maxHeartbeats 2000000 in
theorem fixed_pos (tq tn td te to : Int) (D : Nat) (hd : 0 < D) (hd1 : D ≤ 1000) (h1 : 1 ≤ td ∧ td ≤ 20) (h2 : -99999 ≤ te ∧ te ≤ 99999) (h3 : -99999 ≤ to ∧ to ≤ 99999) (w : World) : Calls Try.prog 42 #[.agg #[.int .i64 tq, .int .i64 tn, .int .i64 td, .int .i64 te, .int .i64 to], .int .i64 (D : Int)] w fun e w' => e = .returned (lowP (te * td) (to * td) D).val ∧ Below w.heap.size w w' := by
  have p1 := mul_bd 99999 20 1999980 (a := te) (b := td) (by omega) (by omega) rfl
  have p2 := mul_bd 99999 20 1999980 (a := to) (b := td) (by omega) (by omega) rfl
  obtain ⟨x, hx⟩ : ∃ x, te * td = x := ⟨_, rfl⟩
  obtain ⟨y, hy⟩ : ∃ y, to * td = y := ⟨_, rfl⟩
  have n1 : IntKind.i64.wrap (te * td) = x := (IntWalk.i64_in _ (by omega)).trans hx
  have n2 : IntKind.i64.wrap (to * td) = y := (IntWalk.i64_in _ (by omega)).trans hy
  rw [hx] at p1 ⊢
  rw [hy] at p2 ⊢
  clear hx hy
  have hA : Below w.heap.size w ((w.alloc (.cells #[.int .i64 tq, .int .i64 tn, .int .i64 td, .int .i64 te, .int .i64 to] 36)).alloc (.cells #[.int .i64 0, .int .i64 0, .int .i64 0] 33)) := by go_grown
  have hD : decide ((0 : Int) < (D : Int)) = true := by simp; omega
  go_enter Try.func42, Try.ntmps42
  go_wp2_with fail
  refine (low_spec x y D (by unfold SpBd; simp only; omega) hd (by omega) _).mono ?_
  rintro e w1 ⟨rfl, hb1⟩
  obtain ⟨s, hs⟩ : ∃ s, lowP x y D = s := ⟨_, rfl⟩
  rw [hs]
  have HS := hid hs
  clear hs
  have B1 := Below.on hA hA.size hb1
  have GR : Hid (AtSpot (w.heap.size + 1) ⟨0, 0, 0⟩ w1) := by
    have := (AtSpot.new ⟨0, 0, 0⟩ (w.alloc (.cells #[.int .i64 tq, .int .i64 tn, .int .i64 td, .int .i64 te, .int .i64 to] 36))).below hb1
    simpa only [Hid, World.size_alloc] using this
  have ul := GR.out.lt
  have u0 := GR.out.c0
  have u1 := GR.out.c1
  have u2 := GR.out.c2
  have uz0 := GR.out.frozen (j := 0)
  have uz1 := GR.out.frozen (j := 1)
  have uz2 := GR.out.frozen (j := 2)
  go_wp2_with fail
  exact bodyPost_ret (v := s.val) (by simp [results, Try.results42, go_sem, ul, u0, u1, u2]) rfl ⟨by rw [HS.out], by go_grown⟩

set_option maxHeartbeats 2000000 in
theorem fixed_neg (tq tn td te to : Int) (D : Nat) (hd : 0 < D) (hd1 : D ≤ 1000) (h1 : 1 ≤ td ∧ td ≤ 20) (h2 : -99999 ≤ te ∧ te ≤ 99999) (h3 : -99999 ≤ to ∧ to ≤ 99999) (w : World) : Calls Try.prog 42 #[.agg #[.int .i64 tq, .int .i64 tn, .int .i64 td, .int .i64 te, .int .i64 to], .int .i64 (-(D : Int))] w fun e w' => e = .returned (lowP (-(te * td)) (-(to * td)) D).val ∧ Below w.heap.size w w' := by
  have p1 := mul_bd 99999 20 1999980 (a := te) (b := td) (by omega) (by omega) rfl
  have p2 := mul_bd 99999 20 1999980 (a := to) (b := td) (by omega) (by omega) rfl
  obtain ⟨x, hx⟩ : ∃ x, -(te * td) = x := ⟨_, rfl⟩
  obtain ⟨y, hy⟩ : ∃ y, -(to * td) = y := ⟨_, rfl⟩
  have n1 : IntKind.i64.wrap (-(te * td)) = x := (IntWalk.i64_in _ (by omega)).trans hx
  have n2 : IntKind.i64.wrap (-(to * td)) = y := (IntWalk.i64_in _ (by omega)).trans hy
  have n3 : IntKind.i64.wrap (-te * td) = x := by rw [Int.neg_mul]; exact n1
  have n4 : IntKind.i64.wrap (-to * td) = y := by rw [Int.neg_mul]; exact n2
  have n5 : IntKind.i64.wrap (-te) = -te := IntWalk.i64_in _ (by omega)
  have n6 : IntKind.i64.wrap (-to) = -to := IntWalk.i64_in _ (by omega)
  have n7 : IntKind.i64.wrap (- -(D : Int)) = (D : Int) := (IntWalk.i64_in _ (by omega)).trans (by omega)
  have n8 : IntKind.i64.wrap (D : Int) = (D : Int) := IntWalk.i64_in _ (by omega)
  have q1 : -1999980 ≤ x ∧ x ≤ 1999980 := by omega
  have q2 : -1999980 ≤ y ∧ y ≤ 1999980 := by omega
  rw [hx, hy]
  clear hx hy p1 p2
  have hA : Below w.heap.size w ((w.alloc (.cells #[.int .i64 tq, .int .i64 tn, .int .i64 td, .int .i64 te, .int .i64 to] 36)).alloc (.cells #[.int .i64 0, .int .i64 0, .int .i64 0] 33)) := by go_grown
  have hD : decide ((0 : Int) < -(D : Int)) = false := by first | (simp; done) | (simp; omega)
  go_enter Try.func42, Try.ntmps42
  go_wp2_with fail
  refine (low_spec x y D (by unfold SpBd; simp only; omega) hd (by omega) _).mono ?_
  rintro e w1 ⟨rfl, hb1⟩
  obtain ⟨s, hs⟩ : ∃ s, lowP x y D = s := ⟨_, rfl⟩
  rw [hs]
  have HS := hid hs
  clear hs
  have B1 := Below.on hA hA.size hb1
  have GR : Hid (AtSpot (w.heap.size + 1) ⟨0, 0, 0⟩ w1) := by
    have := (AtSpot.new ⟨0, 0, 0⟩ (w.alloc (.cells #[.int .i64 tq, .int .i64 tn, .int .i64 td, .int .i64 te, .int .i64 to] 36))).below hb1
    simpa only [Hid, World.size_alloc] using this
  have ul := GR.out.lt
  have u0 := GR.out.c0
  have u1 := GR.out.c1
  have u2 := GR.out.c2
  have uz0 := GR.out.frozen (j := 0)
  have uz1 := GR.out.frozen (j := 1)
  have uz2 := GR.out.frozen (j := 2)
  go_wp2_with fail
  exact bodyPost_ret (v := s.val) (by simp [results, Try.results42, go_sem, ul, u0, u1, u2]) rfl ⟨by rw [HS.out], by go_grown⟩

set_option maxHeartbeats 8000000 in
theorem fix_spec (t : GridTurnD) (w : World) : Calls Try.prog 15 #[t.val] w fun e w' => e = .returned (.tuple #[(fixR t).val, .bool (fixOk t)]) ∧ Below w.heap.size w w' := by
  rcases t with ⟨tq, tn, td, te, to⟩
  have hA : Below w.heap.size w ((w.alloc (.cells #[.int .i64 tq, .int .i64 tn, .int .i64 td, .int .i64 te, .int .i64 to] 36)).alloc (.cells #[.int .i64 0, .int .i64 0, .int .i64 0] 33)) := by go_grown
  go_enter Try.func15, Try.ntmps15
  go_wp2_with fail
  refine (turn_spec ⟨tq, tn, td, te, to⟩ _).mono ?_
  rintro e w1 ⟨rfl, hb1⟩
  have BB := Below.on hA hA.size hb1
  have GR : Hid (AtSpot (w.heap.size + 1) ⟨0, 0, 0⟩ w1) := by
    have := (AtSpot.new ⟨0, 0, 0⟩ (w.alloc (.cells #[.int .i64 tq, .int .i64 tn, .int .i64 td, .int .i64 te, .int .i64 to] 36))).below hb1
    simpa only [Hid, World.size_alloc] using this
  have GT : Hid (AtTurn w.heap.size tq tn td te to w1) := by
    have := ((AtTurn.new tq tn td te to w).below (by go_grown : Below (w.alloc (.cells #[.int .i64 tq, .int .i64 tn, .int .i64 td, .int .i64 te, .int .i64 to] 36)).heap.size (w.alloc (.cells #[.int .i64 tq, .int .i64 tn, .int .i64 td, .int .i64 te, .int .i64 to] 36)) ((w.alloc (.cells #[.int .i64 tq, .int .i64 tn, .int .i64 td, .int .i64 te, .int .i64 to] 36)).alloc (.cells #[.int .i64 0, .int .i64 0, .int .i64 0] 33)))).below hb1
    simpa only [Hid] using this
  clear hb1 hA
  by_cases ht : turnB ⟨tq, tn, td, te, to⟩ = true
  · have HT := hid ht
    obtain ⟨⟨q0, q1⟩, ⟨tn0, tn1⟩, ⟨td0, td1⟩, ⟨te0, te1⟩, to0, to1⟩ := turnB_bd ht
    simp only at q0 q1 tn0 tn1 td0 td1 te0 te1 to0 to1
    have hq4 : tq = 0 ∨ tq = 1 ∨ tq = 2 ∨ tq = 3 := by omega
    rcases hq4 with rfl | rfl | rfl | rfl
    · by_cases hnd : tn = td
      · subst hnd
        have tl := GT.out.lt
        have t0 := GT.out.c0
        have t1 := GT.out.c1
        have t2 := GT.out.c2
        have HO : Hid (fixOk ⟨0, tn, tn, te, to⟩ = false) := (by unfold Hid fixOk; rw [HT.out]; simp)
        have ul := GR.out.lt
        have u0 := GR.out.c0
        have u1 := GR.out.c1
        have u2 := GR.out.c2
        have uz0 := GR.out.frozen (j := 0)
        have uz1 := GR.out.frozen (j := 1)
        have uz2 := GR.out.frozen (j := 2)
        go_wp2_with fail
        exact bodyPost_ret (v := .tuple #[(⟨0, 0, 0⟩ : Sp).val, .bool false]) (by simp [results, Try.results15, go_sem, ul, u0, u1, u2]) rfl ⟨by rw [fixR_no HO.out, HO.out], by go_grown⟩
      · have HO : Hid (fixOk ⟨0, tn, td, te, to⟩ = true) := by unfold Hid fixOk; rw [HT.out]; simp [hnd]
        by_cases hlt : tn < td
        · have px := mul_bd 99999 20 1999980 (a := te) (b := td) (by omega) (by omega) rfl
          obtain ⟨x, hx⟩ : ∃ v, te * td = v := ⟨_, rfl⟩
          have nx : IntKind.i64.wrap (te * td) = x := (IntWalk.i64_in _ (by omega)).trans hx
          rw [hx] at px
          have py := mul_bd 99999 20 1999980 (a := to) (b := td) (by omega) (by omega) rfl
          obtain ⟨y, hy⟩ : ∃ v, to * td = v := ⟨_, rfl⟩
          have ny : IntKind.i64.wrap (to * td) = y := (IntWalk.i64_in _ (by omega)).trans hy
          rw [hy] at py
          obtain ⟨D, hD⟩ : ∃ D : Nat, td - tn = (D : Int) := ⟨(td - tn).toNat, by omega⟩
          have nD : IntKind.i64.wrap (td - tn) = (D : Int) := (IntWalk.i64_in _ (by omega)).trans hD
          have hd0 : 0 < D := by omega
          have hd1 : D ≤ 1000 := by omega
          have HP : Hid (fixS ⟨0, tn, td, te, to⟩ = lowP x y D) := by
            unfold Hid fixS
            simp only [if_true, if_pos hlt]
            rw [hx, hy, hD, Int.toNat_natCast]
          have hX := hid hx
          have hY := hid hy
          clear hx hy hD
          have tl := GT.out.lt
          have t0 := GT.out.c0
          have t1 := GT.out.c1
          have t2 := GT.out.c2
          have t3 := GT.out.c3
          have t4 := GT.out.c4
          go_wp2_with fail
          have hq0 : ∀ z : Later w1, z.wd.cell? ⟨w.heap.size, 0, none⟩ = some (.int .i64 0) := fun z => (z.cell _ _ GT.out.lt).trans GT.out.c0
          have hq1 : ∀ z : Later w1, z.wd.cell? ⟨w.heap.size, 1, none⟩ = some (.int .i64 tn) := fun z => (z.cell _ _ GT.out.lt).trans GT.out.c1
          have hq2 : ∀ z : Later w1, z.wd.cell? ⟨w.heap.size, 2, none⟩ = some (.int .i64 td) := fun z => (z.cell _ _ GT.out.lt).trans GT.out.c2
          have hq3 : ∀ z : Later w1, z.wd.cell? ⟨w.heap.size, 3, none⟩ = some (.int .i64 te) := fun z => (z.cell _ _ GT.out.lt).trans GT.out.c3
          have hq4 : ∀ z : Later w1, z.wd.cell? ⟨w.heap.size, 4, none⟩ = some (.int .i64 to) := fun z => (z.cell _ _ GT.out.lt).trans GT.out.c4
          refine region_later (by kernel_rfl) (by kernel_rfl) ?_
          repeat (go_big_quiet_step (fail))
          refine wpQuiet_nil ?_
          intro _ hw'
          obtain ⟨z, rfl⟩ := hw'
          have GT2 := GT.out.below z.below
          have GR2 := GR.out.below z.below
          have BB2 := Below.on BB BB.size z.below
          clear GT GR BB hq0 hq1 hq2 hq3 hq4 tl t0 t1 t2 t3 t4
          generalize z.wd = wz at GT2 GR2 BB2 ⊢
          have GT := hid GT2
          have GR := hid GR2
          have BB := BB2
          clear GT2 GR2 BB2
          have tl := GT.out.lt
          have t0 := GT.out.c0
          have t1 := GT.out.c1
          have t2 := GT.out.c2
          have t3 := GT.out.c3
          have t4 := GT.out.c4
          go_wp2_with fail
          refine (fixed_pos 0 tn td te to D hd0 hd1 (by omega) (by omega) (by omega) _).mono ?_
          rintro e w2 ⟨rfl, hb2⟩
          rw [hX.out, hY.out]
          obtain ⟨s, hs⟩ : ∃ s, lowP x y D = s := ⟨_, rfl⟩
          rw [hs]
          have HS := hid hs
          clear hs
          have B2 := Below.on BB BB.size hb2
          have GR3 := hid (GR.out.below hb2)
          clear GR BB hb2 tl t0 t1 t2 t3 t4
          have GR := GR3
          have ul := GR.out.lt
          have u0 := GR.out.c0
          have u1 := GR.out.c1
          have u2 := GR.out.c2
          have uz0 := GR.out.frozen (j := 0)
          have uz1 := GR.out.frozen (j := 1)
          have uz2 := GR.out.frozen (j := 2)
          go_wp2_with fail
          exact bodyPost_ret (v := .tuple #[s.val, .bool true]) (by simp [results, Try.results15, go_sem, ul, u0, u1, u2]) rfl ⟨by rw [fixR_ok HO.out, HO.out, HP.out, HS.out], by go_grown⟩
        · have px := mul_bd 99999 20 1999980 (a := te) (b := td) (by omega) (by omega) rfl
          obtain ⟨x, hx⟩ : ∃ v, te * td = v := ⟨_, rfl⟩
          have nx : IntKind.i64.wrap (te * td) = x := (IntWalk.i64_in _ (by omega)).trans hx
          rw [hx] at px
          have py := mul_bd 99999 20 1999980 (a := to) (b := td) (by omega) (by omega) rfl
          obtain ⟨y, hy⟩ : ∃ v, to * td = v := ⟨_, rfl⟩
          have ny : IntKind.i64.wrap (to * td) = y := (IntWalk.i64_in _ (by omega)).trans hy
          rw [hy] at py
          obtain ⟨D, hD⟩ : ∃ D : Nat, tn - td = (D : Int) := ⟨(tn - td).toNat, by omega⟩
          have nD : IntKind.i64.wrap (td - tn) = -(D : Int) := (IntWalk.i64_in _ (by omega)).trans (by omega)
          have hd0 : 0 < D := by omega
          have hd1 : D ≤ 1000 := by omega
          have HP : Hid (fixS ⟨0, tn, td, te, to⟩ = lowP (-x) (-y) D) := by
            unfold Hid fixS
            simp only [if_true, if_neg hlt]
            rw [hx, hy, hD, Int.toNat_natCast]
          have hX := hid hx
          have hY := hid hy
          clear hx hy hD
          have tl := GT.out.lt
          have t0 := GT.out.c0
          have t1 := GT.out.c1
          have t2 := GT.out.c2
          have t3 := GT.out.c3
          have t4 := GT.out.c4
          go_wp2_with fail
          have hq0 : ∀ z : Later w1, z.wd.cell? ⟨w.heap.size, 0, none⟩ = some (.int .i64 0) := fun z => (z.cell _ _ GT.out.lt).trans GT.out.c0
          have hq1 : ∀ z : Later w1, z.wd.cell? ⟨w.heap.size, 1, none⟩ = some (.int .i64 tn) := fun z => (z.cell _ _ GT.out.lt).trans GT.out.c1
          have hq2 : ∀ z : Later w1, z.wd.cell? ⟨w.heap.size, 2, none⟩ = some (.int .i64 td) := fun z => (z.cell _ _ GT.out.lt).trans GT.out.c2
          have hq3 : ∀ z : Later w1, z.wd.cell? ⟨w.heap.size, 3, none⟩ = some (.int .i64 te) := fun z => (z.cell _ _ GT.out.lt).trans GT.out.c3
          have hq4 : ∀ z : Later w1, z.wd.cell? ⟨w.heap.size, 4, none⟩ = some (.int .i64 to) := fun z => (z.cell _ _ GT.out.lt).trans GT.out.c4
          refine region_later (by kernel_rfl) (by kernel_rfl) ?_
          repeat (go_big_quiet_step (fail))
          refine wpQuiet_nil ?_
          intro _ hw'
          obtain ⟨z, rfl⟩ := hw'
          have GT2 := GT.out.below z.below
          have GR2 := GR.out.below z.below
          have BB2 := Below.on BB BB.size z.below
          clear GT GR BB hq0 hq1 hq2 hq3 hq4 tl t0 t1 t2 t3 t4
          generalize z.wd = wz at GT2 GR2 BB2 ⊢
          have GT := hid GT2
          have GR := hid GR2
          have BB := BB2
          clear GT2 GR2 BB2
          have tl := GT.out.lt
          have t0 := GT.out.c0
          have t1 := GT.out.c1
          have t2 := GT.out.c2
          have t3 := GT.out.c3
          have t4 := GT.out.c4
          go_wp2_with fail
          refine (fixed_neg 0 tn td te to D hd0 hd1 (by omega) (by omega) (by omega) _).mono ?_
          rintro e w2 ⟨rfl, hb2⟩
          rw [hX.out, hY.out]
          obtain ⟨s, hs⟩ : ∃ s, lowP (-x) (-y) D = s := ⟨_, rfl⟩
          rw [hs]
          have HS := hid hs
          clear hs
          have B2 := Below.on BB BB.size hb2
          have GR3 := hid (GR.out.below hb2)
          clear GR BB hb2 tl t0 t1 t2 t3 t4
          have GR := GR3
          have ul := GR.out.lt
          have u0 := GR.out.c0
          have u1 := GR.out.c1
          have u2 := GR.out.c2
          have uz0 := GR.out.frozen (j := 0)
          have uz1 := GR.out.frozen (j := 1)
          have uz2 := GR.out.frozen (j := 2)
          go_wp2_with fail
          exact bodyPost_ret (v := .tuple #[s.val, .bool true]) (by simp [results, Try.results15, go_sem, ul, u0, u1, u2]) rfl ⟨by rw [fixR_ok HO.out, HO.out, HP.out, HS.out], by go_grown⟩
    · have HO : Hid (fixOk ⟨1, tn, td, te, to⟩ = true) := by unfold Hid fixOk; rw [HT.out]; simp
      have pa1 := mul_bd 20 99999 1999980 (a := td) (b := te) (by omega) (by omega) rfl
      obtain ⟨a1, ha1⟩ : ∃ v, td * te = v := ⟨_, rfl⟩
      have na1 : IntKind.i64.wrap (td * te) = a1 := (IntWalk.i64_in _ (by omega)).trans ha1
      rw [ha1] at pa1
      have pa2 := mul_bd 20 99999 1999980 (a := tn) (b := to) (by omega) (by omega) rfl
      obtain ⟨a2, ha2⟩ : ∃ v, tn * to = v := ⟨_, rfl⟩
      have na2 : IntKind.i64.wrap (tn * to) = a2 := (IntWalk.i64_in _ (by omega)).trans ha2
      rw [ha2] at pa2
      obtain ⟨a3, ha3⟩ : ∃ v, a1 - a2 = v := ⟨_, rfl⟩
      have na3 : IntKind.i64.wrap (a1 - a2) = a3 := (IntWalk.i64_in _ (by omega)).trans ha3
      have px := mul_bd 20 4000000 80000000 (a := td) (b := a3) (by omega) (by omega) rfl
      obtain ⟨x, hx⟩ : ∃ v, td * a3 = v := ⟨_, rfl⟩
      have nx : IntKind.i64.wrap (td * a3) = x := (IntWalk.i64_in _ (by omega)).trans hx
      rw [hx] at px
      have pb1 := mul_bd 20 99999 1999980 (a := td) (b := to) (by omega) (by omega) rfl
      obtain ⟨b1, hb1⟩ : ∃ v, td * to = v := ⟨_, rfl⟩
      have nb1 : IntKind.i64.wrap (td * to) = b1 := (IntWalk.i64_in _ (by omega)).trans hb1
      rw [hb1] at pb1
      have pb2 := mul_bd 20 99999 1999980 (a := tn) (b := te) (by omega) (by omega) rfl
      obtain ⟨b2, hb2⟩ : ∃ v, tn * te = v := ⟨_, rfl⟩
      have nb2 : IntKind.i64.wrap (tn * te) = b2 := (IntWalk.i64_in _ (by omega)).trans hb2
      rw [hb2] at pb2
      obtain ⟨b3, hb3⟩ : ∃ v, b1 + b2 = v := ⟨_, rfl⟩
      have nb3 : IntKind.i64.wrap (b1 + b2) = b3 := (IntWalk.i64_in _ (by omega)).trans hb3
      have py := mul_bd 20 4000000 80000000 (a := td) (b := b3) (by omega) (by omega) rfl
      obtain ⟨y, hy⟩ : ∃ v, td * b3 = v := ⟨_, rfl⟩
      have ny : IntKind.i64.wrap (td * b3) = y := (IntWalk.i64_in _ (by omega)).trans hy
      rw [hy] at py
      have pdd := mul_bd 20 20 400 (a := td) (b := td) (by omega) (by omega) rfl
      obtain ⟨dd, hdd⟩ : ∃ v, td * td = v := ⟨_, rfl⟩
      have ndd : IntKind.i64.wrap (td * td) = dd := (IntWalk.i64_in _ (by omega)).trans hdd
      rw [hdd] at pdd
      have pnn := mul_bd 20 20 400 (a := tn) (b := tn) (by omega) (by omega) rfl
      obtain ⟨nn, hnn⟩ : ∃ v, tn * tn = v := ⟨_, rfl⟩
      have nnn : IntKind.i64.wrap (tn * tn) = nn := (IntWalk.i64_in _ (by omega)).trans hnn
      rw [hnn] at pnn
      have pdd0 : 1 ≤ dd := by rw [← hdd]; have := Int.mul_le_mul td0 td0 (by omega) (by omega : (0 : Int) ≤ td); omega
      have pnn0 : 1 ≤ nn := by rw [← hnn]; have := Int.mul_le_mul tn0 tn0 (by omega) (by omega : (0 : Int) ≤ tn); omega
      obtain ⟨D, hD⟩ : ∃ D : Nat, dd + nn = (D : Int) := ⟨(dd + nn).toNat, by omega⟩
      have nD : IntKind.i64.wrap (dd + nn) = (D : Int) := (IntWalk.i64_in _ (by omega)).trans hD
      have hd0 : 0 < D := by omega
      have hd1 : D ≤ 1000 := by omega
      have HP : Hid (fixS ⟨1, tn, td, te, to⟩ = lowP x y D) := by
        unfold Hid fixS
        rw [if_neg (by show ¬ ((1 : Int) = 0); decide), if_pos rfl]
        simp only
        rw [ha1, ha2, ha3, hx, hb1, hb2, hb3, hy, hdd, hnn, hD, Int.toNat_natCast]
      have hxb : -100000000 ≤ x ∧ x ≤ 100000000 := by omega
      have hyb : -100000000 ≤ y ∧ y ≤ 100000000 := by omega
      clear ha1 ha2 ha3 hx hb1 hb2 hb3 hy hdd hnn hD 
      have tl := GT.out.lt
      have t0 := GT.out.c0
      have t1 := GT.out.c1
      have t2 := GT.out.c2
      have t3 := GT.out.c3
      have t4 := GT.out.c4
      go_wp2_with fail
      have hq0 : ∀ z : Later w1, z.wd.cell? ⟨w.heap.size, 0, none⟩ = some (.int .i64 1) := fun z => (z.cell _ _ GT.out.lt).trans GT.out.c0
      have hq1 : ∀ z : Later w1, z.wd.cell? ⟨w.heap.size, 1, none⟩ = some (.int .i64 tn) := fun z => (z.cell _ _ GT.out.lt).trans GT.out.c1
      have hq2 : ∀ z : Later w1, z.wd.cell? ⟨w.heap.size, 2, none⟩ = some (.int .i64 td) := fun z => (z.cell _ _ GT.out.lt).trans GT.out.c2
      have hq3 : ∀ z : Later w1, z.wd.cell? ⟨w.heap.size, 3, none⟩ = some (.int .i64 te) := fun z => (z.cell _ _ GT.out.lt).trans GT.out.c3
      have hq4 : ∀ z : Later w1, z.wd.cell? ⟨w.heap.size, 4, none⟩ = some (.int .i64 to) := fun z => (z.cell _ _ GT.out.lt).trans GT.out.c4
      refine region_later (by kernel_rfl) (by kernel_rfl) ?_
      repeat (go_big_quiet_step (fail))
      refine wpQuiet_nil ?_
      intro _ hw'
      obtain ⟨z, rfl⟩ := hw'
      have GT2 := GT.out.below z.below
      have GR2 := GR.out.below z.below
      have BB2 := Below.on BB BB.size z.below
      clear GT GR BB hq0 hq1 hq2 hq3 hq4 tl t0 t1 t2 t3 t4
      generalize z.wd = wz at GT2 GR2 BB2 ⊢
      have GT := hid GT2
      have GR := hid GR2
      have BB := BB2
      clear GT2 GR2 BB2
      have tl := GT.out.lt
      have t0 := GT.out.c0
      have t1 := GT.out.c1
      have t2 := GT.out.c2
      have t3 := GT.out.c3
      have t4 := GT.out.c4
      go_wp2_with fail
      refine (low_spec x y D (by unfold SpBd; simp only; omega) hd0 (by omega) _).mono ?_
      rintro e w2 ⟨rfl, hb2⟩
      obtain ⟨s, hs⟩ : ∃ s, lowP x y D = s := ⟨_, rfl⟩
      rw [hs]
      have HS := hid hs
      clear hs
      have B2 := Below.on BB BB.size hb2
      have GR3 := hid (GR.out.below hb2)
      clear GR BB hb2 tl t0 t1 t2 t3 t4
      have GR := GR3
      have ul := GR.out.lt
      have u0 := GR.out.c0
      have u1 := GR.out.c1
      have u2 := GR.out.c2
      have uz0 := GR.out.frozen (j := 0)
      have uz1 := GR.out.frozen (j := 1)
      have uz2 := GR.out.frozen (j := 2)
      go_wp2_with fail
      exact bodyPost_ret (v := .tuple #[s.val, .bool true]) (by simp [results, Try.results15, go_sem, ul, u0, u1, u2]) rfl ⟨by rw [fixR_ok HO.out, HO.out, HP.out, HS.out], by go_grown⟩
    · have HO : Hid (fixOk ⟨2, tn, td, te, to⟩ = true) := by unfold Hid fixOk; rw [HT.out]; simp
      have px := mul_bd 99999 20 1999980 (a := te) (b := td) (by omega) (by omega) rfl
      obtain ⟨x, hx⟩ : ∃ v, te * td = v := ⟨_, rfl⟩
      have nx : IntKind.i64.wrap (te * td) = x := (IntWalk.i64_in _ (by omega)).trans hx
      rw [hx] at px
      have py := mul_bd 99999 20 1999980 (a := to) (b := td) (by omega) (by omega) rfl
      obtain ⟨y, hy⟩ : ∃ v, to * td = v := ⟨_, rfl⟩
      have ny : IntKind.i64.wrap (to * td) = y := (IntWalk.i64_in _ (by omega)).trans hy
      rw [hy] at py
      obtain ⟨D, hD⟩ : ∃ D : Nat, td + tn = (D : Int) := ⟨(td + tn).toNat, by omega⟩
      have nD : IntKind.i64.wrap (td + tn) = (D : Int) := (IntWalk.i64_in _ (by omega)).trans hD
      have hd0 : 0 < D := by omega
      have hd1 : D ≤ 1000 := by omega
      have HP : Hid (fixS ⟨2, tn, td, te, to⟩ = lowP x y D) := by
        unfold Hid fixS
        rw [if_neg (by show ¬ ((2 : Int) = 0); decide), if_neg (by show ¬ ((2 : Int) = 1); decide), if_pos rfl]
        simp only
        rw [hx, hy, hD, Int.toNat_natCast]
      have hX := hid hx
      have hY := hid hy
      clear hx hy hD
      have tl := GT.out.lt
      have t0 := GT.out.c0
      have t1 := GT.out.c1
      have t2 := GT.out.c2
      have t3 := GT.out.c3
      have t4 := GT.out.c4
      go_wp2_with fail
      have hq0 : ∀ z : Later w1, z.wd.cell? ⟨w.heap.size, 0, none⟩ = some (.int .i64 2) := fun z => (z.cell _ _ GT.out.lt).trans GT.out.c0
      have hq1 : ∀ z : Later w1, z.wd.cell? ⟨w.heap.size, 1, none⟩ = some (.int .i64 tn) := fun z => (z.cell _ _ GT.out.lt).trans GT.out.c1
      have hq2 : ∀ z : Later w1, z.wd.cell? ⟨w.heap.size, 2, none⟩ = some (.int .i64 td) := fun z => (z.cell _ _ GT.out.lt).trans GT.out.c2
      have hq3 : ∀ z : Later w1, z.wd.cell? ⟨w.heap.size, 3, none⟩ = some (.int .i64 te) := fun z => (z.cell _ _ GT.out.lt).trans GT.out.c3
      have hq4 : ∀ z : Later w1, z.wd.cell? ⟨w.heap.size, 4, none⟩ = some (.int .i64 to) := fun z => (z.cell _ _ GT.out.lt).trans GT.out.c4
      refine region_later (by kernel_rfl) (by kernel_rfl) ?_
      repeat (go_big_quiet_step (fail))
      refine wpQuiet_nil ?_
      intro _ hw'
      obtain ⟨z, rfl⟩ := hw'
      have GT2 := GT.out.below z.below
      have GR2 := GR.out.below z.below
      have BB2 := Below.on BB BB.size z.below
      clear GT GR BB hq0 hq1 hq2 hq3 hq4 tl t0 t1 t2 t3 t4
      generalize z.wd = wz at GT2 GR2 BB2 ⊢
      have GT := hid GT2
      have GR := hid GR2
      have BB := BB2
      clear GT2 GR2 BB2
      have tl := GT.out.lt
      have t0 := GT.out.c0
      have t1 := GT.out.c1
      have t2 := GT.out.c2
      have t3 := GT.out.c3
      have t4 := GT.out.c4
      go_wp2_with fail
      refine (fixed_pos 2 tn td te to D hd0 hd1 (by omega) (by omega) (by omega) _).mono ?_
      rintro e w2 ⟨rfl, hb2⟩
      rw [hX.out, hY.out]
      obtain ⟨s, hs⟩ : ∃ s, lowP x y D = s := ⟨_, rfl⟩
      rw [hs]
      have HS := hid hs
      clear hs
      have B2 := Below.on BB BB.size hb2
      have GR3 := hid (GR.out.below hb2)
      clear GR BB hb2 tl t0 t1 t2 t3 t4
      have GR := GR3
      have ul := GR.out.lt
      have u0 := GR.out.c0
      have u1 := GR.out.c1
      have u2 := GR.out.c2
      have uz0 := GR.out.frozen (j := 0)
      have uz1 := GR.out.frozen (j := 1)
      have uz2 := GR.out.frozen (j := 2)
      go_wp2_with fail
      exact bodyPost_ret (v := .tuple #[s.val, .bool true]) (by simp [results, Try.results15, go_sem, ul, u0, u1, u2]) rfl ⟨by rw [fixR_ok HO.out, HO.out, HP.out, HS.out], by go_grown⟩
    · have HO : Hid (fixOk ⟨3, tn, td, te, to⟩ = true) := by unfold Hid fixOk; rw [HT.out]; simp
      have pa1 := mul_bd 20 99999 1999980 (a := td) (b := te) (by omega) (by omega) rfl
      obtain ⟨a1, ha1⟩ : ∃ v, td * te = v := ⟨_, rfl⟩
      have na1 : IntKind.i64.wrap (td * te) = a1 := (IntWalk.i64_in _ (by omega)).trans ha1
      rw [ha1] at pa1
      have pa2 := mul_bd 20 99999 1999980 (a := tn) (b := to) (by omega) (by omega) rfl
      obtain ⟨a2, ha2⟩ : ∃ v, tn * to = v := ⟨_, rfl⟩
      have na2 : IntKind.i64.wrap (tn * to) = a2 := (IntWalk.i64_in _ (by omega)).trans ha2
      rw [ha2] at pa2
      obtain ⟨a3, ha3⟩ : ∃ v, a1 + a2 = v := ⟨_, rfl⟩
      have na3 : IntKind.i64.wrap (a1 + a2) = a3 := (IntWalk.i64_in _ (by omega)).trans ha3
      have px := mul_bd 20 4000000 80000000 (a := td) (b := a3) (by omega) (by omega) rfl
      obtain ⟨x, hx⟩ : ∃ v, td * a3 = v := ⟨_, rfl⟩
      have nx : IntKind.i64.wrap (td * a3) = x := (IntWalk.i64_in _ (by omega)).trans hx
      rw [hx] at px
      have pb1 := mul_bd 20 99999 1999980 (a := td) (b := to) (by omega) (by omega) rfl
      obtain ⟨b1, hb1⟩ : ∃ v, td * to = v := ⟨_, rfl⟩
      have nb1 : IntKind.i64.wrap (td * to) = b1 := (IntWalk.i64_in _ (by omega)).trans hb1
      rw [hb1] at pb1
      have pb2 := mul_bd 20 99999 1999980 (a := tn) (b := te) (by omega) (by omega) rfl
      obtain ⟨b2, hb2⟩ : ∃ v, tn * te = v := ⟨_, rfl⟩
      have nb2 : IntKind.i64.wrap (tn * te) = b2 := (IntWalk.i64_in _ (by omega)).trans hb2
      rw [hb2] at pb2
      obtain ⟨b3, hb3⟩ : ∃ v, b1 - b2 = v := ⟨_, rfl⟩
      have nb3 : IntKind.i64.wrap (b1 - b2) = b3 := (IntWalk.i64_in _ (by omega)).trans hb3
      have py := mul_bd 20 4000000 80000000 (a := td) (b := b3) (by omega) (by omega) rfl
      obtain ⟨y, hy⟩ : ∃ v, td * b3 = v := ⟨_, rfl⟩
      have ny : IntKind.i64.wrap (td * b3) = y := (IntWalk.i64_in _ (by omega)).trans hy
      rw [hy] at py
      have pdd := mul_bd 20 20 400 (a := td) (b := td) (by omega) (by omega) rfl
      obtain ⟨dd, hdd⟩ : ∃ v, td * td = v := ⟨_, rfl⟩
      have ndd : IntKind.i64.wrap (td * td) = dd := (IntWalk.i64_in _ (by omega)).trans hdd
      rw [hdd] at pdd
      have pnn := mul_bd 20 20 400 (a := tn) (b := tn) (by omega) (by omega) rfl
      obtain ⟨nn, hnn⟩ : ∃ v, tn * tn = v := ⟨_, rfl⟩
      have nnn : IntKind.i64.wrap (tn * tn) = nn := (IntWalk.i64_in _ (by omega)).trans hnn
      rw [hnn] at pnn
      have pdd0 : 1 ≤ dd := by rw [← hdd]; have := Int.mul_le_mul td0 td0 (by omega) (by omega : (0 : Int) ≤ td); omega
      have pnn0 : 1 ≤ nn := by rw [← hnn]; have := Int.mul_le_mul tn0 tn0 (by omega) (by omega : (0 : Int) ≤ tn); omega
      obtain ⟨D, hD⟩ : ∃ D : Nat, dd + nn = (D : Int) := ⟨(dd + nn).toNat, by omega⟩
      have nD : IntKind.i64.wrap (dd + nn) = (D : Int) := (IntWalk.i64_in _ (by omega)).trans hD
      have hd0 : 0 < D := by omega
      have hd1 : D ≤ 1000 := by omega
      have HP : Hid (fixS ⟨3, tn, td, te, to⟩ = lowP x y D) := by
        unfold Hid fixS
        rw [if_neg (by show ¬ ((3 : Int) = 0); decide), if_neg (by show ¬ ((3 : Int) = 1); decide), if_neg (by show ¬ ((3 : Int) = 2); decide)]
        simp only
        rw [ha1, ha2, ha3, hx, hb1, hb2, hb3, hy, hdd, hnn, hD, Int.toNat_natCast]
      have hxb : -100000000 ≤ x ∧ x ≤ 100000000 := by omega
      have hyb : -100000000 ≤ y ∧ y ≤ 100000000 := by omega
      clear ha1 ha2 ha3 hx hb1 hb2 hb3 hy hdd hnn hD 
      have tl := GT.out.lt
      have t0 := GT.out.c0
      have t1 := GT.out.c1
      have t2 := GT.out.c2
      have t3 := GT.out.c3
      have t4 := GT.out.c4
      go_wp2_with fail
      have hq0 : ∀ z : Later w1, z.wd.cell? ⟨w.heap.size, 0, none⟩ = some (.int .i64 3) := fun z => (z.cell _ _ GT.out.lt).trans GT.out.c0
      have hq1 : ∀ z : Later w1, z.wd.cell? ⟨w.heap.size, 1, none⟩ = some (.int .i64 tn) := fun z => (z.cell _ _ GT.out.lt).trans GT.out.c1
      have hq2 : ∀ z : Later w1, z.wd.cell? ⟨w.heap.size, 2, none⟩ = some (.int .i64 td) := fun z => (z.cell _ _ GT.out.lt).trans GT.out.c2
      have hq3 : ∀ z : Later w1, z.wd.cell? ⟨w.heap.size, 3, none⟩ = some (.int .i64 te) := fun z => (z.cell _ _ GT.out.lt).trans GT.out.c3
      have hq4 : ∀ z : Later w1, z.wd.cell? ⟨w.heap.size, 4, none⟩ = some (.int .i64 to) := fun z => (z.cell _ _ GT.out.lt).trans GT.out.c4
      refine region_later (by kernel_rfl) (by kernel_rfl) ?_
      repeat (go_big_quiet_step (fail))
      refine wpQuiet_nil ?_
      intro _ hw'
      obtain ⟨z, rfl⟩ := hw'
      have GT2 := GT.out.below z.below
      have GR2 := GR.out.below z.below
      have BB2 := Below.on BB BB.size z.below
      clear GT GR BB hq0 hq1 hq2 hq3 hq4 tl t0 t1 t2 t3 t4
      generalize z.wd = wz at GT2 GR2 BB2 ⊢
      have GT := hid GT2
      have GR := hid GR2
      have BB := BB2
      clear GT2 GR2 BB2
      have tl := GT.out.lt
      have t0 := GT.out.c0
      have t1 := GT.out.c1
      have t2 := GT.out.c2
      have t3 := GT.out.c3
      have t4 := GT.out.c4
      go_wp2_with fail
      refine (low_spec x y D (by unfold SpBd; simp only; omega) hd0 (by omega) _).mono ?_
      rintro e w2 ⟨rfl, hb2⟩
      obtain ⟨s, hs⟩ : ∃ s, lowP x y D = s := ⟨_, rfl⟩
      rw [hs]
      have HS := hid hs
      clear hs
      have B2 := Below.on BB BB.size hb2
      have GR3 := hid (GR.out.below hb2)
      clear GR BB hb2 tl t0 t1 t2 t3 t4
      have GR := GR3
      have ul := GR.out.lt
      have u0 := GR.out.c0
      have u1 := GR.out.c1
      have u2 := GR.out.c2
      have uz0 := GR.out.frozen (j := 0)
      have uz1 := GR.out.frozen (j := 1)
      have uz2 := GR.out.frozen (j := 2)
      go_wp2_with fail
      exact bodyPost_ret (v := .tuple #[s.val, .bool true]) (by simp [results, Try.results15, go_sem, ul, u0, u1, u2]) rfl ⟨by rw [fixR_ok HO.out, HO.out, HP.out, HS.out], by go_grown⟩
  · have ht' : turnB ⟨tq, tn, td, te, to⟩ = false := by simpa using ht
    have HT := hid ht'
    clear ht
    have HO : Hid (fixOk ⟨tq, tn, td, te, to⟩ = false) := (by unfold Hid fixOk; rw [HT.out]; rfl)
    have ul := GR.out.lt
    have u0 := GR.out.c0
    have u1 := GR.out.c1
    have u2 := GR.out.c2
    have uz0 := GR.out.frozen (j := 0)
    have uz1 := GR.out.frozen (j := 1)
    have uz2 := GR.out.frozen (j := 2)
    go_wp2_with fail
    exact bodyPost_ret (v := .tuple #[(⟨0, 0, 0⟩ : Sp).val, .bool false]) (by simp [results, Try.results15, go_sem, ul, u0, u1, u2]) rfl ⟨by rw [fixR_no HO.out, HO.out], by go_grown⟩

set_option maxHeartbeats 8000000 in
theorem fix_impl (t : GridTurnD) (w : World) : Calls Try.prog 17 #[t.val] w fun e w' => e = .returned (.tuple #[(fixR t).val, .bool (fixOk t)]) ∧ Below w.heap.size w w' := by
  rcases t with ⟨tq, tn, td, te, to⟩
  have hA : Below w.heap.size w ((w.alloc (.cells #[.int .i64 tq, .int .i64 tn, .int .i64 td, .int .i64 te, .int .i64 to] 36)).alloc (.cells #[.int .i64 0, .int .i64 0, .int .i64 0] 33)) := by go_grown
  go_enter Try.func17, Try.ntmps17
  go_wp2_with fail
  refine (turn_impl ⟨tq, tn, td, te, to⟩ _).mono ?_
  rintro e w1 ⟨rfl, hb1⟩
  have BB := Below.on hA hA.size hb1
  have GR : Hid (AtSpot (w.heap.size + 1) ⟨0, 0, 0⟩ w1) := by
    have := (AtSpot.new ⟨0, 0, 0⟩ (w.alloc (.cells #[.int .i64 tq, .int .i64 tn, .int .i64 td, .int .i64 te, .int .i64 to] 36))).below hb1
    simpa only [Hid, World.size_alloc] using this
  have GT : Hid (AtTurn w.heap.size tq tn td te to w1) := by
    have := ((AtTurn.new tq tn td te to w).below (by go_grown : Below (w.alloc (.cells #[.int .i64 tq, .int .i64 tn, .int .i64 td, .int .i64 te, .int .i64 to] 36)).heap.size (w.alloc (.cells #[.int .i64 tq, .int .i64 tn, .int .i64 td, .int .i64 te, .int .i64 to] 36)) ((w.alloc (.cells #[.int .i64 tq, .int .i64 tn, .int .i64 td, .int .i64 te, .int .i64 to] 36)).alloc (.cells #[.int .i64 0, .int .i64 0, .int .i64 0] 33)))).below hb1
    simpa only [Hid] using this
  clear hb1 hA
  by_cases ht : turnB ⟨tq, tn, td, te, to⟩ = true
  · have HT := hid ht
    obtain ⟨⟨q0, q1⟩, ⟨tn0, tn1⟩, ⟨td0, td1⟩, ⟨te0, te1⟩, to0, to1⟩ := turnB_bd ht
    simp only at q0 q1 tn0 tn1 td0 td1 te0 te1 to0 to1
    have hq4 : tq = 0 ∨ tq = 1 ∨ tq = 2 ∨ tq = 3 := by omega
    rcases hq4 with rfl | rfl | rfl | rfl
    · by_cases hnd : tn = td
      · subst hnd
        have tl := GT.out.lt
        have t0 := GT.out.c0
        have t1 := GT.out.c1
        have t2 := GT.out.c2
        have HO : Hid (fixOk ⟨0, tn, tn, te, to⟩ = false) := (by unfold Hid fixOk; rw [HT.out]; simp)
        have ul := GR.out.lt
        have u0 := GR.out.c0
        have u1 := GR.out.c1
        have u2 := GR.out.c2
        have uz0 := GR.out.frozen (j := 0)
        have uz1 := GR.out.frozen (j := 1)
        have uz2 := GR.out.frozen (j := 2)
        go_wp2_with fail
        exact bodyPost_ret (v := .tuple #[(⟨0, 0, 0⟩ : Sp).val, .bool false]) (by simp [results, Try.results17, go_sem, ul, u0, u1, u2]) rfl ⟨by rw [fixR_no HO.out, HO.out], by go_grown⟩
      · have HO : Hid (fixOk ⟨0, tn, td, te, to⟩ = true) := by unfold Hid fixOk; rw [HT.out]; simp [hnd]
        by_cases hlt : tn < td
        · have px := mul_bd 99999 20 1999980 (a := te) (b := td) (by omega) (by omega) rfl
          obtain ⟨x, hx⟩ : ∃ v, te * td = v := ⟨_, rfl⟩
          have nx : IntKind.i64.wrap (te * td) = x := (IntWalk.i64_in _ (by omega)).trans hx
          rw [hx] at px
          have py := mul_bd 99999 20 1999980 (a := to) (b := td) (by omega) (by omega) rfl
          obtain ⟨y, hy⟩ : ∃ v, to * td = v := ⟨_, rfl⟩
          have ny : IntKind.i64.wrap (to * td) = y := (IntWalk.i64_in _ (by omega)).trans hy
          rw [hy] at py
          obtain ⟨D, hD⟩ : ∃ D : Nat, td - tn = (D : Int) := ⟨(td - tn).toNat, by omega⟩
          have nD : IntKind.i64.wrap (td - tn) = (D : Int) := (IntWalk.i64_in _ (by omega)).trans hD
          have hd0 : 0 < D := by omega
          have hd1 : D ≤ 1000 := by omega
          have HP : Hid (fixS ⟨0, tn, td, te, to⟩ = lowP x y D) := by
            unfold Hid fixS
            simp only [if_true, if_pos hlt]
            rw [hx, hy, hD, Int.toNat_natCast]
          clear hx hy hD
          have tl := GT.out.lt
          have t0 := GT.out.c0
          have t1 := GT.out.c1
          have t2 := GT.out.c2
          have t3 := GT.out.c3
          have t4 := GT.out.c4
          go_wp2_with fail
          have hq0 : ∀ z : Later w1, z.wd.cell? ⟨w.heap.size, 0, none⟩ = some (.int .i64 0) := fun z => (z.cell _ _ GT.out.lt).trans GT.out.c0
          have hq1 : ∀ z : Later w1, z.wd.cell? ⟨w.heap.size, 1, none⟩ = some (.int .i64 tn) := fun z => (z.cell _ _ GT.out.lt).trans GT.out.c1
          have hq2 : ∀ z : Later w1, z.wd.cell? ⟨w.heap.size, 2, none⟩ = some (.int .i64 td) := fun z => (z.cell _ _ GT.out.lt).trans GT.out.c2
          have hq3 : ∀ z : Later w1, z.wd.cell? ⟨w.heap.size, 3, none⟩ = some (.int .i64 te) := fun z => (z.cell _ _ GT.out.lt).trans GT.out.c3
          have hq4 : ∀ z : Later w1, z.wd.cell? ⟨w.heap.size, 4, none⟩ = some (.int .i64 to) := fun z => (z.cell _ _ GT.out.lt).trans GT.out.c4
          refine region_later (by kernel_rfl) (by kernel_rfl) ?_
          repeat (go_big_quiet_step (fail))
          refine wpQuiet_nil ?_
          intro _ hw'
          obtain ⟨z, rfl⟩ := hw'
          have GT2 := GT.out.below z.below
          have GR2 := GR.out.below z.below
          have BB2 := Below.on BB BB.size z.below
          clear GT GR BB hq0 hq1 hq2 hq3 hq4 tl t0 t1 t2 t3 t4
          generalize z.wd = wz at GT2 GR2 BB2 ⊢
          have GT := hid GT2
          have GR := hid GR2
          have BB := BB2
          clear GT2 GR2 BB2
          have tl := GT.out.lt
          have t0 := GT.out.c0
          have t1 := GT.out.c1
          have t2 := GT.out.c2
          have t3 := GT.out.c3
          have t4 := GT.out.c4
          go_wp2_with fail
          refine (low_impl_pos x y D (by unfold SpBd; simp only; omega) hd0 (by omega) _).mono ?_
          rintro e w2 ⟨rfl, hb2⟩
          obtain ⟨s, hs⟩ : ∃ s, lowP x y D = s := ⟨_, rfl⟩
          rw [hs]
          have HS := hid hs
          clear hs
          have B2 := Below.on BB BB.size hb2
          have GR3 := hid (GR.out.below hb2)
          clear GR BB hb2 tl t0 t1 t2 t3 t4
          have GR := GR3
          have ul := GR.out.lt
          have u0 := GR.out.c0
          have u1 := GR.out.c1
          have u2 := GR.out.c2
          have uz0 := GR.out.frozen (j := 0)
          have uz1 := GR.out.frozen (j := 1)
          have uz2 := GR.out.frozen (j := 2)
          go_wp2_with fail
          exact bodyPost_ret (v := .tuple #[s.val, .bool true]) (by simp [results, Try.results17, go_sem, ul, u0, u1, u2]) rfl ⟨by rw [fixR_ok HO.out, HO.out, HP.out, HS.out], by go_grown⟩
        · have px := mul_bd 99999 20 1999980 (a := te) (b := td) (by omega) (by omega) rfl
          obtain ⟨x, hx⟩ : ∃ v, te * td = v := ⟨_, rfl⟩
          have nx : IntKind.i64.wrap (te * td) = x := (IntWalk.i64_in _ (by omega)).trans hx
          rw [hx] at px
          have py := mul_bd 99999 20 1999980 (a := to) (b := td) (by omega) (by omega) rfl
          obtain ⟨y, hy⟩ : ∃ v, to * td = v := ⟨_, rfl⟩
          have ny : IntKind.i64.wrap (to * td) = y := (IntWalk.i64_in _ (by omega)).trans hy
          rw [hy] at py
          obtain ⟨D, hD⟩ : ∃ D : Nat, tn - td = (D : Int) := ⟨(tn - td).toNat, by omega⟩
          have nD : IntKind.i64.wrap (td - tn) = -(D : Int) := (IntWalk.i64_in _ (by omega)).trans (by omega)
          have hd0 : 0 < D := by omega
          have hd1 : D ≤ 1000 := by omega
          have HP : Hid (fixS ⟨0, tn, td, te, to⟩ = lowP (-x) (-y) D) := by
            unfold Hid fixS
            simp only [if_true, if_neg hlt]
            rw [hx, hy, hD, Int.toNat_natCast]
          clear hx hy hD
          have tl := GT.out.lt
          have t0 := GT.out.c0
          have t1 := GT.out.c1
          have t2 := GT.out.c2
          have t3 := GT.out.c3
          have t4 := GT.out.c4
          go_wp2_with fail
          have hq0 : ∀ z : Later w1, z.wd.cell? ⟨w.heap.size, 0, none⟩ = some (.int .i64 0) := fun z => (z.cell _ _ GT.out.lt).trans GT.out.c0
          have hq1 : ∀ z : Later w1, z.wd.cell? ⟨w.heap.size, 1, none⟩ = some (.int .i64 tn) := fun z => (z.cell _ _ GT.out.lt).trans GT.out.c1
          have hq2 : ∀ z : Later w1, z.wd.cell? ⟨w.heap.size, 2, none⟩ = some (.int .i64 td) := fun z => (z.cell _ _ GT.out.lt).trans GT.out.c2
          have hq3 : ∀ z : Later w1, z.wd.cell? ⟨w.heap.size, 3, none⟩ = some (.int .i64 te) := fun z => (z.cell _ _ GT.out.lt).trans GT.out.c3
          have hq4 : ∀ z : Later w1, z.wd.cell? ⟨w.heap.size, 4, none⟩ = some (.int .i64 to) := fun z => (z.cell _ _ GT.out.lt).trans GT.out.c4
          refine region_later (by kernel_rfl) (by kernel_rfl) ?_
          repeat (go_big_quiet_step (fail))
          refine wpQuiet_nil ?_
          intro _ hw'
          obtain ⟨z, rfl⟩ := hw'
          have GT2 := GT.out.below z.below
          have GR2 := GR.out.below z.below
          have BB2 := Below.on BB BB.size z.below
          clear GT GR BB hq0 hq1 hq2 hq3 hq4 tl t0 t1 t2 t3 t4
          generalize z.wd = wz at GT2 GR2 BB2 ⊢
          have GT := hid GT2
          have GR := hid GR2
          have BB := BB2
          clear GT2 GR2 BB2
          have tl := GT.out.lt
          have t0 := GT.out.c0
          have t1 := GT.out.c1
          have t2 := GT.out.c2
          have t3 := GT.out.c3
          have t4 := GT.out.c4
          go_wp2_with fail
          refine (low_impl_neg x y D (by unfold SpBd; simp only; omega) hd0 (by omega) _).mono ?_
          rintro e w2 ⟨rfl, hb2⟩
          obtain ⟨s, hs⟩ : ∃ s, lowP (-x) (-y) D = s := ⟨_, rfl⟩
          rw [hs]
          have HS := hid hs
          clear hs
          have B2 := Below.on BB BB.size hb2
          have GR3 := hid (GR.out.below hb2)
          clear GR BB hb2 tl t0 t1 t2 t3 t4
          have GR := GR3
          have ul := GR.out.lt
          have u0 := GR.out.c0
          have u1 := GR.out.c1
          have u2 := GR.out.c2
          have uz0 := GR.out.frozen (j := 0)
          have uz1 := GR.out.frozen (j := 1)
          have uz2 := GR.out.frozen (j := 2)
          go_wp2_with fail
          exact bodyPost_ret (v := .tuple #[s.val, .bool true]) (by simp [results, Try.results17, go_sem, ul, u0, u1, u2]) rfl ⟨by rw [fixR_ok HO.out, HO.out, HP.out, HS.out], by go_grown⟩
    · have HO : Hid (fixOk ⟨1, tn, td, te, to⟩ = true) := by unfold Hid fixOk; rw [HT.out]; simp
      have pa1 := mul_bd 99999 20 1999980 (a := te) (b := td) (by omega) (by omega) rfl
      obtain ⟨a1, ha1⟩ : ∃ v, te * td = v := ⟨_, rfl⟩
      have na1 : IntKind.i64.wrap (te * td) = a1 := (IntWalk.i64_in _ (by omega)).trans ha1
      rw [ha1] at pa1
      have pa2 := mul_bd 1999980 20 39999600 (a := a1) (b := td) (by omega) (by omega) rfl
      obtain ⟨a2, ha2⟩ : ∃ v, a1 * td = v := ⟨_, rfl⟩
      have na2 : IntKind.i64.wrap (a1 * td) = a2 := (IntWalk.i64_in _ (by omega)).trans ha2
      rw [ha2] at pa2
      have pa3 := mul_bd 99999 20 1999980 (a := to) (b := tn) (by omega) (by omega) rfl
      obtain ⟨a3, ha3⟩ : ∃ v, to * tn = v := ⟨_, rfl⟩
      have na3 : IntKind.i64.wrap (to * tn) = a3 := (IntWalk.i64_in _ (by omega)).trans ha3
      rw [ha3] at pa3
      have pa4 := mul_bd 1999980 20 39999600 (a := a3) (b := td) (by omega) (by omega) rfl
      obtain ⟨a4, ha4⟩ : ∃ v, a3 * td = v := ⟨_, rfl⟩
      have na4 : IntKind.i64.wrap (a3 * td) = a4 := (IntWalk.i64_in _ (by omega)).trans ha4
      rw [ha4] at pa4
      obtain ⟨x, hx⟩ : ∃ v, a2 - a4 = v := ⟨_, rfl⟩
      have nx : IntKind.i64.wrap (a2 - a4) = x := (IntWalk.i64_in _ (by omega)).trans hx
      have pb1 := mul_bd 99999 20 1999980 (a := to) (b := td) (by omega) (by omega) rfl
      obtain ⟨b1, hb1⟩ : ∃ v, to * td = v := ⟨_, rfl⟩
      have nb1 : IntKind.i64.wrap (to * td) = b1 := (IntWalk.i64_in _ (by omega)).trans hb1
      rw [hb1] at pb1
      have pb2 := mul_bd 1999980 20 39999600 (a := b1) (b := td) (by omega) (by omega) rfl
      obtain ⟨b2, hb2⟩ : ∃ v, b1 * td = v := ⟨_, rfl⟩
      have nb2 : IntKind.i64.wrap (b1 * td) = b2 := (IntWalk.i64_in _ (by omega)).trans hb2
      rw [hb2] at pb2
      have pb3 := mul_bd 99999 20 1999980 (a := te) (b := tn) (by omega) (by omega) rfl
      obtain ⟨b3, hb3⟩ : ∃ v, te * tn = v := ⟨_, rfl⟩
      have nb3 : IntKind.i64.wrap (te * tn) = b3 := (IntWalk.i64_in _ (by omega)).trans hb3
      rw [hb3] at pb3
      have pb4 := mul_bd 1999980 20 39999600 (a := b3) (b := td) (by omega) (by omega) rfl
      obtain ⟨b4, hb4⟩ : ∃ v, b3 * td = v := ⟨_, rfl⟩
      have nb4 : IntKind.i64.wrap (b3 * td) = b4 := (IntWalk.i64_in _ (by omega)).trans hb4
      rw [hb4] at pb4
      obtain ⟨y, hy⟩ : ∃ v, b2 + b4 = v := ⟨_, rfl⟩
      have ny : IntKind.i64.wrap (b2 + b4) = y := (IntWalk.i64_in _ (by omega)).trans hy
      have ex : td * (td * te - tn * to) = x := by
        rw [← hx, ← ha4, ← ha3, ← ha2, ← ha1, Int.mul_sub]
        simp only [Int.mul_comm, Int.mul_left_comm, Int.mul_assoc]
      have ey : td * (td * to + tn * te) = y := by
        rw [← hy, ← hb4, ← hb3, ← hb2, ← hb1, Int.mul_add]
        simp only [Int.mul_comm, Int.mul_left_comm, Int.mul_assoc]
      have pdd := mul_bd 20 20 400 (a := td) (b := td) (by omega) (by omega) rfl
      obtain ⟨dd, hdd⟩ : ∃ v, td * td = v := ⟨_, rfl⟩
      have ndd : IntKind.i64.wrap (td * td) = dd := (IntWalk.i64_in _ (by omega)).trans hdd
      rw [hdd] at pdd
      have pnn := mul_bd 20 20 400 (a := tn) (b := tn) (by omega) (by omega) rfl
      obtain ⟨nn, hnn⟩ : ∃ v, tn * tn = v := ⟨_, rfl⟩
      have nnn : IntKind.i64.wrap (tn * tn) = nn := (IntWalk.i64_in _ (by omega)).trans hnn
      rw [hnn] at pnn
      have pdd0 : 1 ≤ dd := by rw [← hdd]; have := Int.mul_le_mul td0 td0 (by omega) (by omega : (0 : Int) ≤ td); omega
      have pnn0 : 1 ≤ nn := by rw [← hnn]; have := Int.mul_le_mul tn0 tn0 (by omega) (by omega : (0 : Int) ≤ tn); omega
      obtain ⟨D, hD⟩ : ∃ D : Nat, dd + nn = (D : Int) := ⟨(dd + nn).toNat, by omega⟩
      have nD : IntKind.i64.wrap (dd + nn) = (D : Int) := (IntWalk.i64_in _ (by omega)).trans hD
      have hd0 : 0 < D := by omega
      have hd1 : D ≤ 1000 := by omega
      have HP : Hid (fixS ⟨1, tn, td, te, to⟩ = lowP x y D) := by
        unfold Hid fixS
        rw [if_neg (by show ¬ ((1 : Int) = 0); decide), if_pos rfl]
        simp only
        rw [ex, ey, hdd, hnn, hD, Int.toNat_natCast]
      have hxb : -100000000 ≤ x ∧ x ≤ 100000000 := by omega
      have hyb : -100000000 ≤ y ∧ y ≤ 100000000 := by omega
      clear ha1 ha2 ha3 hx hb1 hb2 hb3 hy hdd hnn hD ha4 hb4 ex ey 
      have tl := GT.out.lt
      have t0 := GT.out.c0
      have t1 := GT.out.c1
      have t2 := GT.out.c2
      have t3 := GT.out.c3
      have t4 := GT.out.c4
      go_wp2_with fail
      have hq0 : ∀ z : Later w1, z.wd.cell? ⟨w.heap.size, 0, none⟩ = some (.int .i64 1) := fun z => (z.cell _ _ GT.out.lt).trans GT.out.c0
      have hq1 : ∀ z : Later w1, z.wd.cell? ⟨w.heap.size, 1, none⟩ = some (.int .i64 tn) := fun z => (z.cell _ _ GT.out.lt).trans GT.out.c1
      have hq2 : ∀ z : Later w1, z.wd.cell? ⟨w.heap.size, 2, none⟩ = some (.int .i64 td) := fun z => (z.cell _ _ GT.out.lt).trans GT.out.c2
      have hq3 : ∀ z : Later w1, z.wd.cell? ⟨w.heap.size, 3, none⟩ = some (.int .i64 te) := fun z => (z.cell _ _ GT.out.lt).trans GT.out.c3
      have hq4 : ∀ z : Later w1, z.wd.cell? ⟨w.heap.size, 4, none⟩ = some (.int .i64 to) := fun z => (z.cell _ _ GT.out.lt).trans GT.out.c4
      refine region_later (by kernel_rfl) (by kernel_rfl) ?_
      repeat (go_big_quiet_step (fail))
      refine wpQuiet_nil ?_
      intro _ hw'
      obtain ⟨z, rfl⟩ := hw'
      have GT2 := GT.out.below z.below
      have GR2 := GR.out.below z.below
      have BB2 := Below.on BB BB.size z.below
      clear GT GR BB hq0 hq1 hq2 hq3 hq4 tl t0 t1 t2 t3 t4
      generalize z.wd = wz at GT2 GR2 BB2 ⊢
      have GT := hid GT2
      have GR := hid GR2
      have BB := BB2
      clear GT2 GR2 BB2
      have tl := GT.out.lt
      have t0 := GT.out.c0
      have t1 := GT.out.c1
      have t2 := GT.out.c2
      have t3 := GT.out.c3
      have t4 := GT.out.c4
      go_wp2_with fail
      refine (low_impl_pos x y D (by unfold SpBd; simp only; omega) hd0 (by omega) _).mono ?_
      rintro e w2 ⟨rfl, hb2⟩
      obtain ⟨s, hs⟩ : ∃ s, lowP x y D = s := ⟨_, rfl⟩
      rw [hs]
      have HS := hid hs
      clear hs
      have B2 := Below.on BB BB.size hb2
      have GR3 := hid (GR.out.below hb2)
      clear GR BB hb2 tl t0 t1 t2 t3 t4
      have GR := GR3
      have ul := GR.out.lt
      have u0 := GR.out.c0
      have u1 := GR.out.c1
      have u2 := GR.out.c2
      have uz0 := GR.out.frozen (j := 0)
      have uz1 := GR.out.frozen (j := 1)
      have uz2 := GR.out.frozen (j := 2)
      go_wp2_with fail
      exact bodyPost_ret (v := .tuple #[s.val, .bool true]) (by simp [results, Try.results17, go_sem, ul, u0, u1, u2]) rfl ⟨by rw [fixR_ok HO.out, HO.out, HP.out, HS.out], by go_grown⟩
    · have HO : Hid (fixOk ⟨2, tn, td, te, to⟩ = true) := by unfold Hid fixOk; rw [HT.out]; simp
      have px := mul_bd 99999 20 1999980 (a := te) (b := td) (by omega) (by omega) rfl
      obtain ⟨x, hx⟩ : ∃ v, te * td = v := ⟨_, rfl⟩
      have nx : IntKind.i64.wrap (te * td) = x := (IntWalk.i64_in _ (by omega)).trans hx
      rw [hx] at px
      have py := mul_bd 99999 20 1999980 (a := to) (b := td) (by omega) (by omega) rfl
      obtain ⟨y, hy⟩ : ∃ v, to * td = v := ⟨_, rfl⟩
      have ny : IntKind.i64.wrap (to * td) = y := (IntWalk.i64_in _ (by omega)).trans hy
      rw [hy] at py
      obtain ⟨D, hD⟩ : ∃ D : Nat, td + tn = (D : Int) := ⟨(td + tn).toNat, by omega⟩
      have nD : IntKind.i64.wrap (td + tn) = (D : Int) := (IntWalk.i64_in _ (by omega)).trans hD
      have hd0 : 0 < D := by omega
      have hd1 : D ≤ 1000 := by omega
      have HP : Hid (fixS ⟨2, tn, td, te, to⟩ = lowP x y D) := by
        unfold Hid fixS
        rw [if_neg (by show ¬ ((2 : Int) = 0); decide), if_neg (by show ¬ ((2 : Int) = 1); decide), if_pos rfl]
        simp only
        rw [hx, hy, hD, Int.toNat_natCast]
      clear hx hy hD
      have tl := GT.out.lt
      have t0 := GT.out.c0
      have t1 := GT.out.c1
      have t2 := GT.out.c2
      have t3 := GT.out.c3
      have t4 := GT.out.c4
      go_wp2_with fail
      have hq0 : ∀ z : Later w1, z.wd.cell? ⟨w.heap.size, 0, none⟩ = some (.int .i64 2) := fun z => (z.cell _ _ GT.out.lt).trans GT.out.c0
      have hq1 : ∀ z : Later w1, z.wd.cell? ⟨w.heap.size, 1, none⟩ = some (.int .i64 tn) := fun z => (z.cell _ _ GT.out.lt).trans GT.out.c1
      have hq2 : ∀ z : Later w1, z.wd.cell? ⟨w.heap.size, 2, none⟩ = some (.int .i64 td) := fun z => (z.cell _ _ GT.out.lt).trans GT.out.c2
      have hq3 : ∀ z : Later w1, z.wd.cell? ⟨w.heap.size, 3, none⟩ = some (.int .i64 te) := fun z => (z.cell _ _ GT.out.lt).trans GT.out.c3
      have hq4 : ∀ z : Later w1, z.wd.cell? ⟨w.heap.size, 4, none⟩ = some (.int .i64 to) := fun z => (z.cell _ _ GT.out.lt).trans GT.out.c4
      refine region_later (by kernel_rfl) (by kernel_rfl) ?_
      repeat (go_big_quiet_step (fail))
      refine wpQuiet_nil ?_
      intro _ hw'
      obtain ⟨z, rfl⟩ := hw'
      have GT2 := GT.out.below z.below
      have GR2 := GR.out.below z.below
      have BB2 := Below.on BB BB.size z.below
      clear GT GR BB hq0 hq1 hq2 hq3 hq4 tl t0 t1 t2 t3 t4
      generalize z.wd = wz at GT2 GR2 BB2 ⊢
      have GT := hid GT2
      have GR := hid GR2
      have BB := BB2
      clear GT2 GR2 BB2
      have tl := GT.out.lt
      have t0 := GT.out.c0
      have t1 := GT.out.c1
      have t2 := GT.out.c2
      have t3 := GT.out.c3
      have t4 := GT.out.c4
      go_wp2_with fail
      refine (low_impl_pos x y D (by unfold SpBd; simp only; omega) hd0 (by omega) _).mono ?_
      rintro e w2 ⟨rfl, hb2⟩
      obtain ⟨s, hs⟩ : ∃ s, lowP x y D = s := ⟨_, rfl⟩
      rw [hs]
      have HS := hid hs
      clear hs
      have B2 := Below.on BB BB.size hb2
      have GR3 := hid (GR.out.below hb2)
      clear GR BB hb2 tl t0 t1 t2 t3 t4
      have GR := GR3
      have ul := GR.out.lt
      have u0 := GR.out.c0
      have u1 := GR.out.c1
      have u2 := GR.out.c2
      have uz0 := GR.out.frozen (j := 0)
      have uz1 := GR.out.frozen (j := 1)
      have uz2 := GR.out.frozen (j := 2)
      go_wp2_with fail
      exact bodyPost_ret (v := .tuple #[s.val, .bool true]) (by simp [results, Try.results17, go_sem, ul, u0, u1, u2]) rfl ⟨by rw [fixR_ok HO.out, HO.out, HP.out, HS.out], by go_grown⟩
    · have HO : Hid (fixOk ⟨3, tn, td, te, to⟩ = true) := by unfold Hid fixOk; rw [HT.out]; simp
      have pa1 := mul_bd 99999 20 1999980 (a := te) (b := td) (by omega) (by omega) rfl
      obtain ⟨a1, ha1⟩ : ∃ v, te * td = v := ⟨_, rfl⟩
      have na1 : IntKind.i64.wrap (te * td) = a1 := (IntWalk.i64_in _ (by omega)).trans ha1
      rw [ha1] at pa1
      have pa2 := mul_bd 1999980 20 39999600 (a := a1) (b := td) (by omega) (by omega) rfl
      obtain ⟨a2, ha2⟩ : ∃ v, a1 * td = v := ⟨_, rfl⟩
      have na2 : IntKind.i64.wrap (a1 * td) = a2 := (IntWalk.i64_in _ (by omega)).trans ha2
      rw [ha2] at pa2
      have pa3 := mul_bd 99999 20 1999980 (a := to) (b := tn) (by omega) (by omega) rfl
      obtain ⟨a3, ha3⟩ : ∃ v, to * tn = v := ⟨_, rfl⟩
      have na3 : IntKind.i64.wrap (to * tn) = a3 := (IntWalk.i64_in _ (by omega)).trans ha3
      rw [ha3] at pa3
      have pa4 := mul_bd 1999980 20 39999600 (a := a3) (b := td) (by omega) (by omega) rfl
      obtain ⟨a4, ha4⟩ : ∃ v, a3 * td = v := ⟨_, rfl⟩
      have na4 : IntKind.i64.wrap (a3 * td) = a4 := (IntWalk.i64_in _ (by omega)).trans ha4
      rw [ha4] at pa4
      obtain ⟨x, hx⟩ : ∃ v, a2 + a4 = v := ⟨_, rfl⟩
      have nx : IntKind.i64.wrap (a2 + a4) = x := (IntWalk.i64_in _ (by omega)).trans hx
      have pb1 := mul_bd 99999 20 1999980 (a := to) (b := td) (by omega) (by omega) rfl
      obtain ⟨b1, hb1⟩ : ∃ v, to * td = v := ⟨_, rfl⟩
      have nb1 : IntKind.i64.wrap (to * td) = b1 := (IntWalk.i64_in _ (by omega)).trans hb1
      rw [hb1] at pb1
      have pb2 := mul_bd 1999980 20 39999600 (a := b1) (b := td) (by omega) (by omega) rfl
      obtain ⟨b2, hb2⟩ : ∃ v, b1 * td = v := ⟨_, rfl⟩
      have nb2 : IntKind.i64.wrap (b1 * td) = b2 := (IntWalk.i64_in _ (by omega)).trans hb2
      rw [hb2] at pb2
      have pb3 := mul_bd 99999 20 1999980 (a := te) (b := tn) (by omega) (by omega) rfl
      obtain ⟨b3, hb3⟩ : ∃ v, te * tn = v := ⟨_, rfl⟩
      have nb3 : IntKind.i64.wrap (te * tn) = b3 := (IntWalk.i64_in _ (by omega)).trans hb3
      rw [hb3] at pb3
      have pb4 := mul_bd 1999980 20 39999600 (a := b3) (b := td) (by omega) (by omega) rfl
      obtain ⟨b4, hb4⟩ : ∃ v, b3 * td = v := ⟨_, rfl⟩
      have nb4 : IntKind.i64.wrap (b3 * td) = b4 := (IntWalk.i64_in _ (by omega)).trans hb4
      rw [hb4] at pb4
      obtain ⟨y, hy⟩ : ∃ v, b2 - b4 = v := ⟨_, rfl⟩
      have ny : IntKind.i64.wrap (b2 - b4) = y := (IntWalk.i64_in _ (by omega)).trans hy
      have ex : td * (td * te + tn * to) = x := by
        rw [← hx, ← ha4, ← ha3, ← ha2, ← ha1, Int.mul_add]
        simp only [Int.mul_comm, Int.mul_left_comm, Int.mul_assoc]
      have ey : td * (td * to - tn * te) = y := by
        rw [← hy, ← hb4, ← hb3, ← hb2, ← hb1, Int.mul_sub]
        simp only [Int.mul_comm, Int.mul_left_comm, Int.mul_assoc]
      have pdd := mul_bd 20 20 400 (a := td) (b := td) (by omega) (by omega) rfl
      obtain ⟨dd, hdd⟩ : ∃ v, td * td = v := ⟨_, rfl⟩
      have ndd : IntKind.i64.wrap (td * td) = dd := (IntWalk.i64_in _ (by omega)).trans hdd
      rw [hdd] at pdd
      have pnn := mul_bd 20 20 400 (a := tn) (b := tn) (by omega) (by omega) rfl
      obtain ⟨nn, hnn⟩ : ∃ v, tn * tn = v := ⟨_, rfl⟩
      have nnn : IntKind.i64.wrap (tn * tn) = nn := (IntWalk.i64_in _ (by omega)).trans hnn
      rw [hnn] at pnn
      have pdd0 : 1 ≤ dd := by rw [← hdd]; have := Int.mul_le_mul td0 td0 (by omega) (by omega : (0 : Int) ≤ td); omega
      have pnn0 : 1 ≤ nn := by rw [← hnn]; have := Int.mul_le_mul tn0 tn0 (by omega) (by omega : (0 : Int) ≤ tn); omega
      obtain ⟨D, hD⟩ : ∃ D : Nat, dd + nn = (D : Int) := ⟨(dd + nn).toNat, by omega⟩
      have nD : IntKind.i64.wrap (dd + nn) = (D : Int) := (IntWalk.i64_in _ (by omega)).trans hD
      have hd0 : 0 < D := by omega
      have hd1 : D ≤ 1000 := by omega
      have HP : Hid (fixS ⟨3, tn, td, te, to⟩ = lowP x y D) := by
        unfold Hid fixS
        rw [if_neg (by show ¬ ((3 : Int) = 0); decide), if_neg (by show ¬ ((3 : Int) = 1); decide), if_neg (by show ¬ ((3 : Int) = 2); decide)]
        simp only
        rw [ex, ey, hdd, hnn, hD, Int.toNat_natCast]
      have hxb : -100000000 ≤ x ∧ x ≤ 100000000 := by omega
      have hyb : -100000000 ≤ y ∧ y ≤ 100000000 := by omega
      clear ha1 ha2 ha3 hx hb1 hb2 hb3 hy hdd hnn hD ha4 hb4 ex ey 
      have tl := GT.out.lt
      have t0 := GT.out.c0
      have t1 := GT.out.c1
      have t2 := GT.out.c2
      have t3 := GT.out.c3
      have t4 := GT.out.c4
      go_wp2_with fail
      have hq0 : ∀ z : Later w1, z.wd.cell? ⟨w.heap.size, 0, none⟩ = some (.int .i64 3) := fun z => (z.cell _ _ GT.out.lt).trans GT.out.c0
      have hq1 : ∀ z : Later w1, z.wd.cell? ⟨w.heap.size, 1, none⟩ = some (.int .i64 tn) := fun z => (z.cell _ _ GT.out.lt).trans GT.out.c1
      have hq2 : ∀ z : Later w1, z.wd.cell? ⟨w.heap.size, 2, none⟩ = some (.int .i64 td) := fun z => (z.cell _ _ GT.out.lt).trans GT.out.c2
      have hq3 : ∀ z : Later w1, z.wd.cell? ⟨w.heap.size, 3, none⟩ = some (.int .i64 te) := fun z => (z.cell _ _ GT.out.lt).trans GT.out.c3
      have hq4 : ∀ z : Later w1, z.wd.cell? ⟨w.heap.size, 4, none⟩ = some (.int .i64 to) := fun z => (z.cell _ _ GT.out.lt).trans GT.out.c4
      refine region_later (by kernel_rfl) (by kernel_rfl) ?_
      repeat (go_big_quiet_step (fail))
      refine wpQuiet_nil ?_
      intro _ hw'
      obtain ⟨z, rfl⟩ := hw'
      have GT2 := GT.out.below z.below
      have GR2 := GR.out.below z.below
      have BB2 := Below.on BB BB.size z.below
      clear GT GR BB hq0 hq1 hq2 hq3 hq4 tl t0 t1 t2 t3 t4
      generalize z.wd = wz at GT2 GR2 BB2 ⊢
      have GT := hid GT2
      have GR := hid GR2
      have BB := BB2
      clear GT2 GR2 BB2
      have tl := GT.out.lt
      have t0 := GT.out.c0
      have t1 := GT.out.c1
      have t2 := GT.out.c2
      have t3 := GT.out.c3
      have t4 := GT.out.c4
      go_wp2_with fail
      refine (low_impl_pos x y D (by unfold SpBd; simp only; omega) hd0 (by omega) _).mono ?_
      rintro e w2 ⟨rfl, hb2⟩
      obtain ⟨s, hs⟩ : ∃ s, lowP x y D = s := ⟨_, rfl⟩
      rw [hs]
      have HS := hid hs
      clear hs
      have B2 := Below.on BB BB.size hb2
      have GR3 := hid (GR.out.below hb2)
      clear GR BB hb2 tl t0 t1 t2 t3 t4
      have GR := GR3
      have ul := GR.out.lt
      have u0 := GR.out.c0
      have u1 := GR.out.c1
      have u2 := GR.out.c2
      have uz0 := GR.out.frozen (j := 0)
      have uz1 := GR.out.frozen (j := 1)
      have uz2 := GR.out.frozen (j := 2)
      go_wp2_with fail
      exact bodyPost_ret (v := .tuple #[s.val, .bool true]) (by simp [results, Try.results17, go_sem, ul, u0, u1, u2]) rfl ⟨by rw [fixR_ok HO.out, HO.out, HP.out, HS.out], by go_grown⟩
  · have ht' : turnB ⟨tq, tn, td, te, to⟩ = false := by simpa using ht
    have HT := hid ht'
    clear ht
    have HO : Hid (fixOk ⟨tq, tn, td, te, to⟩ = false) := (by unfold Hid fixOk; rw [HT.out]; rfl)
    have ul := GR.out.lt
    have u0 := GR.out.c0
    have u1 := GR.out.c1
    have u2 := GR.out.c2
    have uz0 := GR.out.frozen (j := 0)
    have uz1 := GR.out.frozen (j := 1)
    have uz2 := GR.out.frozen (j := 2)
    go_wp2_with fail
    exact bodyPost_ret (v := .tuple #[(⟨0, 0, 0⟩ : Sp).val, .bool false]) (by simp [results, Try.results17, go_sem, ul, u0, u1, u2]) rfl ⟨by rw [fixR_no HO.out, HO.out], by go_grown⟩

set_option maxHeartbeats 4000000 in
theorem walk_ExactFixedSpot (w : World) (s0 : GridTurnD) (ok0 : s0.ok) : Calls Try.prog 4 #[s0.val] w fun e w' => e = .returned (.bool true) ∧ Below w.heap.size w w' := by
  clear ok0
  have D0 : Below w.heap.size w (w.alloc (.cells #[.int .i64 s0.Quarters, .int .i64 s0.Num, .int .i64 s0.Den, .int .i64 s0.East, .int .i64 s0.North] 31)) := by go_grown
  obtain ⟨S, hS⟩ : ∃ S, fixR s0 = S := ⟨_, rfl⟩
  have HS := hid hS
  clear hS
  go_enter Try.func4, Try.ntmps4
  go_wp2_with fail
  refine (toGridTurn_any s0 _).mono ?_
  rintro e w1 ⟨rfl, hb1⟩
  have C1 : Below (w.alloc (.cells #[.int .i64 s0.Quarters, .int .i64 s0.Num, .int .i64 s0.Den, .int .i64 s0.East, .int .i64 s0.North] 31)).heap.size (w.alloc (.cells #[.int .i64 s0.Quarters, .int .i64 s0.Num, .int .i64 s0.Den, .int .i64 s0.East, .int .i64 s0.North] 31)) w1 := hb1
  have x0 : w1.cell? ⟨w.heap.size, 0, none⟩ = some (.int .i64 s0.Quarters) := (C1.cell (by simp)).trans (by simp [go_sem])
  have x1 : w1.cell? ⟨w.heap.size, 1, none⟩ = some (.int .i64 s0.Num) := (C1.cell (by simp)).trans (by simp [go_sem])
  have x2 : w1.cell? ⟨w.heap.size, 2, none⟩ = some (.int .i64 s0.Den) := (C1.cell (by simp)).trans (by simp [go_sem])
  have x3 : w1.cell? ⟨w.heap.size, 3, none⟩ = some (.int .i64 s0.East) := (C1.cell (by simp)).trans (by simp [go_sem])
  have x4 : w1.cell? ⟨w.heap.size, 4, none⟩ = some (.int .i64 s0.North) := (C1.cell (by simp)).trans (by simp [go_sem])
  go_wp2_with fail
  refine (fix_spec s0 _).mono ?_
  rintro e w2 ⟨rfl, hb2⟩
  rw [HS.out]
  have C2 : Below (w.alloc (.cells #[.int .i64 s0.Quarters, .int .i64 s0.Num, .int .i64 s0.Den, .int .i64 s0.East, .int .i64 s0.North] 31)).heap.size (w.alloc (.cells #[.int .i64 s0.Quarters, .int .i64 s0.Num, .int .i64 s0.Den, .int .i64 s0.East, .int .i64 s0.North] 31)) w2 := Below.on C1 C1.size hb2
  have x0 : w2.cell? ⟨w.heap.size, 0, none⟩ = some (.int .i64 s0.Quarters) := (C2.cell (by simp)).trans (by simp [go_sem])
  have x1 : w2.cell? ⟨w.heap.size, 1, none⟩ = some (.int .i64 s0.Num) := (C2.cell (by simp)).trans (by simp [go_sem])
  have x2 : w2.cell? ⟨w.heap.size, 2, none⟩ = some (.int .i64 s0.Den) := (C2.cell (by simp)).trans (by simp [go_sem])
  have x3 : w2.cell? ⟨w.heap.size, 3, none⟩ = some (.int .i64 s0.East) := (C2.cell (by simp)).trans (by simp [go_sem])
  have x4 : w2.cell? ⟨w.heap.size, 4, none⟩ = some (.int .i64 s0.North) := (C2.cell (by simp)).trans (by simp [go_sem])
  have C3 : Below (w.alloc (.cells #[.int .i64 s0.Quarters, .int .i64 s0.Num, .int .i64 s0.Den, .int .i64 s0.East, .int .i64 s0.North] 31)).heap.size (w.alloc (.cells #[.int .i64 s0.Quarters, .int .i64 s0.Num, .int .i64 s0.Den, .int .i64 s0.East, .int .i64 s0.North] 31)) (w2.alloc (.cells #[.int .i64 S.X, .int .i64 S.Y, .int .i64 S.Den] 33)) := C2.alloc C2.size _
  have A3 := hid (AtSpot.new S w2)
  have l2 : w.heap.size < w2.heap.size := by have := C2.size; simp at this; omega
  go_wp2_with fail
  refine (toGridTurn_any s0 _).mono ?_
  rintro e w4 ⟨rfl, hb4⟩
  have C4 : Below (w.alloc (.cells #[.int .i64 s0.Quarters, .int .i64 s0.Num, .int .i64 s0.Den, .int .i64 s0.East, .int .i64 s0.North] 31)).heap.size (w.alloc (.cells #[.int .i64 s0.Quarters, .int .i64 s0.Num, .int .i64 s0.Den, .int .i64 s0.East, .int .i64 s0.North] 31)) w4 := Below.on C3 C3.size hb4
  have A4 := hid (A3.out.below hb4)
  go_wp2_with fail
  refine (fix_impl s0 _).mono ?_
  rintro e w5 ⟨rfl, hb5⟩
  rw [HS.out]
  have C5 : Below (w.alloc (.cells #[.int .i64 s0.Quarters, .int .i64 s0.Num, .int .i64 s0.Den, .int .i64 s0.East, .int .i64 s0.North] 31)).heap.size (w.alloc (.cells #[.int .i64 s0.Quarters, .int .i64 s0.Num, .int .i64 s0.Den, .int .i64 s0.East, .int .i64 s0.North] 31)) w5 := Below.on C4 C4.size hb5
  have A5 := hid (A4.out.below hb5)
  have C6 : Below (w.alloc (.cells #[.int .i64 s0.Quarters, .int .i64 s0.Num, .int .i64 s0.Den, .int .i64 s0.East, .int .i64 s0.North] 31)).heap.size (w.alloc (.cells #[.int .i64 s0.Quarters, .int .i64 s0.Num, .int .i64 s0.Den, .int .i64 s0.East, .int .i64 s0.North] 31)) (w5.alloc (.cells #[.int .i64 S.X, .int .i64 S.Y, .int .i64 S.Den] 33)) := C5.alloc C5.size _
  clear A3 A4 x0 x1 x2 x3 x4
  have l5 := A5.out.lt
  have c0 := A5.out.c0
  have c1 := A5.out.c1
  have c2 := A5.out.c2
  go_wp2_with fail
  refine (eqSpot_same S _).mono ?_
  rintro e w7 ⟨rfl, hb7⟩
  have C7 : Below (w.alloc (.cells #[.int .i64 s0.Quarters, .int .i64 s0.Num, .int .i64 s0.Den, .int .i64 s0.East, .int .i64 s0.North] 31)).heap.size (w.alloc (.cells #[.int .i64 s0.Quarters, .int .i64 s0.Num, .int .i64 s0.Den, .int .i64 s0.East, .int .i64 s0.North] 31)) w7 := Below.on C6 C6.size hb7
  go_wp2_with fail
  go_ret
  exact ⟨rfl, Below.on D0 D0.size C7⟩

end Go.Proofs.Ytigiihhfmdgdlaa
