/-
  The walk of DoesFit. No condition.
-/
import Derived.Test.YtejpmomedclnhaaFit
import Derived.Test.YtejpmomedclnhaaDrawM2
import Derived.Deep.RegionWith
import Derived.Deep.Cut
namespace Go.Proofs.Ytejpmomedclnhaa
open Go.RowKit
set_option linter.unusedVariables false

set_option maxRecDepth 100000 in
set_option maxHeartbeats 4000000 in
theorem walk_ExactDoesFit (w : World) (s0 : FlatD) (s1 : DrawerL) (ok0 : s0.ok) (ok1 : s1.ok w) :
    Calls Try.prog 3 #[s0.val, s1.val] w fun e w' => e = .returned (.bool true) ∧ Below w.heap.size w w' := by
  have hA : Below w.heap.size w ((w.alloc (.cells #[.int .i64 s0.Id, .int .i64 s0.Wide, .int .i64 s0.High, .int .i64 s0.Grams] 23)).alloc (.cells #[.int .i64 s1.Id, .int .i64 s1.Wide, .int .i64 s1.High, .int .i64 s1.Holds, .slice s1.a s1.n s1.cap] 26)) := by go_grown
  have KZ := szDrawer_any s1 ((w.alloc (.cells #[.int .i64 s0.Id, .int .i64 s0.Wide, .int .i64 s0.High, .int .i64 s0.Grams] 23)).alloc (.cells #[.int .i64 s1.Id, .int .i64 s1.Wide, .int .i64 s1.High, .int .i64 s1.Holds, .slice s1.a s1.n s1.cap] 26)) 1048576 ok1.2 (by omega) (by omega)
  have xf0 : ((w.alloc (.cells #[.int .i64 s0.Id, .int .i64 s0.Wide, .int .i64 s0.High, .int .i64 s0.Grams] 23)).alloc (.cells #[.int .i64 s1.Id, .int .i64 s1.Wide, .int .i64 s1.High, .int .i64 s1.Holds, .slice s1.a s1.n s1.cap] 26)).cell? ⟨w.heap.size, 0, none⟩ = some (.int .i64 s0.Id) := by simp [go_sem]
  have xf1 : ((w.alloc (.cells #[.int .i64 s0.Id, .int .i64 s0.Wide, .int .i64 s0.High, .int .i64 s0.Grams] 23)).alloc (.cells #[.int .i64 s1.Id, .int .i64 s1.Wide, .int .i64 s1.High, .int .i64 s1.Holds, .slice s1.a s1.n s1.cap] 26)).cell? ⟨w.heap.size, 1, none⟩ = some (.int .i64 s0.Wide) := by simp [go_sem]
  have xf2 : ((w.alloc (.cells #[.int .i64 s0.Id, .int .i64 s0.Wide, .int .i64 s0.High, .int .i64 s0.Grams] 23)).alloc (.cells #[.int .i64 s1.Id, .int .i64 s1.Wide, .int .i64 s1.High, .int .i64 s1.Holds, .slice s1.a s1.n s1.cap] 26)).cell? ⟨w.heap.size, 2, none⟩ = some (.int .i64 s0.High) := by simp [go_sem]
  have xf3 : ((w.alloc (.cells #[.int .i64 s0.Id, .int .i64 s0.Wide, .int .i64 s0.High, .int .i64 s0.Grams] 23)).alloc (.cells #[.int .i64 s1.Id, .int .i64 s1.Wide, .int .i64 s1.High, .int .i64 s1.Holds, .slice s1.a s1.n s1.cap] 26)).cell? ⟨w.heap.size, 3, none⟩ = some (.int .i64 s0.Grams) := by simp [go_sem]
  have xd0 : ((w.alloc (.cells #[.int .i64 s0.Id, .int .i64 s0.Wide, .int .i64 s0.High, .int .i64 s0.Grams] 23)).alloc (.cells #[.int .i64 s1.Id, .int .i64 s1.Wide, .int .i64 s1.High, .int .i64 s1.Holds, .slice s1.a s1.n s1.cap] 26)).cell? ⟨w.heap.size + 1, 0, none⟩ = some (.int .i64 s1.Id) := by simp [go_sem]
  have xd1 : ((w.alloc (.cells #[.int .i64 s0.Id, .int .i64 s0.Wide, .int .i64 s0.High, .int .i64 s0.Grams] 23)).alloc (.cells #[.int .i64 s1.Id, .int .i64 s1.Wide, .int .i64 s1.High, .int .i64 s1.Holds, .slice s1.a s1.n s1.cap] 26)).cell? ⟨w.heap.size + 1, 1, none⟩ = some (.int .i64 s1.Wide) := by simp [go_sem]
  have xd2 : ((w.alloc (.cells #[.int .i64 s0.Id, .int .i64 s0.Wide, .int .i64 s0.High, .int .i64 s0.Grams] 23)).alloc (.cells #[.int .i64 s1.Id, .int .i64 s1.Wide, .int .i64 s1.High, .int .i64 s1.Holds, .slice s1.a s1.n s1.cap] 26)).cell? ⟨w.heap.size + 1, 2, none⟩ = some (.int .i64 s1.High) := by simp [go_sem]
  have xd3 : ((w.alloc (.cells #[.int .i64 s0.Id, .int .i64 s0.Wide, .int .i64 s0.High, .int .i64 s0.Grams] 23)).alloc (.cells #[.int .i64 s1.Id, .int .i64 s1.Wide, .int .i64 s1.High, .int .i64 s1.Holds, .slice s1.a s1.n s1.cap] 26)).cell? ⟨w.heap.size + 1, 3, none⟩ = some (.int .i64 s1.Holds) := by simp [go_sem]
  have xd4 : ((w.alloc (.cells #[.int .i64 s0.Id, .int .i64 s0.Wide, .int .i64 s0.High, .int .i64 s0.Grams] 23)).alloc (.cells #[.int .i64 s1.Id, .int .i64 s1.Wide, .int .i64 s1.High, .int .i64 s1.Holds, .slice s1.a s1.n s1.cap] 26)).cell? ⟨w.heap.size + 1, 4, none⟩ = some (.slice s1.a s1.n s1.cap) := by simp [go_sem]
  have k0 : w.heap.size < ((w.alloc (.cells #[.int .i64 s0.Id, .int .i64 s0.Wide, .int .i64 s0.High, .int .i64 s0.Grams] 23)).alloc (.cells #[.int .i64 s1.Id, .int .i64 s1.Wide, .int .i64 s1.High, .int .i64 s1.Holds, .slice s1.a s1.n s1.cap] 26)).heap.size := by simp; omega
  have k1 : w.heap.size + 1 < ((w.alloc (.cells #[.int .i64 s0.Id, .int .i64 s0.Wide, .int .i64 s0.High, .int .i64 s0.Grams] 23)).alloc (.cells #[.int .i64 s1.Id, .int .i64 s1.Wide, .int .i64 s1.High, .int .i64 s1.Holds, .slice s1.a s1.n s1.cap] 26)).heap.size := by simp
  have HOK := hid ok1
  obtain ⟨d, hdd⟩ : ∃ d, s1.d = d := ⟨_, rfl⟩
  have HDD := hid hdd
  have hdl : Hid (d.Flats.length = s1.n) := by unfold Hid; rw [← hdd]; exact DrawerL.d_len s1
  clear hdd
  obtain ⟨r1, hr1⟩ : ∃ r, dfV s0 d = r := ⟨_, rfl⟩
  obtain ⟨r2, hr2⟩ : ∃ r, dfB s0 d = r := ⟨_, rfl⟩
  have HV := hid hr1
  have HB := hid hr2
  clear hr1 hr2
  clear ok0 ok1
  by_cases hs : (s1.n : Int) ≤ 1048576
  · rw [if_pos hs] at KZ
    have hn : Hid (s1.n ≤ 1048576) := by unfold Hid; omega
    have hlen : Hid (d.Flats.length ≤ 1048576) := by unfold Hid; rw [hdl.out]; omega
    have d0 : decide (1048576 - (s1.n : Int) < 0) = false := by simp; omega
    go_enter Try.func3, Try.ntmps3
    go_wp2_with fail
    refine KZ.mono ?_
    rintro e w1 ⟨rfl, hb1⟩
    have B1 := Below.on hA hA.size hb1
    have HS := hid (HOK.out.below B1).1
    have l0 : w.heap.size < w1.heap.size := by have := hb1.size; omega
    have l1 : w.heap.size + 1 < w1.heap.size := by have := hb1.size; omega
    have yf0 := (hb1.cell k0).trans xf0
    have yf1 := (hb1.cell k0).trans xf1
    have yf2 := (hb1.cell k0).trans xf2
    have yf3 := (hb1.cell k0).trans xf3
    have yd0 := (hb1.cell k1).trans xd0
    have yd1 := (hb1.cell k1).trans xd1
    have yd2 := (hb1.cell k1).trans xd2
    have yd3 := (hb1.cell k1).trans xd3
    have yd4 := (hb1.cell k1).trans xd4
    clear xf0 xf1 xf2 xf3 xd0 xd1 xd2 xd3 xd4 KZ k0 k1 hb1 hA
    go_wp2_with fail
    go_cut [6, 7] from 16 (fun p q w' => p = .bool r1 ∧ q = .bool r2 ∧ Below w1.heap.size w1 w')
    case first =>
      go_region_with (first
        | (go_at_call 16; refine (toFlat_any s0 _).mono ?_; rintro e wf ⟨rfl, hbf⟩; (have BF : Below w1.heap.size w1 wf := by first | exact Below.on (Below.refl _ _) (Nat.le_refl _) hbf | exact Below.on BD BD.size hbf | exact Below.on (below_drewN (Below.refl _ _) 1) (Nat.le_refl _) hbf); (have pf0 : wf.cell? ⟨w.heap.size, 0, none⟩ = some (.int .i64 s0.Id) := (BF.cell l0).trans yf0); (have pf1 : wf.cell? ⟨w.heap.size, 1, none⟩ = some (.int .i64 s0.Wide) := (BF.cell l0).trans yf1); (have pf2 : wf.cell? ⟨w.heap.size, 2, none⟩ = some (.int .i64 s0.High) := (BF.cell l0).trans yf2); (have pf3 : wf.cell? ⟨w.heap.size, 3, none⟩ = some (.int .i64 s0.Grams) := (BF.cell l0).trans yf3); (have pd0 : wf.cell? ⟨w.heap.size + 1, 0, none⟩ = some (.int .i64 s1.Id) := (BF.cell l1).trans yd0); (have pd1 : wf.cell? ⟨w.heap.size + 1, 1, none⟩ = some (.int .i64 s1.Wide) := (BF.cell l1).trans yd1); (have pd2 : wf.cell? ⟨w.heap.size + 1, 2, none⟩ = some (.int .i64 s1.High) := (BF.cell l1).trans yd2); (have pd3 : wf.cell? ⟨w.heap.size + 1, 3, none⟩ = some (.int .i64 s1.Holds) := (BF.cell l1).trans yd3); (have pd4 : wf.cell? ⟨w.heap.size + 1, 4, none⟩ = some (.slice s1.a s1.n s1.cap) := (BF.cell l1).trans yd4))
        | (go_at_call 17; refine (toDrawer_any s1 _ (by first | exact HS.out.below BF | exact HS.out) hn.out).mono ?_; rw [HDD.out]; rintro e wd ⟨g, rfl, hg, hbd, hI⟩; (have BD : Below w1.heap.size w1 wd := by first | exact Below.on BF BF.size hbd | exact Below.on (Below.refl _ _) (Nat.le_refl _) hbd); (have hI := hid hI); (have rf0 : wd.cell? ⟨w.heap.size, 0, none⟩ = some (.int .i64 s0.Id) := (BD.cell l0).trans yf0); (have rf1 : wd.cell? ⟨w.heap.size, 1, none⟩ = some (.int .i64 s0.Wide) := (BD.cell l0).trans yf1); (have rf2 : wd.cell? ⟨w.heap.size, 2, none⟩ = some (.int .i64 s0.High) := (BD.cell l0).trans yf2); (have rf3 : wd.cell? ⟨w.heap.size, 3, none⟩ = some (.int .i64 s0.Grams) := (BD.cell l0).trans yf3); (have rd0 : wd.cell? ⟨w.heap.size + 1, 0, none⟩ = some (.int .i64 s1.Id) := (BD.cell l1).trans yd0); (have rd1 : wd.cell? ⟨w.heap.size + 1, 1, none⟩ = some (.int .i64 s1.Wide) := (BD.cell l1).trans yd1); (have rd2 : wd.cell? ⟨w.heap.size + 1, 2, none⟩ = some (.int .i64 s1.High) := (BD.cell l1).trans yd2); (have rd3 : wd.cell? ⟨w.heap.size + 1, 3, none⟩ = some (.int .i64 s1.Holds) := (BD.cell l1).trans yd3); (have rd4 : wd.cell? ⟨w.heap.size + 1, 4, none⟩ = some (.slice s1.a s1.n s1.cap) := (BD.cell l1).trans yd4))
        | (go_at_call 15; refine (doesFit_spec s0 d _ _ (by first | exact (by have := hI.out.has; rwa [hdl.out] at this) | exact (by have := (hI.out.below hbf).has; rwa [hdl.out] at this)) hlen.out).mono ?_; rw [HV.out, HB.out]; rintro e wx ⟨rfl, hbx⟩))
      all_goals (go_wp2_with fail; go_meet; exact ⟨rfl, rfl, by first | exact Below.on BD BD.size (Below.on hbf (Nat.le_refl _) hbx) | exact Below.on BF BF.size hbx | exact Below.on BD BD.size hbx⟩)
    case rest =>
      obtain ⟨rfl, rfl, BC⟩ := hcut
      have B2 := Below.on B1 B1.size BC
      have m0 : w.heap.size < wc.heap.size := by have := BC.size; omega
      have m1 : w.heap.size + 1 < wc.heap.size := by have := BC.size; omega
      have zf0 := (BC.cell l0).trans yf0
      have zf1 := (BC.cell l0).trans yf1
      have zf2 := (BC.cell l0).trans yf2
      have zf3 := (BC.cell l0).trans yf3
      have zd0 := (BC.cell l1).trans yd0
      have zd1 := (BC.cell l1).trans yd1
      have zd2 := (BC.cell l1).trans yd2
      have zd3 := (BC.cell l1).trans yd3
      have zd4 := (BC.cell l1).trans yd4
      have HS2 := hid (HOK.out.below B2).1
      have KD := toDrawer_any s1 wc HS2.out hn.out
      clear yf0 yf1 yf2 yf3 yd0 yd1 yd2 yd3 yd4 BC
      go_wp2_with fail
      refine KD.mono ?_
      rw [HDD.out]
      rintro e w2 ⟨g2, rfl, hg2, hb2, hI2⟩
      have B3 := Below.on B2 B2.size hb2
      have HI2 := hid hI2
      have n0 : w.heap.size < w2.heap.size := by have := hb2.size; omega
      have n1 : w.heap.size + 1 < w2.heap.size := by have := hb2.size; omega
      have uf0 := (hb2.cell m0).trans zf0
      have uf1 := (hb2.cell m0).trans zf1
      have uf2 := (hb2.cell m0).trans zf2
      have uf3 := (hb2.cell m0).trans zf3
      have ud0 := (hb2.cell m1).trans zd0
      have ud1 := (hb2.cell m1).trans zd1
      have ud2 := (hb2.cell m1).trans zd2
      have ud3 := (hb2.cell m1).trans zd3
      have ud4 := (hb2.cell m1).trans zd4
      clear zf0 zf1 zf2 zf3 zd0 zd1 zd2 zd3 zd4 KD hI2
      go_upto_region 7 with fail
      have hA3 : Below w2.heap.size w2 (w2.alloc (.cells #[.int .i64 d.Id, .int .i64 d.Wide, .int .i64 d.High, .int .i64 d.Holds, .slice (some ⟨g2, 0, none⟩) s1.n s1.n] 32)) := by go_grown
      have tb0 : (w2.alloc (.cells #[.int .i64 d.Id, .int .i64 d.Wide, .int .i64 d.High, .int .i64 d.Holds, .slice (some ⟨g2, 0, none⟩) s1.n s1.n] 32)).cell? ⟨w2.heap.size, 0, none⟩ = some (.int .i64 d.Id) := by simp [go_sem]
      have tb1 : (w2.alloc (.cells #[.int .i64 d.Id, .int .i64 d.Wide, .int .i64 d.High, .int .i64 d.Holds, .slice (some ⟨g2, 0, none⟩) s1.n s1.n] 32)).cell? ⟨w2.heap.size, 1, none⟩ = some (.int .i64 d.Wide) := by simp [go_sem]
      have tb2 : (w2.alloc (.cells #[.int .i64 d.Id, .int .i64 d.Wide, .int .i64 d.High, .int .i64 d.Holds, .slice (some ⟨g2, 0, none⟩) s1.n s1.n] 32)).cell? ⟨w2.heap.size, 2, none⟩ = some (.int .i64 d.High) := by simp [go_sem]
      have tb3 : (w2.alloc (.cells #[.int .i64 d.Id, .int .i64 d.Wide, .int .i64 d.High, .int .i64 d.Holds, .slice (some ⟨g2, 0, none⟩) s1.n s1.n] 32)).cell? ⟨w2.heap.size, 3, none⟩ = some (.int .i64 d.Holds) := by simp [go_sem]
      have tb4 : (w2.alloc (.cells #[.int .i64 d.Id, .int .i64 d.Wide, .int .i64 d.High, .int .i64 d.Holds, .slice (some ⟨g2, 0, none⟩) s1.n s1.n] 32)).cell? ⟨w2.heap.size, 4, none⟩ = some (.slice (some ⟨g2, 0, none⟩) s1.n s1.n) := by simp [go_sem]
      have HI3 := hid (HI2.out.below hA3)
      have B3' := Below.on B3 B3.size hA3
      have tf0 := (hA3.cell n0).trans uf0
      have tf1 := (hA3.cell n0).trans uf1
      have tf2 := (hA3.cell n0).trans uf2
      have tf3 := (hA3.cell n0).trans uf3
      have td0 := (hA3.cell n1).trans ud0
      have td1 := (hA3.cell n1).trans ud1
      have td2 := (hA3.cell n1).trans ud2
      have td3 := (hA3.cell n1).trans ud3
      have td4 := (hA3.cell n1).trans ud4
      have o0 : w.heap.size < (w2.alloc (.cells #[.int .i64 d.Id, .int .i64 d.Wide, .int .i64 d.High, .int .i64 d.Holds, .slice (some ⟨g2, 0, none⟩) s1.n s1.n] 32)).heap.size := by simp; omega
      have o1 : w.heap.size + 1 < (w2.alloc (.cells #[.int .i64 d.Id, .int .i64 d.Wide, .int .i64 d.High, .int .i64 d.Holds, .slice (some ⟨g2, 0, none⟩) s1.n s1.n] 32)).heap.size := by simp; omega
      have o2 : w2.heap.size < (w2.alloc (.cells #[.int .i64 d.Id, .int .i64 d.Wide, .int .i64 d.High, .int .i64 d.Holds, .slice (some ⟨g2, 0, none⟩) s1.n s1.n] 32)).heap.size := by simp
      clear uf0 uf1 uf2 uf3 ud0 ud1 ud2 ud3 ud4 hA3
      obtain ⟨w3, hw3⟩ : ∃ W, (w2.alloc (.cells #[.int .i64 d.Id, .int .i64 d.Wide, .int .i64 d.High, .int .i64 d.Holds, .slice (some ⟨g2, 0, none⟩) s1.n s1.n] 32)) = W := ⟨_, rfl⟩
      obtain ⟨No, hNo⟩ : ∃ N, w2.heap.size = N := ⟨_, rfl⟩
      rw [hw3] at HI3 B3' o0 o1 o2 tf0 tf1 tf2 tf3 td0 td1 td2 td3 td4 tb0 tb1 tb2 tb3 tb4 ⊢
      rw [hNo] at o2 tb0 tb1 tb2 tb3 tb4 ⊢
      clear hw3 hNo
      go_cut [9, 10] from 26 (fun p q w' => p = .bool r1 ∧ q = .bool r2 ∧ Below w3.heap.size w3 w')
      case first =>
        go_region_with (first
          | (go_at_call 16; refine (toFlat_any s0 _).mono ?_; rintro e wf ⟨rfl, hbf⟩; (have BF : Below w3.heap.size w3 wf := by first | exact Below.on (Below.refl _ _) (Nat.le_refl _) hbf | exact Below.on (below_drewN (Below.refl _ _) 1) (Nat.le_refl _) hbf | exact Below.on (Below.refl _ _).drew (Nat.le_refl _) hbf); (have pb0 := (BF.cell o2).trans tb0); (have pb1 := (BF.cell o2).trans tb1); (have pb2 := (BF.cell o2).trans tb2); (have pb3 := (BF.cell o2).trans tb3); (have pb4 := (BF.cell o2).trans tb4))
          | (go_at_call 18; refine (doesFit_impl s0 d _ _ (by have := (HI3.out.below BF).has; rwa [hdl.out] at this) hlen.out).mono ?_; rw [HV.out, HB.out]; rintro e wx ⟨rfl, hbx⟩))
        all_goals (go_wp2_with fail; go_meet; exact ⟨rfl, rfl, by first | exact Below.on BF BF.size hbx⟩)
      case rest =>
        obtain ⟨rfl, rfl, BC⟩ := hcut
        have B4 := Below.on B3' B3'.size BC
        have q0 : w.heap.size < wc.heap.size := by have := BC.size; omega
        have q1 : w.heap.size + 1 < wc.heap.size := by have := BC.size; omega
        have q2 : No < wc.heap.size := by have := BC.size; omega
        have HI4 := hid (HI3.out.below BC)
        have HS4 := hid (HOK.out.below B4).1
        have vf0 := (BC.cell o0).trans tf0
        have vf1 := (BC.cell o0).trans tf1
        have vf2 := (BC.cell o0).trans tf2
        have vf3 := (BC.cell o0).trans tf3
        have vd0 := (BC.cell o1).trans td0
        have vd1 := (BC.cell o1).trans td1
        have vd2 := (BC.cell o1).trans td2
        have vd3 := (BC.cell o1).trans td3
        have vd4 := (BC.cell o1).trans td4
        have vb0 := (BC.cell o2).trans tb0
        have vb1 := (BC.cell o2).trans tb1
        have vb2 := (BC.cell o2).trans tb2
        have vb3 := (BC.cell o2).trans tb3
        have vb4 := (BC.cell o2).trans tb4
        clear tf0 tf1 tf2 tf3 td0 td1 td2 td3 td4 tb0 tb1 tb2 tb3 tb4 BC
        go_upto_region 10 with fail
        go_region_with (first
          | (go_at_call 17; refine (toDrawer_any s1 _ (by first | exact HS4.out) hn.out).mono ?_; rw [HDD.out]; rintro e wd ⟨g4, rfl, hg4, hbd, hI4⟩; (have BD : Below wc.heap.size wc wd := by first | exact Below.on (Below.refl _ _) (Nat.le_refl _) hbd | exact Below.on (below_drewN (Below.refl _ _) 1) (Nat.le_refl _) hbd | exact Below.on (Below.refl _ _).drew (Nat.le_refl _) hbd); (have hI4 := hid hI4); (have pb0 := (BD.cell q2).trans vb0); (have pb1 := (BD.cell q2).trans vb1); (have pb2 := (BD.cell q2).trans vb2); (have pb3 := (BD.cell q2).trans vb3); (have pb4 := (BD.cell q2).trans vb4))
          | (go_at_call 19; refine (eqDrawer_same d _ _ _ (by have := (HI4.out.below BD).has; rwa [hdl.out] at this) (by have := hI4.out.has; rwa [hdl.out] at this) hlen.out).mono ?_; rintro e wx ⟨rfl, hbx⟩; (have BX := Below.on BD BD.size hbx)))
        all_goals
          have B5 := Below.on B4 B4.size BX
          go_wp2_with fail
          go_ret
          exact ⟨rfl, B5⟩
  · have d0 : True := trivial
    rw [if_neg hs] at KZ
    go_enter Try.func3, Try.ntmps3
    go_wp2_with fail
    refine KZ.mono ?_
    rintro e w1 ⟨rfl, hb1⟩
    go_wp2_with fail
    go_ret
    exact ⟨rfl, Below.on hA hA.size hb1⟩

end Go.Proofs.Ytejpmomedclnhaa
