/-
  Whether flats and drawers are right, by the reference. No condition.
-/
import Derived.Test.YtejpmomedclnhaaDrawS3
namespace Go.Proofs.Ytejpmomedclnhaa
open Go.RowKit
set_option linter.unusedVariables false

theorem allI_of {p : Nat → Bool} {n : Nat} (h : ∀ i, i < n → p i = true) : allI p n = true := allI_true.2 h

set_option maxRecDepth 100000 in
set_option maxHeartbeats 8000000 in
theorem good_spec (b1 o1 m c1 b off n cap : Nat) (Y : Nat → FlatD) (X : Nat → DrawerD) (S : Nat → Value) (w : World) (h1 : Rw w b1 o1 4 m (fun i => (Y i).cells)) (hm1 : m ≤ 1048576) (hlc1 : m ≤ c1) (h : Drs w b off n X S) (hL : ∀ i, i < n → (X i).Flats.length ≤ 1048576) (hm : n ≤ 1048576) (hlc : n ≤ cap) :
    Calls Try.prog 60 #[.slice (some ⟨b1, o1, none⟩) m c1, .slice (some ⟨b, off, none⟩) n cap] w fun e w' => e = .returned (.bool (goodB Y m X n)) ∧ Below w.heap.size w w' := by
  have H1 := hid h1
  have hb1 := h1.1
  have H := hid h
  have HL := hid hL
  have hb := h.rw.1
  clear h1 h hL
  go_enter Try.func60, Try.ntmps60
  go_wp2
  go_loopw [5] (fun i wr => ∃ k : Nat, k ≤ n ∧ k ≤ 9 ∧ i = .int .i64 k ∧ Below w.heap.size w wr ∧ Hid (∀ i, i < k → refOk Y m X i = true)) (fun i _ => n - (intOf i).toNat)
  case atStart => exact ⟨0, by omega, by omega, rfl, Below.refl _ _, fun i hi => absurd hi (by omega)⟩
  case round =>
    obtain ⟨k, hk, hk9, rfl, hB, hf⟩ := hrel
    by_cases hlt : k < n
    · by_cases h8 : k ≤ 8
      · have h8i : (k : Int) ≤ 8 := by omega
        obtain ⟨f, nf, a, c, g, o, hfe, hfn, hSk, hc, ha, hcell⟩ := (H.out.has k hlt).named
        have HF := hid hfe
        have HFL := hid hfn
        have HA := hid ha
        have HC := hid hcell
        have HS := hid hSk
        clear hfe hfn ha hcell hSk
        have hnf : nf ≤ 1048576 := by have := HL.out k hlt; rw [HFL.out] at this; exact this
        have c0 : wr.cell? ⟨b, off + k * 5, none⟩ = some (.int .i64 (X k).Id) := (hB.cell hb).trans (H.out.rw.2 k hlt 0 (by omega))
        have c1' : wr.cell? ⟨b, off + k * 5 + 1, none⟩ = some (.int .i64 (X k).Wide) := (hB.cell hb).trans (H.out.rw.2 k hlt 1 (by omega))
        have c2 : wr.cell? ⟨b, off + k * 5 + 2, none⟩ = some (.int .i64 (X k).High) := (hB.cell hb).trans (H.out.rw.2 k hlt 2 (by omega))
        have c3 : wr.cell? ⟨b, off + k * 5 + 3, none⟩ = some (.int .i64 (X k).Holds) := (hB.cell hb).trans (H.out.rw.2 k hlt 3 (by omega))
        have c4 : wr.cell? ⟨b, off + k * 5 + 4, none⟩ = some (.slice a nf c) := by rw [← HS.out]; exact (hB.cell hb).trans (H.out.rw.2 k hlt 4 (by omega))
        have hA0 : Below wr.heap.size wr (wr.alloc (.cells #[.int .i64 (X k).Id, .int .i64 (X k).Wide, .int .i64 (X k).High, .int .i64 (X k).Holds, .slice a nf c] 32)) := by go_grown
        have hA : Below w.heap.size w (wr.alloc (.cells #[.int .i64 (X k).Id, .int .i64 (X k).Wide, .int .i64 (X k).High, .int .i64 (X k).Holds, .slice a nf c] 32)) := Below.on hB hB.size hA0
        have lb : b < wr.heap.size := by have := hB.size; omega
        have lb' : b < wr.heap.size + 1 := by omega
        have x0 : (wr.alloc (.cells #[.int .i64 (X k).Id, .int .i64 (X k).Wide, .int .i64 (X k).High, .int .i64 (X k).Holds, .slice a nf c] 32)).cell? ⟨wr.heap.size, 0, none⟩ = some (.int .i64 (X k).Id) := by simp [go_sem]
        have x1 : (wr.alloc (.cells #[.int .i64 (X k).Id, .int .i64 (X k).Wide, .int .i64 (X k).High, .int .i64 (X k).Holds, .slice a nf c] 32)).cell? ⟨wr.heap.size, 1, none⟩ = some (.int .i64 (X k).Wide) := by simp [go_sem]
        have x2 : (wr.alloc (.cells #[.int .i64 (X k).Id, .int .i64 (X k).Wide, .int .i64 (X k).High, .int .i64 (X k).Holds, .slice a nf c] 32)).cell? ⟨wr.heap.size, 2, none⟩ = some (.int .i64 (X k).High) := by simp [go_sem]
        have x3 : (wr.alloc (.cells #[.int .i64 (X k).Id, .int .i64 (X k).Wide, .int .i64 (X k).High, .int .i64 (X k).Holds, .slice a nf c] 32)).cell? ⟨wr.heap.size, 3, none⟩ = some (.int .i64 (X k).Holds) := by simp [go_sem]
        have x4 : (wr.alloc (.cells #[.int .i64 (X k).Id, .int .i64 (X k).Wide, .int .i64 (X k).High, .int .i64 (X k).Holds, .slice a nf c] 32)).cell? ⟨wr.heap.size, 4, none⟩ = some (.slice a nf c) := by simp [go_sem]
        obtain ⟨G, hG⟩ : ∃ G, gramsR Y m (X k) = G := ⟨_, rfl⟩
        obtain ⟨r3, hr3⟩ : ∃ r, inB G 0 (X k).Holds = r := ⟨_, rfl⟩
        obtain ⟨r1, hr1⟩ : ∃ r, drawerB (X k) = r := ⟨_, rfl⟩
        have hrok : Hid (refOk Y m X k = (r1 && (k == 0 || decide ((X (k - 1)).Id < (X k).Id)) && r3 && allI (fun j => whereI X k ((X k).Flats.getD j 0) == -1) (X k).Flats.length)) := by unfold Hid refOk; rw [hr1, hG, hr3]
        have K1 := hid (fun x : Later (wr.alloc (.cells #[.int .i64 (X k).Id, .int .i64 (X k).Wide, .int .i64 (X k).High, .int .i64 (X k).Holds, .slice a nf c] 32)) => calls_later (drawer_spec (X k) (.slice a nf c) x.wd (by have h9 := (((H.out.has k hlt).below hB).below hA0).below x.below; rw [HS.out] at h9; exact h9) (HL.out k hlt)))
        rw [hr1] at K1
        have K2 := hid (fun x : Later (wr.alloc (.cells #[.int .i64 (X k).Id, .int .i64 (X k).Wide, .int .i64 (X k).High, .int .i64 (X k).Holds, .slice a nf c] 32)) => calls_later (grams_spec b1 o1 m c1 Y (X k) (.slice a nf c) x.wd ((H1.out.below hA hb1).later' x.below) hm1 hlc1 (by have h9 := (((H.out.has k hlt).below hB).below hA0).below x.below; rw [HS.out] at h9; exact h9) (HL.out k hlt)))
        rw [hG] at K2
        have K3 := hid (fun x : Later (wr.alloc (.cells #[.int .i64 (X k).Id, .int .i64 (X k).Wide, .int .i64 (X k).High, .int .i64 (X k).Holds, .slice a nf c] 32)) => calls_later_same (in_spec G 0 (X k).Holds x.wd))
        rw [hr3] at K3
        clear hr1 hr3 hG
        cases r1 with
        | false =>
          have hok : Hid (refOk Y m X k = false) := by unfold Hid; rw [hrok.out]; rfl
          go_wp2_with fail
          have hq := fun x : Later (wr.alloc (.cells #[.int .i64 (X k).Id, .int .i64 (X k).Wide, .int .i64 (X k).High, .int .i64 (X k).Holds, .slice a nf c] 32)) => x.cell
          refine region_later (by kernel_rfl) (by kernel_rfl) ?_
          repeat (go_big_quiet_step (first | (go_at_call 54; refine (K1.out _)) | (go_at_call 71; refine (K2.out _)) | (go_at_call 89; refine (K3.out _))))
          refine wpQuiet_nil ?_
          intro _ hw'
          obtain ⟨x, rfl⟩ := hw'
          have hB1 : Below w.heap.size w x.wd := Below.on hA hA.size x.below
          clear hq
          go_wp2_with fail
          go_ret
          exact ⟨ret_bool (goodB_bad hlt hok.out).symm, hB1⟩
        | true =>
          by_cases h2 : 0 < k
          · have e0 : IntKind.i64.wrap ((k : Int) - 1) = (k : Int) - 1 := IntWalk.i64_in _ (by omega)
            have e1 : ((k : Int) - 1).toNat = k - 1 := by omega
            have e2 : (0 : Int) ≤ (k : Int) - 1 := by omega
            have e3 : (k : Int) - 1 < (n : Int) := by omega
            have d2 : decide ((0 : Int) < (k : Int)) = true := by simp; omega
            have p0 : (wr.alloc (.cells #[.int .i64 (X k).Id, .int .i64 (X k).Wide, .int .i64 (X k).High, .int .i64 (X k).Holds, .slice a nf c] 32)).cell? ⟨b, off + (k - 1) * 5, none⟩ = some (.int .i64 (X (k - 1)).Id) := (hA0.cell lb).trans ((hB.cell hb).trans (H.out.rw.2 (k - 1) (by omega) 0 (by omega)))
            by_cases h3 : (X (k - 1)).Id < (X k).Id
            · have d3 : decide ((X k).Id ≤ (X (k - 1)).Id) = false := by simp; omega
              have hord : Hid ((k == 0 || decide ((X (k - 1)).Id < (X k).Id)) = true) := by unfold Hid; simp [h3]
              clear h3
              cases r3 with
              | false =>
                have hok : Hid (refOk Y m X k = false) := by unfold Hid; rw [hrok.out]; simp
                go_wp2_with fail
                have hq := fun x : Later (wr.alloc (.cells #[.int .i64 (X k).Id, .int .i64 (X k).Wide, .int .i64 (X k).High, .int .i64 (X k).Holds, .slice a nf c] 32)) => x.cell
                refine region_later (by kernel_rfl) (by kernel_rfl) ?_
                repeat (go_big_quiet_step (first | (go_at_call 54; refine (K1.out _)) | (go_at_call 71; refine (K2.out _)) | (go_at_call 89; refine (K3.out _))))
                refine wpQuiet_nil ?_
                intro _ hw'
                obtain ⟨x, rfl⟩ := hw'
                have hB1 : Below w.heap.size w x.wd := Below.on hA hA.size x.below
                clear hq
                go_wp2_with fail
                go_ret
                exact ⟨ret_bool (goodB_bad hlt hok.out).symm, hB1⟩
              | true =>
                go_wp2_with fail
                have hq := fun x : Later (wr.alloc (.cells #[.int .i64 (X k).Id, .int .i64 (X k).Wide, .int .i64 (X k).High, .int .i64 (X k).Holds, .slice a nf c] 32)) => x.cell
                refine region_later (by kernel_rfl) (by kernel_rfl) ?_
                repeat (go_big_quiet_step (first | (go_at_call 54; refine (K1.out _)) | (go_at_call 71; refine (K2.out _)) | (go_at_call 89; refine (K3.out _))))
                refine wpQuiet_nil ?_
                intro _ hw'
                obtain ⟨x, rfl⟩ := hw'
                have hB1 : Below w.heap.size w x.wd := Below.on hA hA.size x.below
                clear hq
                skip
                have ub4 : x.wd.cell? ⟨wr.heap.size, 4, none⟩ = some (.slice a nf c) := (x.cell _ _ (by simp)).trans x4
                have lN : wr.heap.size < x.wd.heap.size := by have := x.size; simp at this; omega
                clear x0 x1 x2 x3 x4 c0 c1' c2 c3 c4
                obtain ⟨No, hNo⟩ : ∃ N, N = wr.heap.size := ⟨_, rfl⟩
                rw [← hNo] at ub4 lN ⊢
                clear hNo
                go_wp2_with fail
                go_loopw [7] (fun q wr => ∃ j : Nat, j ≤ nf ∧ q = .int .i64 j ∧ Below x.wd.heap.size x.wd wr ∧ Hid (∀ i, i < j → (whereI X k (f i) == -1) = true)) (fun q _ => nf - (intOf q).toNat)
                case atStart => exact ⟨0, by omega, rfl, Below.refl _ _, fun i hi => absurd hi (by omega)⟩
                case round =>
                  obtain ⟨j, hj, rfl, hB3, hf3⟩ := hrel
                  have B3 : Below w.heap.size w wr := Below.on hB1 hB1.size hB3
                  have y4 : wr.cell? ⟨No, 4, none⟩ = some (.slice a nf c) := (hB3.cell lN).trans ub4
                  have lN3 : No < wr.heap.size := by have := hB3.size; omega
                  by_cases hjl : j < nf
                  · obtain ⟨rfl, hg⟩ := HA.out (by omega)
                    have z0 : wr.cell? ⟨g, o + j, none⟩ = some (.int .i64 (f j)) := (B3.cell hg).trans (HC.out j hjl)
                    have lg : g < wr.heap.size := by have := B3.size; omega
                    have e5 : (0 : Int) ≤ (j : Int) := by omega
                    have e6 : (j : Int) < (nf : Int) := by omega
                    have e7 : (k : Int) ≤ (cap : Int) := by omega
                    have e9 : (k : Int) ≤ (n : Int) := by omega
                    have e10 : (0 : Int) ≤ (k : Int) := by omega
                    have K4 := hid (fun y : Later wr => calls_later_same (where_spec b off k cap X S (f j) y.wd (((H.out.below B3).below y.below).take (by omega)) (fun i hi => HL.out i (by omega)) (by omega) (by omega)))
                    rcases findI_cases (fun i => (X i).Flats.contains (f j)) k with hw | ⟨i, hi, hw, _⟩
                    · rw [show whereI X k (f j) = -1 from hw] at K4
                      have hok := hid (show (whereI X k (f j) == -1) = true by rw [show whereI X k (f j) = -1 from hw]; rfl)
                      clear hw
                      go_wp2_with fail
                      have hq := fun y : Later wr => y.cell
                      refine region_later (by kernel_rfl) (by kernel_rfl) ?_
                      repeat (go_big_quiet_step ((go_at_call 68; refine (K4.out _))))
                      refine wpQuiet_nil ?_
                      intro _ hw'
                      obtain ⟨y, rfl⟩ := hw'
                      clear hq
                      go_wp2_with fail
                      go_roundw
                      case rel => exact ⟨j + 1, by omega, by go_num, Below.on hB3 hB3.size y.below, fun i hi => by by_cases hik : i < j; exact hf3.out i hik; rw [show i = j by omega]; exact hok.out⟩
                      case measure => simp [intOf]; omega
                    · rw [show whereI X k (f j) = (i : Int) from hw] at K4
                      have hok : Hid (refOk Y m X k = false) := by
                        unfold Hid refOk
                        rw [allI_false (p := fun j => whereI X k ((X k).Flats.getD j 0) == -1) (k := j) (by rw [HFL.out]; exact hjl) (by rw [HF.out, show whereI X k (f j) = (i : Int) from hw]; simp)]
                        simp
                      have e8 : decide ((0 : Int) ≤ (i : Int)) = true := by simp
                      clear hw
                      go_wp2_with fail
                      have hq := fun y : Later wr => y.cell
                      refine region_later (by kernel_rfl) (by kernel_rfl) ?_
                      repeat (go_big_quiet_step ((go_at_call 68; refine (K4.out _))))
                      refine wpQuiet_nil ?_
                      intro _ hw'
                      obtain ⟨y, rfl⟩ := hw'
                      clear hq
                      go_wp2_with fail
                      go_ret
                      exact ⟨ret_bool (goodB_bad hlt hok.out).symm, Below.on B3 B3.size y.below⟩
                  · obtain rfl : j = nf := by omega
                    have hok : Hid (refOk Y m X k = true) := by
                      unfold Hid
                      rw [hrok.out, hord.out, allI_of (p := fun j => whereI X k ((X k).Flats.getD j 0) == -1) (n := (X k).Flats.length) (fun i hi => by rw [HF.out]; exact hf3.out i (by rw [← HFL.out]; exact hi))]
                      rfl
                    go_wp2_with fail
                    go_roundw
                    case rel => exact ⟨k + 1, by omega, by omega, by go_num, B3, fun i hi => by by_cases hik : i < k; exact hf.out i hik; rw [show i = k by omega]; exact hok.out⟩
                    case measure => simp [intOf]; omega
            · have d3 : decide ((X k).Id ≤ (X (k - 1)).Id) = true := by simp; omega
              have hok : Hid (refOk Y m X k = false) := by unfold Hid; rw [hrok.out, show (k == 0 || decide ((X (k - 1)).Id < (X k).Id)) = false by simp [h3]; omega]; simp
              clear h3
              go_wp2_with fail
              have hq := fun x : Later (wr.alloc (.cells #[.int .i64 (X k).Id, .int .i64 (X k).Wide, .int .i64 (X k).High, .int .i64 (X k).Holds, .slice a nf c] 32)) => x.cell
              refine region_later (by kernel_rfl) (by kernel_rfl) ?_
              repeat (go_big_quiet_step (first | (go_at_call 54; refine (K1.out _)) | (go_at_call 71; refine (K2.out _)) | (go_at_call 89; refine (K3.out _))))
              refine wpQuiet_nil ?_
              intro _ hw'
              obtain ⟨x, rfl⟩ := hw'
              have hB1 : Below w.heap.size w x.wd := Below.on hA hA.size x.below
              clear hq
              go_wp2_with fail
              go_ret
              exact ⟨ret_bool (goodB_bad hlt hok.out).symm, hB1⟩
          · have d2 : decide ((0 : Int) < (k : Int)) = false := by simp; omega
            have hord : Hid ((k == 0 || decide ((X (k - 1)).Id < (X k).Id)) = true) := by unfold Hid; rw [show (k == 0) = true by simp; omega]; rfl
            cases r3 with
            | false =>
              have hok : Hid (refOk Y m X k = false) := by unfold Hid; rw [hrok.out]; simp
              go_wp2_with fail
              have hq := fun x : Later (wr.alloc (.cells #[.int .i64 (X k).Id, .int .i64 (X k).Wide, .int .i64 (X k).High, .int .i64 (X k).Holds, .slice a nf c] 32)) => x.cell
              refine region_later (by kernel_rfl) (by kernel_rfl) ?_
              repeat (go_big_quiet_step (first | (go_at_call 54; refine (K1.out _)) | (go_at_call 71; refine (K2.out _)) | (go_at_call 89; refine (K3.out _))))
              refine wpQuiet_nil ?_
              intro _ hw'
              obtain ⟨x, rfl⟩ := hw'
              have hB1 : Below w.heap.size w x.wd := Below.on hA hA.size x.below
              clear hq
              go_wp2_with fail
              go_ret
              exact ⟨ret_bool (goodB_bad hlt hok.out).symm, hB1⟩
            | true =>
              go_wp2_with fail
              have hq := fun x : Later (wr.alloc (.cells #[.int .i64 (X k).Id, .int .i64 (X k).Wide, .int .i64 (X k).High, .int .i64 (X k).Holds, .slice a nf c] 32)) => x.cell
              refine region_later (by kernel_rfl) (by kernel_rfl) ?_
              repeat (go_big_quiet_step (first | (go_at_call 54; refine (K1.out _)) | (go_at_call 71; refine (K2.out _)) | (go_at_call 89; refine (K3.out _))))
              refine wpQuiet_nil ?_
              intro _ hw'
              obtain ⟨x, rfl⟩ := hw'
              have hB1 : Below w.heap.size w x.wd := Below.on hA hA.size x.below
              clear hq
              skip
              have ub4 : x.wd.cell? ⟨wr.heap.size, 4, none⟩ = some (.slice a nf c) := (x.cell _ _ (by simp)).trans x4
              have lN : wr.heap.size < x.wd.heap.size := by have := x.size; simp at this; omega
              clear x0 x1 x2 x3 x4 c0 c1' c2 c3 c4
              obtain ⟨No, hNo⟩ : ∃ N, N = wr.heap.size := ⟨_, rfl⟩
              rw [← hNo] at ub4 lN ⊢
              clear hNo
              go_wp2_with fail
              go_loopw [7] (fun q wr => ∃ j : Nat, j ≤ nf ∧ q = .int .i64 j ∧ Below x.wd.heap.size x.wd wr ∧ Hid (∀ i, i < j → (whereI X k (f i) == -1) = true)) (fun q _ => nf - (intOf q).toNat)
              case atStart => exact ⟨0, by omega, rfl, Below.refl _ _, fun i hi => absurd hi (by omega)⟩
              case round =>
                obtain ⟨j, hj, rfl, hB3, hf3⟩ := hrel
                have B3 : Below w.heap.size w wr := Below.on hB1 hB1.size hB3
                have y4 : wr.cell? ⟨No, 4, none⟩ = some (.slice a nf c) := (hB3.cell lN).trans ub4
                have lN3 : No < wr.heap.size := by have := hB3.size; omega
                by_cases hjl : j < nf
                · obtain ⟨rfl, hg⟩ := HA.out (by omega)
                  have z0 : wr.cell? ⟨g, o + j, none⟩ = some (.int .i64 (f j)) := (B3.cell hg).trans (HC.out j hjl)
                  have lg : g < wr.heap.size := by have := B3.size; omega
                  have e5 : (0 : Int) ≤ (j : Int) := by omega
                  have e6 : (j : Int) < (nf : Int) := by omega
                  have e7 : (k : Int) ≤ (cap : Int) := by omega
                  have e9 : (k : Int) ≤ (n : Int) := by omega
                  have e10 : (0 : Int) ≤ (k : Int) := by omega
                  have K4 := hid (fun y : Later wr => calls_later_same (where_spec b off k cap X S (f j) y.wd (((H.out.below B3).below y.below).take (by omega)) (fun i hi => HL.out i (by omega)) (by omega) (by omega)))
                  rcases findI_cases (fun i => (X i).Flats.contains (f j)) k with hw | ⟨i, hi, hw, _⟩
                  · rw [show whereI X k (f j) = -1 from hw] at K4
                    have hok := hid (show (whereI X k (f j) == -1) = true by rw [show whereI X k (f j) = -1 from hw]; rfl)
                    clear hw
                    go_wp2_with fail
                    have hq := fun y : Later wr => y.cell
                    refine region_later (by kernel_rfl) (by kernel_rfl) ?_
                    repeat (go_big_quiet_step ((go_at_call 68; refine (K4.out _))))
                    refine wpQuiet_nil ?_
                    intro _ hw'
                    obtain ⟨y, rfl⟩ := hw'
                    clear hq
                    go_wp2_with fail
                    go_roundw
                    case rel => exact ⟨j + 1, by omega, by go_num, Below.on hB3 hB3.size y.below, fun i hi => by by_cases hik : i < j; exact hf3.out i hik; rw [show i = j by omega]; exact hok.out⟩
                    case measure => simp [intOf]; omega
                  · exact absurd hi (by omega)
                · obtain rfl : j = nf := by omega
                  have hok : Hid (refOk Y m X k = true) := by
                    unfold Hid
                    rw [hrok.out, hord.out, allI_of (p := fun j => whereI X k ((X k).Flats.getD j 0) == -1) (n := (X k).Flats.length) (fun i hi => by rw [HF.out]; exact hf3.out i (by rw [← HFL.out]; exact hi))]
                    rfl
                  go_wp2_with fail
                  go_roundw
                  case rel => exact ⟨k + 1, by omega, by omega, by go_num, B3, fun i hi => by by_cases hik : i < k; exact hf.out i hik; rw [show i = k by omega]; exact hok.out⟩
                  case measure => simp [intOf]; omega
      · have h8i : ¬ (k : Int) ≤ 8 := by omega
        have h8n : decide ((n : Int) ≤ 8) = false := by simp; omega
        have K := flats_spec wr b1 o1 m c1 Y (H1.out.below hB hb1) hm1 hlc1
        have hres : Hid (goodB Y m X n = false) := goodB_long (by omega)
        obtain ⟨r, hr⟩ : ∃ r, flatsB Y m = r := ⟨_, rfl⟩
        rw [hr] at K
        clear hr
        go_wp2_with fail
        refine K.mono ?_
        rintro e w1 ⟨rfl, hb⟩
        cases r with
        | true =>
          go_wp2_with fail
          go_ret
          exact ⟨ret_bool hres.out.symm, Below.on hB hB.size hb⟩
        | false =>
          go_wp2_with fail
          go_ret
          exact ⟨ret_bool hres.out.symm, Below.on hB hB.size hb⟩
    · obtain rfl : k = n := by omega
      have K := flats_spec wr b1 o1 m c1 Y (H1.out.below hB hb1) hm1 hlc1
      obtain ⟨r, hr⟩ : ∃ r, flatsB Y m = r := ⟨_, rfl⟩
      rw [hr] at K
      have HR := hid hr
      clear hr
      by_cases h8 : k ≤ 8
      · have h8i : decide ((k : Int) ≤ 8) = true := by simp; omega
        have hres : Hid (goodB Y m X k = r) := (goodB_end h8 hf.out).trans HR.out
        go_wp2_with fail
        refine K.mono ?_
        rintro e w1 ⟨rfl, hb⟩
        cases r with
        | true =>
          go_wp2_with fail
          go_ret
          exact ⟨ret_bool hres.out.symm, Below.on hB hB.size hb⟩
        | false =>
          go_wp2_with fail
          go_ret
          exact ⟨ret_bool hres.out.symm, Below.on hB hB.size hb⟩
      · have h8i : decide ((k : Int) ≤ 8) = false := by simp; omega
        have hres : Hid (goodB Y m X k = false) := goodB_long h8
        go_wp2_with fail
        refine K.mono ?_
        rintro e w1 ⟨rfl, hb⟩
        cases r with
        | true =>
          go_wp2_with fail
          go_ret
          exact ⟨ret_bool hres.out.symm, Below.on hB hB.size hb⟩
        | false =>
          go_wp2_with fail
          go_ret
          exact ⟨ret_bool hres.out.symm, Below.on hB hB.size hb⟩

end Go.Proofs.Ytejpmomedclnhaa
