/-
  Whether flats and drawers are right, by the program. No condition.
-/
import Derived.Test.YtejpmomedclnhaaDrawI2
namespace Go.Proofs.Ytejpmomedclnhaa
open Go.RowKit
set_option linter.unusedVariables false

theorem areDrawers_1 (w : World) (b off n cap k : Nat) (X : Nat → DrawerD) (S : Nat → Value) (id : Int) (b1 b2 : Nat) (h : Drs w b off n X S) (hL : ∀ i, i < n → (X i).Flats.length ≤ 1048576) (hm : n ≤ 1048576) (hlc : n ≤ cap) (h1 : w.cell? ⟨b1, 0, none⟩ = some (.slice (some ⟨b, off, none⟩) n cap)) (l1 : b1 < w.heap.size) (h2 : w.cell? ⟨b2, 0, none⟩ = some (.int .i64 (k : Int))) (l2 : b2 < w.heap.size) :
    Calls Try.prog 64 #[.int .i64 id, .pointer (some ⟨b1, 0, none⟩), .pointer (some ⟨b2, 0, none⟩)] w fun e w' => e = .returned (.bool (whereI X n id != (k : Int))) ∧ Below w.heap.size w w' := by
  have K := hid (fun x : Later w => calls_later (drawerWith_impl x.wd b off n cap X S id (h.below x.below) hL hm hlc))
  obtain ⟨r, hr⟩ : ∃ r, whereI X n id = r := ⟨_, rfl⟩
  rw [hr] at K ⊢
  clear hr h
  go_enter Try.func64, Try.ntmps64
  go_wp2
  have hq := fun x : Later w => x.cell
  refine region_later (by kernel_rfl) (by kernel_rfl) ?_
  repeat (go_big_quiet_step ((go_at_call 65; refine (K.out _))))
  refine wpQuiet_nil ?_
  intro _ hw'
  obtain ⟨x, rfl⟩ := hw'
  go_wp2_with fail
  go_ret
  exact ⟨rfl, x.below⟩

theorem goodB_bad' {Y : Nat → FlatD} {m : Nat} {X : Nat → DrawerD} {n k : Nat} (hY : flatsB Y m = true) (hk : k < n) (h : impOk Y m X n k = false) : goodB Y m X n = false := goodB_bad hk ((ok_same hY hk).trans h)
theorem goodB_end' {Y : Nat → FlatD} {m : Nat} {X : Nat → DrawerD} {n : Nat} (h8 : n ≤ 8) (hY : flatsB Y m = true) (h : ∀ i, i < n → impOk Y m X n i = true) : goodB Y m X n = true := (goodB_end h8 fun i hi => (ok_same hY hi).trans (h i hi)).trans hY

set_option maxRecDepth 100000 in
set_option maxHeartbeats 8000000 in
theorem good_impl (b1 o1 m c1 b off n cap : Nat) (Y : Nat → FlatD) (X : Nat → DrawerD) (S : Nat → Value) (w : World) (h1 : Rw w b1 o1 4 m (fun i => (Y i).cells)) (hm1 : m ≤ 1048576) (hlc1 : m ≤ c1) (h : Drs w b off n X S) (hL : ∀ i, i < n → (X i).Flats.length ≤ 1048576) (hm : n ≤ 1048576) (hlc : n ≤ cap) :
    Calls Try.prog 25 #[.slice (some ⟨b1, o1, none⟩) m c1, .slice (some ⟨b, off, none⟩) n cap] w fun e w' => e = .returned (.bool (goodB Y m X n)) ∧ Below w.heap.size w w' := by
  have H1 := hid h1
  have hb1 := h1.1
  have H := hid h
  have HL := hid hL
  have hb := h.rw.1
  clear h1 h hL
  have hA00 : Below w.heap.size w (w.alloc (.cells #[.slice (some ⟨b, off, none⟩) n cap] 43)) := by go_grown
  have KF := flats_impl (w.alloc (.cells #[.slice (some ⟨b, off, none⟩) n cap] 43)) b1 o1 m c1 Y (H1.out.below hA00 hb1) hm1 hlc1
  obtain ⟨r, hr⟩ : ∃ r, flatsB Y m = r := ⟨_, rfl⟩
  rw [hr] at KF
  cases r with
  | false =>
    have hres := hid (goodB_noflats (X := X) (n := n) hr)
    clear hr
    go_enter Try.func25, Try.ntmps25
    go_wp2_with fail
    refine KF.mono ?_
    rintro e w0 ⟨rfl, hb0⟩
    have B0 : Below w.heap.size w w0 := Below.on hA00 hA00.size hb0
    have t0 : w0.cell? ⟨w.heap.size, 0, none⟩ = some (.slice (some ⟨b, off, none⟩) n cap) := (hb0.cell (by simp)).trans (by simp [go_sem])
    go_wp2_with fail
    go_ret
    exact ⟨ret_bool hres.out.symm, B0⟩
  | true =>
    have HY := hid hr
    clear hr
    by_cases h8 : n ≤ 8
    · have h8i : decide ((8 : Int) < (n : Int)) = false := by simp; omega
      go_enter Try.func25, Try.ntmps25
      go_wp2_with fail
      refine KF.mono ?_
      rintro e w0 ⟨rfl, hb0⟩
      have B0 : Below w.heap.size w w0 := Below.on hA00 hA00.size hb0
      have t0 : w0.cell? ⟨w.heap.size, 0, none⟩ = some (.slice (some ⟨b, off, none⟩) n cap) := (hb0.cell (by simp)).trans (by simp [go_sem])
      go_wp2_with fail
      clear t0 hA00
      go_loopw [17] (fun i wr => ∃ k : Nat, k ≤ n ∧ i = .int .i64 k ∧ Below w.heap.size w wr ∧ Below (w.alloc (.cells #[.slice (some ⟨b, off, none⟩) n cap] 43)).heap.size (w.alloc (.cells #[.slice (some ⟨b, off, none⟩) n cap] 43)) wr ∧ Hid (∀ i, i < k → impOk Y m X n i = true)) (fun i _ => n - (intOf i).toNat)
      case atStart => exact ⟨0, by omega, rfl, B0, hb0, fun i hi => absurd hi (by omega)⟩
      case round =>
        obtain ⟨k, hk, rfl, hB, hW, hf⟩ := hrel
        clear B0 hb0
        have lw : w.heap.size < wr.heap.size := by have := hW.size; simp at this; omega
        by_cases hlt : k < n
        · obtain ⟨f, nf, a, c, g, o, hfe, hfn, hSk, hc, ha, hcell⟩ := (H.out.has k hlt).named
          have HS := hid hSk
          clear hfe hfn ha hcell hSk hc
          have c0 : wr.cell? ⟨b, off + k * 5, none⟩ = some (.int .i64 (X k).Id) := (hB.cell hb).trans (H.out.rw.2 k hlt 0 (by omega))
          have c1' : wr.cell? ⟨b, off + k * 5 + 1, none⟩ = some (.int .i64 (X k).Wide) := (hB.cell hb).trans (H.out.rw.2 k hlt 1 (by omega))
          have c2 : wr.cell? ⟨b, off + k * 5 + 2, none⟩ = some (.int .i64 (X k).High) := (hB.cell hb).trans (H.out.rw.2 k hlt 2 (by omega))
          have c3 : wr.cell? ⟨b, off + k * 5 + 3, none⟩ = some (.int .i64 (X k).Holds) := (hB.cell hb).trans (H.out.rw.2 k hlt 3 (by omega))
          have c4 : wr.cell? ⟨b, off + k * 5 + 4, none⟩ = some (.slice a nf c) := by rw [← HS.out]; exact (hB.cell hb).trans (H.out.rw.2 k hlt 4 (by omega))
          have hA0 : Below wr.heap.size wr ((wr.alloc (.cells #[.int .i64 (k : Int)] 3)).alloc (.cells #[.int .i64 (X k).Id, .int .i64 (X k).Wide, .int .i64 (X k).High, .int .i64 (X k).Holds, .slice a nf c] 32)) := by go_grown
          have hA : Below w.heap.size w ((wr.alloc (.cells #[.int .i64 (k : Int)] 3)).alloc (.cells #[.int .i64 (X k).Id, .int .i64 (X k).Wide, .int .i64 (X k).High, .int .i64 (X k).Holds, .slice a nf c] 32)) := Below.on hB hB.size hA0
          have hAW := Below.on hW hW.size hA0
          have lb : b < wr.heap.size := by have := hB.size; omega
          have lb' : b < wr.heap.size + 1 + 1 := by omega
          have s0 : ((wr.alloc (.cells #[.int .i64 (k : Int)] 3)).alloc (.cells #[.int .i64 (X k).Id, .int .i64 (X k).Wide, .int .i64 (X k).High, .int .i64 (X k).Holds, .slice a nf c] 32)).cell? ⟨w.heap.size, 0, none⟩ = some (.slice (some ⟨b, off, none⟩) n cap) := (hAW.cell (by simp)).trans (by simp [go_sem])
          have k0 : ((wr.alloc (.cells #[.int .i64 (k : Int)] 3)).alloc (.cells #[.int .i64 (X k).Id, .int .i64 (X k).Wide, .int .i64 (X k).High, .int .i64 (X k).Holds, .slice a nf c] 32)).cell? ⟨wr.heap.size, 0, none⟩ = some (.int .i64 (k : Int)) := by simp [go_sem]
          have x0 : ((wr.alloc (.cells #[.int .i64 (k : Int)] 3)).alloc (.cells #[.int .i64 (X k).Id, .int .i64 (X k).Wide, .int .i64 (X k).High, .int .i64 (X k).Holds, .slice a nf c] 32)).cell? ⟨wr.heap.size + 1, 0, none⟩ = some (.int .i64 (X k).Id) := by simp [go_sem]
          have x1 : ((wr.alloc (.cells #[.int .i64 (k : Int)] 3)).alloc (.cells #[.int .i64 (X k).Id, .int .i64 (X k).Wide, .int .i64 (X k).High, .int .i64 (X k).Holds, .slice a nf c] 32)).cell? ⟨wr.heap.size + 1, 1, none⟩ = some (.int .i64 (X k).Wide) := by simp [go_sem]
          have x2 : ((wr.alloc (.cells #[.int .i64 (k : Int)] 3)).alloc (.cells #[.int .i64 (X k).Id, .int .i64 (X k).Wide, .int .i64 (X k).High, .int .i64 (X k).Holds, .slice a nf c] 32)).cell? ⟨wr.heap.size + 1, 2, none⟩ = some (.int .i64 (X k).High) := by simp [go_sem]
          have x3 : ((wr.alloc (.cells #[.int .i64 (k : Int)] 3)).alloc (.cells #[.int .i64 (X k).Id, .int .i64 (X k).Wide, .int .i64 (X k).High, .int .i64 (X k).Holds, .slice a nf c] 32)).cell? ⟨wr.heap.size + 1, 3, none⟩ = some (.int .i64 (X k).Holds) := by simp [go_sem]
          have x4 : ((wr.alloc (.cells #[.int .i64 (k : Int)] 3)).alloc (.cells #[.int .i64 (X k).Id, .int .i64 (X k).Wide, .int .i64 (X k).High, .int .i64 (X k).Holds, .slice a nf c] 32)).cell? ⟨wr.heap.size + 1, 4, none⟩ = some (.slice a nf c) := by simp [go_sem]
          have ls : w.heap.size < wr.heap.size + 1 + 1 := by omega
          obtain ⟨r1, hr1⟩ : ∃ r, drawerB (X k) = r := ⟨_, rfl⟩
          obtain ⟨r2, hr2⟩ : ∃ r, rightB Y m (X k) = r := ⟨_, rfl⟩
          have hrok : Hid (impOk Y m X n k = (r1 && r2 && (k == 0 || decide ((X (k - 1)).Id < (X k).Id)) && allI (fun j => whereI X n ((X k).Flats.getD j 0) == (k : Int)) (X k).Flats.length)) := by unfold Hid impOk; rw [hr1, hr2]
          have K1 := hid (fun x : Later ((wr.alloc (.cells #[.int .i64 (k : Int)] 3)).alloc (.cells #[.int .i64 (X k).Id, .int .i64 (X k).Wide, .int .i64 (X k).High, .int .i64 (X k).Holds, .slice a nf c] 32)) => calls_later (drawer_impl (X k) (.slice a nf c) x.wd (by have h9 := (((H.out.has k hlt).below hB).below hA0).below x.below; rw [HS.out] at h9; exact h9) (HL.out k hlt)))
          rw [hr1] at K1
          have K2 := hid (fun x : Later ((wr.alloc (.cells #[.int .i64 (k : Int)] 3)).alloc (.cells #[.int .i64 (X k).Id, .int .i64 (X k).Wide, .int .i64 (X k).High, .int .i64 (X k).Holds, .slice a nf c] 32)) => calls_later (right_impl b1 o1 m c1 Y (X k) (.slice a nf c) x.wd ((H1.out.below hA hb1).later' x.below) hm1 hlc1 (by have h9 := (((H.out.has k hlt).below hB).below hA0).below x.below; rw [HS.out] at h9; exact h9) (HL.out k hlt)))
          rw [hr2] at K2
          clear hr1 hr2
          cases r1 with
          | false =>
            have hok : Hid (impOk Y m X n k = false) := by unfold Hid; rw [hrok.out]; rfl
            go_wp2_with fail
            have hq := fun x : Later ((wr.alloc (.cells #[.int .i64 (k : Int)] 3)).alloc (.cells #[.int .i64 (X k).Id, .int .i64 (X k).Wide, .int .i64 (X k).High, .int .i64 (X k).Holds, .slice a nf c] 32)) => x.cell
            refine region_later (by kernel_rfl) (by kernel_rfl) ?_
            repeat (go_big_quiet_step (first | (go_at_call 58; refine (K1.out _)) | (go_at_call 62; refine (K2.out _))))
            refine wpQuiet_nil ?_
            intro _ hw'
            obtain ⟨x, rfl⟩ := hw'
            have hB1 : Below w.heap.size w x.wd := Below.on hA hA.size x.below
            clear hq
            go_wp2_with fail
            go_ret
            exact ⟨ret_bool (goodB_bad' HY.out hlt hok.out).symm, hB1⟩
          | true =>
            cases r2 with
            | false =>
              have hok : Hid (impOk Y m X n k = false) := by unfold Hid; rw [hrok.out]; rfl
              go_wp2_with fail
              have hq := fun x : Later ((wr.alloc (.cells #[.int .i64 (k : Int)] 3)).alloc (.cells #[.int .i64 (X k).Id, .int .i64 (X k).Wide, .int .i64 (X k).High, .int .i64 (X k).Holds, .slice a nf c] 32)) => x.cell
              refine region_later (by kernel_rfl) (by kernel_rfl) ?_
              repeat (go_big_quiet_step (first | (go_at_call 58; refine (K1.out _)) | (go_at_call 62; refine (K2.out _))))
              refine wpQuiet_nil ?_
              intro _ hw'
              obtain ⟨x, rfl⟩ := hw'
              have hB1 : Below w.heap.size w x.wd := Below.on hA hA.size x.below
              clear hq
              go_wp2_with fail
              go_ret
              exact ⟨ret_bool (goodB_bad' HY.out hlt hok.out).symm, hB1⟩
            | true =>
              by_cases h2 : 0 < k
              · have e0 : IntKind.i64.wrap ((k : Int) - 1) = (k : Int) - 1 := IntWalk.i64_in _ (by omega)
                have e1 : ((k : Int) - 1).toNat = k - 1 := by omega
                have e2 : (0 : Int) ≤ (k : Int) - 1 := by omega
                have e3 : (k : Int) - 1 < (n : Int) := by omega
                have d2 : decide ((0 : Int) < (k : Int)) = true := by simp; omega
                have p0 : ((wr.alloc (.cells #[.int .i64 (k : Int)] 3)).alloc (.cells #[.int .i64 (X k).Id, .int .i64 (X k).Wide, .int .i64 (X k).High, .int .i64 (X k).Holds, .slice a nf c] 32)).cell? ⟨b, off + (k - 1) * 5, none⟩ = some (.int .i64 (X (k - 1)).Id) := (hA0.cell lb).trans ((hB.cell hb).trans (H.out.rw.2 (k - 1) (by omega) 0 (by omega)))
                by_cases h3 : (X (k - 1)).Id < (X k).Id
                · have d3 : decide ((X k).Id ≤ (X (k - 1)).Id) = false := by simp; omega
                  have hord : Hid ((k == 0 || decide ((X (k - 1)).Id < (X k).Id)) = true) := by unfold Hid; simp [h3]
                  clear h3
                  go_wp2_with fail
                  have hq := fun x : Later ((wr.alloc (.cells #[.int .i64 (k : Int)] 3)).alloc (.cells #[.int .i64 (X k).Id, .int .i64 (X k).Wide, .int .i64 (X k).High, .int .i64 (X k).Holds, .slice a nf c] 32)) => x.cell
                  refine region_later (by kernel_rfl) (by kernel_rfl) ?_
                  repeat (go_big_quiet_step (first | (go_at_call 58; refine (K1.out _)) | (go_at_call 62; refine (K2.out _))))
                  refine wpQuiet_nil ?_
                  intro _ hw'
                  obtain ⟨x, rfl⟩ := hw'
                  have hB1 : Below w.heap.size w x.wd := Below.on hA hA.size x.below
                  clear hq
                  skip
                  have u4 : x.wd.cell? ⟨wr.heap.size + 1, 4, none⟩ = some (.slice a nf c) := (x.cell _ _ (by simp)).trans x4
                  have lN : wr.heap.size + 1 < x.wd.heap.size := by have := x.size; simp at this; omega
                  have hWx := Below.on hAW hAW.size x.below
                  have KC := containsF_int x.wd (.slice a nf c) (X k).Flats 64 #[.pointer (some ⟨w.heap.size, 0, none⟩), .pointer (some ⟨wr.heap.size, 0, none⟩)] (fun j => whereI X n ((X k).Flats.getD j 0) != (k : Int)) (fun _ _ => by kernel_rfl) (by have h9 := (((H.out.has k hlt).below hB).below hA0).below x.below; rw [HS.out] at h9; exact h9) (HL.out k hlt) (fun y i hi => by
                    refine areDrawers_1 y.wd b off n cap k X S _ w.heap.size wr.heap.size (((H.out.below hB1).below y.below)) HL.out (by omega) (by omega) ((y.cell _ _ ?_).trans ?_) ?_ ((y.cell _ _ ?_).trans ((x.cell _ _ ?_).trans ?_)) ?_
                    · have := hB1.size; have := lN; omega
                    · exact (hWx.cell (by simp)).trans (by simp [go_sem])
                    · have := y.size; omega
                    · omega
                    · simp; omega
                    · simp [go_sem]
                    · have := y.size; omega)
                  rcases findI_cases (fun j => whereI X n ((X k).Flats.getD j 0) != (k : Int)) (X k).Flats.length with hw | ⟨j, hj, hw, hpj⟩
                  · rw [hw] at KC
                    have hok : Hid (impOk Y m X n k = true) := by
                      unfold Hid
                      rw [hrok.out, hord.out, allI_of (p := fun j => whereI X n ((X k).Flats.getD j 0) == (k : Int)) (n := (X k).Flats.length) (fun i hi => by have := findI_none hw i hi; simpa using this)]
                      rfl
                    clear hw
                    go_wp2_with fail
                    refine KC.mono ?_
                    rintro e w3 ⟨rfl, hb3⟩
                    go_wp2_with fail
                    go_roundw
                    case rel => exact ⟨k + 1, by omega, by go_num, Below.on hB1 hB1.size hb3, Below.on hWx hWx.size hb3, fun i hi => by by_cases hik : i < k; exact hf.out i hik; rw [show i = k by omega]; exact hok.out⟩
                    case measure => simp [intOf]; omega
                  · rw [hw] at KC
                    have hok : Hid (impOk Y m X n k = false) := by
                      unfold Hid
                      rw [hrok.out, allI_false (p := fun j => whereI X n ((X k).Flats.getD j 0) == (k : Int)) hj (by simpa using hpj)]
                      simp
                    have e8 : decide ((0 : Int) ≤ (j : Int)) = true := by simp
                    rw [e8] at KC
                    clear hw hpj
                    go_wp2_with fail
                    refine KC.mono ?_
                    rintro e w3 ⟨rfl, hb3⟩
                    go_wp2_with fail
                    go_ret
                    exact ⟨ret_bool (goodB_bad' HY.out hlt hok.out).symm, Below.on hB1 hB1.size hb3⟩
                · have d3 : decide ((X k).Id ≤ (X (k - 1)).Id) = true := by simp; omega
                  have hok : Hid (impOk Y m X n k = false) := by unfold Hid; rw [hrok.out, show (k == 0 || decide ((X (k - 1)).Id < (X k).Id)) = false by simp [h3]; omega]; simp
                  clear h3
                  go_wp2_with fail
                  have hq := fun x : Later ((wr.alloc (.cells #[.int .i64 (k : Int)] 3)).alloc (.cells #[.int .i64 (X k).Id, .int .i64 (X k).Wide, .int .i64 (X k).High, .int .i64 (X k).Holds, .slice a nf c] 32)) => x.cell
                  refine region_later (by kernel_rfl) (by kernel_rfl) ?_
                  repeat (go_big_quiet_step (first | (go_at_call 58; refine (K1.out _)) | (go_at_call 62; refine (K2.out _))))
                  refine wpQuiet_nil ?_
                  intro _ hw'
                  obtain ⟨x, rfl⟩ := hw'
                  have hB1 : Below w.heap.size w x.wd := Below.on hA hA.size x.below
                  clear hq
                  go_wp2_with fail
                  go_ret
                  exact ⟨ret_bool (goodB_bad' HY.out hlt hok.out).symm, hB1⟩
              · have d2 : decide ((0 : Int) < (k : Int)) = false := by simp; omega
                have hord : Hid ((k == 0 || decide ((X (k - 1)).Id < (X k).Id)) = true) := by unfold Hid; rw [show (k == 0) = true by simp; omega]; rfl
                go_wp2_with fail
                have hq := fun x : Later ((wr.alloc (.cells #[.int .i64 (k : Int)] 3)).alloc (.cells #[.int .i64 (X k).Id, .int .i64 (X k).Wide, .int .i64 (X k).High, .int .i64 (X k).Holds, .slice a nf c] 32)) => x.cell
                refine region_later (by kernel_rfl) (by kernel_rfl) ?_
                repeat (go_big_quiet_step (first | (go_at_call 58; refine (K1.out _)) | (go_at_call 62; refine (K2.out _))))
                refine wpQuiet_nil ?_
                intro _ hw'
                obtain ⟨x, rfl⟩ := hw'
                have hB1 : Below w.heap.size w x.wd := Below.on hA hA.size x.below
                clear hq
                skip
                have u4 : x.wd.cell? ⟨wr.heap.size + 1, 4, none⟩ = some (.slice a nf c) := (x.cell _ _ (by simp)).trans x4
                have lN : wr.heap.size + 1 < x.wd.heap.size := by have := x.size; simp at this; omega
                have hWx := Below.on hAW hAW.size x.below
                have KC := containsF_int x.wd (.slice a nf c) (X k).Flats 64 #[.pointer (some ⟨w.heap.size, 0, none⟩), .pointer (some ⟨wr.heap.size, 0, none⟩)] (fun j => whereI X n ((X k).Flats.getD j 0) != (k : Int)) (fun _ _ => by kernel_rfl) (by have h9 := (((H.out.has k hlt).below hB).below hA0).below x.below; rw [HS.out] at h9; exact h9) (HL.out k hlt) (fun y i hi => by
                  refine areDrawers_1 y.wd b off n cap k X S _ w.heap.size wr.heap.size (((H.out.below hB1).below y.below)) HL.out (by omega) (by omega) ((y.cell _ _ ?_).trans ?_) ?_ ((y.cell _ _ ?_).trans ((x.cell _ _ ?_).trans ?_)) ?_
                  · have := hB1.size; have := lN; omega
                  · exact (hWx.cell (by simp)).trans (by simp [go_sem])
                  · have := y.size; omega
                  · omega
                  · simp; omega
                  · simp [go_sem]
                  · have := y.size; omega)
                rcases findI_cases (fun j => whereI X n ((X k).Flats.getD j 0) != (k : Int)) (X k).Flats.length with hw | ⟨j, hj, hw, hpj⟩
                · rw [hw] at KC
                  have hok : Hid (impOk Y m X n k = true) := by
                    unfold Hid
                    rw [hrok.out, hord.out, allI_of (p := fun j => whereI X n ((X k).Flats.getD j 0) == (k : Int)) (n := (X k).Flats.length) (fun i hi => by have := findI_none hw i hi; simpa using this)]
                    rfl
                  clear hw
                  go_wp2_with fail
                  refine KC.mono ?_
                  rintro e w3 ⟨rfl, hb3⟩
                  go_wp2_with fail
                  go_roundw
                  case rel => exact ⟨k + 1, by omega, by go_num, Below.on hB1 hB1.size hb3, Below.on hWx hWx.size hb3, fun i hi => by by_cases hik : i < k; exact hf.out i hik; rw [show i = k by omega]; exact hok.out⟩
                  case measure => simp [intOf]; omega
                · rw [hw] at KC
                  have hok : Hid (impOk Y m X n k = false) := by
                    unfold Hid
                    rw [hrok.out, allI_false (p := fun j => whereI X n ((X k).Flats.getD j 0) == (k : Int)) hj (by simpa using hpj)]
                    simp
                  have e8 : decide ((0 : Int) ≤ (j : Int)) = true := by simp
                  rw [e8] at KC
                  clear hw hpj
                  go_wp2_with fail
                  refine KC.mono ?_
                  rintro e w3 ⟨rfl, hb3⟩
                  go_wp2_with fail
                  go_ret
                  exact ⟨ret_bool (goodB_bad' HY.out hlt hok.out).symm, Below.on hB1 hB1.size hb3⟩
        · obtain rfl : k = n := by omega
          have hres := hid (goodB_end' h8 HY.out hf.out)
          go_wp2_with fail
          go_ret
          exact ⟨ret_bool hres.out.symm, hB⟩
    · have h8i : decide ((8 : Int) < (n : Int)) = true := by simp; omega
      have hres := hid (goodB_long (Y := Y) (m := m) (X := X) h8)
      go_enter Try.func25, Try.ntmps25
      go_wp2_with fail
      refine KF.mono ?_
      rintro e w0 ⟨rfl, hb0⟩
      have B0 : Below w.heap.size w w0 := Below.on hA00 hA00.size hb0
      have t0 : w0.cell? ⟨w.heap.size, 0, none⟩ = some (.slice (some ⟨b, off, none⟩) n cap) := (hb0.cell (by simp)).trans (by simp [go_sem])
      go_wp2_with fail
      go_ret
      exact ⟨ret_bool hres.out.symm, B0⟩

end Go.Proofs.Ytejpmomedclnhaa
