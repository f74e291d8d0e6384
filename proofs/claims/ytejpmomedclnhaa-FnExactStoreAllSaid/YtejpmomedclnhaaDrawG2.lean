/-
  The smallest drawer for a flat, by the program. No condition.
-/
import Derived.Test.YtejpmomedclnhaaDrawG
import Derived.BigQuiet
import Derived.Deep.QuietTactic
namespace Go.Proofs.Ytejpmomedclnhaa
open Go.RowKit
set_option linter.unusedVariables false

set_option maxRecDepth 100000 in
set_option maxHeartbeats 4000000 in
theorem tgK_impl (b1 o1 m c1 b off n cap : Nat) (Y : Nat → FlatD) (X : Nat → DrawerD) (S : Nat → Value) (flat : Int) (w : World) (h1 : Rw w b1 o1 4 m (fun i => (Y i).cells)) (hm1 : m ≤ 1048576) (hlc1 : m ≤ c1) (h : Drs w b off n X S) (hL : ∀ i, i < n → (X i).Flats.length ≤ 1048576) (hm : n ≤ 1048576) (hlc : n ≤ cap) (hlo : looseB Y m X n flat = true) :
    Calls Try.prog 82 #[.slice (some ⟨b1, o1, none⟩) m c1, .slice (some ⟨b, off, none⟩) n cap, .int .i64 flat] w fun e w' => e = .returned (.int .i64 (tgK Y m X n flat)) ∧ Below w.heap.size w w' := by
  have hb := h.rw.1
  have KD := dfK_impl b1 o1 m c1 b off n cap Y X S flat w h1 hm1 hlc1 h hL hm hlc hlo
  have H := hid h
  have hKl : (dfK Y m X n flat).length ≤ n := selI_le _ _ _
  have hKat : Hid (∀ j, j < (dfK Y m X n flat).length → ∃ k : Nat, k < n ∧ (dfK Y m X n flat).getD j 0 = (k : Int)) := fun j hj => by obtain ⟨k, h1, h2, _⟩ := dfK_at hj; exact ⟨k, h1, h2⟩
  have hK2 : Hid (tgK Y m X n flat = tgF X (dfK Y m X n flat) (dfK Y m X n flat).length) := rfl
  obtain ⟨K, hK⟩ : ∃ K, dfK Y m X n flat = K := ⟨_, rfl⟩
  obtain ⟨T, hT⟩ : ∃ T, tgK Y m X n flat = T := ⟨_, rfl⟩
  rw [hK] at KD hKl hKat hK2
  rw [hT] at hK2 ⊢
  clear hK hT h1 h hL hlo
  go_enter Try.func82, Try.ntmps82
  go_wp2_with fail
  refine KD.mono ?_
  rintro e w1 ⟨v, rfl, ho, B1⟩
  rcases ho.form with ⟨rfl, rfl⟩ | ⟨g, cp, rfl, _, hgl, hcc, _, hcell, _⟩
  · clear ho
    go_wp2_with fail
    refine wp_loop_rounds 1 ?_
    rw [rounds_succ]
    go_wp2_with fail
    go_ret
    exact ⟨ret_int hK2.out.symm, B1⟩
  · clear ho
    obtain ⟨N, hN⟩ : ∃ N, K.length = N := ⟨_, rfl⟩
    have HC : Hid (∀ j, j < N → w1.cell? ⟨g, j, none⟩ = some (.int .i64 (K.getD j 0))) := fun j hj => hcell j (by omega)
    have HN := hid hN
    rw [hN] at hcc hKl ⊢
    clear hcell hN KD
    go_wp2_with fail
    go_loopw [7, 15] (fun p i wr => ∃ (j : Nat) (bv : Int), j ≤ N ∧ p = .int .i64 bv ∧ i = .int .i64 j ∧ Below w1.heap.size w1 wr ∧ Hid (tgF X K j = bv)) (fun _ i _ => N - (intOf i).toNat)
    case atStart => exact ⟨0, -1, by omega, rfl, rfl, Below.refl _ _, rfl⟩
    case round =>
      obtain ⟨j, bv, hj, rfl, rfl, hC, hrl⟩ := hrel
      have hB := Below.on B1 B1.size hC
      by_cases hlt : j < N
      · obtain ⟨k, hk, hkj⟩ := hKat.out j (by rw [HN.out]; exact hlt)
        have c0 : wr.cell? ⟨g, j, none⟩ = some (.int .i64 (k : Int)) := by rw [← hkj]; exact (hC.cell hgl).trans (HC.out j hlt)
        have hkj := hid hkj
        have x1 : wr.cell? ⟨b, off + k * 5 + 1, none⟩ = some (.int .i64 (X k).Wide) := (hB.cell hb).trans (H.out.rw.2 k hk 1 (by omega))
        have x2 : wr.cell? ⟨b, off + k * 5 + 2, none⟩ = some (.int .i64 (X k).High) := (hB.cell hb).trans (H.out.rw.2 k hk 2 (by omega))
        have e1 : (0 : Int) ≤ (k : Int) := by omega
        have e2 : (k : Int) < (n : Int) := by omega
        have e3 : (0 : Int) ≤ (j : Int) := by omega
        have e4 : (j : Int) < (N : Int) := by omega
        rcases tgF_cases hKat.out j (by rw [HN.out]; omega) with ht | ⟨bb, hbb, ht⟩
        · have hbv : bv = -1 := hrl.out.symm.trans ht
          subst hbv
          have ht := hid ht
          clear hrl
          go_wp2_with fail
          go_quiet (fail)
          go_wp2_with fail
          go_roundw
          case rel => exact ⟨j + 1, _, by omega, rfl, by go_num, (by first | exact hC | exact below_drewN hC _), tgF_none hkj.out ht.out⟩
          case measure => simp [intOf]; omega
        · have hbv : bv = (bb : Int) := hrl.out.symm.trans ht
          subst hbv
          have ht := hid ht
          obtain ⟨x, hx⟩ : ∃ x, whD X k = x := ⟨_, rfl⟩
          have hw : IntKind.i64.wrap ((X k).Wide * (X k).High) = x := hx
          have HX := hid hx
          obtain ⟨y, hy⟩ : ∃ y, whD X bb = y := ⟨_, rfl⟩
          have hv : IntKind.i64.wrap ((X bb).Wide * (X bb).High) = y := hy
          have HY := hid hy
          clear hx hy
          have y1 : wr.cell? ⟨b, off + bb * 5 + 1, none⟩ = some (.int .i64 (X bb).Wide) := (hB.cell hb).trans (H.out.rw.2 bb hbb 1 (by omega))
          have y2 : wr.cell? ⟨b, off + bb * 5 + 2, none⟩ = some (.int .i64 (X bb).High) := (hB.cell hb).trans (H.out.rw.2 bb hbb 2 (by omega))
          have e5 : (0 : Int) ≤ (bb : Int) := by omega
          have e6 : (bb : Int) < (n : Int) := by omega
          have e7 : decide ((bb : Int) < 0) = false := by simp
          by_cases hl : x < y
          · have hl2 : Hid (whD X k < whD X bb) := by unfold Hid; rw [HX.out, HY.out]; exact hl
            have d2 : decide (x < y) = true := by simpa using hl
            clear hl
            clear hrl
            go_wp2_with fail
            go_quiet (fail)
            go_wp2_with fail
            go_roundw
            case rel => exact ⟨j + 1, _, by omega, rfl, by go_num, (by first | exact hC | exact below_drewN hC _), tgF_less hkj.out ht.out hl2.out⟩
            case measure => simp [intOf]; omega
          · have hl2 : Hid (whD X bb ≤ whD X k) := by unfold Hid; rw [HX.out, HY.out]; omega
            have d2 : decide (x < y) = false := by simpa using hl
            clear hl
            clear hrl
            go_wp2_with fail
            go_quiet (fail)
            go_wp2_with fail
            go_roundw
            case rel => exact ⟨j + 1, _, by omega, rfl, by go_num, (by first | exact hC | exact below_drewN hC _), tgF_more hkj.out ht.out (Int.not_lt.2 hl2.out)⟩
            case measure => simp [intOf]; omega
      · obtain rfl : j = N := by omega
        have hKK : Hid (T = tgF X K j) := hK2.out.trans (by rw [HN.out])
        go_wp2_with fail
        go_ret
        exact ⟨ret_int (hrl.out.symm.trans hKK.out.symm), hB⟩

set_option maxRecDepth 100000 in
set_option maxHeartbeats 4000000 in
theorem tight_impl (b1 o1 m c1 b off n cap : Nat) (Y : Nat → FlatD) (X : Nat → DrawerD) (S : Nat → Value) (flat : Int) (w : World) (h1 : Rw w b1 o1 4 m (fun i => (Y i).cells)) (hm1 : m ≤ 1048576) (hlc1 : m ≤ c1) (h : Drs w b off n X S) (hL : ∀ i, i < n → (X i).Flats.length ≤ 1048576) (hm : n ≤ 1048576) (hlc : n ≤ cap) :
    Calls Try.prog 45 #[.slice (some ⟨b1, o1, none⟩) m c1, .slice (some ⟨b, off, none⟩) n cap, .int .i64 flat] w fun e w' => e = .returned (.tuple #[.int .i64 (tgV Y m X n flat), .bool (tgOk Y m X n flat)]) ∧ Below w.heap.size w w' := by
  have hbb := h1.1
  have hb := h.rw.1
  have KL := isLoose_impl b1 o1 m c1 b off n cap Y X S flat w h1 hm1 hlc1 h hL hm hlc
  have HR := hid h1
  have H := hid h
  have HL := hid hL
  clear h1 h hL
  obtain ⟨R, hR⟩ : ∃ R, looseB Y m X n flat = R := ⟨_, rfl⟩
  rw [hR] at KL
  have HRR := hid hR
  clear hR
  cases R with
  | false =>
    go_enter Try.func45, Try.ntmps45
    go_wp2_with fail
    refine KL.mono ?_
    rintro e w1 ⟨rfl, B1⟩
    go_wp2_with fail
    go_ret2
    exact ⟨tgR_no (tg_no HRR.out), B1⟩
  | true =>
    have hI := hid (tg_yes HRR.out)
    rcases tgK_cases Y m X n flat with ht | ⟨bb, hb2, ht⟩
    · have ht := hid ht
      go_enter Try.func45, Try.ntmps45
      go_wp2_with fail
      refine KL.mono ?_
      rintro e w1 ⟨rfl, B1⟩
      have KK := tgK_impl b1 o1 m c1 b off n cap Y X S flat w1 (HR.out.below B1 hbb) hm1 hlc1 (H.out.below B1) HL.out hm hlc HRR.out
      rw [ht.out] at KK
      go_wp2_with fail
      refine KK.mono ?_
      rintro e w2 ⟨rfl, hb2⟩
      have B2 := Below.on B1 B1.size hb2
      go_wp2_with fail
      go_ret2
      exact ⟨tgR_no (hI.out.trans ht.out), B2⟩
    · have ht := hid ht
      go_enter Try.func45, Try.ntmps45
      go_wp2_with fail
      refine KL.mono ?_
      rintro e w1 ⟨rfl, B1⟩
      have KK := tgK_impl b1 o1 m c1 b off n cap Y X S flat w1 (HR.out.below B1 hbb) hm1 hlc1 (H.out.below B1) HL.out hm hlc HRR.out
      rw [ht.out] at KK
      have e5 : (0 : Int) ≤ (bb : Int) := by omega
      have e6 : (bb : Int) < (n : Int) := by omega
      have e7 : decide ((bb : Int) < 0) = false := by simp
      go_wp2_with fail
      refine KK.mono ?_
      rintro e w2 ⟨rfl, hb3⟩
      have B2 := Below.on B1 B1.size hb3
      have c0 : w2.cell? ⟨b, off + bb * 5, none⟩ = some (.int .i64 (X bb).Id) := (B2.cell hb).trans (H.out.rw.2 bb hb2 0 (by omega))
      go_wp2_with fail
      go_ret2
      exact ⟨tgR_yes (hI.out.trans ht.out), B2⟩

end Go.Proofs.Ytejpmomedclnhaa
