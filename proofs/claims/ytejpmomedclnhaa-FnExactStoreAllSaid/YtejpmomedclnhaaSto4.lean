/-
  Drawers marked below a bound. No condition.
-/
import Derived.Test.YtejpmomedclnhaaDrawK
namespace Go.Proofs.Ytejpmomedclnhaa
open Go.RowKit
set_option linter.unusedVariables false

set_option maxHeartbeats 4000000 in
theorem markDrawerS_ownH (v : Value) (P : List DrP) (B H : Nat) (k0 : Int) (w : World) (h : OwnP B w v P) (hvH : ∀ k, v.ownBlock = some k → k < H) (hiH : ∀ i, i < P.length → ∀ k, (P.getD i default).2.ownBlock = some k → k < H) (N : Nat → Nat) (hN : ∀ i, i < P.length → (P.getD i default).1.Flats.length = N i) (hL : P.length + sumK N P.length ≤ 2097152) (hk0 : 0 ≤ k0) (hk1 : k0 ≤ 536870912) :
    Calls Try.prog 36 #[v, .int .i64 k0] w fun e w' => e = .returned (.int .i64 (kb k0 N P.length)) ∧ OwnP B w' v (mixP k0 N P P.length) ∧ Only (fun i => B ≤ i ∧ i < H) w w' := by
  rcases h.form with ⟨rfl, rfl⟩ | ⟨g, cap, rfl, hgB, hgl, hnc, hcm, _, _⟩
  · go_enter Try.func36, Try.ntmps36
    go_wp2
    refine wp_loop_rounds 1 ?_
    rw [rounds_succ]
    go_wp2
    go_ret
    exact ⟨by simp [kb, sumK], OwnP.nil _ _, Only.refl _ _⟩
  · have HO := hid h
    have hgH : g < H := hvH g rfl
    have HIH := hid hiH
    clear hvH hiH
    have HNN := hid hN
    obtain ⟨n, hn⟩ : ∃ n, P.length = n := ⟨_, rfl⟩
    have HN := hid hn
    rw [hn] at hL hnc HO ⊢
    have HL := hid hL
    have hln : n ≤ 2097152 := by omega
    clear h hN hn hL
    go_enter Try.func36, Try.ntmps36
    go_wp2
    go_loopw [1, 5] (fun q i wr => ∃ (k : Nat) (b : Int), k ≤ n ∧ i = .int .i64 k ∧ q = .int .i64 b ∧ 0 ≤ b ∧ b ≤ 600000000 ∧ Hid (b = kb k0 N k) ∧ Hid (Only (fun i => B ≤ i ∧ i < H) w wr) ∧ Hid (OwnP B wr (.slice (some ⟨g, 0, none⟩) n cap) (mixP k0 N P k))) (fun _ i _ => n - (intOf i).toNat)
    case atStart => exact ⟨0, k0, by omega, rfl, rfl, by omega, by omega, by unfold Hid; simp [kb, sumK], Only.refl _ _, by unfold Hid; rw [mixP_zero]; exact HO.out⟩
    case round =>
      obtain ⟨k, b, hk, rfl, rfl, hb0, hb1, hbk, hg, ho⟩ := hrel
      by_cases hlt : k < n
      · have hPk : k < P.length := by rw [HN.out]; exact hlt
        have hnk : N k ≤ 2097152 := by have h1 := HL.out; have := sumK_le (N := N) hlt; omega
        have hkb2 : b + 4 + (N k : Int) ≤ 600000000 ∧ b + 4 + (N k : Int) = kb k0 N (k + 1) := by
          have h1 := HL.out
          have h2 := sumK_le (N := N) hlt
          have h3 := hbk.out
          have h4 := kb_succ k0 N k
          refine ⟨?_, by rw [h4, ← h3]⟩
          rw [h3]; unfold kb; omega
        obtain ⟨hb2, hb3⟩ := hkb2
        have HB3 := hid hb3
        clear hb3
        have hml : (mixP k0 N P k).length = n := by rw [mixP_len, HN.out]
        have hat : (mixP k0 N P k).getD k default = P.getD k default := by rw [mixP_at hPk, if_neg (by omega)]
        obtain ⟨gi, ci, hgi, hgiB, hgil, hcil⟩ := (ho.out.inn k (by rw [hml]; exact hlt)).slice
        have hblk : Blk 32 g (cap * 5) wr := by
          rcases ho.out.form with ⟨h9, _⟩ | ⟨g9, cp9, h9, _, _, _, _, _, h10⟩
          · cases h9
          · cases h9; exact h10
        have x4 : wr.cell? ⟨g, k * 5 + 4, none⟩ = some ((mixP k0 N P k).getD k default).2 := by
          have := flat_getP (mixP k0 N P k) k 4 (by rw [hml]; exact hlt) (by omega)
          have hrow := ho.out.row
          rw [hml] at hrow
          have h9 := World.ownsRow.cellAt hrow (k * 5 + 4) (by have := Nat.mul_le_mul_right 5 (show k + 1 ≤ n from hlt); omega)
          rw [h9, this]; rfl
        rw [hgi] at x4
        have hlen : ((mixP k0 N P k).getD k default).1.Flats.length = N k := by rw [hat]; exact HNN.out k hPk
        rw [hlen] at x4 hcil hgi
        obtain ⟨nk, hnk'⟩ : ∃ nk, N k = nk := ⟨_, rfl⟩
        rw [hnk'] at x4 hcil hnk hgi HB3 hb2
        have HNK := hid hnk'
        have HGI := hid hgi
        have hkc : k * 5 + 4 < cap * 5 := by have := Nat.mul_le_mul_right 5 (show k + 1 ≤ cap by omega); omega
        obtain ⟨q0, t0⟩ := hblk.cell (k * 5) (by omega)
        obtain ⟨q1, t1⟩ := hblk.cell (k * 5 + 1) (by omega)
        obtain ⟨q2, t2⟩ := hblk.cell (k * 5 + 2) (by omega)
        obtain ⟨q3, t3⟩ := hblk.cell (k * 5 + 3) (by omega)
        have z0 := hblk.frozen (k * 5)
        have z1 := hblk.frozen (k * 5 + 1)
        have z2 := hblk.frozen (k * 5 + 2)
        have z3 := hblk.frozen (k * 5 + 3)
        have S4 := ho.out.set4 hml hlt b (b + 1) (b + 1 + 1) (b + 1 + 1 + 1)
        have HS4 := hid S4
        have hI : Hid (OwnI B ((((wr.setCell ⟨g, k * 5, none⟩ (.int .i64 b)).setCell ⟨g, k * 5 + 1, none⟩ (.int .i64 (b + 1))).setCell ⟨g, k * 5 + 2, none⟩ (.int .i64 (b + 1 + 1))).setCell ⟨g, k * 5 + 3, none⟩ (.int .i64 (b + 1 + 1 + 1))) (.slice (some ⟨gi, 0, none⟩) nk ci) ((mixP k0 N P k).getD k default).1.Flats) := by
          have := (S4.inn k (by rw [List.length_set, hml]; exact hlt)).1
          rw [getP_set _ _ _ _ (by rw [hml]; exact hlt), if_pos rfl] at this
          rw [hgi] at this
          exact this
        have hfl : ((mixP k0 N P k).getD k default).1.Flats.length = nk := hlen.trans hnk'
        have HFL := hid hfl
        have HAT := hid hat
        have hgiH : gi < H := HIH.out k hPk gi (by rw [← hat, HGI.out]; rfl)
        have HML := hid hml
        have O4 : Hid (Only (fun i => B ≤ i ∧ i < H) wr ((((wr.setCell ⟨g, k * 5, none⟩ (.int .i64 b)).setCell ⟨g, k * 5 + 1, none⟩ (.int .i64 (b + 1))).setCell ⟨g, k * 5 + 2, none⟩ (.int .i64 (b + 1 + 1))).setCell ⟨g, k * 5 + 3, none⟩ (.int .i64 (b + 1 + 1 + 1)))) := (((Only.of_grown (grownBy_set _ _ _ _) ⟨hgB, hgH⟩).trans (Only.of_grown (grownBy_set _ _ _ _) ⟨hgB, hgH⟩)).trans (Only.of_grown (grownBy_set _ _ _ _) ⟨hgB, hgH⟩)).trans (Only.of_grown (grownBy_set _ _ _ _) ⟨hgB, hgH⟩)
        clear S4 hfl hat hml hlen hnk' hgi hblk
        go_wp2_with fail
        refine (markIntS_own (.slice (some ⟨gi, 0, none⟩) nk ci) ((mixP k0 N P k).getD k default).1.Flats B _ _ hI.out (by rw [HFL.out]; omega) (by omega) (by omega)).mono ?_
        rw [HFL.out]
        rintro e w1 ⟨rfl, oM, gr⟩
        have hinner := HS4.out.inner (k := k) (F := marks (b + 4) nk) (by rw [List.length_set]; exact HML.out) hlt (w' := w1) (by rw [getP_set _ _ _ _ (by rw [HML.out]; exact hlt), if_pos rfl, HGI.out]; exact gr) (by rw [getP_set _ _ _ _ (by rw [HML.out]; exact hlt), if_pos rfl, HGI.out]; first | exact oM | (rw [show b + 4 = b + 1 + 1 + 1 + 1 by omega]; exact oM))
        have hQ : Hid (OwnP B w1 (.slice (some ⟨g, 0, none⟩) n cap) (mixP k0 N P (k + 1))) := by
          unfold Hid
          rw [← mixP_step hPk, ← hbk.out, HNK.out]
          rw [getP_set _ _ _ _ (by rw [HML.out]; exact hlt), if_pos rfl, List.set_set, HAT.out] at hinner
          rw [show b + 1 + 1 = b + 2 by omega, show b + 2 + 1 = b + 3 by omega] at hinner
          exact hinner
        have hO1 : Hid (Only (fun i => B ≤ i ∧ i < H) w w1) := (hg.out.trans O4.out).trans (Only.of_grown' gr fun q hq => by simp [Value.ownBlock] at hq; subst hq; exact ⟨hgiB, hgiH⟩)
        clear t0 t1 t2 t3 z0 z1 z2 z3 x4 oM gr hinner O4 HS4 hI
        go_wp2_with fail
        go_roundw
        case rel => exact ⟨k + 1, b + 4 + (nk : Int), by omega, by go_num, val_int (by omega), by omega, by omega, HB3.out, hO1, hQ⟩
        case measure => simp [intOf]; omega
      · obtain rfl : k = n := by omega
        go_wp2_with fail
        go_ret
        exact ⟨by rw [← hbk.out]; rfl, ho.out, hg.out⟩

theorem mixP_snd {k0 : Int} {N : Nat → Nat} {P : List DrP} {k i : Nat} (hi : i < P.length) : ((mixP k0 N P k).getD i default).2 = (P.getD i default).2 := by
  rw [mixP_at hi]
  split <;> rfl

end Go.Proofs.Ytejpmomedclnhaa
