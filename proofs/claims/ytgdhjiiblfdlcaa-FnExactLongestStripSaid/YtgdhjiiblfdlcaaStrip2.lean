/-
  The longest strip, by the reference. No condition.
-/
import Derived.Test.YtgdhjiiblfdlcaaStrip
namespace Go.Proofs.Ytgdhjiiblfdlcaa
open Go.RowKit
set_option linter.unusedVariables false
set_option maxRecDepth 100000

theorem St.step {Y : Nat → SheetD} {N c z y : Nat} {row col : Int} (G : Grid Y N) (C : Cur Y N row col c) (h1 : (Y c).Row = row) (h2 : (Y c).Col = col) (S : St Y N c z) (hy : y < N) (h3 : (Y y).Row = row) (h4 : (Y y).Col = col + (z : Int)) : y = c + z ∧ St Y N c (z + 1) := by
  rcases Nat.eq_zero_or_pos z with h0 | h0
  · subst h0
    have e := (Cur.hit G C hy h3 (by simpa using h4)).1
    subst e
    exact ⟨rfl, by omega, fun i h5 h6 => by omega⟩
  · exact St.next G h1 h2 S h0 hy h3 h4

theorem ls_fin {X : Nat → SheetD} {n : Nat} {sc : Int} {a m : Nat} (hv : sheetsB X n = true) (B : Best (srtY X n sc) (srtN X n sc) (srtN X n sc) a m) : lsL X n sc = idsF (srtY X n sc) a m ∧ lsOk X n sc = decide (0 < m) := by
  have e : lsOk X n sc = decide (0 < m) := by unfold lsOk; rw [hv, best_pos B]; rfl
  refine ⟨?_, e⟩
  by_cases h : 0 < m
  · exact lsL_eq (by rw [e]; simpa using h) B
  · obtain rfl : m = 0 := by omega
    rw [lsL_no (by rw [e]; rfl)]; rfl
theorem ls_scale {X : Nat → SheetD} {n : Nat} {sc : Int} (hs : inB sc 10 500 = false) : lsOk X n sc = false := by
  unfold lsOk
  by_cases hv : sheetsB X n = true
  · have h0 : srtN X n sc = 0 := by
      rcases Nat.eq_zero_or_pos (srtN X n sc) with h0 | h0
      · exact h0
      · obtain ⟨i, hi, e, h1⟩ := (srt_places (sc := sc) hv).of 0 h0
        have := (shB_bd (shsB_valid hv hi)).2.2.2.1
        rw [e, h1] at this
        simp [inB] at hs
        omega
    rw [h0]; simp
  · rw [Bool.not_eq_true] at hv; rw [hv]; rfl

def lenOf : Value → Nat
  | .slice _ n _ => n
  | _ => 0

set_option maxHeartbeats 3000000 in
theorem longest_spec (w : World) (b off len cap : Nat) (X : Nat → SheetD) (sc : Int) (h : Rw w b off 5 len (fun i => (X i).cells)) (hm : len ≤ 1048576) (hlc : len ≤ cap) :
    Calls Try.prog 15 #[.slice (some ⟨b, off, none⟩) len cap, .int .i64 sc] w (RetIB (lsL X len sc) (lsOk X len sc) w) := by
  have H := hid h
  have hb := h.1
  clear h
  obtain ⟨i0, hi, hz0, hz1, hz2⟩ := info_parts info_int
  have hE : OwnI w.heap.size (w.alloc (.cells #[] 3)) (.slice (some ⟨w.heap.size, 0, none⟩) 0 0) [] := World.ownsRow_made w #[] 0 (Nat.le_refl _) (by simp [maxLen]) rfl
  have hE := hid hE
  have hA : Below w.heap.size w (w.alloc (.cells #[] 3)) := by go_grown
  go_enter Try.func15, Try.ntmps15
  go_wp2_with fail
  refine (sheets_spec _ b off len cap X (H.out.later' hA) hm hlc).mono ?_
  rintro e w1 ⟨rfl, hb1⟩
  have B1 := Below.on hA hA.size hb1
  have ho1 := hid (hE.out.below hb1)
  clear hE hb1 hA
  by_cases hv : sheetsB X len = true
  · by_cases hs : inB sc 10 500 = true
    · have P := hid (srt_places (sc := sc) hv)
      have hn12 := sheetsB_le hv
      have hN12 := srtN_le X len sc
      have HL : Hid (∀ a m, Best (srtY X len sc) (srtN X len sc) (srtN X len sc) a m → lsL X len sc = idsF (srtY X len sc) a m ∧ lsOk X len sc = decide (0 < m)) := fun a m h => ls_fin hv h
      generalize srtY X len sc = Y at *
      generalize srtN X len sc = N at *
      go_wp2_with (go_at_call 27; refine (scale_spec _ _).mono ?_; rintro e w' ⟨rfl, rfl⟩)
      clear hs hv
      go_loopw [6, 7] (fun bst row wr => ∃ r c a m : Nat, r ≤ 100 ∧ row = .int .i64 r ∧ Below w.heap.size w wr ∧ Hid (Cur Y N (r : Int) 0 c) ∧ Hid (Best Y N c a m) ∧ Hid (OwnI w.heap.size wr bst (idsF Y a m))) (fun _ row _ => 100 - (intOf row).toNat)
      case atStart => exact ⟨0, 0, 0, 0, by omega, rfl, B1, Cur.start (fun j hj => (P.out.grid.bd j hj).1) (fun j hj => (P.out.grid.bd j hj).2.2.1), Best.zero Y N, ho1⟩
      case round =>
        clear B1 ho1
        obtain ⟨r, c, a, m, hr, rfl, hB, hC, hBest, hob⟩ := hrel
        by_cases hlt : r < 100
        · have d22 : decide ((r : Int) ≤ 99) = true := by simp; omega
          go_wp2_with fail
          obtain ⟨wo, rfl⟩ : ∃ wo : World, wo = wr := ⟨_, rfl⟩
          go_loopw [6, 8] (fun bst col wr => ∃ q c a m : Nat, q ≤ 100 ∧ col = .int .i64 q ∧ Below w.heap.size w wr ∧ Hid (Cur Y N (r : Int) (q : Int) c) ∧ Hid (Best Y N c a m) ∧ Hid (OwnI w.heap.size wr bst (idsF Y a m))) (fun _ col _ => 100 - (intOf col).toNat)
          case atStart => exact ⟨0, c, a, m, by omega, rfl, hB, hC, hBest, hob⟩
          case round =>
            clear hB hC hBest hob c a m
            obtain ⟨q, c, a, m, hq, rfl, hB, hC, hBest, hob⟩ := hrel
            by_cases hlq : q < 100
            · have d26 : decide ((q : Int) ≤ 99) = true := by simp; omega
              have hBs : Below w.heap.size w (wr.alloc (.cells #[] 3)) := hB.alloc hB.size _
              have hE0 : OwnI wr.heap.size (wr.alloc (.cells #[] 3)) (.slice (some ⟨wr.heap.size, 0, none⟩) 0 0) [] := World.ownsRow_made wr #[] 0 (Nat.le_refl _) (by simp [maxLen]) rfl
              have hE0 := hid hE0
              have hgr0 : Below wr.heap.size wr (wr.alloc (.cells #[] 3)) := by go_grown
              go_wp2_with fail
              refine (at_spec _ b off len cap X (r : Int) (q : Int) sc (H.out.later' hBs) hm hlc).mono ?_
              rintro e wz ⟨he, rfl⟩
              rcases findI_cases (fun i => onB (X i) (r : Int) (q : Int) sc) len with hK | ⟨j, hj, hK, hpj⟩
              · rw [hK] at he
                have hC1 := hid (hC.out.miss (P.out.none hK))
                clear hK hC
                subst he
                obtain ⟨ao, cp, rfl, _⟩ := hob.out.sl (idsF_length Y a m)
                have hm0 : ¬ m < 0 := by omega
                have ho1 := hid (hob.out.alloc1 (.cells #[] 3))
                go_wp2_with fail
                refine wp_loop_rounds 1 ?_
                rw [rounds_succ]
                go_wp2_with fail
                go_roundw
                case rel => exact ⟨q + 1, c, a, m, by omega, by go_num, hBs, by rw [show ((q + 1 : Nat) : Int) = (q : Int) + 1 by omega]; exact hC1, hBest, ho1⟩
                case measure => simp [intOf]; omega
              · obtain ⟨_, y, hy, hyX, hy1, hy2⟩ := P.out.some hK
                obtain ⟨rfl, hC1⟩ := hC.out.hit P.out.grid hy hy1 hy2
                have HC := hC
                have HC1 := hid hC1
                have HY1 := hid hy1
                have HY2 := hid hy2
                have hK0 : findI (fun i => onB (X i) (r : Int) ((q : Int) + ((0 : Nat) : Int)) sc) len = (j : Int) := by simpa using hK
                rw [hK] at he
                have HK0 := hid hK0
                clear hK hK0 hC hC1 hy1 hy2 hyX hpj
                subst he
                go_wp2_with fail
                obtain ⟨wq, rfl⟩ : ∃ wq : World, wq = wr := ⟨_, rfl⟩
                go_loopw [9, 10] (fun str kk wr => ∃ z : Nat, y + z ≤ N ∧ Below wq.heap.size wq wr ∧ Hid (St Y N y z) ∧ Hid (OwnI wq.heap.size wr str (idsF Y y z)) ∧ kk = .int .i64 (findI (fun i => onB (X i) (r : Int) ((q : Int) + (z : Int)) sc) len)) (fun str _ _ => N - lenOf str)
                case atStart => exact ⟨0, by omega, hgr0, ⟨by omega, fun i h5 h6 => by omega⟩, hE0, by rw [HK0.out]⟩
                case round =>
                  obtain ⟨z, hz, hB2, hS, hos, hkk⟩ := hrel
                  have Bw : Below w.heap.size w wr := Below.on hB hB.size hB2
                  have hwq := hB.size
                  rcases findI_cases (fun i => onB (X i) (r : Int) ((q : Int) + (z : Int)) sc) len with hK2 | ⟨j2, hj2, hK2, hp2⟩
                  · have hM := hid (St.stop HY1.out HY2.out (P.out.none hK2))
                    rw [hK2] at hkk
                    subst hkk
                    have hob2 := hob.out.below hB2
                    obtain ⟨ao9, c9, rfl, _⟩ := hos.out.sl (idsF_length Y y z)
                    obtain ⟨ao6, c6, rfl, _⟩ := hob2.sl (idsF_length Y a m)
                    have hob3 := hid hob2
                    have hos3 := hid (hos.out.base (B' := w.heap.size) hwq)
                    clear hK2 hob hob2 hos HC HK0 hE0 hgr0 hB2 hB
                    by_cases hmz : m < z
                    · have hBest1 := hid (hBest.out.refMore hS.out hM.out hmz)
                      clear hBest hob3
                      go_wp2_with fail
                      go_roundw
                      case rel => exact ⟨q + 1, y + 1, y, z, by omega, by go_num, Bw, by rw [show ((q + 1 : Nat) : Int) = (q : Int) + 1 by omega]; exact HC1, hBest1, hos3⟩
                      case measure => simp [intOf]; omega
                    · have hBest1 := hid (hBest.out.refKeep hM.out hmz)
                      clear hBest hos3
                      go_wp2_with fail
                      go_roundw
                      case rel => exact ⟨q + 1, y + 1, a, m, by omega, by go_num, Bw, by rw [show ((q + 1 : Nat) : Int) = (q : Int) + 1 by omega]; exact HC1, hBest1, hob3⟩
                      case measure => simp [intOf]; omega
                  · obtain ⟨_, y2, hy2, hyX2, hr1, hr2⟩ := P.out.some hK2
                    obtain ⟨rfl, hS1⟩ := St.step P.out.grid HC.out HY1.out HY2.out hS.out hy2 hr1 hr2
                    have hid2 : (X j2).Id = (Y (y + z)).Id := by rw [hyX2]
                    have c0 : wr.cell? ⟨b, off + j2 * 5, none⟩ = some (.int .i64 (Y (y + z)).Id) := (Bw.cell hb).trans ((H.out.2 j2 hj2 0 (by omega)).trans (by rw [← hid2]; rfl))
                    rw [hK2] at hkk
                    subst hkk
                    obtain ⟨z1, hz1⟩ : ∃ z1 : Nat, z1 = z + 1 := ⟨_, rfl⟩
                    have HZ := hid hz1
                    have hz13 : z1 ≤ 13 := by omega
                    have ew : IntKind.i64.wrap ((q : Int) + (z1 : Int)) = (q : Int) + (z1 : Int) := IntWalk.i64_in _ (by omega)
                    have hS2 : Hid (St Y N y z1) := by unfold Hid; rw [hz1]; exact hS1
                    have hyz : y + z1 ≤ N := by have := hS1.1; omega
                    obtain ⟨ao9, c9, rfl, _⟩ := hos.out.sl (idsF_length Y y z)
                    have lb : b < wr.heap.size := by have := Bw.size; omega
                    have e2 : (0 : Int) ≤ (j2 : Int) := by omega
                    have e3 : (j2 : Int) < (len : Int) := by omega
                    clear hK2 hz1 hS1 hS hyX2 hr1 hr2 hid2 hp2 hE0 hgr0
                    go_wp2_with (at_builtin; refine wpList_append_own_at _ rfl _ _ 34 rfl wq.heap.size 3 i0 (.int .i64 0) 1 8 Try.underlying34 hi hz0 hz1 hz2 rfl (by decide) _ z ((idsF Y y z).map (Value.int .i64)) rfl (World.ownsRow.alloc (hos.out.row (idsF_length Y y z)) _) ⟨wr.heap.size, 0, none⟩ 1 1 [.int .i64 (Y (y + z)).Id] rfl rfl ?c1 ?c2 ?c3 ?c4 ?c5 ?_)
                    case c1 => exact cell_one_new _ _ _
                    case c2 => intro u hu; simp at hu; subst hu; rfl
                    case c3 => unfold maxLen; omega
                    case c4 => omega
                    case c5 => have := hB2.size; simp; omega
                    intro v' w3 hown hgrow _ _
                    have B3 : Below wq.heap.size wq w3 := (hB2.alloc hB2.size _).grown hgrow (by have := hB2.size; simp; omega) (fun t ht => hos.out.ge t ht)
                    have ho3 : OwnI wq.heap.size w3 v' (idsF Y y z1) := (OwnI.snoc (idsF_length Y y z) hown).same (by rw [HZ.out]; exact idsF_succ Y y z)
                    obtain ⟨ao3, c3, rfl, _⟩ := ho3.sl (idsF_length Y y z1)
                    have ho3 := hid ho3
                    clear hown hgrow hos
                    go_wp2_with fail
                    refine (at_spec _ b off len cap X (r : Int) ((q : Int) + (z1 : Int)) sc (H.out.later' (Below.on hB hB.size B3)) hm hlc).mono ?_
                    rintro e w4 ⟨rfl, rfl⟩
                    go_wp2_with fail
                    go_roundw
                    case rel => exact ⟨z1, hyz, B3, hS2, ho3, rfl⟩
                    case measure => have := HZ.out; simp [lenOf]; omega
            · obtain rfl : q = 100 := by omega
              have hC1 : Hid (Cur Y N ((r : Int) + 1) 0 c) := hC.out.turn (fun j hj => by have := P.out.grid.bd j hj; omega) (fun j hj => by have := P.out.grid.bd j hj; omega)
              clear hC
              go_wp2_with fail
              go_roundw
              case rel => exact ⟨r + 1, c, a, m, by omega, by go_num, hB, by rw [show ((r + 1 : Nat) : Int) = (r : Int) + 1 by omega]; exact hC1, hBest, hob⟩
              case measure => simp [intOf]; omega
        · obtain rfl : r = 100 := by omega
          have hc : c = N := Cur.fin hC.out (fun j hj => by have := P.out.grid.bd j hj; omega)
          subst hc
          obtain ⟨e1, e2⟩ := HL.out a m hBest.out
          have E1 := hid e1
          have E2 := hid e2
          obtain ⟨ao, cp, rfl, _⟩ := hob.out.sl (idsF_length Y a m)
          clear e1 e2 HL hC hBest
          go_wp2_with fail
          go_ret2
          exact ⟨.slice ao m cp, by rw [E2.out]; simp, by rw [E1.out]; exact hob.out, hB⟩
    · have hs' : inB sc 10 500 = false := by simpa using hs
      have HN0 := hid (ls_scale (X := X) (n := len) hs')
      clear hs
      go_wp2_with (go_at_call 27; refine (scale_spec _ _).mono ?_; rintro e w' ⟨rfl, rfl⟩)
      go_ret2
      exact ⟨_, by rw [HN0.out]; rfl, by rw [lsL_no HN0.out]; exact ho1.out, B1⟩
  · have hv' : sheetsB X len = false := by simpa using hv
    have HN0 : Hid (lsOk X len sc = false) := by unfold Hid lsOk; rw [hv']; rfl
    clear hv
    go_wp2_with fail
    go_ret2
    exact ⟨_, by rw [HN0.out]; rfl, by rw [lsL_no HN0.out]; exact ho1.out, B1⟩

end Go.Proofs.Ytgdhjiiblfdlcaa
