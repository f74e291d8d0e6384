/-
  The places without a sheet, by the reference. No condition.
-/
import Derived.Test.YtgdhjiiblfdlcaaMisP
import Derived.Test.YtgdhjiiblfdlcaaOwnA2
import Derived.Deep.AppendLies
namespace Go.Proofs.Ytgdhjiiblfdlcaa
open Go.RowKit
set_option linter.unusedVariables false
set_option maxRecDepth 100000

theorem OwnA2.row {B n : Nat} {w : World} {v : Value} {L : List Int} (h : OwnA2 B w v L) (hn : n = L.length / 2) : w.ownsRow B 58 2 v n (L.map (Value.int .i64)) := by rw [hn]; exact h
theorem OwnA2.snoc {B n : Nat} {w : World} {v : Value} {L : List Int} {a b : Int} (hn : n = L.length / 2) (h : w.ownsRow B 58 2 v (n + 1) (L.map (Value.int .i64) ++ [.int .i64 a, .int .i64 b])) : OwnA2 B w v (L ++ [a, b]) := by
  unfold OwnA2
  rw [List.length_append, List.map_append, show (L.length + [a, b].length) / 2 = n + 1 from by simp only [List.length_cons, List.length_nil]; omega]
  exact h
theorem OwnA2.same {B : Nat} {w : World} {v : Value} {L L' : List Int} (h : OwnA2 B w v L) (e : L' = L) : OwnA2 B w v L' := by rw [e]; exact h
theorem OwnA2.alloc1 {B : Nat} {w : World} {v : Value} {L : List Int} (h : OwnA2 B w v L) (o : Obj) : OwnA2 B (w.alloc o) v L := World.ownsRow.alloc h o

theorem ms_scale {X : Nat → SheetD} {n : Nat} {sc : Int} (hs : inB sc 10 500 = false) : msOk X n sc = false := by
  unfold msOk
  by_cases hv : sheetsB X n = true
  · have h0 : srtN X n sc = 0 := by
      rcases Nat.eq_zero_or_pos (srtN X n sc) with h0 | h0
      · exact h0
      · obtain ⟨i, hi, e, h1⟩ := (srt_places (sc := sc) hv).of 0 h0
        have := (shB_bd (shsB_valid hv hi)).2.2.2.1
        rw [e, h1] at this
        simp [inB] at hs
        omega
    rw [h0]; simp
  · rw [Bool.not_eq_true] at hv; rw [hv]; rfl

set_option maxHeartbeats 3000000 in
theorem missing_spec (w : World) (b off len cap : Nat) (X : Nat → SheetD) (sc : Int) (h : Rw w b off 5 len (fun i => (X i).cells)) (hm : len ≤ 1048576) (hlc : len ≤ cap) :
    Calls Try.prog 7 #[.slice (some ⟨b, off, none⟩) len cap, .int .i64 sc] w (RetA2B (msL X len sc) (msOk X len sc) w) := by
  have H := hid h
  have hb := h.1
  clear h
  obtain ⟨i0, hi, hz0, hz1, hz2⟩ := info_parts info_A2
  have hE := hid (OwnA2.empty w)
  have hA : Below w.heap.size w (w.alloc (.cells #[] 58)) := by go_grown
  go_enter Try.func7, Try.ntmps7
  go_wp2_with fail
  refine (sheets_spec _ b off len cap X (H.out.later' hA) hm hlc).mono ?_
  rintro e w1 ⟨rfl, hb1⟩
  have B1 := Below.on hA hA.size hb1
  have ho1 := hid (hE.out.below hb1)
  clear hE hb1 hA
  by_cases hv : sheetsB X len = true
  · by_cases hs : inB sc 10 500 = true
    · have HV := hid hv
      have hn12 := sheetsB_le hv
      go_wp2_with (go_at_call 27; refine (scale_spec _ _).mono ?_; rintro e w' ⟨rfl, rfl⟩)
      clear hs hv
      go_loopw [7, 8, 9, 10, 11, 12] (fun vn va vb vd ve i wr => ∃ (k c : Nat) (a b d e : Int), k ≤ len ∧ c ≤ k ∧ i = .int .i64 k ∧ vn = .int .i64 c ∧ va = .int .i64 a ∧ vb = .int .i64 b ∧ vd = .int .i64 d ∧ ve = .int .i64 e ∧ Below w.heap.size w wr ∧ Hid (c = (selS X sc k).length) ∧ Hid (a = minS X sc SheetD.Row k) ∧ Hid (b = maxS X sc SheetD.Row k) ∧ Hid (d = minS X sc SheetD.Col k) ∧ Hid (e = maxS X sc SheetD.Col k) ∧ Hid (OwnA2 w.heap.size wr (.slice (some ⟨w.heap.size, 0, none⟩) 0 0) [])) (fun _ _ _ _ _ i _ => len - (intOf i).toNat)
      case atStart => exact ⟨0, 0, 99, 0, 99, 0, by omega, by omega, rfl, rfl, rfl, rfl, rfl, rfl, B1, rfl, rfl, rfl, rfl, rfl, ho1⟩
      case round =>
        clear B1 ho1
        obtain ⟨k, c, a, b', d, e, hk, hck, rfl, rfl, rfl, rfl, rfl, rfl, hB, hc, ha, hbb, hd, he, ho⟩ := hrel
        by_cases hlt : k < len
        · have c0 : wr.cell? ⟨b, off + k * 5, none⟩ = some (.int .i64 (X k).Id) := (hB.cell hb).trans (H.out.2 k hlt 0 (by omega))
          have c1 : wr.cell? ⟨b, off + k * 5 + 1, none⟩ = some (.int .i64 (X k).Row) := (hB.cell hb).trans (H.out.2 k hlt 1 (by omega))
          have c2 : wr.cell? ⟨b, off + k * 5 + 2, none⟩ = some (.int .i64 (X k).Col) := (hB.cell hb).trans (H.out.2 k hlt 2 (by omega))
          have c3 : wr.cell? ⟨b, off + k * 5 + 3, none⟩ = some (.int .i64 (X k).Scale) := (hB.cell hb).trans (H.out.2 k hlt 3 (by omega))
          have c4 : wr.cell? ⟨b, off + k * 5 + 4, none⟩ = some (.int .i64 (X k).Year) := (hB.cell hb).trans (H.out.2 k hlt 4 (by omega))
          have e2 : (0 : Int) ≤ (k : Int) := by omega
          have e3 : (k : Int) < (len : Int) := by omega
          have hB1 : Below w.heap.size w (wr.alloc (.cells #[.int .i64 (X k).Id, .int .i64 (X k).Row, .int .i64 (X k).Col, .int .i64 (X k).Scale, .int .i64 (X k).Year] 55)) := hB.alloc hB.size _
          have ho2 := hid (ho.out.alloc1 (.cells #[.int .i64 (X k).Id, .int .i64 (X k).Row, .int .i64 (X k).Col, .int .i64 (X k).Scale, .int .i64 (X k).Year] 55))
          clear ho hB
          by_cases hp : ((X k).Scale == sc) = true
          · have hsc : (X k).Scale = sc := by simpa using hp
            have q0 : Hid (c + 1 = (selS X sc (k + 1)).length) := by unfold Hid; rw [selS_yes hp, List.length_append, ← hc.out]; rfl
            have q1 : Hid (imin a (X k).Row = minS X sc SheetD.Row (k + 1)) := by unfold Hid; rw [minS_yes hsc, ha.out]
            have q2 : Hid (imax b' (X k).Row = maxS X sc SheetD.Row (k + 1)) := by unfold Hid; rw [maxS_yes hsc, hbb.out]
            have q3 : Hid (imin d (X k).Col = minS X sc SheetD.Col (k + 1)) := by unfold Hid; rw [minS_yes hsc, hd.out]
            have q4 : Hid (imax e (X k).Col = maxS X sc SheetD.Col (k + 1)) := by unfold Hid; rw [maxS_yes hsc, he.out]
            clear hsc hc ha hbb hd he
            go_wp2_with (first | (go_at_call 28; refine (least_spec _ _ _).mono ?_; rintro e w' ⟨rfl, rfl⟩) | (go_at_call 29; refine (most_spec _ _ _).mono ?_; rintro e w' ⟨rfl, rfl⟩))
            go_roundw
            case rel => exact ⟨k + 1, c + 1, _, _, _, _, by omega, by omega, by go_num, by go_num, rfl, rfl, rfl, rfl, hB1, q0, q1, q2, q3, q4, ho2⟩
            case measure => simp [intOf]; omega
          · have hp' : ((X k).Scale == sc) = false := by simpa using hp
            have hsc : ¬ (X k).Scale = sc := by simpa using hp
            have q0 : Hid (c = (selS X sc (k + 1)).length) := by unfold Hid; rw [selS_no hp']; exact hc.out
            have q1 : Hid (a = minS X sc SheetD.Row (k + 1)) := by unfold Hid; rw [minS_no hsc]; exact ha.out
            have q2 : Hid (b' = maxS X sc SheetD.Row (k + 1)) := by unfold Hid; rw [maxS_no hsc]; exact hbb.out
            have q3 : Hid (d = minS X sc SheetD.Col (k + 1)) := by unfold Hid; rw [minS_no hsc]; exact hd.out
            have q4 : Hid (e = maxS X sc SheetD.Col (k + 1)) := by unfold Hid; rw [maxS_no hsc]; exact he.out
            clear hsc hc ha hbb hd he hp
            go_wp2_with fail
            go_roundw
            case rel => exact ⟨k + 1, c, a, b', d, e, by omega, by omega, by go_num, rfl, rfl, rfl, rfl, rfl, hB1, q0, q1, q2, q3, q4, ho2⟩
            case measure => simp [intOf]; omega
        · obtain rfl : k = len := by omega
          have hcN : c = srtN X k sc := by rw [srtN_sel]; exact hc.out
          by_cases h0 : c = 0
          · have HN0 : Hid (msOk X k sc = false) := by unfold Hid msOk; rw [← hcN, h0]; simp
            subst h0
            clear hc ha hbb hd he hcN
            go_wp2_with fail
            go_ret2
            exact ⟨_, by rw [HN0.out]; rfl, by rw [ms_no HN0.out]; exact ho.out, hB⟩
          · have F := ms_facts HV.out (by rw [← hcN]; omega)
            have HOK : Hid (msOk X k sc = decide ((msAll X k sc).length ≤ 800)) := by
              have h00 : 0 < srtN X k sc := by rw [← hcN]; omega
              unfold Hid msOk; rw [HV.out]; simp [h00]
            have HYES : Hid (msOk X k sc = true → msL X k sc = msAll X k sc) := fun h => ms_yes h
            obtain ⟨BX, hBX⟩ : ∃ B : MBox, B = msBox X k sc := ⟨_, rfl⟩
            obtain ⟨W, hW⟩ : ∃ W, W = ((msBox X k sc).ri - (msBox X k sc).le + 1).toNat := ⟨_, rfl⟩
            obtain ⟨HH, hHH⟩ : ∃ W, W = ((msBox X k sc).hi - (msBox X k sc).lo + 1).toNat := ⟨_, rfl⟩
            rw [← hW, ← hHH, ← hBX] at F
            clear hW hHH hBX
            obtain ⟨lo, hi', le, ri⟩ := BX
            obtain ⟨Z, hZ⟩ : ∃ Z : Nat, Z = HH * W := ⟨_, rfl⟩
            have f1 := F.lo.2
            have f2 := F.hi.2
            have f3 := F.le.2
            have f4 := F.ri.2
            have f5 := F.bd
            have f6 := F.wd
            have f7 := F.ht
            have f8 := F.all
            have f9 := F.count
            simp only at f1 f2 f3 f4 f5 f6 f7 f8
            rw [← hcN, ← hZ] at f9
            obtain rfl : a = lo := ha.out.trans f1.symm
            obtain rfl : b' = hi' := hbb.out.trans f2.symm
            obtain rfl : d = le := hd.out.trans f3.symm
            obtain rfl : e = ri := he.out.trans f4.symm
            have zm : Z ≤ 10000 := by rw [hZ]; exact Nat.le_trans (Nat.mul_le_mul (show HH ≤ 100 by omega) (show W ≤ 100 by omega)) (by omega)
            have g1 : IntKind.i64.wrap (b' - a) = b' - a := IntWalk.i64_in _ (by omega)
            have g2 : IntKind.i64.wrap (b' - a + 1) = (HH : Int) := by rw [f7]; exact IntWalk.i64_in _ (by omega)
            have g3 : IntKind.i64.wrap (e - d) = e - d := IntWalk.i64_in _ (by omega)
            have g4 : IntKind.i64.wrap (e - d + 1) = (W : Int) := by rw [f6]; exact IntWalk.i64_in _ (by omega)
            have g5 : IntKind.i64.wrap ((HH : Int) * (W : Int)) = (Z : Int) := by
              rw [show (HH : Int) * (W : Int) = (Z : Int) by rw [hZ]; simp]
              exact IntWalk.i64_in _ (by omega)
            have g6 : IntKind.i64.wrap ((Z : Int) - (c : Int)) = (Z : Int) - (c : Int) := IntWalk.i64_in _ (by omega)
            have n0 : ((c : Int) == 0) = false := by simp; omega
            have F6 := hid f6
            have F7 := hid f7
            have F8 := hid f8
            have F9 := hid f9
            have W100 : W ≤ 100 := by omega
            have H100 : HH ≤ 100 := by omega
            clear f1 f2 f3 f4 f6 f7 f8 f9 hZ ha hbb hd he F hc hcN
            by_cases hgt : (400 : Int) < (Z : Int) - (c : Int)
            · have HN0 : Hid (msOk X k sc = false) := by unfold Hid; rw [HOK.out]; have := F9.out; simp; omega
              go_wp2_with fail
              go_ret2
              exact ⟨_, by rw [HN0.out]; rfl, by rw [ms_no HN0.out]; exact ho.out, hB⟩
            · have HN1 : Hid (msOk X k sc = true) := by unfold Hid; rw [HOK.out]; have := F9.out; simp; omega
              have HL : Hid (msL X k sc = mAll (msA X k sc) a d W HH) := (HYES.out HN1.out).trans F8.out
              have HA : Hid (∀ r c, msA X k sc r c = decide (findI (fun i => onB (X i) r c sc) k < 0)) := fun r c => rfl
              clear HOK HYES F8 F9
              generalize msA X k sc = A at *
              go_wp2_with fail
              go_loopw [6, 14] (fun out row wr => ∃ r : Nat, r ≤ HH ∧ row = .int .i64 (a + (r : Int)) ∧ Below w.heap.size w wr ∧ Hid (OwnA2 w.heap.size wr out (mAll A a d W r))) (fun _ row _ => HH - (intOf row - a).toNat)
              case atStart => exact ⟨0, by omega, by simp, hB, ho⟩
              case round =>
                clear hB ho
                obtain ⟨r, hr, rfl, hB, ho⟩ := hrel
                by_cases hlr : r < HH
                · have d22 : decide (a + (r : Int) ≤ b') = true := by have := F7.out; simp; omega
                  go_wp2_with fail
                  obtain ⟨wo, rfl⟩ : ∃ wo : World, wo = wr := ⟨_, rfl⟩
                  go_loopw [6, 15] (fun out col wr => ∃ m : Nat, m ≤ W ∧ col = .int .i64 (d + (m : Int)) ∧ Below w.heap.size w wr ∧ Hid (OwnA2 w.heap.size wr out (mAll A a d W r ++ mRow A (a + (r : Int)) d m))) (fun _ col _ => W - (intOf col - d).toNat)
                  case atStart => exact ⟨0, by omega, by simp, hB, ho.out.same (by simp [mRow])⟩
                  case round =>
                    clear hB ho
                    obtain ⟨m, hm', rfl, hB, ho⟩ := hrel
                    by_cases hlm : m < W
                    · have d26 : decide (d + (m : Int) ≤ e) = true := by have := F6.out; simp; omega
                      have k1 := mAll_le A a d W W100 r
                      have k2 := mRow_le A (a + (r : Int)) d m
                      obtain ⟨T, hT⟩ : ∃ T, T = mAll A a d W r ++ mRow A (a + (r : Int)) d m := ⟨_, rfl⟩
                      obtain ⟨n, hn2⟩ : ∃ n, n = T.length / 2 := ⟨_, rfl⟩
                      have hn : n ≤ 20000 := by rw [hn2, hT, List.length_append]; omega
                      have HN := hid hn2
                      rw [← hT] at ho
                      have HTT := hid hT
                      have x1 : IntKind.i64.wrap (a + (r : Int) + 1) = a + ((r + 1 : Nat) : Int) := by rw [show a + ((r + 1 : Nat) : Int) = a + (r : Int) + 1 by omega]; exact IntWalk.i64_in _ (by omega)
                      have x2 : IntKind.i64.wrap (d + (m : Int) + 1) = d + ((m + 1 : Nat) : Int) := by rw [show d + ((m + 1 : Nat) : Int) = d + (m : Int) + 1 by omega]; exact IntWalk.i64_in _ (by omega)
                      clear hn2 k1 k2 hT
                      go_wp2_with fail
                      refine (at_spec _ b off k cap X (a + (r : Int)) (d + (m : Int)) sc (H.out.later' hB) hm hlc).mono ?_
                      rintro e wz ⟨hev, rfl⟩
                      rcases findI_cases (fun i => onB (X i) (a + (r : Int)) (d + (m : Int)) sc) k with hK | ⟨j, hj, hK, hpj⟩
                      · have HT : Hid (A (a + (r : Int)) (d + (m : Int)) = true) := by unfold Hid; rw [HA.out, hK]; rfl
                        rw [hK] at hev
                        subst hev
                        clear hK
                        go_wp2_with (at_builtin; refine wpList_append_own_at _ rfl _ _ 24 rfl w.heap.size 58 i0 (.agg #[.int .i64 0, .int .i64 0]) 2 16 Try.underlying24 hi hz0 hz1 hz2 rfl (by decide) _ n (T.map (Value.int .i64)) rfl (World.ownsRow.alloc (ho.out.row HN.out) _) ⟨wr.heap.size, 0, none⟩ 1 1 [.int .i64 (a + (r : Int)), .int .i64 (d + (m : Int))] rfl rfl ?c1 ?c2 ?c3 ?c4 ?c5 ?_)
                        case c1 => exact World.news_of_block (heap_alloc_new _ _)
                        case c2 => intro u hu; simp at hu; rcases hu with rfl | rfl <;> rfl
                        case c3 => unfold maxLen; omega
                        case c4 => omega
                        case c5 => have := hB.size; simp; omega
                        intro v' w3 hown hgrow _ _
                        have B3 : Below w.heap.size w w3 := (hB.alloc hB.size _).grown hgrow (by have := hB.size; simp; omega) (fun t ht => (World.ownsRow.lt ho.out t ht).1)
                        have ho3 := hid ((OwnA2.snoc HN.out hown).same (L' := mAll A a d W r ++ mRow A (a + (r : Int)) d (m + 1)) (by rw [mRow_yes HT.out, HTT.out, List.append_assoc]))
                        clear hown hgrow ho
                        go_wp2_with fail
                        go_roundw
                        case rel => exact ⟨m + 1, by omega, rfl, B3, ho3⟩
                        case measure => simp [intOf]; omega
                      · have HT : Hid (A (a + (r : Int)) (d + (m : Int)) = false) := by unfold Hid; rw [HA.out, hK]; simp <;> omega
                        rw [hK] at hev
                        subst hev
                        clear hK hpj
                        have ho3 := hid (ho.out.same (L' := mAll A a d W r ++ mRow A (a + (r : Int)) d (m + 1)) (by rw [mRow_no HT.out, HTT.out]))
                        clear ho
                        go_wp2_with fail
                        go_roundw
                        case rel => exact ⟨m + 1, by omega, rfl, hB, ho3⟩
                        case measure => simp [intOf]; omega
                    · obtain rfl : m = W := by omega
                      have d26 : decide (d + (m : Int) ≤ e) = false := by have := F6.out; simp; omega
                      have x1 : IntKind.i64.wrap (a + (r : Int) + 1) = a + ((r + 1 : Nat) : Int) := by rw [show a + ((r + 1 : Nat) : Int) = a + (r : Int) + 1 by omega]; exact IntWalk.i64_in _ (by omega)
                      go_wp2_with fail
                      go_roundw
                      case rel => exact ⟨r + 1, by omega, rfl, hB, ho⟩
                      case measure => simp [intOf]; omega
                · obtain rfl : r = HH := by omega
                  have d22 : decide (a + (r : Int) ≤ b') = false := by have := F7.out; simp; omega
                  go_wp2_with fail
                  go_ret2
                  exact ⟨_, by rw [HN1.out]; rfl, by rw [HL.out]; exact ho.out, hB⟩
    · have hs' : inB sc 10 500 = false := by simpa using hs
      have HN0 := hid (ms_scale (X := X) (n := len) hs')
      clear hs
      go_wp2_with (go_at_call 27; refine (scale_spec _ _).mono ?_; rintro e w' ⟨rfl, rfl⟩)
      go_ret2
      exact ⟨_, by rw [HN0.out]; rfl, by rw [ms_no HN0.out]; exact ho1.out, B1⟩
  · have hv' : sheetsB X len = false := by simpa using hv
    have HN0 : Hid (msOk X len sc = false) := by unfold Hid msOk; rw [hv']; rfl
    clear hv
    go_wp2_with fail
    go_ret2
    exact ⟨_, by rw [HN0.out]; rfl, by rw [ms_no HN0.out]; exact ho1.out, B1⟩

end Go.Proofs.Ytgdhjiiblfdlcaa
