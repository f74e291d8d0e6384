/-
  The places without a sheet, by the program. No condition.
-/
import Derived.Test.YtgdhjiiblfdlcaaMis
import Derived.Test.YtgdhjiiblfdlcaaScale2
import Derived.Deep.Cut
namespace Go.Proofs.Ytgdhjiiblfdlcaa
open Go.RowKit
set_option linter.unusedVariables false
set_option maxRecDepth 100000

/-- A block of these cells, none frozen. -/
def BoxIs (N : Nat) (arr : Array Value) (T : TypeId) (w : World) : Prop := w.heap[N]? = some (.cells arr T (0, 0))
theorem BoxIs.here (W : World) (arr : Array Value) (T : TypeId) : BoxIs W.heap.size arr T (W.alloc (.cells arr T)) := heap_alloc_new W _
theorem BoxIs.lt {w : World} {N : Nat} {arr : Array Value} {T : TypeId} (h : BoxIs N arr T w) : N < w.heap.size := (Array.getElem?_eq_some_iff.1 h).1
theorem BoxIs.old {w w' : World} {N : Nat} {arr : Array Value} {T : TypeId} (h : BoxIs N arr T w) (hb : Below w.heap.size w w') : BoxIs N arr T w' := (hb.block N h.lt).trans h
theorem BoxIs.cell {w : World} {N : Nat} {arr : Array Value} {T : TypeId} (h : BoxIs N arr T w) (j : Nat) (hj : j < arr.size) : w.cell? ⟨N, j, none⟩ = some (arr[j]'hj) := by
  unfold BoxIs at h
  simp [World.cell?, h, hj]
theorem BoxIs.frozen {w : World} {N : Nat} {arr : Array Value} {T : TypeId} (h : BoxIs N arr T w) (j : Nat) : w.frozen? ⟨N, j, none⟩ = false := by
  unfold BoxIs at h
  simp [World.frozen?, h]
theorem BoxIs.set {w : World} {N : Nat} {arr : Array Value} {T : TypeId} (h : BoxIs N arr T w) (j : Nat) (v : Value) : BoxIs N (arr.setIfInBounds j v) T (w.setCell ⟨N, j, none⟩ v) := heap_setCell_same w N j arr T v h
theorem BoxIs.fill2 {w : World} {N : Nat} {a b a' b' : Value} {T : TypeId} (h : BoxIs N #[a, b] T w) : BoxIs N #[a', b'] T ((w.setCell ⟨N, 0, none⟩ a').setCell ⟨N, 1, none⟩ b') := (h.set 0 a').set 1 b'
theorem BoxIs.other {w : World} {N M : Nat} {arr : Array Value} {T : TypeId} (h : BoxIs N arr T w) (j : Nat) (v : Value) (hM : M ≠ N) : BoxIs N arr T (w.setCell ⟨M, j, none⟩ v) := by
  have := heap_setCell_other w ⟨M, j, none⟩ N v (fun e => hM e.symm)
  exact this.trans h
theorem BoxIs.alloc {w : World} {N : Nat} {arr : Array Value} {T : TypeId} (h : BoxIs N arr T w) (o : Obj) : BoxIs N arr T (w.alloc o) := h.old (by go_grown)
theorem two_box (w : World) (arr : Array Value) (T : TypeId) : BoxIs w.heap.size arr T ((w.alloc (.cells arr T)).alloc (.cells arr T)).drew ∧ BoxIs (w.heap.size + 1) arr T ((w.alloc (.cells arr T)).alloc (.cells arr T)).drew := by
  refine ⟨(BoxIs.here w arr T).alloc _, ?_⟩
  have := BoxIs.here (w.alloc (.cells arr T)) arr T
  rw [World.size_alloc] at this
  exact this
theorem below_set2 {B N : Nat} {w w' : World} (h : Below B w w') (hN : B ≤ N) (hB : B ≤ w'.heap.size) (a b : Value) : Below B w ((w'.setCell ⟨N, 0, none⟩ a).setCell ⟨N, 1, none⟩ b) :=
  (h.grown (grownBy_set w' N 0 a) hB (fun k hk => by cases hk; exact hN)).grown (grownBy_set _ N 1 b) (by simpa using hB) (fun k hk => by cases hk; exact hN)
theorem OwnA2.sl {B n : Nat} {w : World} {v : Value} {L : List Int} (h : OwnA2 B w v L) (hn : n = L.length / 2) : ∃ ao cap, v = .slice ao n cap ∧ n ≤ cap := by
  rcases h.form with ⟨rfl, rfl⟩ | ⟨g, cap, m, hm, rfl, _, _, hc, _⟩
  · exact ⟨none, 0, by rw [hn]; rfl, by rw [hn]; simp⟩
  · obtain rfl : n = m := by omega
    exact ⟨_, cap, rfl, hc⟩
theorem BoxIs.drew {w : World} {N : Nat} {arr : Array Value} {T : TypeId} (h : BoxIs N arr T w) : BoxIs N arr T w.drew := h

set_option maxHeartbeats 3000000 in
theorem missing_impl (w : World) (b off len cap : Nat) (X : Nat → SheetD) (sc : Int) (h : Rw w b off 5 len (fun i => (X i).cells)) (hm : len ≤ 1048576) (hlc : len ≤ cap) :
    Calls Try.prog 9 #[.slice (some ⟨b, off, none⟩) len cap, .int .i64 sc] w (RetA2B (msL X len sc) (msOk X len sc) w) := by
  have H := hid h
  have hb := h.1
  clear h
  obtain ⟨i0, hi, hz0, hz1, hz2⟩ := info_parts info_A2
  go_enter Try.func9, Try.ntmps9
  go_wp2_with fail
  refine (ofScale_impl _ b off len cap X sc H.out hm hlc).mono ?_
  rintro e w1 ⟨v, L, rfl, ho1, hb1, hS1⟩
  have HO1 := hid ho1
  have HS1 := hid hS1
  clear ho1 hS1
  go_wp2_with fail
  refine (sheets_impl _ b off len cap X (H.out.later' hb1) hm hlc).mono ?_
  rintro e w2 ⟨rfl, hb2⟩
  have B2 := Below.on hb1 hb1.size hb2
  have hO2 := HO1.out.below hb2
  clear HO1
  by_cases hv : sheetsB X len = true
  · have HV := hid hv
    obtain rfl := HS1.out.eq hv
    have P := hid (srt_places (sc := sc) hv)
    have hn12 := sheetsB_le hv
    have hN12 := srtN_le X len sc
    rcases hO2.form with ⟨rfl, hnil⟩ | ⟨g, cp, rfl, hg1, hg2, hcp, hcm, hR, _⟩
    · have h0 : srtN X len sc = 0 := by unfold srtN; rw [hnil]; rfl
      have HN0 : Hid (msOk X len sc = false) := by unfold Hid msOk; rw [h0]; simp
      clear h0 hnil HS1 hO2 P hN12
      go_wp2_with fail
      go_ret2
      exact ⟨_, by rw [HN0.out]; rfl, by rw [ms_no HN0.out]; exact OwnA2.nil _ _, B2⟩
    · have HR : Hid (Rw w2 g 0 5 (srtN X len sc) (fun i => (srtY X len sc i).cells)) := hR
      have hlen : (srt X len sc).length = srtN X len sc := rfl
      rw [hlen] at hcp ⊢
      clear HS1 hO2 hR hlen
      by_cases h0 : srtN X len sc = 0
      · have HN0 : Hid (msOk X len sc = false) := by unfold Hid msOk; rw [h0]; simp
        rw [h0]
        clear P h0 hN12 HR
        go_wp2_with fail
        go_ret2
        exact ⟨_, by rw [HN0.out]; rfl, by rw [ms_no HN0.out]; exact OwnA2.nil _ _, B2⟩
      · have F := hid (ms_facts hv (show 0 < srtN X len sc by omega))
        have HOK : Hid (msOk X len sc = decide ((msAll X len sc).length ≤ 800)) := by
          have h00 : 0 < srtN X len sc := by omega
          unfold Hid msOk; rw [hv]; simp [h00]
        have HYES : Hid (msOk X len sc = true → msL X len sc = msAll X len sc) := fun h => ms_yes h
        have HNO : Hid (msOk X len sc = false → msL X len sc = []) := fun h => ms_no h
        generalize ((msBox X len sc).ri - (msBox X len sc).le + 1).toNat = W at *
        generalize ((msBox X len sc).hi - (msBox X len sc).lo + 1).toNat = HH at *
        generalize srtY X len sc = Y at *
        generalize srtN X len sc = N at *
        generalize msBox X len sc = BX at *
        have n0 : ((N : Int) == 0) = false := by simp; omega
        have hN0 : 0 < N := by omega
        have e3 : (0 : Int) < (N : Int) := by omega
        have x1 : w2.cell? ⟨g, 1, none⟩ = some (.int .i64 (Y 0).Row) := by have := HR.out.2 0 hN0 1 (by omega); simp only [Nat.zero_mul, Nat.zero_add] at this; exact this
        have x2 : w2.cell? ⟨g, 2, none⟩ = some (.int .i64 (Y 0).Col) := by have := HR.out.2 0 hN0 2 (by omega); simp only [Nat.zero_mul, Nat.zero_add] at this; exact this
        clear h0
        go_upto_region 4 with fail
        go_cut [6, 7, 8] from 5 (fun sv p q w' => sv = .slice (some ⟨g, 0, none⟩) N cp ∧ ∃ P1 Q1, p = .pointer (some ⟨P1, 0, none⟩) ∧ q = .pointer (some ⟨Q1, 0, none⟩) ∧ P1 ≠ Q1 ∧ w2.heap.size ≤ P1 ∧ w2.heap.size ≤ Q1 ∧ Below w2.heap.size w2 w' ∧ BoxIs P1 #[.int .i64 (Y 0).Row, .int .i64 (Y 0).Col] 58 w' ∧ BoxIs Q1 #[.int .i64 (Y 0).Row, .int .i64 (Y 0).Col] 58 w')
        case first =>
          clear HOK HYES HNO F P HR HV H hv
          go_region_held3 (fun w' => w'.cell? ⟨g, 1, none⟩ = some (.int .i64 (Y 0).Row) ∧ w'.cell? ⟨g, 2, none⟩ = some (.int .i64 (Y 0).Col)) (go_keep) (first | fail)
          all_goals (go_wp2_with fail; go_meet)
          · exact ⟨rfl, _, _, rfl, rfl, by omega, by omega, by omega, by go_grown, (two_box _ _ _).1, (two_box _ _ _).2⟩
          · exact ⟨rfl, _, _, rfl, rfl, by omega, by omega, by omega, by go_grown, (two_box _ _ _).2, (two_box _ _ _).1⟩
        case rest =>
          obtain ⟨rfl, P1, Q1, rfl, rfl, hPQ, hP1, hQ1, hbN, hbx1, hbx2⟩ := hcut
          have hQP : Q1 ≠ P1 := fun e => hPQ e.symm
          have hX1 := hid hbx1
          have hX2 := hid hbx2
          clear hbx1 hbx2 x1 x2 e3
          go_wp2_with fail
          go_loopw [45] (fun i wr => ∃ (k : Nat) (a d b' e : Int), k ≤ N ∧ i = .int .i64 k ∧ Below w2.heap.size w2 wr ∧ Hid (a = minY (fun j => (Y j).Row) k) ∧ Hid (d = minY (fun j => (Y j).Col) k) ∧ Hid (b' = maxY (fun j => (Y j).Row) k) ∧ Hid (e = maxY (fun j => (Y j).Col) k) ∧ Hid (BoxIs P1 #[.int .i64 a, .int .i64 d] 58 wr) ∧ Hid (BoxIs Q1 #[.int .i64 b', .int .i64 e] 58 wr)) (fun i _ => N - (intOf i).toNat)
          case atStart => exact ⟨0, _, _, _, _, by omega, rfl, hbN, rfl, rfl, rfl, rfl, hX1, hX2⟩
          case round =>
            clear hbN hX1 hX2
            obtain ⟨k, a, d, b', e, hk, rfl, hB, ha, hd, hbb, he, hX1, hX2⟩ := hrel
            have lP := hX1.out.lt
            have lQ := hX2.out.lt
            have p0 := hX1.out.cell 0 (by simp)
            have p1 := hX1.out.cell 1 (by simp)
            have q0 := hX2.out.cell 0 (by simp)
            have q1 := hX2.out.cell 1 (by simp)
            simp only [List.getElem_toArray, List.getElem_cons_zero, List.getElem_cons_succ] at p0 p1 q0 q1
            by_cases hlt : k < N
            · have c0 : wr.cell? ⟨g, k * 5, none⟩ = some (.int .i64 (Y k).Id) := (hB.cell hg2).trans (by have := HR.out.2 k hlt 0 (by omega); rw [Nat.zero_add] at this; exact this)
              have c1 : wr.cell? ⟨g, k * 5 + 1, none⟩ = some (.int .i64 (Y k).Row) := (hB.cell hg2).trans (by have := HR.out.2 k hlt 1 (by omega); rw [Nat.zero_add] at this; exact this)
              have c2 : wr.cell? ⟨g, k * 5 + 2, none⟩ = some (.int .i64 (Y k).Col) := (hB.cell hg2).trans (by have := HR.out.2 k hlt 2 (by omega); rw [Nat.zero_add] at this; exact this)
              have c3 : wr.cell? ⟨g, k * 5 + 3, none⟩ = some (.int .i64 (Y k).Scale) := (hB.cell hg2).trans (by have := HR.out.2 k hlt 3 (by omega); rw [Nat.zero_add] at this; exact this)
              have c4 : wr.cell? ⟨g, k * 5 + 4, none⟩ = some (.int .i64 (Y k).Year) := (hB.cell hg2).trans (by have := HR.out.2 k hlt 4 (by omega); rw [Nat.zero_add] at this; exact this)
              have z1 := hX1.out.frozen 0
              have z2 := hX1.out.frozen 1
              have z3 := hX2.out.frozen 0
              have z4 := hX2.out.frozen 1
              have r1 := run_min2
              have r2 := run_max2
              have a1 : Hid (imin a (Y k).Row = minY (fun j => (Y j).Row) (k + 1)) := by unfold Hid; rw [ha.out]; rfl
              have a2 : Hid (imin d (Y k).Col = minY (fun j => (Y j).Col) (k + 1)) := by unfold Hid; rw [hd.out]; rfl
              have a3 : Hid (imax b' (Y k).Row = maxY (fun j => (Y j).Row) (k + 1)) := by unfold Hid; rw [hbb.out]; rfl
              have a4 : Hid (imax e (Y k).Col = maxY (fun j => (Y j).Col) (k + 1)) := by unfold Hid; rw [he.out]; rfl
              clear ha hd hbb he
              go_wp2_with fail
              go_roundw
              case rel => exact ⟨k + 1, _, _, _, _, by omega, by go_num, ((below_set2 (below_set2 hB hP1 hB.size _ _) hQ1 (by simpa using hB.size) _ _).alloc (by simpa using hB.size) _), a1, a2, a3, a4, (((hX1.out.fill2.other 0 _ hQP).other 1 _ hQP).alloc _), (((hX2.out.other 0 _ hPQ).other 1 _ hPQ).fill2.alloc _)⟩
              case measure => simp [intOf]; omega
            · obtain rfl : k = N := by omega
              have F0 := F.out
              obtain ⟨Blo, Bhi, Ble, Bri⟩ := BX
              have f1 := F0.lo.1
              have f2 := F0.hi.1
              have f3 := F0.le.1
              have f4 := F0.ri.1
              have f5 := F0.bd
              have f6 := F0.wd
              have f7 := F0.ht
              have f8 := F0.all
              simp only at f1 f2 f3 f4 f5 f6 f7 f8
              obtain rfl : a = Blo := ha.out.trans f1.symm
              obtain rfl : b' = Bhi := hbb.out.trans f2.symm
              obtain rfl : d = Ble := hd.out.trans f3.symm
              obtain rfl : e = Bri := he.out.trans f4.symm
              have W100 : W ≤ 100 := by omega
              have H100 : HH ≤ 100 := by omega
              have F6 := hid f6
              have F7 := hid f7
              have F8 := hid f8
              have HA : Hid (∀ r c, msA X len sc r c = decide (findI (fun j => onB (Y j) r c sc) k < 0)) := fun r c => (P.out.findY r c).symm
              have hRl := hid (HR.out.later' hB)
              clear f1 f2 f3 f4 f6 f7 f8 ha hbb hd he F F0 hPQ hQP HR P HV hv
              generalize msA X len sc = A at *
              obtain ⟨wl, rfl⟩ : ∃ wl : World, wl = wr := ⟨_, rfl⟩
              have Bl := Below.on B2 B2.size hB
              go_wp2_with fail
              go_loopw [11, 12] (fun out row wr => ∃ r : Nat, r ≤ HH ∧ row = .int .i64 (a + (r : Int)) ∧ Below wl.heap.size wl wr ∧ Hid (OwnA2 wl.heap.size wr out (mAll A a d W r)) ∧ Hid ((mAll A a d W r).length ≤ 800)) (fun _ row _ => HH - (intOf row - a).toNat)
              case atStart => exact ⟨0, by omega, by simp, Below.refl _ _, OwnA2.nil _ _, by unfold Hid; simp [mAll]⟩
              case round =>
                obtain ⟨r, hr, rfl, hC, ho, h8⟩ := hrel
                have q0' := (hC.cell (p := ⟨Q1, 0, none⟩) lQ).trans q0
                have p1' := (hC.cell (p := ⟨P1, 1, none⟩) lP).trans p1
                have lP' : P1 < wr.heap.size := by have := hC.size; omega
                have lQ' : Q1 < wr.heap.size := by have := hC.size; omega
                by_cases hlr : r < HH
                · have d22 : decide (a + (r : Int) ≤ b') = true := by have := F7.out; simp; omega
                  go_wp2_with fail
                  obtain ⟨wo, rfl⟩ : ∃ wo : World, wo = wr := ⟨_, rfl⟩
                  go_loopw [11, 13] (fun out col wr => ∃ m : Nat, m ≤ W ∧ col = .int .i64 (d + (m : Int)) ∧ Below wl.heap.size wl wr ∧ Hid (OwnA2 wl.heap.size wr out (mAll A a d W r ++ mRow A (a + (r : Int)) d m)) ∧ Hid ((mAll A a d W r ++ mRow A (a + (r : Int)) d m).length ≤ 800)) (fun _ col _ => W - (intOf col - d).toNat)
                  case atStart => exact ⟨0, by omega, by simp, hC, ho.out.same (by simp [mRow]), by simpa [mRow] using h8⟩
                  case round =>
                    clear hC ho h8 q0' p1' lP' lQ'
                    obtain ⟨m, hm', rfl, hC, ho, h8⟩ := hrel
                    have q1' := (hC.cell (p := ⟨Q1, 1, none⟩) lQ).trans q1
                    have lQ' : Q1 < wr.heap.size := by have := hC.size; omega
                    by_cases hlm : m < W
                    · have d26 : decide (d + (m : Int) ≤ e) = true := by have := F6.out; simp; omega
                      obtain ⟨T, hT⟩ : ∃ T, T = mAll A a d W r ++ mRow A (a + (r : Int)) d m := ⟨_, rfl⟩
                      obtain ⟨n, hn2⟩ : ∃ n, n = T.length / 2 := ⟨_, rfl⟩
                      have hn : n ≤ 400 := by have := h8.out; rw [← hT] at this; omega
                      have HN := hid hn2
                      rw [← hT] at ho h8
                      have HTT := hid hT
                      have x1 : IntKind.i64.wrap (a + (r : Int) + 1) = a + ((r + 1 : Nat) : Int) := by rw [show a + ((r + 1 : Nat) : Int) = a + (r : Int) + 1 by omega]; exact IntWalk.i64_in _ (by omega)
                      have x2 : IntKind.i64.wrap (d + (m : Int) + 1) = d + ((m + 1 : Nat) : Int) := by rw [show d + ((m + 1 : Nat) : Int) = d + (m : Int) + 1 by omega]; exact IntWalk.i64_in _ (by omega)
                      clear hn2 hT
                      go_wp2_with fail
                      refine (on_impl _ g 0 k cp Y (a + (r : Int)) (d + (m : Int)) sc (hRl.out.later' hC) (by omega) hcp).mono ?_
                      rintro e' w4 ⟨hev, hb4⟩
                      have B4 := Below.on hC hC.size hb4
                      have ho4 := hid (ho.out.below hb4)
                      clear ho q1'
                      rcases findI_cases (fun i => onB (Y i) (a + (r : Int)) (d + (m : Int)) sc) k with hK | ⟨j, hj, hK, hpj⟩
                      · have HT : Hid (A (a + (r : Int)) (d + (m : Int)) = true) := by unfold Hid; rw [HA.out, hK]; rfl
                        rw [hK] at hev
                        subst hev
                        clear hK
                        go_wp2_with (at_builtin; refine wpList_append_own_at _ rfl _ _ 24 rfl wl.heap.size 58 i0 (.agg #[.int .i64 0, .int .i64 0]) 2 16 Try.underlying24 hi hz0 hz1 hz2 rfl (by decide) _ n (T.map (Value.int .i64)) rfl (World.ownsRow.alloc (ho4.out.row HN.out) _) ⟨w4.heap.size, 0, none⟩ 1 1 [.int .i64 (a + (r : Int)), .int .i64 (d + (m : Int))] rfl rfl ?c1 ?c2 ?c3 ?c4 ?c5 ?_)
                        case c1 => exact World.news_of_block (heap_alloc_new _ _)
                        case c2 => intro u hu; simp at hu; rcases hu with rfl | rfl <;> rfl
                        case c3 => unfold maxLen; omega
                        case c4 => omega
                        case c5 => have := B4.size; simp; omega
                        intro v' w3 hown hgrow _ _
                        have B3 : Below wl.heap.size wl w3 := (B4.alloc B4.size _).grown hgrow (by have := B4.size; simp; omega) (fun t ht => (World.ownsRow.lt ho4.out t ht).1)
                        have ho3 := (OwnA2.snoc HN.out hown).same (L' := mAll A a d W r ++ mRow A (a + (r : Int)) d (m + 1)) (by rw [mRow_yes HT.out, HTT.out, List.append_assoc])
                        obtain ⟨z, hz⟩ : ∃ z, z = (mAll A a d W r ++ mRow A (a + (r : Int)) d (m + 1)).length / 2 := ⟨_, rfl⟩
                        obtain ⟨ao3, c3, rfl, _⟩ := ho3.sl hz
                        have hL2 : (mAll A a d W r ++ mRow A (a + (r : Int)) d (m + 1)).length = 2 * z := by have := ho3.len; omega
                        have HL2 := hid hL2
                        have ho3 := hid ho3
                        clear hown hgrow ho4 hz hL2
                        by_cases hbig : 400 < z
                        · have HN0 : Hid (msOk X len sc = false) := by
                            unfold Hid; rw [HOK.out, F8.out]
                            have h1 := mAll_part A a d W hlr (show m + 1 ≤ W by omega)
                            have := HL2.out
                            simp; omega
                          go_wp2_with fail
                          go_ret2
                          exact ⟨_, by rw [HN0.out]; rfl, by rw [ms_no HN0.out]; exact OwnA2.nil _ _, Below.on Bl Bl.size B3⟩
                        · have h83 : Hid ((mAll A a d W r ++ mRow A (a + (r : Int)) d (m + 1)).length ≤ 800) := by unfold Hid; rw [HL2.out]; omega
                          go_wp2_with fail
                          go_roundw
                          case rel => exact ⟨m + 1, by omega, rfl, B3, ho3, h83⟩
                          case measure => simp [intOf]; omega
                      · have HT : Hid (A (a + (r : Int)) (d + (m : Int)) = false) := by unfold Hid; rw [HA.out, hK]; simp <;> omega
                        rw [hK] at hev
                        subst hev
                        clear hK hpj
                        obtain ⟨ao3, c3, rfl, _⟩ := ho4.out.sl HN.out
                        have ho3 := hid (ho4.out.same (L' := mAll A a d W r ++ mRow A (a + (r : Int)) d (m + 1)) (by rw [mRow_no HT.out, HTT.out]))
                        have h83 : Hid ((mAll A a d W r ++ mRow A (a + (r : Int)) d (m + 1)).length ≤ 800) := by unfold Hid; rw [mRow_no HT.out, ← HTT.out]; exact h8.out
                        have hbig : ¬ 400 < n := by omega
                        clear ho4
                        go_wp2_with fail
                        go_roundw
                        case rel => exact ⟨m + 1, by omega, rfl, B4, ho3, h83⟩
                        case measure => simp [intOf]; omega
                    · obtain rfl : m = W := by omega
                      have d26 : decide (d + (m : Int) ≤ e) = false := by have := F6.out; simp; omega
                      have x1 : IntKind.i64.wrap (a + (r : Int) + 1) = a + ((r + 1 : Nat) : Int) := by rw [show a + ((r + 1 : Nat) : Int) = a + (r : Int) + 1 by omega]; exact IntWalk.i64_in _ (by omega)
                      go_wp2_with fail
                      go_roundw
                      case rel => exact ⟨r + 1, by omega, rfl, hC, ho, h8⟩
                      case measure => simp [intOf]; omega
                · obtain rfl : r = HH := by omega
                  have d22 : decide (a + (r : Int) ≤ b') = false := by have := F7.out; simp; omega
                  have HN1 : Hid (msOk X len sc = true) := by unfold Hid; rw [HOK.out, F8.out]; simpa using h8.out
                  have HL1 : Hid (msL X len sc = mAll A a d W r) := (HYES.out HN1.out).trans F8.out
                  go_wp2_with fail
                  go_ret2
                  exact ⟨_, by rw [HN1.out]; rfl, by rw [HL1.out]; exact ho.out.base Bl.size, Below.on Bl Bl.size hC⟩
  · have hv' : sheetsB X len = false := by simpa using hv
    have HN0 : Hid (msOk X len sc = false) := by unfold Hid msOk; rw [hv']; rfl
    clear hv
    go_wp2_with fail
    go_ret2
    exact ⟨_, by rw [HN0.out]; rfl, by rw [ms_no HN0.out]; exact OwnA2.nil _ _, B2⟩

end Go.Proofs.Ytgdhjiiblfdlcaa
