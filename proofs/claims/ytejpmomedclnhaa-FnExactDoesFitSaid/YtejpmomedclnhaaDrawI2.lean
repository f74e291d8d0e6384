/-
  Whether a drawer is valid and right, by the program. No condition.
-/
import Derived.Test.YtejpmomedclnhaaDrawI
namespace Go.Proofs.Ytejpmomedclnhaa
open Go.RowKit
set_option linter.unusedVariables false

set_option maxHeartbeats 2000000 in
theorem drawer_impl (d : DrawerD) (v : Value) (w : World) (h : HasI w v d.Flats) (hL : d.Flats.length ≤ 1048576) : Calls Try.prog 58 #[d.val v] w fun e w' => e = .returned (.bool (drawerB d)) ∧ Below w.heap.size w w' := by
  obtain ⟨f, n, a, c, g, o, hf, hn, rfl, hc, ha, hcell⟩ := h.named
  have HF := hid hf
  have HL := hid hn
  have HA := hid ha
  have HC := hid hcell
  rw [hn] at hL
  clear h hf hn ha hcell
  have hA0 : Below w.heap.size w (w.alloc (.cells #[.int .i64 d.Id, .int .i64 d.Wide, .int .i64 d.High, .int .i64 d.Holds, .slice a n c] 32)) := by go_grown
  go_enter Try.func58, Try.ntmps58
  go_wp2
  go_loopw [8] (fun i wr => ∃ k : Nat, k ≤ n ∧ i = .int .i64 k ∧ Below w.heap.size w wr ∧ Below (w.alloc (.cells #[.int .i64 d.Id, .int .i64 d.Wide, .int .i64 d.High, .int .i64 d.Holds, .slice a n c] 32)).heap.size (w.alloc (.cells #[.int .i64 d.Id, .int .i64 d.Wide, .int .i64 d.High, .int .i64 d.Holds, .slice a n c] 32)) wr ∧ Hid (∀ i, i < k → risOk d.Flats i = true)) (fun i _ => n - (intOf i).toNat)
  case atStart => exact ⟨0, by omega, rfl, hA0, Below.refl _ _, fun i hi => absurd hi (by omega)⟩
  case round =>
    obtain ⟨k, hk, rfl, hB, hW, hf⟩ := hrel
    clear hA0
    have lw : w.heap.size < wr.heap.size := by have := hW.size; simp at this; omega
    by_cases hlt : k < n
    · obtain ⟨rfl, hg⟩ := HA.out (by omega)
      have x0 : wr.cell? ⟨w.heap.size, 0, none⟩ = some (.int .i64 d.Id) := (hW.cell (by simp)).trans (by simp [go_sem])
      have x1 : wr.cell? ⟨w.heap.size, 1, none⟩ = some (.int .i64 d.Wide) := (hW.cell (by simp)).trans (by simp [go_sem])
      have x2 : wr.cell? ⟨w.heap.size, 2, none⟩ = some (.int .i64 d.High) := (hW.cell (by simp)).trans (by simp [go_sem])
      have x3 : wr.cell? ⟨w.heap.size, 3, none⟩ = some (.int .i64 d.Holds) := (hW.cell (by simp)).trans (by simp [go_sem])
      have x4 : wr.cell? ⟨w.heap.size, 4, none⟩ = some (.slice (some ⟨g, o, none⟩) n c) := (hW.cell (by simp)).trans (by simp [go_sem])
      have c0 : wr.cell? ⟨g, o + k, none⟩ = some (.int .i64 (f k)) := (hB.cell hg).trans (HC.out k hlt)
      by_cases h1 : inB (f k) 1 999 = true
      · by_cases h2 : 0 < k
        · have e0 : IntKind.i64.wrap ((k : Int) - 1) = (k : Int) - 1 := IntWalk.i64_in _ (by omega)
          have e1 : ((k : Int) - 1).toNat = k - 1 := by omega
          have e2 : (0 : Int) ≤ (k : Int) - 1 := by omega
          have e3 : (k : Int) - 1 < (n : Int) := by omega
          have p0 : wr.cell? ⟨g, o + (k - 1), none⟩ = some (.int .i64 (f (k - 1))) := (hB.cell hg).trans (HC.out (k - 1) (by omega))
          have d2 : decide ((0 : Int) < (k : Int)) = true := by simp; omega
          by_cases h3 : f (k - 1) < f k
          · have d3 : decide (f k ≤ f (k - 1)) = false := by simp; omega
            have hok : Hid (risOk d.Flats k = true) := by unfold Hid risOk; rw [HF.out, HF.out, h1]; simp [h3]
            clear h3
            go_wp2_with fail
            refine (id_impl _ _).mono ?_
            rintro e w' ⟨rfl, rfl⟩
            go_wp2_with fail
            go_roundw
            case rel => exact ⟨k + 1, by omega, by go_num, hB, hW, fun i hi => by by_cases hik : i < k; exact hf.out i hik; rw [show i = k by omega]; exact hok.out⟩
            case measure => simp [intOf]; omega
          · have d3 : decide (f k ≤ f (k - 1)) = true := by simp; omega
            have hok : Hid (risOk d.Flats k = false) := by unfold Hid risOk; rw [HF.out, HF.out, h1]; simp [h3]; omega
            clear h3
            go_wp2_with fail
            refine (id_impl _ _).mono ?_
            rintro e w' ⟨rfl, rfl⟩
            go_wp2_with fail
            go_ret
            exact ⟨ret_bool (by unfold drawerB; rw [show risB d.Flats = false from allI_false (by rw [HL.out]; exact hlt) hok.out]; simp), hB⟩
        · have hkz : (k == 0) = true := by simp; omega
          have d2 : decide ((0 : Int) < (k : Int)) = false := by simp; omega
          have hok : Hid (risOk d.Flats k = true) := by unfold Hid risOk; rw [HF.out, h1, hkz]; rfl
          clear hkz
          go_wp2_with fail
          refine (id_impl _ _).mono ?_
          rintro e w' ⟨rfl, rfl⟩
          go_wp2_with fail
          go_roundw
          case rel => exact ⟨k + 1, by omega, by go_num, hB, hW, fun i hi => by by_cases hik : i < k; exact hf.out i hik; rw [show i = k by omega]; exact hok.out⟩
          case measure => simp [intOf]; omega
      · have h1' : inB (f k) 1 999 = false := by simpa using h1
        have hok : Hid (risOk d.Flats k = false) := by unfold Hid risOk; rw [HF.out, h1']; rfl
        clear h1
        go_wp2_with fail
        refine (id_impl _ _).mono ?_
        rintro e w' ⟨rfl, rfl⟩
        go_wp2_with fail
        go_ret
        exact ⟨ret_bool (by unfold drawerB; rw [show risB d.Flats = false from allI_false (by rw [HL.out]; exact hlt) hok.out]; simp), hB⟩
    · obtain rfl : k = n := by omega
      have x0 : wr.cell? ⟨w.heap.size, 0, none⟩ = some (.int .i64 d.Id) := (hW.cell (by simp)).trans (by simp [go_sem])
      have x1 : wr.cell? ⟨w.heap.size, 1, none⟩ = some (.int .i64 d.Wide) := (hW.cell (by simp)).trans (by simp [go_sem])
      have x2 : wr.cell? ⟨w.heap.size, 2, none⟩ = some (.int .i64 d.High) := (hW.cell (by simp)).trans (by simp [go_sem])
      have x3 : wr.cell? ⟨w.heap.size, 3, none⟩ = some (.int .i64 d.Holds) := (hW.cell (by simp)).trans (by simp [go_sem])
      have x4 : wr.cell? ⟨w.heap.size, 4, none⟩ = some (.slice a k c) := (hW.cell (by simp)).trans (by simp [go_sem])
      have hris : risB d.Flats = true := by unfold risB; rw [HL.out]; exact allI_true.2 hf.out
      have hlen := HL.out
      have hdr : Hid (drawerB d = (inB d.Id 1 99 && inB d.Wide 100 2000 && inB d.High 100 2000 && inB d.Holds 100 50000 && decide (k ≤ 12))) := by unfold Hid drawerB; rw [hris, hlen]; simp
      clear hris hlen
      by_cases h12 : k ≤ 12
      · have h12i : (k : Int) ≤ 12 := by omega
        go_wp2_with (go_at_call 92; refine (in_impl _ _ _ _).mono ?_; rintro e w' ⟨rfl, rfl⟩)
        all_goals go_ret
        all_goals exact ⟨by rw [hdr.out]; simp [*], hB⟩
      · have h12i : ¬ (k : Int) ≤ 12 := by omega
        go_wp2_with (go_at_call 92; refine (in_impl _ _ _ _).mono ?_; rintro e w' ⟨rfl, rfl⟩)
        all_goals go_ret
        all_goals exact ⟨by rw [hdr.out]; simp [*], hB⟩

set_option maxRecDepth 100000 in
set_option maxHeartbeats 2000000 in
theorem grams_impl (b off m cap : Nat) (Y : Nat → FlatD) (d : DrawerD) (v : Value) (w : World) (h : Rw w b off 4 m (fun i => (Y i).cells)) (hm : m ≤ 1048576) (hlc : m ≤ cap) (hd : HasI w v d.Flats) (hL : d.Flats.length ≤ 1048576) (hok : ∀ i, i < d.Flats.length → okG Y m d i = true) :
    Calls Try.prog 73 #[.slice (some ⟨b, off, none⟩) m cap, d.val v] w fun e w' => e = .returned (.int .i64 (sumG Y m d.Flats d.Flats.length)) ∧ Below w.heap.size w w' := by
  have H := hid h
  have hb := h.1
  obtain ⟨f, n, a, c, g, o, hf, hn, rfl, hc, ha, hcell⟩ := hd.named
  rw [hn] at hok
  have HO := hid hok
  have HF := hid hf
  have HL := hid hn
  have HA := hid ha
  have HC := hid hcell
  rw [hn] at hL
  clear h hd hf hn ha hcell hok
  have hA0 : Below w.heap.size w (w.alloc (.cells #[.int .i64 d.Id, .int .i64 d.Wide, .int .i64 d.High, .int .i64 d.Holds, .slice a n c] 32)) := by go_grown
  go_enter Try.func73, Try.ntmps73
  go_wp2
  go_loopw [5, 11] (fun s i wr => ∃ (k : Nat) (q : Int), k ≤ n ∧ i = .int .i64 k ∧ s = .int .i64 q ∧ Below w.heap.size w wr ∧ Hid (q = sumG Y m d.Flats k)) (fun _ i _ => n - (intOf i).toNat)
  case atStart => exact ⟨0, 0, by omega, rfl, rfl, hA0, rfl⟩
  case round =>
    obtain ⟨k, q, hk, rfl, rfl, hB, hq0⟩ := hrel
    clear hA0
    by_cases hlt : k < n
    · obtain ⟨rfl, hg⟩ := HA.out (by omega)
      have c0 : wr.cell? ⟨g, o + k, none⟩ = some (.int .i64 (f k)) := (hB.cell hg).trans (HC.out k hlt)
      have K := flatAt_impl wr b off m cap Y (f k) (H.out.below hB hb) hm hlc
      obtain ⟨j, hj, hF, hid1, _⟩ := okG_at (HO.out k hlt)
      rw [HF.out] at hF
      clear hid1
      rw [show findI (fun i => (Y i).Id == f k) m = (j : Int) from hF] at K
      have e2 : (0 : Int) ≤ (j : Int) := by omega
      have e3 : (j : Int) < (m : Int) := by omega
      have hgo : Hid (gOf Y m (d.Flats.getD k 0) = (Y j).Grams) := by unfold Hid gOf; rw [HF.out, hF]; simp
      clear hF
      go_wp2_with fail
      refine K.mono ?_
      rintro e w1 ⟨rfl, hb1⟩
      have hB1 : Below w.heap.size w w1 := Below.on hB hB.size hb1
      have p0 : w1.cell? ⟨b, off + j * 4, none⟩ = some (.int .i64 (Y j).Id) := (hB1.cell hb).trans (H.out.2 j hj 0 (by omega))
      have p1 : w1.cell? ⟨b, off + j * 4 + 1, none⟩ = some (.int .i64 (Y j).Wide) := (hB1.cell hb).trans (H.out.2 j hj 1 (by omega))
      have p2 : w1.cell? ⟨b, off + j * 4 + 2, none⟩ = some (.int .i64 (Y j).High) := (hB1.cell hb).trans (H.out.2 j hj 2 (by omega))
      have p3 : w1.cell? ⟨b, off + j * 4 + 3, none⟩ = some (.int .i64 (Y j).Grams) := (hB1.cell hb).trans (H.out.2 j hj 3 (by omega))
      go_wp2_with fail
      go_roundw
      case rel => exact ⟨k + 1, _, by omega, by go_num, rfl, hB1, by unfold Hid; show _ = IntKind.i64.wrap _; rw [hgo.out, ← hq0.out]; exact (IntWalk.i64_left _).symm⟩
      case measure => simp [intOf]; omega
    · obtain rfl : k = n := by omega
      go_wp2_with fail
      go_ret
      exact ⟨ret_int (by rw [HL.out]; exact hq0.out), hB⟩

set_option maxRecDepth 100000 in
set_option maxHeartbeats 2000000 in
theorem right_impl (b off m cap : Nat) (Y : Nat → FlatD) (d : DrawerD) (v : Value) (w : World) (h : Rw w b off 4 m (fun i => (Y i).cells)) (hm : m ≤ 1048576) (hlc : m ≤ cap) (hd : HasI w v d.Flats) (hL : d.Flats.length ≤ 1048576) :
    Calls Try.prog 62 #[.slice (some ⟨b, off, none⟩) m cap, d.val v] w fun e w' => e = .returned (.bool (rightB Y m d)) ∧ Below w.heap.size w w' := by
  have H := hid h
  have HD := hid hd
  have hb := h.1
  obtain ⟨f, n, a, c, g, o, hf, hn, rfl, hc, ha, hcell⟩ := hd.named
  have HF := hid hf
  have HL := hid hn
  have HA := hid ha
  have HC := hid hcell
  rw [hn] at hL
  clear h hd hf hn ha hcell
  have hA0 : Below w.heap.size w (w.alloc (.cells #[.int .i64 d.Id, .int .i64 d.Wide, .int .i64 d.High, .int .i64 d.Holds, .slice a n c] 32)) := by go_grown
  go_enter Try.func62, Try.ntmps62
  go_wp2
  go_loopw [11] (fun i wr => ∃ (k : Nat), k ≤ n ∧ i = .int .i64 k ∧ Below w.heap.size w wr ∧ Below (w.alloc (.cells #[.int .i64 d.Id, .int .i64 d.Wide, .int .i64 d.High, .int .i64 d.Holds, .slice a n c] 32)).heap.size (w.alloc (.cells #[.int .i64 d.Id, .int .i64 d.Wide, .int .i64 d.High, .int .i64 d.Holds, .slice a n c] 32)) wr ∧ Hid (∀ i, i < k → okG Y m d i = true)) (fun i _ => n - (intOf i).toNat)
  case atStart => exact ⟨0, by omega, rfl, hA0, Below.refl _ _, fun i hi => absurd hi (by omega)⟩
  case round =>
    obtain ⟨k, hk, rfl, hB, hW, hf⟩ := hrel
    clear hA0
    have lw : w.heap.size < wr.heap.size := by have := hW.size; simp at this; omega
    by_cases hlt : k < n
    · obtain ⟨rfl, hg⟩ := HA.out (by omega)
      have c0 : wr.cell? ⟨g, o + k, none⟩ = some (.int .i64 (f k)) := (hB.cell hg).trans (HC.out k hlt)
      have K := flatAt_impl wr b off m cap Y (f k) (H.out.below hB hb) hm hlc
      rcases fAt_cases Y m (f k) with hF | ⟨j, hj, hF, hid1⟩
      · rw [show findI (fun i => (Y i).Id == f k) m = -1 from hF] at K
        have hok : Hid (okG Y m d k = false) := by unfold Hid okG; rw [HF.out, hF]; rfl
        clear hF
        go_wp2_with fail
        refine K.mono ?_
        rintro e w1 ⟨rfl, hb1⟩
        have hB2 : Below w.heap.size w w1 := Below.on hB hB.size hb1
        have hW2 := Below.on hW hW.size hb1
        go_wp2_with fail
        have hq := fun x : Later (w1) => x.cell
        refine region_later (by kernel_rfl) (by kernel_rfl) ?_
        repeat (go_big_quiet_step ((fail)))
        refine wpQuiet_nil ?_
        intro _ hw'
        obtain ⟨x, rfl⟩ := hw'
        have hB1 : Below w.heap.size w x.wd := Below.on hB2 hB2.size x.below
        clear hq
        have hW1 := Below.on hW2 hW2.size x.below
        go_wp2_with fail
        go_ret
        exact ⟨ret_bool (by unfold rightB; rw [HL.out, allI_false hlt hok.out]; rfl), hB1⟩
      · clear hid1
        rw [show findI (fun i => (Y i).Id == f k) m = (j : Int) from hF] at K
        have e2 : (0 : Int) ≤ (j : Int) := by omega
        have e3 : (j : Int) < (m : Int) := by omega
        have e4 : decide ((j : Int) < 0) = false := by simp
        obtain ⟨r, hr⟩ : ∃ r, fitsB (Y j) d = r := ⟨_, rfl⟩
        have hok : Hid (okG Y m d k = r) := by unfold Hid okG; rw [HF.out, hF]; simp [hr]
        have HR := hid hr
        clear hF hr
        go_wp2_with fail
        refine K.mono ?_
        rintro e w1 ⟨rfl, hb1⟩
        have hB2 : Below w.heap.size w w1 := Below.on hB hB.size hb1
        have hW2 := Below.on hW hW.size hb1
        have lb : b < w1.heap.size := by have := hB2.size; omega
        have lw1 : w.heap.size < w1.heap.size := by have := hb1.size; omega
        have p0 : w1.cell? ⟨b, off + j * 4, none⟩ = some (.int .i64 (Y j).Id) := (hB2.cell hb).trans (H.out.2 j hj 0 (by omega))
        have p1 : w1.cell? ⟨b, off + j * 4 + 1, none⟩ = some (.int .i64 (Y j).Wide) := (hB2.cell hb).trans (H.out.2 j hj 1 (by omega))
        have p2 : w1.cell? ⟨b, off + j * 4 + 2, none⟩ = some (.int .i64 (Y j).High) := (hB2.cell hb).trans (H.out.2 j hj 2 (by omega))
        have p3 : w1.cell? ⟨b, off + j * 4 + 3, none⟩ = some (.int .i64 (Y j).Grams) := (hB2.cell hb).trans (H.out.2 j hj 3 (by omega))
        have x0 : w1.cell? ⟨w.heap.size, 0, none⟩ = some (.int .i64 d.Id) := (hW2.cell (by simp)).trans (by simp [go_sem])
        have x1 : w1.cell? ⟨w.heap.size, 1, none⟩ = some (.int .i64 d.Wide) := (hW2.cell (by simp)).trans (by simp [go_sem])
        have x2 : w1.cell? ⟨w.heap.size, 2, none⟩ = some (.int .i64 d.High) := (hW2.cell (by simp)).trans (by simp [go_sem])
        have x3 : w1.cell? ⟨w.heap.size, 3, none⟩ = some (.int .i64 d.Holds) := (hW2.cell (by simp)).trans (by simp [go_sem])
        have x4 : w1.cell? ⟨w.heap.size, 4, none⟩ = some (.slice (some ⟨g, o, none⟩) n c) := (hW2.cell (by simp)).trans (by simp [go_sem])
        have K2 := hid (fun x : Later w1 => calls_later (fits_impl (Y j) d (.slice (some ⟨g, o, none⟩) n c) x.wd))
        rw [HR.out] at K2
        cases r with
        | false =>
          go_wp2_with fail
          have hq := fun x : Later (w1) => x.cell
          refine region_later (by kernel_rfl) (by kernel_rfl) ?_
          repeat (go_big_quiet_step ((go_at_call 59; refine (K2.out _))))
          refine wpQuiet_nil ?_
          intro _ hw'
          obtain ⟨x, rfl⟩ := hw'
          have hB1 : Below w.heap.size w x.wd := Below.on hB2 hB2.size x.below
          clear hq
          have hW1 := Below.on hW2 hW2.size x.below
          go_wp2_with fail
          go_ret
          exact ⟨ret_bool (by unfold rightB; rw [HL.out, allI_false hlt hok.out]; rfl), hB1⟩
        | true =>
          go_wp2_with fail
          have hq := fun x : Later (w1) => x.cell
          refine region_later (by kernel_rfl) (by kernel_rfl) ?_
          repeat (go_big_quiet_step ((go_at_call 59; refine (K2.out _))))
          refine wpQuiet_nil ?_
          intro _ hw'
          obtain ⟨x, rfl⟩ := hw'
          have hB1 : Below w.heap.size w x.wd := Below.on hB2 hB2.size x.below
          clear hq
          have hW1 := Below.on hW2 hW2.size x.below
          go_wp2_with fail
          go_roundw
          case rel => exact ⟨k + 1, by omega, by go_num, hB1, hW1, fun i hi => by by_cases hik : i < k; exact hf.out i hik; rw [show i = k by omega]; exact hok.out⟩
          case measure => simp [intOf]; omega
    · obtain rfl : k = n := by omega
      have x0 : wr.cell? ⟨w.heap.size, 0, none⟩ = some (.int .i64 d.Id) := (hW.cell (by simp)).trans (by simp [go_sem])
      have x1 : wr.cell? ⟨w.heap.size, 1, none⟩ = some (.int .i64 d.Wide) := (hW.cell (by simp)).trans (by simp [go_sem])
      have x2 : wr.cell? ⟨w.heap.size, 2, none⟩ = some (.int .i64 d.High) := (hW.cell (by simp)).trans (by simp [go_sem])
      have x3 : wr.cell? ⟨w.heap.size, 3, none⟩ = some (.int .i64 d.Holds) := (hW.cell (by simp)).trans (by simp [go_sem])
      have x4 : wr.cell? ⟨w.heap.size, 4, none⟩ = some (.slice a k c) := (hW.cell (by simp)).trans (by simp [go_sem])
      obtain ⟨G, hG⟩ : ∃ G, sumG Y m d.Flats d.Flats.length = G := ⟨_, rfl⟩
      have K := hid (fun x : Later wr => calls_later (grams_impl b off m cap Y d (.slice a k c) x.wd ((H.out.below hB hb).later' x.below) hm hlc ((HD.out.below hB).below x.below) (by rw [HL.out]; omega) (by rw [HL.out]; exact hf.out)))
      rw [hG] at K
      have hres : Hid (rightB Y m d = decide (G ≤ d.Holds)) := by unfold Hid rightB; rw [hG, HL.out, allI_of hf.out]; rfl
      clear hG
      go_wp2_with fail
      have hq := fun x : Later (wr) => x.cell
      refine region_later (by kernel_rfl) (by kernel_rfl) ?_
      repeat (go_big_quiet_step ((go_at_call 73; refine (K.out _))))
      refine wpQuiet_nil ?_
      intro _ hw'
      obtain ⟨x, rfl⟩ := hw'
      have hB1 : Below w.heap.size w x.wd := Below.on hB hB.size x.below
      clear hq
      go_wp2_with fail
      go_ret
      exact ⟨ret_bool hres.out.symm, hB1⟩

end Go.Proofs.Ytejpmomedclnhaa
