/-
  What a drawer weighs, by the reference. No condition.
-/
import Derived.Test.YtejpmomedclnhaaDrawS
namespace Go.Proofs.Ytejpmomedclnhaa
open Go.RowKit
set_option linter.unusedVariables false

set_option maxRecDepth 100000 in
set_option maxHeartbeats 2000000 in
theorem grams_spec (b off m cap : Nat) (Y : Nat → FlatD) (d : DrawerD) (v : Value) (w : World) (h : Rw w b off 4 m (fun i => (Y i).cells)) (hm : m ≤ 1048576) (hlc : m ≤ cap) (hd : HasI w v d.Flats) (hL : d.Flats.length ≤ 1048576) :
    Calls Try.prog 71 #[.slice (some ⟨b, off, none⟩) m cap, d.val v] w fun e w' => e = .returned (.int .i64 (gramsR Y m d)) ∧ Below w.heap.size w w' := by
  have H := hid h
  have hb := h.1
  obtain ⟨f, n, a, c, g, o, hf, hn, rfl, hc, ha, hcell⟩ := hd.named
  have HF := hid hf
  have HL := hid hn
  have HA := hid ha
  have HC := hid hcell
  rw [hn] at hL
  clear h hd hf hn ha hcell
  have hA0 : Below w.heap.size w (w.alloc (.cells #[.int .i64 d.Id, .int .i64 d.Wide, .int .i64 d.High, .int .i64 d.Holds, .slice a n c] 32)) := by go_grown
  go_enter Try.func71, Try.ntmps71
  go_wp2
  go_loopw [5, 6] (fun s i wr => ∃ (k : Nat) (q : Int), k ≤ n ∧ i = .int .i64 k ∧ s = .int .i64 q ∧ Below w.heap.size w wr ∧ Below (w.alloc (.cells #[.int .i64 d.Id, .int .i64 d.Wide, .int .i64 d.High, .int .i64 d.Holds, .slice a n c] 32)).heap.size (w.alloc (.cells #[.int .i64 d.Id, .int .i64 d.Wide, .int .i64 d.High, .int .i64 d.Holds, .slice a n c] 32)) wr ∧ Hid (q = sumG Y m d.Flats k) ∧ Hid (∀ i, i < k → okG Y m d i = true)) (fun _ i _ => n - (intOf i).toNat)
  case atStart => exact ⟨0, 0, by omega, rfl, rfl, hA0, Below.refl _ _, rfl, fun i hi => absurd hi (by omega)⟩
  case round =>
    obtain ⟨k, q, hk, rfl, rfl, hB, hW, hq0, hf⟩ := hrel
    clear hA0
    have lw : w.heap.size < wr.heap.size := by have := hW.size; simp at this; omega
    by_cases hlt : k < n
    · obtain ⟨rfl, hg⟩ := HA.out (by omega)
      have x0 : wr.cell? ⟨w.heap.size, 0, none⟩ = some (.int .i64 d.Id) := (hW.cell (by simp)).trans (by simp [go_sem])
      have x1 : wr.cell? ⟨w.heap.size, 1, none⟩ = some (.int .i64 d.Wide) := (hW.cell (by simp)).trans (by simp [go_sem])
      have x2 : wr.cell? ⟨w.heap.size, 2, none⟩ = some (.int .i64 d.High) := (hW.cell (by simp)).trans (by simp [go_sem])
      have x3 : wr.cell? ⟨w.heap.size, 3, none⟩ = some (.int .i64 d.Holds) := (hW.cell (by simp)).trans (by simp [go_sem])
      have x4 : wr.cell? ⟨w.heap.size, 4, none⟩ = some (.slice (some ⟨g, o, none⟩) n c) := (hW.cell (by simp)).trans (by simp [go_sem])
      have c0 : wr.cell? ⟨g, o + k, none⟩ = some (.int .i64 (f k)) := (hB.cell hg).trans (HC.out k hlt)
      have lg : g < wr.heap.size := by have := hB.size; omega
      have lb : b < wr.heap.size := by have := hB.size; omega
      have K := flatFind_spec wr b off m cap Y (f k) (H.out.below hB hb) hm hlc
      rcases fAt_cases Y m (f k) with hF | ⟨j, hj, hF, hid1⟩
      · rw [show findI (fun i => (Y i).Id == f k) m = -1 from hF] at K
        have hok : Hid (okG Y m d k = false) := by unfold Hid okG; rw [HF.out, hF]; rfl
        clear hF
        go_wp2_with fail
        refine K.mono ?_
        rintro e w' ⟨rfl, rfl⟩
        go_wp2_with fail
        have hq := fun x : Later (wr) => x.cell
        refine region_later (by kernel_rfl) (by kernel_rfl) ?_
        repeat (go_big_quiet_step ((fail)))
        refine wpQuiet_nil ?_
        intro _ hw'
        obtain ⟨x, rfl⟩ := hw'
        have hB1 : Below w.heap.size w x.wd := Below.on hB hB.size x.below
        clear hq
        go_wp2_with fail
        go_ret
        exact ⟨ret_int (by unfold gramsR; rw [if_neg (by rw [HL.out, allI_false hlt hok.out]; simp)]), hB1⟩
      · clear hid1
        rw [show findI (fun i => (Y i).Id == f k) m = (j : Int) from hF] at K
        have e2 : (0 : Int) ≤ (j : Int) := by omega
        have e3 : (j : Int) < (m : Int) := by omega
        have e4 : decide ((j : Int) < 0) = false := by simp
        have p0 : wr.cell? ⟨b, off + j * 4, none⟩ = some (.int .i64 (Y j).Id) := (hB.cell hb).trans (H.out.2 j hj 0 (by omega))
        have p1 : wr.cell? ⟨b, off + j * 4 + 1, none⟩ = some (.int .i64 (Y j).Wide) := (hB.cell hb).trans (H.out.2 j hj 1 (by omega))
        have p2 : wr.cell? ⟨b, off + j * 4 + 2, none⟩ = some (.int .i64 (Y j).High) := (hB.cell hb).trans (H.out.2 j hj 2 (by omega))
        have p3 : wr.cell? ⟨b, off + j * 4 + 3, none⟩ = some (.int .i64 (Y j).Grams) := (hB.cell hb).trans (H.out.2 j hj 3 (by omega))
        obtain ⟨r, hr⟩ : ∃ r, fitsB (Y j) d = r := ⟨_, rfl⟩
        have K2 := hid (fun x : Later wr => calls_later (fits_spec (Y j) d (.slice (some ⟨g, o, none⟩) n c) x.wd))
        rw [hr] at K2
        have hok : Hid (okG Y m d k = r) := by unfold Hid okG; rw [HF.out, hF]; simp [hr]
        have hgo : Hid (gOf Y m (d.Flats.getD k 0) = (Y j).Grams) := by unfold Hid gOf; rw [HF.out, hF]; simp
        clear hF hr
        cases r with
        | false =>
          go_wp2_with fail
          refine K.mono ?_
          rintro e w' ⟨rfl, rfl⟩
          go_wp2_with fail
          have hq := fun x : Later (wr) => x.cell
          refine region_later (by kernel_rfl) (by kernel_rfl) ?_
          repeat (go_big_quiet_step ((go_at_call 55; refine (K2.out _))))
          refine wpQuiet_nil ?_
          intro _ hw'
          obtain ⟨x, rfl⟩ := hw'
          have hB1 : Below w.heap.size w x.wd := Below.on hB hB.size x.below
          clear hq
          have hW1 := Below.on hW hW.size x.below
          have p3x : x.wd.cell? ⟨b, off + j * 4 + 3, none⟩ = some (.int .i64 (Y j).Grams) := (x.cell _ _ lb).trans p3
          go_wp2_with fail
          go_ret
          exact ⟨ret_int (by unfold gramsR; rw [if_neg (by rw [HL.out, allI_false hlt hok.out]; simp)]), hB1⟩
        | true =>
          go_wp2_with fail
          refine K.mono ?_
          rintro e w' ⟨rfl, rfl⟩
          go_wp2_with fail
          have hq := fun x : Later (wr) => x.cell
          refine region_later (by kernel_rfl) (by kernel_rfl) ?_
          repeat (go_big_quiet_step ((go_at_call 55; refine (K2.out _))))
          refine wpQuiet_nil ?_
          intro _ hw'
          obtain ⟨x, rfl⟩ := hw'
          have hB1 : Below w.heap.size w x.wd := Below.on hB hB.size x.below
          clear hq
          have hW1 := Below.on hW hW.size x.below
          have p3x : x.wd.cell? ⟨b, off + j * 4 + 3, none⟩ = some (.int .i64 (Y j).Grams) := (x.cell _ _ lb).trans p3
          go_wp2_with fail
          go_roundw
          case rel => exact ⟨k + 1, _, by omega, by go_num, rfl, hB1, hW1, by unfold Hid; show _ = IntKind.i64.wrap _; rw [hgo.out, ← hq0.out]; exact (IntWalk.i64_left _).symm, fun i hi => by by_cases hik : i < k; exact hf.out i hik; rw [show i = k by omega]; exact hok.out⟩
          case measure => simp [intOf]; omega
    · obtain rfl : k = n := by omega
      have x0 : wr.cell? ⟨w.heap.size, 0, none⟩ = some (.int .i64 d.Id) := (hW.cell (by simp)).trans (by simp [go_sem])
      have x1 : wr.cell? ⟨w.heap.size, 1, none⟩ = some (.int .i64 d.Wide) := (hW.cell (by simp)).trans (by simp [go_sem])
      have x2 : wr.cell? ⟨w.heap.size, 2, none⟩ = some (.int .i64 d.High) := (hW.cell (by simp)).trans (by simp [go_sem])
      have x3 : wr.cell? ⟨w.heap.size, 3, none⟩ = some (.int .i64 d.Holds) := (hW.cell (by simp)).trans (by simp [go_sem])
      have x4 : wr.cell? ⟨w.heap.size, 4, none⟩ = some (.slice a k c) := (hW.cell (by simp)).trans (by simp [go_sem])
      go_wp2_with fail
      go_ret
      exact ⟨ret_int (by unfold gramsR; rw [HL.out, if_pos (allI_true.2 hf.out)]; exact hq0.out), hB⟩

end Go.Proofs.Ytejpmomedclnhaa
