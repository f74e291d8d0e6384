/-
  slices.DeleteFunc over numbers of the call's own: what is kept. No condition.
-/
import Derived.Test.YtejpmomedclnhaaInts
namespace Go.Proofs.Ytejpmomedclnhaa
open Go.RowKit
set_option linter.unusedVariables false

/-- Of the first j numbers those that are kept. -/
def keptI (pd : Int → Bool) (L : List Int) (j : Nat) : List Int := (L.take j).filter (fun s => !pd s)
theorem keptI_yes {pd : Int → Bool} {L : List Int} {j : Nat} (hj : j < L.length) (h : pd (L.getD j 0) = true) : keptI pd L (j + 1) = keptI pd L j := by
  unfold keptI
  rw [List.take_add_one, List.filter_append, List.getElem?_eq_getElem hj]
  simp [List.getD, hj] at h
  simp [h]
theorem keptI_no {pd : Int → Bool} {L : List Int} {j : Nat} (hj : j < L.length) (h : pd (L.getD j 0) = false) : keptI pd L (j + 1) = keptI pd L j ++ [L.getD j 0] := by
  unfold keptI
  rw [List.take_add_one, List.filter_append, List.getElem?_eq_getElem hj]
  simp [List.getD, hj] at h
  simp [h, List.getD, hj]
theorem keptI_none {pd : Int → Bool} {L : List Int} {j : Nat} (h : ∀ i, i < j → pd (L.getD i 0) = false) (hj : j ≤ L.length) : keptI pd L j = L.take j := by
  unfold keptI
  rw [List.filter_eq_self]
  intro s hs
  obtain ⟨i, hi⟩ := List.getElem?_of_mem hs
  have hil := (List.getElem?_eq_some_iff.1 hi).1
  have hij : i < j := by simp at hil; omega
  rw [List.getElem?_take_of_lt hij] at hi
  have := h i hij
  simp [List.getD, hi] at this
  simp [this]
theorem zero_int (w : World) : (zeroValue 3).run Try.prog w = .ok (.int .i64 0) w := by kernel_rfl
theorem OwnI.cut {B g n cap : Nat} {w : World} {L : List Int} (h : OwnI B w (.slice (some ⟨g, 0, none⟩) n cap) L) (hn : L.length = n) {k : Nat} (hk : k ≤ n) : OwnI B w (.slice (some ⟨g, 0, none⟩) k cap) (L.take k) := by
  have hl : (L.take k).length = k := by simp; omega
  refine ⟨by simp, ?_⟩
  rw [hl]
  rcases h.2 with ⟨h0, _⟩ | ⟨g', cap', cur, hv, hb, hg, hnc, hcm, hcs, htk⟩
  · cases h0
  · cases hv
    refine .inr ⟨g, cap, cur, rfl, hb, hg, by omega, hcm, hcs, ?_⟩
    rw [List.map_take, ← htk, List.take_take, Nat.min_eq_left (by omega), Nat.mul_one]
theorem OwnI.put {B g n cap : Nat} {w : World} {L : List Int} (h : OwnI B w (.slice (some ⟨g, 0, none⟩) n cap) L) (hn : L.length = n) {k : Nat} (hk : k < n) (s : Int) : OwnI B (w.setCell ⟨g, k, none⟩ (.int .i64 s)) (.slice (some ⟨g, 0, none⟩) n cap) (L.set k s) := by
  unfold OwnI at h ⊢
  rw [List.length_set, List.map_set]
  rw [hn] at h ⊢
  exact (World.ownsRow.stored h _ _).1
theorem OwnI.clear {B g k cap : Nat} {w : World} {L : List Int} (h : OwnI B w (.slice (some ⟨g, 0, none⟩) k cap) L) (hk : L.length = k) (vs : List Value) (o : Nat) (ho : k ≤ o) : OwnI B (w.setCells g o vs) (.slice (some ⟨g, 0, none⟩) k cap) L := by
  unfold OwnI at h ⊢
  rw [hk] at h ⊢
  exact ownsRow_cells vs o h (by omega)
theorem take_set_snocI (L : List Int) (k : Nat) (s : Int) (h : k < L.length) : (L.set k s).take (k + 1) = L.take k ++ [s] := by
  rw [List.take_add_one, List.take_set_of_le (Nat.le_refl _)]
  simp [h]
theorem set_get_I (L : List Int) (s : Int) (k i : Nat) (h : i ≠ k) : (L.set k s).getD i 0 = L.getD i 0 := by
  simp [List.getD, List.getElem?_set, Ne.symm h]

set_option maxRecDepth 100000 in
set_option maxHeartbeats 2000000 in
theorem deleteInt (w : World) (g n cap B : Nat) (L : List Int) (h : OwnI B w (.slice (some ⟨g, 0, none⟩) n cap) L) (hn : L.length = n) (hL : n ≤ 1048576) (f : FuncId) (cs : Array Value) (pd : Int → Bool)
    (hcall : ∀ args w, (callFunc f args).run Try.prog w = .ok (.enter f args) w) (hg : ∀ (w' : World), Only (fun i => i = g) w w' → ∀ s : Int, Calls Try.prog f (#[.int .i64 s] ++ cs) w' fun e w'' => e = .returned (.bool (pd s)) ∧ Below w'.heap.size w' w'') :
    Calls Try.prog 79 #[.slice (some ⟨g, 0, none⟩) n cap, .func (.func f) #[] cs] w fun e w' => ∃ k, e = .returned (.slice (some ⟨g, 0, none⟩) k cap) ∧ k = (L.filter (fun s => !pd s)).length ∧ OwnI B w' (.slice (some ⟨g, 0, none⟩) k cap) (L.filter (fun s => !pd s)) ∧ Only (fun i => i = g) w w' := by
  have HO := hid h
  have HG := hid hg
  obtain ⟨hgl, hnc, hhas⟩ : g < w.heap.size ∧ n ≤ cap ∧ HasI w (.slice (some ⟨g, 0, none⟩) n cap) L := by
    rcases h.form with ⟨h0, _⟩ | ⟨g', cap', h0, h1, h2, h3, _⟩
    · cases h0
    · rw [hn] at h0 h3; cases h0; exact ⟨h2, h3, h.has (by simp)⟩
  have HL := hid hn
  have KI := idx_int w (.slice (some ⟨g, 0, none⟩) n cap) L f cs (fun i => pd (L.getD i 0)) hcall hhas (by omega) (fun x i hi => HG.out x.wd (Only.of_below x.below) _)
  rw [hn] at KI
  clear h hg hhas hn
  rcases findI_cases (fun i => pd (L.getD i 0)) n with hk | ⟨i, hi, hk, hpi⟩
  · rw [hk] at KI
    have hres : Hid (L.filter (fun s => !pd s) = L) := by
      have := keptI_none (pd := pd) (L := L) (j := n) (fun i hi => findI_none hk i hi) (by rw [HL.out]; exact Nat.le_refl _)
      unfold keptI at this
      rw [List.take_of_length_le (by rw [HL.out]; exact Nat.le_refl _)] at this
      exact this
    clear hk
    go_enter Try.func79, Try.ntmps79
    go_wp2_with fail
    refine KI.mono ?_
    rintro e w1 ⟨rfl, hb1⟩
    go_wp2_with fail
    go_ret
    exact ⟨n, rfl, by rw [hres.out, HL.out], by rw [hres.out]; exact HO.out.below hb1, Only.of_below hb1⟩
  · rw [hk] at KI
    have hK0 : Hid (keptI pd L (i + 1) = L.take i) := by
      unfold Hid
      rw [keptI_yes (by rw [HL.out]; exact hi) hpi, keptI_none (fun j hj => by have := findI_least hk j hj; simpa using this) (by rw [HL.out]; omega)]
    have e5 : ((i : Int) == -1) = false := by simp
    clear hk hpi
    go_enter Try.func79, Try.ntmps79
    go_wp2_with fail
    refine KI.mono ?_
    rintro e w1 ⟨rfl, hb1⟩
    go_wp2_with fail
    go_loopw [5, 6] (fun a q wr => ∃ (k j : Nat) (L' : List Int), j ≤ n ∧ k < j ∧ a = .int .i64 k ∧ q = .int .i64 j ∧ Hid (k = (keptI pd L j).length) ∧ Only (fun i => i = g) w wr ∧ Hid (OwnI B wr (.slice (some ⟨g, 0, none⟩) n cap) L') ∧ Hid (L'.length = n ∧ L'.take k = keptI pd L j ∧ ∀ t, j ≤ t → L'.getD t 0 = L.getD t 0)) (fun _ q _ => n - (intOf q).toNat)
    case atStart => exact ⟨i, i + 1, L, by omega, by omega, rfl, by go_num, by unfold Hid; rw [hK0.out]; simp [HL.out]; omega, Only.of_below hb1, HO.out.below hb1, HL.out, hK0.out.symm, fun t _ => rfl⟩
    case round =>
      obtain ⟨k, j, L', hj, hkj, rfl, rfl, hkl, hBr, ho, hf⟩ := hrel
      have lg : g < wr.heap.size := by have := hBr.size; omega
      obtain ⟨hcell, hfz, hblk⟩ : (∀ t, t < n → wr.cell? ⟨g, t, none⟩ = some (.int .i64 (L'.getD t 0))) ∧ (∀ o, wr.frozen? ⟨g, o, none⟩ = false) ∧ Blk 3 g cap wr := by
        rcases ho.out.2 with ⟨h0, _⟩ | ⟨g', cap', cur, h0, h1, h2, h3, h4, h5, h6⟩
        · cases h0
        · rcases ho.out.form with ⟨h9, _⟩ | ⟨g2, cap2, h9, _, _, _, _, hc, hz⟩
          · cases h9
          · rw [hf.out.1] at h9 hc
            cases h0; cases h9
            exact ⟨hc, hz, cur, h2, by simpa using h5⟩
      by_cases hlt : j < n
      · obtain ⟨s, hs⟩ : ∃ s, L.getD j 0 = s := ⟨_, rfl⟩
        have hs' : L'.getD j 0 = s := (hf.out.2.2 j (Nat.le_refl _)).trans hs
        have c0 : wr.cell? ⟨g, j, none⟩ = some (.int .i64 s) := by rw [← hs']; exact hcell j hlt
        have KC := HG.out _ hBr s
        obtain ⟨r, hr⟩ : ∃ r, pd s = r := ⟨_, rfl⟩
        rw [hr] at KC
        cases r with
        | true =>
          have hkp : Hid (keptI pd L (j + 1) = keptI pd L j) := keptI_yes (by rw [HL.out]; exact hlt) (by rw [hs]; exact hr)
          clear hcell hblk hs hs' hr
          go_wp2_with fail
          refine KC.mono ?_
          rintro e w2 ⟨rfl, hb2⟩
          have hB2 : Only (fun i => i = g) w w2 := hBr.trans (Only.of_below hb2)
          go_wp2_with fail
          go_roundw
          case rel => exact ⟨k, j + 1, L', by omega, by omega, rfl, by go_num, by unfold Hid; rw [hkp.out]; exact hkl.out, hB2, ho.out.below hb2, hf.out.1, by rw [hkp.out]; exact hf.out.2.1, fun t ht => hf.out.2.2 t (by omega)⟩
          case measure => simp [intOf]; omega
        | false =>
          have hkp : Hid (keptI pd L (j + 1) = keptI pd L j ++ [s]) := by have := keptI_no (pd := pd) (L := L) (by rw [HL.out]; exact hlt) (by rw [hs]; exact hr); rw [hs] at this; exact this
          have d0 := hcell k (by omega)
          clear hcell hs hs' hr
          go_wp2_with fail
          refine KC.mono ?_
          rintro e w2 ⟨rfl, hb2⟩
          have hB2 : Only (fun i => i = g) w w2 := hBr.trans (Only.of_below hb2)
          have ho2 := hid (ho.out.below hb2)
          have q0 : w2.cell? ⟨g, k, none⟩ = some (.int .i64 (L'.getD k 0)) := (hb2.cell lg).trans d0
          have z0 : w2.frozen? ⟨g, k, none⟩ = false := (hb2.frozen lg).trans (hfz k)
          have e6 : (0 : Int) ≤ (k : Int) := by omega
          have e7 : (k : Int) < (n : Int) := by omega
          clear c0 hblk d0
          go_wp2_with fail
          go_roundw
          case rel => exact ⟨k + 1, j + 1, L'.set k s, by omega, by omega, by go_num, by go_num, by unfold Hid; rw [hkp.out]; simp; exact hkl.out, hB2.trans (Only.of_grown (grownBy_set _ _ _ _) rfl), ho2.out.put hf.out.1 (by omega) s, by simp [hf.out.1], by rw [hkp.out, ← hf.out.2.1]; exact take_set_snocI L' k s (by have := hf.out.1; omega), fun t ht => by rw [set_get_I L' s k t (by omega)]; exact hf.out.2.2 t (by omega)⟩
          case measure => simp [intOf]; omega
      · obtain rfl : j = n := by omega
        have hcl : ∀ ty, (Builtin.clear_ #[24] ty #[.slice (some ⟨g, k, none⟩) (j - k) (cap - k)]).run Try.prog wr = .ok (.tuple #[]) (wr.setCells g k (List.replicate (j - k) (.int .i64 0))) := fun ty =>
          Lib.run_clear_slice wr 24 3 ty (.int .i64 0) Try.underlying24 zero_int rfl rfl g k (j - k) (cap - k) (by omega) (fun t ht => by rw [hcell (k + t) (by omega)]; rfl) (fun t ht => hfz _)
        have hres : Hid (L.filter (fun s => !pd s) = L'.take k) := by
          unfold Hid
          rw [hf.out.2.1]
          unfold keptI
          rw [List.take_of_length_le (by rw [HL.out]; exact Nat.le_refl _)]
        have ho2 := hid (ho.out.cut hf.out.1 (k := k) (by omega))
        have e6 : (0 : Int) ≤ (k : Int) := by omega
        have e7 : (k : Int) ≤ (j : Int) := by omega
        have e8 : (j : Int) ≤ (cap : Int) := by omega
        have e9 : (k : Int) ≤ (cap : Int) := by omega
        have hlen := hf.out.1
        clear hblk hcell hfz
        go_wp2_with fail
        go_ret
        exact ⟨k, rfl, by rw [hres.out]; simp; omega, by rw [hres.out]; exact ho2.out.clear (by simp; omega) _ _ (Nat.le_refl _), hBr.trans (Only.of_grown (grownBy_cells _ _ _) rfl)⟩
end Go.Proofs.Ytejpmomedclnhaa
