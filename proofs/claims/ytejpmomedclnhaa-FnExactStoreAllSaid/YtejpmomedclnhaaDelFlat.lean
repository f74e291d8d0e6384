/-
  slices.DeleteFunc over flats of the call's own: what is kept. No condition.
-/
import Derived.Test.YtejpmomedclnhaaCloneFlat
import Derived.Test.YtejpmomedclnhaaDrawI
namespace Go.Proofs.Ytejpmomedclnhaa
open Go.RowKit
set_option linter.unusedVariables false

theorem ownsRow_hi {w : World} {B size g n cap : Nat} {e : TypeId} {xs : List Value} (h : w.ownsRow B e size (.slice (some ⟨g, 0, none⟩) n cap) n xs) (o : Nat) (v : Value) (ho : n * size ≤ o) : (w.setCell ⟨g, o, none⟩ v).ownsRow B e size (.slice (some ⟨g, 0, none⟩) n cap) n xs := by
  refine ⟨h.1, ?_⟩
  rcases h.2 with ⟨h0, _⟩ | ⟨g', cap', cur, hv, hb, hg, hnc, hcm, hcs, htk⟩
  · cases h0
  · cases hv
    refine .inr ⟨g, cap, cur.setIfInBounds o v, rfl, hb, heap_setCell_same w g o cur e v hg, hnc, hcm, by simpa using hcs, ?_⟩
    rw [← htk]
    apply List.ext_getElem?
    intro t
    by_cases ht : t < n * size
    · rw [List.getElem?_take_of_lt ht, List.getElem?_take_of_lt ht]
      simp only [Array.getElem?_toList, Array.getElem?_setIfInBounds]
      rw [if_neg (by omega)]
    · rw [List.getElem?_eq_none (by simp; omega), List.getElem?_eq_none (by simp; omega)]
theorem ownsRow_cells {B size g n cap : Nat} {e : TypeId} {xs : List Value} : ∀ (vs : List Value) (o : Nat) {w : World}, w.ownsRow B e size (.slice (some ⟨g, 0, none⟩) n cap) n xs → n * size ≤ o → (w.setCells g o vs).ownsRow B e size (.slice (some ⟨g, 0, none⟩) n cap) n xs
  | [], o, w, h, ho => h
  | v :: vs, o, w, h, ho => ownsRow_cells vs (o + 1) (ownsRow_hi h o v ho) (by omega)
theorem grownBy_cells {g : Nat} : ∀ (vs : List Value) (o : Nat) (w : World), w.grownBy (w.setCells g o vs) (some g)
  | [], o, w => World.grownBy.refl _ _
  | v :: vs, o, w => grownBy_trans (grownBy_set w g o v) (grownBy_cells vs (o + 1) _)
theorem OwnFlat.clear {B g k cap : Nat} {w : World} {L : List FlatD} (h : OwnFlat B w (.slice (some ⟨g, 0, none⟩) k cap) L) (hk : L.length = k) (vs : List Value) (o : Nat) (ho : k * 4 ≤ o) : OwnFlat B (w.setCells g o vs) (.slice (some ⟨g, 0, none⟩) k cap) L := by
  unfold OwnFlat at h ⊢
  rw [hk] at h ⊢
  exact ownsRow_cells vs o h ho
theorem flat_take_Flat : ∀ (L : List FlatD) (k : Nat), (L.take k).flatMap FlatD.cells = (L.flatMap FlatD.cells).take (k * 4)
  | [], k => by simp
  | a :: L, 0 => by simp
  | a :: L, k + 1 => by
    rw [List.take_succ_cons, List.flatMap_cons, List.flatMap_cons, flat_take_Flat L k, show (k + 1) * 4 = a.cells.length + k * 4 by rw [cells_len_Flat]; omega, List.take_length_add_append]
theorem OwnFlat.cut {B g n cap : Nat} {w : World} {L : List FlatD} (h : OwnFlat B w (.slice (some ⟨g, 0, none⟩) n cap) L) (hn : L.length = n) {k : Nat} (hk : k ≤ n) : OwnFlat B w (.slice (some ⟨g, 0, none⟩) k cap) (L.take k) := by
  have hl : (L.take k).length = k := by simp; omega
  refine ⟨by rw [flat_len_Flat], ?_⟩
  rw [hl]
  rcases h.2 with ⟨h0, _⟩ | ⟨g', cap', cur, hv, hb, hg, hnc, hcm, hcs, htk⟩
  · cases h0
  · cases hv
    refine .inr ⟨g, cap, cur, rfl, hb, hg, by omega, hcm, hcs, ?_⟩
    have ht := flat_take_Flat L k
    rw [ht, ← htk, List.take_take, Nat.min_eq_left (by have := Nat.mul_le_mul_right 4 hk; rw [hn]; omega)]
theorem OwnFlat.put {B g n cap : Nat} {w : World} {L : List FlatD} (h : OwnFlat B w (.slice (some ⟨g, 0, none⟩) n cap) L) (hn : L.length = n) {k : Nat} (hk : k < n) (s : FlatD) :
    OwnFlat B ((((w.setCell ⟨g, k * 4, none⟩ (.int .i64 s.Id)).setCell ⟨g, k * 4 + 1, none⟩ (.int .i64 s.Wide)).setCell ⟨g, k * 4 + 2, none⟩ (.int .i64 s.High)).setCell ⟨g, k * 4 + 3, none⟩ (.int .i64 s.Grams)) (.slice (some ⟨g, 0, none⟩) n cap) (L.set k s) := by
  rw [← set_self_Flat L k (by omega)] at h
  exact (((h.set_Id hn.symm hk s.Id).set_Wide hn.symm hk s.Wide).set_High hn.symm hk s.High).set_Grams hn.symm hk s.Grams
theorem zero_flat (w : World) : (zeroValue 30).run Try.prog w = .ok (.agg #[.int .i64 0, .int .i64 0, .int .i64 0, .int .i64 0]) w := by kernel_rfl
theorem zeroCells_flat (n : Nat) : (Builtin.zeroCells #[.int .i64 0, .int .i64 0, .int .i64 0, .int .i64 0] n).toList = List.replicate (n * 4) (.int .i64 0) := by
  simp [Builtin.zeroCells]
  apply List.ext_getElem
  · simp
  · intro i h1 h2
    have h4 : i % 4 < 4 := Nat.mod_lt _ (by omega)
    have : i % 4 = 0 ∨ i % 4 = 1 ∨ i % 4 = 2 ∨ i % 4 = 3 := by omega
    rcases this with h | h | h | h <;> simp [h]
theorem run_clear_flat (w : World) (ty : TypeId) (b o n c : Nat) (hn : 0 < n) (hc : ∀ j, j < n * 4 → (w.cell? ⟨b, o + j, none⟩).isSome = true) (hf : ∀ j, j < n * 4 → w.frozen? ⟨b, o + j, none⟩ = false) :
    (Builtin.clear_ #[41] ty #[.slice (some ⟨b, o, none⟩) n c]).run Try.prog w = .ok (.tuple #[]) (w.setCells b o (List.replicate (n * 4) (.int .i64 0))) := by
  have hst := run_storeCells_cells (P := Try.prog) b o (List.replicate (n * 4) (.int .i64 0)) 0 w (by simpa using hc) (by simpa using hf) (by intro v hv'; rw [List.eq_of_mem_replicate hv']; rfl)
  simp only [Nat.add_zero] at hst
  have hz := zeroCells_flat n
  obtain ⟨m, rfl⟩ : ∃ m, n = m + 1 := ⟨n - 1, by omega⟩
  simp [Builtin.clear_, run_underlying Try.underlying41, zero_flat, Value.cells, hz, hst]

/-- Of the first j flats those that are kept. -/
def keptF (pd : FlatD → Bool) (L : List FlatD) (j : Nat) : List FlatD := (L.take j).filter (fun s => !pd s)
theorem keptF_yes {pd : FlatD → Bool} {L : List FlatD} {j : Nat} (hj : j < L.length) (h : pd (L.getD j default) = true) : keptF pd L (j + 1) = keptF pd L j := by
  unfold keptF
  rw [List.take_add_one, List.filter_append, List.getElem?_eq_getElem hj]
  simp [List.getD, hj] at h
  simp [h]
theorem keptF_no {pd : FlatD → Bool} {L : List FlatD} {j : Nat} (hj : j < L.length) (h : pd (L.getD j default) = false) : keptF pd L (j + 1) = keptF pd L j ++ [L.getD j default] := by
  unfold keptF
  rw [List.take_add_one, List.filter_append, List.getElem?_eq_getElem hj]
  simp [List.getD, hj] at h
  simp [h, List.getD, hj]
theorem keptF_le (pd : FlatD → Bool) (L : List FlatD) (j : Nat) : (keptF pd L j).length ≤ j := by
  unfold keptF
  exact Nat.le_trans (List.length_filter_le _ _) (by simp; omega)
theorem keptF_none {pd : FlatD → Bool} {L : List FlatD} {j : Nat} (h : ∀ i, i < j → pd (L.getD i default) = false) (hj : j ≤ L.length) : keptF pd L j = L.take j := by
  unfold keptF
  rw [List.filter_eq_self]
  intro s hs
  obtain ⟨i, hi⟩ := List.getElem?_of_mem hs
  have hil := (List.getElem?_eq_some_iff.1 hi).1
  have hij : i < j := by simp at hil; omega
  rw [List.getElem?_take_of_lt hij] at hi
  have := h i hij
  simp [List.getD, hi] at this
  simp [this]

theorem take_set_snoc (L : List FlatD) (k : Nat) (s : FlatD) (h : k < L.length) : (L.set k s).take (k + 1) = L.take k ++ [s] := by
  rw [List.take_add_one, List.take_set_of_le (Nat.le_refl _)]
  simp [h]

set_option maxRecDepth 100000 in
set_option maxHeartbeats 2000000 in
theorem deleteFlat (w : World) (g n cap B : Nat) (L : List FlatD) (h : OwnFlat B w (.slice (some ⟨g, 0, none⟩) n cap) L) (hn : L.length = n) (hL : n ≤ 1048576) (hB : B ≤ w.heap.size) (f : FuncId) (cs : Array Value) (pd : FlatD → Bool)
    (hcall : ∀ args w, (callFunc f args).run Try.prog w = .ok (.enter f args) w) (hg : ∀ (w' : World), Below B w w' → ∀ s : FlatD, Calls Try.prog f (#[s.val] ++ cs) w' fun e w'' => e = .returned (.bool (pd s)) ∧ Below w'.heap.size w' w'') :
    Calls Try.prog 102 #[.slice (some ⟨g, 0, none⟩) n cap, .func (.func f) #[] cs] w fun e w' => ∃ k, e = .returned (.slice (some ⟨g, 0, none⟩) k cap) ∧ k = (L.filter (fun s => !pd s)).length ∧ OwnFlat B w' (.slice (some ⟨g, 0, none⟩) k cap) (L.filter (fun s => !pd s)) ∧ Below B w w' := by
  have HO := hid h
  have HG := hid hg
  obtain ⟨hgB, hgl, hnc, hrw⟩ : B ≤ g ∧ g < w.heap.size ∧ n ≤ cap ∧ Rw w g 0 4 n (fun i => (L.getD i default).cells) := by
    rcases h.form with ⟨h0, _⟩ | ⟨g', cap', h0, h1, h2, h3, _, h4, _⟩
    · cases h0
    · rw [hn] at h0 h3 h4; cases h0; exact ⟨h1, h2, h3, h4⟩
  have HL := hid hn
  have KI := idx_flat w g 0 n cap (fun i => L.getD i default) f cs (fun i => pd (L.getD i default)) hcall hrw hL hnc (fun x i hi => HG.out x.wd (x.below.mono hB) _)
  clear h hg hrw hn
  rcases findI_cases (fun i => pd (L.getD i default)) n with hk | ⟨i, hi, hk, hpi⟩
  · rw [hk] at KI
    have hres : Hid (L.filter (fun s => !pd s) = L) := by
      have := keptF_none (pd := pd) (L := L) (j := n) (fun i hi => findI_none hk i hi) (by rw [HL.out]; exact Nat.le_refl _)
      unfold keptF at this
      rw [List.take_of_length_le (by rw [HL.out]; exact Nat.le_refl _)] at this
      exact this
    clear hk
    go_enter Try.func102, Try.ntmps102
    go_wp2_with fail
    refine KI.mono ?_
    rintro e w1 ⟨rfl, hb1⟩
    go_wp2_with fail
    go_ret
    exact ⟨n, rfl, by rw [hres.out, HL.out], by rw [hres.out]; exact HO.out.below hb1, hb1.mono hB⟩
  · rw [hk] at KI
    have hK0 : Hid (keptF pd L (i + 1) = L.take i) := by
      unfold Hid
      rw [keptF_yes (by rw [HL.out]; exact hi) hpi, keptF_none (fun j hj => by have := findI_least hk j hj; simpa using this) (by rw [HL.out]; omega)]
    have e5 : ((i : Int) == -1) = false := by simp
    clear hk hpi
    go_enter Try.func102, Try.ntmps102
    go_wp2_with fail
    refine KI.mono ?_
    rintro e w1 ⟨rfl, hb1⟩
    go_wp2_with fail
    go_loopw [5, 6] (fun a q wr => ∃ (k j : Nat) (L' : List FlatD), j ≤ n ∧ k < j ∧ a = .int .i64 k ∧ q = .int .i64 j ∧ Hid (k = (keptF pd L j).length) ∧ Below B w wr ∧ Hid (OwnFlat B wr (.slice (some ⟨g, 0, none⟩) n cap) L') ∧ Hid (L'.length = n ∧ L'.take k = keptF pd L j ∧ ∀ t, j ≤ t → L'.getD t default = L.getD t default)) (fun _ q _ => n - (intOf q).toNat)
    case atStart => exact ⟨i, i + 1, L, by omega, by omega, rfl, by go_num, by unfold Hid; rw [hK0.out]; simp [HL.out]; omega, hb1.mono hB, HO.out.below hb1, HL.out, hK0.out.symm, fun t _ => rfl⟩
    case round =>
      obtain ⟨k, j, L', hj, hkj, rfl, rfl, hkl, hBr, ho, hf⟩ := hrel
      have HB1 : B ≤ wr.heap.size := by have := hBr.size; omega
      have lg : g < wr.heap.size := by have := hBr.size; omega
      obtain ⟨hrw, hblk⟩ : Rw wr g 0 4 n (fun i => (L'.getD i default).cells) ∧ Blk 30 g (cap * 4) wr := by
        rcases ho.out.form with ⟨h0, _⟩ | ⟨g', cap', h0, h1, h2, h3, _, h4, h5⟩
        · cases h0
        · rw [hf.out.1] at h0 h4; cases h0; exact ⟨h4, h5⟩
      by_cases hlt : j < n
      · obtain ⟨s, hs⟩ : ∃ s, L.getD j default = s := ⟨_, rfl⟩
        have hs' : L'.getD j default = s := (hf.out.2.2 j (Nat.le_refl _)).trans hs
        have c0 : wr.cell? ⟨g, j * 4, none⟩ = some (.int .i64 s.Id) := by have := hrw.2 j hlt 0 (by omega); simp only [hs'] at this; rw [show 0 + j * 4 + 0 = j * 4 by omega] at this; exact this
        have c1 : wr.cell? ⟨g, j * 4 + 1, none⟩ = some (.int .i64 s.Wide) := by have := hrw.2 j hlt 1 (by omega); simp only [hs'] at this; rw [show 0 + j * 4 + 1 = j * 4 + 1 by omega] at this; exact this
        have c2 : wr.cell? ⟨g, j * 4 + 2, none⟩ = some (.int .i64 s.High) := by have := hrw.2 j hlt 2 (by omega); simp only [hs'] at this; rw [show 0 + j * 4 + 2 = j * 4 + 2 by omega] at this; exact this
        have c3 : wr.cell? ⟨g, j * 4 + 3, none⟩ = some (.int .i64 s.Grams) := by have := hrw.2 j hlt 3 (by omega); simp only [hs'] at this; rw [show 0 + j * 4 + 3 = j * 4 + 3 by omega] at this; exact this
        have hA : Below wr.heap.size wr (wr.alloc (.cells #[.int .i64 s.Id, .int .i64 s.Wide, .int .i64 s.High, .int .i64 s.Grams] 30)) := by go_grown
        have hBA : Below B w (wr.alloc (.cells #[.int .i64 s.Id, .int .i64 s.Wide, .int .i64 s.High, .int .i64 s.Grams] 30)) := Below.trans hBr (hA.mono HB1)
        have KC := HG.out _ hBA s
        obtain ⟨r, hr⟩ : ∃ r, pd s = r := ⟨_, rfl⟩
        rw [hr] at KC
        cases r with
        | true =>
          have hkp : Hid (keptF pd L (j + 1) = keptF pd L j) := keptF_yes (by rw [HL.out]; exact hlt) (by rw [hs]; exact hr)
          clear hrw hblk hs hs' hr
          go_wp2_with fail
          refine KC.mono ?_
          rintro e w2 ⟨rfl, hb2⟩
          have hB2 : Below B w w2 := hBA.trans (hb2.mono (by simp; omega))
          go_wp2_with fail
          go_roundw
          case rel => exact ⟨k, j + 1, L', by omega, by omega, rfl, by go_num, by unfold Hid; rw [hkp.out]; exact hkl.out, hB2, (ho.out.below hA).below hb2, hf.out.1, by rw [hkp.out]; exact hf.out.2.1, fun t ht => hf.out.2.2 t (by omega)⟩
          case measure => simp [intOf]; omega
        | false =>
          have hkp : Hid (keptF pd L (j + 1) = keptF pd L j ++ [s]) := by have := keptF_no (pd := pd) (L := L) (by rw [HL.out]; exact hlt) (by rw [hs]; exact hr); rw [hs] at this; exact this
          clear hrw hs hs' hr
          go_wp2_with fail
          refine KC.mono ?_
          rintro e w2 ⟨rfl, hb2⟩
          have hB2 : Below B w w2 := hBA.trans (hb2.mono (by simp; omega))
          have hblk2 : Blk 30 g (cap * 4) w2 := by
            obtain ⟨arr, a1, a2⟩ := hblk
            exact ⟨arr, (hb2.block g (by simp; omega)).trans ((hA.block g lg).trans a1), a2⟩
          have ho2 := hid ((ho.out.below hA).below hb2)
          have y0 : w2.cell? ⟨wr.heap.size, 0, none⟩ = some (.int .i64 s.Id) := (hb2.cell (by simp)).trans (by simp [go_sem])
          have y1 : w2.cell? ⟨wr.heap.size, 1, none⟩ = some (.int .i64 s.Wide) := (hb2.cell (by simp)).trans (by simp [go_sem])
          have y2 : w2.cell? ⟨wr.heap.size, 2, none⟩ = some (.int .i64 s.High) := (hb2.cell (by simp)).trans (by simp [go_sem])
          have y3 : w2.cell? ⟨wr.heap.size, 3, none⟩ = some (.int .i64 s.Grams) := (hb2.cell (by simp)).trans (by simp [go_sem])
          have lN : wr.heap.size < w2.heap.size := by have := hb2.size; simp at this; omega
          have hkc : k * 4 + 3 < cap * 4 := by have := Nat.mul_le_mul_right 4 (show k + 1 ≤ cap by omega); omega
          obtain ⟨q0, t0⟩ := hblk2.cell (k * 4) (by omega)
          have z0 := hblk2.frozen (k * 4)
          obtain ⟨q1, t1⟩ := hblk2.cell (k * 4 + 1) (by omega)
          have z1 := hblk2.frozen (k * 4 + 1)
          obtain ⟨q2, t2⟩ := hblk2.cell (k * 4 + 2) (by omega)
          have z2 := hblk2.frozen (k * 4 + 2)
          obtain ⟨q3, t3⟩ := hblk2.cell (k * 4 + 3) (by omega)
          have z3 := hblk2.frozen (k * 4 + 3)
          have e6 : (0 : Int) ≤ (k : Int) := by omega
          have e7 : (k : Int) < (n : Int) := by omega
          clear c0 c1 c2 c3 hblk hblk2 hA hBA
          go_wp2_with fail
          go_roundw
          case rel => exact ⟨k + 1, j + 1, L'.set k s, by omega, by omega, by go_num, by go_num, by unfold Hid; rw [hkp.out]; simp; exact hkl.out, by go_grown, ho2.out.put hf.out.1 (by omega) s, by simp [hf.out.1], by rw [hkp.out, ← hf.out.2.1]; exact take_set_snoc L' k s (by have := hf.out.1; omega), fun t ht => by rw [set_get_Flat L' s k t (by have := hf.out.1; omega), if_neg (by omega)]; exact hf.out.2.2 t (by omega)⟩
          case measure => simp [intOf]; omega
      · obtain rfl : j = n := by omega
        have hkn : k < j := hkj
        have hcl : ∀ ty, (Builtin.clear_ #[41] ty #[.slice (some ⟨g, k * 4, none⟩) (j - k) (cap - k)]).run Try.prog wr = .ok (.tuple #[]) (wr.setCells g (k * 4) (List.replicate ((j - k) * 4) (.int .i64 0))) := fun ty =>
          run_clear_flat wr ty g (k * 4) (j - k) (cap - k) (by omega) (fun t ht => by obtain ⟨q, hq⟩ := hblk.cell (k * 4 + t) (by have := Nat.mul_le_mul_right 4 hnc; rw [Nat.sub_mul] at ht; omega); rw [hq]; rfl) (fun t ht => hblk.frozen _)
        have hres : Hid (L.filter (fun s => !pd s) = L'.take k) := by
          unfold Hid
          rw [hf.out.2.1]
          unfold keptF
          rw [List.take_of_length_le (by rw [HL.out]; exact Nat.le_refl _)]
        have ho2 := hid (ho.out.cut hf.out.1 (k := k) (by omega))
        have e6 : (0 : Int) ≤ (k : Int) := by omega
        have e7 : (k : Int) ≤ (j : Int) := by omega
        have e8 : (j : Int) ≤ (cap : Int) := by omega
        have e9 : (k : Int) ≤ (cap : Int) := by omega
        have hlen := hf.out.1
        clear hblk hrw
        go_wp2_with fail
        go_ret
        exact ⟨k, rfl, by rw [hres.out]; simp; omega, by rw [hres.out]; exact ho2.out.clear (by simp; omega) _ _ (Nat.le_refl _), hBr.grown (grownBy_cells _ _ _) HB1 (fun i hi => by cases hi; omega)⟩
end Go.Proofs.Ytejpmomedclnhaa
