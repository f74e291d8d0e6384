/-
  Lists of drawers marked; what is written by that, and what is not. No condition.
-/
import Derived.Test.YtejpmomedclnhaaDrawM2
namespace Go.Proofs.Ytejpmomedclnhaa
open Go.RowKit
set_option linter.unusedVariables false

/-- From w to w' only blocks at which P holds have turned. -/
structure Only (P : Nat → Prop) (w w' : World) : Prop where
  os : w'.os = w.os
  tape : w'.tape = w.tape
  output : w'.output = w.output
  size : w.heap.size ≤ w'.heap.size
  block : ∀ i, i < w.heap.size → ¬ P i → w'.heap[i]? = w.heap[i]?
theorem Only.refl (P : Nat → Prop) (w : World) : Only P w w := ⟨rfl, rfl, rfl, Nat.le_refl _, fun _ _ _ => rfl⟩
theorem Only.trans {P : Nat → Prop} {a b c : World} (h : Only P a b) (k : Only P b c) : Only P a c :=
  ⟨k.os.trans h.os, k.tape.trans h.tape, k.output.trans h.output, Nat.le_trans h.size k.size, fun i hi hp => (k.block i (by have := h.size; omega) hp).trans (h.block i hi hp)⟩
theorem Only.mono {P Q : Nat → Prop} {a b : World} (h : Only P a b) (hq : ∀ i, P i → Q i) : Only Q a b := ⟨h.os, h.tape, h.output, h.size, fun i hi hp => h.block i hi fun e => hp (hq i e)⟩
theorem Only.of_grown {P : Nat → Prop} {a b : World} {H : Nat} (h : a.grownBy b (some H)) (hp : P H) : Only P a b := ⟨h.os, h.tape, h.output, h.size, fun i hi hn => h.block i hi fun e => hn (by cases e; exact hp)⟩
theorem Only.of_grown' {P : Nat → Prop} {a b : World} {row : Option Nat} (h : a.grownBy b row) (hp : ∀ k, row = some k → P k) : Only P a b := ⟨h.os, h.tape, h.output, h.size, fun i hi hn => h.block i hi fun e => hn (hp i e.symm)⟩
theorem Only.of_below {P : Nat → Prop} {a b : World} (h : Below a.heap.size a b) : Only P a b := ⟨h.os, h.tape, h.output, h.size, fun i hi _ => h.block i hi⟩
theorem Only.below {P : Nat → Prop} {B : Nat} {a b c : World} (h : Below B a b) (k : Only P b c) (hB : B ≤ b.heap.size) (hp : ∀ i, P i → B ≤ i) : Below B a c :=
  h.trans ⟨k.os, k.tape, k.output, k.size, fun i hi => k.block i (by omega) fun e => by have := hp i e; omega⟩
theorem Only.cell {P : Nat → Prop} {a b : World} (h : Only P a b) {p : Addr} (hl : p.block < a.heap.size) (hp : ¬ P p.block) : b.cell? p = a.cell? p := World.cell?_of_block (w := a) (h.block _ hl hp)
theorem OwnI.only {P : Nat → Prop} {B : Nat} {w w' : World} {v : Value} {L : List Int} (h : OwnI B w v L) (k : Only P w w') (hp : ∀ i, v.ownBlock = some i → ¬ P i) : OwnI B w' v L := by
  refine ⟨h.1, ?_⟩
  rcases h.2 with hn | ⟨g, cap, cur, rfl, hbg, hg, rest⟩
  · exact .inl hn
  · exact .inr ⟨g, cap, cur, rfl, hbg, (k.block g (Array.getElem?_eq_some_iff.1 hg).1 (hp g rfl)).trans hg, rest⟩
theorem HasI.only {P : Nat → Prop} {w w' : World} {v : Value} {L : List Int} (h : HasI w v L) (k : Only P w w') (hp : ∀ i, P i → w.heap.size ≤ i) : HasI w' v L := by
  obtain ⟨a, cap, rfl, hc, g, off, rfl, hg, h⟩ := h
  exact ⟨_, cap, rfl, hc, g, off, rfl, by have := k.size; omega, fun j hj => (k.cell hg fun e => by have := hp _ e; simp at this; omega).trans (h j hj)⟩

set_option maxHeartbeats 1000000 in
theorem markIntS_blk (g n : Nat) (k0 : Int) (w : World) (h : Blk 3 g n w) (hL : n ≤ 16777216) (hk0 : 0 ≤ k0) (hk1 : k0 ≤ 1073741824) :
    Calls Try.prog 37 #[.slice (some ⟨g, 0, none⟩) n n, .int .i64 k0] w fun e w' => e = .returned (.int .i64 (k0 + (n : Int))) ∧ w.grownBy w' (some g) ∧ Blk 3 g n w' := by
  have HO := hid h
  clear h
  go_enter Try.func37, Try.ntmps37
  go_wp2
  go_loopw [1, 5] (fun q i wr => ∃ k : Nat, k ≤ n ∧ i = .int .i64 k ∧ q = .int .i64 (k0 + (k : Int)) ∧ Hid (w.grownBy wr (some g)) ∧ Hid (Blk 3 g n wr)) (fun _ i _ => n - (intOf i).toNat)
  case atStart => exact ⟨0, by omega, rfl, by simp, World.grownBy.refl _ _, HO⟩
  case round =>
    obtain ⟨k, hk, rfl, rfl, hg, ho⟩ := hrel
    by_cases hlt : k < n
    · obtain ⟨q0, t0⟩ := ho.out.cell k hlt
      have z0 := ho.out.frozen k
      go_wp2_with fail
      go_roundw
      case rel => exact ⟨k + 1, by omega, by go_num, by go_num, grownBy_trans hg.out (grownBy_set _ _ _ _), ho.out.set k _⟩
      case measure => simp [intOf]; omega
    · obtain rfl : k = n := by omega
      go_wp2_with fail
      go_ret
      exact ⟨rfl, hg.out, ho.out⟩

theorem Blk.other {E : TypeId} {g m H o : Nat} {w : World} {v : Value} (h : Blk E g m w) (hne : g ≠ H) : Blk E g m (w.setCell ⟨H, o, none⟩ v) := by
  obtain ⟨arr, h1, h2⟩ := h
  exact ⟨arr, (heap_setCell_other w ⟨H, o, none⟩ g v hne).trans h1, h2⟩
/-- A list of drawers that can be marked. -/
def MkD (H len hi : Nat) (N : Nat → Nat) (w : World) : Prop := ∃ arr : Array Value, w.heap[H]? = some (.cells arr 32 (0, 0)) ∧ H < hi ∧ arr.size = len * 5 ∧ ∀ i, i < len → ∃ g, H < g ∧ g < hi ∧ Blk 3 g (N i) w ∧ arr[i * 5 + 4]? = some (.slice (some ⟨g, 0, none⟩) (N i) (N i))
theorem FillD.mk {H len : Nat} {X : Nat → DrawerD} {w : World} (h : FillD H len len X w) : MkD H len w.heap.size (fun i => (X i).Flats.length) w := by
  obtain ⟨arr, h1, h2, h3⟩ := h
  refine ⟨arr, h1, (Array.getElem?_eq_some_iff.1 h1).1, h2, fun i hi => ?_⟩
  obtain ⟨g, g1, g2, g3⟩ := h3 i hi
  exact ⟨g, g1, g2.lt, g2.blk, g3 4 (by omega)⟩
theorem MkD.below {H len hi : Nat} {N : Nat → Nat} {w w' : World} (h : MkD H len hi N w) (hb : Below w.heap.size w w') : MkD H len hi N w' := by
  obtain ⟨arr, h1, h0, h2, h3⟩ := h
  refine ⟨arr, (hb.block H (Array.getElem?_eq_some_iff.1 h1).1).trans h1, h0, h2, fun i hi => ?_⟩
  obtain ⟨g, g1, g2, ⟨ar, a1, a2⟩, g3⟩ := h3 i hi
  exact ⟨g, g1, g2, ⟨ar, (hb.block g (Array.getElem?_eq_some_iff.1 a1).1).trans a1, a2⟩, g3⟩
theorem MkD.only {P : Nat → Prop} {H len hi : Nat} {N : Nat → Nat} {w w' : World} (h : MkD H len hi N w) (k : Only P w w') (hp : ∀ i, P i → i < H ∨ hi ≤ i) : MkD H len hi N w' := by
  obtain ⟨arr, h1, h0, h2, h3⟩ := h
  refine ⟨arr, (k.block H (Array.getElem?_eq_some_iff.1 h1).1 fun e => by have := hp _ e; omega).trans h1, h0, h2, fun i hi => ?_⟩
  obtain ⟨g, g1, g2, ⟨ar, a1, a2⟩, g3⟩ := h3 i hi
  exact ⟨g, g1, g2, ⟨ar, (k.block g (Array.getElem?_eq_some_iff.1 a1).1 fun e => by have := hp _ e; omega).trans a1, a2⟩, g3⟩
theorem MkD.cell {H len hi : Nat} {N : Nat → Nat} {w : World} (h : MkD H len hi N w) (j : Nat) (hj : j < len * 5) : ∃ v, w.cell? ⟨H, j, none⟩ = some v := by
  obtain ⟨arr, h1, _, h2, _⟩ := h
  exact ⟨arr[j], by simp [World.cell?, h1, h2, hj]⟩
theorem MkD.frozen {H len hi : Nat} {N : Nat → Nat} {w : World} (h : MkD H len hi N w) (j : Nat) : w.frozen? ⟨H, j, none⟩ = false := by
  obtain ⟨arr, h1, _, h2, _⟩ := h
  simp [World.frozen?, h1]
theorem MkD.at_ {H len hi i : Nat} {N : Nat → Nat} {w : World} (h : MkD H len hi N w) (hl : i < len) : ∃ g, H < g ∧ g < hi ∧ Blk 3 g (N i) w ∧ w.cell? ⟨H, i * 5 + 4, none⟩ = some (.slice (some ⟨g, 0, none⟩) (N i) (N i)) := by
  obtain ⟨arr, h1, _, h2, h3⟩ := h
  obtain ⟨g, g1, g2, g3, g4⟩ := h3 i hl
  exact ⟨g, g1, g2, g3, by simp [World.cell?, h1, g4]⟩
theorem MkD.set {H len hi : Nat} {N : Nat → Nat} {w : World} (h : MkD H len hi N w) (o : Nat) (v : Value) (ho : o % 5 ≠ 4) : MkD H len hi N (w.setCell ⟨H, o, none⟩ v) := by
  obtain ⟨arr, h1, h0, h2, h3⟩ := h
  refine ⟨_, heap_setCell_same w H o arr _ v h1, h0, by simpa using h2, fun i hi => ?_⟩
  obtain ⟨g, g1, g2, g3, g4⟩ := h3 i hi
  exact ⟨g, g1, g2, g3.other (by omega), by rw [Array.getElem?_setIfInBounds, if_neg (by omega)]; exact g4⟩
theorem MkD.mark {H len hi g n : Nat} {N : Nat → Nat} {w w' : World} (h : MkD H len hi N w) (hg : w.grownBy w' (some g)) (hH : H < g) (hb : Blk 3 g n w) (hb' : Blk 3 g n w') : MkD H len hi N w' := by
  obtain ⟨arr, h1, h0, h2, h3⟩ := h
  refine ⟨arr, (hg.block H (Array.getElem?_eq_some_iff.1 h1).1 (by simp; omega)).trans h1, h0, h2, fun i hi => ?_⟩
  obtain ⟨e, e1, e2, ⟨ar, a1, a2⟩, e4⟩ := h3 i hi
  refine ⟨e, e1, e2, ?_, e4⟩
  by_cases heg : e = g
  · subst heg
    obtain ⟨ar2, b1, b2⟩ := hb
    have : ar2 = ar := by rw [a1] at b1; cases b1; rfl
    subst this
    rw [← a2, b2]
    exact hb'
  · exact ⟨ar, (hg.block e (Array.getElem?_eq_some_iff.1 a1).1 (by simpa using heg)).trans a1, a2⟩

/-- How many numbers lie in the first k lists. -/
def sumK (N : Nat → Nat) : Nat → Nat
  | 0 => 0
  | k + 1 => sumK N k + N k
theorem sumK_le {N : Nat → Nat} : ∀ {n k : Nat}, k < n → N k + sumK N k ≤ sumK N n
  | n + 1, k, h => by
    by_cases e : k = n
    · subst e; simp [sumK]; omega
    · have := sumK_le (N := N) (n := n) (k := k) (by omega); simp [sumK]; omega
theorem sumK_sumN (X : Nat → DrawerL) : ∀ n, sumK (fun i => (X i).d.Flats.length) n = sumN X n
  | 0 => rfl
  | n + 1 => by
    show sumK _ n + (X n).d.Flats.length = sumN X n + (X n).n
    rw [sumK_sumN X n, DrawerL.d_len]

set_option maxHeartbeats 2000000 in
theorem markDrawerS_any (H len cap hi : Nat) (N : Nat → Nat) (k0 : Int) (w : World) (h : MkD H len hi N w) (hlc : len ≤ cap) (hL : len + sumK N len ≤ 1048576) (hk0 : 0 ≤ k0) (hk1 : k0 ≤ 536870912) :
    Calls Try.prog 36 #[.slice (some ⟨H, 0, none⟩) len cap, .int .i64 k0] w fun e w' => e = .returned (.int .i64 (k0 + 4 * (len : Int) + (sumK N len : Int))) ∧ Only (fun i => H ≤ i ∧ i < hi) w w' := by
  have HO := hid h
  have hHhi : H < hi := by obtain ⟨_, _, h0, _⟩ := h; exact h0
  clear h
  have HL := hid hL
  have hl1 : len ≤ 1048576 := by omega
  clear hL
  go_enter Try.func36, Try.ntmps36
  go_wp2
  go_loopw [1, 5] (fun q i wr => ∃ k : Nat, ∃ s : Nat, k ≤ len ∧ i = .int .i64 k ∧ q = .int .i64 (k0 + 4 * (k : Int) + (s : Int)) ∧ s ≤ 1048576 ∧ Hid (s = sumK N k) ∧ Hid (Only (fun i => H ≤ i ∧ i < hi) w wr) ∧ Hid (MkD H len hi N wr)) (fun _ i _ => len - (intOf i).toNat)
  case atStart => exact ⟨0, 0, by omega, rfl, by simp, by omega, rfl, Only.refl _ _, HO⟩
  case round =>
    obtain ⟨k, s, hk, rfl, rfl, hs, hse, hg, ho⟩ := hrel
    by_cases hlt : k < len
    · have hkm := Nat.mul_le_mul_right 5 (show k + 1 ≤ len from hlt)
      have hnk : s + N k ≤ 1048576 := by have h1 := HL.out; have h2 := hse.out; have := sumK_le (N := N) hlt; omega
      have hsk : Hid (s + N k = sumK N (k + 1)) := by unfold Hid; rw [hse.out]; rfl
      obtain ⟨q0, t0⟩ := ho.out.cell (k * 5) (by omega)
      obtain ⟨q1, t1⟩ := ho.out.cell (k * 5 + 1) (by omega)
      obtain ⟨q2, t2⟩ := ho.out.cell (k * 5 + 2) (by omega)
      obtain ⟨q3, t3⟩ := ho.out.cell (k * 5 + 3) (by omega)
      have z0 := ho.out.frozen (k * 5)
      have z1 := ho.out.frozen (k * 5 + 1)
      have z2 := ho.out.frozen (k * 5 + 2)
      have z3 := ho.out.frozen (k * 5 + 3)
      obtain ⟨g, g1, g2, g3, g4⟩ := ho.out.at_ hlt
      have hgb := hid g3
      obtain ⟨m, hm⟩ : ∃ m, N k = m := ⟨_, rfl⟩
      rw [hm] at g4 hgb hnk hsk
      clear hm g3
      go_wp2_with fail
      refine (markIntS_blk g m _ _ ((((hgb.out.other (by omega)).other (by omega)).other (by omega)).other (by omega)) (by omega) (by omega) (by omega)).mono ?_
      rintro e w1 ⟨rfl, gr, hb1⟩
      have G1 : Hid (Only (fun i => H ≤ i ∧ i < hi) w w1) := ((((hg.out.trans (Only.of_grown (grownBy_set _ _ _ _) ⟨by omega, by omega⟩)).trans (Only.of_grown (grownBy_set _ _ _ _) ⟨by omega, by omega⟩)).trans (Only.of_grown (grownBy_set _ _ _ _) ⟨by omega, by omega⟩)).trans (Only.of_grown (grownBy_set _ _ _ _) ⟨by omega, by omega⟩)).trans (Only.of_grown gr ⟨by omega, by omega⟩)
      have M1 : Hid (MkD H len hi N w1) := ((((ho.out.set _ _ (by omega)).set _ _ (by omega)).set _ _ (by omega)).set _ _ (by omega)).mark gr (by omega) ((((hgb.out.other (by omega)).other (by omega)).other (by omega)).other (by omega)) hb1
      clear t0 t1 t2 t3 z0 z1 z2 z3 g4 gr hb1
      go_wp2_with fail
      go_roundw
      case rel => exact ⟨k + 1, s + m, by omega, by go_num, val_int (by omega), by omega, hsk, G1, M1⟩
      case measure => simp [intOf]; omega
    · obtain rfl : k = len := by omega
      go_wp2_with fail
      go_ret
      exact ⟨by rw [← hse.out]; rfl, hg.out⟩
end Go.Proofs.Ytejpmomedclnhaa
