/-
  Drawers in memory: a drawer's own flats lie behind a slice. Lists of drawers opened, copied, compared, measured, marked. No condition.
-/
import Derived.Test.YtejpmomedclnhaaDrawP
import Derived.Test.YtejpmomedclnhaaOwn
namespace Go.Proofs.Ytejpmomedclnhaa
open Go.ChangeShapes Go.WideShapes Go.ChangeAt Go.RowKit
set_option linter.unusedVariables false

/-- A drawer of a law's arguments: its numbers, the slice of its flats, and what lies there. -/
structure DrawerL where
  Id : Int
  Wide : Int
  High : Int
  Holds : Int
  a : Option Addr
  n : Nat
  cap : Nat
  F : Nat → Int
instance : Inhabited DrawerL := ⟨⟨0, 0, 0, 0, none, 0, 0, fun _ => 0⟩⟩
def DrawerL.cells (s : DrawerL) : List Value := [.int .i64 s.Id, .int .i64 s.Wide, .int .i64 s.High, .int .i64 s.Holds, .slice s.a s.n s.cap]
abbrev DrawerL.val (s : DrawerL) : Value := .agg #[.int .i64 s.Id, .int .i64 s.Wide, .int .i64 s.High, .int .i64 s.Holds, .slice s.a s.n s.cap]
def DrawerL.ok (w : World) (s : DrawerL) : Prop := Sl w 1 s.a s.n (fun j => [.int .i64 (s.F j)]) ∧ s.n ≤ maxLen
def DrawerL.d (s : DrawerL) : DrawerD := ⟨s.Id, s.Wide, s.High, s.Holds, (List.range s.n).map s.F⟩
theorem DrawerL.ok.below {w w' : World} {s : DrawerL} (h : s.ok w) (hb : Below w.heap.size w w') : s.ok w' := ⟨h.1.below hb, h.2⟩
theorem DrawerL.d_len (s : DrawerL) : s.d.Flats.length = s.n := by simp [DrawerL.d]
section
variable {H : Type} {enc : TypeId × Value → H} {w : World} {base : Nat} {spare : Nat → Bool} {held : Bool}
set_option maxRecDepth 100000 in
theorem laws_Drawer_cells (n : Nat) (cs : List Value) (y : DataW H × List MemPlace) (h : DataW.trod enc Try.prog w base spare held n 26 cs = some y) : ∃ d : DrawerL, cs = d.cells ∧ d.ok w := by
  obtain ⟨hl, m, hf⟩ := field_of_struct Try.underlying26 (by kernel_rfl) (by kernel_rfl) h
  obtain ⟨c0, y0, e0, h0⟩ := hf 0 _ rfl
  obtain ⟨n0, r0, _, w0⟩ := DataW.trod_int Try.underlying3 h0
  obtain ⟨c1, y1, e1, h1⟩ := hf 1 _ rfl
  obtain ⟨n1, r1, _, w1⟩ := DataW.trod_int Try.underlying3 h1
  obtain ⟨c2, y2, e2, h2⟩ := hf 2 _ rfl
  obtain ⟨n2, r2, _, w2⟩ := DataW.trod_int Try.underlying3 h2
  obtain ⟨c3, y3, e3, h3⟩ := hf 3 _ rfl
  obtain ⟨n3, r3, _, w3⟩ := DataW.trod_int Try.underlying3 h3
  obtain ⟨c4, y4, e4, h4⟩ := hf 4 _ rfl
  have hs : ∃ a len cap, c4 = .slice a len cap := by
    rcases Deep.open_slice Try.underlying24 h4 with ⟨hcs, _⟩ | ⟨a', len', cap', m, n, Dd, Pl, hcs, _⟩
    · simp at hcs; exact ⟨_, _, _, hcs⟩
    · simp at hcs; exact ⟨_, _, _, hcs⟩
  obtain ⟨a, len, cap, rfl⟩ := hs
  obtain ⟨F, hF, _, hm⟩ := sl_open (k := 1) (fun x : Int => [Value.int .i64 x]) isI Try.underlying24 (by kernel_rfl) (by omega) (fun n cs y h => by obtain ⟨n0, r0, _, w0⟩ := DataW.trod_int Try.underlying3 h; exact ⟨n0, r0, isI_of w0⟩) h4
  have hl5 : cs.length = 5 := hl
  refine ⟨⟨n0, n1, n2, n3, a, len, cap, F⟩, ?_, hF, hm⟩
  match cs, hl5 with
  | [x0, x1, x2, x3, x4], _ =>
    simp at e0 r0 e1 r1 e2 r2 e3 r3 e4
    simp [DrawerL.cells, e0, r0, e1, r1, e2, r2, e3, r3, e4]
set_option maxRecDepth 100000 in
theorem laws_Drawer_val {r : Reach} {b0 : Nat} {v : Value} {d : DataW H} {p : List MemPlace} (hv : Value.okWide Try.prog w r b0 26 v) (h : DataW.Trod enc Try.prog w base spare held 26 v d p) : ∃ d : DrawerL, v = d.val ∧ d.ok w := by
  obtain ⟨cs, rfl, _⟩ := okWide_struct Try.underlying26 hv
  obtain ⟨fuel, hf⟩ := h
  obtain ⟨s, hs, ok⟩ := laws_Drawer_cells _ _ _ hf
  refine ⟨s, ?_, ok⟩
  obtain ⟨l⟩ := cs
  have hs2 : l = s.cells := hs
  rw [hs2]; rfl
end

/-- v is a slice that holds the numbers L. -/
def HasI (w : World) (v : Value) (L : List Int) : Prop := ∃ a cap, v = .slice a L.length cap ∧ L.length ≤ cap ∧ ∃ g off, a = some ⟨g, off, none⟩ ∧ g < w.heap.size ∧ ∀ k, k < L.length → w.cell? ⟨g, off + k, none⟩ = some (.int .i64 (L.getD k 0))
theorem HasI.below {w w' : World} {v : Value} {L : List Int} (h : HasI w v L) (hb : Below w.heap.size w w') : HasI w' v L := by
  obtain ⟨a, cap, rfl, hc, g, off, rfl, hg, h⟩ := h
  exact ⟨_, cap, rfl, hc, g, off, rfl, by have := hb.size; omega, fun k hk => (hb.cell hg).trans (h k hk)⟩
/-- A drawer with its slice of flats. -/
def DrawerD.cells (d : DrawerD) (v : Value) : List Value := [.int .i64 d.Id, .int .i64 d.Wide, .int .i64 d.High, .int .i64 d.Holds, v]
abbrev DrawerD.val (d : DrawerD) (v : Value) : Value := .agg #[.int .i64 d.Id, .int .i64 d.Wide, .int .i64 d.High, .int .i64 d.Holds, v]
/-- A list of drawers: drawer i has the slice S i. -/
structure Drs (w : World) (b off n : Nat) (X : Nat → DrawerD) (S : Nat → Value) : Prop where
  rw : Rw w b off 5 n (fun i => (X i).cells (S i))
  has : ∀ i, i < n → HasI w (S i) (X i).Flats
theorem Drs.below {w w' : World} {b off n : Nat} {X : Nat → DrawerD} {S : Nat → Value} (h : Drs w b off n X S) (hb : Below w.heap.size w w') : Drs w' b off n X S := ⟨h.rw.later' hb, fun i hi => (h.has i hi).below hb⟩
theorem Drs.take {w : World} {b off n m : Nat} {X : Nat → DrawerD} {S : Nat → Value} (h : Drs w b off n X S) (hm : m ≤ n) : Drs w b off m X S := ⟨h.rw.take hm, fun i hi => h.has i (by omega)⟩

theorem info_Drawer : (Try.prog.info? 32).map (fun i => (i.zero, i.size, i.bytes)) = some (some (.agg #[.int .i64 0, .int .i64 0, .int .i64 0, .int .i64 0, .slice none 0 0]), 5, 56) := by kernel_rfl

/-- A block of numbers of the call's own. -/
def IBlk (w : World) (g : Nat) (L : List Int) : Prop := w.heap[g]? = some (.cells (L.map (Value.int .i64)).toArray 3 (0, 0))
theorem IBlk.lt {w : World} {g : Nat} {L : List Int} (h : IBlk w g L) : g < w.heap.size := (Array.getElem?_eq_some_iff.1 h).1
theorem IBlk.below {w w' : World} {g : Nat} {L : List Int} (h : IBlk w g L) (hb : Below w.heap.size w w') : IBlk w' g L := (hb.block g h.lt).trans h
theorem IBlk.has {w : World} {g : Nat} {L : List Int} (h : IBlk w g L) : HasI w (.slice (some ⟨g, 0, none⟩) L.length L.length) L := by
  refine ⟨_, _, rfl, Nat.le_refl _, g, 0, rfl, h.lt, fun k hk => ?_⟩
  unfold IBlk at h
  simp [World.cell?, h, List.getD, hk]
theorem IBlk.blk {w : World} {g : Nat} {L : List Int} (h : IBlk w g L) : Blk 3 g L.length w := ⟨_, h, by simp⟩

theorem szIntS_any (a : Option Addr) (len cap : Nat) (w : World) (left : Int) (hm : len ≤ maxLen) (h0 : 0 ≤ left) (h1 : left ≤ 1048576) :
    Calls Try.prog 52 #[.slice a len cap, .int .i64 left] w fun e w' => e = .returned (.int .i64 (if (len : Int) ≤ left then left - (len : Int) else -1)) ∧ w = w' := by
  unfold maxLen at hm
  by_cases h : (len : Int) ≤ left
  · rw [if_pos h]
    go_enter Try.func52, Try.ntmps52
    go_wp2
    go_ret
    exact ⟨rfl, rfl⟩
  · rw [if_neg h]
    go_enter Try.func52, Try.ntmps52
    go_wp2
    go_ret
    exact ⟨rfl, rfl⟩

theorem szDrawer_any (s : DrawerL) (w : World) (left : Int) (hm : s.n ≤ maxLen) (h0 : 0 ≤ left) (h1 : left ≤ 1048576) :
    Calls Try.prog 14 #[s.val, .int .i64 left] w fun e w' => e = .returned (.int .i64 (if (s.n : Int) ≤ left then left - (s.n : Int) else -1)) ∧ Below w.heap.size w w' := by
  have hA : Below w.heap.size w (w.alloc (.cells #[.int .i64 s.Id, .int .i64 s.Wide, .int .i64 s.High, .int .i64 s.Holds, .slice s.a s.n s.cap] 26)) := by go_grown
  by_cases h : (s.n : Int) ≤ left
  · go_enter Try.func14, Try.ntmps14
    go_wp2_with (go_at_call 52; refine (szIntS_any _ _ _ _ _ hm h0 h1).mono ?_; rw [if_pos h]; rintro e w' ⟨rfl, rfl⟩)
    go_ret
    exact ⟨rfl, hA⟩
  · go_enter Try.func14, Try.ntmps14
    go_wp2_with (go_at_call 52; refine (szIntS_any _ _ _ _ _ hm h0 h1).mono ?_; rw [if_neg h]; rintro e w' ⟨rfl, rfl⟩)
    go_ret
    exact ⟨rfl, hA⟩

/-- How many flats lie in the first k drawers. -/
def sumN (X : Nat → DrawerL) : Nat → Nat
  | 0 => 0
  | k + 1 => sumN X k + (X k).n
theorem sumN_le {X : Nat → DrawerL} : ∀ {n k : Nat}, k < n → (X k).n ≤ sumN X n
  | n + 1, k, h => by
    by_cases e : k = n
    · subst e; simp [sumN]
    · have := sumN_le (X := X) (n := n) (k := k) (by omega); simp [sumN]; omega
theorem sumN_mono (X : Nat → DrawerL) : ∀ {n k : Nat}, k ≤ n → sumN X k ≤ sumN X n
  | 0, k, h => by have : k = 0 := by omega
                  subst this; exact Nat.le_refl _
  | n + 1, k, h => by
    by_cases e : k = n + 1
    · subst e; exact Nat.le_refl _
    · have := sumN_mono X (n := n) (k := k) (by omega); simp [sumN]; omega

set_option maxHeartbeats 1000000 in
theorem szDrawerS_any (a : Option Addr) (len cap : Nat) (X : Nat → DrawerL) (w : World) (left : Int) (h : Sl w 5 a len (fun i => (X i).cells)) (ok : ∀ i, i < len → (X i).n ≤ maxLen) (hm : len ≤ maxLen) (h0 : 0 ≤ left) (h1 : left ≤ 1048576) :
    Calls Try.prog 21 #[.slice a len cap, .int .i64 left] w fun e w' => ∃ r : Int, e = .returned (.int .i64 r) ∧ Below w.heap.size w w' ∧ (0 ≤ r → len + sumN X len ≤ 1048576) := by
  unfold maxLen at hm
  have hok := hid ok
  clear ok
  by_cases hl : (len : Int) ≤ left
  · rcases h with h | ⟨b, off, rfl, hb, h⟩
    · obtain rfl : len = 0 := by have := h; omega
      clear h
      go_enter Try.func21, Try.ntmps21
      go_wp2
      go_loopw [1, 5] (fun q i wr => i = .int .i64 0 ∧ q = .int .i64 left ∧ wr = w) (fun _ i _ => 0)
      case atStart => exact ⟨rfl, by simp, rfl⟩
      case round =>
        obtain ⟨rfl, rfl, rfl⟩ := hrel
        go_wp2_with fail
        go_ret
        exact ⟨_, rfl, Below.refl _ _, fun _ => by simp [sumN]⟩
    · have H := hid h
      clear h
      go_enter Try.func21, Try.ntmps21
      go_wp2
      go_loopw [1, 5] (fun q i wr => ∃ k : Nat, ∃ r : Int, k ≤ len ∧ i = .int .i64 k ∧ q = .int .i64 r ∧ 0 ≤ r ∧ r ≤ 1048576 ∧ Below w.heap.size w wr ∧ Hid (r + (sumN X k : Int) + (len : Int) = left)) (fun _ i _ => len - (intOf i).toNat)
      case atStart => exact ⟨0, _, by omega, rfl, rfl, by omega, by omega, Below.refl _ _, by unfold Hid; simp [sumN]⟩
      case round =>
        obtain ⟨k, r, hk, rfl, rfl, hr0, hr1, hB, hf⟩ := hrel
        by_cases hlt : k < len
        · have c0 : wr.cell? ⟨b, off + k * 5, none⟩ = some (.int .i64 (X k).Id) := (hB.cell hb).trans (H.out k hlt 0 (by omega))
          have c1 : wr.cell? ⟨b, off + k * 5 + 1, none⟩ = some (.int .i64 (X k).Wide) := (hB.cell hb).trans (H.out k hlt 1 (by omega))
          have c2 : wr.cell? ⟨b, off + k * 5 + 2, none⟩ = some (.int .i64 (X k).High) := (hB.cell hb).trans (H.out k hlt 2 (by omega))
          have c3 : wr.cell? ⟨b, off + k * 5 + 3, none⟩ = some (.int .i64 (X k).Holds) := (hB.cell hb).trans (H.out k hlt 3 (by omega))
          have c4 : wr.cell? ⟨b, off + k * 5 + 4, none⟩ = some (.slice (X k).a (X k).n (X k).cap) := (hB.cell hb).trans (H.out k hlt 4 (by omega))
          go_wp2_with fail
          refine (szDrawer_any (X k) _ r (hok.out k hlt) hr0 hr1).mono ?_
          rintro e w1 ⟨rfl, hb1⟩
          have hB1 : Below w.heap.size w w1 := Below.on hB hB.size hb1
          by_cases hz : ((X k).n : Int) ≤ r
          · rw [if_pos hz]
            go_wp2_with fail
            go_roundw
            case rel => exact ⟨k + 1, r - ((X k).n : Int), by omega, by go_num, rfl, by omega, by omega, hB1, by have := hf.out; unfold Hid; simp [sumN]; omega⟩
            case measure => simp [intOf]; omega
          · rw [if_neg hz]
            go_wp2_with fail
            go_ret
            exact ⟨_, rfl, hB1, fun h => absurd h (by omega)⟩
        · obtain rfl : k = len := by omega
          go_wp2_with fail
          go_ret
          exact ⟨_, rfl, hB, fun _ => by have := hf.out; omega⟩
  · go_enter Try.func21, Try.ntmps21
    go_wp2
    go_ret
    exact ⟨_, rfl, Below.refl _ _, fun h => absurd h (by omega)⟩

/-- A row of numbers of the call's own, filled up to element k. -/
def FillI (g n k : Nat) (F : Nat → Int) (w : World) : Prop := ∃ arr : Array Value, w.heap[g]? = some (.cells arr 3 (0, 0)) ∧ arr.size = n ∧ ∀ i, i < k → arr[i]? = some (.int .i64 (F i))
theorem FillI.cell {g n k : Nat} {F : Nat → Int} {w : World} (h : FillI g n k F w) (j : Nat) (hj : j < n) : ∃ v, w.cell? ⟨g, j, none⟩ = some v := by
  obtain ⟨arr, h1, h2, _⟩ := h
  exact ⟨arr[j], by simp [World.cell?, h1, h2, hj]⟩
theorem FillI.frozen {g n k : Nat} {F : Nat → Int} {w : World} (h : FillI g n k F w) (j : Nat) : w.frozen? ⟨g, j, none⟩ = false := by
  obtain ⟨arr, h1, h2, _⟩ := h
  simp [World.frozen?, h1]
theorem FillI.store {g n k : Nat} {F : Nat → Int} {w : World} (h : FillI g n k F w) (hk : k < n) : FillI g n (k + 1) F (w.setCell ⟨g, k, none⟩ (.int .i64 (F k))) := by
  obtain ⟨arr, h1, h2, h3⟩ := h
  refine ⟨_, heap_setCell_same w g k arr 3 _ h1, by simpa using h2, fun i hi => ?_⟩
  by_cases hik : k = i
  · subst hik; simp [Array.getElem?_setIfInBounds]; omega
  · rw [Array.getElem?_setIfInBounds, if_neg hik]; exact h3 i (by omega)
theorem FillI.done {g n : Nat} {F : Nat → Int} {w : World} (h : FillI g n n F w) : IBlk w g ((List.range n).map F) := by
  obtain ⟨arr, h1, h2, h3⟩ := h
  unfold IBlk
  rw [h1]
  have : arr = (((List.range n).map F).map (Value.int .i64)).toArray := by
    apply Array.ext_getElem?
    intro i
    by_cases hi : i < n
    · rw [h3 i hi]; simp [hi]
    · simp [hi, h2, Array.getElem?_eq_none (xs := arr) (i := i) (by omega)]
  rw [this]

set_option maxHeartbeats 1000000 in
theorem toIntS_any (a : Option Addr) (len cap : Nat) (F : Nat → Int) (w : World) (h : Sl w 1 a len (fun i => [.int .i64 (F i)])) (hm : len ≤ 1048576) :
    Calls Try.prog 56 #[.slice a len cap] w fun e w' => e = .returned (.slice (some ⟨w.heap.size, 0, none⟩) len len) ∧ Below w.heap.size w w' ∧ IBlk w' w.heap.size ((List.range len).map F) := by
  obtain ⟨i0, hi, hz0, hz1, hz2⟩ := info_parts info_int
  have hmk : ∀ (w : World), (Instr.makeSlice 24 (.int .i64 (len : Int)) (.int .i64 (len : Int))).run Try.prog w = .ok (.slice (some ⟨w.heap.size, 0, none⟩) len len) (w.alloc (.cells (madeCells #[.int .i64 0] len) 3)) := by
    intro w
    have := run_make (P := Try.prog) w 24 3 i0 _ Try.underlying24 hi hz0 .i64 .i64 len len (by omega) (Int.le_refl _) (by rw [hz2]; omega) (by omega)
    rw [hz1] at this
    simp only [Int.toNat_natCast, Nat.mul_one] at this
    exact this
  have F0 : FillI w.heap.size len 0 F (w.alloc (.cells (madeCells #[.int .i64 0] len) 3)) := ⟨_, heap_alloc_new w _, by rw [size_madeCells], fun i hi => absurd hi (by omega)⟩
  have HF0 := hid F0
  clear F0 hi hz0 hz1 hz2
  rcases h with h | ⟨b, off, rfl, hb, h⟩
  · have H := hid h
    clear h
    go_enter Try.func56, Try.ntmps56
    go_wp2
    go_loopw [4] (fun i wr => ∃ k : Nat, k ≤ len ∧ i = .int .i64 k ∧ Below w.heap.size w wr ∧ w.heap.size < wr.heap.size ∧ Hid (FillI w.heap.size len k F wr)) (fun i _ => len - (intOf i).toNat)
    case atStart => exact ⟨0, by omega, rfl, by go_grown, by simp, HF0⟩
    case round =>
      clear hmk HF0
      obtain ⟨k, hk, rfl, hB, hs, hF⟩ := hrel
      have hge : ¬ k < len := by have := H.out; omega
      go_wp2_with fail
      go_ret
      exact ⟨rfl, hB, by have := hF.out; rw [show k = len by omega] at this; exact this.done⟩
  · have H := hid h
    clear h
    go_enter Try.func56, Try.ntmps56
    go_wp2
    go_loopw [4] (fun i wr => ∃ k : Nat, k ≤ len ∧ i = .int .i64 k ∧ Below w.heap.size w wr ∧ w.heap.size < wr.heap.size ∧ Hid (FillI w.heap.size len k F wr)) (fun i _ => len - (intOf i).toNat)
    case atStart => exact ⟨0, by omega, rfl, by go_grown, by simp, HF0⟩
    case round =>
      clear hmk HF0
      obtain ⟨k, hk, rfl, hB, hs, hF⟩ := hrel
      by_cases hlt : k < len
      · have c0 : wr.cell? ⟨b, off + k, none⟩ = some (.int .i64 (F k)) := by have := H.out k hlt 0 (by omega); rw [Nat.mul_one, Nat.add_zero] at this; exact (hB.cell hb).trans this
        obtain ⟨q0, t0⟩ := hF.out.cell k hlt
        have z0 := hF.out.frozen k
        go_wp2_with fail
        go_roundw
        case rel => exact ⟨k + 1, by omega, by go_num, by go_grown, by simp; omega, hF.out.store hlt⟩
        case measure => simp [intOf]; omega
      · obtain rfl : k = len := by omega
        go_wp2_with fail
        go_ret
        exact ⟨rfl, hB, hF.out.done⟩
end Go.Proofs.Ytejpmomedclnhaa
