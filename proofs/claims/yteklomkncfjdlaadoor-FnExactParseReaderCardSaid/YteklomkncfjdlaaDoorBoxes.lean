/-
  Regions that draw their order, read words of a list, call, and lay a box: what is kept. No condition.
-/
import Derived.Test.YteklomkncfjdlaaDoorMark
import Derived.Deep.Cut
import Derived.Deep.RegionHeld3
namespace Go.Proofs.YteklomkncfjdlaaDoor
open Go.RowKit
set_option linter.unusedVariables false

theorem keep_call1 {wA w w' : World} {g i0 : Nat} {a : ByteArray} (hg : g < wA.heap.size) (h : Below wA.heap.size wA w ∧ w.cell? ⟨g, i0, none⟩ = some (.string a)) (hb : Below w.heap.size w w') : Below wA.heap.size wA w' ∧ w'.cell? ⟨g, i0, none⟩ = some (.string a) := by
  obtain ⟨h0, h1⟩ := h
  have hl : g < w.heap.size := by have := h0.size; omega
  exact ⟨Below.on h0 h0.size hb, (hb.cell hl).trans h1⟩
theorem keep_alloc1 {wA w : World} {g i0 : Nat} {a : ByteArray} (hg : g < wA.heap.size) (h : Below wA.heap.size wA w ∧ w.cell? ⟨g, i0, none⟩ = some (.string a)) (o : Obj) : Below wA.heap.size wA (w.alloc o) ∧ (w.alloc o).cell? ⟨g, i0, none⟩ = some (.string a) := by
  have hl : g < w.heap.size := by have := h.1.size; omega
  have hb : Below w.heap.size w (w.alloc o) := by go_grown
  exact keep_call1 hg h hb
theorem keep_set1 {wA w : World} {g i0 : Nat} {a : ByteArray} (hg : g < wA.heap.size) (h : Below wA.heap.size wA w ∧ w.cell? ⟨g, i0, none⟩ = some (.string a)) (N o : Nat) (v : Value) (hN : wA.heap.size ≤ N) : Below wA.heap.size wA (w.setCell ⟨N, o, none⟩ v) ∧ (w.setCell ⟨N, o, none⟩ v).cell? ⟨g, i0, none⟩ = some (.string a) := by
  obtain ⟨h0, h1⟩ := h
  have k : ∀ j, (w.setCell ⟨N, o, none⟩ v).cell? ⟨g, j, none⟩ = w.cell? ⟨g, j, none⟩ := fun j => World.cell?_setCell_other _ _ _ _ (fun e => by have := congrArg Addr.block e; simp at this; omega)
  exact ⟨h0.grown (grownBy_set w N o v) h0.size (fun j hj => by cases hj; omega), (k i0).trans h1⟩
theorem keep_call2 {wA w w' : World} {g i0 i1 : Nat} {a b : ByteArray} (hg : g < wA.heap.size) (h : Below wA.heap.size wA w ∧ w.cell? ⟨g, i0, none⟩ = some (.string a) ∧ w.cell? ⟨g, i1, none⟩ = some (.string b)) (hb : Below w.heap.size w w') : Below wA.heap.size wA w' ∧ w'.cell? ⟨g, i0, none⟩ = some (.string a) ∧ w'.cell? ⟨g, i1, none⟩ = some (.string b) := by
  obtain ⟨h0, h1, h2⟩ := h
  have hl : g < w.heap.size := by have := h0.size; omega
  exact ⟨Below.on h0 h0.size hb, (hb.cell hl).trans h1, (hb.cell hl).trans h2⟩
theorem keep_alloc2 {wA w : World} {g i0 i1 : Nat} {a b : ByteArray} (hg : g < wA.heap.size) (h : Below wA.heap.size wA w ∧ w.cell? ⟨g, i0, none⟩ = some (.string a) ∧ w.cell? ⟨g, i1, none⟩ = some (.string b)) (o : Obj) : Below wA.heap.size wA (w.alloc o) ∧ (w.alloc o).cell? ⟨g, i0, none⟩ = some (.string a) ∧ (w.alloc o).cell? ⟨g, i1, none⟩ = some (.string b) := by
  have hl : g < w.heap.size := by have := h.1.size; omega
  have hb : Below w.heap.size w (w.alloc o) := by go_grown
  exact keep_call2 hg h hb
theorem keep_set2 {wA w : World} {g i0 i1 : Nat} {a b : ByteArray} (hg : g < wA.heap.size) (h : Below wA.heap.size wA w ∧ w.cell? ⟨g, i0, none⟩ = some (.string a) ∧ w.cell? ⟨g, i1, none⟩ = some (.string b)) (N o : Nat) (v : Value) (hN : wA.heap.size ≤ N) : Below wA.heap.size wA (w.setCell ⟨N, o, none⟩ v) ∧ (w.setCell ⟨N, o, none⟩ v).cell? ⟨g, i0, none⟩ = some (.string a) ∧ (w.setCell ⟨N, o, none⟩ v).cell? ⟨g, i1, none⟩ = some (.string b) := by
  obtain ⟨h0, h1, h2⟩ := h
  have k : ∀ j, (w.setCell ⟨N, o, none⟩ v).cell? ⟨g, j, none⟩ = w.cell? ⟨g, j, none⟩ := fun j => World.cell?_setCell_other _ _ _ _ (fun e => by have := congrArg Addr.block e; simp at this; omega)
  exact ⟨h0.grown (grownBy_set w N o v) h0.size (fun j hj => by cases hj; omega), (k i0).trans h1, (k i1).trans h2⟩
theorem keep_call3 {wA w w' : World} {g i0 i1 i2 : Nat} {a b c : ByteArray} (hg : g < wA.heap.size) (h : Below wA.heap.size wA w ∧ w.cell? ⟨g, i0, none⟩ = some (.string a) ∧ w.cell? ⟨g, i1, none⟩ = some (.string b) ∧ w.cell? ⟨g, i2, none⟩ = some (.string c)) (hb : Below w.heap.size w w') : Below wA.heap.size wA w' ∧ w'.cell? ⟨g, i0, none⟩ = some (.string a) ∧ w'.cell? ⟨g, i1, none⟩ = some (.string b) ∧ w'.cell? ⟨g, i2, none⟩ = some (.string c) := by
  obtain ⟨h0, h1, h2, h3⟩ := h
  have hl : g < w.heap.size := by have := h0.size; omega
  exact ⟨Below.on h0 h0.size hb, (hb.cell hl).trans h1, (hb.cell hl).trans h2, (hb.cell hl).trans h3⟩
theorem keep_alloc3 {wA w : World} {g i0 i1 i2 : Nat} {a b c : ByteArray} (hg : g < wA.heap.size) (h : Below wA.heap.size wA w ∧ w.cell? ⟨g, i0, none⟩ = some (.string a) ∧ w.cell? ⟨g, i1, none⟩ = some (.string b) ∧ w.cell? ⟨g, i2, none⟩ = some (.string c)) (o : Obj) : Below wA.heap.size wA (w.alloc o) ∧ (w.alloc o).cell? ⟨g, i0, none⟩ = some (.string a) ∧ (w.alloc o).cell? ⟨g, i1, none⟩ = some (.string b) ∧ (w.alloc o).cell? ⟨g, i2, none⟩ = some (.string c) := by
  have hl : g < w.heap.size := by have := h.1.size; omega
  have hb : Below w.heap.size w (w.alloc o) := by go_grown
  exact keep_call3 hg h hb
theorem keep_set3 {wA w : World} {g i0 i1 i2 : Nat} {a b c : ByteArray} (hg : g < wA.heap.size) (h : Below wA.heap.size wA w ∧ w.cell? ⟨g, i0, none⟩ = some (.string a) ∧ w.cell? ⟨g, i1, none⟩ = some (.string b) ∧ w.cell? ⟨g, i2, none⟩ = some (.string c)) (N o : Nat) (v : Value) (hN : wA.heap.size ≤ N) : Below wA.heap.size wA (w.setCell ⟨N, o, none⟩ v) ∧ (w.setCell ⟨N, o, none⟩ v).cell? ⟨g, i0, none⟩ = some (.string a) ∧ (w.setCell ⟨N, o, none⟩ v).cell? ⟨g, i1, none⟩ = some (.string b) ∧ (w.setCell ⟨N, o, none⟩ v).cell? ⟨g, i2, none⟩ = some (.string c) := by
  obtain ⟨h0, h1, h2, h3⟩ := h
  have k : ∀ j, (w.setCell ⟨N, o, none⟩ v).cell? ⟨g, j, none⟩ = w.cell? ⟨g, j, none⟩ := fun j => World.cell?_setCell_other _ _ _ _ (fun e => by have := congrArg Addr.block e; simp at this; omega)
  exact ⟨h0.grown (grownBy_set w N o v) h0.size (fun j hj => by cases hj; omega), (k i0).trans h1, (k i1).trans h2, (k i2).trans h3⟩
theorem keep_call4 {wA w w' : World} {g i0 i1 i2 i3 : Nat} {a b c d : ByteArray} (hg : g < wA.heap.size) (h : Below wA.heap.size wA w ∧ w.cell? ⟨g, i0, none⟩ = some (.string a) ∧ w.cell? ⟨g, i1, none⟩ = some (.string b) ∧ w.cell? ⟨g, i2, none⟩ = some (.string c) ∧ w.cell? ⟨g, i3, none⟩ = some (.string d)) (hb : Below w.heap.size w w') : Below wA.heap.size wA w' ∧ w'.cell? ⟨g, i0, none⟩ = some (.string a) ∧ w'.cell? ⟨g, i1, none⟩ = some (.string b) ∧ w'.cell? ⟨g, i2, none⟩ = some (.string c) ∧ w'.cell? ⟨g, i3, none⟩ = some (.string d) := by
  obtain ⟨h0, h1, h2, h3, h4⟩ := h
  have hl : g < w.heap.size := by have := h0.size; omega
  exact ⟨Below.on h0 h0.size hb, (hb.cell hl).trans h1, (hb.cell hl).trans h2, (hb.cell hl).trans h3, (hb.cell hl).trans h4⟩
theorem keep_alloc4 {wA w : World} {g i0 i1 i2 i3 : Nat} {a b c d : ByteArray} (hg : g < wA.heap.size) (h : Below wA.heap.size wA w ∧ w.cell? ⟨g, i0, none⟩ = some (.string a) ∧ w.cell? ⟨g, i1, none⟩ = some (.string b) ∧ w.cell? ⟨g, i2, none⟩ = some (.string c) ∧ w.cell? ⟨g, i3, none⟩ = some (.string d)) (o : Obj) : Below wA.heap.size wA (w.alloc o) ∧ (w.alloc o).cell? ⟨g, i0, none⟩ = some (.string a) ∧ (w.alloc o).cell? ⟨g, i1, none⟩ = some (.string b) ∧ (w.alloc o).cell? ⟨g, i2, none⟩ = some (.string c) ∧ (w.alloc o).cell? ⟨g, i3, none⟩ = some (.string d) := by
  have hl : g < w.heap.size := by have := h.1.size; omega
  have hb : Below w.heap.size w (w.alloc o) := by go_grown
  exact keep_call4 hg h hb
theorem keep_set4 {wA w : World} {g i0 i1 i2 i3 : Nat} {a b c d : ByteArray} (hg : g < wA.heap.size) (h : Below wA.heap.size wA w ∧ w.cell? ⟨g, i0, none⟩ = some (.string a) ∧ w.cell? ⟨g, i1, none⟩ = some (.string b) ∧ w.cell? ⟨g, i2, none⟩ = some (.string c) ∧ w.cell? ⟨g, i3, none⟩ = some (.string d)) (N o : Nat) (v : Value) (hN : wA.heap.size ≤ N) : Below wA.heap.size wA (w.setCell ⟨N, o, none⟩ v) ∧ (w.setCell ⟨N, o, none⟩ v).cell? ⟨g, i0, none⟩ = some (.string a) ∧ (w.setCell ⟨N, o, none⟩ v).cell? ⟨g, i1, none⟩ = some (.string b) ∧ (w.setCell ⟨N, o, none⟩ v).cell? ⟨g, i2, none⟩ = some (.string c) ∧ (w.setCell ⟨N, o, none⟩ v).cell? ⟨g, i3, none⟩ = some (.string d) := by
  obtain ⟨h0, h1, h2, h3, h4⟩ := h
  have k : ∀ j, (w.setCell ⟨N, o, none⟩ v).cell? ⟨g, j, none⟩ = w.cell? ⟨g, j, none⟩ := fun j => World.cell?_setCell_other _ _ _ _ (fun e => by have := congrArg Addr.block e; simp at this; omega)
  exact ⟨h0.grown (grownBy_set w N o v) h0.size (fun j hj => by cases hj; omega), (k i0).trans h1, (k i1).trans h2, (k i2).trans h3, (k i3).trans h4⟩
theorem keep_call5 {wA w w' : World} {g i0 i1 i2 i3 i4 : Nat} {a b c d e : ByteArray} (hg : g < wA.heap.size) (h : Below wA.heap.size wA w ∧ w.cell? ⟨g, i0, none⟩ = some (.string a) ∧ w.cell? ⟨g, i1, none⟩ = some (.string b) ∧ w.cell? ⟨g, i2, none⟩ = some (.string c) ∧ w.cell? ⟨g, i3, none⟩ = some (.string d) ∧ w.cell? ⟨g, i4, none⟩ = some (.string e)) (hb : Below w.heap.size w w') : Below wA.heap.size wA w' ∧ w'.cell? ⟨g, i0, none⟩ = some (.string a) ∧ w'.cell? ⟨g, i1, none⟩ = some (.string b) ∧ w'.cell? ⟨g, i2, none⟩ = some (.string c) ∧ w'.cell? ⟨g, i3, none⟩ = some (.string d) ∧ w'.cell? ⟨g, i4, none⟩ = some (.string e) := by
  obtain ⟨h0, h1, h2, h3, h4, h5⟩ := h
  have hl : g < w.heap.size := by have := h0.size; omega
  exact ⟨Below.on h0 h0.size hb, (hb.cell hl).trans h1, (hb.cell hl).trans h2, (hb.cell hl).trans h3, (hb.cell hl).trans h4, (hb.cell hl).trans h5⟩
theorem keep_alloc5 {wA w : World} {g i0 i1 i2 i3 i4 : Nat} {a b c d e : ByteArray} (hg : g < wA.heap.size) (h : Below wA.heap.size wA w ∧ w.cell? ⟨g, i0, none⟩ = some (.string a) ∧ w.cell? ⟨g, i1, none⟩ = some (.string b) ∧ w.cell? ⟨g, i2, none⟩ = some (.string c) ∧ w.cell? ⟨g, i3, none⟩ = some (.string d) ∧ w.cell? ⟨g, i4, none⟩ = some (.string e)) (o : Obj) : Below wA.heap.size wA (w.alloc o) ∧ (w.alloc o).cell? ⟨g, i0, none⟩ = some (.string a) ∧ (w.alloc o).cell? ⟨g, i1, none⟩ = some (.string b) ∧ (w.alloc o).cell? ⟨g, i2, none⟩ = some (.string c) ∧ (w.alloc o).cell? ⟨g, i3, none⟩ = some (.string d) ∧ (w.alloc o).cell? ⟨g, i4, none⟩ = some (.string e) := by
  have hl : g < w.heap.size := by have := h.1.size; omega
  have hb : Below w.heap.size w (w.alloc o) := by go_grown
  exact keep_call5 hg h hb
theorem keep_set5 {wA w : World} {g i0 i1 i2 i3 i4 : Nat} {a b c d e : ByteArray} (hg : g < wA.heap.size) (h : Below wA.heap.size wA w ∧ w.cell? ⟨g, i0, none⟩ = some (.string a) ∧ w.cell? ⟨g, i1, none⟩ = some (.string b) ∧ w.cell? ⟨g, i2, none⟩ = some (.string c) ∧ w.cell? ⟨g, i3, none⟩ = some (.string d) ∧ w.cell? ⟨g, i4, none⟩ = some (.string e)) (N o : Nat) (v : Value) (hN : wA.heap.size ≤ N) : Below wA.heap.size wA (w.setCell ⟨N, o, none⟩ v) ∧ (w.setCell ⟨N, o, none⟩ v).cell? ⟨g, i0, none⟩ = some (.string a) ∧ (w.setCell ⟨N, o, none⟩ v).cell? ⟨g, i1, none⟩ = some (.string b) ∧ (w.setCell ⟨N, o, none⟩ v).cell? ⟨g, i2, none⟩ = some (.string c) ∧ (w.setCell ⟨N, o, none⟩ v).cell? ⟨g, i3, none⟩ = some (.string d) ∧ (w.setCell ⟨N, o, none⟩ v).cell? ⟨g, i4, none⟩ = some (.string e) := by
  obtain ⟨h0, h1, h2, h3, h4, h5⟩ := h
  have k : ∀ j, (w.setCell ⟨N, o, none⟩ v).cell? ⟨g, j, none⟩ = w.cell? ⟨g, j, none⟩ := fun j => World.cell?_setCell_other _ _ _ _ (fun e => by have := congrArg Addr.block e; simp at this; omega)
  exact ⟨h0.grown (grownBy_set w N o v) h0.size (fun j hj => by cases hj; omega), (k i0).trans h1, (k i1).trans h2, (k i2).trans h3, (k i3).trans h4, (k i4).trans h5⟩

/-- A block of these cells, none frozen. -/
def BoxIs (N : Nat) (arr : Array Value) (T : TypeId) (w : World) : Prop := w.heap[N]? = some (.cells arr T (0, 0))
theorem BoxIs.new {W w' : World} {arr : Array Value} {T : TypeId} (hb : Below (W.alloc (.cells arr T)).heap.size (W.alloc (.cells arr T)) w') : BoxIs W.heap.size arr T w' :=
  (hb.block W.heap.size (by simp)).trans (heap_alloc_new W _)
theorem BoxIs.here (W : World) (arr : Array Value) (T : TypeId) : BoxIs W.heap.size arr T (W.alloc (.cells arr T)) := heap_alloc_new W _
theorem BoxIs.lt {w : World} {N : Nat} {arr : Array Value} {T : TypeId} (h : BoxIs N arr T w) : N < w.heap.size := (Array.getElem?_eq_some_iff.1 h).1
theorem BoxIs.old {w w' : World} {N : Nat} {arr : Array Value} {T : TypeId} (h : BoxIs N arr T w) (hb : Below w.heap.size w w') : BoxIs N arr T w' := (hb.block N h.lt).trans h
theorem BoxIs.cell {w : World} {N : Nat} {arr : Array Value} {T : TypeId} (h : BoxIs N arr T w) (j : Nat) (hj : j < arr.size) : w.cell? ⟨N, j, none⟩ = some (arr[j]'hj) := by
  unfold BoxIs at h
  simp [World.cell?, h, hj]
theorem BoxIs.frozen {w : World} {N : Nat} {arr : Array Value} {T : TypeId} (h : BoxIs N arr T w) (j : Nat) : w.frozen? ⟨N, j, none⟩ = false := by
  unfold BoxIs at h
  simp [World.frozen?, h]
theorem BoxIs.set {w : World} {N : Nat} {arr : Array Value} {T : TypeId} (h : BoxIs N arr T w) (j : Nat) (v : Value) : BoxIs N (arr.setIfInBounds j v) T (w.setCell ⟨N, j, none⟩ v) := heap_setCell_same w N j arr T v h
theorem BoxIs.fill5 {w : World} {N : Nat} {a b c d e a' b' c' d' e' : Value} {T : TypeId} (h : BoxIs N #[a, b, c, d, e] T w) : BoxIs N #[a', b', c', d', e'] T (((((w.setCell ⟨N, 0, none⟩ a').setCell ⟨N, 1, none⟩ b').setCell ⟨N, 2, none⟩ c').setCell ⟨N, 3, none⟩ d').setCell ⟨N, 4, none⟩ e') :=
  ((((h.set 0 a').set 1 b').set 2 c').set 3 d').set 4 e'
theorem BoxIs.fill34 {w : World} {N : Nat} {a b c d e d' e' : Value} {T : TypeId} (h : BoxIs N #[a, b, c, d, e] T w) : BoxIs N #[a, b, c, d', e'] T ((w.setCell ⟨N, 3, none⟩ d').setCell ⟨N, 4, none⟩ e') :=
  (h.set 3 d').set 4 e'
theorem BoxIs.other {w : World} {N M : Nat} {arr : Array Value} {T : TypeId} (h : BoxIs N arr T w) (j : Nat) (v : Value) (hM : M ≠ N) : BoxIs N arr T (w.setCell ⟨M, j, none⟩ v) := by
  have := heap_setCell_other w ⟨M, j, none⟩ N v (fun e => hM e.symm)
  exact this.trans h
end Go.Proofs.YteklomkncfjdlaaDoor
