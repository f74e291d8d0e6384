/-
  Shapes of this seat's structs: a value of such a struct is its fields' cells, in order. No condition.
-/
import Derived.Test.YteklomkncfjdlaaDoorBase
namespace Go.Proofs.YteklomkncfjdlaaDoor
open Go.ChangeShapes Go.WideShapes Go.ChangeAt Go.RowKit
open Go.ChangeMaps (open_string shut_string)

structure SheetD where
  Id : Int
  Row : Int
  Col : Int
  Scale : Int
  Year : Int
instance : Inhabited SheetD := ⟨⟨0, 0, 0, 0, 0⟩⟩
def SheetD.cells (s : SheetD) : List Value := [.int .i64 s.Id, .int .i64 s.Row, .int .i64 s.Col, .int .i64 s.Scale, .int .i64 s.Year]
abbrev SheetD.val (s : SheetD) : Value := .agg #[.int .i64 s.Id, .int .i64 s.Row, .int .i64 s.Col, .int .i64 s.Scale, .int .i64 s.Year]
def SheetD.ok (s : SheetD) : Prop := isI s.Id ∧ isI s.Row ∧ isI s.Col ∧ isI s.Scale ∧ isI s.Year
section
variable {H : Type} {enc : TypeId × Value → H} {w : World} {base : Nat} {spare : Nat → Bool} {held : Bool}
set_option maxRecDepth 100000 in
theorem laws_Sheet_cells (n : Nat) (cs : List Value) (y : DataW H × List MemPlace) (h : DataW.trod enc Tryd.prog w base spare held n 36 cs = some y) : ∃ d : SheetD, cs = d.cells ∧ d.ok := by
  obtain ⟨hl, m, hf⟩ := field_of_struct Tryd.underlying36 (by kernel_rfl) (by kernel_rfl) h
  obtain ⟨c0, y0, e0, h0⟩ := hf 0 _ rfl
  obtain ⟨n0, r0, _, w0⟩ := DataW.trod_int Tryd.underlying3 h0
  obtain ⟨c1, y1, e1, h1⟩ := hf 1 _ rfl
  obtain ⟨n1, r1, _, w1⟩ := DataW.trod_int Tryd.underlying3 h1
  obtain ⟨c2, y2, e2, h2⟩ := hf 2 _ rfl
  obtain ⟨n2, r2, _, w2⟩ := DataW.trod_int Tryd.underlying3 h2
  obtain ⟨c3, y3, e3, h3⟩ := hf 3 _ rfl
  obtain ⟨n3, r3, _, w3⟩ := DataW.trod_int Tryd.underlying3 h3
  obtain ⟨c4, y4, e4, h4⟩ := hf 4 _ rfl
  obtain ⟨n4, r4, _, w4⟩ := DataW.trod_int Tryd.underlying3 h4
  have hl5 : cs.length = 5 := hl
  refine ⟨⟨n0, n1, n2, n3, n4⟩, ?_, isI_of w0, isI_of w1, isI_of w2, isI_of w3, isI_of w4⟩
  match cs, hl5 with
  | [x0, x1, x2, x3, x4], _ =>
    simp at e0 r0 e1 r1 e2 r2 e3 r3 e4 r4
    simp [SheetD.cells, e0, r0, e1, r1, e2, r2, e3, r3, e4, r4]
set_option maxRecDepth 100000 in
theorem laws_Sheet_val {r : Reach} {b0 : Nat} {v : Value} {d : DataW H} {p : List MemPlace} (hv : Value.okWide Tryd.prog w r b0 36 v) (h : DataW.Trod enc Tryd.prog w base spare held 36 v d p) : ∃ d : SheetD, v = d.val ∧ d.ok := by
  obtain ⟨cs, rfl, _⟩ := okWide_struct Tryd.underlying36 hv
  obtain ⟨fuel, hf⟩ := h
  obtain ⟨s, hs, ok⟩ := laws_Sheet_cells _ _ _ hf
  refine ⟨s, ?_, ok⟩
  obtain ⟨l⟩ := cs
  have hs2 : l = s.cells := hs
  rw [hs2]; rfl
end




structure SpotD where
  X : Int
  Y : Int
  Den : Int
instance : Inhabited SpotD := ⟨⟨0, 0, 0⟩⟩
def SpotD.cells (s : SpotD) : List Value := [.int .i64 s.X, .int .i64 s.Y, .int .i64 s.Den]
abbrev SpotD.val (s : SpotD) : Value := .agg #[.int .i64 s.X, .int .i64 s.Y, .int .i64 s.Den]
def SpotD.ok (s : SpotD) : Prop := isI s.X ∧ isI s.Y ∧ isI s.Den
section
variable {H : Type} {enc : TypeId × Value → H} {w : World} {base : Nat} {spare : Nat → Bool} {held : Bool}
set_option maxRecDepth 100000 in
theorem laws_Spot_cells (n : Nat) (cs : List Value) (y : DataW H × List MemPlace) (h : DataW.trod enc Tryd.prog w base spare held n 42 cs = some y) : ∃ d : SpotD, cs = d.cells ∧ d.ok := by
  obtain ⟨hl, m, hf⟩ := field_of_struct Tryd.underlying42 (by kernel_rfl) (by kernel_rfl) h
  obtain ⟨c0, y0, e0, h0⟩ := hf 0 _ rfl
  obtain ⟨n0, r0, _, w0⟩ := DataW.trod_int Tryd.underlying3 h0
  obtain ⟨c1, y1, e1, h1⟩ := hf 1 _ rfl
  obtain ⟨n1, r1, _, w1⟩ := DataW.trod_int Tryd.underlying3 h1
  obtain ⟨c2, y2, e2, h2⟩ := hf 2 _ rfl
  obtain ⟨n2, r2, _, w2⟩ := DataW.trod_int Tryd.underlying3 h2
  have hl3 : cs.length = 3 := hl
  refine ⟨⟨n0, n1, n2⟩, ?_, isI_of w0, isI_of w1, isI_of w2⟩
  match cs, hl3 with
  | [x0, x1, x2], _ =>
    simp at e0 r0 e1 r1 e2 r2
    simp [SpotD.cells, e0, r0, e1, r1, e2, r2]
set_option maxRecDepth 100000 in
theorem laws_Spot_val {r : Reach} {b0 : Nat} {v : Value} {d : DataW H} {p : List MemPlace} (hv : Value.okWide Tryd.prog w r b0 42 v) (h : DataW.Trod enc Tryd.prog w base spare held 42 v d p) : ∃ d : SpotD, v = d.val ∧ d.ok := by
  obtain ⟨cs, rfl, _⟩ := okWide_struct Tryd.underlying42 hv
  obtain ⟨fuel, hf⟩ := h
  obtain ⟨s, hs, ok⟩ := laws_Spot_cells _ _ _ hf
  refine ⟨s, ?_, ok⟩
  obtain ⟨l⟩ := cs
  have hs2 : l = s.cells := hs
  rw [hs2]; rfl
end

structure ReaderD where
  Id : Int
  Name : ByteArray
  Joined : Int
  Class : Int
  Fines : Int
instance : Inhabited ReaderD := ⟨⟨0, ByteArray.empty, 0, 0, 0⟩⟩
def ReaderD.cells (s : ReaderD) : List Value := [.int .i64 s.Id, .string s.Name, .int .i64 s.Joined, .int .i64 s.Class, .int .i64 s.Fines]
abbrev ReaderD.val (s : ReaderD) : Value := .agg #[.int .i64 s.Id, .string s.Name, .int .i64 s.Joined, .int .i64 s.Class, .int .i64 s.Fines]
def ReaderD.ok (s : ReaderD) : Prop := isI s.Id ∧ s.Name.size ≤ maxLen ∧ isI s.Joined ∧ isI s.Class ∧ isI s.Fines
section
variable {H : Type} {enc : TypeId × Value → H} {w : World} {base : Nat} {spare : Nat → Bool} {held : Bool}
set_option maxRecDepth 100000 in
theorem laws_Reader_cells (n : Nat) (cs : List Value) (y : DataW H × List MemPlace) (h : DataW.trod enc Tryd.prog w base spare held n 48 cs = some y) : ∃ d : ReaderD, cs = d.cells ∧ d.ok := by
  obtain ⟨hl, m, hf⟩ := field_of_struct Tryd.underlying48 (by kernel_rfl) (by kernel_rfl) h
  obtain ⟨c0, y0, e0, h0⟩ := hf 0 _ rfl
  obtain ⟨n0, r0, _, w0⟩ := DataW.trod_int Tryd.underlying3 h0
  obtain ⟨c1, y1, e1, h1⟩ := hf 1 _ rfl
  obtain ⟨n1, r1, _, w1⟩ := DataW.trod_string Tryd.underlying9 h1
  obtain ⟨c2, y2, e2, h2⟩ := hf 2 _ rfl
  obtain ⟨n2, r2, _, w2⟩ := DataW.trod_int Tryd.underlying3 h2
  obtain ⟨c3, y3, e3, h3⟩ := hf 3 _ rfl
  obtain ⟨n3, r3, _, w3⟩ := DataW.trod_int Tryd.underlying3 h3
  obtain ⟨c4, y4, e4, h4⟩ := hf 4 _ rfl
  obtain ⟨n4, r4, _, w4⟩ := DataW.trod_int Tryd.underlying3 h4
  have hl5 : cs.length = 5 := hl
  refine ⟨⟨n0, n1, n2, n3, n4⟩, ?_, isI_of w0, w1, isI_of w2, isI_of w3, isI_of w4⟩
  match cs, hl5 with
  | [x0, x1, x2, x3, x4], _ =>
    simp at e0 r0 e1 r1 e2 r2 e3 r3 e4 r4
    simp [ReaderD.cells, e0, r0, e1, r1, e2, r2, e3, r3, e4, r4]
set_option maxRecDepth 100000 in
theorem laws_Reader_val {r : Reach} {b0 : Nat} {v : Value} {d : DataW H} {p : List MemPlace} (hv : Value.okWide Tryd.prog w r b0 48 v) (h : DataW.Trod enc Tryd.prog w base spare held 48 v d p) : ∃ d : ReaderD, v = d.val ∧ d.ok := by
  obtain ⟨cs, rfl, _⟩ := okWide_struct Tryd.underlying48 hv
  obtain ⟨fuel, hf⟩ := h
  obtain ⟨s, hs, ok⟩ := laws_Reader_cells _ _ _ hf
  refine ⟨s, ?_, ok⟩
  obtain ⟨l⟩ := cs
  have hs2 : l = s.cells := hs
  rw [hs2]; rfl
end


end Go.Proofs.YteklomkncfjdlaaDoor
