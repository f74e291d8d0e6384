/-
  Shapes of this seat's structs: a value of such a struct is its fields' cells, in order. No condition.
-/
import Derived.Test.YtgdhjiiblfdlcaaBase
namespace Go.Proofs.Ytgdhjiiblfdlcaa
open Go.ChangeShapes Go.WideShapes Go.ChangeAt Go.RowKit
open Go.ChangeMaps (open_string shut_string)

structure SheetD where
  Id : Int
  Row : Int
  Col : Int
  Scale : Int
  Year : Int
instance : Inhabited SheetD := ⟨⟨0, 0, 0, 0, 0⟩⟩
def SheetD.cells (s : SheetD) : List Value := [.int .i64 s.Id, .int .i64 s.Row, .int .i64 s.Col, .int .i64 s.Scale, .int .i64 s.Year]
abbrev SheetD.val (s : SheetD) : Value := .agg #[.int .i64 s.Id, .int .i64 s.Row, .int .i64 s.Col, .int .i64 s.Scale, .int .i64 s.Year]
def SheetD.ok (s : SheetD) : Prop := isI s.Id ∧ isI s.Row ∧ isI s.Col ∧ isI s.Scale ∧ isI s.Year
section
variable {H : Type} {enc : TypeId × Value → H} {w : World} {base : Nat} {spare : Nat → Bool} {held : Bool}
set_option maxRecDepth 100000 in
theorem laws_Sheet_cells (n : Nat) (cs : List Value) (y : DataW H × List MemPlace) (h : DataW.trod enc Try.prog w base spare held n 60 cs = some y) : ∃ d : SheetD, cs = d.cells ∧ d.ok := by
  obtain ⟨hl, m, hf⟩ := field_of_struct Try.underlying60 (by kernel_rfl) (by kernel_rfl) h
  obtain ⟨c0, y0, e0, h0⟩ := hf 0 _ rfl
  obtain ⟨n0, r0, _, w0⟩ := DataW.trod_int Try.underlying3 h0
  obtain ⟨c1, y1, e1, h1⟩ := hf 1 _ rfl
  obtain ⟨n1, r1, _, w1⟩ := DataW.trod_int Try.underlying3 h1
  obtain ⟨c2, y2, e2, h2⟩ := hf 2 _ rfl
  obtain ⟨n2, r2, _, w2⟩ := DataW.trod_int Try.underlying3 h2
  obtain ⟨c3, y3, e3, h3⟩ := hf 3 _ rfl
  obtain ⟨n3, r3, _, w3⟩ := DataW.trod_int Try.underlying3 h3
  obtain ⟨c4, y4, e4, h4⟩ := hf 4 _ rfl
  obtain ⟨n4, r4, _, w4⟩ := DataW.trod_int Try.underlying3 h4
  have hl5 : cs.length = 5 := hl
  refine ⟨⟨n0, n1, n2, n3, n4⟩, ?_, isI_of w0, isI_of w1, isI_of w2, isI_of w3, isI_of w4⟩
  match cs, hl5 with
  | [x0, x1, x2, x3, x4], _ =>
    simp at e0 r0 e1 r1 e2 r2 e3 r3 e4 r4
    simp [SheetD.cells, e0, r0, e1, r1, e2, r2, e3, r3, e4, r4]
set_option maxRecDepth 100000 in
theorem laws_Sheet_val {r : Reach} {b0 : Nat} {v : Value} {d : DataW H} {p : List MemPlace} (hv : Value.okWide Try.prog w r b0 60 v) (h : DataW.Trod enc Try.prog w base spare held 60 v d p) : ∃ d : SheetD, v = d.val ∧ d.ok := by
  obtain ⟨cs, rfl, _⟩ := okWide_struct Try.underlying60 hv
  obtain ⟨fuel, hf⟩ := h
  obtain ⟨s, hs, ok⟩ := laws_Sheet_cells _ _ _ hf
  refine ⟨s, ?_, ok⟩
  obtain ⟨l⟩ := cs
  have hs2 : l = s.cells := hs
  rw [hs2]; rfl
end



structure FlatD where
  Id : Int
  Wide : Int
  High : Int
  Grams : Int
instance : Inhabited FlatD := ⟨⟨0, 0, 0, 0⟩⟩
def FlatD.cells (s : FlatD) : List Value := [.int .i64 s.Id, .int .i64 s.Wide, .int .i64 s.High, .int .i64 s.Grams]
abbrev FlatD.val (s : FlatD) : Value := .agg #[.int .i64 s.Id, .int .i64 s.Wide, .int .i64 s.High, .int .i64 s.Grams]
def FlatD.ok (s : FlatD) : Prop := isI s.Id ∧ isI s.Wide ∧ isI s.High ∧ isI s.Grams
section
variable {H : Type} {enc : TypeId × Value → H} {w : World} {base : Nat} {spare : Nat → Bool} {held : Bool}
set_option maxRecDepth 100000 in
theorem laws_Flat_cells (n : Nat) (cs : List Value) (y : DataW H × List MemPlace) (h : DataW.trod enc Try.prog w base spare held n 40 cs = some y) : ∃ d : FlatD, cs = d.cells ∧ d.ok := by
  obtain ⟨hl, m, hf⟩ := field_of_struct Try.underlying40 (by kernel_rfl) (by kernel_rfl) h
  obtain ⟨c0, y0, e0, h0⟩ := hf 0 _ rfl
  obtain ⟨n0, r0, _, w0⟩ := DataW.trod_int Try.underlying3 h0
  obtain ⟨c1, y1, e1, h1⟩ := hf 1 _ rfl
  obtain ⟨n1, r1, _, w1⟩ := DataW.trod_int Try.underlying3 h1
  obtain ⟨c2, y2, e2, h2⟩ := hf 2 _ rfl
  obtain ⟨n2, r2, _, w2⟩ := DataW.trod_int Try.underlying3 h2
  obtain ⟨c3, y3, e3, h3⟩ := hf 3 _ rfl
  obtain ⟨n3, r3, _, w3⟩ := DataW.trod_int Try.underlying3 h3
  have hl4 : cs.length = 4 := hl
  refine ⟨⟨n0, n1, n2, n3⟩, ?_, isI_of w0, isI_of w1, isI_of w2, isI_of w3⟩
  match cs, hl4 with
  | [x0, x1, x2, x3], _ =>
    simp at e0 r0 e1 r1 e2 r2 e3 r3
    simp [FlatD.cells, e0, r0, e1, r1, e2, r2, e3, r3]
set_option maxRecDepth 100000 in
theorem laws_Flat_val {r : Reach} {b0 : Nat} {v : Value} {d : DataW H} {p : List MemPlace} (hv : Value.okWide Try.prog w r b0 40 v) (h : DataW.Trod enc Try.prog w base spare held 40 v d p) : ∃ d : FlatD, v = d.val ∧ d.ok := by
  obtain ⟨cs, rfl, _⟩ := okWide_struct Try.underlying40 hv
  obtain ⟨fuel, hf⟩ := h
  obtain ⟨s, hs, ok⟩ := laws_Flat_cells _ _ _ hf
  refine ⟨s, ?_, ok⟩
  obtain ⟨l⟩ := cs
  have hs2 : l = s.cells := hs
  rw [hs2]; rfl
end




end Go.Proofs.Ytgdhjiiblfdlcaa
