/-
  Shapes of this seat's structs: a value of such a struct is its fields' cells, in order. No condition.
-/
import Derived.Test.YtejpmomedclnhaaBase
namespace Go.Proofs.Ytejpmomedclnhaa
open Go.ChangeShapes Go.WideShapes Go.ChangeAt Go.RowKit
open Go.ChangeMaps (open_string shut_string)




structure FlatD where
  Id : Int
  Wide : Int
  High : Int
  Grams : Int
instance : Inhabited FlatD := ⟨⟨0, 0, 0, 0⟩⟩
def FlatD.cells (s : FlatD) : List Value := [.int .i64 s.Id, .int .i64 s.Wide, .int .i64 s.High, .int .i64 s.Grams]
abbrev FlatD.val (s : FlatD) : Value := .agg #[.int .i64 s.Id, .int .i64 s.Wide, .int .i64 s.High, .int .i64 s.Grams]
def FlatD.ok (s : FlatD) : Prop := isI s.Id ∧ isI s.Wide ∧ isI s.High ∧ isI s.Grams
section
variable {H : Type} {enc : TypeId × Value → H} {w : World} {base : Nat} {spare : Nat → Bool} {held : Bool}
set_option maxRecDepth 100000 in
theorem laws_Flat_cells (n : Nat) (cs : List Value) (y : DataW H × List MemPlace) (h : DataW.trod enc Try.prog w base spare held n 23 cs = some y) : ∃ d : FlatD, cs = d.cells ∧ d.ok := by
  obtain ⟨hl, m, hf⟩ := field_of_struct Try.underlying23 (by kernel_rfl) (by kernel_rfl) h
  obtain ⟨c0, y0, e0, h0⟩ := hf 0 _ rfl
  obtain ⟨n0, r0, _, w0⟩ := DataW.trod_int Try.underlying3 h0
  obtain ⟨c1, y1, e1, h1⟩ := hf 1 _ rfl
  obtain ⟨n1, r1, _, w1⟩ := DataW.trod_int Try.underlying3 h1
  obtain ⟨c2, y2, e2, h2⟩ := hf 2 _ rfl
  obtain ⟨n2, r2, _, w2⟩ := DataW.trod_int Try.underlying3 h2
  obtain ⟨c3, y3, e3, h3⟩ := hf 3 _ rfl
  obtain ⟨n3, r3, _, w3⟩ := DataW.trod_int Try.underlying3 h3
  have hl4 : cs.length = 4 := hl
  refine ⟨⟨n0, n1, n2, n3⟩, ?_, isI_of w0, isI_of w1, isI_of w2, isI_of w3⟩
  match cs, hl4 with
  | [x0, x1, x2, x3], _ =>
    simp at e0 r0 e1 r1 e2 r2 e3 r3
    simp [FlatD.cells, e0, r0, e1, r1, e2, r2, e3, r3]
set_option maxRecDepth 100000 in
theorem laws_Flat_val {r : Reach} {b0 : Nat} {v : Value} {d : DataW H} {p : List MemPlace} (hv : Value.okWide Try.prog w r b0 23 v) (h : DataW.Trod enc Try.prog w base spare held 23 v d p) : ∃ d : FlatD, v = d.val ∧ d.ok := by
  obtain ⟨cs, rfl, _⟩ := okWide_struct Try.underlying23 hv
  obtain ⟨fuel, hf⟩ := h
  obtain ⟨s, hs, ok⟩ := laws_Flat_cells _ _ _ hf
  refine ⟨s, ?_, ok⟩
  obtain ⟨l⟩ := cs
  have hs2 : l = s.cells := hs
  rw [hs2]; rfl
end




end Go.Proofs.Ytejpmomedclnhaa
