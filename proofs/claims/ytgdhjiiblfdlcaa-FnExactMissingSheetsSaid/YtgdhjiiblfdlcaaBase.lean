/-
  Shared ground of this seat's proofs: how struct values and slices that came in are opened into plain cells; small words for worlds. No condition.
-/
import Derived.Test.YtgdhjiiblfdlcaaRows
import Derived.WalkKit
import Derived.ProofKit
import Derived.OpenShut
import Derived.ShutString
import Derived.ChangeOld
import Derived.Below
import Derived.Deep.Slices
import Derived.Deep.Fields
import Derived.Lib.SmallJoins
import Derived.Handy
import Derived.WalkSpells
import Derived.WalkLawsBesides
namespace Go.Proofs.Ytgdhjiiblfdlcaa
open Go.ChangeShapes Go.WideShapes Go.ChangeAt Go.RowKit

theorem own : ownKnob Try.prog.godebug = none := by kernel_rfl
theorem laidOut : laidOutB Try.prog = true := by kernel_rfl

theorem band {a b : Bool} (h : a = true) (k : b = true) : (a && b) = true := by rw [h, k]; rfl
theorem hid {p : Prop} (h : p) : Hid p := h

/-- A number lies within two bounds. -/
def inB (x a b : Int) : Bool := decide (a ≤ x) && decide (x ≤ b)

/-- Bounds of a Go int. -/
def isI (x : Int) : Prop := -9223372036854775808 ≤ x ∧ x ≤ 9223372036854775807

theorem isI_of {x : Int} (h : (Lit.int .i64 x).wf = true) : isI x := by
  simpa [Lit.wf, IntKind.min, IntKind.max, IntKind.signed, IntKind.bits, isI] using h

section
variable {H : Type} {enc : TypeId × Value → H} {P : Program} {w : World} {base : Nat} {spare : Nat → Bool} {held : Bool}

/-- A struct of one-cell fields: each field's cell and its own reading. -/
theorem field_of_struct {t : TypeId} {fs : Array Field} {fuel : Nat} {cs : List Value} {x : DataW H × List MemPlace} (ht : P.underlying t = some (.struct fs)) (hone : Deep.oneCellFields P fs = true)
    (hC : P.cellsOf t = fs.size) (h : DataW.trod enc P w base spare held fuel t cs = some x) :
    cs.length = fs.size ∧ ∃ m, ∀ (i : Nat) (f : Field), fs[i]? = some f → ∃ c y, cs[i]? = some c ∧ DataW.trod enc P w base spare held m f.type [c] = some y := by
  obtain ⟨xs, n, _, rfl, hl, hlen, hf⟩ := DataW.trod_struct ht h
  rw [hC] at hl
  refine ⟨hl, n, fun i f hi => ?_⟩
  have hlt : i < fs.size := (Array.getElem?_eq_some_iff.1 hi).1
  obtain ⟨o, k⟩ := Deep.hone_of hone i f hi
  have hx := hf i f hi
  rw [o, k] at hx
  have hc : (cs.drop i).take 1 = [cs[i]] := by
    rw [List.drop_eq_getElem_cons (by omega)]; rfl
  rw [hc] at hx
  refine ⟨cs[i], xs[i], by simp [hl, hlt], ?_⟩
  rw [hx]; simp [hlen, hlt]

/-- A slice whose elements lie as rows of k cells: element i's cells are C i. -/
def Sl (w : World) (k : Nat) (a : Option Addr) (len : Nat) (C : Nat → List Value) : Prop :=
  len = 0 ∨ ∃ b off, a = some ⟨b, off, none⟩ ∧ b < w.heap.size ∧ ∀ i, i < len → ∀ j, j < k → w.cell? ⟨b, off + i * k + j, none⟩ = (C i)[j]?

theorem sl_open {D : Type} [Inhabited D] {T e : TypeId} {k len cap fuel : Nat} {a : Option Addr} {x : DataW H × List MemPlace} (cells : D → List Value) (ok : D → Prop)
    (ht : P.underlying T = some (.slice e)) (hk : P.cellsOf e = k) (hpos : 0 < k)
    (hone : ∀ n cs y, DataW.trod enc P w base spare held n e cs = some y → ∃ d, cs = cells d ∧ ok d)
    (h : DataW.trod enc P w base spare held fuel T [.slice a len cap] = some x) :
    ∃ X : Nat → D, Sl w k a len (fun i => cells (X i)) ∧ (∀ i, i < len → ok (X i)) ∧ len ≤ maxLen := by
  rcases Deep.open_slice ht h with ⟨hcs, _⟩ | ⟨a', len', cap', m, n, Dd, Pl, hcs, _, hl, hm, hmm, _, hx⟩
  · simp at hcs
    obtain ⟨rfl, rfl, rfl⟩ := hcs
    exact ⟨fun _ => default, .inl rfl, fun i hi => by omega, by simp [maxLen]⟩
  · simp at hcs
    obtain ⟨rfl, rfl, rfl⟩ := hcs
    have hlm : len ≤ m := by rw [hmm]; split <;> omega
    obtain ⟨X, hX⟩ := Deep.choose_lt (α := D) (n := len) (p := fun i d => w.cells? base (a'.add (i * k)) k = some (cells d) ∧ ok d) (fun i hi => by
      obtain ⟨cs', h1, h2⟩ := hx i (by omega)
      rw [hk] at h1
      obtain ⟨d, rfl, hd⟩ := hone n cs' _ h2
      exact ⟨d, h1, hd⟩)
    refine ⟨X, ?_, fun i hi => (hX i hi).2, by omega⟩
    by_cases h0 : len = 0
    · exact .inl h0
    · right
      obtain ⟨b, off, spot⟩ := a'
      have hc0 := World.cells?_some (hX 0 (by omega)).1
      have hlen0 := hc0.2.1
      have hcell0 : w.cell? ⟨b, off, spot⟩ = some ((cells (X 0))[0]'(by omega)) := by
        have := hc0.2.2 0 hpos
        simp [Addr.add] at this
        rw [this]; simp [hlen0, hpos]
      have hspot : spot = none := World.cell?_spot hcell0
      subst hspot
      refine ⟨b, off, rfl, ?_, fun i hi j hj => ?_⟩
      · by_cases hb : b < w.heap.size
        · exact hb
        · have : w.heap[b]? = none := by simp; omega
          simp [World.cell?, this] at hcell0
      · have hci := (World.cells?_some (hX i hi).1).2.2 j hj
        rw [← hci]
        congr 1
        simp only [Addr.add]
        split <;> split <;> simp_all <;> omega
end

theorem Sl.below {w w' : World} {k len : Nat} {a : Option Addr} {C : Nat → List Value} (h : Sl w k a len C) (hb : Below w.heap.size w w') : Sl w' k a len C := by
  rcases h with h | ⟨b, off, rfl, hlt, hc⟩
  · exact .inl h
  · exact .inr ⟨b, off, rfl, by have := hb.size; omega, fun i hi j hj => (hb.cell (p := ⟨b, off + i * k + j, none⟩) hlt).trans (hc i hi j hj)⟩

theorem ret_int {k : IntKind} {a b : Int} (h : a = b) : Ending.returned (.int k a) = .returned (.int k b) := by rw [h]
theorem ret_bool {a b : Bool} (h : a = b) : Ending.returned (.bool a) = .returned (.bool b) := by rw [h]

/-- What a callee that writes nothing old leaves: old cells and marks read as before. -/
theorem bcell {W w1 : World} (hb : Below W.heap.size W w1) : (∀ b o, b < W.heap.size → w1.cell? ⟨b, o, none⟩ = W.cell? ⟨b, o, none⟩) ∧ (∀ b o, b < W.heap.size → w1.frozen? ⟨b, o, none⟩ = W.frozen? ⟨b, o, none⟩) :=
  ⟨fun b o h => hb.cell (p := ⟨b, o, none⟩) h, fun b o h => hb.frozen (p := ⟨b, o, none⟩) h⟩

theorem Below.on {B : Nat} {a b c : World} (h : Below B a b) (hB : B ≤ b.heap.size) (k : Below b.heap.size b c) : Below B a c := h.trans (k.mono hB)

end Go.Proofs.Ytgdhjiiblfdlcaa
