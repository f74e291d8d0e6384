/-
  No cell of these rows narrows 'for every input' (looked for: loops, veiled, ifaces, maps, wideKeys, modest, calm, conditions, laid).
  DERIVED. THE GIVEN ROWS OF THIS SEAT. 5 by the template 'for every input the law returns true; each argument reads behind the call as it read before'; 0 by the template 'total and deterministic' (their statements: YthlpeiphbpdcpaaTotals.lean).
  GIVEN WITH THE SEED: the statements are not yours to turn. If you find one false, say at which input.
  Laid BY PROGRAM, IN A SANDBOX (cutbox-rows.mjs): the forced cells as the released guide's own fill.sh prints them over the translation bdb36ecc0d123eb4… (all of the seat's roots in one cut). By AI agents, Wed Nov 11 2026. No macro, syntax, notation, axiom, sorry.
-/
import Derived.Test.YthlpeiphbpdcpaaChecked
import GoSem.Claim
import GoSem.ClaimJoined
import GoSem.ClaimMapViews
import Derived.JoinedTies
import Derived.KernelRfl
namespace Go.Proofs.Ythlpeiphbpdcpaa
/- THE CELL 'sum', in the pinned program and in every row, IS THE sha256 OF THE DUMP (.gsa) THAT YthlpeiphbpdcpaaProg.lean LOADS. Nothing in Lean hashes anything: it is a label: what it is worth is what the hold of that sum in a sandbox is worth. -/
noncomputable def Try.pinned : Pinned := { name := "ythlpeiphbpdcpaa", sum := "bdb36ecc0d123eb41ec68fc83d0d5b6b0f7107ab950bca500357c0b9432b36f0", checked := Try.checked }
namespace Rows
def none {H : Type} : Left H := { results := [], args := [] }

/-- 'laws.FnExactOnPaper': WHATEVER THE INPUT: true; the input reads as it did. -/
def fnExactOnPaperSpec : ChangeSpec := { name := "fnExactOnPaper", fn := fun _ => fun
  | [d1, d2] => { results := [.lit (.bool true)], args := [d1, d2] }
  | _ => none }
def fnExactOnPaperRow : OpenClaim := { program := "ythlpeiphbpdcpaa", sum := "bdb36ecc0d123eb41ec68fc83d0d5b6b0f7107ab950bca500357c0b9432b36f0", func := "loop.example/g01060/laws.FnExactOnPaper", spec := "fnExactOnPaper", apart := false }
def FnExactOnPaperSaid : Prop := fnExactOnPaperRow.holds Try.pinned (OpenSpec.ofChange fnExactOnPaperSpec)

/-- ITS FALSE NEIGHBOUR: 'it returns false'. Refute it at one input. -/
def fnExactOnPaperWrong : ChangeSpec := { name := "fnExactOnPaper", fn := fun _ => fun
  | [d1, d2] => { results := [.lit (.bool false)], args := [d1, d2] }
  | _ => none }
def FnExactOnPaperWrongFalsely : Prop := fnExactOnPaperRow.holds Try.pinned (OpenSpec.ofChange fnExactOnPaperWrong)

/-- 'laws.FnExactAreSheets': WHATEVER THE INPUT: true; the input reads as it did. -/
def fnExactAreSheetsSpec : ChangeSpec := { name := "fnExactAreSheets", fn := fun _ => fun
  | [d] => { results := [.lit (.bool true)], args := [d] }
  | _ => none }
def fnExactAreSheetsRow : OpenClaim := { program := "ythlpeiphbpdcpaa", sum := "bdb36ecc0d123eb41ec68fc83d0d5b6b0f7107ab950bca500357c0b9432b36f0", func := "loop.example/g01060/laws.FnExactAreSheets", spec := "fnExactAreSheets", unfollowed := true, recurses := true, apart := false }
def FnExactAreSheetsSaid : Prop := fnExactAreSheetsRow.holds Try.pinned (OpenSpec.ofChange fnExactAreSheetsSpec)

/-- ITS FALSE NEIGHBOUR: 'it returns false'. Refute it at one input. -/
def fnExactAreSheetsWrong : ChangeSpec := { name := "fnExactAreSheets", fn := fun _ => fun
  | [d] => { results := [.lit (.bool false)], args := [d] }
  | _ => none }
def FnExactAreSheetsWrongFalsely : Prop := fnExactAreSheetsRow.holds Try.pinned (OpenSpec.ofChange fnExactAreSheetsWrong)

/-- 'laws.FnExactSheetAt': WHATEVER THE INPUT: true; the input reads as it did. -/
def fnExactSheetAtSpec : ChangeSpec := { name := "fnExactSheetAt", fn := fun _ => fun
  | [d1, d2, d3, d4] => { results := [.lit (.bool true)], args := [d1, d2, d3, d4] }
  | _ => none }
def fnExactSheetAtRow : OpenClaim := { program := "ythlpeiphbpdcpaa", sum := "bdb36ecc0d123eb41ec68fc83d0d5b6b0f7107ab950bca500357c0b9432b36f0", func := "loop.example/g01060/laws.FnExactSheetAt", spec := "fnExactSheetAt", unfollowed := true, recurses := true, apart := false }
def FnExactSheetAtSaid : Prop := fnExactSheetAtRow.holds Try.pinned (OpenSpec.ofChange fnExactSheetAtSpec)

/-- ITS FALSE NEIGHBOUR: 'it returns false'. Refute it at one input. -/
def fnExactSheetAtWrong : ChangeSpec := { name := "fnExactSheetAt", fn := fun _ => fun
  | [d1, d2, d3, d4] => { results := [.lit (.bool false)], args := [d1, d2, d3, d4] }
  | _ => none }
def FnExactSheetAtWrongFalsely : Prop := fnExactSheetAtRow.holds Try.pinned (OpenSpec.ofChange fnExactSheetAtWrong)

/-- 'laws.FnExactNeighborsOf': WHATEVER THE INPUT: true; the input reads as it did. -/
def fnExactNeighborsOfSpec : ChangeSpec := { name := "fnExactNeighborsOf", fn := fun _ => fun
  | [d1, d2] => { results := [.lit (.bool true)], args := [d1, d2] }
  | _ => none }
def fnExactNeighborsOfRow : OpenClaim := { program := "ythlpeiphbpdcpaa", sum := "bdb36ecc0d123eb41ec68fc83d0d5b6b0f7107ab950bca500357c0b9432b36f0", func := "loop.example/g01060/laws.FnExactNeighborsOf", spec := "fnExactNeighborsOf", unfollowed := true, recurses := true, apart := false }
def FnExactNeighborsOfSaid : Prop := fnExactNeighborsOfRow.holds Try.pinned (OpenSpec.ofChange fnExactNeighborsOfSpec)

/-- ITS FALSE NEIGHBOUR: 'it returns false'. Refute it at one input. -/
def fnExactNeighborsOfWrong : ChangeSpec := { name := "fnExactNeighborsOf", fn := fun _ => fun
  | [d1, d2] => { results := [.lit (.bool false)], args := [d1, d2] }
  | _ => none }
def FnExactNeighborsOfWrongFalsely : Prop := fnExactNeighborsOfRow.holds Try.pinned (OpenSpec.ofChange fnExactNeighborsOfWrong)

/-- 'laws.FnExactShowsOverview': WHATEVER THE INPUT: true; the input reads as it did. -/
def fnExactShowsOverviewSpec : ChangeSpec := { name := "fnExactShowsOverview", fn := fun _ => fun
  | [d1, d2] => { results := [.lit (.bool true)], args := [d1, d2] }
  | _ => none }
def fnExactShowsOverviewRow : OpenClaim := { program := "ythlpeiphbpdcpaa", sum := "bdb36ecc0d123eb41ec68fc83d0d5b6b0f7107ab950bca500357c0b9432b36f0", func := "loop.example/g01060/laws.FnExactShowsOverview", spec := "fnExactShowsOverview", unfollowed := true, recurses := true, apart := false }
def FnExactShowsOverviewSaid : Prop := fnExactShowsOverviewRow.holds Try.pinned (OpenSpec.ofChange fnExactShowsOverviewSpec)

/-- ITS FALSE NEIGHBOUR: 'it returns false'. Refute it at one input. -/
def fnExactShowsOverviewWrong : ChangeSpec := { name := "fnExactShowsOverview", fn := fun _ => fun
  | [d1, d2] => { results := [.lit (.bool false)], args := [d1, d2] }
  | _ => none }
def FnExactShowsOverviewWrongFalsely : Prop := fnExactShowsOverviewRow.holds Try.pinned (OpenSpec.ofChange fnExactShowsOverviewWrong)

/- THE SECOND FORM. 'bulk': how many values and letters a reading holds, each counted each time it is reached (what is shared counts as often as it is met; a slice's spare places count too). A statement '..UptoSaid' is the law's where the arguments, and the package variables that the reading takes, are together of bulk at most 1048576: NARROWER than '..Said'. Prove '..Said' where nothing that the law and all that it calls make is longer than what came in: it says more and counts as full. Else prove '..UptoSaid'. A law counts once. -/
mutual
def uptoBulk {H : Type} : DataW H → Nat
  | .lit (.string bytes) => bytes.length + 1
  | .lit _ => 1
  | .nil => 1
  | .ptr d => uptoBulk d + 1
  | .slice elems spare => uptoBulkAll elems + uptoBulkAll spare + 1
  | .agg parts => uptoBulkAll parts + 1
  | .iface _ d => uptoBulk d + 1
  | .map entries => uptoBulkEntries entries + 1
  | .held _ => 1
def uptoBulkAll {H : Type} : List (DataW H) → Nat
  | [] => 0
  | d :: r => uptoBulk d + uptoBulkAll r
def uptoBulkEntries {H : Type} : List (Lit × DataW H) → Nat
  | [] => 0
  | x :: r => uptoBulkEntry x + uptoBulkEntries r
def uptoBulkEntry {H : Type} : Lit × DataW H → Nat
  | (.string bytes, d) => bytes.length + uptoBulk d + 1
  | (_, d) => uptoBulk d + 1
 end
def uptoSmall : (H : Type) → List (DataW H) → Bool := fun _ ds => decide (uptoBulkAll ds ≤ 1048576)
def OpenSpec.upto (s : _root_.Go.ChangeSpec) : _root_.Go.OpenSpec := { _root_.Go.OpenSpec.ofChange s with cond := some uptoSmall }

/-- 'laws.FnExactOnPaper', WHERE WHAT IT READS IS OF BULK AT MOST 1048576: true; the input reads as it did. -/
def fnExactOnPaperUptoRow : OpenClaim := { program := "ythlpeiphbpdcpaa", sum := "bdb36ecc0d123eb41ec68fc83d0d5b6b0f7107ab950bca500357c0b9432b36f0", func := "loop.example/g01060/laws.FnExactOnPaper", spec := "fnExactOnPaper", apart := false, narrowed := true }
def FnExactOnPaperUptoSaid : Prop := fnExactOnPaperUptoRow.holds Try.pinned (OpenSpec.upto fnExactOnPaperSpec)

/-- 'laws.FnExactAreSheets', WHERE WHAT IT READS IS OF BULK AT MOST 1048576: true; the input reads as it did. -/
def fnExactAreSheetsUptoRow : OpenClaim := { program := "ythlpeiphbpdcpaa", sum := "bdb36ecc0d123eb41ec68fc83d0d5b6b0f7107ab950bca500357c0b9432b36f0", func := "loop.example/g01060/laws.FnExactAreSheets", spec := "fnExactAreSheets", unfollowed := true, recurses := true, apart := false, narrowed := true }
def FnExactAreSheetsUptoSaid : Prop := fnExactAreSheetsUptoRow.holds Try.pinned (OpenSpec.upto fnExactAreSheetsSpec)

/-- 'laws.FnExactSheetAt', WHERE WHAT IT READS IS OF BULK AT MOST 1048576: true; the input reads as it did. -/
def fnExactSheetAtUptoRow : OpenClaim := { program := "ythlpeiphbpdcpaa", sum := "bdb36ecc0d123eb41ec68fc83d0d5b6b0f7107ab950bca500357c0b9432b36f0", func := "loop.example/g01060/laws.FnExactSheetAt", spec := "fnExactSheetAt", unfollowed := true, recurses := true, apart := false, narrowed := true }
def FnExactSheetAtUptoSaid : Prop := fnExactSheetAtUptoRow.holds Try.pinned (OpenSpec.upto fnExactSheetAtSpec)

/-- 'laws.FnExactNeighborsOf', WHERE WHAT IT READS IS OF BULK AT MOST 1048576: true; the input reads as it did. -/
def fnExactNeighborsOfUptoRow : OpenClaim := { program := "ythlpeiphbpdcpaa", sum := "bdb36ecc0d123eb41ec68fc83d0d5b6b0f7107ab950bca500357c0b9432b36f0", func := "loop.example/g01060/laws.FnExactNeighborsOf", spec := "fnExactNeighborsOf", unfollowed := true, recurses := true, apart := false, narrowed := true }
def FnExactNeighborsOfUptoSaid : Prop := fnExactNeighborsOfUptoRow.holds Try.pinned (OpenSpec.upto fnExactNeighborsOfSpec)

/-- 'laws.FnExactShowsOverview', WHERE WHAT IT READS IS OF BULK AT MOST 1048576: true; the input reads as it did. -/
def fnExactShowsOverviewUptoRow : OpenClaim := { program := "ythlpeiphbpdcpaa", sum := "bdb36ecc0d123eb41ec68fc83d0d5b6b0f7107ab950bca500357c0b9432b36f0", func := "loop.example/g01060/laws.FnExactShowsOverview", spec := "fnExactShowsOverview", unfollowed := true, recurses := true, apart := false, narrowed := true }
def FnExactShowsOverviewUptoSaid : Prop := fnExactShowsOverviewUptoRow.holds Try.pinned (OpenSpec.upto fnExactShowsOverviewSpec)

end Rows
end Go.Proofs.Ythlpeiphbpdcpaa
