/-
  No cell of these rows narrows 'for every input' (looked for: loops, veiled, ifaces, maps, wideKeys, modest, calm, conditions, laid).
  DERIVED. THE GIVEN ROWS OF THIS SEAT. 11 by the template 'for every input the law returns true; each argument reads behind the call as it read before'; 0 by the template 'total and deterministic' (their statements: YtejpmomedclnhaaTotals.lean).
  GIVEN WITH THE SEED: the statements are not yours to turn. If you find one false, say at which input.
  Laid BY PROGRAM, IN A SANDBOX (cutbox-rows.mjs): the forced cells as the released guide's own fill.sh prints them over the translation 0fbbf8b977e4f88a… (all of the seat's roots in one cut). By AI agents, Wed Nov 11 2026. No macro, syntax, notation, axiom, sorry.
-/
import Derived.Test.YtejpmomedclnhaaChecked
import GoSem.Claim
import GoSem.ClaimJoined
import GoSem.ClaimMapViews
import Derived.JoinedTies
import Derived.KernelRfl
namespace Go.Proofs.Ytejpmomedclnhaa
/- THE CELL 'sum', in the pinned program and in every row, IS THE sha256 OF THE DUMP (.gsa) THAT YtejpmomedclnhaaProg.lean LOADS. Nothing in Lean hashes anything: it is a label: what it is worth is what the hold of that sum in a sandbox is worth. -/
noncomputable def Try.pinned : Pinned := { name := "ytejpmomedclnhaa", sum := "0fbbf8b977e4f88aaf1b0a2f2d133c13730899eac915b271110186890f6ca2a4", checked := Try.checked }
namespace Rows
def none {H : Type} : Left H := { results := [], args := [] }

/-- 'laws.FnExactDoesFit': WHATEVER THE INPUT: true; the input reads as it did. -/
def fnExactDoesFitSpec : ChangeSpec := { name := "fnExactDoesFit", fn := fun _ => fun
  | [d1, d2] => { results := [.lit (.bool true)], args := [d1, d2] }
  | _ => none }
def fnExactDoesFitRow : OpenClaim := { program := "ytejpmomedclnhaa", sum := "0fbbf8b977e4f88aaf1b0a2f2d133c13730899eac915b271110186890f6ca2a4", func := "loop.example/g01060/laws.FnExactDoesFit", spec := "fnExactDoesFit", apart := false }
def FnExactDoesFitSaid : Prop := fnExactDoesFitRow.holds Try.pinned (OpenSpec.ofChange fnExactDoesFitSpec)

/-- ITS FALSE NEIGHBOUR: 'it returns false'. Refute it at one input. -/
def fnExactDoesFitWrong : ChangeSpec := { name := "fnExactDoesFit", fn := fun _ => fun
  | [d1, d2] => { results := [.lit (.bool false)], args := [d1, d2] }
  | _ => none }
def FnExactDoesFitWrongFalsely : Prop := fnExactDoesFitRow.holds Try.pinned (OpenSpec.ofChange fnExactDoesFitWrong)

/-- 'laws.FnExactAreDrawers': WHATEVER THE INPUT: true; the input reads as it did. -/
def fnExactAreDrawersSpec : ChangeSpec := { name := "fnExactAreDrawers", fn := fun _ => fun
  | [d1, d2] => { results := [.lit (.bool true)], args := [d1, d2] }
  | _ => none }
def fnExactAreDrawersRow : OpenClaim := { program := "ytejpmomedclnhaa", sum := "0fbbf8b977e4f88aaf1b0a2f2d133c13730899eac915b271110186890f6ca2a4", func := "loop.example/g01060/laws.FnExactAreDrawers", spec := "fnExactAreDrawers", unfollowed := true, recurses := true, apart := false }
def FnExactAreDrawersSaid : Prop := fnExactAreDrawersRow.holds Try.pinned (OpenSpec.ofChange fnExactAreDrawersSpec)

/-- ITS FALSE NEIGHBOUR: 'it returns false'. Refute it at one input. -/
def fnExactAreDrawersWrong : ChangeSpec := { name := "fnExactAreDrawers", fn := fun _ => fun
  | [d1, d2] => { results := [.lit (.bool false)], args := [d1, d2] }
  | _ => none }
def FnExactAreDrawersWrongFalsely : Prop := fnExactAreDrawersRow.holds Try.pinned (OpenSpec.ofChange fnExactAreDrawersWrong)

/-- 'laws.FnExactDrawerOf': WHATEVER THE INPUT: true; the input reads as it did. -/
def fnExactDrawerOfSpec : ChangeSpec := { name := "fnExactDrawerOf", fn := fun _ => fun
  | [d1, d2, d3] => { results := [.lit (.bool true)], args := [d1, d2, d3] }
  | _ => none }
def fnExactDrawerOfRow : OpenClaim := { program := "ytejpmomedclnhaa", sum := "0fbbf8b977e4f88aaf1b0a2f2d133c13730899eac915b271110186890f6ca2a4", func := "loop.example/g01060/laws.FnExactDrawerOf", spec := "fnExactDrawerOf", unfollowed := true, recurses := true, apart := false }
def FnExactDrawerOfSaid : Prop := fnExactDrawerOfRow.holds Try.pinned (OpenSpec.ofChange fnExactDrawerOfSpec)

/-- ITS FALSE NEIGHBOUR: 'it returns false'. Refute it at one input. -/
def fnExactDrawerOfWrong : ChangeSpec := { name := "fnExactDrawerOf", fn := fun _ => fun
  | [d1, d2, d3] => { results := [.lit (.bool false)], args := [d1, d2, d3] }
  | _ => none }
def FnExactDrawerOfWrongFalsely : Prop := fnExactDrawerOfRow.holds Try.pinned (OpenSpec.ofChange fnExactDrawerOfWrong)

/-- 'laws.FnExactGramsIn': WHATEVER THE INPUT: true; the input reads as it did. -/
def fnExactGramsInSpec : ChangeSpec := { name := "fnExactGramsIn", fn := fun _ => fun
  | [d1, d2, d3] => { results := [.lit (.bool true)], args := [d1, d2, d3] }
  | _ => none }
def fnExactGramsInRow : OpenClaim := { program := "ytejpmomedclnhaa", sum := "0fbbf8b977e4f88aaf1b0a2f2d133c13730899eac915b271110186890f6ca2a4", func := "loop.example/g01060/laws.FnExactGramsIn", spec := "fnExactGramsIn", unfollowed := true, recurses := true, apart := false }
def FnExactGramsInSaid : Prop := fnExactGramsInRow.holds Try.pinned (OpenSpec.ofChange fnExactGramsInSpec)

/-- ITS FALSE NEIGHBOUR: 'it returns false'. Refute it at one input. -/
def fnExactGramsInWrong : ChangeSpec := { name := "fnExactGramsIn", fn := fun _ => fun
  | [d1, d2, d3] => { results := [.lit (.bool false)], args := [d1, d2, d3] }
  | _ => none }
def FnExactGramsInWrongFalsely : Prop := fnExactGramsInRow.holds Try.pinned (OpenSpec.ofChange fnExactGramsInWrong)

/-- 'laws.FnExactEmptyDrawers': WHATEVER THE INPUT: true; the input reads as it did. -/
def fnExactEmptyDrawersSpec : ChangeSpec := { name := "fnExactEmptyDrawers", fn := fun _ => fun
  | [d1, d2] => { results := [.lit (.bool true)], args := [d1, d2] }
  | _ => none }
def fnExactEmptyDrawersRow : OpenClaim := { program := "ytejpmomedclnhaa", sum := "0fbbf8b977e4f88aaf1b0a2f2d133c13730899eac915b271110186890f6ca2a4", func := "loop.example/g01060/laws.FnExactEmptyDrawers", spec := "fnExactEmptyDrawers", unfollowed := true, recurses := true, apart := false }
def FnExactEmptyDrawersSaid : Prop := fnExactEmptyDrawersRow.holds Try.pinned (OpenSpec.ofChange fnExactEmptyDrawersSpec)

/-- ITS FALSE NEIGHBOUR: 'it returns false'. Refute it at one input. -/
def fnExactEmptyDrawersWrong : ChangeSpec := { name := "fnExactEmptyDrawers", fn := fun _ => fun
  | [d1, d2] => { results := [.lit (.bool false)], args := [d1, d2] }
  | _ => none }
def FnExactEmptyDrawersWrongFalsely : Prop := fnExactEmptyDrawersRow.holds Try.pinned (OpenSpec.ofChange fnExactEmptyDrawersWrong)

/-- 'laws.FnExactLooseFlats': WHATEVER THE INPUT: true; the input reads as it did. -/
def fnExactLooseFlatsSpec : ChangeSpec := { name := "fnExactLooseFlats", fn := fun _ => fun
  | [d1, d2] => { results := [.lit (.bool true)], args := [d1, d2] }
  | _ => none }
def fnExactLooseFlatsRow : OpenClaim := { program := "ytejpmomedclnhaa", sum := "0fbbf8b977e4f88aaf1b0a2f2d133c13730899eac915b271110186890f6ca2a4", func := "loop.example/g01060/laws.FnExactLooseFlats", spec := "fnExactLooseFlats", unfollowed := true, recurses := true, apart := false }
def FnExactLooseFlatsSaid : Prop := fnExactLooseFlatsRow.holds Try.pinned (OpenSpec.ofChange fnExactLooseFlatsSpec)

/-- ITS FALSE NEIGHBOUR: 'it returns false'. Refute it at one input. -/
def fnExactLooseFlatsWrong : ChangeSpec := { name := "fnExactLooseFlats", fn := fun _ => fun
  | [d1, d2] => { results := [.lit (.bool false)], args := [d1, d2] }
  | _ => none }
def FnExactLooseFlatsWrongFalsely : Prop := fnExactLooseFlatsRow.holds Try.pinned (OpenSpec.ofChange fnExactLooseFlatsWrong)

/-- 'laws.FnExactTakeFlat': WHATEVER THE INPUT: true; the input reads as it did. -/
def fnExactTakeFlatSpec : ChangeSpec := { name := "fnExactTakeFlat", fn := fun _ => fun
  | [d1, d2, d3] => { results := [.lit (.bool true)], args := [d1, d2, d3] }
  | _ => none }
def fnExactTakeFlatRow : OpenClaim := { program := "ytejpmomedclnhaa", sum := "0fbbf8b977e4f88aaf1b0a2f2d133c13730899eac915b271110186890f6ca2a4", func := "loop.example/g01060/laws.FnExactTakeFlat", spec := "fnExactTakeFlat", unfollowed := true, recurses := true, apart := false }
def FnExactTakeFlatSaid : Prop := fnExactTakeFlatRow.holds Try.pinned (OpenSpec.ofChange fnExactTakeFlatSpec)

/-- ITS FALSE NEIGHBOUR: 'it returns false'. Refute it at one input. -/
def fnExactTakeFlatWrong : ChangeSpec := { name := "fnExactTakeFlat", fn := fun _ => fun
  | [d1, d2, d3] => { results := [.lit (.bool false)], args := [d1, d2, d3] }
  | _ => none }
def FnExactTakeFlatWrongFalsely : Prop := fnExactTakeFlatRow.holds Try.pinned (OpenSpec.ofChange fnExactTakeFlatWrong)

/-- 'laws.FnExactTightestFor': WHATEVER THE INPUT: true; the input reads as it did. -/
def fnExactTightestForSpec : ChangeSpec := { name := "fnExactTightestFor", fn := fun _ => fun
  | [d1, d2, d3] => { results := [.lit (.bool true)], args := [d1, d2, d3] }
  | _ => none }
def fnExactTightestForRow : OpenClaim := { program := "ytejpmomedclnhaa", sum := "0fbbf8b977e4f88aaf1b0a2f2d133c13730899eac915b271110186890f6ca2a4", func := "loop.example/g01060/laws.FnExactTightestFor", spec := "fnExactTightestFor", inPlace := ["slices.overlaps[int]"], unfollowed := true, recurses := true, apart := false }
def FnExactTightestForSaid : Prop := fnExactTightestForRow.holds Try.pinned (OpenSpec.ofChange fnExactTightestForSpec)

/-- ITS FALSE NEIGHBOUR: 'it returns false'. Refute it at one input. -/
def fnExactTightestForWrong : ChangeSpec := { name := "fnExactTightestFor", fn := fun _ => fun
  | [d1, d2, d3] => { results := [.lit (.bool false)], args := [d1, d2, d3] }
  | _ => none }
def FnExactTightestForWrongFalsely : Prop := fnExactTightestForRow.holds Try.pinned (OpenSpec.ofChange fnExactTightestForWrong)

/-- 'laws.FnExactDrawersFor': WHATEVER THE INPUT: true; the input reads as it did. -/
def fnExactDrawersForSpec : ChangeSpec := { name := "fnExactDrawersFor", fn := fun _ => fun
  | [d1, d2, d3] => { results := [.lit (.bool true)], args := [d1, d2, d3] }
  | _ => none }
def fnExactDrawersForRow : OpenClaim := { program := "ytejpmomedclnhaa", sum := "0fbbf8b977e4f88aaf1b0a2f2d133c13730899eac915b271110186890f6ca2a4", func := "loop.example/g01060/laws.FnExactDrawersFor", spec := "fnExactDrawersFor", inPlace := ["slices.overlaps[int]"], unfollowed := true, recurses := true, apart := false }
def FnExactDrawersForSaid : Prop := fnExactDrawersForRow.holds Try.pinned (OpenSpec.ofChange fnExactDrawersForSpec)

/-- ITS FALSE NEIGHBOUR: 'it returns false'. Refute it at one input. -/
def fnExactDrawersForWrong : ChangeSpec := { name := "fnExactDrawersFor", fn := fun _ => fun
  | [d1, d2, d3] => { results := [.lit (.bool false)], args := [d1, d2, d3] }
  | _ => none }
def FnExactDrawersForWrongFalsely : Prop := fnExactDrawersForRow.holds Try.pinned (OpenSpec.ofChange fnExactDrawersForWrong)

/-- 'laws.FnExactPutFlat': WHATEVER THE INPUT: true; the input reads as it did. -/
def fnExactPutFlatSpec : ChangeSpec := { name := "fnExactPutFlat", fn := fun _ => fun
  | [d1, d2, d3, d4] => { results := [.lit (.bool true)], args := [d1, d2, d3, d4] }
  | _ => none }
def fnExactPutFlatRow : OpenClaim := { program := "ytejpmomedclnhaa", sum := "0fbbf8b977e4f88aaf1b0a2f2d133c13730899eac915b271110186890f6ca2a4", func := "loop.example/g01060/laws.FnExactPutFlat", spec := "fnExactPutFlat", inPlace := ["slices.overlaps[int]"], unfollowed := true, recurses := true, apart := false }
def FnExactPutFlatSaid : Prop := fnExactPutFlatRow.holds Try.pinned (OpenSpec.ofChange fnExactPutFlatSpec)

/-- ITS FALSE NEIGHBOUR: 'it returns false'. Refute it at one input. -/
def fnExactPutFlatWrong : ChangeSpec := { name := "fnExactPutFlat", fn := fun _ => fun
  | [d1, d2, d3, d4] => { results := [.lit (.bool false)], args := [d1, d2, d3, d4] }
  | _ => none }
def FnExactPutFlatWrongFalsely : Prop := fnExactPutFlatRow.holds Try.pinned (OpenSpec.ofChange fnExactPutFlatWrong)

/-- 'laws.FnExactStoreAll': WHATEVER THE INPUT: true; the input reads as it did. -/
def fnExactStoreAllSpec : ChangeSpec := { name := "fnExactStoreAll", fn := fun _ => fun
  | [d1, d2] => { results := [.lit (.bool true)], args := [d1, d2] }
  | _ => none }
def fnExactStoreAllRow : OpenClaim := { program := "ytejpmomedclnhaa", sum := "0fbbf8b977e4f88aaf1b0a2f2d133c13730899eac915b271110186890f6ca2a4", func := "loop.example/g01060/laws.FnExactStoreAll", spec := "fnExactStoreAll", inPlace := ["slices.overlaps[int]"], unfollowed := true, recurses := true, apart := false }
def FnExactStoreAllSaid : Prop := fnExactStoreAllRow.holds Try.pinned (OpenSpec.ofChange fnExactStoreAllSpec)

/-- ITS FALSE NEIGHBOUR: 'it returns false'. Refute it at one input. -/
def fnExactStoreAllWrong : ChangeSpec := { name := "fnExactStoreAll", fn := fun _ => fun
  | [d1, d2] => { results := [.lit (.bool false)], args := [d1, d2] }
  | _ => none }
def FnExactStoreAllWrongFalsely : Prop := fnExactStoreAllRow.holds Try.pinned (OpenSpec.ofChange fnExactStoreAllWrong)

/- THE SECOND FORM. 'bulk': how many values and letters a reading holds, each counted each time it is reached (what is shared counts as often as it is met; a slice's spare places count too). A statement '..UptoSaid' is the law's where the arguments, and the package variables that the reading takes, are together of bulk at most 1048576: NARROWER than '..Said'. Prove '..Said' where nothing that the law and all that it calls make is longer than what came in: it says more and counts as full. Else prove '..UptoSaid'. A law counts once. -/
mutual
def uptoBulk {H : Type} : DataW H → Nat
  | .lit (.string bytes) => bytes.length + 1
  | .lit _ => 1
  | .nil => 1
  | .ptr d => uptoBulk d + 1
  | .slice elems spare => uptoBulkAll elems + uptoBulkAll spare + 1
  | .agg parts => uptoBulkAll parts + 1
  | .iface _ d => uptoBulk d + 1
  | .map entries => uptoBulkEntries entries + 1
  | .held _ => 1
def uptoBulkAll {H : Type} : List (DataW H) → Nat
  | [] => 0
  | d :: r => uptoBulk d + uptoBulkAll r
def uptoBulkEntries {H : Type} : List (Lit × DataW H) → Nat
  | [] => 0
  | x :: r => uptoBulkEntry x + uptoBulkEntries r
def uptoBulkEntry {H : Type} : Lit × DataW H → Nat
  | (.string bytes, d) => bytes.length + uptoBulk d + 1
  | (_, d) => uptoBulk d + 1
 end
def uptoSmall : (H : Type) → List (DataW H) → Bool := fun _ ds => decide (uptoBulkAll ds ≤ 1048576)
def OpenSpec.upto (s : _root_.Go.ChangeSpec) : _root_.Go.OpenSpec := { _root_.Go.OpenSpec.ofChange s with cond := some uptoSmall }

/-- 'laws.FnExactDoesFit', WHERE WHAT IT READS IS OF BULK AT MOST 1048576: true; the input reads as it did. -/
def fnExactDoesFitUptoRow : OpenClaim := { program := "ytejpmomedclnhaa", sum := "0fbbf8b977e4f88aaf1b0a2f2d133c13730899eac915b271110186890f6ca2a4", func := "loop.example/g01060/laws.FnExactDoesFit", spec := "fnExactDoesFit", apart := false, narrowed := true }
def FnExactDoesFitUptoSaid : Prop := fnExactDoesFitUptoRow.holds Try.pinned (OpenSpec.upto fnExactDoesFitSpec)

/-- 'laws.FnExactAreDrawers', WHERE WHAT IT READS IS OF BULK AT MOST 1048576: true; the input reads as it did. -/
def fnExactAreDrawersUptoRow : OpenClaim := { program := "ytejpmomedclnhaa", sum := "0fbbf8b977e4f88aaf1b0a2f2d133c13730899eac915b271110186890f6ca2a4", func := "loop.example/g01060/laws.FnExactAreDrawers", spec := "fnExactAreDrawers", unfollowed := true, recurses := true, apart := false, narrowed := true }
def FnExactAreDrawersUptoSaid : Prop := fnExactAreDrawersUptoRow.holds Try.pinned (OpenSpec.upto fnExactAreDrawersSpec)

/-- 'laws.FnExactDrawerOf', WHERE WHAT IT READS IS OF BULK AT MOST 1048576: true; the input reads as it did. -/
def fnExactDrawerOfUptoRow : OpenClaim := { program := "ytejpmomedclnhaa", sum := "0fbbf8b977e4f88aaf1b0a2f2d133c13730899eac915b271110186890f6ca2a4", func := "loop.example/g01060/laws.FnExactDrawerOf", spec := "fnExactDrawerOf", unfollowed := true, recurses := true, apart := false, narrowed := true }
def FnExactDrawerOfUptoSaid : Prop := fnExactDrawerOfUptoRow.holds Try.pinned (OpenSpec.upto fnExactDrawerOfSpec)

/-- 'laws.FnExactGramsIn', WHERE WHAT IT READS IS OF BULK AT MOST 1048576: true; the input reads as it did. -/
def fnExactGramsInUptoRow : OpenClaim := { program := "ytejpmomedclnhaa", sum := "0fbbf8b977e4f88aaf1b0a2f2d133c13730899eac915b271110186890f6ca2a4", func := "loop.example/g01060/laws.FnExactGramsIn", spec := "fnExactGramsIn", unfollowed := true, recurses := true, apart := false, narrowed := true }
def FnExactGramsInUptoSaid : Prop := fnExactGramsInUptoRow.holds Try.pinned (OpenSpec.upto fnExactGramsInSpec)

/-- 'laws.FnExactEmptyDrawers', WHERE WHAT IT READS IS OF BULK AT MOST 1048576: true; the input reads as it did. -/
def fnExactEmptyDrawersUptoRow : OpenClaim := { program := "ytejpmomedclnhaa", sum := "0fbbf8b977e4f88aaf1b0a2f2d133c13730899eac915b271110186890f6ca2a4", func := "loop.example/g01060/laws.FnExactEmptyDrawers", spec := "fnExactEmptyDrawers", unfollowed := true, recurses := true, apart := false, narrowed := true }
def FnExactEmptyDrawersUptoSaid : Prop := fnExactEmptyDrawersUptoRow.holds Try.pinned (OpenSpec.upto fnExactEmptyDrawersSpec)

/-- 'laws.FnExactLooseFlats', WHERE WHAT IT READS IS OF BULK AT MOST 1048576: true; the input reads as it did. -/
def fnExactLooseFlatsUptoRow : OpenClaim := { program := "ytejpmomedclnhaa", sum := "0fbbf8b977e4f88aaf1b0a2f2d133c13730899eac915b271110186890f6ca2a4", func := "loop.example/g01060/laws.FnExactLooseFlats", spec := "fnExactLooseFlats", unfollowed := true, recurses := true, apart := false, narrowed := true }
def FnExactLooseFlatsUptoSaid : Prop := fnExactLooseFlatsUptoRow.holds Try.pinned (OpenSpec.upto fnExactLooseFlatsSpec)

/-- 'laws.FnExactTakeFlat', WHERE WHAT IT READS IS OF BULK AT MOST 1048576: true; the input reads as it did. -/
def fnExactTakeFlatUptoRow : OpenClaim := { program := "ytejpmomedclnhaa", sum := "0fbbf8b977e4f88aaf1b0a2f2d133c13730899eac915b271110186890f6ca2a4", func := "loop.example/g01060/laws.FnExactTakeFlat", spec := "fnExactTakeFlat", unfollowed := true, recurses := true, apart := false, narrowed := true }
def FnExactTakeFlatUptoSaid : Prop := fnExactTakeFlatUptoRow.holds Try.pinned (OpenSpec.upto fnExactTakeFlatSpec)

/-- 'laws.FnExactTightestFor', WHERE WHAT IT READS IS OF BULK AT MOST 1048576: true; the input reads as it did. -/
def fnExactTightestForUptoRow : OpenClaim := { program := "ytejpmomedclnhaa", sum := "0fbbf8b977e4f88aaf1b0a2f2d133c13730899eac915b271110186890f6ca2a4", func := "loop.example/g01060/laws.FnExactTightestFor", spec := "fnExactTightestFor", inPlace := ["slices.overlaps[int]"], unfollowed := true, recurses := true, apart := false, narrowed := true }
def FnExactTightestForUptoSaid : Prop := fnExactTightestForUptoRow.holds Try.pinned (OpenSpec.upto fnExactTightestForSpec)

/-- 'laws.FnExactDrawersFor', WHERE WHAT IT READS IS OF BULK AT MOST 1048576: true; the input reads as it did. -/
def fnExactDrawersForUptoRow : OpenClaim := { program := "ytejpmomedclnhaa", sum := "0fbbf8b977e4f88aaf1b0a2f2d133c13730899eac915b271110186890f6ca2a4", func := "loop.example/g01060/laws.FnExactDrawersFor", spec := "fnExactDrawersFor", inPlace := ["slices.overlaps[int]"], unfollowed := true, recurses := true, apart := false, narrowed := true }
def FnExactDrawersForUptoSaid : Prop := fnExactDrawersForUptoRow.holds Try.pinned (OpenSpec.upto fnExactDrawersForSpec)

/-- 'laws.FnExactPutFlat', WHERE WHAT IT READS IS OF BULK AT MOST 1048576: true; the input reads as it did. -/
def fnExactPutFlatUptoRow : OpenClaim := { program := "ytejpmomedclnhaa", sum := "0fbbf8b977e4f88aaf1b0a2f2d133c13730899eac915b271110186890f6ca2a4", func := "loop.example/g01060/laws.FnExactPutFlat", spec := "fnExactPutFlat", inPlace := ["slices.overlaps[int]"], unfollowed := true, recurses := true, apart := false, narrowed := true }
def FnExactPutFlatUptoSaid : Prop := fnExactPutFlatUptoRow.holds Try.pinned (OpenSpec.upto fnExactPutFlatSpec)

/-- 'laws.FnExactStoreAll', WHERE WHAT IT READS IS OF BULK AT MOST 1048576: true; the input reads as it did. -/
def fnExactStoreAllUptoRow : OpenClaim := { program := "ytejpmomedclnhaa", sum := "0fbbf8b977e4f88aaf1b0a2f2d133c13730899eac915b271110186890f6ca2a4", func := "loop.example/g01060/laws.FnExactStoreAll", spec := "fnExactStoreAll", inPlace := ["slices.overlaps[int]"], unfollowed := true, recurses := true, apart := false, narrowed := true }
def FnExactStoreAllUptoSaid : Prop := fnExactStoreAllUptoRow.holds Try.pinned (OpenSpec.upto fnExactStoreAllSpec)

end Rows
end Go.Proofs.Ytejpmomedclnhaa
