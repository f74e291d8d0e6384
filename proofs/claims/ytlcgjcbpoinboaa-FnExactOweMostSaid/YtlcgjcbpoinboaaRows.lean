/-
  No cell of these rows narrows 'for every input' (looked for: loops, veiled, ifaces, maps, wideKeys, modest, calm, conditions, laid).
  DERIVED. THE GIVEN ROWS OF THIS SEAT. 12 by the template 'for every input the law returns true; each argument reads behind the call as it read before'; 0 by the template 'total and deterministic' (their statements: YtlcgjcbpoinboaaTotals.lean).
  GIVEN WITH THE SEED: the statements are not yours to turn. If you find one false, say at which input.
  Laid BY PROGRAM, IN A SANDBOX (cutbox-rows.mjs): the forced cells as the released guide's own fill.sh prints them over the translation b5e04f6df1575b1f… (all of the seat's roots in one cut). By AI agents, Wed Nov 11 2026. No macro, syntax, notation, axiom, sorry.
-/
import Derived.Test.YtlcgjcbpoinboaaChecked
import GoSem.Claim
import GoSem.ClaimJoined
import GoSem.ClaimMapViews
import Derived.JoinedTies
import Derived.KernelRfl
namespace Go.Proofs.Ytlcgjcbpoinboaa
/- THE CELL 'sum', in the pinned program and in every row, IS THE sha256 OF THE DUMP (.gsa) THAT YtlcgjcbpoinboaaProg.lean LOADS. Nothing in Lean hashes anything: it is a label: what it is worth is what the hold of that sum in a sandbox is worth. -/
noncomputable def Try.pinned : Pinned := { name := "ytlcgjcbpoinboaa", sum := "b5e04f6df1575b1f14bcde6bede8135ec72af4d9f72c79597c68d06ece2cc66d", checked := Try.checked }
namespace Rows
def none {H : Type} : Left H := { results := [], args := [] }

/-- 'laws.FnExactIsMaker': WHATEVER THE INPUT: true; the input reads as it did. -/
def fnExactIsMakerSpec : ChangeSpec := { name := "fnExactIsMaker", fn := fun _ => fun
  | [d] => { results := [.lit (.bool true)], args := [d] }
  | _ => none }
def fnExactIsMakerRow : OpenClaim := { program := "ytlcgjcbpoinboaa", sum := "b5e04f6df1575b1f14bcde6bede8135ec72af4d9f72c79597c68d06ece2cc66d", func := "loop.example/g01060/laws.FnExactIsMaker", spec := "fnExactIsMaker", unfollowed := true, recurses := true, apart := false }
def FnExactIsMakerSaid : Prop := fnExactIsMakerRow.holds Try.pinned (OpenSpec.ofChange fnExactIsMakerSpec)

/-- ITS FALSE NEIGHBOUR: 'it returns false'. Refute it at one input. -/
def fnExactIsMakerWrong : ChangeSpec := { name := "fnExactIsMaker", fn := fun _ => fun
  | [d] => { results := [.lit (.bool false)], args := [d] }
  | _ => none }
def FnExactIsMakerWrongFalsely : Prop := fnExactIsMakerRow.holds Try.pinned (OpenSpec.ofChange fnExactIsMakerWrong)

/-- 'laws.FnExactIsReader': WHATEVER THE INPUT: true; the input reads as it did. -/
def fnExactIsReaderSpec : ChangeSpec := { name := "fnExactIsReader", fn := fun _ => fun
  | [d] => { results := [.lit (.bool true)], args := [d] }
  | _ => none }
def fnExactIsReaderRow : OpenClaim := { program := "ytlcgjcbpoinboaa", sum := "b5e04f6df1575b1f14bcde6bede8135ec72af4d9f72c79597c68d06ece2cc66d", func := "loop.example/g01060/laws.FnExactIsReader", spec := "fnExactIsReader", unfollowed := true, recurses := true, apart := false }
def FnExactIsReaderSaid : Prop := fnExactIsReaderRow.holds Try.pinned (OpenSpec.ofChange fnExactIsReaderSpec)

/-- ITS FALSE NEIGHBOUR: 'it returns false'. Refute it at one input. -/
def fnExactIsReaderWrong : ChangeSpec := { name := "fnExactIsReader", fn := fun _ => fun
  | [d] => { results := [.lit (.bool false)], args := [d] }
  | _ => none }
def FnExactIsReaderWrongFalsely : Prop := fnExactIsReaderRow.holds Try.pinned (OpenSpec.ofChange fnExactIsReaderWrong)

/-- 'laws.FnExactAreReaders': WHATEVER THE INPUT: true; the input reads as it did. -/
def fnExactAreReadersSpec : ChangeSpec := { name := "fnExactAreReaders", fn := fun _ => fun
  | [d] => { results := [.lit (.bool true)], args := [d] }
  | _ => none }
def fnExactAreReadersRow : OpenClaim := { program := "ytlcgjcbpoinboaa", sum := "b5e04f6df1575b1f14bcde6bede8135ec72af4d9f72c79597c68d06ece2cc66d", func := "loop.example/g01060/laws.FnExactAreReaders", spec := "fnExactAreReaders", unfollowed := true, recurses := true, apart := false }
def FnExactAreReadersSaid : Prop := fnExactAreReadersRow.holds Try.pinned (OpenSpec.ofChange fnExactAreReadersSpec)

/-- ITS FALSE NEIGHBOUR: 'it returns false'. Refute it at one input. -/
def fnExactAreReadersWrong : ChangeSpec := { name := "fnExactAreReaders", fn := fun _ => fun
  | [d] => { results := [.lit (.bool false)], args := [d] }
  | _ => none }
def FnExactAreReadersWrongFalsely : Prop := fnExactAreReadersRow.holds Try.pinned (OpenSpec.ofChange fnExactAreReadersWrong)

/-- 'laws.FnExactAreMakers': WHATEVER THE INPUT: true; the input reads as it did. -/
def fnExactAreMakersSpec : ChangeSpec := { name := "fnExactAreMakers", fn := fun _ => fun
  | [d] => { results := [.lit (.bool true)], args := [d] }
  | _ => none }
def fnExactAreMakersRow : OpenClaim := { program := "ytlcgjcbpoinboaa", sum := "b5e04f6df1575b1f14bcde6bede8135ec72af4d9f72c79597c68d06ece2cc66d", func := "loop.example/g01060/laws.FnExactAreMakers", spec := "fnExactAreMakers", unfollowed := true, recurses := true, apart := false }
def FnExactAreMakersSaid : Prop := fnExactAreMakersRow.holds Try.pinned (OpenSpec.ofChange fnExactAreMakersSpec)

/-- ITS FALSE NEIGHBOUR: 'it returns false'. Refute it at one input. -/
def fnExactAreMakersWrong : ChangeSpec := { name := "fnExactAreMakers", fn := fun _ => fun
  | [d] => { results := [.lit (.bool false)], args := [d] }
  | _ => none }
def FnExactAreMakersWrongFalsely : Prop := fnExactAreMakersRow.holds Try.pinned (OpenSpec.ofChange fnExactAreMakersWrong)

/-- 'laws.FnExactMayTake': WHATEVER THE INPUT: true; the input reads as it did. -/
def fnExactMayTakeSpec : ChangeSpec := { name := "fnExactMayTake", fn := fun _ => fun
  | [d1, d2, d3] => { results := [.lit (.bool true)], args := [d1, d2, d3] }
  | _ => none }
def fnExactMayTakeRow : OpenClaim := { program := "ytlcgjcbpoinboaa", sum := "b5e04f6df1575b1f14bcde6bede8135ec72af4d9f72c79597c68d06ece2cc66d", func := "loop.example/g01060/laws.FnExactMayTake", spec := "fnExactMayTake", unfollowed := true, recurses := true, apart := false }
def FnExactMayTakeSaid : Prop := fnExactMayTakeRow.holds Try.pinned (OpenSpec.ofChange fnExactMayTakeSpec)

/-- ITS FALSE NEIGHBOUR: 'it returns false'. Refute it at one input. -/
def fnExactMayTakeWrong : ChangeSpec := { name := "fnExactMayTake", fn := fun _ => fun
  | [d1, d2, d3] => { results := [.lit (.bool false)], args := [d1, d2, d3] }
  | _ => none }
def FnExactMayTakeWrongFalsely : Prop := fnExactMayTakeRow.holds Try.pinned (OpenSpec.ofChange fnExactMayTakeWrong)

/-- 'laws.FnExactClassCounts': WHATEVER THE INPUT: true; the input reads as it did. -/
def fnExactClassCountsSpec : ChangeSpec := { name := "fnExactClassCounts", fn := fun _ => fun
  | [d] => { results := [.lit (.bool true)], args := [d] }
  | _ => none }
def fnExactClassCountsRow : OpenClaim := { program := "ytlcgjcbpoinboaa", sum := "b5e04f6df1575b1f14bcde6bede8135ec72af4d9f72c79597c68d06ece2cc66d", func := "loop.example/g01060/laws.FnExactClassCounts", spec := "fnExactClassCounts", unfollowed := true, recurses := true, apart := false }
def FnExactClassCountsSaid : Prop := fnExactClassCountsRow.holds Try.pinned (OpenSpec.ofChange fnExactClassCountsSpec)

/-- ITS FALSE NEIGHBOUR: 'it returns false'. Refute it at one input. -/
def fnExactClassCountsWrong : ChangeSpec := { name := "fnExactClassCounts", fn := fun _ => fun
  | [d] => { results := [.lit (.bool false)], args := [d] }
  | _ => none }
def FnExactClassCountsWrongFalsely : Prop := fnExactClassCountsRow.holds Try.pinned (OpenSpec.ofChange fnExactClassCountsWrong)

/-- 'laws.FnExactRipeReaders': WHATEVER THE INPUT: true; the input reads as it did. -/
def fnExactRipeReadersSpec : ChangeSpec := { name := "fnExactRipeReaders", fn := fun _ => fun
  | [d1, d2] => { results := [.lit (.bool true)], args := [d1, d2] }
  | _ => none }
def fnExactRipeReadersRow : OpenClaim := { program := "ytlcgjcbpoinboaa", sum := "b5e04f6df1575b1f14bcde6bede8135ec72af4d9f72c79597c68d06ece2cc66d", func := "loop.example/g01060/laws.FnExactRipeReaders", spec := "fnExactRipeReaders", unfollowed := true, recurses := true, apart := false }
def FnExactRipeReadersSaid : Prop := fnExactRipeReadersRow.holds Try.pinned (OpenSpec.ofChange fnExactRipeReadersSpec)

/-- ITS FALSE NEIGHBOUR: 'it returns false'. Refute it at one input. -/
def fnExactRipeReadersWrong : ChangeSpec := { name := "fnExactRipeReaders", fn := fun _ => fun
  | [d1, d2] => { results := [.lit (.bool false)], args := [d1, d2] }
  | _ => none }
def FnExactRipeReadersWrongFalsely : Prop := fnExactRipeReadersRow.holds Try.pinned (OpenSpec.ofChange fnExactRipeReadersWrong)

/-- 'laws.FnExactJoinReader': WHATEVER THE INPUT: true; the input reads as it did. -/
def fnExactJoinReaderSpec : ChangeSpec := { name := "fnExactJoinReader", fn := fun _ => fun
  | [d1, d2, d3] => { results := [.lit (.bool true)], args := [d1, d2, d3] }
  | _ => none }
def fnExactJoinReaderRow : OpenClaim := { program := "ytlcgjcbpoinboaa", sum := "b5e04f6df1575b1f14bcde6bede8135ec72af4d9f72c79597c68d06ece2cc66d", func := "loop.example/g01060/laws.FnExactJoinReader", spec := "fnExactJoinReader", unfollowed := true, recurses := true, apart := false }
def FnExactJoinReaderSaid : Prop := fnExactJoinReaderRow.holds Try.pinned (OpenSpec.ofChange fnExactJoinReaderSpec)

/-- ITS FALSE NEIGHBOUR: 'it returns false'. Refute it at one input. -/
def fnExactJoinReaderWrong : ChangeSpec := { name := "fnExactJoinReader", fn := fun _ => fun
  | [d1, d2, d3] => { results := [.lit (.bool false)], args := [d1, d2, d3] }
  | _ => none }
def FnExactJoinReaderWrongFalsely : Prop := fnExactJoinReaderRow.holds Try.pinned (OpenSpec.ofChange fnExactJoinReaderWrong)

/-- 'laws.FnExactFineReader': WHATEVER THE INPUT: true; the input reads as it did. -/
def fnExactFineReaderSpec : ChangeSpec := { name := "fnExactFineReader", fn := fun _ => fun
  | [d1, d2, d3] => { results := [.lit (.bool true)], args := [d1, d2, d3] }
  | _ => none }
def fnExactFineReaderRow : OpenClaim := { program := "ytlcgjcbpoinboaa", sum := "b5e04f6df1575b1f14bcde6bede8135ec72af4d9f72c79597c68d06ece2cc66d", func := "loop.example/g01060/laws.FnExactFineReader", spec := "fnExactFineReader", unfollowed := true, recurses := true, apart := false }
def FnExactFineReaderSaid : Prop := fnExactFineReaderRow.holds Try.pinned (OpenSpec.ofChange fnExactFineReaderSpec)

/-- ITS FALSE NEIGHBOUR: 'it returns false'. Refute it at one input. -/
def fnExactFineReaderWrong : ChangeSpec := { name := "fnExactFineReader", fn := fun _ => fun
  | [d1, d2, d3] => { results := [.lit (.bool false)], args := [d1, d2, d3] }
  | _ => none }
def FnExactFineReaderWrongFalsely : Prop := fnExactFineReaderRow.holds Try.pinned (OpenSpec.ofChange fnExactFineReaderWrong)

/-- 'laws.FnExactRaiseClass': WHATEVER THE INPUT: true; the input reads as it did. -/
def fnExactRaiseClassSpec : ChangeSpec := { name := "fnExactRaiseClass", fn := fun _ => fun
  | [d1, d2, d3] => { results := [.lit (.bool true)], args := [d1, d2, d3] }
  | _ => none }
def fnExactRaiseClassRow : OpenClaim := { program := "ytlcgjcbpoinboaa", sum := "b5e04f6df1575b1f14bcde6bede8135ec72af4d9f72c79597c68d06ece2cc66d", func := "loop.example/g01060/laws.FnExactRaiseClass", spec := "fnExactRaiseClass", unfollowed := true, recurses := true, apart := false }
def FnExactRaiseClassSaid : Prop := fnExactRaiseClassRow.holds Try.pinned (OpenSpec.ofChange fnExactRaiseClassSpec)

/-- ITS FALSE NEIGHBOUR: 'it returns false'. Refute it at one input. -/
def fnExactRaiseClassWrong : ChangeSpec := { name := "fnExactRaiseClass", fn := fun _ => fun
  | [d1, d2, d3] => { results := [.lit (.bool false)], args := [d1, d2, d3] }
  | _ => none }
def FnExactRaiseClassWrongFalsely : Prop := fnExactRaiseClassRow.holds Try.pinned (OpenSpec.ofChange fnExactRaiseClassWrong)

/-- 'laws.FnExactPayFines': WHATEVER THE INPUT: true; the input reads as it did. -/
def fnExactPayFinesSpec : ChangeSpec := { name := "fnExactPayFines", fn := fun _ => fun
  | [d1, d2, d3] => { results := [.lit (.bool true)], args := [d1, d2, d3] }
  | _ => none }
def fnExactPayFinesRow : OpenClaim := { program := "ytlcgjcbpoinboaa", sum := "b5e04f6df1575b1f14bcde6bede8135ec72af4d9f72c79597c68d06ece2cc66d", func := "loop.example/g01060/laws.FnExactPayFines", spec := "fnExactPayFines", unfollowed := true, recurses := true, apart := false }
def FnExactPayFinesSaid : Prop := fnExactPayFinesRow.holds Try.pinned (OpenSpec.ofChange fnExactPayFinesSpec)

/-- ITS FALSE NEIGHBOUR: 'it returns false'. Refute it at one input. -/
def fnExactPayFinesWrong : ChangeSpec := { name := "fnExactPayFines", fn := fun _ => fun
  | [d1, d2, d3] => { results := [.lit (.bool false)], args := [d1, d2, d3] }
  | _ => none }
def FnExactPayFinesWrongFalsely : Prop := fnExactPayFinesRow.holds Try.pinned (OpenSpec.ofChange fnExactPayFinesWrong)

/-- 'laws.FnExactOweMost': WHATEVER THE INPUT: true; the input reads as it did. -/
def fnExactOweMostSpec : ChangeSpec := { name := "fnExactOweMost", fn := fun _ => fun
  | [d1, d2] => { results := [.lit (.bool true)], args := [d1, d2] }
  | _ => none }
def fnExactOweMostRow : OpenClaim := { program := "ytlcgjcbpoinboaa", sum := "b5e04f6df1575b1f14bcde6bede8135ec72af4d9f72c79597c68d06ece2cc66d", func := "loop.example/g01060/laws.FnExactOweMost", spec := "fnExactOweMost", unfollowed := true, recurses := true, apart := false }
def FnExactOweMostSaid : Prop := fnExactOweMostRow.holds Try.pinned (OpenSpec.ofChange fnExactOweMostSpec)

/-- ITS FALSE NEIGHBOUR: 'it returns false'. Refute it at one input. -/
def fnExactOweMostWrong : ChangeSpec := { name := "fnExactOweMost", fn := fun _ => fun
  | [d1, d2] => { results := [.lit (.bool false)], args := [d1, d2] }
  | _ => none }
def FnExactOweMostWrongFalsely : Prop := fnExactOweMostRow.holds Try.pinned (OpenSpec.ofChange fnExactOweMostWrong)

/- THE SECOND FORM. 'bulk': how many values and letters a reading holds, each counted each time it is reached (what is shared counts as often as it is met; a slice's spare places count too). A statement '..UptoSaid' is the law's where the arguments, and the package variables that the reading takes, are together of bulk at most 1048576: NARROWER than '..Said'. Prove '..Said' where nothing that the law and all that it calls make is longer than what came in: it says more and counts as full. Else prove '..UptoSaid'. A law counts once. -/
mutual
def uptoBulk {H : Type} : DataW H → Nat
  | .lit (.string bytes) => bytes.length + 1
  | .lit _ => 1
  | .nil => 1
  | .ptr d => uptoBulk d + 1
  | .slice elems spare => uptoBulkAll elems + uptoBulkAll spare + 1
  | .agg parts => uptoBulkAll parts + 1
  | .iface _ d => uptoBulk d + 1
  | .map entries => uptoBulkEntries entries + 1
  | .held _ => 1
def uptoBulkAll {H : Type} : List (DataW H) → Nat
  | [] => 0
  | d :: r => uptoBulk d + uptoBulkAll r
def uptoBulkEntries {H : Type} : List (Lit × DataW H) → Nat
  | [] => 0
  | x :: r => uptoBulkEntry x + uptoBulkEntries r
def uptoBulkEntry {H : Type} : Lit × DataW H → Nat
  | (.string bytes, d) => bytes.length + uptoBulk d + 1
  | (_, d) => uptoBulk d + 1
 end
def uptoSmall : (H : Type) → List (DataW H) → Bool := fun _ ds => decide (uptoBulkAll ds ≤ 1048576)
def OpenSpec.upto (s : _root_.Go.ChangeSpec) : _root_.Go.OpenSpec := { _root_.Go.OpenSpec.ofChange s with cond := some uptoSmall }

/-- 'laws.FnExactIsMaker', WHERE WHAT IT READS IS OF BULK AT MOST 1048576: true; the input reads as it did. -/
def fnExactIsMakerUptoRow : OpenClaim := { program := "ytlcgjcbpoinboaa", sum := "b5e04f6df1575b1f14bcde6bede8135ec72af4d9f72c79597c68d06ece2cc66d", func := "loop.example/g01060/laws.FnExactIsMaker", spec := "fnExactIsMaker", unfollowed := true, recurses := true, apart := false, narrowed := true }
def FnExactIsMakerUptoSaid : Prop := fnExactIsMakerUptoRow.holds Try.pinned (OpenSpec.upto fnExactIsMakerSpec)

/-- 'laws.FnExactIsReader', WHERE WHAT IT READS IS OF BULK AT MOST 1048576: true; the input reads as it did. -/
def fnExactIsReaderUptoRow : OpenClaim := { program := "ytlcgjcbpoinboaa", sum := "b5e04f6df1575b1f14bcde6bede8135ec72af4d9f72c79597c68d06ece2cc66d", func := "loop.example/g01060/laws.FnExactIsReader", spec := "fnExactIsReader", unfollowed := true, recurses := true, apart := false, narrowed := true }
def FnExactIsReaderUptoSaid : Prop := fnExactIsReaderUptoRow.holds Try.pinned (OpenSpec.upto fnExactIsReaderSpec)

/-- 'laws.FnExactAreReaders', WHERE WHAT IT READS IS OF BULK AT MOST 1048576: true; the input reads as it did. -/
def fnExactAreReadersUptoRow : OpenClaim := { program := "ytlcgjcbpoinboaa", sum := "b5e04f6df1575b1f14bcde6bede8135ec72af4d9f72c79597c68d06ece2cc66d", func := "loop.example/g01060/laws.FnExactAreReaders", spec := "fnExactAreReaders", unfollowed := true, recurses := true, apart := false, narrowed := true }
def FnExactAreReadersUptoSaid : Prop := fnExactAreReadersUptoRow.holds Try.pinned (OpenSpec.upto fnExactAreReadersSpec)

/-- 'laws.FnExactAreMakers', WHERE WHAT IT READS IS OF BULK AT MOST 1048576: true; the input reads as it did. -/
def fnExactAreMakersUptoRow : OpenClaim := { program := "ytlcgjcbpoinboaa", sum := "b5e04f6df1575b1f14bcde6bede8135ec72af4d9f72c79597c68d06ece2cc66d", func := "loop.example/g01060/laws.FnExactAreMakers", spec := "fnExactAreMakers", unfollowed := true, recurses := true, apart := false, narrowed := true }
def FnExactAreMakersUptoSaid : Prop := fnExactAreMakersUptoRow.holds Try.pinned (OpenSpec.upto fnExactAreMakersSpec)

/-- 'laws.FnExactMayTake', WHERE WHAT IT READS IS OF BULK AT MOST 1048576: true; the input reads as it did. -/
def fnExactMayTakeUptoRow : OpenClaim := { program := "ytlcgjcbpoinboaa", sum := "b5e04f6df1575b1f14bcde6bede8135ec72af4d9f72c79597c68d06ece2cc66d", func := "loop.example/g01060/laws.FnExactMayTake", spec := "fnExactMayTake", unfollowed := true, recurses := true, apart := false, narrowed := true }
def FnExactMayTakeUptoSaid : Prop := fnExactMayTakeUptoRow.holds Try.pinned (OpenSpec.upto fnExactMayTakeSpec)

/-- 'laws.FnExactClassCounts', WHERE WHAT IT READS IS OF BULK AT MOST 1048576: true; the input reads as it did. -/
def fnExactClassCountsUptoRow : OpenClaim := { program := "ytlcgjcbpoinboaa", sum := "b5e04f6df1575b1f14bcde6bede8135ec72af4d9f72c79597c68d06ece2cc66d", func := "loop.example/g01060/laws.FnExactClassCounts", spec := "fnExactClassCounts", unfollowed := true, recurses := true, apart := false, narrowed := true }
def FnExactClassCountsUptoSaid : Prop := fnExactClassCountsUptoRow.holds Try.pinned (OpenSpec.upto fnExactClassCountsSpec)

/-- 'laws.FnExactRipeReaders', WHERE WHAT IT READS IS OF BULK AT MOST 1048576: true; the input reads as it did. -/
def fnExactRipeReadersUptoRow : OpenClaim := { program := "ytlcgjcbpoinboaa", sum := "b5e04f6df1575b1f14bcde6bede8135ec72af4d9f72c79597c68d06ece2cc66d", func := "loop.example/g01060/laws.FnExactRipeReaders", spec := "fnExactRipeReaders", unfollowed := true, recurses := true, apart := false, narrowed := true }
def FnExactRipeReadersUptoSaid : Prop := fnExactRipeReadersUptoRow.holds Try.pinned (OpenSpec.upto fnExactRipeReadersSpec)

/-- 'laws.FnExactJoinReader', WHERE WHAT IT READS IS OF BULK AT MOST 1048576: true; the input reads as it did. -/
def fnExactJoinReaderUptoRow : OpenClaim := { program := "ytlcgjcbpoinboaa", sum := "b5e04f6df1575b1f14bcde6bede8135ec72af4d9f72c79597c68d06ece2cc66d", func := "loop.example/g01060/laws.FnExactJoinReader", spec := "fnExactJoinReader", unfollowed := true, recurses := true, apart := false, narrowed := true }
def FnExactJoinReaderUptoSaid : Prop := fnExactJoinReaderUptoRow.holds Try.pinned (OpenSpec.upto fnExactJoinReaderSpec)

/-- 'laws.FnExactFineReader', WHERE WHAT IT READS IS OF BULK AT MOST 1048576: true; the input reads as it did. -/
def fnExactFineReaderUptoRow : OpenClaim := { program := "ytlcgjcbpoinboaa", sum := "b5e04f6df1575b1f14bcde6bede8135ec72af4d9f72c79597c68d06ece2cc66d", func := "loop.example/g01060/laws.FnExactFineReader", spec := "fnExactFineReader", unfollowed := true, recurses := true, apart := false, narrowed := true }
def FnExactFineReaderUptoSaid : Prop := fnExactFineReaderUptoRow.holds Try.pinned (OpenSpec.upto fnExactFineReaderSpec)

/-- 'laws.FnExactRaiseClass', WHERE WHAT IT READS IS OF BULK AT MOST 1048576: true; the input reads as it did. -/
def fnExactRaiseClassUptoRow : OpenClaim := { program := "ytlcgjcbpoinboaa", sum := "b5e04f6df1575b1f14bcde6bede8135ec72af4d9f72c79597c68d06ece2cc66d", func := "loop.example/g01060/laws.FnExactRaiseClass", spec := "fnExactRaiseClass", unfollowed := true, recurses := true, apart := false, narrowed := true }
def FnExactRaiseClassUptoSaid : Prop := fnExactRaiseClassUptoRow.holds Try.pinned (OpenSpec.upto fnExactRaiseClassSpec)

/-- 'laws.FnExactPayFines', WHERE WHAT IT READS IS OF BULK AT MOST 1048576: true; the input reads as it did. -/
def fnExactPayFinesUptoRow : OpenClaim := { program := "ytlcgjcbpoinboaa", sum := "b5e04f6df1575b1f14bcde6bede8135ec72af4d9f72c79597c68d06ece2cc66d", func := "loop.example/g01060/laws.FnExactPayFines", spec := "fnExactPayFines", unfollowed := true, recurses := true, apart := false, narrowed := true }
def FnExactPayFinesUptoSaid : Prop := fnExactPayFinesUptoRow.holds Try.pinned (OpenSpec.upto fnExactPayFinesSpec)

/-- 'laws.FnExactOweMost', WHERE WHAT IT READS IS OF BULK AT MOST 1048576: true; the input reads as it did. -/
def fnExactOweMostUptoRow : OpenClaim := { program := "ytlcgjcbpoinboaa", sum := "b5e04f6df1575b1f14bcde6bede8135ec72af4d9f72c79597c68d06ece2cc66d", func := "loop.example/g01060/laws.FnExactOweMost", spec := "fnExactOweMost", unfollowed := true, recurses := true, apart := false, narrowed := true }
def FnExactOweMostUptoSaid : Prop := fnExactOweMostUptoRow.holds Try.pinned (OpenSpec.upto fnExactOweMostSpec)

end Rows
end Go.Proofs.Ytlcgjcbpoinboaa
