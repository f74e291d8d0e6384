/-
  No cell of these rows narrows 'for every input' (looked for: loops, veiled, ifaces, maps, wideKeys, modest, calm, conditions, laid).
  DERIVED. THE GIVEN ROWS OF THIS SEAT. 7 by the template 'for every input the law returns true; each argument reads behind the call as it read before'; 0 by the template 'total and deterministic' (their statements: YtigiihhfmdgdlaaTotals.lean).
  GIVEN WITH THE SEED: the statements are not yours to turn. If you find one false, say at which input.
  Laid BY PROGRAM, IN A SANDBOX (cutbox-rows.mjs): the forced cells as the released guide's own fill.sh prints them over the translation e44a2704e3985861… (all of the seat's roots in one cut). By AI agents, Wed Nov 11 2026. No macro, syntax, notation, axiom, sorry.
-/
import Derived.Test.YtigiihhfmdgdlaaChecked
import GoSem.Claim
import GoSem.ClaimJoined
import GoSem.ClaimMapViews
import Derived.JoinedTies
import Derived.KernelRfl
namespace Go.Proofs.Ytigiihhfmdgdlaa
/- THE CELL 'sum', in the pinned program and in every row, IS THE sha256 OF THE DUMP (.gsa) THAT YtigiihhfmdgdlaaProg.lean LOADS. Nothing in Lean hashes anything: it is a label: what it is worth is what the hold of that sum in a sandbox is worth. -/
noncomputable def Try.pinned : Pinned := { name := "ytigiihhfmdgdlaa", sum := "e44a2704e39858619b1a5cd1f88cdbbcd9d5818876dad0250b5585d05583a662", checked := Try.checked }
namespace Rows
def none {H : Type} : Left H := { results := [], args := [] }

/-- 'laws.FnExactStretchOf': WHATEVER THE INPUT: true; the input reads as it did. -/
def fnExactStretchOfSpec : ChangeSpec := { name := "fnExactStretchOf", fn := fun _ => fun
  | [d] => { results := [.lit (.bool true)], args := [d] }
  | _ => none }
def fnExactStretchOfRow : OpenClaim := { program := "ytigiihhfmdgdlaa", sum := "e44a2704e39858619b1a5cd1f88cdbbcd9d5818876dad0250b5585d05583a662", func := "loop.example/g01060/laws.FnExactStretchOf", spec := "fnExactStretchOf", apart := false }
def FnExactStretchOfSaid : Prop := fnExactStretchOfRow.holds Try.pinned (OpenSpec.ofChange fnExactStretchOfSpec)

/-- ITS FALSE NEIGHBOUR: 'it returns false'. Refute it at one input. -/
def fnExactStretchOfWrong : ChangeSpec := { name := "fnExactStretchOf", fn := fun _ => fun
  | [d] => { results := [.lit (.bool false)], args := [d] }
  | _ => none }
def FnExactStretchOfWrongFalsely : Prop := fnExactStretchOfRow.holds Try.pinned (OpenSpec.ofChange fnExactStretchOfWrong)

/-- 'laws.FnExactFixedSpot': WHATEVER THE INPUT: true; the input reads as it did. -/
def fnExactFixedSpotSpec : ChangeSpec := { name := "fnExactFixedSpot", fn := fun _ => fun
  | [d] => { results := [.lit (.bool true)], args := [d] }
  | _ => none }
def fnExactFixedSpotRow : OpenClaim := { program := "ytigiihhfmdgdlaa", sum := "e44a2704e39858619b1a5cd1f88cdbbcd9d5818876dad0250b5585d05583a662", func := "loop.example/g01060/laws.FnExactFixedSpot", spec := "fnExactFixedSpot", apart := false }
def FnExactFixedSpotSaid : Prop := fnExactFixedSpotRow.holds Try.pinned (OpenSpec.ofChange fnExactFixedSpotSpec)

/-- ITS FALSE NEIGHBOUR: 'it returns false'. Refute it at one input. -/
def fnExactFixedSpotWrong : ChangeSpec := { name := "fnExactFixedSpot", fn := fun _ => fun
  | [d] => { results := [.lit (.bool false)], args := [d] }
  | _ => none }
def FnExactFixedSpotWrongFalsely : Prop := fnExactFixedSpotRow.holds Try.pinned (OpenSpec.ofChange fnExactFixedSpotWrong)

/-- 'laws.FnExactTurnPlace': WHATEVER THE INPUT: true; the input reads as it did. -/
def fnExactTurnPlaceSpec : ChangeSpec := { name := "fnExactTurnPlace", fn := fun _ => fun
  | [d1, d2, d3] => { results := [.lit (.bool true)], args := [d1, d2, d3] }
  | _ => none }
def fnExactTurnPlaceRow : OpenClaim := { program := "ytigiihhfmdgdlaa", sum := "e44a2704e39858619b1a5cd1f88cdbbcd9d5818876dad0250b5585d05583a662", func := "loop.example/g01060/laws.FnExactTurnPlace", spec := "fnExactTurnPlace", apart := false }
def FnExactTurnPlaceSaid : Prop := fnExactTurnPlaceRow.holds Try.pinned (OpenSpec.ofChange fnExactTurnPlaceSpec)

/-- ITS FALSE NEIGHBOUR: 'it returns false'. Refute it at one input. -/
def fnExactTurnPlaceWrong : ChangeSpec := { name := "fnExactTurnPlace", fn := fun _ => fun
  | [d1, d2, d3] => { results := [.lit (.bool false)], args := [d1, d2, d3] }
  | _ => none }
def FnExactTurnPlaceWrongFalsely : Prop := fnExactTurnPlaceRow.holds Try.pinned (OpenSpec.ofChange fnExactTurnPlaceWrong)

/-- 'laws.FnExactTurnBack': WHATEVER THE INPUT: true; the input reads as it did. -/
def fnExactTurnBackSpec : ChangeSpec := { name := "fnExactTurnBack", fn := fun _ => fun
  | [d1, d2, d3] => { results := [.lit (.bool true)], args := [d1, d2, d3] }
  | _ => none }
def fnExactTurnBackRow : OpenClaim := { program := "ytigiihhfmdgdlaa", sum := "e44a2704e39858619b1a5cd1f88cdbbcd9d5818876dad0250b5585d05583a662", func := "loop.example/g01060/laws.FnExactTurnBack", spec := "fnExactTurnBack", apart := false }
def FnExactTurnBackSaid : Prop := fnExactTurnBackRow.holds Try.pinned (OpenSpec.ofChange fnExactTurnBackSpec)

/-- ITS FALSE NEIGHBOUR: 'it returns false'. Refute it at one input. -/
def fnExactTurnBackWrong : ChangeSpec := { name := "fnExactTurnBack", fn := fun _ => fun
  | [d1, d2, d3] => { results := [.lit (.bool false)], args := [d1, d2, d3] }
  | _ => none }
def FnExactTurnBackWrongFalsely : Prop := fnExactTurnBackRow.holds Try.pinned (OpenSpec.ofChange fnExactTurnBackWrong)

/-- 'laws.FnExactSameChains': WHATEVER THE INPUT: true; the input reads as it did. -/
def fnExactSameChainsSpec : ChangeSpec := { name := "fnExactSameChains", fn := fun _ => fun
  | [d1, d2] => { results := [.lit (.bool true)], args := [d1, d2] }
  | _ => none }
def fnExactSameChainsRow : OpenClaim := { program := "ytigiihhfmdgdlaa", sum := "e44a2704e39858619b1a5cd1f88cdbbcd9d5818876dad0250b5585d05583a662", func := "loop.example/g01060/laws.FnExactSameChains", spec := "fnExactSameChains", apart := false }
def FnExactSameChainsSaid : Prop := fnExactSameChainsRow.holds Try.pinned (OpenSpec.ofChange fnExactSameChainsSpec)

/-- ITS FALSE NEIGHBOUR: 'it returns false'. Refute it at one input. -/
def fnExactSameChainsWrong : ChangeSpec := { name := "fnExactSameChains", fn := fun _ => fun
  | [d1, d2] => { results := [.lit (.bool false)], args := [d1, d2] }
  | _ => none }
def FnExactSameChainsWrongFalsely : Prop := fnExactSameChainsRow.holds Try.pinned (OpenSpec.ofChange fnExactSameChainsWrong)

/-- 'laws.FnExactBestSheet': WHATEVER THE INPUT: true; the input reads as it did. -/
def fnExactBestSheetSpec : ChangeSpec := { name := "fnExactBestSheet", fn := fun _ => fun
  | [d1, d2, d3] => { results := [.lit (.bool true)], args := [d1, d2, d3] }
  | _ => none }
def fnExactBestSheetRow : OpenClaim := { program := "ytigiihhfmdgdlaa", sum := "e44a2704e39858619b1a5cd1f88cdbbcd9d5818876dad0250b5585d05583a662", func := "loop.example/g01060/laws.FnExactBestSheet", spec := "fnExactBestSheet", unfollowed := true, recurses := true, apart := false }
def FnExactBestSheetSaid : Prop := fnExactBestSheetRow.holds Try.pinned (OpenSpec.ofChange fnExactBestSheetSpec)

/-- ITS FALSE NEIGHBOUR: 'it returns false'. Refute it at one input. -/
def fnExactBestSheetWrong : ChangeSpec := { name := "fnExactBestSheet", fn := fun _ => fun
  | [d1, d2, d3] => { results := [.lit (.bool false)], args := [d1, d2, d3] }
  | _ => none }
def FnExactBestSheetWrongFalsely : Prop := fnExactBestSheetRow.holds Try.pinned (OpenSpec.ofChange fnExactBestSheetWrong)

/-- 'laws.FnExactShownOn': WHATEVER THE INPUT: true; the input reads as it did. -/
def fnExactShownOnSpec : ChangeSpec := { name := "fnExactShownOn", fn := fun _ => fun
  | [d1, d2, d3] => { results := [.lit (.bool true)], args := [d1, d2, d3] }
  | _ => none }
def fnExactShownOnRow : OpenClaim := { program := "ytigiihhfmdgdlaa", sum := "e44a2704e39858619b1a5cd1f88cdbbcd9d5818876dad0250b5585d05583a662", func := "loop.example/g01060/laws.FnExactShownOn", spec := "fnExactShownOn", unfollowed := true, recurses := true, apart := false }
def FnExactShownOnSaid : Prop := fnExactShownOnRow.holds Try.pinned (OpenSpec.ofChange fnExactShownOnSpec)

/-- ITS FALSE NEIGHBOUR: 'it returns false'. Refute it at one input. -/
def fnExactShownOnWrong : ChangeSpec := { name := "fnExactShownOn", fn := fun _ => fun
  | [d1, d2, d3] => { results := [.lit (.bool false)], args := [d1, d2, d3] }
  | _ => none }
def FnExactShownOnWrongFalsely : Prop := fnExactShownOnRow.holds Try.pinned (OpenSpec.ofChange fnExactShownOnWrong)

/- THE SECOND FORM. 'bulk': how many values and letters a reading holds, each counted each time it is reached (what is shared counts as often as it is met; a slice's spare places count too). A statement '..UptoSaid' is the law's where the arguments, and the package variables that the reading takes, are together of bulk at most 1048576: NARROWER than '..Said'. Prove '..Said' where nothing that the law and all that it calls make is longer than what came in: it says more and counts as full. Else prove '..UptoSaid'. A law counts once. -/
mutual
def uptoBulk {H : Type} : DataW H → Nat
  | .lit (.string bytes) => bytes.length + 1
  | .lit _ => 1
  | .nil => 1
  | .ptr d => uptoBulk d + 1
  | .slice elems spare => uptoBulkAll elems + uptoBulkAll spare + 1
  | .agg parts => uptoBulkAll parts + 1
  | .iface _ d => uptoBulk d + 1
  | .map entries => uptoBulkEntries entries + 1
  | .held _ => 1
def uptoBulkAll {H : Type} : List (DataW H) → Nat
  | [] => 0
  | d :: r => uptoBulk d + uptoBulkAll r
def uptoBulkEntries {H : Type} : List (Lit × DataW H) → Nat
  | [] => 0
  | x :: r => uptoBulkEntry x + uptoBulkEntries r
def uptoBulkEntry {H : Type} : Lit × DataW H → Nat
  | (.string bytes, d) => bytes.length + uptoBulk d + 1
  | (_, d) => uptoBulk d + 1
 end
def uptoSmall : (H : Type) → List (DataW H) → Bool := fun _ ds => decide (uptoBulkAll ds ≤ 1048576)
def OpenSpec.upto (s : _root_.Go.ChangeSpec) : _root_.Go.OpenSpec := { _root_.Go.OpenSpec.ofChange s with cond := some uptoSmall }

/-- 'laws.FnExactStretchOf', WHERE WHAT IT READS IS OF BULK AT MOST 1048576: true; the input reads as it did. -/
def fnExactStretchOfUptoRow : OpenClaim := { program := "ytigiihhfmdgdlaa", sum := "e44a2704e39858619b1a5cd1f88cdbbcd9d5818876dad0250b5585d05583a662", func := "loop.example/g01060/laws.FnExactStretchOf", spec := "fnExactStretchOf", apart := false, narrowed := true }
def FnExactStretchOfUptoSaid : Prop := fnExactStretchOfUptoRow.holds Try.pinned (OpenSpec.upto fnExactStretchOfSpec)

/-- 'laws.FnExactFixedSpot', WHERE WHAT IT READS IS OF BULK AT MOST 1048576: true; the input reads as it did. -/
def fnExactFixedSpotUptoRow : OpenClaim := { program := "ytigiihhfmdgdlaa", sum := "e44a2704e39858619b1a5cd1f88cdbbcd9d5818876dad0250b5585d05583a662", func := "loop.example/g01060/laws.FnExactFixedSpot", spec := "fnExactFixedSpot", apart := false, narrowed := true }
def FnExactFixedSpotUptoSaid : Prop := fnExactFixedSpotUptoRow.holds Try.pinned (OpenSpec.upto fnExactFixedSpotSpec)

/-- 'laws.FnExactTurnPlace', WHERE WHAT IT READS IS OF BULK AT MOST 1048576: true; the input reads as it did. -/
def fnExactTurnPlaceUptoRow : OpenClaim := { program := "ytigiihhfmdgdlaa", sum := "e44a2704e39858619b1a5cd1f88cdbbcd9d5818876dad0250b5585d05583a662", func := "loop.example/g01060/laws.FnExactTurnPlace", spec := "fnExactTurnPlace", apart := false, narrowed := true }
def FnExactTurnPlaceUptoSaid : Prop := fnExactTurnPlaceUptoRow.holds Try.pinned (OpenSpec.upto fnExactTurnPlaceSpec)

/-- 'laws.FnExactTurnBack', WHERE WHAT IT READS IS OF BULK AT MOST 1048576: true; the input reads as it did. -/
def fnExactTurnBackUptoRow : OpenClaim := { program := "ytigiihhfmdgdlaa", sum := "e44a2704e39858619b1a5cd1f88cdbbcd9d5818876dad0250b5585d05583a662", func := "loop.example/g01060/laws.FnExactTurnBack", spec := "fnExactTurnBack", apart := false, narrowed := true }
def FnExactTurnBackUptoSaid : Prop := fnExactTurnBackUptoRow.holds Try.pinned (OpenSpec.upto fnExactTurnBackSpec)

/-- 'laws.FnExactSameChains', WHERE WHAT IT READS IS OF BULK AT MOST 1048576: true; the input reads as it did. -/
def fnExactSameChainsUptoRow : OpenClaim := { program := "ytigiihhfmdgdlaa", sum := "e44a2704e39858619b1a5cd1f88cdbbcd9d5818876dad0250b5585d05583a662", func := "loop.example/g01060/laws.FnExactSameChains", spec := "fnExactSameChains", apart := false, narrowed := true }
def FnExactSameChainsUptoSaid : Prop := fnExactSameChainsUptoRow.holds Try.pinned (OpenSpec.upto fnExactSameChainsSpec)

/-- 'laws.FnExactBestSheet', WHERE WHAT IT READS IS OF BULK AT MOST 1048576: true; the input reads as it did. -/
def fnExactBestSheetUptoRow : OpenClaim := { program := "ytigiihhfmdgdlaa", sum := "e44a2704e39858619b1a5cd1f88cdbbcd9d5818876dad0250b5585d05583a662", func := "loop.example/g01060/laws.FnExactBestSheet", spec := "fnExactBestSheet", unfollowed := true, recurses := true, apart := false, narrowed := true }
def FnExactBestSheetUptoSaid : Prop := fnExactBestSheetUptoRow.holds Try.pinned (OpenSpec.upto fnExactBestSheetSpec)

/-- 'laws.FnExactShownOn', WHERE WHAT IT READS IS OF BULK AT MOST 1048576: true; the input reads as it did. -/
def fnExactShownOnUptoRow : OpenClaim := { program := "ytigiihhfmdgdlaa", sum := "e44a2704e39858619b1a5cd1f88cdbbcd9d5818876dad0250b5585d05583a662", func := "loop.example/g01060/laws.FnExactShownOn", spec := "fnExactShownOn", unfollowed := true, recurses := true, apart := false, narrowed := true }
def FnExactShownOnUptoSaid : Prop := fnExactShownOnUptoRow.holds Try.pinned (OpenSpec.upto fnExactShownOnSpec)

end Rows
end Go.Proofs.Ytigiihhfmdgdlaa
