/-
  No cell of these rows narrows 'for every input' (looked for: loops, veiled, ifaces, maps, wideKeys, modest, calm, conditions, laid).
  DERIVED. THE GIVEN ROWS OF THIS SEAT. 5 by the template 'for every input the law returns true; each argument reads behind the call as it read before'; 0 by the template 'total and deterministic' (their statements: YtcnjafpfkdaoeaaTotals.lean).
  GIVEN WITH THE SEED: the statements are not yours to turn. If you find one false, say at which input.
  Laid BY PROGRAM, IN A SANDBOX (cutbox-rows.mjs): the forced cells as the released guide's own fill.sh prints them over the translation f5be3722e04c6153… (all of the seat's roots in one cut). By AI agents, Wed Nov 11 2026. No macro, syntax, notation, axiom, sorry.
-/
import Derived.Test.YtcnjafpfkdaoeaaChecked
import GoSem.Claim
import GoSem.ClaimJoined
import GoSem.ClaimMapViews
import Derived.JoinedTies
import Derived.KernelRfl
namespace Go.Proofs.Ytcnjafpfkdaoeaa
/- THE CELL 'sum', in the pinned program and in every row, IS THE sha256 OF THE DUMP (.gsa) THAT YtcnjafpfkdaoeaaProg.lean LOADS. Nothing in Lean hashes anything: it is a label: what it is worth is what the hold of that sum in a sandbox is worth. -/
noncomputable def Try.pinned : Pinned := { name := "ytcnjafpfkdaoeaa", sum := "f5be3722e04c6153a906669a65fff9529e72ef3a8fb9439c59f3a3717e3027a1", checked := Try.checked }
namespace Rows
def none {H : Type} : Left H := { results := [], args := [] }

/-- 'laws.FnExactAreFlats': WHATEVER THE INPUT: true; the input reads as it did. -/
def fnExactAreFlatsSpec : ChangeSpec := { name := "fnExactAreFlats", fn := fun _ => fun
  | [d] => { results := [.lit (.bool true)], args := [d] }
  | _ => none }
def fnExactAreFlatsRow : OpenClaim := { program := "ytcnjafpfkdaoeaa", sum := "f5be3722e04c6153a906669a65fff9529e72ef3a8fb9439c59f3a3717e3027a1", func := "loop.example/g01060/laws.FnExactAreFlats", spec := "fnExactAreFlats", apart := false }
def FnExactAreFlatsSaid : Prop := fnExactAreFlatsRow.holds Try.pinned (OpenSpec.ofChange fnExactAreFlatsSpec)

/-- ITS FALSE NEIGHBOUR: 'it returns false'. Refute it at one input. -/
def fnExactAreFlatsWrong : ChangeSpec := { name := "fnExactAreFlats", fn := fun _ => fun
  | [d] => { results := [.lit (.bool false)], args := [d] }
  | _ => none }
def FnExactAreFlatsWrongFalsely : Prop := fnExactAreFlatsRow.holds Try.pinned (OpenSpec.ofChange fnExactAreFlatsWrong)

/-- 'laws.FnExactAreZones': WHATEVER THE INPUT: true; the input reads as it did. -/
def fnExactAreZonesSpec : ChangeSpec := { name := "fnExactAreZones", fn := fun _ => fun
  | [d] => { results := [.lit (.bool true)], args := [d] }
  | _ => none }
def fnExactAreZonesRow : OpenClaim := { program := "ytcnjafpfkdaoeaa", sum := "f5be3722e04c6153a906669a65fff9529e72ef3a8fb9439c59f3a3717e3027a1", func := "loop.example/g01060/laws.FnExactAreZones", spec := "fnExactAreZones", apart := false }
def FnExactAreZonesSaid : Prop := fnExactAreZonesRow.holds Try.pinned (OpenSpec.ofChange fnExactAreZonesSpec)

/-- ITS FALSE NEIGHBOUR: 'it returns false'. Refute it at one input. -/
def fnExactAreZonesWrong : ChangeSpec := { name := "fnExactAreZones", fn := fun _ => fun
  | [d] => { results := [.lit (.bool false)], args := [d] }
  | _ => none }
def FnExactAreZonesWrongFalsely : Prop := fnExactAreZonesRow.holds Try.pinned (OpenSpec.ofChange fnExactAreZonesWrong)

/-- 'laws.FnExactOverlapOf': WHATEVER THE INPUT: true; the input reads as it did. -/
def fnExactOverlapOfSpec : ChangeSpec := { name := "fnExactOverlapOf", fn := fun _ => fun
  | [d1, d2, d3] => { results := [.lit (.bool true)], args := [d1, d2, d3] }
  | _ => none }
def fnExactOverlapOfRow : OpenClaim := { program := "ytcnjafpfkdaoeaa", sum := "f5be3722e04c6153a906669a65fff9529e72ef3a8fb9439c59f3a3717e3027a1", func := "loop.example/g01060/laws.FnExactOverlapOf", spec := "fnExactOverlapOf", unfollowed := true, recurses := true, apart := false }
def FnExactOverlapOfSaid : Prop := fnExactOverlapOfRow.holds Try.pinned (OpenSpec.ofChange fnExactOverlapOfSpec)

/-- ITS FALSE NEIGHBOUR: 'it returns false'. Refute it at one input. -/
def fnExactOverlapOfWrong : ChangeSpec := { name := "fnExactOverlapOf", fn := fun _ => fun
  | [d1, d2, d3] => { results := [.lit (.bool false)], args := [d1, d2, d3] }
  | _ => none }
def FnExactOverlapOfWrongFalsely : Prop := fnExactOverlapOfRow.holds Try.pinned (OpenSpec.ofChange fnExactOverlapOfWrong)

/-- 'laws.FnExactCutZone': WHATEVER THE INPUT: true; the input reads as it did. -/
def fnExactCutZoneSpec : ChangeSpec := { name := "fnExactCutZone", fn := fun _ => fun
  | [d1, d2] => { results := [.lit (.bool true)], args := [d1, d2] }
  | _ => none }
def fnExactCutZoneRow : OpenClaim := { program := "ytcnjafpfkdaoeaa", sum := "f5be3722e04c6153a906669a65fff9529e72ef3a8fb9439c59f3a3717e3027a1", func := "loop.example/g01060/laws.FnExactCutZone", spec := "fnExactCutZone", apart := false }
def FnExactCutZoneSaid : Prop := fnExactCutZoneRow.holds Try.pinned (OpenSpec.ofChange fnExactCutZoneSpec)

/-- ITS FALSE NEIGHBOUR: 'it returns false'. Refute it at one input. -/
def fnExactCutZoneWrong : ChangeSpec := { name := "fnExactCutZone", fn := fun _ => fun
  | [d1, d2] => { results := [.lit (.bool false)], args := [d1, d2] }
  | _ => none }
def FnExactCutZoneWrongFalsely : Prop := fnExactCutZoneRow.holds Try.pinned (OpenSpec.ofChange fnExactCutZoneWrong)

/-- 'laws.FnExactTouchingZones': WHATEVER THE INPUT: true; the input reads as it did. -/
def fnExactTouchingZonesSpec : ChangeSpec := { name := "fnExactTouchingZones", fn := fun _ => fun
  | [d] => { results := [.lit (.bool true)], args := [d] }
  | _ => none }
def fnExactTouchingZonesRow : OpenClaim := { program := "ytcnjafpfkdaoeaa", sum := "f5be3722e04c6153a906669a65fff9529e72ef3a8fb9439c59f3a3717e3027a1", func := "loop.example/g01060/laws.FnExactTouchingZones", spec := "fnExactTouchingZones", apart := false }
def FnExactTouchingZonesSaid : Prop := fnExactTouchingZonesRow.holds Try.pinned (OpenSpec.ofChange fnExactTouchingZonesSpec)

/-- ITS FALSE NEIGHBOUR: 'it returns false'. Refute it at one input. -/
def fnExactTouchingZonesWrong : ChangeSpec := { name := "fnExactTouchingZones", fn := fun _ => fun
  | [d] => { results := [.lit (.bool false)], args := [d] }
  | _ => none }
def FnExactTouchingZonesWrongFalsely : Prop := fnExactTouchingZonesRow.holds Try.pinned (OpenSpec.ofChange fnExactTouchingZonesWrong)

/- THE SECOND FORM. 'bulk': how many values and letters a reading holds, each counted each time it is reached (what is shared counts as often as it is met; a slice's spare places count too). A statement '..UptoSaid' is the law's where the arguments, and the package variables that the reading takes, are together of bulk at most 1048576: NARROWER than '..Said'. Prove '..Said' where nothing that the law and all that it calls make is longer than what came in: it says more and counts as full. Else prove '..UptoSaid'. A law counts once. -/
mutual
def uptoBulk {H : Type} : DataW H → Nat
  | .lit (.string bytes) => bytes.length + 1
  | .lit _ => 1
  | .nil => 1
  | .ptr d => uptoBulk d + 1
  | .slice elems spare => uptoBulkAll elems + uptoBulkAll spare + 1
  | .agg parts => uptoBulkAll parts + 1
  | .iface _ d => uptoBulk d + 1
  | .map entries => uptoBulkEntries entries + 1
  | .held _ => 1
def uptoBulkAll {H : Type} : List (DataW H) → Nat
  | [] => 0
  | d :: r => uptoBulk d + uptoBulkAll r
def uptoBulkEntries {H : Type} : List (Lit × DataW H) → Nat
  | [] => 0
  | x :: r => uptoBulkEntry x + uptoBulkEntries r
def uptoBulkEntry {H : Type} : Lit × DataW H → Nat
  | (.string bytes, d) => bytes.length + uptoBulk d + 1
  | (_, d) => uptoBulk d + 1
 end
def uptoSmall : (H : Type) → List (DataW H) → Bool := fun _ ds => decide (uptoBulkAll ds ≤ 1048576)
def OpenSpec.upto (s : _root_.Go.ChangeSpec) : _root_.Go.OpenSpec := { _root_.Go.OpenSpec.ofChange s with cond := some uptoSmall }

/-- 'laws.FnExactAreFlats', WHERE WHAT IT READS IS OF BULK AT MOST 1048576: true; the input reads as it did. -/
def fnExactAreFlatsUptoRow : OpenClaim := { program := "ytcnjafpfkdaoeaa", sum := "f5be3722e04c6153a906669a65fff9529e72ef3a8fb9439c59f3a3717e3027a1", func := "loop.example/g01060/laws.FnExactAreFlats", spec := "fnExactAreFlats", apart := false, narrowed := true }
def FnExactAreFlatsUptoSaid : Prop := fnExactAreFlatsUptoRow.holds Try.pinned (OpenSpec.upto fnExactAreFlatsSpec)

/-- 'laws.FnExactAreZones', WHERE WHAT IT READS IS OF BULK AT MOST 1048576: true; the input reads as it did. -/
def fnExactAreZonesUptoRow : OpenClaim := { program := "ytcnjafpfkdaoeaa", sum := "f5be3722e04c6153a906669a65fff9529e72ef3a8fb9439c59f3a3717e3027a1", func := "loop.example/g01060/laws.FnExactAreZones", spec := "fnExactAreZones", apart := false, narrowed := true }
def FnExactAreZonesUptoSaid : Prop := fnExactAreZonesUptoRow.holds Try.pinned (OpenSpec.upto fnExactAreZonesSpec)

/-- 'laws.FnExactOverlapOf', WHERE WHAT IT READS IS OF BULK AT MOST 1048576: true; the input reads as it did. -/
def fnExactOverlapOfUptoRow : OpenClaim := { program := "ytcnjafpfkdaoeaa", sum := "f5be3722e04c6153a906669a65fff9529e72ef3a8fb9439c59f3a3717e3027a1", func := "loop.example/g01060/laws.FnExactOverlapOf", spec := "fnExactOverlapOf", unfollowed := true, recurses := true, apart := false, narrowed := true }
def FnExactOverlapOfUptoSaid : Prop := fnExactOverlapOfUptoRow.holds Try.pinned (OpenSpec.upto fnExactOverlapOfSpec)

/-- 'laws.FnExactCutZone', WHERE WHAT IT READS IS OF BULK AT MOST 1048576: true; the input reads as it did. -/
def fnExactCutZoneUptoRow : OpenClaim := { program := "ytcnjafpfkdaoeaa", sum := "f5be3722e04c6153a906669a65fff9529e72ef3a8fb9439c59f3a3717e3027a1", func := "loop.example/g01060/laws.FnExactCutZone", spec := "fnExactCutZone", apart := false, narrowed := true }
def FnExactCutZoneUptoSaid : Prop := fnExactCutZoneUptoRow.holds Try.pinned (OpenSpec.upto fnExactCutZoneSpec)

/-- 'laws.FnExactTouchingZones', WHERE WHAT IT READS IS OF BULK AT MOST 1048576: true; the input reads as it did. -/
def fnExactTouchingZonesUptoRow : OpenClaim := { program := "ytcnjafpfkdaoeaa", sum := "f5be3722e04c6153a906669a65fff9529e72ef3a8fb9439c59f3a3717e3027a1", func := "loop.example/g01060/laws.FnExactTouchingZones", spec := "fnExactTouchingZones", apart := false, narrowed := true }
def FnExactTouchingZonesUptoSaid : Prop := fnExactTouchingZonesUptoRow.holds Try.pinned (OpenSpec.upto fnExactTouchingZonesSpec)

end Rows
end Go.Proofs.Ytcnjafpfkdaoeaa
