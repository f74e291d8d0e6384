/-
  DERIVED. GIVEN WITH THE SEED: THE CARDS: each row of YteklomkncfjdlaaDoorRows.lean that lists a variable, with what it lists TIED to the program's text (the seventh form; the later family's looks); each row that meets fmt, with fmt's text TOLD by the authors' own Lean function (tested against real Go, not proved from fmt's source: count such statements apart). THE CARD IS WHAT COUNTS. Prove the row's statement (the work); the ties are given (YteklomkncfjdlaaDoorTie.lean); close each card by the builder's one call (the guide's Derived/Test/ToyasCard.lean, 'card_holds'). Laid BY PROGRAM, IN A SANDBOX (cutbox-door.mjs). By AI agents, Wed Nov 11 2026. No macro, syntax, notation, axiom, sorry.
-/
import Derived.Test.YteklomkncfjdlaaDoorRows
import GoSem.ClaimSeven
namespace Go.Proofs.YteklomkncfjdlaaDoor
namespace Rows

/-- THE TIED CARD OF 'laws.FnExactFormatInt'. -/
def fnExactFormatIntCard : Claim7 := { stood := { row := fnExactFormatIntRow, standIns := [], harness := (true, "c282e033317d4006076a3b9a03d4ca123e0c171031d170e5ab8ca8e98abd7814"), looks := true }, kinds := [], alts := [], laidByText := true, laidKinds := [.data, .data, .data], laidTests := true, laidLooks := .later }
def FnExactFormatIntCardSaid : Prop := Claim7.holds Tryd.pinned (.plain (OpenSpec.ofChange fnExactFormatIntSpec)) fnExactFormatIntCard

/-- THE TIED CARD OF 'laws.FnExactSplitString'. -/
def fnExactSplitStringCard : Claim7 := { stood := { row := fnExactSplitStringRow, standIns := [], harness := (true, "c282e033317d4006076a3b9a03d4ca123e0c171031d170e5ab8ca8e98abd7814"), looks := true }, kinds := [], alts := [], laidByText := true, laidKinds := [.data, .pinned], laidTests := true, laidLooks := .later }
def FnExactSplitStringCardSaid : Prop := Claim7.holds Tryd.pinned (.plain (OpenSpec.ofChange fnExactSplitStringSpec)) fnExactSplitStringCard

/-- THE TIED CARD OF 'laws.FnExactAppendChecksum'. -/
def fnExactAppendChecksumCard : Claim7 := { stood := { row := fnExactAppendChecksumRow, standIns := [], harness := (true, "c282e033317d4006076a3b9a03d4ca123e0c171031d170e5ab8ca8e98abd7814"), looks := true }, kinds := [], alts := [], laidByText := true, laidKinds := [.data, .data, .data], laidTests := true, laidLooks := .later }
def FnExactAppendChecksumCardSaid : Prop := Claim7.holds Tryd.pinned (.plain (OpenSpec.ofChange fnExactAppendChecksumSpec)) fnExactAppendChecksumCard

/-- THE TIED CARD OF 'laws.FnExactVerifyChecksum'. -/
def fnExactVerifyChecksumCard : Claim7 := { stood := { row := fnExactVerifyChecksumRow, standIns := [], harness := (true, "c282e033317d4006076a3b9a03d4ca123e0c171031d170e5ab8ca8e98abd7814"), looks := true }, kinds := [], alts := [], laidByText := true, laidKinds := [.data, .data, .data], laidTests := true, laidLooks := .later }
def FnExactVerifyChecksumCardSaid : Prop := Claim7.holds Tryd.pinned (.plain (OpenSpec.ofChange fnExactVerifyChecksumSpec)) fnExactVerifyChecksumCard

/-- THE TIED CARD OF 'laws.FnExactParseInt'. -/
def fnExactParseIntCard : Claim7 := { stood := { row := fnExactParseIntRow, standIns := [], harness := (true, "c282e033317d4006076a3b9a03d4ca123e0c171031d170e5ab8ca8e98abd7814"), looks := true }, kinds := [], alts := [], laidByText := true, laidKinds := [.data, .data, .data, .sentinel, .sentinel], laidTests := true, laidLooks := .later }
def FnExactParseIntCardSaid : Prop := Claim7.holds Tryd.pinned (.plain (OpenSpec.ofChange fnExactParseIntSpec)) fnExactParseIntCard

/-- THE TIED CARD OF 'laws.FnExactSheetText'. -/
def fnExactSheetTextCard : Claim7 := { stood := { row := fnExactSheetTextRow, standIns := [], harness := (true, "c282e033317d4006076a3b9a03d4ca123e0c171031d170e5ab8ca8e98abd7814"), looks := true }, kinds := [], alts := [], laidByText := true, laidKinds := [.data, .data, .data], laidTests := true, laidLooks := .later }
def FnExactSheetTextCardSaid : Prop := Claim7.holds Tryd.pinned (.plain (OpenSpec.ofChange fnExactSheetTextSpec)) fnExactSheetTextCard

/-- THE TIED CARD OF 'laws.FnExactSpotText'. -/
def fnExactSpotTextCard : Claim7 := { stood := { row := fnExactSpotTextRow, standIns := [], harness := (true, "c282e033317d4006076a3b9a03d4ca123e0c171031d170e5ab8ca8e98abd7814"), looks := true }, kinds := [], alts := [], laidByText := true, laidKinds := [.data, .data, .data], laidTests := true, laidLooks := .later }
def FnExactSpotTextCardSaid : Prop := Claim7.holds Tryd.pinned (.plain (OpenSpec.ofChange fnExactSpotTextSpec)) fnExactSpotTextCard

/-- THE TIED CARD OF 'laws.FnExactReaderText'. -/
def fnExactReaderTextCard : Claim7 := { stood := { row := fnExactReaderTextRow, standIns := [], harness := (true, "c282e033317d4006076a3b9a03d4ca123e0c171031d170e5ab8ca8e98abd7814"), looks := true }, kinds := [], alts := [], laidByText := true, laidKinds := [.data, .data, .data], laidTests := true, laidLooks := .later }
def FnExactReaderTextCardSaid : Prop := Claim7.holds Tryd.pinned (.plain (OpenSpec.ofChange fnExactReaderTextSpec)) fnExactReaderTextCard

/-- THE TIED CARD OF 'laws.FnExactParseSheet'. -/
def fnExactParseSheetCard : Claim7 := { stood := { row := fnExactParseSheetRow, standIns := [], harness := (true, "c282e033317d4006076a3b9a03d4ca123e0c171031d170e5ab8ca8e98abd7814"), looks := true }, kinds := [], alts := [], laidByText := true, laidKinds := [.data, .data, .data, .data, .sentinel, .sentinel, .pinned], laidTests := true, laidLooks := .later }
def FnExactParseSheetCardSaid : Prop := Claim7.holds Tryd.pinned (.plain (OpenSpec.ofChange fnExactParseSheetSpec)) fnExactParseSheetCard

/-- THE TIED CARD OF 'laws.FnExactParseReader'. -/
def fnExactParseReaderCard : Claim7 := { stood := { row := fnExactParseReaderRow, standIns := [], harness := (true, "c282e033317d4006076a3b9a03d4ca123e0c171031d170e5ab8ca8e98abd7814"), looks := true }, kinds := [], alts := [], laidByText := true, laidKinds := [.data, .data, .data, .data, .sentinel, .sentinel, .pinned], laidTests := true, laidLooks := .later }
def FnExactParseReaderCardSaid : Prop := Claim7.holds Tryd.pinned (.plain (OpenSpec.ofChange fnExactParseReaderSpec)) fnExactParseReaderCard

/-- THE SECOND FORM's CARD OF 'laws.FnExactFormatInt'. -/
def fnExactFormatIntUptoCard : Claim7 := { stood := { row := fnExactFormatIntUptoRow, standIns := [], harness := (true, "c282e033317d4006076a3b9a03d4ca123e0c171031d170e5ab8ca8e98abd7814"), looks := true }, kinds := [], alts := [], laidByText := true, laidKinds := [.data, .data, .data], laidTests := true, laidLooks := .later }
def FnExactFormatIntUptoCardSaid : Prop := Claim7.holds Tryd.pinned (.plain (OpenSpec.upto fnExactFormatIntSpec)) fnExactFormatIntUptoCard

/-- THE SECOND FORM's CARD OF 'laws.FnExactSplitString'. -/
def fnExactSplitStringUptoCard : Claim7 := { stood := { row := fnExactSplitStringUptoRow, standIns := [], harness := (true, "c282e033317d4006076a3b9a03d4ca123e0c171031d170e5ab8ca8e98abd7814"), looks := true }, kinds := [], alts := [], laidByText := true, laidKinds := [.data, .pinned], laidTests := true, laidLooks := .later }
def FnExactSplitStringUptoCardSaid : Prop := Claim7.holds Tryd.pinned (.plain (OpenSpec.upto fnExactSplitStringSpec)) fnExactSplitStringUptoCard

/-- THE SECOND FORM's CARD OF 'laws.FnExactAppendChecksum'. -/
def fnExactAppendChecksumUptoCard : Claim7 := { stood := { row := fnExactAppendChecksumUptoRow, standIns := [], harness := (true, "c282e033317d4006076a3b9a03d4ca123e0c171031d170e5ab8ca8e98abd7814"), looks := true }, kinds := [], alts := [], laidByText := true, laidKinds := [.data, .data, .data], laidTests := true, laidLooks := .later }
def FnExactAppendChecksumUptoCardSaid : Prop := Claim7.holds Tryd.pinned (.plain (OpenSpec.upto fnExactAppendChecksumSpec)) fnExactAppendChecksumUptoCard

/-- THE SECOND FORM's CARD OF 'laws.FnExactVerifyChecksum'. -/
def fnExactVerifyChecksumUptoCard : Claim7 := { stood := { row := fnExactVerifyChecksumUptoRow, standIns := [], harness := (true, "c282e033317d4006076a3b9a03d4ca123e0c171031d170e5ab8ca8e98abd7814"), looks := true }, kinds := [], alts := [], laidByText := true, laidKinds := [.data, .data, .data], laidTests := true, laidLooks := .later }
def FnExactVerifyChecksumUptoCardSaid : Prop := Claim7.holds Tryd.pinned (.plain (OpenSpec.upto fnExactVerifyChecksumSpec)) fnExactVerifyChecksumUptoCard

/-- THE SECOND FORM's CARD OF 'laws.FnExactParseInt'. -/
def fnExactParseIntUptoCard : Claim7 := { stood := { row := fnExactParseIntUptoRow, standIns := [], harness := (true, "c282e033317d4006076a3b9a03d4ca123e0c171031d170e5ab8ca8e98abd7814"), looks := true }, kinds := [], alts := [], laidByText := true, laidKinds := [.data, .data, .data, .sentinel, .sentinel], laidTests := true, laidLooks := .later }
def FnExactParseIntUptoCardSaid : Prop := Claim7.holds Tryd.pinned (.plain (OpenSpec.upto fnExactParseIntSpec)) fnExactParseIntUptoCard

/-- THE SECOND FORM's CARD OF 'laws.FnExactSheetText'. -/
def fnExactSheetTextUptoCard : Claim7 := { stood := { row := fnExactSheetTextUptoRow, standIns := [], harness := (true, "c282e033317d4006076a3b9a03d4ca123e0c171031d170e5ab8ca8e98abd7814"), looks := true }, kinds := [], alts := [], laidByText := true, laidKinds := [.data, .data, .data], laidTests := true, laidLooks := .later }
def FnExactSheetTextUptoCardSaid : Prop := Claim7.holds Tryd.pinned (.plain (OpenSpec.upto fnExactSheetTextSpec)) fnExactSheetTextUptoCard

/-- THE SECOND FORM's CARD OF 'laws.FnExactSpotText'. -/
def fnExactSpotTextUptoCard : Claim7 := { stood := { row := fnExactSpotTextUptoRow, standIns := [], harness := (true, "c282e033317d4006076a3b9a03d4ca123e0c171031d170e5ab8ca8e98abd7814"), looks := true }, kinds := [], alts := [], laidByText := true, laidKinds := [.data, .data, .data], laidTests := true, laidLooks := .later }
def FnExactSpotTextUptoCardSaid : Prop := Claim7.holds Tryd.pinned (.plain (OpenSpec.upto fnExactSpotTextSpec)) fnExactSpotTextUptoCard

/-- THE SECOND FORM's CARD OF 'laws.FnExactReaderText'. -/
def fnExactReaderTextUptoCard : Claim7 := { stood := { row := fnExactReaderTextUptoRow, standIns := [], harness := (true, "c282e033317d4006076a3b9a03d4ca123e0c171031d170e5ab8ca8e98abd7814"), looks := true }, kinds := [], alts := [], laidByText := true, laidKinds := [.data, .data, .data], laidTests := true, laidLooks := .later }
def FnExactReaderTextUptoCardSaid : Prop := Claim7.holds Tryd.pinned (.plain (OpenSpec.upto fnExactReaderTextSpec)) fnExactReaderTextUptoCard

/-- THE SECOND FORM's CARD OF 'laws.FnExactParseSheet'. -/
def fnExactParseSheetUptoCard : Claim7 := { stood := { row := fnExactParseSheetUptoRow, standIns := [], harness := (true, "c282e033317d4006076a3b9a03d4ca123e0c171031d170e5ab8ca8e98abd7814"), looks := true }, kinds := [], alts := [], laidByText := true, laidKinds := [.data, .data, .data, .data, .sentinel, .sentinel, .pinned], laidTests := true, laidLooks := .later }
def FnExactParseSheetUptoCardSaid : Prop := Claim7.holds Tryd.pinned (.plain (OpenSpec.upto fnExactParseSheetSpec)) fnExactParseSheetUptoCard

/-- THE SECOND FORM's CARD OF 'laws.FnExactParseReader'. -/
def fnExactParseReaderUptoCard : Claim7 := { stood := { row := fnExactParseReaderUptoRow, standIns := [], harness := (true, "c282e033317d4006076a3b9a03d4ca123e0c171031d170e5ab8ca8e98abd7814"), looks := true }, kinds := [], alts := [], laidByText := true, laidKinds := [.data, .data, .data, .data, .sentinel, .sentinel, .pinned], laidTests := true, laidLooks := .later }
def FnExactParseReaderUptoCardSaid : Prop := Claim7.holds Tryd.pinned (.plain (OpenSpec.upto fnExactParseReaderSpec)) fnExactParseReaderUptoCard
end Rows
end Go.Proofs.YteklomkncfjdlaaDoor
