/-
  DERIVED. GIVEN WITH THE SEED: THE CARDS: each row of YtbiogajejcfkfaaDoorRows.lean that lists a variable, with what it lists TIED to the program's text (the seventh form; the later family's looks); each row that meets fmt, with fmt's text TOLD by the authors' own Lean function (tested against real Go, not proved from fmt's source: count such statements apart). THE CARD IS WHAT COUNTS. Prove the row's statement (the work); the ties are given (YtbiogajejcfkfaaDoorTie.lean); close each card by the builder's one call (the guide's Derived/Test/ToyasCard.lean, 'card_holds'). Laid BY PROGRAM, IN A SANDBOX (cutbox-door.mjs). By AI agents, Wed Nov 11 2026. No macro, syntax, notation, axiom, sorry.
-/
import Derived.Test.YtbiogajejcfkfaaDoorRows
import GoSem.ClaimSeven
namespace Go.Proofs.YtbiogajejcfkfaaDoor
namespace Rows

/-- THE TIED CARD OF 'tidemarklaw3.WireSums'. -/
def wireSumsCard : Claim7 := { stood := { row := wireSumsRow, standIns := [], harness := (true, "45aee7b83fd966b53b577e61e1c1796f8102e5c7b296e2be88038ef3fd532b99"), looks := true }, kinds := [], alts := [], laidByText := true, laidKinds := [.data], laidTests := true, laidLooks := .later }
def WireSumsCardSaid : Prop := Claim7.holds Tryd.pinned (.plain (OpenSpec.ofChange wireSumsSpec)) wireSumsCard

/-- THE TIED CARD OF 'tidemarklaw3.WireBurst'. -/
def wireBurstCard : Claim7 := { stood := { row := wireBurstRow, standIns := [], harness := (true, "45aee7b83fd966b53b577e61e1c1796f8102e5c7b296e2be88038ef3fd532b99"), looks := true }, kinds := [], alts := [], laidByText := true, laidKinds := [.data], laidTests := true, laidLooks := .later }
def WireBurstCardSaid : Prop := Claim7.holds Tryd.pinned (.plain (OpenSpec.ofChange wireBurstSpec)) wireBurstCard

/-- THE TIED CARD OF 'tidemarklaw3.WireTorn'. -/
def wireTornCard : Claim7 := { stood := { row := wireTornRow, standIns := [], harness := (true, "45aee7b83fd966b53b577e61e1c1796f8102e5c7b296e2be88038ef3fd532b99"), looks := true }, kinds := [], alts := [], laidByText := true, laidKinds := [.data], laidTests := true, laidLooks := .later }
def WireTornCardSaid : Prop := Claim7.holds Tryd.pinned (.plain (OpenSpec.ofChange wireTornSpec)) wireTornCard

/-- THE TIED CARD OF 'tidemarklaw3.WireRest'. -/
def wireRestCard : Claim7 := { stood := { row := wireRestRow, standIns := [], harness := (true, "45aee7b83fd966b53b577e61e1c1796f8102e5c7b296e2be88038ef3fd532b99"), looks := true }, kinds := [], alts := [], laidByText := true, laidKinds := [.data], laidTests := true, laidLooks := .later }
def WireRestCardSaid : Prop := Claim7.holds Tryd.pinned (.plain (OpenSpec.ofChange wireRestSpec)) wireRestCard

/-- THE TIED CARD OF 'tidemarklaw3.WireCanon'. -/
def wireCanonCard : Claim7 := { stood := { row := wireCanonRow, standIns := [], harness := (true, "45aee7b83fd966b53b577e61e1c1796f8102e5c7b296e2be88038ef3fd532b99"), looks := true }, kinds := [], alts := [], laidByText := true, laidKinds := [.data, .data, .data], laidTests := true, laidLooks := .later }
def WireCanonCardSaid : Prop := Claim7.holds Tryd.pinned (.plain (OpenSpec.ofChange wireCanonSpec)) wireCanonCard

/-- THE TIED CARD OF 'tidemarklaw3.WireRound'. -/
def wireRoundCard : Claim7 := { stood := { row := wireRoundRow, standIns := [], harness := (true, "45aee7b83fd966b53b577e61e1c1796f8102e5c7b296e2be88038ef3fd532b99"), looks := true }, kinds := [], alts := [], laidByText := true, laidKinds := [.data, .data, .data], laidTests := true, laidLooks := .later }
def WireRoundCardSaid : Prop := Claim7.holds Tryd.pinned (.plain (OpenSpec.ofChange wireRoundSpec)) wireRoundCard

/-- THE TIED CARD OF 'tidemarklaw3.WireStops'. -/
def wireStopsCard : Claim7 := { stood := { row := wireStopsRow, standIns := [], harness := (true, "45aee7b83fd966b53b577e61e1c1796f8102e5c7b296e2be88038ef3fd532b99"), looks := true }, kinds := [], alts := [], laidByText := true, laidKinds := [.data, .data, .data], laidTests := true, laidLooks := .later }
def WireStopsCardSaid : Prop := Claim7.holds Tryd.pinned (.plain (OpenSpec.ofChange wireStopsSpec)) wireStopsCard

/-- THE SECOND FORM's CARD OF 'tidemarklaw3.WireSums'. -/
def wireSumsUptoCard : Claim7 := { stood := { row := wireSumsUptoRow, standIns := [], harness := (true, "45aee7b83fd966b53b577e61e1c1796f8102e5c7b296e2be88038ef3fd532b99"), looks := true }, kinds := [], alts := [], laidByText := true, laidKinds := [.data], laidTests := true, laidLooks := .later }
def WireSumsUptoCardSaid : Prop := Claim7.holds Tryd.pinned (.plain (OpenSpec.upto wireSumsSpec)) wireSumsUptoCard

/-- THE SECOND FORM's CARD OF 'tidemarklaw3.WireBurst'. -/
def wireBurstUptoCard : Claim7 := { stood := { row := wireBurstUptoRow, standIns := [], harness := (true, "45aee7b83fd966b53b577e61e1c1796f8102e5c7b296e2be88038ef3fd532b99"), looks := true }, kinds := [], alts := [], laidByText := true, laidKinds := [.data], laidTests := true, laidLooks := .later }
def WireBurstUptoCardSaid : Prop := Claim7.holds Tryd.pinned (.plain (OpenSpec.upto wireBurstSpec)) wireBurstUptoCard

/-- THE SECOND FORM's CARD OF 'tidemarklaw3.WireTorn'. -/
def wireTornUptoCard : Claim7 := { stood := { row := wireTornUptoRow, standIns := [], harness := (true, "45aee7b83fd966b53b577e61e1c1796f8102e5c7b296e2be88038ef3fd532b99"), looks := true }, kinds := [], alts := [], laidByText := true, laidKinds := [.data], laidTests := true, laidLooks := .later }
def WireTornUptoCardSaid : Prop := Claim7.holds Tryd.pinned (.plain (OpenSpec.upto wireTornSpec)) wireTornUptoCard

/-- THE SECOND FORM's CARD OF 'tidemarklaw3.WireRest'. -/
def wireRestUptoCard : Claim7 := { stood := { row := wireRestUptoRow, standIns := [], harness := (true, "45aee7b83fd966b53b577e61e1c1796f8102e5c7b296e2be88038ef3fd532b99"), looks := true }, kinds := [], alts := [], laidByText := true, laidKinds := [.data], laidTests := true, laidLooks := .later }
def WireRestUptoCardSaid : Prop := Claim7.holds Tryd.pinned (.plain (OpenSpec.upto wireRestSpec)) wireRestUptoCard

/-- THE SECOND FORM's CARD OF 'tidemarklaw3.WireCanon'. -/
def wireCanonUptoCard : Claim7 := { stood := { row := wireCanonUptoRow, standIns := [], harness := (true, "45aee7b83fd966b53b577e61e1c1796f8102e5c7b296e2be88038ef3fd532b99"), looks := true }, kinds := [], alts := [], laidByText := true, laidKinds := [.data, .data, .data], laidTests := true, laidLooks := .later }
def WireCanonUptoCardSaid : Prop := Claim7.holds Tryd.pinned (.plain (OpenSpec.upto wireCanonSpec)) wireCanonUptoCard

/-- THE SECOND FORM's CARD OF 'tidemarklaw3.WireRound'. -/
def wireRoundUptoCard : Claim7 := { stood := { row := wireRoundUptoRow, standIns := [], harness := (true, "45aee7b83fd966b53b577e61e1c1796f8102e5c7b296e2be88038ef3fd532b99"), looks := true }, kinds := [], alts := [], laidByText := true, laidKinds := [.data, .data, .data], laidTests := true, laidLooks := .later }
def WireRoundUptoCardSaid : Prop := Claim7.holds Tryd.pinned (.plain (OpenSpec.upto wireRoundSpec)) wireRoundUptoCard

/-- THE SECOND FORM's CARD OF 'tidemarklaw3.WireStops'. -/
def wireStopsUptoCard : Claim7 := { stood := { row := wireStopsUptoRow, standIns := [], harness := (true, "45aee7b83fd966b53b577e61e1c1796f8102e5c7b296e2be88038ef3fd532b99"), looks := true }, kinds := [], alts := [], laidByText := true, laidKinds := [.data, .data, .data], laidTests := true, laidLooks := .later }
def WireStopsUptoCardSaid : Prop := Claim7.holds Tryd.pinned (.plain (OpenSpec.upto wireStopsSpec)) wireStopsUptoCard
end Rows
end Go.Proofs.YtbiogajejcfkfaaDoor
