/-
  DERIVED. GIVEN WITH THE SEED: THE CARDS: each row of YtklhhpnibeejeaaDoorRows.lean that lists a variable, with what it lists TIED to the program's text (the seventh form; the later family's looks); each row that meets fmt, with fmt's text TOLD by the authors' own Lean function (tested against real Go, not proved from fmt's source: count such statements apart). THE CARD IS WHAT COUNTS. Prove the row's statement (the work); the ties are given (YtklhhpnibeejeaaDoorTie.lean); close each card by the builder's one call (the guide's Derived/Test/ToyasCard.lean, 'card_holds'). Laid BY PROGRAM, IN A SANDBOX (cutbox-door.mjs). By AI agents, Wed Nov 11 2026. No macro, syntax, notation, axiom, sorry.
-/
import Derived.Test.YtklhhpnibeejeaaDoorRows
import GoSem.ClaimSeven
namespace Go.Proofs.YtklhhpnibeejeaaDoor
namespace Rows

/-- THE TIED CARD OF 'tidemarklaw5.MsgOnly'. -/
def msgOnlyCard : Claim7 := { stood := { row := msgOnlyRow, standIns := [], harness := (true, "437c9f4456c2fb909c7586b38e0072392b1aee2b9bc6ba0889a43c47edbf24d8"), looks := true }, kinds := [], alts := [], laidByText := true, laidKinds := [.data], laidTests := true, laidLooks := .later }
def MsgOnlyCardSaid : Prop := Claim7.holds Tryd.pinned (.plain (OpenSpec.ofChange msgOnlySpec)) msgOnlyCard

/-- THE TIED CARD OF 'tidemarklaw5.MsgValid'. -/
def msgValidCard : Claim7 := { stood := { row := msgValidRow, standIns := [], harness := (true, "437c9f4456c2fb909c7586b38e0072392b1aee2b9bc6ba0889a43c47edbf24d8"), looks := true }, kinds := [], alts := [], laidByText := true, laidKinds := [.data, .data], laidTests := true, laidLooks := .later }
def MsgValidCardSaid : Prop := Claim7.holds Tryd.pinned (.plain (OpenSpec.ofChange msgValidSpec)) msgValidCard

/-- THE TIED CARD OF 'tidemarklaw5.MsgEncodes'. -/
def msgEncodesCard : Claim7 := { stood := { row := msgEncodesRow, standIns := [], harness := (true, "437c9f4456c2fb909c7586b38e0072392b1aee2b9bc6ba0889a43c47edbf24d8"), looks := true }, kinds := [], alts := [], laidByText := true, laidKinds := [.data, .data, .data], laidTests := true, laidLooks := .later }
def MsgEncodesCardSaid : Prop := Claim7.holds Tryd.pinned (.plain (OpenSpec.ofChange msgEncodesSpec)) msgEncodesCard

/-- THE TIED CARD OF 'tidemarklaw5.MsgApart'. -/
def msgApartCard : Claim7 := { stood := { row := msgApartRow, standIns := [], harness := (true, "437c9f4456c2fb909c7586b38e0072392b1aee2b9bc6ba0889a43c47edbf24d8"), looks := true }, kinds := [], alts := [], laidByText := true, laidKinds := [.data, .data, .data], laidTests := true, laidLooks := .later }
def MsgApartCardSaid : Prop := Claim7.holds Tryd.pinned (.plain (OpenSpec.ofChange msgApartSpec)) msgApartCard

/-- THE TIED CARD OF 'tidemarklaw5.MsgRound'. -/
def msgRoundCard : Claim7 := { stood := { row := msgRoundRow, standIns := [], harness := (true, "437c9f4456c2fb909c7586b38e0072392b1aee2b9bc6ba0889a43c47edbf24d8"), looks := true }, kinds := [], alts := [], laidByText := true, laidKinds := [.data, .data, .data], laidTests := true, laidLooks := .later }
def MsgRoundCardSaid : Prop := Claim7.holds Tryd.pinned (.plain (OpenSpec.ofChange msgRoundSpec)) msgRoundCard

/-- THE TIED CARD OF 'tidemarklaw5.MsgFlip'. -/
def msgFlipCard : Claim7 := { stood := { row := msgFlipRow, standIns := [], harness := (true, "437c9f4456c2fb909c7586b38e0072392b1aee2b9bc6ba0889a43c47edbf24d8"), looks := true }, kinds := [], alts := [], laidByText := true, laidKinds := [.data, .data, .data], laidTests := true, laidLooks := .later }
def MsgFlipCardSaid : Prop := Claim7.holds Tryd.pinned (.plain (OpenSpec.ofChange msgFlipSpec)) msgFlipCard

/-- THE TIED CARD OF 'tidemarklaw5.MsgCut'. -/
def msgCutCard : Claim7 := { stood := { row := msgCutRow, standIns := [], harness := (true, "437c9f4456c2fb909c7586b38e0072392b1aee2b9bc6ba0889a43c47edbf24d8"), looks := true }, kinds := [], alts := [], laidByText := true, laidKinds := [.data, .data, .data], laidTests := true, laidLooks := .later }
def MsgCutCardSaid : Prop := Claim7.holds Tryd.pinned (.plain (OpenSpec.ofChange msgCutSpec)) msgCutCard

/-- THE SECOND FORM's CARD OF 'tidemarklaw5.MsgOnly'. -/
def msgOnlyUptoCard : Claim7 := { stood := { row := msgOnlyUptoRow, standIns := [], harness := (true, "437c9f4456c2fb909c7586b38e0072392b1aee2b9bc6ba0889a43c47edbf24d8"), looks := true }, kinds := [], alts := [], laidByText := true, laidKinds := [.data], laidTests := true, laidLooks := .later }
def MsgOnlyUptoCardSaid : Prop := Claim7.holds Tryd.pinned (.plain (OpenSpec.upto msgOnlySpec)) msgOnlyUptoCard

/-- THE SECOND FORM's CARD OF 'tidemarklaw5.MsgValid'. -/
def msgValidUptoCard : Claim7 := { stood := { row := msgValidUptoRow, standIns := [], harness := (true, "437c9f4456c2fb909c7586b38e0072392b1aee2b9bc6ba0889a43c47edbf24d8"), looks := true }, kinds := [], alts := [], laidByText := true, laidKinds := [.data, .data], laidTests := true, laidLooks := .later }
def MsgValidUptoCardSaid : Prop := Claim7.holds Tryd.pinned (.plain (OpenSpec.upto msgValidSpec)) msgValidUptoCard

/-- THE SECOND FORM's CARD OF 'tidemarklaw5.MsgEncodes'. -/
def msgEncodesUptoCard : Claim7 := { stood := { row := msgEncodesUptoRow, standIns := [], harness := (true, "437c9f4456c2fb909c7586b38e0072392b1aee2b9bc6ba0889a43c47edbf24d8"), looks := true }, kinds := [], alts := [], laidByText := true, laidKinds := [.data, .data, .data], laidTests := true, laidLooks := .later }
def MsgEncodesUptoCardSaid : Prop := Claim7.holds Tryd.pinned (.plain (OpenSpec.upto msgEncodesSpec)) msgEncodesUptoCard

/-- THE SECOND FORM's CARD OF 'tidemarklaw5.MsgApart'. -/
def msgApartUptoCard : Claim7 := { stood := { row := msgApartUptoRow, standIns := [], harness := (true, "437c9f4456c2fb909c7586b38e0072392b1aee2b9bc6ba0889a43c47edbf24d8"), looks := true }, kinds := [], alts := [], laidByText := true, laidKinds := [.data, .data, .data], laidTests := true, laidLooks := .later }
def MsgApartUptoCardSaid : Prop := Claim7.holds Tryd.pinned (.plain (OpenSpec.upto msgApartSpec)) msgApartUptoCard

/-- THE SECOND FORM's CARD OF 'tidemarklaw5.MsgRound'. -/
def msgRoundUptoCard : Claim7 := { stood := { row := msgRoundUptoRow, standIns := [], harness := (true, "437c9f4456c2fb909c7586b38e0072392b1aee2b9bc6ba0889a43c47edbf24d8"), looks := true }, kinds := [], alts := [], laidByText := true, laidKinds := [.data, .data, .data], laidTests := true, laidLooks := .later }
def MsgRoundUptoCardSaid : Prop := Claim7.holds Tryd.pinned (.plain (OpenSpec.upto msgRoundSpec)) msgRoundUptoCard

/-- THE SECOND FORM's CARD OF 'tidemarklaw5.MsgFlip'. -/
def msgFlipUptoCard : Claim7 := { stood := { row := msgFlipUptoRow, standIns := [], harness := (true, "437c9f4456c2fb909c7586b38e0072392b1aee2b9bc6ba0889a43c47edbf24d8"), looks := true }, kinds := [], alts := [], laidByText := true, laidKinds := [.data, .data, .data], laidTests := true, laidLooks := .later }
def MsgFlipUptoCardSaid : Prop := Claim7.holds Tryd.pinned (.plain (OpenSpec.upto msgFlipSpec)) msgFlipUptoCard

/-- THE SECOND FORM's CARD OF 'tidemarklaw5.MsgCut'. -/
def msgCutUptoCard : Claim7 := { stood := { row := msgCutUptoRow, standIns := [], harness := (true, "437c9f4456c2fb909c7586b38e0072392b1aee2b9bc6ba0889a43c47edbf24d8"), looks := true }, kinds := [], alts := [], laidByText := true, laidKinds := [.data, .data, .data], laidTests := true, laidLooks := .later }
def MsgCutUptoCardSaid : Prop := Claim7.holds Tryd.pinned (.plain (OpenSpec.upto msgCutSpec)) msgCutUptoCard
end Rows
end Go.Proofs.YtklhhpnibeejeaaDoor
