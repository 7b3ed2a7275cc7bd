/-
  NARROWER THAN 'FOR EVERY INPUT', by the rows' own cells (each row's printed sentence says how): MsgOnly: laid · MsgValid: laid · MsgEncodes: laid · MsgApart: laid · MsgRound: laid · MsgFlip: laid · MsgCut: laid.
  DERIVED. THE GIVEN ROWS OF THIS SEAT. 7 by the template 'for every input the law returns true; each argument reads behind the call as it read before'; 0 by the template 'total and deterministic' (their statements: YtklhhpnibeejeaaDoorTotals.lean).
  GIVEN WITH THE SEED: the statements are not yours to turn. If you find one false, say at which input.
  Laid BY PROGRAM, IN A SANDBOX (cutbox-rows.mjs): the forced cells as the released guide's own fill.sh prints them over the translation 6f69bb1b8d418b4b… (all of the seat's roots in one cut). By AI agents, Wed Nov 11 2026. No macro, syntax, notation, axiom, sorry.
-/
import Derived.Test.YtklhhpnibeejeaaDoorChecked
import GoSem.Claim
import GoSem.ClaimJoined
import GoSem.ClaimMapViews
import Derived.JoinedTies
import Derived.KernelRfl
namespace Go.Proofs.YtklhhpnibeejeaaDoor
/- THE CELL 'sum', in the pinned program and in every row, IS THE sha256 OF THE DUMP (.gsa) THAT YtklhhpnibeejeaaDoorProg.lean LOADS. Nothing in Lean hashes anything: it is a label: what it is worth is what the hold of that sum in a sandbox is worth. -/
noncomputable def Tryd.pinned : Pinned := { name := "ytklhhpnibeejeaadoor", sum := "6f69bb1b8d418b4be65d0d0c7d60e14304635b90ea7c651d95f31c124e22ca9f", checked := Tryd.checked }
namespace Rows
def none {H : Type} : Left H := { results := [], args := [] }

/- WHAT THE LISTED PACKAGE-LEVEL VARIABLES READ AS WHEN THE CALL BEGINS. Each datum BY PROGRAM (the guide's laid-datum.mjs) off the statement by which the dump's own 'gosem.cut.vars' lays the variable. In a bare row this is a premise. The card (YtklhhpnibeejeaaDoorCards.lean) ties it to the program's text. -/
def laid_tidemark_wire_table {H : Type} : DataW H := .agg [.lit (.int .u32 0), .lit (.int .u32 498536548), .lit (.int .u32 997073096), .lit (.int .u32 651767980), .lit (.int .u32 1994146192), .lit (.int .u32 1802195444), .lit (.int .u32 1303535960), .lit (.int .u32 1342533948), .lit (.int .u32 3988292384), .lit (.int .u32 4027552580), .lit (.int .u32 3604390888), .lit (.int .u32 3412177804), .lit (.int .u32 2607071920), .lit (.int .u32 2262029012), .lit (.int .u32 2685067896), .lit (.int .u32 3183342108)]
def laid_tidemark_tidemarkref5_dataStatus {H : Type} : DataW H := .agg [.lit (.int .i64 0), .lit (.int .i64 11), .lit (.int .i64 60), .lit (.int .i64 90), .lit (.int .i64 140), .lit (.int .i64 142)]
def laid_tidemark_tidemarkref5_voteStatus {H : Type} : DataW H := .agg [.lit (.int .i64 0), .lit (.int .i64 11), .lit (.int .i64 60), .lit (.int .i64 90), .lit (.int .i64 100), .lit (.int .i64 141), .lit (.int .i64 164)]

/-- 'tidemarklaw5.MsgOnly': WHATEVER THE INPUT: true; the input reads as it did. -/
def msgOnlySpec : ChangeSpec := { name := "msgOnly", fn := fun _ => fun
  | [d] => { results := [.lit (.bool true)], args := [d] }
  | _ => none }
def msgOnlyRow : OpenClaim := { program := "ytklhhpnibeejeaadoor", sum := "6f69bb1b8d418b4be65d0d0c7d60e14304635b90ea7c651d95f31c124e22ca9f", func := "tidemark/tidemarklaw5.MsgOnly", spec := "msgOnly", unfollowed := true, recurses := true, named := ["tidemark/wire.table"], apart := false, laid := [("tidemark/wire.table", laid_tidemark_wire_table)] }
def MsgOnlySaid : Prop := msgOnlyRow.holds Tryd.pinned (OpenSpec.ofChange msgOnlySpec)

/-- ITS FALSE NEIGHBOUR: 'it returns false'. Refute it at one input. -/
def msgOnlyWrong : ChangeSpec := { name := "msgOnly", fn := fun _ => fun
  | [d] => { results := [.lit (.bool false)], args := [d] }
  | _ => none }
def MsgOnlyWrongFalsely : Prop := msgOnlyRow.holds Tryd.pinned (OpenSpec.ofChange msgOnlyWrong)

/-- 'tidemarklaw5.MsgValid': WHATEVER THE INPUT: true; the input reads as it did. -/
def msgValidSpec : ChangeSpec := { name := "msgValid", fn := fun _ => fun
  | [d] => { results := [.lit (.bool true)], args := [d] }
  | _ => none }
def msgValidRow : OpenClaim := { program := "ytklhhpnibeejeaadoor", sum := "6f69bb1b8d418b4be65d0d0c7d60e14304635b90ea7c651d95f31c124e22ca9f", func := "tidemark/tidemarklaw5.MsgValid", spec := "msgValid", unfollowed := true, recurses := true, named := ["tidemark/tidemarkref5.dataStatus", "tidemark/tidemarkref5.voteStatus"], apart := false, laid := [("tidemark/tidemarkref5.dataStatus", laid_tidemark_tidemarkref5_dataStatus), ("tidemark/tidemarkref5.voteStatus", laid_tidemark_tidemarkref5_voteStatus)] }
def MsgValidSaid : Prop := msgValidRow.holds Tryd.pinned (OpenSpec.ofChange msgValidSpec)

/-- ITS FALSE NEIGHBOUR: 'it returns false'. Refute it at one input. -/
def msgValidWrong : ChangeSpec := { name := "msgValid", fn := fun _ => fun
  | [d] => { results := [.lit (.bool false)], args := [d] }
  | _ => none }
def MsgValidWrongFalsely : Prop := msgValidRow.holds Tryd.pinned (OpenSpec.ofChange msgValidWrong)

/-- 'tidemarklaw5.MsgEncodes': WHATEVER THE INPUT: true; the input reads as it did. -/
def msgEncodesSpec : ChangeSpec := { name := "msgEncodes", fn := fun _ => fun
  | [d] => { results := [.lit (.bool true)], args := [d] }
  | _ => none }
def msgEncodesRow : OpenClaim := { program := "ytklhhpnibeejeaadoor", sum := "6f69bb1b8d418b4be65d0d0c7d60e14304635b90ea7c651d95f31c124e22ca9f", func := "tidemark/tidemarklaw5.MsgEncodes", spec := "msgEncodes", unfollowed := true, recurses := true, named := ["tidemark/wire.table", "tidemark/tidemarkref5.dataStatus", "tidemark/tidemarkref5.voteStatus"], apart := false, laid := [("tidemark/tidemarkref5.dataStatus", laid_tidemark_tidemarkref5_dataStatus), ("tidemark/tidemarkref5.voteStatus", laid_tidemark_tidemarkref5_voteStatus), ("tidemark/wire.table", laid_tidemark_wire_table)] }
def MsgEncodesSaid : Prop := msgEncodesRow.holds Tryd.pinned (OpenSpec.ofChange msgEncodesSpec)

/-- ITS FALSE NEIGHBOUR: 'it returns false'. Refute it at one input. -/
def msgEncodesWrong : ChangeSpec := { name := "msgEncodes", fn := fun _ => fun
  | [d] => { results := [.lit (.bool false)], args := [d] }
  | _ => none }
def MsgEncodesWrongFalsely : Prop := msgEncodesRow.holds Tryd.pinned (OpenSpec.ofChange msgEncodesWrong)

/-- 'tidemarklaw5.MsgApart': WHATEVER THE INPUT: true; the input reads as it did. -/
def msgApartSpec : ChangeSpec := { name := "msgApart", fn := fun _ => fun
  | [d] => { results := [.lit (.bool true)], args := [d] }
  | _ => none }
def msgApartRow : OpenClaim := { program := "ytklhhpnibeejeaadoor", sum := "6f69bb1b8d418b4be65d0d0c7d60e14304635b90ea7c651d95f31c124e22ca9f", func := "tidemark/tidemarklaw5.MsgApart", spec := "msgApart", unfollowed := true, recurses := true, named := ["tidemark/wire.table", "tidemark/tidemarkref5.dataStatus", "tidemark/tidemarkref5.voteStatus"], apart := false, laid := [("tidemark/tidemarkref5.dataStatus", laid_tidemark_tidemarkref5_dataStatus), ("tidemark/tidemarkref5.voteStatus", laid_tidemark_tidemarkref5_voteStatus), ("tidemark/wire.table", laid_tidemark_wire_table)] }
def MsgApartSaid : Prop := msgApartRow.holds Tryd.pinned (OpenSpec.ofChange msgApartSpec)

/-- ITS FALSE NEIGHBOUR: 'it returns false'. Refute it at one input. -/
def msgApartWrong : ChangeSpec := { name := "msgApart", fn := fun _ => fun
  | [d] => { results := [.lit (.bool false)], args := [d] }
  | _ => none }
def MsgApartWrongFalsely : Prop := msgApartRow.holds Tryd.pinned (OpenSpec.ofChange msgApartWrong)

/-- 'tidemarklaw5.MsgRound': WHATEVER THE INPUT: true; the input reads as it did. -/
def msgRoundSpec : ChangeSpec := { name := "msgRound", fn := fun _ => fun
  | [d] => { results := [.lit (.bool true)], args := [d] }
  | _ => none }
def msgRoundRow : OpenClaim := { program := "ytklhhpnibeejeaadoor", sum := "6f69bb1b8d418b4be65d0d0c7d60e14304635b90ea7c651d95f31c124e22ca9f", func := "tidemark/tidemarklaw5.MsgRound", spec := "msgRound", unfollowed := true, recurses := true, named := ["tidemark/wire.table", "tidemark/tidemarkref5.dataStatus", "tidemark/tidemarkref5.voteStatus"], apart := false, laid := [("tidemark/tidemarkref5.dataStatus", laid_tidemark_tidemarkref5_dataStatus), ("tidemark/tidemarkref5.voteStatus", laid_tidemark_tidemarkref5_voteStatus), ("tidemark/wire.table", laid_tidemark_wire_table)] }
def MsgRoundSaid : Prop := msgRoundRow.holds Tryd.pinned (OpenSpec.ofChange msgRoundSpec)

/-- ITS FALSE NEIGHBOUR: 'it returns false'. Refute it at one input. -/
def msgRoundWrong : ChangeSpec := { name := "msgRound", fn := fun _ => fun
  | [d] => { results := [.lit (.bool false)], args := [d] }
  | _ => none }
def MsgRoundWrongFalsely : Prop := msgRoundRow.holds Tryd.pinned (OpenSpec.ofChange msgRoundWrong)

/-- 'tidemarklaw5.MsgFlip': WHATEVER THE INPUT: true; the input reads as it did. -/
def msgFlipSpec : ChangeSpec := { name := "msgFlip", fn := fun _ => fun
  | [d] => { results := [.lit (.bool true)], args := [d] }
  | _ => none }
def msgFlipRow : OpenClaim := { program := "ytklhhpnibeejeaadoor", sum := "6f69bb1b8d418b4be65d0d0c7d60e14304635b90ea7c651d95f31c124e22ca9f", func := "tidemark/tidemarklaw5.MsgFlip", spec := "msgFlip", unfollowed := true, recurses := true, named := ["tidemark/tidemarkref5.dataStatus", "tidemark/tidemarkref5.voteStatus", "tidemark/wire.table"], apart := false, laid := [("tidemark/tidemarkref5.dataStatus", laid_tidemark_tidemarkref5_dataStatus), ("tidemark/tidemarkref5.voteStatus", laid_tidemark_tidemarkref5_voteStatus), ("tidemark/wire.table", laid_tidemark_wire_table)] }
def MsgFlipSaid : Prop := msgFlipRow.holds Tryd.pinned (OpenSpec.ofChange msgFlipSpec)

/-- ITS FALSE NEIGHBOUR: 'it returns false'. Refute it at one input. -/
def msgFlipWrong : ChangeSpec := { name := "msgFlip", fn := fun _ => fun
  | [d] => { results := [.lit (.bool false)], args := [d] }
  | _ => none }
def MsgFlipWrongFalsely : Prop := msgFlipRow.holds Tryd.pinned (OpenSpec.ofChange msgFlipWrong)

/-- 'tidemarklaw5.MsgCut': WHATEVER THE INPUT: true; the input reads as it did. -/
def msgCutSpec : ChangeSpec := { name := "msgCut", fn := fun _ => fun
  | [d] => { results := [.lit (.bool true)], args := [d] }
  | _ => none }
def msgCutRow : OpenClaim := { program := "ytklhhpnibeejeaadoor", sum := "6f69bb1b8d418b4be65d0d0c7d60e14304635b90ea7c651d95f31c124e22ca9f", func := "tidemark/tidemarklaw5.MsgCut", spec := "msgCut", unfollowed := true, recurses := true, named := ["tidemark/tidemarkref5.dataStatus", "tidemark/tidemarkref5.voteStatus", "tidemark/wire.table"], apart := false, laid := [("tidemark/tidemarkref5.dataStatus", laid_tidemark_tidemarkref5_dataStatus), ("tidemark/tidemarkref5.voteStatus", laid_tidemark_tidemarkref5_voteStatus), ("tidemark/wire.table", laid_tidemark_wire_table)] }
def MsgCutSaid : Prop := msgCutRow.holds Tryd.pinned (OpenSpec.ofChange msgCutSpec)

/-- ITS FALSE NEIGHBOUR: 'it returns false'. Refute it at one input. -/
def msgCutWrong : ChangeSpec := { name := "msgCut", fn := fun _ => fun
  | [d] => { results := [.lit (.bool false)], args := [d] }
  | _ => none }
def MsgCutWrongFalsely : Prop := msgCutRow.holds Tryd.pinned (OpenSpec.ofChange msgCutWrong)

/- THE SECOND FORM. 'bulk': how many values and letters a reading holds, each counted each time it is reached (what is shared counts as often as it is met; a slice's spare places count too). A statement '..UptoSaid' is the law's where the arguments, and the package variables that the reading takes, are together of bulk at most 1048576: NARROWER than '..Said'. Prove '..Said' where nothing that the law and all that it calls make is longer than what came in: it says more and counts as full. Else prove '..UptoSaid'. A law counts once. -/
mutual
def uptoBulk {H : Type} : DataW H → Nat
  | .lit (.string bytes) => bytes.length + 1
  | .lit _ => 1
  | .nil => 1
  | .ptr d => uptoBulk d + 1
  | .slice elems spare => uptoBulkAll elems + uptoBulkAll spare + 1
  | .agg parts => uptoBulkAll parts + 1
  | .iface _ d => uptoBulk d + 1
  | .map entries => uptoBulkEntries entries + 1
  | .held _ => 1
def uptoBulkAll {H : Type} : List (DataW H) → Nat
  | [] => 0
  | d :: r => uptoBulk d + uptoBulkAll r
def uptoBulkEntries {H : Type} : List (Lit × DataW H) → Nat
  | [] => 0
  | x :: r => uptoBulkEntry x + uptoBulkEntries r
def uptoBulkEntry {H : Type} : Lit × DataW H → Nat
  | (.string bytes, d) => bytes.length + uptoBulk d + 1
  | (_, d) => uptoBulk d + 1
 end
def uptoSmall : (H : Type) → List (DataW H) → Bool := fun _ ds => decide (uptoBulkAll ds ≤ 1048576)
def OpenSpec.upto (s : _root_.Go.ChangeSpec) : _root_.Go.OpenSpec := { _root_.Go.OpenSpec.ofChange s with cond := some uptoSmall }

/-- 'tidemarklaw5.MsgOnly', WHERE WHAT IT READS IS OF BULK AT MOST 1048576: true; the input reads as it did. -/
def msgOnlyUptoRow : OpenClaim := { program := "ytklhhpnibeejeaadoor", sum := "6f69bb1b8d418b4be65d0d0c7d60e14304635b90ea7c651d95f31c124e22ca9f", func := "tidemark/tidemarklaw5.MsgOnly", spec := "msgOnly", unfollowed := true, recurses := true, named := ["tidemark/wire.table"], apart := false, laid := [("tidemark/wire.table", laid_tidemark_wire_table)], narrowed := true }
def MsgOnlyUptoSaid : Prop := msgOnlyUptoRow.holds Tryd.pinned (OpenSpec.upto msgOnlySpec)

/-- 'tidemarklaw5.MsgValid', WHERE WHAT IT READS IS OF BULK AT MOST 1048576: true; the input reads as it did. -/
def msgValidUptoRow : OpenClaim := { program := "ytklhhpnibeejeaadoor", sum := "6f69bb1b8d418b4be65d0d0c7d60e14304635b90ea7c651d95f31c124e22ca9f", func := "tidemark/tidemarklaw5.MsgValid", spec := "msgValid", unfollowed := true, recurses := true, named := ["tidemark/tidemarkref5.dataStatus", "tidemark/tidemarkref5.voteStatus"], apart := false, laid := [("tidemark/tidemarkref5.dataStatus", laid_tidemark_tidemarkref5_dataStatus), ("tidemark/tidemarkref5.voteStatus", laid_tidemark_tidemarkref5_voteStatus)], narrowed := true }
def MsgValidUptoSaid : Prop := msgValidUptoRow.holds Tryd.pinned (OpenSpec.upto msgValidSpec)

/-- 'tidemarklaw5.MsgEncodes', WHERE WHAT IT READS IS OF BULK AT MOST 1048576: true; the input reads as it did. -/
def msgEncodesUptoRow : OpenClaim := { program := "ytklhhpnibeejeaadoor", sum := "6f69bb1b8d418b4be65d0d0c7d60e14304635b90ea7c651d95f31c124e22ca9f", func := "tidemark/tidemarklaw5.MsgEncodes", spec := "msgEncodes", unfollowed := true, recurses := true, named := ["tidemark/wire.table", "tidemark/tidemarkref5.dataStatus", "tidemark/tidemarkref5.voteStatus"], apart := false, laid := [("tidemark/tidemarkref5.dataStatus", laid_tidemark_tidemarkref5_dataStatus), ("tidemark/tidemarkref5.voteStatus", laid_tidemark_tidemarkref5_voteStatus), ("tidemark/wire.table", laid_tidemark_wire_table)], narrowed := true }
def MsgEncodesUptoSaid : Prop := msgEncodesUptoRow.holds Tryd.pinned (OpenSpec.upto msgEncodesSpec)

/-- 'tidemarklaw5.MsgApart', WHERE WHAT IT READS IS OF BULK AT MOST 1048576: true; the input reads as it did. -/
def msgApartUptoRow : OpenClaim := { program := "ytklhhpnibeejeaadoor", sum := "6f69bb1b8d418b4be65d0d0c7d60e14304635b90ea7c651d95f31c124e22ca9f", func := "tidemark/tidemarklaw5.MsgApart", spec := "msgApart", unfollowed := true, recurses := true, named := ["tidemark/wire.table", "tidemark/tidemarkref5.dataStatus", "tidemark/tidemarkref5.voteStatus"], apart := false, laid := [("tidemark/tidemarkref5.dataStatus", laid_tidemark_tidemarkref5_dataStatus), ("tidemark/tidemarkref5.voteStatus", laid_tidemark_tidemarkref5_voteStatus), ("tidemark/wire.table", laid_tidemark_wire_table)], narrowed := true }
def MsgApartUptoSaid : Prop := msgApartUptoRow.holds Tryd.pinned (OpenSpec.upto msgApartSpec)

/-- 'tidemarklaw5.MsgRound', WHERE WHAT IT READS IS OF BULK AT MOST 1048576: true; the input reads as it did. -/
def msgRoundUptoRow : OpenClaim := { program := "ytklhhpnibeejeaadoor", sum := "6f69bb1b8d418b4be65d0d0c7d60e14304635b90ea7c651d95f31c124e22ca9f", func := "tidemark/tidemarklaw5.MsgRound", spec := "msgRound", unfollowed := true, recurses := true, named := ["tidemark/wire.table", "tidemark/tidemarkref5.dataStatus", "tidemark/tidemarkref5.voteStatus"], apart := false, laid := [("tidemark/tidemarkref5.dataStatus", laid_tidemark_tidemarkref5_dataStatus), ("tidemark/tidemarkref5.voteStatus", laid_tidemark_tidemarkref5_voteStatus), ("tidemark/wire.table", laid_tidemark_wire_table)], narrowed := true }
def MsgRoundUptoSaid : Prop := msgRoundUptoRow.holds Tryd.pinned (OpenSpec.upto msgRoundSpec)

/-- 'tidemarklaw5.MsgFlip', WHERE WHAT IT READS IS OF BULK AT MOST 1048576: true; the input reads as it did. -/
def msgFlipUptoRow : OpenClaim := { program := "ytklhhpnibeejeaadoor", sum := "6f69bb1b8d418b4be65d0d0c7d60e14304635b90ea7c651d95f31c124e22ca9f", func := "tidemark/tidemarklaw5.MsgFlip", spec := "msgFlip", unfollowed := true, recurses := true, named := ["tidemark/tidemarkref5.dataStatus", "tidemark/tidemarkref5.voteStatus", "tidemark/wire.table"], apart := false, laid := [("tidemark/tidemarkref5.dataStatus", laid_tidemark_tidemarkref5_dataStatus), ("tidemark/tidemarkref5.voteStatus", laid_tidemark_tidemarkref5_voteStatus), ("tidemark/wire.table", laid_tidemark_wire_table)], narrowed := true }
def MsgFlipUptoSaid : Prop := msgFlipUptoRow.holds Tryd.pinned (OpenSpec.upto msgFlipSpec)

/-- 'tidemarklaw5.MsgCut', WHERE WHAT IT READS IS OF BULK AT MOST 1048576: true; the input reads as it did. -/
def msgCutUptoRow : OpenClaim := { program := "ytklhhpnibeejeaadoor", sum := "6f69bb1b8d418b4be65d0d0c7d60e14304635b90ea7c651d95f31c124e22ca9f", func := "tidemark/tidemarklaw5.MsgCut", spec := "msgCut", unfollowed := true, recurses := true, named := ["tidemark/tidemarkref5.dataStatus", "tidemark/tidemarkref5.voteStatus", "tidemark/wire.table"], apart := false, laid := [("tidemark/tidemarkref5.dataStatus", laid_tidemark_tidemarkref5_dataStatus), ("tidemark/tidemarkref5.voteStatus", laid_tidemark_tidemarkref5_voteStatus), ("tidemark/wire.table", laid_tidemark_wire_table)], narrowed := true }
def MsgCutUptoSaid : Prop := msgCutUptoRow.holds Tryd.pinned (OpenSpec.upto msgCutSpec)

end Rows
end Go.Proofs.YtklhhpnibeejeaaDoor
