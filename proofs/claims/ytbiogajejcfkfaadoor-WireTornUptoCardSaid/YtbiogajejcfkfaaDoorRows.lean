/-
  NARROWER THAN 'FOR EVERY INPUT', by the rows' own cells (each row's printed sentence says how): WireSums: laid · WireBurst: laid · WireTorn: laid · WireRest: laid · WireCanon: laid · WireRound: laid · WireStops: laid.
  DERIVED. THE GIVEN ROWS OF THIS SEAT. 7 by the template 'for every input the law returns true; each argument reads behind the call as it read before'; 0 by the template 'total and deterministic' (their statements: YtbiogajejcfkfaaDoorTotals.lean).
  GIVEN WITH THE SEED: the statements are not yours to turn. If you find one false, say at which input.
  Laid BY PROGRAM, IN A SANDBOX (cutbox-rows.mjs): the forced cells as the released guide's own fill.sh prints them over the translation 76b727a74d8a7e4c… (all of the seat's roots in one cut). By AI agents, Wed Nov 11 2026. No macro, syntax, notation, axiom, sorry.
-/
import Derived.Test.YtbiogajejcfkfaaDoorChecked
import GoSem.Claim
import GoSem.ClaimJoined
import GoSem.ClaimMapViews
import Derived.JoinedTies
import Derived.KernelRfl
namespace Go.Proofs.YtbiogajejcfkfaaDoor
/- THE CELL 'sum', in the pinned program and in every row, IS THE sha256 OF THE DUMP (.gsa) THAT YtbiogajejcfkfaaDoorProg.lean LOADS. Nothing in Lean hashes anything: it is a label: what it is worth is what the hold of that sum in a sandbox is worth. -/
noncomputable def Tryd.pinned : Pinned := { name := "ytbiogajejcfkfaadoor", sum := "76b727a74d8a7e4c265956d0cb2cee52e67eaa5d07d70754267352935437f06a", checked := Tryd.checked }
namespace Rows
def none {H : Type} : Left H := { results := [], args := [] }

/- WHAT THE LISTED PACKAGE-LEVEL VARIABLES READ AS WHEN THE CALL BEGINS. Each datum BY PROGRAM (the guide's laid-datum.mjs) off the statement by which the dump's own 'gosem.cut.vars' lays the variable. In a bare row this is a premise. The card (YtbiogajejcfkfaaDoorCards.lean) ties it to the program's text. -/
def laid_tidemark_wire_table {H : Type} : DataW H := .agg [.lit (.int .u32 0), .lit (.int .u32 498536548), .lit (.int .u32 997073096), .lit (.int .u32 651767980), .lit (.int .u32 1994146192), .lit (.int .u32 1802195444), .lit (.int .u32 1303535960), .lit (.int .u32 1342533948), .lit (.int .u32 3988292384), .lit (.int .u32 4027552580), .lit (.int .u32 3604390888), .lit (.int .u32 3412177804), .lit (.int .u32 2607071920), .lit (.int .u32 2262029012), .lit (.int .u32 2685067896), .lit (.int .u32 3183342108)]
def laid_math_bits_deBruijn32tab {H : Type} : DataW H := .agg [.lit (.int .u8 0), .lit (.int .u8 1), .lit (.int .u8 28), .lit (.int .u8 2), .lit (.int .u8 29), .lit (.int .u8 14), .lit (.int .u8 24), .lit (.int .u8 3), .lit (.int .u8 30), .lit (.int .u8 22), .lit (.int .u8 20), .lit (.int .u8 15), .lit (.int .u8 25), .lit (.int .u8 17), .lit (.int .u8 4), .lit (.int .u8 8), .lit (.int .u8 31), .lit (.int .u8 27), .lit (.int .u8 13), .lit (.int .u8 23), .lit (.int .u8 21), .lit (.int .u8 19), .lit (.int .u8 16), .lit (.int .u8 7), .lit (.int .u8 26), .lit (.int .u8 12), .lit (.int .u8 18), .lit (.int .u8 6), .lit (.int .u8 11), .lit (.int .u8 5), .lit (.int .u8 10), .lit (.int .u8 9)]
def laid_math_bits_deBruijn64tab {H : Type} : DataW H := .agg [.lit (.int .u8 0), .lit (.int .u8 1), .lit (.int .u8 56), .lit (.int .u8 2), .lit (.int .u8 57), .lit (.int .u8 49), .lit (.int .u8 28), .lit (.int .u8 3), .lit (.int .u8 61), .lit (.int .u8 58), .lit (.int .u8 42), .lit (.int .u8 50), .lit (.int .u8 38), .lit (.int .u8 29), .lit (.int .u8 17), .lit (.int .u8 4), .lit (.int .u8 62), .lit (.int .u8 47), .lit (.int .u8 59), .lit (.int .u8 36), .lit (.int .u8 45), .lit (.int .u8 43), .lit (.int .u8 51), .lit (.int .u8 22), .lit (.int .u8 53), .lit (.int .u8 39), .lit (.int .u8 33), .lit (.int .u8 30), .lit (.int .u8 24), .lit (.int .u8 18), .lit (.int .u8 12), .lit (.int .u8 5), .lit (.int .u8 63), .lit (.int .u8 55), .lit (.int .u8 48), .lit (.int .u8 27), .lit (.int .u8 60), .lit (.int .u8 41), .lit (.int .u8 37), .lit (.int .u8 16), .lit (.int .u8 46), .lit (.int .u8 35), .lit (.int .u8 44), .lit (.int .u8 21), .lit (.int .u8 52), .lit (.int .u8 32), .lit (.int .u8 23), .lit (.int .u8 11), .lit (.int .u8 54), .lit (.int .u8 26), .lit (.int .u8 40), .lit (.int .u8 15), .lit (.int .u8 34), .lit (.int .u8 20), .lit (.int .u8 31), .lit (.int .u8 10), .lit (.int .u8 25), .lit (.int .u8 14), .lit (.int .u8 19), .lit (.int .u8 9), .lit (.int .u8 13), .lit (.int .u8 8), .lit (.int .u8 7), .lit (.int .u8 6)]
def laid_internal_strconv_uint64pow10 {H : Type} : DataW H := .agg [.lit (.int .u64 1), .lit (.int .u64 10), .lit (.int .u64 100), .lit (.int .u64 1000), .lit (.int .u64 10000), .lit (.int .u64 100000), .lit (.int .u64 1000000), .lit (.int .u64 10000000), .lit (.int .u64 100000000), .lit (.int .u64 1000000000), .lit (.int .u64 10000000000), .lit (.int .u64 100000000000), .lit (.int .u64 1000000000000), .lit (.int .u64 10000000000000), .lit (.int .u64 100000000000000), .lit (.int .u64 1000000000000000), .lit (.int .u64 10000000000000000), .lit (.int .u64 100000000000000000), .lit (.int .u64 1000000000000000000), .lit (.int .u64 10000000000000000000)]

/-- 'tidemarklaw3.WireSums': WHATEVER THE INPUT: true; the input reads as it did. -/
def wireSumsSpec : ChangeSpec := { name := "wireSums", fn := fun _ => fun
  | [d] => { results := [.lit (.bool true)], args := [d] }
  | _ => none }
def wireSumsRow : OpenClaim := { program := "ytbiogajejcfkfaadoor", sum := "76b727a74d8a7e4c265956d0cb2cee52e67eaa5d07d70754267352935437f06a", func := "tidemark/tidemarklaw3.WireSums", spec := "wireSums", named := ["tidemark/wire.table"], apart := false, laid := [("tidemark/wire.table", laid_tidemark_wire_table)] }
def WireSumsSaid : Prop := wireSumsRow.holds Tryd.pinned (OpenSpec.ofChange wireSumsSpec)

/-- ITS FALSE NEIGHBOUR: 'it returns false'. Refute it at one input. -/
def wireSumsWrong : ChangeSpec := { name := "wireSums", fn := fun _ => fun
  | [d] => { results := [.lit (.bool false)], args := [d] }
  | _ => none }
def WireSumsWrongFalsely : Prop := wireSumsRow.holds Tryd.pinned (OpenSpec.ofChange wireSumsWrong)

/-- 'tidemarklaw3.WireBurst': WHATEVER THE INPUT: true; the input reads as it did. -/
def wireBurstSpec : ChangeSpec := { name := "wireBurst", fn := fun _ => fun
  | [d] => { results := [.lit (.bool true)], args := [d] }
  | _ => none }
def wireBurstRow : OpenClaim := { program := "ytbiogajejcfkfaadoor", sum := "76b727a74d8a7e4c265956d0cb2cee52e67eaa5d07d70754267352935437f06a", func := "tidemark/tidemarklaw3.WireBurst", spec := "wireBurst", named := ["tidemark/wire.table"], apart := false, laid := [("tidemark/wire.table", laid_tidemark_wire_table)] }
def WireBurstSaid : Prop := wireBurstRow.holds Tryd.pinned (OpenSpec.ofChange wireBurstSpec)

/-- ITS FALSE NEIGHBOUR: 'it returns false'. Refute it at one input. -/
def wireBurstWrong : ChangeSpec := { name := "wireBurst", fn := fun _ => fun
  | [d] => { results := [.lit (.bool false)], args := [d] }
  | _ => none }
def WireBurstWrongFalsely : Prop := wireBurstRow.holds Tryd.pinned (OpenSpec.ofChange wireBurstWrong)

/-- 'tidemarklaw3.WireTorn': WHATEVER THE INPUT: true; the input reads as it did. -/
def wireTornSpec : ChangeSpec := { name := "wireTorn", fn := fun _ => fun
  | [d] => { results := [.lit (.bool true)], args := [d] }
  | _ => none }
def wireTornRow : OpenClaim := { program := "ytbiogajejcfkfaadoor", sum := "76b727a74d8a7e4c265956d0cb2cee52e67eaa5d07d70754267352935437f06a", func := "tidemark/tidemarklaw3.WireTorn", spec := "wireTorn", named := ["tidemark/wire.table"], apart := false, laid := [("tidemark/wire.table", laid_tidemark_wire_table)] }
def WireTornSaid : Prop := wireTornRow.holds Tryd.pinned (OpenSpec.ofChange wireTornSpec)

/-- ITS FALSE NEIGHBOUR: 'it returns false'. Refute it at one input. -/
def wireTornWrong : ChangeSpec := { name := "wireTorn", fn := fun _ => fun
  | [d] => { results := [.lit (.bool false)], args := [d] }
  | _ => none }
def WireTornWrongFalsely : Prop := wireTornRow.holds Tryd.pinned (OpenSpec.ofChange wireTornWrong)

/-- 'tidemarklaw3.WireRest': WHATEVER THE INPUT: true; the input reads as it did. -/
def wireRestSpec : ChangeSpec := { name := "wireRest", fn := fun _ => fun
  | [d] => { results := [.lit (.bool true)], args := [d] }
  | _ => none }
def wireRestRow : OpenClaim := { program := "ytbiogajejcfkfaadoor", sum := "76b727a74d8a7e4c265956d0cb2cee52e67eaa5d07d70754267352935437f06a", func := "tidemark/tidemarklaw3.WireRest", spec := "wireRest", named := ["tidemark/wire.table"], apart := false, laid := [("tidemark/wire.table", laid_tidemark_wire_table)] }
def WireRestSaid : Prop := wireRestRow.holds Tryd.pinned (OpenSpec.ofChange wireRestSpec)

/-- ITS FALSE NEIGHBOUR: 'it returns false'. Refute it at one input. -/
def wireRestWrong : ChangeSpec := { name := "wireRest", fn := fun _ => fun
  | [d] => { results := [.lit (.bool false)], args := [d] }
  | _ => none }
def WireRestWrongFalsely : Prop := wireRestRow.holds Tryd.pinned (OpenSpec.ofChange wireRestWrong)

/-- 'tidemarklaw3.WireCanon': WHATEVER THE INPUT: true; the input reads as it did. -/
def wireCanonSpec : ChangeSpec := { name := "wireCanon", fn := fun _ => fun
  | [d] => { results := [.lit (.bool true)], args := [d] }
  | _ => none }
def wireCanonRow : OpenClaim := { program := "ytbiogajejcfkfaadoor", sum := "76b727a74d8a7e4c265956d0cb2cee52e67eaa5d07d70754267352935437f06a", func := "tidemark/tidemarklaw3.WireCanon", spec := "wireCanon", unfollowed := true, recurses := true, named := ["internal/strconv.uint64pow10", "math/bits.deBruijn32tab", "math/bits.deBruijn64tab"], apart := false, laid := [("math/bits.deBruijn32tab", laid_math_bits_deBruijn32tab), ("math/bits.deBruijn64tab", laid_math_bits_deBruijn64tab), ("internal/strconv.uint64pow10", laid_internal_strconv_uint64pow10)] }
def WireCanonSaid : Prop := wireCanonRow.holds Tryd.pinned (OpenSpec.ofChange wireCanonSpec)

/-- ITS FALSE NEIGHBOUR: 'it returns false'. Refute it at one input. -/
def wireCanonWrong : ChangeSpec := { name := "wireCanon", fn := fun _ => fun
  | [d] => { results := [.lit (.bool false)], args := [d] }
  | _ => none }
def WireCanonWrongFalsely : Prop := wireCanonRow.holds Tryd.pinned (OpenSpec.ofChange wireCanonWrong)

/-- 'tidemarklaw3.WireRound': WHATEVER THE INPUT: true; the input reads as it did. -/
def wireRoundSpec : ChangeSpec := { name := "wireRound", fn := fun _ => fun
  | [d] => { results := [.lit (.bool true)], args := [d] }
  | _ => none }
def wireRoundRow : OpenClaim := { program := "ytbiogajejcfkfaadoor", sum := "76b727a74d8a7e4c265956d0cb2cee52e67eaa5d07d70754267352935437f06a", func := "tidemark/tidemarklaw3.WireRound", spec := "wireRound", unfollowed := true, recurses := true, named := ["internal/strconv.uint64pow10", "math/bits.deBruijn32tab", "math/bits.deBruijn64tab"], apart := false, laid := [("math/bits.deBruijn32tab", laid_math_bits_deBruijn32tab), ("math/bits.deBruijn64tab", laid_math_bits_deBruijn64tab), ("internal/strconv.uint64pow10", laid_internal_strconv_uint64pow10)] }
def WireRoundSaid : Prop := wireRoundRow.holds Tryd.pinned (OpenSpec.ofChange wireRoundSpec)

/-- ITS FALSE NEIGHBOUR: 'it returns false'. Refute it at one input. -/
def wireRoundWrong : ChangeSpec := { name := "wireRound", fn := fun _ => fun
  | [d] => { results := [.lit (.bool false)], args := [d] }
  | _ => none }
def WireRoundWrongFalsely : Prop := wireRoundRow.holds Tryd.pinned (OpenSpec.ofChange wireRoundWrong)

/-- 'tidemarklaw3.WireStops': WHATEVER THE INPUT: true; the input reads as it did. -/
def wireStopsSpec : ChangeSpec := { name := "wireStops", fn := fun _ => fun
  | [d] => { results := [.lit (.bool true)], args := [d] }
  | _ => none }
def wireStopsRow : OpenClaim := { program := "ytbiogajejcfkfaadoor", sum := "76b727a74d8a7e4c265956d0cb2cee52e67eaa5d07d70754267352935437f06a", func := "tidemark/tidemarklaw3.WireStops", spec := "wireStops", unfollowed := true, recurses := true, named := ["internal/strconv.uint64pow10", "math/bits.deBruijn32tab", "math/bits.deBruijn64tab"], apart := false, laid := [("math/bits.deBruijn32tab", laid_math_bits_deBruijn32tab), ("math/bits.deBruijn64tab", laid_math_bits_deBruijn64tab), ("internal/strconv.uint64pow10", laid_internal_strconv_uint64pow10)] }
def WireStopsSaid : Prop := wireStopsRow.holds Tryd.pinned (OpenSpec.ofChange wireStopsSpec)

/-- ITS FALSE NEIGHBOUR: 'it returns false'. Refute it at one input. -/
def wireStopsWrong : ChangeSpec := { name := "wireStops", fn := fun _ => fun
  | [d] => { results := [.lit (.bool false)], args := [d] }
  | _ => none }
def WireStopsWrongFalsely : Prop := wireStopsRow.holds Tryd.pinned (OpenSpec.ofChange wireStopsWrong)

/- THE SECOND FORM. 'bulk': how many values and letters a reading holds, each counted each time it is reached (what is shared counts as often as it is met; a slice's spare places count too). A statement '..UptoSaid' is the law's where the arguments, and the package variables that the reading takes, are together of bulk at most 1048576: NARROWER than '..Said'. Prove '..Said' where nothing that the law and all that it calls make is longer than what came in: it says more and counts as full. Else prove '..UptoSaid'. A law counts once. -/
mutual
def uptoBulk {H : Type} : DataW H → Nat
  | .lit (.string bytes) => bytes.length + 1
  | .lit _ => 1
  | .nil => 1
  | .ptr d => uptoBulk d + 1
  | .slice elems spare => uptoBulkAll elems + uptoBulkAll spare + 1
  | .agg parts => uptoBulkAll parts + 1
  | .iface _ d => uptoBulk d + 1
  | .map entries => uptoBulkEntries entries + 1
  | .held _ => 1
def uptoBulkAll {H : Type} : List (DataW H) → Nat
  | [] => 0
  | d :: r => uptoBulk d + uptoBulkAll r
def uptoBulkEntries {H : Type} : List (Lit × DataW H) → Nat
  | [] => 0
  | x :: r => uptoBulkEntry x + uptoBulkEntries r
def uptoBulkEntry {H : Type} : Lit × DataW H → Nat
  | (.string bytes, d) => bytes.length + uptoBulk d + 1
  | (_, d) => uptoBulk d + 1
 end
def uptoSmall : (H : Type) → List (DataW H) → Bool := fun _ ds => decide (uptoBulkAll ds ≤ 1048576)
def OpenSpec.upto (s : _root_.Go.ChangeSpec) : _root_.Go.OpenSpec := { _root_.Go.OpenSpec.ofChange s with cond := some uptoSmall }

/-- 'tidemarklaw3.WireSums', WHERE WHAT IT READS IS OF BULK AT MOST 1048576: true; the input reads as it did. -/
def wireSumsUptoRow : OpenClaim := { program := "ytbiogajejcfkfaadoor", sum := "76b727a74d8a7e4c265956d0cb2cee52e67eaa5d07d70754267352935437f06a", func := "tidemark/tidemarklaw3.WireSums", spec := "wireSums", named := ["tidemark/wire.table"], apart := false, laid := [("tidemark/wire.table", laid_tidemark_wire_table)], narrowed := true }
def WireSumsUptoSaid : Prop := wireSumsUptoRow.holds Tryd.pinned (OpenSpec.upto wireSumsSpec)

/-- 'tidemarklaw3.WireBurst', WHERE WHAT IT READS IS OF BULK AT MOST 1048576: true; the input reads as it did. -/
def wireBurstUptoRow : OpenClaim := { program := "ytbiogajejcfkfaadoor", sum := "76b727a74d8a7e4c265956d0cb2cee52e67eaa5d07d70754267352935437f06a", func := "tidemark/tidemarklaw3.WireBurst", spec := "wireBurst", named := ["tidemark/wire.table"], apart := false, laid := [("tidemark/wire.table", laid_tidemark_wire_table)], narrowed := true }
def WireBurstUptoSaid : Prop := wireBurstUptoRow.holds Tryd.pinned (OpenSpec.upto wireBurstSpec)

/-- 'tidemarklaw3.WireTorn', WHERE WHAT IT READS IS OF BULK AT MOST 1048576: true; the input reads as it did. -/
def wireTornUptoRow : OpenClaim := { program := "ytbiogajejcfkfaadoor", sum := "76b727a74d8a7e4c265956d0cb2cee52e67eaa5d07d70754267352935437f06a", func := "tidemark/tidemarklaw3.WireTorn", spec := "wireTorn", named := ["tidemark/wire.table"], apart := false, laid := [("tidemark/wire.table", laid_tidemark_wire_table)], narrowed := true }
def WireTornUptoSaid : Prop := wireTornUptoRow.holds Tryd.pinned (OpenSpec.upto wireTornSpec)

/-- 'tidemarklaw3.WireRest', WHERE WHAT IT READS IS OF BULK AT MOST 1048576: true; the input reads as it did. -/
def wireRestUptoRow : OpenClaim := { program := "ytbiogajejcfkfaadoor", sum := "76b727a74d8a7e4c265956d0cb2cee52e67eaa5d07d70754267352935437f06a", func := "tidemark/tidemarklaw3.WireRest", spec := "wireRest", named := ["tidemark/wire.table"], apart := false, laid := [("tidemark/wire.table", laid_tidemark_wire_table)], narrowed := true }
def WireRestUptoSaid : Prop := wireRestUptoRow.holds Tryd.pinned (OpenSpec.upto wireRestSpec)

/-- 'tidemarklaw3.WireCanon', WHERE WHAT IT READS IS OF BULK AT MOST 1048576: true; the input reads as it did. -/
def wireCanonUptoRow : OpenClaim := { program := "ytbiogajejcfkfaadoor", sum := "76b727a74d8a7e4c265956d0cb2cee52e67eaa5d07d70754267352935437f06a", func := "tidemark/tidemarklaw3.WireCanon", spec := "wireCanon", unfollowed := true, recurses := true, named := ["internal/strconv.uint64pow10", "math/bits.deBruijn32tab", "math/bits.deBruijn64tab"], apart := false, laid := [("math/bits.deBruijn32tab", laid_math_bits_deBruijn32tab), ("math/bits.deBruijn64tab", laid_math_bits_deBruijn64tab), ("internal/strconv.uint64pow10", laid_internal_strconv_uint64pow10)], narrowed := true }
def WireCanonUptoSaid : Prop := wireCanonUptoRow.holds Tryd.pinned (OpenSpec.upto wireCanonSpec)

/-- 'tidemarklaw3.WireRound', WHERE WHAT IT READS IS OF BULK AT MOST 1048576: true; the input reads as it did. -/
def wireRoundUptoRow : OpenClaim := { program := "ytbiogajejcfkfaadoor", sum := "76b727a74d8a7e4c265956d0cb2cee52e67eaa5d07d70754267352935437f06a", func := "tidemark/tidemarklaw3.WireRound", spec := "wireRound", unfollowed := true, recurses := true, named := ["internal/strconv.uint64pow10", "math/bits.deBruijn32tab", "math/bits.deBruijn64tab"], apart := false, laid := [("math/bits.deBruijn32tab", laid_math_bits_deBruijn32tab), ("math/bits.deBruijn64tab", laid_math_bits_deBruijn64tab), ("internal/strconv.uint64pow10", laid_internal_strconv_uint64pow10)], narrowed := true }
def WireRoundUptoSaid : Prop := wireRoundUptoRow.holds Tryd.pinned (OpenSpec.upto wireRoundSpec)

/-- 'tidemarklaw3.WireStops', WHERE WHAT IT READS IS OF BULK AT MOST 1048576: true; the input reads as it did. -/
def wireStopsUptoRow : OpenClaim := { program := "ytbiogajejcfkfaadoor", sum := "76b727a74d8a7e4c265956d0cb2cee52e67eaa5d07d70754267352935437f06a", func := "tidemark/tidemarklaw3.WireStops", spec := "wireStops", unfollowed := true, recurses := true, named := ["internal/strconv.uint64pow10", "math/bits.deBruijn32tab", "math/bits.deBruijn64tab"], apart := false, laid := [("math/bits.deBruijn32tab", laid_math_bits_deBruijn32tab), ("math/bits.deBruijn64tab", laid_math_bits_deBruijn64tab), ("internal/strconv.uint64pow10", laid_internal_strconv_uint64pow10)], narrowed := true }
def WireStopsUptoSaid : Prop := wireStopsUptoRow.holds Tryd.pinned (OpenSpec.upto wireStopsSpec)

end Rows
end Go.Proofs.YtbiogajejcfkfaaDoor
