/-
  THE ROWS THAT LIST THE TABLE of the checksum: what the list gives; the start that lays it. Condition: none beyond the rows' own.
-/
import Derived.Test.YtbiogajejcfkfaaDoorRowKit
import Derived.Test.YtbiogajejcfkfaaDoorFrames
namespace Go.Proofs.YtbiogajejcfkfaaDoor
open Go.ChangeShapes Go.WideShapes Go.ChangeAt Go.RowKit

theorem gTab : Tryd.prog.globalNamed "tidemark/wire.table" = some 0 := by kernel_rfl
theorem gTabType : (Tryd.prog.globals[0]?).map (·.type) = some 102 := by kernel_rfl
theorem cellsTab : Tryd.prog.cellsOf 102 = 16 := by kernel_rfl
theorem cellsU32 : Tryd.prog.cellsOf 24 = 1 := by kernel_rfl
def tabI : List Int := [0, 498536548, 997073096, 651767980, 1994146192, 1802195444, 1303535960, 1342533948, 3988292384, 4027552580, 3604390888, 3412177804, 2607071920, 2262029012, 2685067896, 3183342108]

theorem tab_of {rest : List (String × DataW Unit)} {W : World} (h : laidMet Tryd.prog (("tidemark/wire.table", Rows.laid_tidemark_wire_table) :: rest) W) : Tab W := by
  have T : Lib.TabIs Tryd.prog W "tidemark/wire.table" .u32 tabI := Lib.tabIs_of_head (rest := rest) gTab gTabType Tryd.underlying102 Tryd.underlying24 cellsU32 cellsTab h
  intro i hi
  have c := T.cell gTab i (by show i < 16; exact hi)
  rw [c]
  match i, hi with
  | 0, _ | 1, _ | 2, _ | 3, _ | 4, _ | 5, _ | 6, _ | 7, _ | 8, _ | 9, _ | 10, _ | 11, _ | 12, _ | 13, _ | 14, _ | 15, _ => rfl
  | n + 16, hi => omega
end Go.Proofs.YtbiogajejcfkfaaDoor
