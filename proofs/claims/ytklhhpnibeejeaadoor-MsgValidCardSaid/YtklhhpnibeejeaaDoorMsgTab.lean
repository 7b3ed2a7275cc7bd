/-
  THE ROWS THAT LIST THE TWO TABLES of the statuses: what the list gives. Condition: none beyond the rows' own.
-/
import Derived.Test.YtklhhpnibeejeaaDoorRowKit
import Derived.Test.YtklhhpnibeejeaaDoorMsgRefT
namespace Go.Proofs.YtklhhpnibeejeaaDoor
open Go.ChangeShapes Go.WideShapes Go.ChangeAt Go.RowKit

theorem laid_tail {P : Program} {W : World} {x : String × DataW Unit} {r : List (String × DataW Unit)} (h : laidMet P (x :: r) W) : laidMet P r W := by
  obtain ⟨ps, hv, hn, hc⟩ := h
  obtain ⟨n, d⟩ := x
  obtain ⟨g, t, cs, fuel, p, q, _, _, _, _, hr, rfl⟩ := hv
  exact ⟨q, hr, (List.nodup_append.1 hn).2.1, fun b off hm => hc b off (List.mem_append_right _ hm)⟩
def dataI : List Int := [0, 11, 60, 90, 140, 142]
def voteI : List Int := [0, 11, 60, 90, 100, 141, 164]
theorem cells6 : Tryd.prog.cellsOf 136 = 6 := by kernel_rfl
theorem cells7 : Tryd.prog.cellsOf 137 = 7 := by kernel_rfl
theorem cellsI : Tryd.prog.cellsOf 3 = 1 := by kernel_rfl
theorem gData : Tryd.prog.globalNamed "tidemark/tidemarkref5.dataStatus" = some 0 := by kernel_rfl
theorem gVote : Tryd.prog.globalNamed "tidemark/tidemarkref5.voteStatus" = some 1 := by kernel_rfl
theorem stab_of {rest : List (String × DataW Unit)} {W : World} (h : laidMet Tryd.prog (("tidemark/tidemarkref5.dataStatus", Rows.laid_tidemark_tidemarkref5_dataStatus) :: ("tidemark/tidemarkref5.voteStatus", Rows.laid_tidemark_tidemarkref5_voteStatus) :: rest) W) : STab W := by
  have T1 : Lib.TabIs Tryd.prog W "tidemark/tidemarkref5.dataStatus" .i64 dataI := Lib.tabIs_of_head (rest := ("tidemark/tidemarkref5.voteStatus", Rows.laid_tidemark_tidemarkref5_voteStatus) :: rest) gData (by kernel_rfl) Tryd.underlying136 Tryd.underlying3 cellsI cells6 h
  have T2 : Lib.TabIs Tryd.prog W "tidemark/tidemarkref5.voteStatus" .i64 voteI := Lib.tabIs_of_head (rest := rest) gVote (by kernel_rfl) Tryd.underlying137 Tryd.underlying3 cellsI cells7 (laid_tail h)
  constructor
  · intro i hi
    rw [T1.cell gData i hi]
    match i, hi with
    | 0, _ | 1, _ | 2, _ | 3, _ | 4, _ | 5, _ => rfl
  · intro i hi
    rw [T2.cell gVote i hi]
    match i, hi with
    | 0, _ | 1, _ | 2, _ | 3, _ | 4, _ | 5, _ | 6, _ => rfl
end Go.Proofs.YtklhhpnibeejeaaDoor
