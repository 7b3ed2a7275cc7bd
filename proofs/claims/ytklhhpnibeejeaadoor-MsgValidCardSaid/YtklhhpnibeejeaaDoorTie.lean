/-
  DERIVED. GIVEN WITH THE SEED: THE PROGRAM's TIES (one call each: nine closed facts by the kernel) AND EACH ROW's TIE, after the 31st guide's Derived/Test/Toyas{Tie, Card}.lean. No idea stands in it: it is a product of the set-up. Laid BY PROGRAM, IN A SANDBOX (cutbox-door.mjs). By AI agents, Wed Nov 11 2026. No macro, syntax, notation, axiom, sorry.
-/
import Derived.Test.YtklhhpnibeejeaaDoorRows
import Derived.LaidByTextLater
import Derived.SevenTiedAt
import Derived.LaidSub
import Derived.LaidOnce
namespace Go.Proofs.YtklhhpnibeejeaaDoor
open Go
set_option maxRecDepth 100000
theorem seatTie1 : Tryd.prog.laidByTextLater [("tidemark/tidemarkref5.dataStatus", Rows.laid_tidemark_tidemarkref5_dataStatus), ("tidemark/tidemarkref5.voteStatus", Rows.laid_tidemark_tidemarkref5_voteStatus), ("tidemark/wire.table", Rows.laid_tidemark_wire_table)] [.data, .data, .data] true :=
  Program.laidByTextLater_by_one 24 8 17 (by kernel_rfl) (by kernel_rfl) (by kernel_rfl) (by kernel_rfl) (by kernel_rfl) (by kernel_rfl) (fun _ _ => by kernel_rfl)
theorem noOwnUnsafe : Tryd.pinned.checked.prog.headLifts.contains "ownunsafe" = false := by kernel_rfl
theorem tie : Tryd.prog.laidByTextLater [("tidemark/wire.table", Rows.laid_tidemark_wire_table)] [.data] true :=
  Program.laidByTextLater.sub seatTie1 ["tidemark/wire.table"] (by kernel_rfl) (by kernel_rfl)
theorem msgOnly_row_tie : Rows.msgOnlyRow.laidByTextAt .later Tryd.pinned [.data] true :=
  OpenClaim.laidByTextAt_later rfl rfl tie noOwnUnsafe
theorem tie2 : Tryd.prog.laidByTextLater [("tidemark/tidemarkref5.dataStatus", Rows.laid_tidemark_tidemarkref5_dataStatus), ("tidemark/tidemarkref5.voteStatus", Rows.laid_tidemark_tidemarkref5_voteStatus)] [.data, .data] true :=
  Program.laidByTextLater.sub seatTie1 ["tidemark/tidemarkref5.dataStatus", "tidemark/tidemarkref5.voteStatus"] (by kernel_rfl) (by kernel_rfl)
theorem msgValid_row_tie : Rows.msgValidRow.laidByTextAt .later Tryd.pinned [.data, .data] true :=
  OpenClaim.laidByTextAt_later rfl rfl tie2 noOwnUnsafe
theorem tie3 : Tryd.prog.laidByTextLater [("tidemark/tidemarkref5.dataStatus", Rows.laid_tidemark_tidemarkref5_dataStatus), ("tidemark/tidemarkref5.voteStatus", Rows.laid_tidemark_tidemarkref5_voteStatus), ("tidemark/wire.table", Rows.laid_tidemark_wire_table)] [.data, .data, .data] true :=
  Program.laidByTextLater.sub seatTie1 ["tidemark/tidemarkref5.dataStatus", "tidemark/tidemarkref5.voteStatus", "tidemark/wire.table"] (by kernel_rfl) (by kernel_rfl)
theorem msgEncodes_row_tie : Rows.msgEncodesRow.laidByTextAt .later Tryd.pinned [.data, .data, .data] true :=
  OpenClaim.laidByTextAt_later rfl rfl tie3 noOwnUnsafe
theorem msgApart_row_tie : Rows.msgApartRow.laidByTextAt .later Tryd.pinned [.data, .data, .data] true :=
  OpenClaim.laidByTextAt_later rfl rfl tie3 noOwnUnsafe
theorem msgRound_row_tie : Rows.msgRoundRow.laidByTextAt .later Tryd.pinned [.data, .data, .data] true :=
  OpenClaim.laidByTextAt_later rfl rfl tie3 noOwnUnsafe
theorem msgFlip_row_tie : Rows.msgFlipRow.laidByTextAt .later Tryd.pinned [.data, .data, .data] true :=
  OpenClaim.laidByTextAt_later rfl rfl tie3 noOwnUnsafe
theorem msgCut_row_tie : Rows.msgCutRow.laidByTextAt .later Tryd.pinned [.data, .data, .data] true :=
  OpenClaim.laidByTextAt_later rfl rfl tie3 noOwnUnsafe
theorem msgOnlyUpto_row_tie : Rows.msgOnlyUptoRow.laidByTextAt .later Tryd.pinned [.data] true :=
  OpenClaim.laidByTextAt_later rfl rfl tie noOwnUnsafe
theorem msgValidUpto_row_tie : Rows.msgValidUptoRow.laidByTextAt .later Tryd.pinned [.data, .data] true :=
  OpenClaim.laidByTextAt_later rfl rfl tie2 noOwnUnsafe
theorem msgEncodesUpto_row_tie : Rows.msgEncodesUptoRow.laidByTextAt .later Tryd.pinned [.data, .data, .data] true :=
  OpenClaim.laidByTextAt_later rfl rfl tie3 noOwnUnsafe
theorem msgApartUpto_row_tie : Rows.msgApartUptoRow.laidByTextAt .later Tryd.pinned [.data, .data, .data] true :=
  OpenClaim.laidByTextAt_later rfl rfl tie3 noOwnUnsafe
theorem msgRoundUpto_row_tie : Rows.msgRoundUptoRow.laidByTextAt .later Tryd.pinned [.data, .data, .data] true :=
  OpenClaim.laidByTextAt_later rfl rfl tie3 noOwnUnsafe
theorem msgFlipUpto_row_tie : Rows.msgFlipUptoRow.laidByTextAt .later Tryd.pinned [.data, .data, .data] true :=
  OpenClaim.laidByTextAt_later rfl rfl tie3 noOwnUnsafe
theorem msgCutUpto_row_tie : Rows.msgCutUptoRow.laidByTextAt .later Tryd.pinned [.data, .data, .data] true :=
  OpenClaim.laidByTextAt_later rfl rfl tie3 noOwnUnsafe
end Go.Proofs.YtklhhpnibeejeaaDoor
