/-
  THE REFERENCE: Named, by kind (3, 4, 5; 0: none of the nine). Printed by gen_msgrn.py.
-/
import Derived.Test.YtklhhpnibeejeaaDoorMsgV
namespace Go.Proofs.YtklhhpnibeejeaaDoor
open Go.RowKit
set_option linter.unusedVariables false

set_option maxRecDepth 100000 in
set_option maxHeartbeats 4000000 in
theorem named_3 (m : Mes) (s : Sl) (w : World) :
    Calls Tryd.prog 31 #[.agg #[.int .i64 3, .int .u32 m.frm, .int .u32 m.dst, .int .u32 m.cl, .int .u32 m.seq, .int .u32 m.home, .int .u32 m.op, .int .u64 m.wall, .int .u32 m.log, .int .u32 m.node, .int .i64 m.status, .int .i64 m.outcome, .slice s.ra m.reads.length s.rc, .slice s.wa m.writes.length s.wc, .slice s.pa m.pairs.length s.pc]] w fun e w' => e = .returned (.agg #[.int .i64 3, .int .u32 m.frm, .int .u32 m.dst, .int .u32 m.cl, .int .u32 m.seq, .int .u32 m.home, .int .u32 0, .int .u64 m.wall, .int .u32 m.log, .int .u32 m.node, .int .i64 0, .int .i64 0, .slice s.ra m.reads.length s.rc, .slice s.wa m.writes.length s.wc, .slice none 0 0]) ∧ Below w.heap.size w w' := by
  go_enter Tryd.func31, Tryd.ntmps31
  go_wp2
  all_goals refine bodyPost_ret (by simp [results, Tryd.results31, go_sem]; try rfl) rfl ?_
  all_goals refine ⟨rfl, ?_⟩
  all_goals go_grown
set_option maxRecDepth 100000 in
set_option maxHeartbeats 4000000 in
theorem named_4 (m : Mes) (s : Sl) (w : World) :
    Calls Tryd.prog 31 #[.agg #[.int .i64 4, .int .u32 m.frm, .int .u32 m.dst, .int .u32 m.cl, .int .u32 m.seq, .int .u32 m.home, .int .u32 m.op, .int .u64 m.wall, .int .u32 m.log, .int .u32 m.node, .int .i64 m.status, .int .i64 m.outcome, .slice s.ra m.reads.length s.rc, .slice s.wa m.writes.length s.wc, .slice s.pa m.pairs.length s.pc]] w fun e w' => e = .returned (.agg #[.int .i64 4, .int .u32 m.frm, .int .u32 m.dst, .int .u32 m.cl, .int .u32 m.seq, .int .u32 m.home, .int .u32 0, .int .u64 m.wall, .int .u32 m.log, .int .u32 m.node, .int .i64 m.status, .int .i64 0, .slice none 0 0, .slice none 0 0, .slice none 0 0]) ∧ Below w.heap.size w w' := by
  go_enter Tryd.func31, Tryd.ntmps31
  go_wp2
  all_goals refine bodyPost_ret (by simp [results, Tryd.results31, go_sem]; try rfl) rfl ?_
  all_goals refine ⟨rfl, ?_⟩
  all_goals go_grown
set_option maxRecDepth 100000 in
set_option maxHeartbeats 4000000 in
theorem named_5 (m : Mes) (s : Sl) (w : World) :
    Calls Tryd.prog 31 #[.agg #[.int .i64 5, .int .u32 m.frm, .int .u32 m.dst, .int .u32 m.cl, .int .u32 m.seq, .int .u32 m.home, .int .u32 m.op, .int .u64 m.wall, .int .u32 m.log, .int .u32 m.node, .int .i64 m.status, .int .i64 m.outcome, .slice s.ra m.reads.length s.rc, .slice s.wa m.writes.length s.wc, .slice s.pa m.pairs.length s.pc]] w fun e w' => e = .returned (.agg #[.int .i64 5, .int .u32 m.frm, .int .u32 m.dst, .int .u32 m.cl, .int .u32 m.seq, .int .u32 m.home, .int .u32 0, .int .u64 m.wall, .int .u32 m.log, .int .u32 m.node, .int .i64 0, .int .i64 0, .slice none 0 0, .slice none 0 0, .slice none 0 0]) ∧ Below w.heap.size w w' := by
  go_enter Tryd.func31, Tryd.ntmps31
  go_wp2
  all_goals refine bodyPost_ret (by simp [results, Tryd.results31, go_sem]; try rfl) rfl ?_
  all_goals refine ⟨rfl, ?_⟩
  all_goals go_grown
end Go.Proofs.YtklhhpnibeejeaaDoor
