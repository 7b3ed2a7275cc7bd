/-
  THE REFERENCE: Named, by kind (0, 1, 2; 0: none of the nine). Printed by gen_msgrn.py.
-/
import Derived.Test.YtklhhpnibeejeaaDoorMsgV
namespace Go.Proofs.YtklhhpnibeejeaaDoor
open Go.RowKit
set_option linter.unusedVariables false

set_option maxRecDepth 100000 in
set_option maxHeartbeats 4000000 in
theorem named_0 (m : Mes) (s : Sl) (w : World) (hk : ¬ (1 ≤ m.kind ∧ m.kind ≤ 9)) :
    Calls Tryd.prog 31 #[.agg #[.int .i64 m.kind, .int .u32 m.frm, .int .u32 m.dst, .int .u32 m.cl, .int .u32 m.seq, .int .u32 m.home, .int .u32 m.op, .int .u64 m.wall, .int .u32 m.log, .int .u32 m.node, .int .i64 m.status, .int .i64 m.outcome, .slice s.ra m.reads.length s.rc, .slice s.wa m.writes.length s.wc, .slice s.pa m.pairs.length s.pc]] w fun e w' => e = .returned (.agg #[.int .i64 m.kind, .int .u32 m.frm, .int .u32 m.dst, .int .u32 0, .int .u32 0, .int .u32 0, .int .u32 0, .int .u64 0, .int .u32 0, .int .u32 0, .int .i64 0, .int .i64 0, .slice none 0 0, .slice none 0 0, .slice none 0 0]) ∧ Below w.heap.size w w' := by
  have k1 : m.kind ≠ 1 := by omega
  have l1 : ((m.kind : Int) == 1) = false := by rw [beq_eq_false_iff_ne]; exact k1
  have k2 : m.kind ≠ 2 := by omega
  have l2 : ((m.kind : Int) == 2) = false := by rw [beq_eq_false_iff_ne]; exact k2
  have k3 : m.kind ≠ 3 := by omega
  have l3 : ((m.kind : Int) == 3) = false := by rw [beq_eq_false_iff_ne]; exact k3
  have k4 : m.kind ≠ 4 := by omega
  have l4 : ((m.kind : Int) == 4) = false := by rw [beq_eq_false_iff_ne]; exact k4
  have k5 : m.kind ≠ 5 := by omega
  have l5 : ((m.kind : Int) == 5) = false := by rw [beq_eq_false_iff_ne]; exact k5
  have k6 : m.kind ≠ 6 := by omega
  have l6 : ((m.kind : Int) == 6) = false := by rw [beq_eq_false_iff_ne]; exact k6
  have k7 : m.kind ≠ 7 := by omega
  have l7 : ((m.kind : Int) == 7) = false := by rw [beq_eq_false_iff_ne]; exact k7
  have k8 : m.kind ≠ 8 := by omega
  have l8 : ((m.kind : Int) == 8) = false := by rw [beq_eq_false_iff_ne]; exact k8
  have k9 : m.kind ≠ 9 := by omega
  have l9 : ((m.kind : Int) == 9) = false := by rw [beq_eq_false_iff_ne]; exact k9
  clear hk
  go_enter Tryd.func31, Tryd.ntmps31
  go_wp2
  all_goals refine bodyPost_ret (by simp [results, Tryd.results31, go_sem]; try rfl) rfl ?_
  all_goals refine ⟨rfl, ?_⟩
  all_goals go_grown
set_option maxRecDepth 100000 in
set_option maxHeartbeats 4000000 in
theorem named_1 (m : Mes) (s : Sl) (w : World) :
    Calls Tryd.prog 31 #[.agg #[.int .i64 1, .int .u32 m.frm, .int .u32 m.dst, .int .u32 m.cl, .int .u32 m.seq, .int .u32 m.home, .int .u32 m.op, .int .u64 m.wall, .int .u32 m.log, .int .u32 m.node, .int .i64 m.status, .int .i64 m.outcome, .slice s.ra m.reads.length s.rc, .slice s.wa m.writes.length s.wc, .slice s.pa m.pairs.length s.pc]] w fun e w' => e = .returned (.agg #[.int .i64 1, .int .u32 m.frm, .int .u32 m.dst, .int .u32 0, .int .u32 0, .int .u32 0, .int .u32 m.op, .int .u64 m.wall, .int .u32 m.log, .int .u32 m.node, .int .i64 0, .int .i64 0, .slice s.ra m.reads.length s.rc, .slice none 0 0, .slice none 0 0]) ∧ Below w.heap.size w w' := by
  go_enter Tryd.func31, Tryd.ntmps31
  go_wp2
  all_goals refine bodyPost_ret (by simp [results, Tryd.results31, go_sem]; try rfl) rfl ?_
  all_goals refine ⟨rfl, ?_⟩
  all_goals go_grown
set_option maxRecDepth 100000 in
set_option maxHeartbeats 4000000 in
theorem named_2 (m : Mes) (s : Sl) (w : World) :
    Calls Tryd.prog 31 #[.agg #[.int .i64 2, .int .u32 m.frm, .int .u32 m.dst, .int .u32 m.cl, .int .u32 m.seq, .int .u32 m.home, .int .u32 m.op, .int .u64 m.wall, .int .u32 m.log, .int .u32 m.node, .int .i64 m.status, .int .i64 m.outcome, .slice s.ra m.reads.length s.rc, .slice s.wa m.writes.length s.wc, .slice s.pa m.pairs.length s.pc]] w fun e w' => e = .returned (.agg #[.int .i64 2, .int .u32 m.frm, .int .u32 m.dst, .int .u32 0, .int .u32 0, .int .u32 0, .int .u32 m.op, .int .u64 m.wall, .int .u32 m.log, .int .u32 m.node, .int .i64 m.status, .int .i64 0, .slice none 0 0, .slice none 0 0, .slice s.pa m.pairs.length s.pc]) ∧ Below w.heap.size w w' := by
  go_enter Tryd.func31, Tryd.ntmps31
  go_wp2
  all_goals refine bodyPost_ret (by simp [results, Tryd.results31, go_sem]; try rfl) rfl ?_
  all_goals refine ⟨rfl, ?_⟩
  all_goals go_grown
end Go.Proofs.YtklhhpnibeejeaaDoor
