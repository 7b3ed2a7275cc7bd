/-
  THE BODIES of a message: made and load. Printed by gen_msgb.py.
-/
import Derived.Test.YtklhhpnibeejeaaDoorMsgV
namespace Go.Proofs.YtklhhpnibeejeaaDoor
open Go.RowKit
set_option linter.unusedVariables false

/-- A whole block. -/
def BlkAt (T : TypeId) (w : World) (p : Nat) (cs : Array Value) : Prop := w.heap[p]? = some (.cells cs T (0, 0))
theorem BlkAt.lt {T : TypeId} {w : World} {p : Nat} {cs : Array Value} (h : BlkAt T w p cs) : p < w.heap.size := (Array.getElem?_eq_some_iff.1 h).1
theorem BlkAt.cell {T : TypeId} {w : World} {p : Nat} {cs : Array Value} (h : BlkAt T w p cs) (i : Nat) (v : Value) (hi : cs[i]? = some v) : w.cell? ⟨p, i, none⟩ = some v := by
  unfold BlkAt at h; simp [World.cell?, h, hi]
theorem BlkAt.frozen {T : TypeId} {w : World} {p : Nat} {cs : Array Value} (h : BlkAt T w p cs) (i : Nat) : w.frozen? ⟨p, i, none⟩ = false := by
  unfold BlkAt at h; simp [World.frozen?, h]
theorem BlkAt.set {T : TypeId} {w : World} {p : Nat} {cs : Array Value} (h : BlkAt T w p cs) (i : Nat) (v : Value) : BlkAt T (w.setCell ⟨p, i, none⟩ v) p (cs.setIfInBounds i v) := setCell_at w p i v cs T _ h
theorem BlkAt.keeps {T : TypeId} {S : Nat → Prop} {w w' : World} {p : Nat} {cs : Array Value} (h : BlkAt T w p cs) (hk : Keeps S w w') (hs : ¬ S p) : BlkAt T w' p cs := by
  unfold BlkAt; rw [hk.block p h.lt hs]; exact h
theorem BlkAt.below {T : TypeId} {w w' : World} {p : Nat} {cs : Array Value} (h : BlkAt T w p cs) (hk : Below w.heap.size w w') : BlkAt T w' p cs := h.keeps (S := fun _ => False) (Keeps.of_below hk) (fun e => e)
theorem BlkAt.alloc {T : TypeId} {w : World} {p : Nat} {cs : Array Value} (h : BlkAt T w p cs) (o : Obj) : BlkAt T (w.alloc o) p cs := h.keeps (S := fun _ => False) ((Keeps.refl _ _).alloc o) (fun e => e)
theorem BlkAt.new (T : TypeId) (w : World) (cs : Array Value) : BlkAt T (w.alloc (.cells cs T)) w.heap.size cs := heap_alloc_new w _
theorem BlkAt.drew {T : TypeId} {w : World} {p : Nat} {cs : Array Value} (h : BlkAt T w p cs) : BlkAt T w.drew p cs := h
theorem BlkAt.drewN {T : TypeId} {w : World} {p : Nat} {cs : Array Value} (h : BlkAt T w p cs) (k : Nat) : BlkAt T (w.drewN k) p cs := h
def noSl : Sl := ⟨none, none, none, 0, 0, 0⟩
def readC (m : Mes) (s : Sl) : Array Value := #[.int .u32 m.op, .int .u64 m.wall, .int .u32 m.log, .int .u32 m.node, .slice s.ra m.reads.length s.rc]
def dataC (m : Mes) (s : Sl) : Array Value := #[.int .u32 m.op, .int .u64 m.wall, .int .u32 m.log, .int .u32 m.node, .int .i64 m.status, .slice s.pa m.pairs.length s.pc]
def prepareC (m : Mes) (s : Sl) : Array Value := #[.int .u32 m.cl, .int .u32 m.seq, .int .u32 m.home, .int .u64 m.wall, .int .u32 m.log, .int .u32 m.node, .slice s.ra m.reads.length s.rc, .slice s.wa m.writes.length s.wc]
def voteC (m : Mes) (s : Sl) : Array Value := #[.int .u32 m.cl, .int .u32 m.seq, .int .u32 m.home, .int .i64 m.status, .int .u64 m.wall, .int .u32 m.log, .int .u32 m.node]
def commitC (m : Mes) (s : Sl) : Array Value := #[.int .u32 m.cl, .int .u32 m.seq, .int .u32 m.home, .int .u64 m.wall, .int .u32 m.log, .int .u32 m.node]
def outcomeC (m : Mes) (s : Sl) : Array Value := #[.int .u32 m.cl, .int .u32 m.seq, .int .u32 m.home, .int .i64 m.outcome, .int .u64 m.wall, .int .u32 m.log, .int .u32 m.node]
def queryC (m : Mes) (s : Sl) : Array Value := #[.int .u32 m.cl, .int .u32 m.seq, .int .u32 m.home]
theorem ta_read_read (q : Option Addr) (w : World) : (Instr.typeAssert (.iface 99 (.pointer q)) 56 99 true).run Tryd.prog w = .ok (.tuple #[.pointer q, .bool true]) w := by kernel_rfl
theorem ta_data_read (q : Option Addr) (w : World) : (Instr.typeAssert (.iface 102 (.pointer q)) 56 99 true).run Tryd.prog w = .ok (.tuple #[.pointer none, .bool false]) w := by kernel_rfl
theorem ta_data_data (q : Option Addr) (w : World) : (Instr.typeAssert (.iface 102 (.pointer q)) 56 102 true).run Tryd.prog w = .ok (.tuple #[.pointer q, .bool true]) w := by kernel_rfl
theorem ta_prepare_read (q : Option Addr) (w : World) : (Instr.typeAssert (.iface 105 (.pointer q)) 56 99 true).run Tryd.prog w = .ok (.tuple #[.pointer none, .bool false]) w := by kernel_rfl
theorem ta_prepare_data (q : Option Addr) (w : World) : (Instr.typeAssert (.iface 105 (.pointer q)) 56 102 true).run Tryd.prog w = .ok (.tuple #[.pointer none, .bool false]) w := by kernel_rfl
theorem ta_prepare_prepare (q : Option Addr) (w : World) : (Instr.typeAssert (.iface 105 (.pointer q)) 56 105 true).run Tryd.prog w = .ok (.tuple #[.pointer q, .bool true]) w := by kernel_rfl
theorem ta_vote_read (q : Option Addr) (w : World) : (Instr.typeAssert (.iface 110 (.pointer q)) 56 99 true).run Tryd.prog w = .ok (.tuple #[.pointer none, .bool false]) w := by kernel_rfl
theorem ta_vote_data (q : Option Addr) (w : World) : (Instr.typeAssert (.iface 110 (.pointer q)) 56 102 true).run Tryd.prog w = .ok (.tuple #[.pointer none, .bool false]) w := by kernel_rfl
theorem ta_vote_prepare (q : Option Addr) (w : World) : (Instr.typeAssert (.iface 110 (.pointer q)) 56 105 true).run Tryd.prog w = .ok (.tuple #[.pointer none, .bool false]) w := by kernel_rfl
theorem ta_vote_vote (q : Option Addr) (w : World) : (Instr.typeAssert (.iface 110 (.pointer q)) 56 110 true).run Tryd.prog w = .ok (.tuple #[.pointer q, .bool true]) w := by kernel_rfl
theorem ta_commit_read (q : Option Addr) (w : World) : (Instr.typeAssert (.iface 113 (.pointer q)) 56 99 true).run Tryd.prog w = .ok (.tuple #[.pointer none, .bool false]) w := by kernel_rfl
theorem ta_commit_data (q : Option Addr) (w : World) : (Instr.typeAssert (.iface 113 (.pointer q)) 56 102 true).run Tryd.prog w = .ok (.tuple #[.pointer none, .bool false]) w := by kernel_rfl
theorem ta_commit_prepare (q : Option Addr) (w : World) : (Instr.typeAssert (.iface 113 (.pointer q)) 56 105 true).run Tryd.prog w = .ok (.tuple #[.pointer none, .bool false]) w := by kernel_rfl
theorem ta_commit_vote (q : Option Addr) (w : World) : (Instr.typeAssert (.iface 113 (.pointer q)) 56 110 true).run Tryd.prog w = .ok (.tuple #[.pointer none, .bool false]) w := by kernel_rfl
theorem ta_commit_commit (q : Option Addr) (w : World) : (Instr.typeAssert (.iface 113 (.pointer q)) 56 113 true).run Tryd.prog w = .ok (.tuple #[.pointer q, .bool true]) w := by kernel_rfl
theorem ta_outcome_read (q : Option Addr) (w : World) : (Instr.typeAssert (.iface 116 (.pointer q)) 56 99 true).run Tryd.prog w = .ok (.tuple #[.pointer none, .bool false]) w := by kernel_rfl
theorem ta_outcome_data (q : Option Addr) (w : World) : (Instr.typeAssert (.iface 116 (.pointer q)) 56 102 true).run Tryd.prog w = .ok (.tuple #[.pointer none, .bool false]) w := by kernel_rfl
theorem ta_outcome_prepare (q : Option Addr) (w : World) : (Instr.typeAssert (.iface 116 (.pointer q)) 56 105 true).run Tryd.prog w = .ok (.tuple #[.pointer none, .bool false]) w := by kernel_rfl
theorem ta_outcome_vote (q : Option Addr) (w : World) : (Instr.typeAssert (.iface 116 (.pointer q)) 56 110 true).run Tryd.prog w = .ok (.tuple #[.pointer none, .bool false]) w := by kernel_rfl
theorem ta_outcome_commit (q : Option Addr) (w : World) : (Instr.typeAssert (.iface 116 (.pointer q)) 56 113 true).run Tryd.prog w = .ok (.tuple #[.pointer none, .bool false]) w := by kernel_rfl
theorem ta_outcome_outcome (q : Option Addr) (w : World) : (Instr.typeAssert (.iface 116 (.pointer q)) 56 116 true).run Tryd.prog w = .ok (.tuple #[.pointer q, .bool true]) w := by kernel_rfl
theorem ta_query_read (q : Option Addr) (w : World) : (Instr.typeAssert (.iface 119 (.pointer q)) 56 99 true).run Tryd.prog w = .ok (.tuple #[.pointer none, .bool false]) w := by kernel_rfl
theorem ta_query_data (q : Option Addr) (w : World) : (Instr.typeAssert (.iface 119 (.pointer q)) 56 102 true).run Tryd.prog w = .ok (.tuple #[.pointer none, .bool false]) w := by kernel_rfl
theorem ta_query_prepare (q : Option Addr) (w : World) : (Instr.typeAssert (.iface 119 (.pointer q)) 56 105 true).run Tryd.prog w = .ok (.tuple #[.pointer none, .bool false]) w := by kernel_rfl
theorem ta_query_vote (q : Option Addr) (w : World) : (Instr.typeAssert (.iface 119 (.pointer q)) 56 110 true).run Tryd.prog w = .ok (.tuple #[.pointer none, .bool false]) w := by kernel_rfl
theorem ta_query_commit (q : Option Addr) (w : World) : (Instr.typeAssert (.iface 119 (.pointer q)) 56 113 true).run Tryd.prog w = .ok (.tuple #[.pointer none, .bool false]) w := by kernel_rfl
theorem ta_query_outcome (q : Option Addr) (w : World) : (Instr.typeAssert (.iface 119 (.pointer q)) 56 116 true).run Tryd.prog w = .ok (.tuple #[.pointer none, .bool false]) w := by kernel_rfl
theorem ta_query_query (q : Option Addr) (w : World) : (Instr.typeAssert (.iface 119 (.pointer q)) 56 119 true).run Tryd.prog w = .ok (.tuple #[.pointer q, .bool true]) w := by kernel_rfl
set_option maxRecDepth 100000 in
theorem made_1 (w : World) : Calls Tryd.prog 28 #[.int .i64 1] w fun e w' => e = .returned (.iface 99 (.pointer (some ⟨w.heap.size, 0, none⟩))) ∧ w' = w.alloc (.cells (readC (Mes.bare 0 0 0) noSl) 101) := by
  go_enter Tryd.func28, Tryd.ntmps28
  go_wp2
  go_ret
  exact ⟨rfl, rfl⟩
set_option maxRecDepth 100000 in
theorem made_2 (w : World) : Calls Tryd.prog 28 #[.int .i64 2] w fun e w' => e = .returned (.iface 102 (.pointer (some ⟨w.heap.size, 0, none⟩))) ∧ w' = w.alloc (.cells (dataC (Mes.bare 0 0 0) noSl) 104) := by
  go_enter Tryd.func28, Tryd.ntmps28
  go_wp2
  go_ret
  exact ⟨rfl, rfl⟩
set_option maxRecDepth 100000 in
theorem made_3 (w : World) : Calls Tryd.prog 28 #[.int .i64 3] w fun e w' => e = .returned (.iface 105 (.pointer (some ⟨w.heap.size, 0, none⟩))) ∧ w' = w.alloc (.cells (prepareC (Mes.bare 0 0 0) noSl) 109) := by
  go_enter Tryd.func28, Tryd.ntmps28
  go_wp2
  go_ret
  exact ⟨rfl, rfl⟩
set_option maxRecDepth 100000 in
theorem made_4 (w : World) : Calls Tryd.prog 28 #[.int .i64 4] w fun e w' => e = .returned (.iface 110 (.pointer (some ⟨w.heap.size, 0, none⟩))) ∧ w' = w.alloc (.cells (voteC (Mes.bare 0 0 0) noSl) 112) := by
  go_enter Tryd.func28, Tryd.ntmps28
  go_wp2
  go_ret
  exact ⟨rfl, rfl⟩
set_option maxRecDepth 100000 in
theorem made_5 (w : World) : Calls Tryd.prog 28 #[.int .i64 5] w fun e w' => e = .returned (.iface 113 (.pointer (some ⟨w.heap.size, 0, none⟩))) ∧ w' = w.alloc (.cells (commitC (Mes.bare 0 0 0) noSl) 115) := by
  go_enter Tryd.func28, Tryd.ntmps28
  go_wp2
  go_ret
  exact ⟨rfl, rfl⟩
set_option maxRecDepth 100000 in
theorem made_6 (w : World) : Calls Tryd.prog 28 #[.int .i64 6] w fun e w' => e = .returned (.iface 116 (.pointer (some ⟨w.heap.size, 0, none⟩))) ∧ w' = w.alloc (.cells (outcomeC (Mes.bare 0 0 0) noSl) 118) := by
  go_enter Tryd.func28, Tryd.ntmps28
  go_wp2
  go_ret
  exact ⟨rfl, rfl⟩
set_option maxRecDepth 100000 in
theorem made_7 (w : World) : Calls Tryd.prog 28 #[.int .i64 7] w fun e w' => e = .returned (.iface 116 (.pointer (some ⟨w.heap.size, 0, none⟩))) ∧ w' = w.alloc (.cells (outcomeC (Mes.bare 0 0 0) noSl) 118) := by
  go_enter Tryd.func28, Tryd.ntmps28
  go_wp2
  go_ret
  exact ⟨rfl, rfl⟩
set_option maxRecDepth 100000 in
theorem made_9 (w : World) : Calls Tryd.prog 28 #[.int .i64 9] w fun e w' => e = .returned (.iface 116 (.pointer (some ⟨w.heap.size, 0, none⟩))) ∧ w' = w.alloc (.cells (outcomeC (Mes.bare 0 0 0) noSl) 118) := by
  go_enter Tryd.func28, Tryd.ntmps28
  go_wp2
  go_ret
  exact ⟨rfl, rfl⟩
set_option maxRecDepth 100000 in
theorem made_8 (w : World) : Calls Tryd.prog 28 #[.int .i64 8] w fun e w' => e = .returned (.iface 119 (.pointer (some ⟨w.heap.size, 0, none⟩))) ∧ w' = w.alloc (.cells (queryC (Mes.bare 0 0 0) noSl) 121) := by
  go_enter Tryd.func28, Tryd.ntmps28
  go_wp2
  go_ret
  exact ⟨rfl, rfl⟩
set_option maxRecDepth 100000 in
theorem made_other (k : Int) (hk : ¬ (1 ≤ k ∧ k ≤ 9)) (w : World) : Calls Tryd.prog 28 #[.int .i64 k] w fun e w' => e = .returned .nilIface ∧ w' = w := by
  have k1 : k ≠ 1 := by omega
  have k2 : k ≠ 2 := by omega
  have k3 : k ≠ 3 := by omega
  have k4 : k ≠ 4 := by omega
  have k5 : k ≠ 5 := by omega
  have k6 : k ≠ 6 := by omega
  have k7 : k ≠ 7 := by omega
  have k8 : k ≠ 8 := by omega
  have k9 : k ≠ 9 := by omega
  go_enter Tryd.func28, Tryd.ntmps28
  go_wp2
  go_ret
  exact ⟨rfl, rfl⟩
end Go.Proofs.YtklhhpnibeejeaaDoor
