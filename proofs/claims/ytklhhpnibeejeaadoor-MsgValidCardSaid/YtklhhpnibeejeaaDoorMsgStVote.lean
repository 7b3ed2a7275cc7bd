/-
  store, of a vote. Printed by gen_msgs.py.
-/
import Derived.Test.YtklhhpnibeejeaaDoorMsgB
namespace Go.Proofs.YtklhhpnibeejeaaDoor
open Go.RowKit
set_option linter.unusedVariables false

set_option maxRecDepth 100000 in
set_option maxHeartbeats 4000000 in
theorem store_vote (p : Nat) (m : Mes) (s : Sl) (k : Int) (f t : Nat) (w : World) (hb : BlkAt 112 w p (voteC m s)) :
    Calls Tryd.prog 30 #[.iface 110 (.pointer (some ⟨p, 0, none⟩)), msgV (Mes.bare k f t) noSl] w fun e w' => e = .returned (msgV { Mes.bare k f t with cl := m.cl, seq := m.seq, home := m.home, status := m.status, wall := m.wall, log := m.log, node := m.node } noSl) ∧ Below w.heap.size w w' := by
  have c0 : w.cell? ⟨p, 0, none⟩ = some (.int .u32 m.cl) := hb.cell 0 _ rfl
  have c1 : w.cell? ⟨p, 1, none⟩ = some (.int .u32 m.seq) := hb.cell 1 _ rfl
  have c2 : w.cell? ⟨p, 2, none⟩ = some (.int .u32 m.home) := hb.cell 2 _ rfl
  have c3 : w.cell? ⟨p, 3, none⟩ = some (.int .i64 m.status) := hb.cell 3 _ rfl
  have c4 : w.cell? ⟨p, 4, none⟩ = some (.int .u64 m.wall) := hb.cell 4 _ rfl
  have c5 : w.cell? ⟨p, 5, none⟩ = some (.int .u32 m.log) := hb.cell 5 _ rfl
  have c6 : w.cell? ⟨p, 6, none⟩ = some (.int .u32 m.node) := hb.cell 6 _ rfl
  have hlt := hb.lt
  clear hb
  unfold msgV Mes.bare noSl
  dsimp only
  have ta0 := ta_vote_read
  have ta1 := ta_vote_data
  have ta2 := ta_vote_prepare
  have ta3 := ta_vote_vote
  go_enter Tryd.func30, Tryd.ntmps30
  go_wp2
  go_region
  go_wp2
  refine bodyPost_ret (by simp [results, Tryd.results30, go_sem]; try rfl) rfl ?_
  exact ⟨rfl, (((Below.refl _ _).alloc (Nat.le_refl _) _).alloc (by simp) _).drew⟩
end Go.Proofs.YtklhhpnibeejeaaDoor
