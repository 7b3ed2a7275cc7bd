/-
  load of a prepare. Printed by gen_msgb.py.
-/
import Derived.Test.YtklhhpnibeejeaaDoorMsgB
namespace Go.Proofs.YtklhhpnibeejeaaDoor
open Go.RowKit
set_option linter.unusedVariables false

set_option maxRecDepth 100000 in
set_option maxHeartbeats 4000000 in
theorem load_prepare (p : Nat) (m : Mes) (s : Sl) (m0 : Mes) (s0 : Sl) (w : World) (hb : BlkAt 109 w p (prepareC m0 s0)) :
    Calls Tryd.prog 39 #[.iface 105 (.pointer (some ⟨p, 0, none⟩)), msgV m s] w fun e w' => e = .returned (.tuple #[]) ∧ BlkAt 109 w' p (prepareC m s) ∧ Keeps (one p) w w' := by
  have c0 := hb.cell 0 _ rfl
  have c1 := hb.cell 1 _ rfl
  have c2 := hb.cell 2 _ rfl
  have c3 := hb.cell 3 _ rfl
  have c4 := hb.cell 4 _ rfl
  have c5 := hb.cell 5 _ rfl
  have c6 := hb.cell 6 _ rfl
  have c7 := hb.cell 7 _ rfl
  have f0 := hb.frozen 0
  have f1 := hb.frozen 1
  have f2 := hb.frozen 2
  have f3 := hb.frozen 3
  have f4 := hb.frozen 4
  have f5 := hb.frozen 5
  have f6 := hb.frozen 6
  have f7 := hb.frozen 7
  have HB := Lib.hid hb
  have hlt := hb.lt
  clear hb
  unfold msgV
  have ta0 := ta_prepare_read
  have ta1 := ta_prepare_data
  have ta2 := ta_prepare_prepare
  go_enter Tryd.func39, Tryd.ntmps39
  go_wp2
  go_region
  go_wp2
  (try simp only [Exit.inBlock, Exit.then])
  first | refine bodyPost_end (results_none rfl _ _ _) rfl ?_ | refine bodyPost_ret (results_none rfl _ _ _) rfl ?_
  exact ⟨rfl, BlkAt.drew ((((((((((HB.out.set 0 _).set 1 _).set 2 _).set 3 _).set 4 _).set 5 _).set 6 _).set 7 _).alloc _).alloc _), (((((((((((Keeps.refl (one p) w).set_one _).set_one _).set_one _).set_one _).set_one _).set_one _).set_one _).set_one _).alloc _).alloc _).drew⟩
end Go.Proofs.YtklhhpnibeejeaaDoor
