/-
  MsgValid: what Valid says of any message: the walk of the law.
-/
import Derived.Test.YtklhhpnibeejeaaDoorMsgRefV
namespace Go.Proofs.YtklhhpnibeejeaaDoor
open Go.RowKit
set_option linter.unusedVariables false

set_option maxRecDepth 100000 in
set_option maxHeartbeats 4000000 in
theorem MsgValid_walk (m : Mes) (s : Sl) (w : World) (hm : MsgIn w m s) (hT : STab w) :
    Calls Tryd.prog 4 #[msgV m s] w fun e w' => e = .returned (.bool true) ∧ Below w.heap.size w w' := by
  have HV := Lib.hid (fun w1 (h : Below w.heap.size w w1) => Valid_any m s w1 (hm.below h (Nat.le_refl _)))
  have HR := Lib.hid (fun w1 (h : Below w.heap.size w w1) => RValid_any m s w1 (hm.below h (Nat.le_refl _)) (hT.below h))
  clear hm hT
  obtain ⟨z, hz⟩ : ∃ z : Int, z = (if m.valid = true then 0 else 50) := ⟨_, rfl⟩
  rw [← hz] at HV HR
  clear hz
  have HE : msgV m s = .agg #[.int .i64 m.kind, .int .u32 m.frm, .int .u32 m.dst, .int .u32 m.cl, .int .u32 m.seq, .int .u32 m.home, .int .u32 m.op, .int .u64 m.wall, .int .u32 m.log, .int .u32 m.node, .int .i64 m.status, .int .i64 m.outcome, .slice s.ra m.reads.length s.rc, .slice s.wa m.writes.length s.wc, .slice s.pa m.pairs.length s.pc] := rfl
  rw [HE] at HV HR
  rw [HE]
  clear HE
  go_enter Tryd.func4, Tryd.ntmps4
  go_wp2_with fail
  obtain ⟨q, hq⟩ : ∃ q, q = w.heap.size := ⟨_, rfl⟩
  obtain ⟨W, hW⟩ : ∃ W, W = w.alloc (.cells #[.int .i64 m.kind, .int .u32 m.frm, .int .u32 m.dst, .int .u32 m.cl, .int .u32 m.seq, .int .u32 m.home, .int .u32 m.op, .int .u64 m.wall, .int .u32 m.log, .int .u32 m.node, .int .i64 m.status, .int .i64 m.outcome, .slice s.ra m.reads.length s.rc, .slice s.wa m.writes.length s.wc, .slice s.pa m.pairs.length s.pc] 37) := ⟨_, rfl⟩
  have HMB : Hid (BlkAt 37 W q #[.int .i64 m.kind, .int .u32 m.frm, .int .u32 m.dst, .int .u32 m.cl, .int .u32 m.seq, .int .u32 m.home, .int .u32 m.op, .int .u64 m.wall, .int .u32 m.log, .int .u32 m.node, .int .i64 m.status, .int .i64 m.outcome, .slice s.ra m.reads.length s.rc, .slice s.wa m.writes.length s.wc, .slice s.pa m.pairs.length s.pc]) := by rw [hW, hq]; exact BlkAt.new _ _ _
  have HBW : Hid (Below w.heap.size w W) := by rw [hW]; exact (Below.refl _ _).alloc (Nat.le_refl _) _
  rw [← hW, ← hq]
  clear hW hq
  have HD : Hid (∀ w1, Below W.heap.size W w1 → w1.cell? ⟨q, 0, none⟩ = some (.int .i64 m.kind) ∧ w1.cell? ⟨q, 1, none⟩ = some (.int .u32 m.frm) ∧ w1.cell? ⟨q, 2, none⟩ = some (.int .u32 m.dst) ∧ w1.cell? ⟨q, 3, none⟩ = some (.int .u32 m.cl) ∧ w1.cell? ⟨q, 4, none⟩ = some (.int .u32 m.seq) ∧ w1.cell? ⟨q, 5, none⟩ = some (.int .u32 m.home) ∧ w1.cell? ⟨q, 6, none⟩ = some (.int .u32 m.op) ∧ w1.cell? ⟨q, 7, none⟩ = some (.int .u64 m.wall) ∧ w1.cell? ⟨q, 8, none⟩ = some (.int .u32 m.log) ∧ w1.cell? ⟨q, 9, none⟩ = some (.int .u32 m.node) ∧ w1.cell? ⟨q, 10, none⟩ = some (.int .i64 m.status) ∧ w1.cell? ⟨q, 11, none⟩ = some (.int .i64 m.outcome) ∧ w1.cell? ⟨q, 12, none⟩ = some (.slice s.ra m.reads.length s.rc) ∧ w1.cell? ⟨q, 13, none⟩ = some (.slice s.wa m.writes.length s.wc) ∧ w1.cell? ⟨q, 14, none⟩ = some (.slice s.pa m.pairs.length s.pc)) := fun w1 h1 => ⟨(HMB.out.below h1).cell 0 _ rfl, (HMB.out.below h1).cell 1 _ rfl, (HMB.out.below h1).cell 2 _ rfl, (HMB.out.below h1).cell 3 _ rfl, (HMB.out.below h1).cell 4 _ rfl, (HMB.out.below h1).cell 5 _ rfl, (HMB.out.below h1).cell 6 _ rfl, (HMB.out.below h1).cell 7 _ rfl, (HMB.out.below h1).cell 8 _ rfl, (HMB.out.below h1).cell 9 _ rfl, (HMB.out.below h1).cell 10 _ rfl, (HMB.out.below h1).cell 11 _ rfl, (HMB.out.below h1).cell 12 _ rfl, (HMB.out.below h1).cell 13 _ rfl, (HMB.out.below h1).cell 14 _ rfl⟩
  refine wp_region_quiet (C := fun w' => Below W.heap.size W w') mixedK_1 (by kernel_rfl) (Below.refl _ _).drew ?_
  simp only []
  repeat (first | go_big_quiet_skip | (go_big_quiet_want; go_big_quiet_op; first | go_big_quiet_on | (apply Exists.intro; refine ⟨?_, ?_⟩; (intro w1 h1; first | (go_at_call 14; refine (HV.out w1 (HBW.out.trans (h1.mono HBW.out.size))).mono ?_; rintro e w3 ⟨rfl, hb⟩; exact ⟨rfl, h1.trans (hb.mono h1.size)⟩) | (go_at_call 15; refine (HR.out w1 (HBW.out.trans (h1.mono HBW.out.size))).mono ?_; rintro e w3 ⟨rfl, hb⟩; exact ⟨rfl, h1.trans (hb.mono h1.size)⟩) | (with_reducible rfl) | (obtain ⟨d0, d1, d2, d3, d4, d5, d6, d7, d8, d9, d10, d11, d12, d13, d14⟩ := HD.out w1 h1; simp only [d0, d1, d2, d3, d4, d5, d6, d7, d8, d9, d10, d11, d12, d13, d14, Result.andThen_ok]; first | exact ⟨rfl, rfl⟩ | exact ⟨trivial, rfl⟩)); go_big_quiet_on)))
  refine wpQuiet_nil ?_
  intro w2 hz
  have HZ : Hid (Below w.heap.size w w2) := HBW.out.trans (hz.mono HBW.out.size)
  clear hz
  go_wp2
  go_ret
  exact ⟨rfl, HZ.out⟩
end Go.Proofs.YtklhhpnibeejeaaDoor
