/-
  THE REFERENCE: Valid. Printed by gen_msgvalid.py.
-/
import Derived.Test.YtklhhpnibeejeaaDoorMsgVal
import Derived.Test.YtklhhpnibeejeaaDoorMsgRefR
import Derived.Test.YtklhhpnibeejeaaDoorMsgRefS
import Derived.Test.YtklhhpnibeejeaaDoorMsgRefW
import Derived.Test.YtklhhpnibeejeaaDoorMsgRefP
import Derived.Test.YtklhhpnibeejeaaDoorMsgRnA
import Derived.Test.YtklhhpnibeejeaaDoorMsgRnB
import Derived.Test.YtklhhpnibeejeaaDoorMsgRnC
import Derived.Test.YtklhhpnibeejeaaDoorMsgRnD
namespace Go.Proofs.YtklhhpnibeejeaaDoor
open Go.RowKit
set_option linter.unusedVariables false

def slN (k : Int) (s : Sl) : Sl := if k = 1 then sl_1 s else if k = 2 then sl_2 s else if k = 3 then sl_3 s else noSl
theorem nmv_1 (m : Mes) (h : m.kind = 1) : m.named = nm_1 m := by simp [Mes.named, h, Mes.bare, nm_1]
theorem slv_1 (s : Sl) : slN 1 s = sl_1 s := by simp [slN, sl_1]
theorem nmv_2 (m : Mes) (h : m.kind = 2) : m.named = nm_2 m := by simp [Mes.named, h, Mes.bare, nm_2]
theorem slv_2 (s : Sl) : slN 2 s = sl_2 s := by simp [slN, sl_2]
theorem nmv_3 (m : Mes) (h : m.kind = 3) : m.named = nm_3 m := by simp [Mes.named, h, Mes.bare, nm_3]
theorem slv_3 (s : Sl) : slN 3 s = sl_3 s := by simp [slN, sl_3]
theorem nmv_4 (m : Mes) (h : m.kind = 4) : m.named = nm_4 m := by simp [Mes.named, h, Mes.bare, nm_4]
theorem slv_4 (s : Sl) : slN 4 s = sl_4 s := by simp [slN, sl_4, noSl]
theorem nmv_5 (m : Mes) (h : m.kind = 5) : m.named = nm_5 m := by simp [Mes.named, h, Mes.bare, nm_5]
theorem slv_5 (s : Sl) : slN 5 s = sl_5 s := by simp [slN, sl_5, noSl]
theorem nmv_6 (m : Mes) (h : m.kind = 6) : m.named = nm_6 m := by simp [Mes.named, h, Mes.bare, nm_6]
theorem slv_6 (s : Sl) : slN 6 s = sl_6 s := by simp [slN, sl_6, noSl]
theorem nmv_7 (m : Mes) (h : m.kind = 7) : m.named = nm_7 m := by simp [Mes.named, h, Mes.bare, nm_7]
theorem slv_7 (s : Sl) : slN 7 s = sl_7 s := by simp [slN, sl_7, noSl]
theorem nmv_8 (m : Mes) (h : m.kind = 8) : m.named = nm_8 m := by simp [Mes.named, h, Mes.bare, nm_8]
theorem slv_8 (s : Sl) : slN 8 s = sl_8 s := by simp [slN, sl_8, noSl]
theorem nmv_9 (m : Mes) (h : m.kind = 9) : m.named = nm_9 m := by simp [Mes.named, h, Mes.bare, nm_9]
theorem slv_9 (s : Sl) : slN 9 s = sl_9 s := by simp [slN, sl_9, noSl]
theorem part_any (m : Mes) (s : Sl) (w : World) (hm : MsgIn w m s) : MsgIn w m.named (slN m.kind s) := by
  by_cases hk : 1 ≤ m.kind ∧ m.kind ≤ 9
  · rcases kinds m.kind hk.1 hk.2 with h | h | h | h | h | h | h | h | h
    · rw [nmv_1 m h, h, slv_1]; exact part_1 w m s hm
    · rw [nmv_2 m h, h, slv_2]; exact part_2 w m s hm
    · rw [nmv_3 m h, h, slv_3]; exact part_3 w m s hm
    · rw [nmv_4 m h, h, slv_4]; exact part_4 w m s hm
    · rw [nmv_5 m h, h, slv_5]; exact part_5 w m s hm
    · rw [nmv_6 m h, h, slv_6]; exact part_6 w m s hm
    · rw [nmv_7 m h, h, slv_7]; exact part_7 w m s hm
    · rw [nmv_8 m h, h, slv_8]; exact part_8 w m s hm
    · rw [nmv_9 m h, h, slv_9]; exact part_9 w m s hm
  · have h : ∀ j : Int, 1 ≤ j → j ≤ 9 → m.kind ≠ j := fun j h1 h2 e => hk (by omega)
    have e : m.named = Mes.bare m.kind m.frm m.dst := by simp [Mes.named, h 1, h 2, h 3, h 4, h 5, h 6, h 7, h 8, h 9]
    rw [e]
    exact ⟨TwosAt.none _, WrsAt.none _, TwosAt.none _, Nat.zero_le _, Nat.zero_le _, Nat.zero_le _, (fun x hx => by simp [Mes.bare] at hx), (fun x hx => by simp [Mes.bare] at hx), (fun x hx => by simp [Mes.bare] at hx)⟩
theorem named_any (m : Mes) (s : Sl) (w : World) :
    Calls Tryd.prog 31 #[msgV m s] w fun e w' => e = .returned (msgV m.named (slN m.kind s)) ∧ Below w.heap.size w w' := by
  by_cases hk : 1 ≤ m.kind ∧ m.kind ≤ 9
  · rcases kinds m.kind hk.1 hk.2 with h | h | h | h | h | h | h | h | h
    · rw [nmv_1 m h, h, slv_1]; unfold msgV; rw [h]; exact named_1 m s w
    · rw [nmv_2 m h, h, slv_2]; unfold msgV; rw [h]; exact named_2 m s w
    · rw [nmv_3 m h, h, slv_3]; unfold msgV; rw [h]; exact named_3 m s w
    · rw [nmv_4 m h, h, slv_4]; unfold msgV; rw [h]; exact named_4 m s w
    · rw [nmv_5 m h, h, slv_5]; unfold msgV; rw [h]; exact named_5 m s w
    · rw [nmv_6 m h, h, slv_6]; unfold msgV; rw [h]; exact named_6 m s w
    · rw [nmv_7 m h, h, slv_7]; unfold msgV; rw [h]; exact named_7 m s w
    · rw [nmv_8 m h, h, slv_8]; unfold msgV; rw [h]; exact named_8 m s w
    · rw [nmv_9 m h, h, slv_9]; unfold msgV; rw [h]; exact named_9 m s w
  · have h : ∀ j : Int, 1 ≤ j → j ≤ 9 → m.kind ≠ j := fun j h1 h2 e => hk (by omega)
    have e : m.named = Mes.bare m.kind m.frm m.dst := by simp [Mes.named, h 1, h 2, h 3, h 4, h 5, h 6, h 7, h 8, h 9]
    have e2 : slN m.kind s = noSl := by simp [slN, h 1, h 2, h 3]
    rw [e, e2]
    exact named_0 m s w hk
set_option maxRecDepth 100000 in
set_option maxHeartbeats 8000000 in
theorem RValid_any (m : Mes) (s : Sl) (w : World) (hm : MsgIn w m s) (hT : STab w) :
    Calls Tryd.prog 15 #[msgV m s] w fun e w' => e = .returned (.int .i64 (if m.valid then 0 else 50)) ∧ Below w.heap.size w w' := by
  rw [← refGood_valid m]
  have HM := Lib.hid (fun w1 (h : Below w.heap.size w w1) => hm.below h (Nat.le_refl _))
  have HT := Lib.hid (fun w1 (h : Below w.heap.size w w1) => hT.below h)
  clear hm hT
  obtain ⟨V, hV⟩ : ∃ V, V = msgV m.named (slN m.kind s) := ⟨_, rfl⟩
  have HE : msgV m s = .agg #[.int .i64 m.kind, .int .u32 m.frm, .int .u32 m.dst, .int .u32 m.cl, .int .u32 m.seq, .int .u32 m.home, .int .u32 m.op, .int .u64 m.wall, .int .u32 m.log, .int .u32 m.node, .int .i64 m.status, .int .i64 m.outcome, .slice s.ra m.reads.length s.rc, .slice s.wa m.writes.length s.wc, .slice s.pa m.pairs.length s.pc] := rfl
  have HNA : Hid (∀ w1, Calls Tryd.prog 31 #[msgV m s] w1 fun e w' => e = .returned V ∧ Below w1.heap.size w1 w') := fun w1 => by rw [hV]; exact named_any m s w1
  have HSA : Hid (∀ w1, Below w.heap.size w w1 → Calls Tryd.prog 13 #[msgV m s, V] w1 fun e w' => e = .returned (.bool (same2 m m.named)) ∧ Below w1.heap.size w1 w') := fun w1 h => by rw [hV]; exact rsame_any m m.named s (slN m.kind s) w1 (HM.out w1 h) (part_any m s w1 (HM.out w1 h))
  have HRU : Hid (∀ w1, STab w1 → Calls Tryd.prog 35 #[msgV m s] w1 fun e w' => e = .returned (.bool m.rules) ∧ Below w1.heap.size w1 w') := fun w1 h => rules_any m s w1 h
  rw [HE] at HNA HSA HRU
  rw [HE]
  clear HE hV
  obtain ⟨r, hr⟩ : ∃ r, r = m.refGood := ⟨_, rfl⟩
  rw [← hr]
  unfold Mes.refGood at hr
  have HR1 := Lib.hid (fun w1 (h : Below w.heap.size w w1) => rreads_any s.ra m.reads s.rc (HM.out w1 h).rlen (HM.out w1 h).rsz w1 (HM.out w1 h).reads)
  have HR2 := Lib.hid (fun w1 (h : Below w.heap.size w w1) => rwrites_any s.wa m.writes s.wc (HM.out w1 h).wlen (HM.out w1 h).wsz w1 (HM.out w1 h).writes)
  have HR3 := Lib.hid (fun w1 (h : Below w.heap.size w w1) => rpairs_any s.pa m.pairs s.pc (HM.out w1 h).plen (HM.out w1 h).psz w1 (HM.out w1 h).pairs)
  obtain ⟨g1, hg1⟩ : ∃ g, g = same2 m m.named := ⟨_, rfl⟩
  obtain ⟨g2, hg2⟩ : ∃ g, g = spansOK m.reads := ⟨_, rfl⟩
  obtain ⟨g3, hg3⟩ : ∃ g, g = writesOK m.writes := ⟨_, rfl⟩
  obtain ⟨g4, hg4⟩ : ∃ g, g = pairsOK m.pairs := ⟨_, rfl⟩
  obtain ⟨g5, hg5⟩ : ∃ g, g = m.rules := ⟨_, rfl⟩
  rw [← hg1] at HSA hr
  rw [← hg2] at HR1 hr
  rw [← hg3] at HR2 hr
  rw [← hg4] at HR3 hr
  rw [← hg5] at HRU hr
  have HR := Lib.hid hr
  clear hr hg1 hg2 hg3 hg4 hg5
  obtain ⟨z, hz⟩ : ∃ z : Int, z = (if r = true then 0 else 50) := ⟨_, rfl⟩
  rw [← hz]
  have HZZ := Lib.hid hz
  clear hz
  go_enter Tryd.func15, Tryd.ntmps15
  go_wp2_with fail
  obtain ⟨q, hq⟩ : ∃ q, q = w.heap.size := ⟨_, rfl⟩
  obtain ⟨W, hW⟩ : ∃ W, W = w.alloc (.cells #[.int .i64 m.kind, .int .u32 m.frm, .int .u32 m.dst, .int .u32 m.cl, .int .u32 m.seq, .int .u32 m.home, .int .u32 m.op, .int .u64 m.wall, .int .u32 m.log, .int .u32 m.node, .int .i64 m.status, .int .i64 m.outcome, .slice s.ra m.reads.length s.rc, .slice s.wa m.writes.length s.wc, .slice s.pa m.pairs.length s.pc] 37) := ⟨_, rfl⟩
  have HMB : Hid (BlkAt 37 W q #[.int .i64 m.kind, .int .u32 m.frm, .int .u32 m.dst, .int .u32 m.cl, .int .u32 m.seq, .int .u32 m.home, .int .u32 m.op, .int .u64 m.wall, .int .u32 m.log, .int .u32 m.node, .int .i64 m.status, .int .i64 m.outcome, .slice s.ra m.reads.length s.rc, .slice s.wa m.writes.length s.wc, .slice s.pa m.pairs.length s.pc]) := by rw [hW, hq]; exact BlkAt.new _ _ _
  have HBW : Hid (Below w.heap.size w W) := by rw [hW]; exact (Below.refl _ _).alloc (Nat.le_refl _) _
  rw [← hW, ← hq]
  clear hW hq
  have HD : Hid (∀ w1, Below W.heap.size W w1 → w1.cell? ⟨q, 0, none⟩ = some (.int .i64 m.kind) ∧ w1.cell? ⟨q, 1, none⟩ = some (.int .u32 m.frm) ∧ w1.cell? ⟨q, 2, none⟩ = some (.int .u32 m.dst) ∧ w1.cell? ⟨q, 3, none⟩ = some (.int .u32 m.cl) ∧ w1.cell? ⟨q, 4, none⟩ = some (.int .u32 m.seq) ∧ w1.cell? ⟨q, 5, none⟩ = some (.int .u32 m.home) ∧ w1.cell? ⟨q, 6, none⟩ = some (.int .u32 m.op) ∧ w1.cell? ⟨q, 7, none⟩ = some (.int .u64 m.wall) ∧ w1.cell? ⟨q, 8, none⟩ = some (.int .u32 m.log) ∧ w1.cell? ⟨q, 9, none⟩ = some (.int .u32 m.node) ∧ w1.cell? ⟨q, 10, none⟩ = some (.int .i64 m.status) ∧ w1.cell? ⟨q, 11, none⟩ = some (.int .i64 m.outcome) ∧ w1.cell? ⟨q, 12, none⟩ = some (.slice s.ra m.reads.length s.rc) ∧ w1.cell? ⟨q, 13, none⟩ = some (.slice s.wa m.writes.length s.wc) ∧ w1.cell? ⟨q, 14, none⟩ = some (.slice s.pa m.pairs.length s.pc)) := fun w1 h1 => ⟨(HMB.out.below h1).cell 0 _ rfl, (HMB.out.below h1).cell 1 _ rfl, (HMB.out.below h1).cell 2 _ rfl, (HMB.out.below h1).cell 3 _ rfl, (HMB.out.below h1).cell 4 _ rfl, (HMB.out.below h1).cell 5 _ rfl, (HMB.out.below h1).cell 6 _ rfl, (HMB.out.below h1).cell 7 _ rfl, (HMB.out.below h1).cell 8 _ rfl, (HMB.out.below h1).cell 9 _ rfl, (HMB.out.below h1).cell 10 _ rfl, (HMB.out.below h1).cell 11 _ rfl, (HMB.out.below h1).cell 12 _ rfl, (HMB.out.below h1).cell 13 _ rfl, (HMB.out.below h1).cell 14 _ rfl⟩
  refine wp_region_quiet (C := fun w' => Below W.heap.size W w') mixedK_1 (by kernel_rfl) (Below.refl _ _).drew ?_
  simp only []
  repeat (first | go_big_quiet_skip | (go_big_quiet_want; go_big_quiet_op; first | go_big_quiet_on | (apply Exists.intro; refine ⟨?_, ?_⟩; (intro w1 h1; first | (go_at_call 31; refine (HNA.out w1).mono ?_; rintro e w3 ⟨rfl, hb⟩; exact ⟨rfl, h1.trans (hb.mono h1.size)⟩) | (go_at_call 13; refine (HSA.out w1 (HBW.out.trans (h1.mono HBW.out.size))).mono ?_; rintro e w3 ⟨rfl, hb⟩; exact ⟨rfl, h1.trans (hb.mono h1.size)⟩) | (with_reducible rfl) | (obtain ⟨d0, d1, d2, d3, d4, d5, d6, d7, d8, d9, d10, d11, d12, d13, d14⟩ := HD.out w1 h1; simp only [d0, d1, d2, d3, d4, d5, d6, d7, d8, d9, d10, d11, d12, d13, d14, Result.andThen_ok]; first | exact ⟨rfl, rfl⟩ | exact ⟨trivial, rfl⟩)); go_big_quiet_on)))
  refine wpQuiet_nil ?_
  intro w2 hz
  have HB2 : Hid (Below w.heap.size w w2) := HBW.out.trans (hz.mono HBW.out.size)
  have bM := HMB.out.below hz
  have b0 : w2.cell? ⟨q, 0, none⟩ = some (.int .i64 m.kind) := (bM).cell 0 _ rfl
  have b1 : w2.cell? ⟨q, 1, none⟩ = some (.int .u32 m.frm) := (bM).cell 1 _ rfl
  have b2 : w2.cell? ⟨q, 2, none⟩ = some (.int .u32 m.dst) := (bM).cell 2 _ rfl
  have b3 : w2.cell? ⟨q, 3, none⟩ = some (.int .u32 m.cl) := (bM).cell 3 _ rfl
  have b4 : w2.cell? ⟨q, 4, none⟩ = some (.int .u32 m.seq) := (bM).cell 4 _ rfl
  have b5 : w2.cell? ⟨q, 5, none⟩ = some (.int .u32 m.home) := (bM).cell 5 _ rfl
  have b6 : w2.cell? ⟨q, 6, none⟩ = some (.int .u32 m.op) := (bM).cell 6 _ rfl
  have b7 : w2.cell? ⟨q, 7, none⟩ = some (.int .u64 m.wall) := (bM).cell 7 _ rfl
  have b8 : w2.cell? ⟨q, 8, none⟩ = some (.int .u32 m.log) := (bM).cell 8 _ rfl
  have b9 : w2.cell? ⟨q, 9, none⟩ = some (.int .u32 m.node) := (bM).cell 9 _ rfl
  have b10 : w2.cell? ⟨q, 10, none⟩ = some (.int .i64 m.status) := (bM).cell 10 _ rfl
  have b11 : w2.cell? ⟨q, 11, none⟩ = some (.int .i64 m.outcome) := (bM).cell 11 _ rfl
  have b12 : w2.cell? ⟨q, 12, none⟩ = some (.slice s.ra m.reads.length s.rc) := (bM).cell 12 _ rfl
  have b13 : w2.cell? ⟨q, 13, none⟩ = some (.slice s.wa m.writes.length s.wc) := (bM).cell 13 _ rfl
  have b14 : w2.cell? ⟨q, 14, none⟩ = some (.slice s.pa m.pairs.length s.pc) := (bM).cell 14 _ rfl
  have HBM := Lib.hid bM
  clear bM hz
  go_wp2_with fail
  refine (HR1.out _ HB2.out).mono ?_
  rintro e w3 ⟨rfl, q1, rfl⟩
  go_wp2_with fail
  refine (HR2.out _ (below_drewN HB2.out _)).mono ?_
  rintro e w3 ⟨rfl, q2, rfl⟩
  go_wp2_with fail
  refine (HR3.out _ ?_).mono ?_
  · first | exact below_drewN HB2.out _ | exact below_drewN (below_drewN HB2.out _) _
  rintro e w3 ⟨rfl, q3, rfl⟩
  go_wp2_with fail
  refine (HRU.out _ ?_).mono ?_
  · first | exact HT.out _ (below_drewN HB2.out _) | exact HT.out _ (below_drewN (below_drewN HB2.out _) _) | exact HT.out _ (below_drewN (below_drewN (below_drewN HB2.out _) _) _)
  rintro e w4 ⟨rfl, hb4⟩
  have HB4 : Hid (Below w.heap.size w w4) := HB2.out.trans ((show Below w2.heap.size w2 w4 from ⟨hb4.os, hb4.tape, hb4.output, hb4.size, hb4.block⟩).mono HB2.out.size)
  have dM : BlkAt 37 w4 q #[.int .i64 m.kind, .int .u32 m.frm, .int .u32 m.dst, .int .u32 m.cl, .int .u32 m.seq, .int .u32 m.home, .int .u32 m.op, .int .u64 m.wall, .int .u32 m.log, .int .u32 m.node, .int .i64 m.status, .int .i64 m.outcome, .slice s.ra m.reads.length s.rc, .slice s.wa m.writes.length s.wc, .slice s.pa m.pairs.length s.pc] := HBM.out.below ⟨hb4.os, hb4.tape, hb4.output, hb4.size, hb4.block⟩
  have d0 : w4.cell? ⟨q, 0, none⟩ = some (.int .i64 m.kind) := (dM).cell 0 _ rfl
  have d1 : w4.cell? ⟨q, 1, none⟩ = some (.int .u32 m.frm) := (dM).cell 1 _ rfl
  have d2 : w4.cell? ⟨q, 2, none⟩ = some (.int .u32 m.dst) := (dM).cell 2 _ rfl
  have d3 : w4.cell? ⟨q, 3, none⟩ = some (.int .u32 m.cl) := (dM).cell 3 _ rfl
  have d4 : w4.cell? ⟨q, 4, none⟩ = some (.int .u32 m.seq) := (dM).cell 4 _ rfl
  have d5 : w4.cell? ⟨q, 5, none⟩ = some (.int .u32 m.home) := (dM).cell 5 _ rfl
  have d6 : w4.cell? ⟨q, 6, none⟩ = some (.int .u32 m.op) := (dM).cell 6 _ rfl
  have d7 : w4.cell? ⟨q, 7, none⟩ = some (.int .u64 m.wall) := (dM).cell 7 _ rfl
  have d8 : w4.cell? ⟨q, 8, none⟩ = some (.int .u32 m.log) := (dM).cell 8 _ rfl
  have d9 : w4.cell? ⟨q, 9, none⟩ = some (.int .u32 m.node) := (dM).cell 9 _ rfl
  have d10 : w4.cell? ⟨q, 10, none⟩ = some (.int .i64 m.status) := (dM).cell 10 _ rfl
  have d11 : w4.cell? ⟨q, 11, none⟩ = some (.int .i64 m.outcome) := (dM).cell 11 _ rfl
  have d12 : w4.cell? ⟨q, 12, none⟩ = some (.slice s.ra m.reads.length s.rc) := (dM).cell 12 _ rfl
  have d13 : w4.cell? ⟨q, 13, none⟩ = some (.slice s.wa m.writes.length s.wc) := (dM).cell 13 _ rfl
  have d14 : w4.cell? ⟨q, 14, none⟩ = some (.slice s.pa m.pairs.length s.pc) := (dM).cell 14 _ rfl
  clear dM hb4 b0 b1 b2 b3 b4 b5 b6 b7 b8 b9 b10 b11 b12 b13 b14
  go_wp2
  all_goals go_ret
  all_goals
    refine ⟨?_, HB4.out⟩
    show Ending.returned (.int .i64 _) = Ending.returned (.int .i64 _)
    rw [HZZ.out, HR.out]
    clear HZZ
    clear HR HT HM HNA HSA HRU HR1 HR2 HR3 d0 d1 d2 d3 d4 d5 d6 d7 d8 d9 d10 d11 d12 d13 d14
    first
      | (simp_all; done)
      | (simp_all; omega)
      | (simp_all; intro hgg; simp_all; omega)
end Go.Proofs.YtklhhpnibeejeaaDoor
