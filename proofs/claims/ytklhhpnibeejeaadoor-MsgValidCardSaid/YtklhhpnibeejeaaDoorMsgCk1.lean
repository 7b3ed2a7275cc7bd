/-
  checked, of a message of kind 1. Printed by gen_msgck.py.
-/
import Derived.Test.YtklhhpnibeejeaaDoorMsgG
import Derived.BigQuiet
import Derived.Test.YtklhhpnibeejeaaDoorMsgLdRead
import Derived.Test.YtklhhpnibeejeaaDoorMsgStRead
namespace Go.Proofs.YtklhhpnibeejeaaDoor
open Go.RowKit
set_option linter.unusedVariables false

theorem mt_1 (b : Nat) (w : World) : (method 277 99 (.pointer (some ⟨b, 0, none⟩)) "tidemark/msg.good").run Tryd.prog w = .ok (87, .pointer (some ⟨b, 0, none⟩)) w := by kernel_rfl
theorem mixedK_1 : Tryd.prog.follows .mixedOrders = true := by kernel_rfl
def nm_1 (m : Mes) : Mes := ⟨1, m.frm, m.dst, 0, 0, 0, m.op, m.wall, m.log, m.node, 0, 0, m.reads, [], []⟩
def sl_1 (s : Sl) : Sl := ⟨s.ra, none, none, s.rc, 0, 0⟩
theorem valid_1 (m : Mes) (hk : m.kind = 1) : m.valid = ((decide (m.reads.length = 1) && spansOK m.reads) && same2 m (nm_1 m)) := by
  simp [Mes.valid, hk, Mes.good, Mes.named, Mes.bare, nm_1]
theorem part_1 (w : World) (m : Mes) (s : Sl) (h : MsgIn w m s) : MsgIn w (nm_1 m) (sl_1 s) :=
  ⟨h.reads, WrsAt.none _, TwosAt.none _, h.rlen, Nat.zero_le _, Nat.zero_le _, h.rsz, (fun x hx => absurd hx (by simp [nm_1])), (fun x hx => absurd hx (by simp [nm_1]))⟩
theorem made_1' (w : World) : Calls Tryd.prog 28 #[.int .i64 1] w fun e w' => ∃ p, e = .returned (.iface 99 (.pointer (some ⟨p, 0, none⟩))) ∧ BlkAt 101 w' p (readC (Mes.bare 0 0 0) noSl) ∧ w.heap.size ≤ p ∧ Below w.heap.size w w' :=
  (made_1 w).mono fun e w' ⟨he, hw⟩ => ⟨_, he, by rw [hw]; exact BlkAt.new _ _ _, Nat.le_refl _, by rw [hw]; exact (Below.refl _ _).alloc (Nat.le_refl _) _⟩
set_option maxRecDepth 100000 in
set_option maxHeartbeats 8000000 in
theorem checked_1 (m : Mes) (s : Sl) (hk : m.kind = 1) (w : World) (hm : MsgIn w m s) :
    Calls Tryd.prog 19 #[msgV m s] w fun e w' => (m.valid = false → e = .returned .nilIface) ∧ (m.valid = true → ∃ p, w.heap.size ≤ p ∧ e = .returned (.iface 99 (.pointer (some ⟨p, 0, none⟩))) ∧ BlkAt 101 w' p (readC m s)) ∧ Below w.heap.size w w' := by
  have HV := Lib.hid (valid_1 m hk)
  have HMD := Lib.hid made_1'
  have HM := Lib.hid hm
  have HPT := Lib.hid (fun w0 (h : MsgIn w0 m s) => part_1 w0 m s h)
  have HL := Lib.hid (fun p w0 hb => load_read p m s (Mes.bare 0 0 0) noSl w0 hb)
  clear hm
  have HE : msgV m s = .agg #[.int .i64 1, .int .u32 m.frm, .int .u32 m.dst, .int .u32 m.cl, .int .u32 m.seq, .int .u32 m.home, .int .u32 m.op, .int .u64 m.wall, .int .u32 m.log, .int .u32 m.node, .int .i64 m.status, .int .i64 m.outcome, .slice s.ra m.reads.length s.rc, .slice s.wa m.writes.length s.wc, .slice s.pa m.pairs.length s.pc] := by unfold msgV; rw [hk]
  have HSM : Hid (∀ w0, MsgIn w0 m s → MsgIn w0 (nm_1 m) (sl_1 s) → Calls Tryd.prog 40 #[msgV m s, .agg #[.int .i64 1, .int .u32 m.frm, .int .u32 m.dst, .int .u32 0, .int .u32 0, .int .u32 0, .int .u32 m.op, .int .u64 m.wall, .int .u32 m.log, .int .u32 m.node, .int .i64 0, .int .i64 0, .slice s.ra m.reads.length s.rc, .slice none 0 0, .slice none 0 0]] w0 fun e w' => e = .returned (.bool (same2 m (nm_1 m))) ∧ Below w0.heap.size w0 w') := fun w0 h1 h2 => same_msg m (nm_1 m) s (sl_1 s) w0 h1 h2
  rw [HE] at HL HSM
  rw [HE]
  clear HE hk
  go_enter Tryd.func19, Tryd.ntmps19
  go_wp2_with fail
  obtain ⟨q, hq⟩ : ∃ q, q = w.heap.size := ⟨_, rfl⟩
  obtain ⟨W, hW⟩ : ∃ W, W = w.alloc (.cells #[.int .i64 1, .int .u32 m.frm, .int .u32 m.dst, .int .u32 m.cl, .int .u32 m.seq, .int .u32 m.home, .int .u32 m.op, .int .u64 m.wall, .int .u32 m.log, .int .u32 m.node, .int .i64 m.status, .int .i64 m.outcome, .slice s.ra m.reads.length s.rc, .slice s.wa m.writes.length s.wc, .slice s.pa m.pairs.length s.pc] 37) := ⟨_, rfl⟩
  have HMB : Hid (BlkAt 37 W q #[.int .i64 1, .int .u32 m.frm, .int .u32 m.dst, .int .u32 m.cl, .int .u32 m.seq, .int .u32 m.home, .int .u32 m.op, .int .u64 m.wall, .int .u32 m.log, .int .u32 m.node, .int .i64 m.status, .int .i64 m.outcome, .slice s.ra m.reads.length s.rc, .slice s.wa m.writes.length s.wc, .slice s.pa m.pairs.length s.pc]) := by rw [hW, hq]; exact BlkAt.new _ _ _
  have HBW : Hid (Below w.heap.size w W) := by rw [hW]; exact (Below.refl _ _).alloc (Nat.le_refl _) _
  have HWS : Hid (W.heap.size = q + 1) := by show _ = _; rw [hW, hq]; simp
  have HQ := Lib.hid hq
  rw [← hW, ← hq]
  clear hW hq
  refine (HMD.out _).mono ?_
  rintro e w1 ⟨p, rfl, hb1, hp, hB1⟩
  have HP := Lib.hid hp
  have HB1 := Lib.hid hB1
  have aM := HMB.out.below hB1
  have a0 : w1.cell? ⟨q, 0, none⟩ = some (.int .i64 1) := aM.cell 0 _ rfl
  have a1 : w1.cell? ⟨q, 1, none⟩ = some (.int .u32 m.frm) := aM.cell 1 _ rfl
  have a2 : w1.cell? ⟨q, 2, none⟩ = some (.int .u32 m.dst) := aM.cell 2 _ rfl
  have a3 : w1.cell? ⟨q, 3, none⟩ = some (.int .u32 m.cl) := aM.cell 3 _ rfl
  have a4 : w1.cell? ⟨q, 4, none⟩ = some (.int .u32 m.seq) := aM.cell 4 _ rfl
  have a5 : w1.cell? ⟨q, 5, none⟩ = some (.int .u32 m.home) := aM.cell 5 _ rfl
  have a6 : w1.cell? ⟨q, 6, none⟩ = some (.int .u32 m.op) := aM.cell 6 _ rfl
  have a7 : w1.cell? ⟨q, 7, none⟩ = some (.int .u64 m.wall) := aM.cell 7 _ rfl
  have a8 : w1.cell? ⟨q, 8, none⟩ = some (.int .u32 m.log) := aM.cell 8 _ rfl
  have a9 : w1.cell? ⟨q, 9, none⟩ = some (.int .u32 m.node) := aM.cell 9 _ rfl
  have a10 : w1.cell? ⟨q, 10, none⟩ = some (.int .i64 m.status) := aM.cell 10 _ rfl
  have a11 : w1.cell? ⟨q, 11, none⟩ = some (.int .i64 m.outcome) := aM.cell 11 _ rfl
  have a12 : w1.cell? ⟨q, 12, none⟩ = some (.slice s.ra m.reads.length s.rc) := aM.cell 12 _ rfl
  have a13 : w1.cell? ⟨q, 13, none⟩ = some (.slice s.wa m.writes.length s.wc) := aM.cell 13 _ rfl
  have a14 : w1.cell? ⟨q, 14, none⟩ = some (.slice s.pa m.pairs.length s.pc) := aM.cell 14 _ rfl
  clear hp hB1
  have HAM := Lib.hid aM
  clear aM
  go_wp2_with fail
  refine (HL.out p _ hb1).mono ?_
  rintro e w2 ⟨rfl, hb2, hk2⟩
  have HBLK2 := Lib.hid hb2
  have HK2 := Lib.hid hk2
  have bM := HAM.out.keeps hk2 (fun h => by have h : q = p := h; have := HP.out; have := HWS.out; omega)
  have b0 : w2.cell? ⟨q, 0, none⟩ = some (.int .i64 1) := bM.cell 0 _ rfl
  have b1 : w2.cell? ⟨q, 1, none⟩ = some (.int .u32 m.frm) := bM.cell 1 _ rfl
  have b2 : w2.cell? ⟨q, 2, none⟩ = some (.int .u32 m.dst) := bM.cell 2 _ rfl
  have b3 : w2.cell? ⟨q, 3, none⟩ = some (.int .u32 m.cl) := bM.cell 3 _ rfl
  have b4 : w2.cell? ⟨q, 4, none⟩ = some (.int .u32 m.seq) := bM.cell 4 _ rfl
  have b5 : w2.cell? ⟨q, 5, none⟩ = some (.int .u32 m.home) := bM.cell 5 _ rfl
  have b6 : w2.cell? ⟨q, 6, none⟩ = some (.int .u32 m.op) := bM.cell 6 _ rfl
  have b7 : w2.cell? ⟨q, 7, none⟩ = some (.int .u64 m.wall) := bM.cell 7 _ rfl
  have b8 : w2.cell? ⟨q, 8, none⟩ = some (.int .u32 m.log) := bM.cell 8 _ rfl
  have b9 : w2.cell? ⟨q, 9, none⟩ = some (.int .u32 m.node) := bM.cell 9 _ rfl
  have b10 : w2.cell? ⟨q, 10, none⟩ = some (.int .i64 m.status) := bM.cell 10 _ rfl
  have b11 : w2.cell? ⟨q, 11, none⟩ = some (.int .i64 m.outcome) := bM.cell 11 _ rfl
  have b12 : w2.cell? ⟨q, 12, none⟩ = some (.slice s.ra m.reads.length s.rc) := bM.cell 12 _ rfl
  have b13 : w2.cell? ⟨q, 13, none⟩ = some (.slice s.wa m.writes.length s.wc) := bM.cell 13 _ rfl
  have b14 : w2.cell? ⟨q, 14, none⟩ = some (.slice s.pa m.pairs.length s.pc) := bM.cell 14 _ rfl
  have HBM := Lib.hid bM
  clear bM hb1 hb2 hk2 a0 a1 a2 a3 a4 a5 a6 a7 a8 a9 a10 a11 a12 a13 a14
  have HB2 : Hid (Below w.heap.size w w2) := HBW.out.trans ((HB1.out.mono HBW.out.size).trans (HK2.out.below (by have := HB1.out.size; have := HBW.out.size; omega) (fun k hk e => by have e : k = p := e; have := HP.out; have := HBW.out.size; omega)))
  have HG : Hid (∀ w0, BlkAt 101 w0 p (readC m s) → MsgIn w0 m s → Calls Tryd.prog 87 #[.pointer (some ⟨p, 0, none⟩)] w0 fun e w' => e = .returned (.bool (decide (m.reads.length = 1) && spansOK m.reads)) ∧ Below w0.heap.size w0 w') := fun w0 h1 h2 => good_read p m s w0 h1 h2
  have HSTO : Hid (∀ w0, BlkAt 101 w0 p (readC m s) → Calls Tryd.prog 30 #[.iface 99 (.pointer (some ⟨p, 0, none⟩)), .agg #[.int .i64 1, .int .u32 m.frm, .int .u32 m.dst, .int .u32 0, .int .u32 0, .int .u32 0, .int .u32 0, .int .u64 0, .int .u32 0, .int .u32 0, .int .i64 0, .int .i64 0, .slice none 0 0, .slice none 0 0, .slice none 0 0]] w0 fun e w' => e = .returned (.agg #[.int .i64 1, .int .u32 m.frm, .int .u32 m.dst, .int .u32 0, .int .u32 0, .int .u32 0, .int .u32 m.op, .int .u64 m.wall, .int .u32 m.log, .int .u32 m.node, .int .i64 0, .int .i64 0, .slice s.ra m.reads.length s.rc, .slice none 0 0, .slice none 0 0]) ∧ Below w0.heap.size w0 w') := fun w0 hb => store_read p m s 1 m.frm m.dst w0 hb
  have HD : Hid (∀ w1, Below w2.heap.size w2 w1 → w1.cell? ⟨q, 0, none⟩ = some (.int .i64 1) ∧ w1.cell? ⟨q, 1, none⟩ = some (.int .u32 m.frm) ∧ w1.cell? ⟨q, 2, none⟩ = some (.int .u32 m.dst) ∧ w1.cell? ⟨q, 3, none⟩ = some (.int .u32 m.cl) ∧ w1.cell? ⟨q, 4, none⟩ = some (.int .u32 m.seq) ∧ w1.cell? ⟨q, 5, none⟩ = some (.int .u32 m.home) ∧ w1.cell? ⟨q, 6, none⟩ = some (.int .u32 m.op) ∧ w1.cell? ⟨q, 7, none⟩ = some (.int .u64 m.wall) ∧ w1.cell? ⟨q, 8, none⟩ = some (.int .u32 m.log) ∧ w1.cell? ⟨q, 9, none⟩ = some (.int .u32 m.node) ∧ w1.cell? ⟨q, 10, none⟩ = some (.int .i64 m.status) ∧ w1.cell? ⟨q, 11, none⟩ = some (.int .i64 m.outcome) ∧ w1.cell? ⟨q, 12, none⟩ = some (.slice s.ra m.reads.length s.rc) ∧ w1.cell? ⟨q, 13, none⟩ = some (.slice s.wa m.writes.length s.wc) ∧ w1.cell? ⟨q, 14, none⟩ = some (.slice s.pa m.pairs.length s.pc)) := fun w1 h1 => ⟨(HBM.out.below h1).cell 0 _ rfl, (HBM.out.below h1).cell 1 _ rfl, (HBM.out.below h1).cell 2 _ rfl, (HBM.out.below h1).cell 3 _ rfl, (HBM.out.below h1).cell 4 _ rfl, (HBM.out.below h1).cell 5 _ rfl, (HBM.out.below h1).cell 6 _ rfl, (HBM.out.below h1).cell 7 _ rfl, (HBM.out.below h1).cell 8 _ rfl, (HBM.out.below h1).cell 9 _ rfl, (HBM.out.below h1).cell 10 _ rfl, (HBM.out.below h1).cell 11 _ rfl, (HBM.out.below h1).cell 12 _ rfl, (HBM.out.below h1).cell 13 _ rfl, (HBM.out.below h1).cell 14 _ rfl⟩
  have HMI : Hid (∀ w1, Below w2.heap.size w2 w1 → MsgIn w1 m s) := fun w1 h1 => HM.out.below (HB2.out.trans (h1.mono HB2.out.size)) (Nat.le_refl _)
  have HPB : Hid (w.heap.size ≤ p) := by show _ ≤ _; have := HP.out; have := HWS.out; have := HQ.out; omega
  clear HL HMD HP HB1 HAM HK2 HBW HMB
  obtain ⟨g, hg⟩ : ∃ g, g = (decide (m.reads.length = 1) && spansOK m.reads) := ⟨_, rfl⟩
  rw [← hg] at HG HV
  obtain ⟨x, hx⟩ : ∃ x, x = same2 m (nm_1 m) := ⟨_, rfl⟩
  rw [← hx] at HSM HV
  clear hg hx
  go_wp2_with fail
  cases g
  · refine wp_region_quiet (C := fun w' => Below w2.heap.size w2 w') mixedK_1 (by kernel_rfl) (Below.refl _ _).drew ?_
    simp only []
    repeat (first | go_big_quiet_skip | (go_big_quiet_want; go_big_quiet_op; first | go_big_quiet_on | (apply Exists.intro; refine ⟨?_, ?_⟩; (intro w1 h1; first | (simp [go_sem, mt_1]; go_at_call 87; refine (HG.out w1 (HBLK2.out.below h1) (HMI.out w1 h1)).mono ?_; rintro e w3 ⟨rfl, hb⟩; exact ⟨rfl, h1.trans (hb.mono h1.size)⟩) | (go_at_call 30; refine (HSTO.out w1 (HBLK2.out.below h1)).mono ?_; rintro e w3 ⟨rfl, hb⟩; exact ⟨rfl, h1.trans (hb.mono h1.size)⟩) | (go_at_call 40; refine (HSM.out w1 (HMI.out w1 h1) (HPT.out w1 (HMI.out w1 h1))).mono ?_; rintro e w3 ⟨rfl, hb⟩; exact ⟨rfl, h1.trans (hb.mono h1.size)⟩) | (with_reducible rfl) | (obtain ⟨d0, d1, d2, d3, d4, d5, d6, d7, d8, d9, d10, d11, d12, d13, d14⟩ := HD.out w1 h1; simp only [d0, d1, d2, d3, d4, d5, d6, d7, d8, d9, d10, d11, d12, d13, d14, Result.andThen_ok]; first | exact ⟨rfl, rfl⟩ | exact ⟨trivial, rfl⟩)); go_big_quiet_on)))
    refine wpQuiet_nil ?_
    intro wz hz
    have HZ := Lib.hid hz
    clear hz
    go_wp2
    go_ret
    exact ⟨fun _ => rfl, fun h => (by rw [HV.out] at h; simp at h), HB2.out.trans (HZ.out.mono HB2.out.size)⟩
  cases x
  · refine wp_region_quiet (C := fun w' => Below w2.heap.size w2 w') mixedK_1 (by kernel_rfl) (Below.refl _ _).drew ?_
    simp only []
    repeat (first | go_big_quiet_skip | (go_big_quiet_want; go_big_quiet_op; first | go_big_quiet_on | (apply Exists.intro; refine ⟨?_, ?_⟩; (intro w1 h1; first | (simp [go_sem, mt_1]; go_at_call 87; refine (HG.out w1 (HBLK2.out.below h1) (HMI.out w1 h1)).mono ?_; rintro e w3 ⟨rfl, hb⟩; exact ⟨rfl, h1.trans (hb.mono h1.size)⟩) | (go_at_call 30; refine (HSTO.out w1 (HBLK2.out.below h1)).mono ?_; rintro e w3 ⟨rfl, hb⟩; exact ⟨rfl, h1.trans (hb.mono h1.size)⟩) | (go_at_call 40; refine (HSM.out w1 (HMI.out w1 h1) (HPT.out w1 (HMI.out w1 h1))).mono ?_; rintro e w3 ⟨rfl, hb⟩; exact ⟨rfl, h1.trans (hb.mono h1.size)⟩) | (with_reducible rfl) | (obtain ⟨d0, d1, d2, d3, d4, d5, d6, d7, d8, d9, d10, d11, d12, d13, d14⟩ := HD.out w1 h1; simp only [d0, d1, d2, d3, d4, d5, d6, d7, d8, d9, d10, d11, d12, d13, d14, Result.andThen_ok]; first | exact ⟨rfl, rfl⟩ | exact ⟨trivial, rfl⟩)); go_big_quiet_on)))
    refine wpQuiet_nil ?_
    intro wz hz
    have HZ := Lib.hid hz
    clear hz
    go_wp2
    go_ret
    exact ⟨fun _ => rfl, fun h => (by rw [HV.out] at h; simp at h), HB2.out.trans (HZ.out.mono HB2.out.size)⟩
  · refine wp_region_quiet (C := fun w' => Below w2.heap.size w2 w') mixedK_1 (by kernel_rfl) (Below.refl _ _).drew ?_
    simp only []
    repeat (first | go_big_quiet_skip | (go_big_quiet_want; go_big_quiet_op; first | go_big_quiet_on | (apply Exists.intro; refine ⟨?_, ?_⟩; (intro w1 h1; first | (simp [go_sem, mt_1]; go_at_call 87; refine (HG.out w1 (HBLK2.out.below h1) (HMI.out w1 h1)).mono ?_; rintro e w3 ⟨rfl, hb⟩; exact ⟨rfl, h1.trans (hb.mono h1.size)⟩) | (go_at_call 30; refine (HSTO.out w1 (HBLK2.out.below h1)).mono ?_; rintro e w3 ⟨rfl, hb⟩; exact ⟨rfl, h1.trans (hb.mono h1.size)⟩) | (go_at_call 40; refine (HSM.out w1 (HMI.out w1 h1) (HPT.out w1 (HMI.out w1 h1))).mono ?_; rintro e w3 ⟨rfl, hb⟩; exact ⟨rfl, h1.trans (hb.mono h1.size)⟩) | (with_reducible rfl) | (obtain ⟨d0, d1, d2, d3, d4, d5, d6, d7, d8, d9, d10, d11, d12, d13, d14⟩ := HD.out w1 h1; simp only [d0, d1, d2, d3, d4, d5, d6, d7, d8, d9, d10, d11, d12, d13, d14, Result.andThen_ok]; first | exact ⟨rfl, rfl⟩ | exact ⟨trivial, rfl⟩)); go_big_quiet_on)))
    refine wpQuiet_nil ?_
    intro wz hz
    have HZ := Lib.hid hz
    clear hz
    go_wp2
    go_ret
    exact ⟨fun h => (by rw [HV.out] at h; simp at h), fun _ => ⟨p, HPB.out, rfl, HBLK2.out.below HZ.out⟩, HB2.out.trans (HZ.out.mono HB2.out.size)⟩
end Go.Proofs.YtklhhpnibeejeaaDoor
