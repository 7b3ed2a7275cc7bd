/-
  A MESSAGE AS A VALUE IN A WORLD; msg.same.
-/
import Derived.Test.YtklhhpnibeejeaaDoorMsgGood
namespace Go.Proofs.YtklhhpnibeejeaaDoor
open Go.RowKit
set_option linter.unusedVariables false

/-- Where a message's lists lie. -/
structure Sl where
  ra : Option Addr
  wa : Option Addr
  pa : Option Addr
  rc : Nat
  wc : Nat
  pc : Nat
def msgV (m : Mes) (s : Sl) : Value :=
  .agg #[.int .i64 m.kind, .int .u32 m.frm, .int .u32 m.dst, .int .u32 m.cl, .int .u32 m.seq, .int .u32 m.home, .int .u32 m.op, .int .u64 m.wall, .int .u32 m.log, .int .u32 m.node, .int .i64 m.status, .int .i64 m.outcome, .slice s.ra m.reads.length s.rc, .slice s.wa m.writes.length s.wc, .slice s.pa m.pairs.length s.pc]
/-- The lists of a message lie so. -/
structure MsgIn (w : World) (m : Mes) (s : Sl) : Prop where
  reads : TwosAt w s.ra m.reads
  writes : WrsAt w s.wa m.writes
  pairs : TwosAt w s.pa m.pairs
  rlen : m.reads.length ≤ 140737488355328
  wlen : m.writes.length ≤ 140737488355328
  plen : m.pairs.length ≤ 140737488355328
  rsz : ∀ x ∈ m.reads, x.1.size ≤ maxLen ∧ x.2.size ≤ maxLen
  wsz : ∀ x ∈ m.writes, x.1.size ≤ maxLen ∧ x.2.2.size ≤ maxLen
  psz : ∀ x ∈ m.pairs, x.1.size ≤ maxLen ∧ x.2.size ≤ maxLen
theorem MsgIn.below {w w' : World} {m : Mes} {s : Sl} {B : Nat} (h : MsgIn w m s) (hb : Below B w w') (hB : w.heap.size ≤ B) : MsgIn w' m s :=
  ⟨h.reads.below hb hB, h.writes.below hb hB, h.pairs.below hb hB, h.rlen, h.wlen, h.plen, h.rsz, h.wsz, h.psz⟩

theorem two_below (w : World) (a b : Obj) : Below w.heap.size w ((w.alloc a).alloc b) := ((Below.refl _ _).alloc (Nat.le_refl _) _).alloc (by simp) _
set_option maxHeartbeats 4000000 in
set_option maxRecDepth 100000 in
theorem same_msg (m n : Mes) (s t : Sl) (w : World) (hm : MsgIn w m s) (hn : MsgIn w n t) :
    Calls Tryd.prog 40 #[msgV m s, msgV n t] w fun e w' => e = .returned (.bool (same2 m n)) ∧ Below w.heap.size w w' := by
  have HM := Lib.hid hm
  have HN := Lib.hid hn
  clear hm hn
  unfold msgV
  go_enter Tryd.func40, Tryd.ntmps40
  go_wp2_with fail
  refine (eqSpan_any s.ra t.ra m.reads n.reads s.rc t.rc HM.out.rlen HN.out.rlen _ (HM.out.reads.below (two_below _ _ _) (Nat.le_refl _)) (HN.out.reads.below (two_below _ _ _) (Nat.le_refl _))).mono ?_
  rintro e w1 ⟨rfl, k1, rfl⟩
  by_cases h1 : m.reads = n.reads
  · rw [decide_eq_true h1]
    have H1 := Lib.hid h1
    clear h1
    go_wp2_with fail
    refine (eqWrite_any s.wa t.wa m.writes n.writes s.wc t.wc HM.out.wlen HN.out.wlen _ ((HM.out.writes.below (two_below _ _ _) (Nat.le_refl _)).drewN k1) ((HN.out.writes.below (two_below _ _ _) (Nat.le_refl _)).drewN k1)).mono ?_
    rintro e w1 ⟨rfl, k2, rfl⟩
    by_cases h2 : m.writes = n.writes
    · rw [decide_eq_true h2]
      have H2 := Lib.hid h2
      clear h2
      go_wp2_with fail
      refine (eqPair_any s.pa t.pa m.pairs n.pairs s.pc t.pc HM.out.plen HN.out.plen _ ((HM.out.pairs.below (two_below _ _ _) (Nat.le_refl _)).drewN _) ((HN.out.pairs.below (two_below _ _ _) (Nat.le_refl _)).drewN _)).mono ?_
      rintro e w1 ⟨rfl, k3, rfl⟩
      by_cases h3 : m.pairs = n.pairs
      · rw [decide_eq_true h3]
        have H3 := Lib.hid h3
        clear h3
        go_wp2
        all_goals go_ret
        all_goals
          refine ⟨ret_bool ?_, below_drewN (two_below _ _ _) _⟩
          have r1 := H1.out
          have r2 := H2.out
          have r3 := H3.out
          clear H1 H2 H3 HM HN
          try simp only [Int.natCast_inj] at *
          rw [Bool.eq_iff_iff]
          simp_all [same2]
      · rw [decide_eq_false h3]
        go_wp2
        go_ret
        exact ⟨ret_bool (by simp [same2, h3]), below_drewN (two_below _ _ _) _⟩
    · rw [decide_eq_false h2]
      go_wp2
      go_ret
      exact ⟨ret_bool (by simp [same2, h2]), below_drewN (two_below _ _ _) _⟩
  · rw [decide_eq_false h1]
    go_wp2
    go_ret
    exact ⟨ret_bool (by simp [same2, h1]), below_drewN (two_below _ _ _) k1⟩
end Go.Proofs.YtklhhpnibeejeaaDoor
