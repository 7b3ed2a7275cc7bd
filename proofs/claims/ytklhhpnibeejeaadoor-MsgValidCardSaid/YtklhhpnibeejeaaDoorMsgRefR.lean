/-
  THE REFERENCE: rules.
-/
import Derived.Test.YtklhhpnibeejeaaDoorMsgRefT
namespace Go.Proofs.YtklhhpnibeejeaaDoor
open Go.RowKit
set_option linter.unusedVariables false

theorem saidL_2 (e : Int) : saidL 2 e = (decide (e = 0) || dataFail e) := by simp [saidL]
theorem saidL_4 (e : Int) : saidL 4 e = (decide (e = 0) || voteFail e) := by simp [saidL]
set_option maxRecDepth 100000 in
set_option maxHeartbeats 8000000 in
theorem rules_any (m : Mes) (s : Sl) (w : World) (hT : STab w) :
    Calls Tryd.prog 35 #[.agg #[.int .i64 m.kind, .int .u32 m.frm, .int .u32 m.dst, .int .u32 m.cl, .int .u32 m.seq, .int .u32 m.home, .int .u32 m.op, .int .u64 m.wall, .int .u32 m.log, .int .u32 m.node, .int .i64 m.status, .int .i64 m.outcome, .slice s.ra m.reads.length s.rc, .slice s.wa m.writes.length s.wc, .slice s.pa m.pairs.length s.pc]] w fun e w' => e = .returned (.bool m.rules) ∧ Below w.heap.size w w' := by
  have HT := Lib.hid hT
  clear hT
  obtain ⟨r, hr⟩ : ∃ r, r = m.rules := ⟨_, rfl⟩
  rw [← hr]
  have HR := Lib.hid hr
  clear hr
  go_enter Tryd.func35, Tryd.ntmps35
  go_wp2_with fail
  all_goals
    (refine (status_any m.kind m.status _ (HT.out.below ((Below.refl _ _).alloc (Nat.le_refl _) _))).mono ?_
     rintro e w1 ⟨rfl, q, rfl⟩
     go_wp2)
  all_goals try (exfalso; rename_i a; exact absurd (List.length_pos_iff.2 a) h)
  all_goals go_ret
  all_goals
    refine ⟨ret_bool ?_, below_drewN ((Below.refl _ _).alloc (Nat.le_refl _) _) _⟩
    rw [HR.out]
    clear HR HT
    first
      | (simp_all [Mes.rules, Mes.still, saidL]; done)
      | (rw [Bool.eq_iff_iff]; simp_all [Mes.rules, saidL]; done)
      | (rw [Bool.eq_iff_iff]; simp_all [Mes.rules]; omega)
end Go.Proofs.YtklhhpnibeejeaaDoor
