/-
  WHAT A BODY MUST BE: good, of each body but prepare.
-/
import Derived.Test.YtklhhpnibeejeaaDoorMsgB
import Derived.Test.YtklhhpnibeejeaaDoorMsgGoodP
namespace Go.Proofs.YtklhhpnibeejeaaDoor
open Go.RowKit
set_option linter.unusedVariables false

set_option maxRecDepth 100000 in
theorem txn_good (T : TypeId) (cs : Array Value) (p i : Nat) (n : Nat) (w : World) (hc : w.cell? ⟨p, i + 1, none⟩ = some (.int .u32 n)) :
    Calls Tryd.prog 119 #[.pointer (some ⟨p, i, none⟩)] w fun e w' => e = .returned (.bool (decide (0 < n))) ∧ w' = w := by
  go_enter Tryd.func119, Tryd.ntmps119
  go_wp2
  go_ret
  exact ⟨ret_bool (by simp), rfl⟩
set_option maxRecDepth 100000 in
theorem good_read (p : Nat) (m : Mes) (s : Sl) (w : World) (hb : BlkAt 101 w p (readC m s)) (hm : MsgIn w m s) :
    Calls Tryd.prog 87 #[.pointer (some ⟨p, 0, none⟩)] w fun e w' => e = .returned (.bool (decide (m.reads.length = 1) && spansOK m.reads)) ∧ Below w.heap.size w w' := by
  have c4 : w.cell? ⟨p, 4, none⟩ = some (.slice s.ra m.reads.length s.rc) := hb.cell 4 _ rfl
  have HC := Lib.hid (fun w1 (h : Below w.heap.size w w1) => goodReads_any s.ra m.reads s.rc hm.rlen hm.rsz w1 (hm.reads.below h (Nat.le_refl _)))
  clear hb hm
  by_cases h1 : m.reads.length = 1
  · have e1 : ((m.reads.length : Int) == 1) = true := by rw [beq_iff_eq]; omega
    have H1 := Lib.hid h1
    clear h1
    go_enter Tryd.func87, Tryd.ntmps87
    go_wp2_with fail
    refine (HC.out _ (Below.refl _ _)).mono ?_
    rintro e w1 ⟨rfl, hb⟩
    go_wp2
    go_ret
    exact ⟨ret_bool (by rw [decide_eq_true H1.out]; rfl), hb⟩
  · have e1 : ((m.reads.length : Int) == 1) = false := by rw [beq_eq_false_iff_ne]; omega
    have H1 := Lib.hid h1
    clear h1
    go_enter Tryd.func87, Tryd.ntmps87
    go_wp2
    go_ret
    exact ⟨ret_bool (by rw [decide_eq_false H1.out]; rfl), Below.refl _ _⟩
set_option maxRecDepth 100000 in
theorem good_data (p : Nat) (m : Mes) (s : Sl) (w : World) (hb : BlkAt 104 w p (dataC m s)) (hm : MsgIn w m s) :
    Calls Tryd.prog 111 #[.pointer (some ⟨p, 0, none⟩)] w fun e w' => e = .returned (.bool (if m.status = 0 then pairsOK m.pairs else dataFail m.status && decide (m.pairs.length = 0))) ∧ Below w.heap.size w w' := by
  have c4 : w.cell? ⟨p, 4, none⟩ = some (.int .i64 m.status) := hb.cell 4 _ rfl
  have c5 : w.cell? ⟨p, 5, none⟩ = some (.slice s.pa m.pairs.length s.pc) := hb.cell 5 _ rfl
  have HC := Lib.hid (fun w1 (h : Below w.heap.size w w1) => goodPairs_any s.pa m.pairs s.pc hm.plen hm.psz w1 (hm.pairs.below h (Nat.le_refl _)))
  clear hb hm
  obtain ⟨st, hst⟩ : ∃ st, st = m.status := ⟨_, rfl⟩
  rw [← hst] at c4
  rw [← hst]
  by_cases h0 : st = 0
  · have H0 := Lib.hid h0
    have e1 : (st == 0) = true := by rw [beq_iff_eq]; exact h0
    rw [if_pos h0]
    clear hst
    go_enter Tryd.func111, Tryd.ntmps111
    go_wp2_with fail
    refine (HC.out _ (Below.refl _ _)).mono ?_
    rintro e w1 ⟨rfl, hb⟩
    go_wp2
    go_ret
    exact ⟨rfl, hb⟩
  · rw [if_neg h0]
    clear hst HC
    go_enter Tryd.func111, Tryd.ntmps111
    go_wp2
    all_goals go_ret
    all_goals
      refine ⟨ret_bool ?_, Below.refl _ _⟩
      first
        | (simp_all [dataFail]; done)
        | (rw [Bool.eq_iff_iff]; simp_all [dataFail]; done)
        | (rw [Bool.eq_iff_iff]; simp_all [dataFail]; omega)
set_option maxRecDepth 100000 in
theorem good_vote (p : Nat) (m : Mes) (s : Sl) (w : World) (hb : BlkAt 112 w p (voteC m s)) :
    Calls Tryd.prog 127 #[.pointer (some ⟨p, 0, none⟩)] w fun e w' => e = .returned (.bool (if m.status = 0 then decide (0 < m.seq) else voteFail m.status && decide (0 < m.seq) && m.still)) ∧ Below w.heap.size w w' := by
  have c1 : w.cell? ⟨p, 1, none⟩ = some (.int .u32 m.seq) := hb.cell 1 _ rfl
  have c3 : w.cell? ⟨p, 3, none⟩ = some (.int .i64 m.status) := hb.cell 3 _ rfl
  have c4 : w.cell? ⟨p, 4, none⟩ = some (.int .u64 m.wall) := hb.cell 4 _ rfl
  have c5 : w.cell? ⟨p, 5, none⟩ = some (.int .u32 m.log) := hb.cell 5 _ rfl
  have c6 : w.cell? ⟨p, 6, none⟩ = some (.int .u32 m.node) := hb.cell 6 _ rfl
  clear hb
  unfold Mes.still
  obtain ⟨r, hr⟩ : ∃ r, r = (if m.status = 0 then decide (0 < m.seq) else voteFail m.status && decide (0 < m.seq) && (decide (m.wall = 0) && decide (m.log = 0) && decide (m.node = 0))) := ⟨_, rfl⟩
  rw [← hr]
  generalize m.status = st at *
  have HR := Lib.hid hr
  clear hr
  go_enter Tryd.func127, Tryd.ntmps127
  go_wp2
  all_goals go_ret
  all_goals
    refine ⟨ret_bool ?_, Below.refl _ _⟩
    rw [HR.out]
    clear HR
    clear c1 c3 c4 c5 c6
    first
      | (simp_all [voteFail]; done)
      | (simp_all [voteFail]; omega)
set_option maxRecDepth 100000 in
theorem good_outcome (p : Nat) (m : Mes) (s : Sl) (w : World) (hb : BlkAt 118 w p (outcomeC m s)) :
    Calls Tryd.prog 132 #[.pointer (some ⟨p, 0, none⟩)] w fun e w' => e = .returned (.bool (decide (0 < m.seq) && (decide (m.outcome = 1) || decide (m.outcome = 2) && m.still))) ∧ Below w.heap.size w w' := by
  have c1 : w.cell? ⟨p, 1, none⟩ = some (.int .u32 m.seq) := hb.cell 1 _ rfl
  have c3 : w.cell? ⟨p, 3, none⟩ = some (.int .i64 m.outcome) := hb.cell 3 _ rfl
  have c4 : w.cell? ⟨p, 4, none⟩ = some (.int .u64 m.wall) := hb.cell 4 _ rfl
  have c5 : w.cell? ⟨p, 5, none⟩ = some (.int .u32 m.log) := hb.cell 5 _ rfl
  have c6 : w.cell? ⟨p, 6, none⟩ = some (.int .u32 m.node) := hb.cell 6 _ rfl
  clear hb
  unfold Mes.still
  obtain ⟨r, hr⟩ : ∃ r, r = (decide (0 < m.seq) && (decide (m.outcome = 1) || decide (m.outcome = 2) && (decide (m.wall = 0) && decide (m.log = 0) && decide (m.node = 0)))) := ⟨_, rfl⟩
  rw [← hr]
  have HR := Lib.hid hr
  clear hr
  go_enter Tryd.func132, Tryd.ntmps132
  go_wp2
  all_goals go_ret
  all_goals
    refine ⟨ret_bool ?_, Below.refl _ _⟩
    rw [HR.out]
    clear HR
    clear c1 c3 c4 c5 c6
    first
      | (simp_all; done)
      | (simp_all; omega)
end Go.Proofs.YtklhhpnibeejeaaDoor
