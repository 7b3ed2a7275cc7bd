/-
  WHAT A BODY MUST BE: good, of a prepare.
-/
import Derived.Test.YtklhhpnibeejeaaDoorMsgG
import Derived.Test.YtklhhpnibeejeaaDoorMsgGoodW
import Derived.BigQuiet
namespace Go.Proofs.YtklhhpnibeejeaaDoor
open Go.RowKit
set_option linter.unusedVariables false

theorem mixed0 : Tryd.prog.follows .mixedOrders = true := by kernel_rfl
set_option maxHeartbeats 4000000 in
set_option maxRecDepth 100000 in
theorem good_prepare (p : Nat) (m : Mes) (s : Sl) (w : World) (hb : BlkAt 109 w p (prepareC m s)) (hm : MsgIn w m s) :
    Calls Tryd.prog 116 #[.pointer (some ⟨p, 0, none⟩)] w fun e w' => e = .returned (.bool (decide (0 < m.seq) && spansOK m.reads && writesOK m.writes && decide (0 < m.reads.length + m.writes.length))) ∧ Below w.heap.size w w' := by
  have HBLK := Lib.hid (fun w1 (h : Below w.heap.size w w1) => hb.below h)
  have c1 : w.cell? ⟨p, 1, none⟩ = some (.int .u32 m.seq) := hb.cell 1 _ rfl
  have c6 : w.cell? ⟨p, 6, none⟩ = some (.slice s.ra m.reads.length s.rc) := hb.cell 6 _ rfl
  have c7 : w.cell? ⟨p, 7, none⟩ = some (.slice s.wa m.writes.length s.wc) := hb.cell 7 _ rfl
  have HC := Lib.hid (fun w1 (h : Below w.heap.size w w1) => goodReads_any s.ra m.reads s.rc hm.rlen hm.rsz w1 (hm.reads.below h (Nat.le_refl _)))
  have HW := Lib.hid (fun w1 (h : Below w.heap.size w w1) => goodWrites_any s.wa m.writes s.wc hm.wlen hm.wsz w1 (hm.writes.below h (Nat.le_refl _)))
  have l1 := hm.rlen
  have l2 := hm.wlen
  clear hb hm
  obtain ⟨r, hr⟩ : ∃ r, r = (decide (0 < m.seq) && spansOK m.reads && writesOK m.writes && decide (0 < m.reads.length + m.writes.length)) := ⟨_, rfl⟩
  rw [← hr]
  have HR := Lib.hid hr
  clear hr
  have HT := Lib.hid (fun w1 (h : w1.cell? ⟨p, 1, none⟩ = some (.int .u32 m.seq)) => txn_good 107 #[] p 0 m.seq w1 h)
  have HL6 : Hid (∀ w1, Below w.heap.size w w1 → w1.cell? ⟨p, 6, none⟩ = some (.slice s.ra m.reads.length s.rc)) := fun w1 h => (HBLK.out w1 h).cell 6 _ rfl
  have HL7 : Hid (∀ w1, Below w.heap.size w w1 → w1.cell? ⟨p, 7, none⟩ = some (.slice s.wa m.writes.length s.wc)) := fun w1 h => (HBLK.out w1 h).cell 7 _ rfl
  clear c1 c6 c7
  by_cases hs : 0 < m.seq
  · have HS : Hid (decide (0 < m.seq) = true) := decide_eq_true hs
    rw [HS.out] at HT
    clear hs
    cases h1 : spansOK m.reads
    · have H1 := Lib.hid h1
      rw [h1] at HC
      clear h1
      go_enter Tryd.func116, Tryd.ntmps116
      go_wp2_with fail
      refine wp_region_quiet (C := fun w' => Below w.heap.size w w') mixed0 (by kernel_rfl) (Below.refl _ _).drew ?_
      simp only []
      repeat (first | go_big_quiet_skip | (go_big_quiet_want; go_big_quiet_op; first | go_big_quiet_on | (apply Exists.intro; refine ⟨?_, ?_⟩; (intro w1 h1; first | (go_at_call 119; refine (HT.out w1 ((HBLK.out w1 h1).cell 1 _ rfl)).mono ?_; rintro e w2 ⟨rfl, rfl⟩; exact ⟨rfl, h1⟩) | (go_at_call 90; refine (HC.out w1 h1).mono ?_; rintro e w2 ⟨rfl, hb⟩; exact ⟨rfl, h1.trans (hb.mono h1.size)⟩) | (go_at_call 120; refine (HW.out w1 h1).mono ?_; rintro e w2 ⟨rfl, hb⟩; exact ⟨rfl, h1.trans (hb.mono h1.size)⟩) | (with_reducible rfl) | (simp only [HL6.out w1 h1]; exact ⟨rfl, rfl⟩) | (simp only [HL7.out w1 h1]; exact ⟨rfl, rfl⟩)); go_big_quiet_on)))
      refine wpQuiet_nil ?_
      intro wz hz
      have HZ := Lib.hid hz
      clear hz
      go_wp2
      go_ret
      exact ⟨ret_bool (by rw [HR.out, HS.out, H1.out]; rfl), HZ.out⟩
    · have H1 := Lib.hid h1
      rw [h1] at HC
      clear h1
      cases h2 : writesOK m.writes
      · have H2 := Lib.hid h2
        rw [h2] at HW
        clear h2
        go_enter Tryd.func116, Tryd.ntmps116
        go_wp2_with fail
        refine wp_region_quiet (C := fun w' => Below w.heap.size w w') mixed0 (by kernel_rfl) (Below.refl _ _).drew ?_
        simp only []
        repeat (first | go_big_quiet_skip | (go_big_quiet_want; go_big_quiet_op; first | go_big_quiet_on | (apply Exists.intro; refine ⟨?_, ?_⟩; (intro w1 h1; first | (go_at_call 119; refine (HT.out w1 ((HBLK.out w1 h1).cell 1 _ rfl)).mono ?_; rintro e w2 ⟨rfl, rfl⟩; exact ⟨rfl, h1⟩) | (go_at_call 90; refine (HC.out w1 h1).mono ?_; rintro e w2 ⟨rfl, hb⟩; exact ⟨rfl, h1.trans (hb.mono h1.size)⟩) | (go_at_call 120; refine (HW.out w1 h1).mono ?_; rintro e w2 ⟨rfl, hb⟩; exact ⟨rfl, h1.trans (hb.mono h1.size)⟩) | (with_reducible rfl) | (simp only [HL6.out w1 h1]; exact ⟨rfl, rfl⟩) | (simp only [HL7.out w1 h1]; exact ⟨rfl, rfl⟩)); go_big_quiet_on)))
        refine wpQuiet_nil ?_
        intro wz hz
        have HZ := Lib.hid hz
        clear hz
        go_wp2
        go_ret
        exact ⟨ret_bool (by rw [HR.out, HS.out, H1.out, H2.out]; rfl), HZ.out⟩
      · have H2 := Lib.hid h2
        rw [h2] at HW
        clear h2
        go_enter Tryd.func116, Tryd.ntmps116
        go_wp2_with fail
        refine wp_region_quiet (C := fun w' => Below w.heap.size w w') mixed0 (by kernel_rfl) (Below.refl _ _).drew ?_
        simp only []
        repeat (first | go_big_quiet_skip | (go_big_quiet_want; go_big_quiet_op; first | go_big_quiet_on | (apply Exists.intro; refine ⟨?_, ?_⟩; (intro w1 h1; first | (go_at_call 119; refine (HT.out w1 ((HBLK.out w1 h1).cell 1 _ rfl)).mono ?_; rintro e w2 ⟨rfl, rfl⟩; exact ⟨rfl, h1⟩) | (go_at_call 90; refine (HC.out w1 h1).mono ?_; rintro e w2 ⟨rfl, hb⟩; exact ⟨rfl, h1.trans (hb.mono h1.size)⟩) | (go_at_call 120; refine (HW.out w1 h1).mono ?_; rintro e w2 ⟨rfl, hb⟩; exact ⟨rfl, h1.trans (hb.mono h1.size)⟩) | (with_reducible rfl) | (simp only [HL6.out w1 h1]; exact ⟨rfl, rfl⟩) | (simp only [HL7.out w1 h1]; exact ⟨rfl, rfl⟩)); go_big_quiet_on)))
        refine wpQuiet_nil ?_
        intro wz hz
        have HZ := Lib.hid hz
        clear hz
        go_wp2
        all_goals go_ret
        all_goals
          refine ⟨ret_bool ?_, HZ.out⟩
          rw [HR.out, HS.out, H1.out, H2.out]
          simp
          try omega
  · have HS : Hid (decide (0 < m.seq) = false) := decide_eq_false hs
    rw [HS.out] at HT
    clear hs
    go_enter Tryd.func116, Tryd.ntmps116
    go_wp2_with fail
    refine wp_region_quiet (C := fun w' => Below w.heap.size w w') mixed0 (by kernel_rfl) (Below.refl _ _).drew ?_
    simp only []
    repeat (first | go_big_quiet_skip | (go_big_quiet_want; go_big_quiet_op; first | go_big_quiet_on | (apply Exists.intro; refine ⟨?_, ?_⟩; (intro w1 h1; first | (go_at_call 119; refine (HT.out w1 ((HBLK.out w1 h1).cell 1 _ rfl)).mono ?_; rintro e w2 ⟨rfl, rfl⟩; exact ⟨rfl, h1⟩) | (go_at_call 90; refine (HC.out w1 h1).mono ?_; rintro e w2 ⟨rfl, hb⟩; exact ⟨rfl, h1.trans (hb.mono h1.size)⟩) | (go_at_call 120; refine (HW.out w1 h1).mono ?_; rintro e w2 ⟨rfl, hb⟩; exact ⟨rfl, h1.trans (hb.mono h1.size)⟩) | (with_reducible rfl) | (simp only [HL6.out w1 h1]; exact ⟨rfl, rfl⟩) | (simp only [HL7.out w1 h1]; exact ⟨rfl, rfl⟩)); go_big_quiet_on)))
    refine wpQuiet_nil ?_
    intro wz hz
    have HZ := Lib.hid hz
    clear hz
    go_wp2
    go_ret
    exact ⟨ret_bool (by rw [HR.out, HS.out]; rfl), HZ.out⟩
end Go.Proofs.YtklhhpnibeejeaaDoor
