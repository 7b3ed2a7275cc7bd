/-
  WHAT A LIST OF A MESSAGE MUST BE: goodWrites. Printed by gen_msggood.py.
-/
import Derived.Test.YtklhhpnibeejeaaDoorMsgGood
import Derived.BigQuiet
namespace Go.Proofs.YtklhhpnibeejeaaDoor
open Go.RowKit
set_option linter.unusedVariables false

set_option maxHeartbeats 20000000 in
set_option maxRecDepth 100000 in
theorem goodWrites_any (ao : Option Addr) (ta : List (ByteArray × Bool × ByteArray)) (ca : Nat) (ha : ta.length ≤ 140737488355328) (hs : ∀ x ∈ ta, x.1.size ≤ maxLen ∧ x.2.2.size ≤ maxLen) (w : World) (hA : WrsAt w ao ta) :
    Calls Tryd.prog 120 #[.slice ao ta.length ca] w fun e w' => e = .returned (.bool (writesOK ta)) ∧ Below w.heap.size w w' := by
  obtain ⟨n, hn⟩ : ∃ n, n = ta.length := ⟨_, rfl⟩
  rw [← hn]
  rw [← hn] at ha
  have HN := Lib.hid hn
  have HA := Lib.hid hA
  have HS := Lib.hid hs
  clear hn hA hs
  go_enter Tryd.func120, Tryd.ntmps120
  go_wp2
  go_loopw [7] (fun x wr => ∃ k : Nat, k ≤ n ∧ x = .int .i64 k ∧ Hid (∀ j, j < k → writeAt ta j = true) ∧ Below w.heap.size w wr) (fun x _ => n - (intOf x).toNat)
  case atStart => exact ⟨0, Nat.zero_le _, by go_num, fun j h => absurd h (by omega), Below.refl _ _⟩
  case round =>
    obtain ⟨k, hk, rfl, hsame, hB⟩ := hrel
    have HB := Lib.hid hB
    by_cases hkn : k < n
    · have hka : k < ta.length := by have := HN.out; omega
      obtain ⟨b1, o1, rfl, hc1⟩ := (HA.out.below hB (Nat.le_refl _)).at k hka
      obtain ⟨s, hs⟩ : ∃ s, s = ta[k] := ⟨_, rfl⟩
      have c0 : wr.cell? ⟨b1, o1 + k * 3, none⟩ = some (.string s.1) := by rw [hs]; exact (hc1 k hka).1
      have c1 : wr.cell? ⟨b1, o1 + k * 3 + 1, none⟩ = some (.bool s.2.1) := by rw [hs]; exact (hc1 k hka).2.1
      have c2 : wr.cell? ⟨b1, o1 + k * 3 + 2, none⟩ = some (.string s.2.2) := by rw [hs]; exact (hc1 k hka).2.2
      have i0 : (0 : Int) ≤ (k : Int) := by omega
      have i1 : (k : Int) < (n : Int) := by omega
      have HSZ : Hid (s.1.size ≤ maxLen ∧ s.2.2.size ≤ maxLen) := by rw [hs]; exact HS.out _ (List.getElem_mem hka)
      have k2 : s.2.2.size ≤ 9223372036854775807 := by have := HSZ.out.2; unfold maxLen at this; omega
      have HW := Lib.hid (writeAt_at (show ta[k]? = some s by rw [hs]; exact List.getElem?_eq_getElem hka))
      have HKA := Lib.hid hka
      have HKEY := Lib.hid (fun w => key_any s.1 HSZ.out.1 w)
      obtain ⟨y, hy⟩ : ∃ y, y = goodKeyL s.1 := ⟨_, rfl⟩
      rw [← hy] at HKEY HW
      have HC1 := Lib.hid hc1
      clear hy hc1 hs hka hB
      go_wp2_with fail
      obtain ⟨W, hW⟩ : ∃ W, W = (wr.alloc (Obj.cells #[Value.string s.1, Value.bool s.2.1, Value.string s.2.2] 80)) := ⟨_, rfl⟩
      have p0 : W.cell? ⟨wr.heap.size, 0, none⟩ = some (.string s.1) := by rw [hW]; go_cell
      have p1 : W.cell? ⟨wr.heap.size, 1, none⟩ = some (.bool s.2.1) := by rw [hW]; go_cell
      have p2 : W.cell? ⟨wr.heap.size, 2, none⟩ = some (.string s.2.2) := by rw [hW]; go_cell
      have HBW : Hid (Below w.heap.size w W) := by rw [hW]; exact HB.out.alloc HB.out.size _
      have HBV : Hid (Below wr.heap.size wr W) := by rw [hW]; exact (Below.refl _ _).alloc (Nat.le_refl _) _
      rw [← hW]
      clear hW c0 c1 c2
      cases y
      · go_quiet (exact Calls.quiet_of_same (HKEY.out _))
        go_wp2
        go_ret
        exact ⟨ret_bool (by rw [writesOK_not HKA.out (by rw [HW.out]; simp [])]), below_drewN HBW.out _⟩
      by_cases h64 : 64 < s.2.2.size
      · have j64 : (64 : Int) < (s.2.2.size : Int) := by omega
        have H64 := Lib.hid h64
        clear h64
        go_quiet (exact Calls.quiet_of_same (HKEY.out _))
        go_wp2
        go_ret
        exact ⟨ret_bool (by rw [writesOK_not HKA.out (by rw [HW.out]; simp [Nat.not_le.2 H64.out])]), below_drewN HBW.out _⟩
      have j64 : ¬ (64 : Int) < (s.2.2.size : Int) := by omega
      have H64 : Hid (s.2.2.size ≤ 64) := Nat.not_lt.1 h64
      clear h64
      by_cases hd : s.2.1 = true
      · have HD := Lib.hid hd
        by_cases hv : s.2.2.toList = []
        · have HV := Lib.hid hv
          by_cases hk0 : k = 0
          · have kz : ¬ ((0 : Int) < (k : Int)) := by omega
            have kz2 : ¬ 0 < k := by omega
            have HK0 := Lib.hid hk0
            clear hk0
            go_quiet (exact Calls.quiet_of_same (HKEY.out _))
            go_wp2
            go_roundw
            case rel =>
              refine ⟨k + 1, by omega, by go_num, fun j h => ?_, below_drewN HBW.out _⟩
              by_cases e : j = k
              · rw [e, HW.out]; simp [HV.out, H64.out, HK0.out]
              · exact hsame.out j (by omega)
            case measure => simp [intOf]; omega
          have kz : (0 : Int) < (k : Int) := by omega
          have kz2 : 0 < k := by omega
          obtain ⟨j, hj⟩ : ∃ j, j + 1 = k := ⟨k - 1, by omega⟩
          have hjn : j < ta.length := by have := HKA.out; omega
          obtain ⟨t, ht⟩ : ∃ t, t = ta[j] := ⟨_, rfl⟩
          have hcj : wr.cell? ⟨b1, o1 + j * 3, none⟩ = some (.string t.1) := by rw [ht]; exact (HC1.out j hjn).1
          have q0 : W.cell? ⟨b1, o1 + j * 3, none⟩ = some (.string t.1) := (HBV.out.cell (p := ⟨b1, o1 + j * 3, none⟩) (World.block_lt_of_cell? wr ⟨b1, o1 + j * 3, none⟩ hcj)).trans hcj
          have HL : Hid ((ta[k - 1]?.map fun y => y.1.toList).getD [] = t.1.toList) := by
            show _ = _
            rw [show k - 1 = j by omega, List.getElem?_eq_getElem hjn, ← ht]; rfl
          have hw1 : IntKind.i64.wrap ((k : Int) - 1) = (j : Int) := wrap_pred hj (by omega)
          have i2 : (0 : Int) ≤ (j : Int) := by omega
          have i3 : (j : Int) < (n : Int) := by omega
          have i4 : j < n := by omega
          have HKZ : Hid (¬ k = 0) := hk0
          clear hj hjn ht hcj hk0
          by_cases hless : Op.bytesLess t.1.toList s.1.toList = true
          · have HLS := Lib.hid hless
            go_quiet (exact Calls.quiet_of_same (HKEY.out _))
            go_wp2
            go_roundw
            case rel =>
              refine ⟨k + 1, by omega, by go_num, fun j h => ?_, below_drewN HBW.out _⟩
              by_cases e : j = k
              · rw [e, HW.out]; simp [HV.out, H64.out, HKZ.out, HL.out, HLS.out]
              · exact hsame.out j (by omega)
            case measure => simp [intOf]; omega
          · have HLS : Hid (Op.bytesLess t.1.toList s.1.toList = false) := by rw [Bool.not_eq_true] at hless; exact hless
            have hless2 := HLS.out
            clear hless
            go_quiet (exact Calls.quiet_of_same (HKEY.out _))
            go_wp2
            go_ret
            exact ⟨ret_bool (by rw [writesOK_not HKA.out (by rw [HW.out]; simp [HV.out, HKZ.out, HL.out, HLS.out])]), below_drewN HBW.out _⟩
        · have HV : Hid ((s.2.2.toList == []) = false) := by show _ = _; rw [beq_eq_false_iff_ne]; exact hv
          have hv2 : s.2.2.toList.isEmpty = false := by rw [List.isEmpty_eq_false_iff]; exact hv
          clear hv
          go_quiet (exact Calls.quiet_of_same (HKEY.out _))
          go_wp2
          go_ret
          exact ⟨ret_bool (by rw [writesOK_not HKA.out (by rw [HW.out]; simp [HD.out, HV.out])]), below_drewN HBW.out _⟩
      · have HD : Hid (s.2.1 = false) := by rw [Bool.not_eq_true] at hd; exact hd
        have hd2 := HD.out
        clear hd
        by_cases hk0 : k = 0
        · have kz : ¬ ((0 : Int) < (k : Int)) := by omega
          have kz2 : ¬ 0 < k := by omega
          have HK0 := Lib.hid hk0
          clear hk0
          go_quiet (exact Calls.quiet_of_same (HKEY.out _))
          go_wp2
          go_roundw
          case rel =>
            refine ⟨k + 1, by omega, by go_num, fun j h => ?_, below_drewN HBW.out _⟩
            by_cases e : j = k
            · rw [e, HW.out]; simp [HD.out, H64.out, HK0.out]
            · exact hsame.out j (by omega)
          case measure => simp [intOf]; omega
        have kz : (0 : Int) < (k : Int) := by omega
        have kz2 : 0 < k := by omega
        obtain ⟨j, hj⟩ : ∃ j, j + 1 = k := ⟨k - 1, by omega⟩
        have hjn : j < ta.length := by have := HKA.out; omega
        obtain ⟨t, ht⟩ : ∃ t, t = ta[j] := ⟨_, rfl⟩
        have hcj : wr.cell? ⟨b1, o1 + j * 3, none⟩ = some (.string t.1) := by rw [ht]; exact (HC1.out j hjn).1
        have q0 : W.cell? ⟨b1, o1 + j * 3, none⟩ = some (.string t.1) := (HBV.out.cell (p := ⟨b1, o1 + j * 3, none⟩) (World.block_lt_of_cell? wr ⟨b1, o1 + j * 3, none⟩ hcj)).trans hcj
        have HL : Hid ((ta[k - 1]?.map fun y => y.1.toList).getD [] = t.1.toList) := by
          show _ = _
          rw [show k - 1 = j by omega, List.getElem?_eq_getElem hjn, ← ht]; rfl
        have hw1 : IntKind.i64.wrap ((k : Int) - 1) = (j : Int) := wrap_pred hj (by omega)
        have i2 : (0 : Int) ≤ (j : Int) := by omega
        have i3 : (j : Int) < (n : Int) := by omega
        have i4 : j < n := by omega
        have HKZ : Hid (¬ k = 0) := hk0
        clear hj hjn ht hcj hk0
        by_cases hless : Op.bytesLess t.1.toList s.1.toList = true
        · have HLS := Lib.hid hless
          go_quiet (exact Calls.quiet_of_same (HKEY.out _))
          go_wp2
          go_roundw
          case rel =>
            refine ⟨k + 1, by omega, by go_num, fun j h => ?_, below_drewN HBW.out _⟩
            by_cases e : j = k
            · rw [e, HW.out]; simp [HD.out, H64.out, HKZ.out, HL.out, HLS.out]
            · exact hsame.out j (by omega)
          case measure => simp [intOf]; omega
        · have HLS : Hid (Op.bytesLess t.1.toList s.1.toList = false) := by rw [Bool.not_eq_true] at hless; exact hless
          have hless2 := HLS.out
          clear hless
          go_quiet (exact Calls.quiet_of_same (HKEY.out _))
          go_wp2
          go_ret
          exact ⟨ret_bool (by rw [writesOK_not HKA.out (by rw [HW.out]; simp [HD.out, HKZ.out, HL.out, HLS.out])]), below_drewN HBW.out _⟩
    · have hnk : n ≤ k := by omega
      have HT := Lib.hid (writesOK_all (l := ta) (fun j hj => hsame.out j (by have := HN.out; omega)))
      clear hkn hB
      go_wp2
      go_ret
      refine ⟨ret_bool ?_, HB.out⟩
      rw [HT.out, ← HN.out, decide_eq_decide]
      omega
end Go.Proofs.YtklhhpnibeejeaaDoor
