/-
  THE REFERENCE: pairs. Printed by gen_msgref.py.
-/
import Derived.Test.YtklhhpnibeejeaaDoorMsgRefA
namespace Go.Proofs.YtklhhpnibeejeaaDoor
open Go.RowKit
set_option linter.unusedVariables false

set_option maxHeartbeats 8000000 in
set_option maxRecDepth 100000 in
theorem rpairs_any (ao : Option Addr) (ta : List (ByteArray × ByteArray)) (ca : Nat) (ha : ta.length ≤ 140737488355328) (hs : ∀ x ∈ ta, x.1.size ≤ maxLen ∧ x.2.size ≤ maxLen) (w : World) (hA : TwosAt w ao ta) :
    Calls Tryd.prog 34 #[.slice ao ta.length ca] w fun e w' => e = .returned (.bool (pairsOK ta)) ∧ ∃ q, w' = w.drewN q := by
  obtain ⟨n, hn⟩ : ∃ n, n = ta.length := ⟨_, rfl⟩
  rw [← hn]
  rw [← hn] at ha
  have HN := Lib.hid hn
  have HA := Lib.hid hA
  have HS := Lib.hid hs
  clear hn hA hs
  go_enter Tryd.func34, Tryd.ntmps34
  go_wp2
  go_loopw [3] (fun x wr => ∃ k : Nat, k ≤ n ∧ x = .int .i64 k ∧ Hid (∀ j, j < k → pairAt ta j = true) ∧ ∃ q, wr = w.drewN q) (fun x _ => n - (intOf x).toNat)
  case atStart => exact ⟨0, Nat.zero_le _, by go_num, fun j h => absurd h (by omega), 0, rfl⟩
  case round =>
    obtain ⟨k, hk, rfl, hsame, q, rfl⟩ := hrel
    by_cases hkn : k < n
    · have hka : k < ta.length := by have := HN.out; omega
      obtain ⟨b1, o1, rfl, hc1⟩ := HA.out.at k hka
      obtain ⟨s, hs⟩ : ∃ s, s = ta[k] := ⟨_, rfl⟩
      have c0 : w.cell? ⟨b1, o1 + k * 2, none⟩ = some (.string s.1) := by rw [hs]; exact (hc1 k hka).1
      have c1 : w.cell? ⟨b1, o1 + k * 2 + 1, none⟩ = some (.string s.2) := by rw [hs]; exact (hc1 k hka).2
      have i0 : (0 : Int) ≤ (k : Int) := by omega
      have i1 : (k : Int) < (n : Int) := by omega
      have HSZ : Hid (s.1.size ≤ maxLen ∧ s.2.size ≤ maxLen) := by rw [hs]; exact HS.out _ (List.getElem_mem hka)
      have k1 : s.1.size ≤ 9223372036854775807 := by have := HSZ.out.1; unfold maxLen at this; omega
      have k2 : s.2.size ≤ 9223372036854775807 := by have := HSZ.out.2; unfold maxLen at this; omega
      have HKA := Lib.hid hka
      have HSK : Hid (ta[k]? = some s) := by show _ = _; rw [hs]; exact List.getElem?_eq_getElem hka
      have HW := Lib.hid (pairAt_at HSK.out)
      have HKEY := Lib.hid (fun w => rkey_any s.1 HSZ.out.1 w)
      obtain ⟨y, hy⟩ : ∃ y, y = goodKeyL s.1 := ⟨_, rfl⟩
      rw [← hy] at HKEY HW
      have HC1 := Lib.hid hc1
      clear hy hc1 hs hka
      go_wp2_with fail
      refine (HKEY.out _).mono ?_
      rintro e w1 ⟨rfl, rfl⟩
      go_wp2_with fail
      cases y
      · go_quiet (fail)
        go_wp2
        go_ret
        exact ⟨ret_bool (by rw [pairsOK_not HKA.out (by rw [HW.out]; simp [])]), by first | exact ⟨_, World.drewN_drewN _ _ _⟩ | exact ⟨_, rfl⟩⟩
      by_cases h64 : 64 < s.2.size
      · have j64 : (64 : Int) < (s.2.size : Int) := by omega
        have H64 := Lib.hid h64
        clear h64
        go_quiet (fail)
        go_wp2
        go_ret
        exact ⟨ret_bool (by rw [pairsOK_not HKA.out (by rw [HW.out]; simp [Nat.not_le.2 H64.out])]), by first | exact ⟨_, World.drewN_drewN _ _ _⟩ | exact ⟨_, rfl⟩⟩
      have j64 : ¬ (64 : Int) < (s.2.size : Int) := by omega
      have H64 : Hid (s.2.size ≤ 64) := Nat.not_lt.1 h64
      clear h64
      by_cases hk0 : k = 0
      · have kz : ¬ ((0 : Int) < (k : Int)) := by omega
        have kz2 : ¬ 0 < k := by omega
        have HK0 := Lib.hid hk0
        clear hk0
        go_quiet (fail)
        go_wp2
        go_roundw
        case rel =>
          refine ⟨k + 1, by omega, by go_num, fun j h => ?_, by first | exact ⟨_, World.drewN_drewN _ _ _⟩ | exact ⟨_, rfl⟩⟩
          by_cases e : j = k
          · rw [e, HW.out]; simp [H64.out, HK0.out]
          · exact hsame.out j (by omega)
        case measure => simp [intOf]; omega
      have kz : (0 : Int) < (k : Int) := by omega
      have kz2 : 0 < k := by omega
      obtain ⟨j, hj⟩ : ∃ j, j + 1 = k := ⟨k - 1, by omega⟩
      have hjn : j < ta.length := by have := HKA.out; omega
      obtain ⟨t, ht⟩ : ∃ t, t = ta[j] := ⟨_, rfl⟩
      have q0 : w.cell? ⟨b1, o1 + j * 2, none⟩ = some (.string t.1) := by rw [ht]; exact (HC1.out j hjn).1
      have HL : Hid ((ta[k - 1]?.map fun y => y.1.toList).getD [] = t.1.toList) := by
        show _ = _
        rw [show k - 1 = j by omega, List.getElem?_eq_getElem hjn, ← ht]; rfl
      have hw1 : IntKind.i64.wrap ((k : Int) - 1) = (j : Int) := wrap_pred hj (by omega)
      have i2 : (0 : Int) ≤ (j : Int) := by omega
      have i3 : (j : Int) < (n : Int) := by omega
      have i4 : j < n := by omega
      have HKZ : Hid (¬ k = 0) := hk0
      clear hj hjn ht hk0
      by_cases hless : Op.bytesLess t.1.toList s.1.toList = true
      · have HLS := Lib.hid hless
        go_quiet (fail)
        go_wp2
        go_roundw
        case rel =>
          refine ⟨k + 1, by omega, by go_num, fun j h => ?_, by first | exact ⟨_, World.drewN_drewN _ _ _⟩ | exact ⟨_, rfl⟩⟩
          by_cases e : j = k
          · rw [e, HW.out]; simp [H64.out, HKZ.out, HL.out, HLS.out]
          · exact hsame.out j (by omega)
        case measure => simp [intOf]; omega
      · have HLS : Hid (Op.bytesLess t.1.toList s.1.toList = false) := by rw [Bool.not_eq_true] at hless; exact hless
        have hless2 := HLS.out
        clear hless
        go_quiet (fail)
        go_wp2
        go_ret
        exact ⟨ret_bool (by rw [pairsOK_not HKA.out (by rw [HW.out]; simp [HKZ.out, HL.out, HLS.out])]), by first | exact ⟨_, World.drewN_drewN _ _ _⟩ | exact ⟨_, rfl⟩⟩
    · have hnk : n ≤ k := by omega
      have HT := Lib.hid (pairsOK_all (l := ta) (fun j hj => hsame.out j (by have := HN.out; omega)))
      clear hkn
      go_wp2
      go_ret
      refine ⟨ret_bool ?_, q, rfl⟩
      rw [HT.out, ← HN.out, decide_eq_decide]
      omega
end Go.Proofs.YtklhhpnibeejeaaDoor
