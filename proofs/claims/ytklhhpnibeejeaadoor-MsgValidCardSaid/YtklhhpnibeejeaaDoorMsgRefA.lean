/-
  THE REFERENCE: key, reads. Printed by gen_msgref.py.
-/
import Derived.Test.YtklhhpnibeejeaaDoorMsgGood
import Derived.BigQuiet
namespace Go.Proofs.YtklhhpnibeejeaaDoor
open Go.RowKit
set_option linter.unusedVariables false

set_option maxRecDepth 100000 in
theorem rkey_any (a : ByteArray) (ha : a.size ≤ maxLen) (w : World) :
    Calls Tryd.prog 50 #[.string a] w fun e w' => e = .returned (.bool (goodKeyL a)) ∧ w' = w := by
  have k1 : a.size ≤ 9223372036854775807 := by unfold maxLen at ha; omega
  clear ha
  go_enter Tryd.func50, Tryd.ntmps50
  go_wp2
  all_goals go_ret
  all_goals
    refine ⟨ret_bool ?_, rfl⟩
    rw [Bool.eq_iff_iff]
    simp [goodKeyL]
    try omega
theorem spansOK_not {l : List (ByteArray × ByteArray)} {k : Nat} {x : ByteArray × ByteArray} (hk : l[k]? = some x) (h : bad2 x = true) : spansOK l = false := by
  unfold spansOK
  rw [Bool.and_eq_false_iff]
  right
  rw [Bool.not_eq_false', List.any_eq_true]
  exact ⟨x, List.mem_of_getElem? hk, h⟩
theorem spansOK_all {l : List (ByteArray × ByteArray)} (h : ∀ k, k < l.length → ∀ x, l[k]? = some x → bad2 x = false) : spansOK l = decide (l.length ≤ 16) := by
  unfold spansOK
  have : l.any bad2 = false := by
    rw [List.any_eq_false]
    intro x hx
    obtain ⟨j, hj, e⟩ := List.getElem_of_mem hx
    rw [h j hj x (by rw [← e]; exact List.getElem?_eq_getElem hj)]
    simp
  rw [this]
  simp
set_option maxHeartbeats 8000000 in
set_option maxRecDepth 100000 in
theorem rreads_any (ao : Option Addr) (ta : List (ByteArray × ByteArray)) (ca : Nat) (ha : ta.length ≤ 140737488355328) (hs : ∀ x ∈ ta, x.1.size ≤ maxLen ∧ x.2.size ≤ maxLen) (w : World) (hA : TwosAt w ao ta) :
    Calls Tryd.prog 32 #[.slice ao ta.length ca] w fun e w' => e = .returned (.bool (spansOK ta)) ∧ ∃ q, w' = w.drewN q := by
  obtain ⟨n, hn⟩ : ∃ n, n = ta.length := ⟨_, rfl⟩
  rw [← hn]
  rw [← hn] at ha
  have HN := Lib.hid hn
  have HA := Lib.hid hA
  have HS := Lib.hid hs
  clear hn hA hs
  go_enter Tryd.func32, Tryd.ntmps32
  go_wp2
  go_loopw [3] (fun x wr => ∃ k : Nat, k ≤ n ∧ x = .int .i64 k ∧ Hid (∀ j, j < k → ∀ x, ta[j]? = some x → bad2 x = false) ∧ ∃ q, wr = w.drewN q) (fun x _ => n - (intOf x).toNat)
  case atStart => exact ⟨0, Nat.zero_le _, by go_num, fun j h => absurd h (by omega), 0, rfl⟩
  case round =>
    obtain ⟨k, hk, rfl, hsame, q, rfl⟩ := hrel
    by_cases hkn : k < n
    · have hka : k < ta.length := by have := HN.out; omega
      obtain ⟨b1, o1, rfl, hc1⟩ := HA.out.at k hka
      obtain ⟨s, hs⟩ : ∃ s, s = ta[k] := ⟨_, rfl⟩
      have c0 : w.cell? ⟨b1, o1 + k * 2, none⟩ = some (.string s.1) := by rw [hs]; exact (hc1 k hka).1
      have c1 : w.cell? ⟨b1, o1 + k * 2 + 1, none⟩ = some (.string s.2) := by rw [hs]; exact (hc1 k hka).2
      have i0 : (0 : Int) ≤ (k : Int) := by omega
      have i1 : (k : Int) < (n : Int) := by omega
      have HSZ : Hid (s.1.size ≤ maxLen ∧ s.2.size ≤ maxLen) := by rw [hs]; exact HS.out _ (List.getElem_mem hka)
      have k1 : s.1.size ≤ 9223372036854775807 := by have := HSZ.out.1; unfold maxLen at this; omega
      have k2 : s.2.size ≤ 9223372036854775807 := by have := HSZ.out.2; unfold maxLen at this; omega
      have HKA := Lib.hid hka
      have HSK : Hid (ta[k]? = some s) := by show _ = _; rw [hs]; exact List.getElem?_eq_getElem hka
      clear hc1 hs hka
      go_wp2_with fail
      by_cases h1 : 33 < s.1.size
      · have j1 : (33 : Int) < (s.1.size : Int) := by omega
        have H1 := Lib.hid h1
        clear h1
        go_quiet (fail)
        go_wp2
        go_ret
        exact ⟨ret_bool (by rw [spansOK_not HSK.out (by simp [bad2, H1.out])]), by first | exact ⟨_, World.drewN_drewN _ _ _⟩ | exact ⟨_, rfl⟩⟩
      have j1 : ¬ (33 : Int) < (s.1.size : Int) := by omega
      have H1 : Hid (¬ 33 < s.1.size) := h1
      clear h1
      by_cases h2 : 33 < s.2.size
      · have j2 : (33 : Int) < (s.2.size : Int) := by omega
        have H2 := Lib.hid h2
        clear h2
        go_quiet (fail)
        go_wp2
        go_ret
        exact ⟨ret_bool (by rw [spansOK_not HSK.out (by simp [bad2, H2.out])]), by first | exact ⟨_, World.drewN_drewN _ _ _⟩ | exact ⟨_, rfl⟩⟩
      have j2 : ¬ (33 : Int) < (s.2.size : Int) := by omega
      have H2 : Hid (¬ 33 < s.2.size) := h2
      clear h2
      by_cases hv : s.2.toList = []
      · have HV := Lib.hid hv
        have hv2 : s.2.toList.isEmpty = true := by rw [hv]; rfl
        go_quiet (fail)
        go_wp2
        go_roundw
        case rel =>
          refine ⟨k + 1, by omega, by go_num, fun j h => ?_, by first | exact ⟨_, World.drewN_drewN _ _ _⟩ | exact ⟨_, rfl⟩⟩
          by_cases e : j = k
          · subst e; intro x hx; rw [HSK.out] at hx; cases hx; simp [bad2, H1.out, H2.out, HV.out]
          · exact hsame.out j (by omega)
        case measure => simp [intOf]; omega
      have HV : Hid ((s.2.toList == []) = false) := by show _ = _; rw [beq_eq_false_iff_ne]; exact hv
      have hv2 : s.2.toList.isEmpty = false := by rw [List.isEmpty_eq_false_iff]; exact hv
      clear hv
      by_cases hless : Op.bytesLess s.1.toList s.2.toList = true
      · have HLS := Lib.hid hless
        go_quiet (fail)
        go_wp2
        go_roundw
        case rel =>
          refine ⟨k + 1, by omega, by go_num, fun j h => ?_, by first | exact ⟨_, World.drewN_drewN _ _ _⟩ | exact ⟨_, rfl⟩⟩
          by_cases e : j = k
          · subst e; intro x hx; rw [HSK.out] at hx; cases hx; simp [bad2, H1.out, H2.out, HLS.out]
          · exact hsame.out j (by omega)
        case measure => simp [intOf]; omega
      · have HLS : Hid (Op.bytesLess s.1.toList s.2.toList = false) := by rw [Bool.not_eq_true] at hless; exact hless
        have hless2 := HLS.out
        clear hless
        go_quiet (fail)
        go_wp2
        go_ret
        exact ⟨ret_bool (by rw [spansOK_not HSK.out (by have := HV.out; simp_all [bad2, HLS.out])]), by first | exact ⟨_, World.drewN_drewN _ _ _⟩ | exact ⟨_, rfl⟩⟩
    · have hnk : n ≤ k := by omega
      have HT := Lib.hid (spansOK_all (l := ta) (fun j hj => hsame.out j (by have := HN.out; omega)))
      clear hkn
      go_wp2
      go_ret
      refine ⟨ret_bool ?_, q, rfl⟩
      rw [HT.out, ← HN.out, decide_eq_decide]
      omega
end Go.Proofs.YtklhhpnibeejeaaDoor
