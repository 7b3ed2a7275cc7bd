/-
  WHAT A LIST OF A MESSAGE MUST BE: goodReads, goodWrites, goodPairs.
-/
import Derived.Test.YtklhhpnibeejeaaDoorMsgEq
namespace Go.Proofs.YtklhhpnibeejeaaDoor
open Go.RowKit
set_option linter.unusedVariables false

theorem ret_bool {a b : Bool} (h : a = b) : Ending.returned (.bool a) = .returned (.bool b) := by rw [h]
theorem cast33 (n : Nat) : decide ((33 : Int) < (n : Int)) = decide (33 < n) := by rw [decide_eq_decide]; omega
theorem isEmpty_dec (l : List UInt8) : l.isEmpty = decide (l = []) := by cases l <;> rfl
set_option maxRecDepth 100000 in
theorem bad_any (a b : ByteArray) (ha : a.size ≤ maxLen) (hb : b.size ≤ maxLen) (w : World) :
    Calls Tryd.prog 95 #[.agg #[.string a, .string b]] w fun e w' => e = .returned (.bool (bad2 (a, b))) ∧ Below w.heap.size w w' := by
  have k1 : a.size ≤ 9223372036854775807 := by unfold maxLen at ha; omega
  have k2 : b.size ≤ 9223372036854775807 := by unfold maxLen at hb; omega
  clear ha hb
  go_enter Tryd.func95, Tryd.ntmps95
  go_wp2
  all_goals go_ret
  all_goals
    refine ⟨ret_bool ?_, (Below.refl _ _).alloc (Nat.le_refl _) _⟩
    simp only [bad2, cast33] at *
    simp_all [isEmpty_dec]
    try omega
set_option maxRecDepth 100000 in
theorem key_any (a : ByteArray) (ha : a.size ≤ maxLen) (w : World) :
    Calls Tryd.prog 115 #[.string a] w fun e w' => e = .returned (.bool (goodKeyL a)) ∧ w' = w := by
  have k1 : a.size ≤ 9223372036854775807 := by unfold maxLen at ha; omega
  clear ha
  go_enter Tryd.func115, Tryd.ntmps115
  go_wp2
  all_goals go_ret
  all_goals
    refine ⟨ret_bool ?_, rfl⟩
    simp only [goodKeyL]
    simp_all
    try omega
set_option maxRecDepth 100000 in
theorem index_any (ao : Option Addr) (ta : List (ByteArray × ByteArray)) (ca : Nat) (ha : ta.length ≤ 140737488355328) (hs : ∀ x ∈ ta, x.1.size ≤ maxLen ∧ x.2.size ≤ maxLen) (w : World) (hA : TwosAt w ao ta) :
    Calls Tryd.prog 104 #[.slice ao ta.length ca, .func (.func 95) #[] #[]] w fun e w' => (∃ i : Int, e = .returned (.int .i64 i) ∧ decide (0 ≤ i) = ta.any bad2) ∧ Below w.heap.size w w' := by
  obtain ⟨n, hn⟩ : ∃ n, n = ta.length := ⟨_, rfl⟩
  rw [← hn]
  rw [← hn] at ha
  have HN := Lib.hid hn
  have HA := Lib.hid hA
  have HS := Lib.hid hs
  clear hn hA hs
  go_enter Tryd.func104, Tryd.ntmps104
  go_wp2
  go_loopw [8] (fun x wr => ∃ k : Nat, k ≤ n ∧ x = .int .i64 k ∧ Hid (∀ j (hj : j < ta.length), j < k → bad2 ta[j] = false) ∧ Below w.heap.size w wr) (fun x _ => n - (intOf x).toNat)
  case atStart => exact ⟨0, Nat.zero_le _, by go_num, fun j hj h => absurd h (by omega), Below.refl _ _⟩
  case round =>
    obtain ⟨k, hk, rfl, hsame, hB⟩ := hrel
    have HB := Lib.hid hB
    by_cases hkn : k < n
    · have hka : k < ta.length := by have := HN.out; omega
      obtain ⟨b1, o1, rfl, hc1⟩ := (HA.out.below hB (Nat.le_refl _)).at k hka
      obtain ⟨s, hs⟩ : ∃ s, s = ta[k] := ⟨_, rfl⟩
      have c0 : wr.cell? ⟨b1, o1 + k * 2, none⟩ = some (.string s.1) := by rw [hs]; exact (hc1 k hka).1
      have c1 : wr.cell? ⟨b1, o1 + k * 2 + 1, none⟩ = some (.string s.2) := by rw [hs]; exact (hc1 k hka).2
      have i0 : (0 : Int) ≤ (k : Int) := by omega
      have i1 : (k : Int) < (n : Int) := by omega
      have HSZ : Hid (s.1.size ≤ maxLen ∧ s.2.size ≤ maxLen) := by rw [hs]; exact HS.out _ (List.getElem_mem hka)
      have HKA := Lib.hid hka
      have HSE : Hid (ta[k]'HKA.out = s) := hs.symm
      clear hc1 hs hka hB
      go_wp2_with fail
      refine (bad_any s.1 s.2 HSZ.out.1 HSZ.out.2 _).mono ?_
      rintro e w1 ⟨rfl, hb1⟩
      have HB1 : Hid (Below w.heap.size w w1) := HB.out.trans (hb1.mono HB.out.size)
      by_cases hbad : bad2 s = true
      · have HBAD := Lib.hid hbad
        rw [show bad2 (s.1, s.2) = true from hbad]
        clear hbad
        go_wp2
        go_ret
        refine ⟨⟨k, rfl, ?_⟩, HB1.out⟩
        rw [decide_eq_true (by omega), eq_comm, List.any_eq_true]
        exact ⟨s, by rw [← HSE.out]; exact List.getElem_mem _, HBAD.out⟩
      · have HBAD : Hid (bad2 s = false) := by rw [Bool.not_eq_true] at hbad; exact hbad
        rw [show bad2 (s.1, s.2) = false from HBAD.out]
        clear hbad
        go_wp2
        go_roundw
        case rel =>
          refine ⟨k + 1, by omega, by go_num, fun j hj h => ?_, HB1.out⟩
          by_cases e : j = k
          · subst e; rw [HSE.out]; exact HBAD.out
          · exact hsame.out j hj (by omega)
        case measure => simp [intOf]; omega
    · have hnk : n ≤ k := by omega
      have HT : Hid (ta.any bad2 = false) := by
        show _ = _
        rw [List.any_eq_false]
        intro x hx
        obtain ⟨j, hj, e⟩ := List.getElem_of_mem hx
        rw [← e, hsame.out j hj (by have := HN.out; omega)]
        simp
      clear hkn hB
      go_wp2
      go_ret
      exact ⟨⟨-1, rfl, by rw [HT.out]; rfl⟩, HB.out⟩
set_option maxRecDepth 100000 in
theorem contains_any (ao : Option Addr) (ta : List (ByteArray × ByteArray)) (ca : Nat) (ha : ta.length ≤ 140737488355328) (hs : ∀ x ∈ ta, x.1.size ≤ maxLen ∧ x.2.size ≤ maxLen) (w : World) (hA : TwosAt w ao ta) :
    Calls Tryd.prog 96 #[.slice ao ta.length ca, .func (.func 95) #[] #[]] w fun e w' => e = .returned (.bool (ta.any bad2)) ∧ Below w.heap.size w w' := by
  go_enter Tryd.func96, Tryd.ntmps96
  go_wp2_with fail
  refine (index_any ao ta ca ha hs w hA).mono ?_
  rintro e w1 ⟨⟨i, rfl, hi⟩, hb⟩
  go_wp2
  go_ret
  exact ⟨by rw [← hi]; rfl, hb⟩
set_option maxRecDepth 100000 in
theorem goodReads_any (ao : Option Addr) (ta : List (ByteArray × ByteArray)) (ca : Nat) (ha : ta.length ≤ 140737488355328) (hs : ∀ x ∈ ta, x.1.size ≤ maxLen ∧ x.2.size ≤ maxLen) (w : World) (hA : TwosAt w ao ta) :
    Calls Tryd.prog 90 #[.slice ao ta.length ca] w fun e w' => e = .returned (.bool (spansOK ta)) ∧ Below w.heap.size w w' := by
  obtain ⟨n, hn⟩ : ∃ n, n = ta.length := ⟨_, rfl⟩
  have HC := Lib.hid (fun w hA => contains_any ao ta ca ha hs w hA)
  rw [← hn] at HC
  rw [← hn]
  rw [← hn] at ha
  have HN := Lib.hid hn
  have HA := Lib.hid hA
  clear hn hA hs
  by_cases h16 : n ≤ 16
  · go_enter Tryd.func90, Tryd.ntmps90
    go_wp2_with fail
    refine (HC.out _ HA.out).mono ?_
    rintro e w1 ⟨rfl, hb⟩
    go_wp2
    go_ret
    refine ⟨ret_bool ?_, hb⟩
    unfold spansOK
    rw [← HN.out]
    simp [h16]
  · have h17 : 16 < n := by omega
    clear h16
    go_enter Tryd.func90, Tryd.ntmps90
    go_wp2
    go_ret
    refine ⟨ret_bool ?_, Below.refl _ _⟩
    unfold spansOK
    rw [← HN.out, decide_eq_false (by omega)]
    rfl

theorem writeAt_at {l : List (ByteArray × Bool × ByteArray)} {k : Nat} {x : ByteArray × Bool × ByteArray} (h : l[k]? = some x) :
    writeAt l k = (goodKeyL x.1 && decide (x.2.2.size ≤ 64) && !(x.2.1 && !(x.2.2.toList == [])) && (decide (k = 0) || Op.bytesLess ((l[k - 1]?.map fun y => y.1.toList).getD []) x.1.toList)) := by
  unfold writeAt; rw [h]
theorem pairAt_at {l : List (ByteArray × ByteArray)} {k : Nat} {x : ByteArray × ByteArray} (h : l[k]? = some x) :
    pairAt l k = (goodKeyL x.1 && decide (x.2.size ≤ 64) && (decide (k = 0) || Op.bytesLess ((l[k - 1]?.map fun y => y.1.toList).getD []) x.1.toList)) := by
  unfold pairAt; rw [h]
theorem writesOK_not {l : List (ByteArray × Bool × ByteArray)} {k : Nat} (hk : k < l.length) (h : writeAt l k = false) : writesOK l = false := by
  unfold writesOK
  rw [Bool.and_eq_false_iff, List.all_eq_false]
  exact Or.inr ⟨k, List.mem_range.2 hk, by rw [h]; simp⟩
theorem writesOK_all {l : List (ByteArray × Bool × ByteArray)} (h : ∀ k, k < l.length → writeAt l k = true) : writesOK l = decide (l.length ≤ 16) := by
  unfold writesOK
  rw [List.all_eq_true.2 (fun k hk => h k (List.mem_range.1 hk)), Bool.and_true]
theorem pairsOK_not {l : List (ByteArray × ByteArray)} {k : Nat} (hk : k < l.length) (h : pairAt l k = false) : pairsOK l = false := by
  unfold pairsOK
  rw [Bool.and_eq_false_iff, List.all_eq_false]
  exact Or.inr ⟨k, List.mem_range.2 hk, by rw [h]; simp⟩
theorem pairsOK_all {l : List (ByteArray × ByteArray)} (h : ∀ k, k < l.length → pairAt l k = true) : pairsOK l = decide (l.length ≤ 512) := by
  unfold pairsOK
  rw [List.all_eq_true.2 (fun k hk => h k (List.mem_range.1 hk)), Bool.and_true]
theorem Below.drewN {B : Nat} {a w : World} (h : Below B a w) (n : Nat) : Below B a (w.drewN n) := ⟨h.os, h.tape, h.output, h.size, h.block⟩
theorem wrap_pred {j k : Nat} (h : j + 1 = k) (hk : k ≤ 140737488355328) : IntKind.i64.wrap ((k : Int) - 1) = (j : Int) := by rw [IntKind.wrap_i64]; omega
theorem below_drewN {B : Nat} {a w : World} (h : Below B a w) (n : Nat) : Below B a (w.drewN n) := ⟨h.os, h.tape, h.output, h.size, h.block⟩
end Go.Proofs.YtklhhpnibeejeaaDoor
