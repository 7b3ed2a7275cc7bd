/-
  ROWS OF STRUCTS THAT CAME IN, AND slices.Equal over them. Printed by gen_msgeq.py.
-/
import Derived.Test.YtklhhpnibeejeaaDoorStrs
import Derived.Test.YtklhhpnibeejeaaDoorMsgL
import Derived.Handy
import Derived.Laws.StructEq
import Derived.Laws.Small
namespace Go.Proofs.YtklhhpnibeejeaaDoor
open Go.RowKit
set_option linter.unusedVariables false

theorem list_ext {α : Type} {a b : List α} (h : a.length = b.length) (hs : ∀ j, j < a.length → a[j]? = b[j]?) : a = b := by
  apply List.ext_getElem?
  intro j
  by_cases hj : j < a.length
  · exact hs j hj
  · rw [List.getElem?_eq_none (by omega), List.getElem?_eq_none (by omega)]
theorem str_ext {a b : ByteArray} (h : a.toList = b.toList) : a = b := by rw [← strL_of a, ← strL_of b, ← ByteArray.toList_eq, ← ByteArray.toList_eq, h]
/-- Rows of 2 cells. -/
def TwosAt (w : World) (ao : Option Addr) (l : List (ByteArray × ByteArray)) : Prop :=
  ∀ i (h : i < l.length), ∃ b off, ao = some ⟨b, off, none⟩ ∧ w.cell? ⟨b, off + i * 2, none⟩ = some (.string l[i].1) ∧ w.cell? ⟨b, off + i * 2 + 1, none⟩ = some (.string l[i].2)
theorem TwosAt.at {w : World} {ao : Option Addr} {l : List (ByteArray × ByteArray)} (h : TwosAt w ao l) (i : Nat) (hi : i < l.length) :
    ∃ b off, ao = some ⟨b, off, none⟩ ∧ ∀ j (hj : j < l.length), w.cell? ⟨b, off + j * 2, none⟩ = some (.string l[j].1) ∧ w.cell? ⟨b, off + j * 2 + 1, none⟩ = some (.string l[j].2) := by
  obtain ⟨b, off, e, _⟩ := h i hi
  refine ⟨b, off, e, fun j hj => ?_⟩
  obtain ⟨b', off', e', c⟩ := h j hj
  rw [e] at e'
  simp at e'
  obtain ⟨rfl, rfl⟩ := e'
  exact c
theorem TwosAt.below {w w' : World} {B : Nat} {ao : Option Addr} {l : List (ByteArray × ByteArray)} (h : TwosAt w ao l) (hb : Below B w w') (hB : w.heap.size ≤ B) : TwosAt w' ao l := by
  intro i hi
  obtain ⟨b, off, e, c0, c1⟩ := h i hi
  have hlt : b < w.heap.size := World.block_lt_of_cell? w ⟨b, off + i * 2, none⟩ c0
  exact ⟨b, off, e, (hb.cell (p := ⟨b, off + i * 2, none⟩) (by show b < B; omega)).trans c0, (hb.cell (p := ⟨b, off + i * 2 + 1, none⟩) (by show b < B; omega)).trans c1⟩
theorem TwosAt.drewN {w : World} {ao : Option Addr} {l : List (ByteArray × ByteArray)} (h : TwosAt w ao l) (k : Nat) : TwosAt (w.drewN k) ao l := h
theorem TwosAt.none {w : World} (ao : Option Addr) : TwosAt w ao [] := fun i h => absurd h (by simp)
/-- Rows of 3 cells. -/
def WrsAt (w : World) (ao : Option Addr) (l : List (ByteArray × Bool × ByteArray)) : Prop :=
  ∀ i (h : i < l.length), ∃ b off, ao = some ⟨b, off, none⟩ ∧ w.cell? ⟨b, off + i * 3, none⟩ = some (.string l[i].1) ∧ w.cell? ⟨b, off + i * 3 + 1, none⟩ = some (.bool l[i].2.1) ∧ w.cell? ⟨b, off + i * 3 + 2, none⟩ = some (.string l[i].2.2)
theorem WrsAt.at {w : World} {ao : Option Addr} {l : List (ByteArray × Bool × ByteArray)} (h : WrsAt w ao l) (i : Nat) (hi : i < l.length) :
    ∃ b off, ao = some ⟨b, off, none⟩ ∧ ∀ j (hj : j < l.length), w.cell? ⟨b, off + j * 3, none⟩ = some (.string l[j].1) ∧ w.cell? ⟨b, off + j * 3 + 1, none⟩ = some (.bool l[j].2.1) ∧ w.cell? ⟨b, off + j * 3 + 2, none⟩ = some (.string l[j].2.2) := by
  obtain ⟨b, off, e, _⟩ := h i hi
  refine ⟨b, off, e, fun j hj => ?_⟩
  obtain ⟨b', off', e', c⟩ := h j hj
  rw [e] at e'
  simp at e'
  obtain ⟨rfl, rfl⟩ := e'
  exact c
theorem WrsAt.below {w w' : World} {B : Nat} {ao : Option Addr} {l : List (ByteArray × Bool × ByteArray)} (h : WrsAt w ao l) (hb : Below B w w') (hB : w.heap.size ≤ B) : WrsAt w' ao l := by
  intro i hi
  obtain ⟨b, off, e, c0, c1, c2⟩ := h i hi
  have hlt : b < w.heap.size := World.block_lt_of_cell? w ⟨b, off + i * 3, none⟩ c0
  exact ⟨b, off, e, (hb.cell (p := ⟨b, off + i * 3, none⟩) (by show b < B; omega)).trans c0, (hb.cell (p := ⟨b, off + i * 3 + 1, none⟩) (by show b < B; omega)).trans c1, (hb.cell (p := ⟨b, off + i * 3 + 2, none⟩) (by show b < B; omega)).trans c2⟩
theorem WrsAt.drewN {w : World} {ao : Option Addr} {l : List (ByteArray × Bool × ByteArray)} (h : WrsAt w ao l) (k : Nat) : WrsAt (w.drewN k) ao l := h
theorem WrsAt.none {w : World} (ao : Option Addr) : WrsAt w ao [] := fun i h => absurd h (by simp)

set_option maxRecDepth 100000 in
theorem eqSpan_any (ao bo : Option Addr) (ta tb : List (ByteArray × ByteArray)) (ca cb : Nat) (ha : ta.length ≤ 140737488355328) (hb : tb.length ≤ 140737488355328) (w : World) (hA : TwosAt w ao ta) (hB : TwosAt w bo tb) :
    Calls Tryd.prog 60 #[.slice ao ta.length ca, .slice bo tb.length cb] w fun e w' => e = .returned (.bool (decide (ta = tb))) ∧ ∃ k, w' = w.drewN k := by
  obtain ⟨n, hn⟩ : ∃ n, n = ta.length := ⟨_, rfl⟩
  obtain ⟨m, hm⟩ : ∃ m, m = tb.length := ⟨_, rfl⟩
  rw [← hn, ← hm]
  rw [← hn] at ha
  rw [← hm] at hb
  have HN := Lib.hid hn
  have HM := Lib.hid hm
  have HA := Lib.hid hA
  have HB := Lib.hid hB
  clear hn hm hA hB
  by_cases hl : n = m
  · have HL : Hid (ta.length = tb.length) := by show _ = _; rw [← HN.out, ← HM.out, hl]
    have e1 : ((n : Int) == (m : Int)) = true := by rw [beq_iff_eq]; omega
    have hmn : n ≤ m := by omega
    clear hl
    go_enter Tryd.func60, Tryd.ntmps60
    go_wp2
    go_loopw [13] (fun x wr => ∃ k : Nat, k ≤ n ∧ x = .int .i64 k ∧ Hid (∀ j, j < k → ta[j]? = tb[j]?) ∧ ∃ q, wr = w.drewN q) (fun x _ => n - (intOf x).toNat)
    case atStart => exact ⟨0, Nat.zero_le _, by go_num, fun j hj => absurd hj (by omega), 0, rfl⟩
    case round =>
      obtain ⟨k, hk, rfl, hsame, q, rfl⟩ := hrel
      by_cases hkn : k < n
      · have hka : k < ta.length := by have := HN.out; omega
        have hkb : k < tb.length := by have := HM.out; omega
        obtain ⟨b1, o1, rfl, hc1⟩ := HA.out.at k hka
        obtain ⟨b2, o2, rfl, hc2⟩ := HB.out.at k hkb
        obtain ⟨s, hs⟩ : ∃ s, s = ta[k] := ⟨_, rfl⟩
        obtain ⟨t, ht⟩ : ∃ t, t = tb[k] := ⟨_, rfl⟩
        have c0 : w.cell? ⟨b1, o1 + k * 2, none⟩ = some (.string s.1) := by rw [hs]; exact (hc1 k hka).1
        have c1 : w.cell? ⟨b1, o1 + k * 2 + 1, none⟩ = some (.string s.2) := by rw [hs]; exact (hc1 k hka).2
        have d0 : w.cell? ⟨b2, o2 + k * 2, none⟩ = some (.string t.1) := by rw [ht]; exact (hc2 k hkb).1
        have d1 : w.cell? ⟨b2, o2 + k * 2 + 1, none⟩ = some (.string t.2) := by rw [ht]; exact (hc2 k hkb).2
        have i0 : (0 : Int) ≤ (k : Int) := by omega
        have i1 : (k : Int) < (n : Int) := by omega
        have i2 : (k : Int) < (m : Int) := by omega
        have HS : Hid (ta[k]? = some s) := by show _ = _; rw [hs]; exact List.getElem?_eq_getElem hka
        have HT : Hid (tb[k]? = some t) := by show _ = _; rw [ht]; exact List.getElem?_eq_getElem hkb
        clear hc1 hc2 hs ht hka hkb
        by_cases hst : s = t
        · have HE : Hid (ta[k]? = tb[k]?) := by show _ = _; rw [HS.out, HT.out, hst]
          have q0 : s.1.toList = t.1.toList := by rw [hst]
          have q1 : s.2.toList = t.2.toList := by rw [hst]
          clear hst
          go_wp2_with fail
          go_quiet (fail)
          go_wp2
          go_roundw
          case rel =>
            refine ⟨k + 1, by omega, by go_num, fun j hj => ?_, _, rfl⟩
            by_cases e : j = k
            · subst e; exact HE.out
            · exact hsame.out j (by omega)
          case measure => simp [intOf]; omega
        · have HF : Hid (decide (ta = tb) = false) := by
            show _ = _
            rw [decide_eq_false_iff_not]
            intro h
            subst h
            have := HS.out.symm.trans HT.out
            exact hst (Option.some.inj this)
          have HST := Lib.hid hst
          clear hst
          by_cases q0 : s.1.toList = t.1.toList
          rotate_left
          · go_wp2_with fail
            go_quiet (fail)
            go_wp2
            go_ret
            exact ⟨by rw [HF.out]; rfl, _, World.drewN_drewN _ _ _⟩
          have q1 : ¬ s.2.toList = t.2.toList := fun q1 => HST.out (Prod.ext (str_ext q0) (str_ext q1))
          go_wp2_with fail
          go_quiet (fail)
          go_wp2
          go_ret
          exact ⟨by rw [HF.out]; rfl, _, World.drewN_drewN _ _ _⟩
      · have hnk : n ≤ k := by omega
        have HT : Hid (decide (ta = tb) = true) := by
          show _ = _
          rw [decide_eq_true_eq]
          exact list_ext HL.out (fun j hj => hsame.out j (by have := HN.out; omega))
        clear hkn
        go_wp2
        go_ret
        exact ⟨by rw [HT.out]; rfl, q, rfl⟩
  · have e1 : ((n : Int) == (m : Int)) = false := by rw [beq_eq_false_iff_ne]; omega
    have HF : Hid (decide (ta = tb) = false) := by
      show _ = _
      rw [decide_eq_false_iff_not]
      intro h
      exact hl (by rw [HN.out, HM.out, h])
    clear hl
    go_enter Tryd.func60, Tryd.ntmps60
    go_wp2
    go_ret
    exact ⟨by rw [HF.out]; rfl, 0, rfl⟩

set_option maxRecDepth 100000 in
theorem eqPair_any (ao bo : Option Addr) (ta tb : List (ByteArray × ByteArray)) (ca cb : Nat) (ha : ta.length ≤ 140737488355328) (hb : tb.length ≤ 140737488355328) (w : World) (hA : TwosAt w ao ta) (hB : TwosAt w bo tb) :
    Calls Tryd.prog 62 #[.slice ao ta.length ca, .slice bo tb.length cb] w fun e w' => e = .returned (.bool (decide (ta = tb))) ∧ ∃ k, w' = w.drewN k := by
  obtain ⟨n, hn⟩ : ∃ n, n = ta.length := ⟨_, rfl⟩
  obtain ⟨m, hm⟩ : ∃ m, m = tb.length := ⟨_, rfl⟩
  rw [← hn, ← hm]
  rw [← hn] at ha
  rw [← hm] at hb
  have HN := Lib.hid hn
  have HM := Lib.hid hm
  have HA := Lib.hid hA
  have HB := Lib.hid hB
  clear hn hm hA hB
  by_cases hl : n = m
  · have HL : Hid (ta.length = tb.length) := by show _ = _; rw [← HN.out, ← HM.out, hl]
    have e1 : ((n : Int) == (m : Int)) = true := by rw [beq_iff_eq]; omega
    have hmn : n ≤ m := by omega
    clear hl
    go_enter Tryd.func62, Tryd.ntmps62
    go_wp2
    go_loopw [13] (fun x wr => ∃ k : Nat, k ≤ n ∧ x = .int .i64 k ∧ Hid (∀ j, j < k → ta[j]? = tb[j]?) ∧ ∃ q, wr = w.drewN q) (fun x _ => n - (intOf x).toNat)
    case atStart => exact ⟨0, Nat.zero_le _, by go_num, fun j hj => absurd hj (by omega), 0, rfl⟩
    case round =>
      obtain ⟨k, hk, rfl, hsame, q, rfl⟩ := hrel
      by_cases hkn : k < n
      · have hka : k < ta.length := by have := HN.out; omega
        have hkb : k < tb.length := by have := HM.out; omega
        obtain ⟨b1, o1, rfl, hc1⟩ := HA.out.at k hka
        obtain ⟨b2, o2, rfl, hc2⟩ := HB.out.at k hkb
        obtain ⟨s, hs⟩ : ∃ s, s = ta[k] := ⟨_, rfl⟩
        obtain ⟨t, ht⟩ : ∃ t, t = tb[k] := ⟨_, rfl⟩
        have c0 : w.cell? ⟨b1, o1 + k * 2, none⟩ = some (.string s.1) := by rw [hs]; exact (hc1 k hka).1
        have c1 : w.cell? ⟨b1, o1 + k * 2 + 1, none⟩ = some (.string s.2) := by rw [hs]; exact (hc1 k hka).2
        have d0 : w.cell? ⟨b2, o2 + k * 2, none⟩ = some (.string t.1) := by rw [ht]; exact (hc2 k hkb).1
        have d1 : w.cell? ⟨b2, o2 + k * 2 + 1, none⟩ = some (.string t.2) := by rw [ht]; exact (hc2 k hkb).2
        have i0 : (0 : Int) ≤ (k : Int) := by omega
        have i1 : (k : Int) < (n : Int) := by omega
        have i2 : (k : Int) < (m : Int) := by omega
        have HS : Hid (ta[k]? = some s) := by show _ = _; rw [hs]; exact List.getElem?_eq_getElem hka
        have HT : Hid (tb[k]? = some t) := by show _ = _; rw [ht]; exact List.getElem?_eq_getElem hkb
        clear hc1 hc2 hs ht hka hkb
        by_cases hst : s = t
        · have HE : Hid (ta[k]? = tb[k]?) := by show _ = _; rw [HS.out, HT.out, hst]
          have q0 : s.1.toList = t.1.toList := by rw [hst]
          have q1 : s.2.toList = t.2.toList := by rw [hst]
          clear hst
          go_wp2_with fail
          go_quiet (fail)
          go_wp2
          go_roundw
          case rel =>
            refine ⟨k + 1, by omega, by go_num, fun j hj => ?_, _, rfl⟩
            by_cases e : j = k
            · subst e; exact HE.out
            · exact hsame.out j (by omega)
          case measure => simp [intOf]; omega
        · have HF : Hid (decide (ta = tb) = false) := by
            show _ = _
            rw [decide_eq_false_iff_not]
            intro h
            subst h
            have := HS.out.symm.trans HT.out
            exact hst (Option.some.inj this)
          have HST := Lib.hid hst
          clear hst
          by_cases q0 : s.1.toList = t.1.toList
          rotate_left
          · go_wp2_with fail
            go_quiet (fail)
            go_wp2
            go_ret
            exact ⟨by rw [HF.out]; rfl, _, World.drewN_drewN _ _ _⟩
          have q1 : ¬ s.2.toList = t.2.toList := fun q1 => HST.out (Prod.ext (str_ext q0) (str_ext q1))
          go_wp2_with fail
          go_quiet (fail)
          go_wp2
          go_ret
          exact ⟨by rw [HF.out]; rfl, _, World.drewN_drewN _ _ _⟩
      · have hnk : n ≤ k := by omega
        have HT : Hid (decide (ta = tb) = true) := by
          show _ = _
          rw [decide_eq_true_eq]
          exact list_ext HL.out (fun j hj => hsame.out j (by have := HN.out; omega))
        clear hkn
        go_wp2
        go_ret
        exact ⟨by rw [HT.out]; rfl, q, rfl⟩
  · have e1 : ((n : Int) == (m : Int)) = false := by rw [beq_eq_false_iff_ne]; omega
    have HF : Hid (decide (ta = tb) = false) := by
      show _ = _
      rw [decide_eq_false_iff_not]
      intro h
      exact hl (by rw [HN.out, HM.out, h])
    clear hl
    go_enter Tryd.func62, Tryd.ntmps62
    go_wp2
    go_ret
    exact ⟨by rw [HF.out]; rfl, 0, rfl⟩

set_option maxRecDepth 100000 in
theorem eqWrite_any (ao bo : Option Addr) (ta tb : List (ByteArray × Bool × ByteArray)) (ca cb : Nat) (ha : ta.length ≤ 140737488355328) (hb : tb.length ≤ 140737488355328) (w : World) (hA : WrsAt w ao ta) (hB : WrsAt w bo tb) :
    Calls Tryd.prog 61 #[.slice ao ta.length ca, .slice bo tb.length cb] w fun e w' => e = .returned (.bool (decide (ta = tb))) ∧ ∃ k, w' = w.drewN k := by
  obtain ⟨n, hn⟩ : ∃ n, n = ta.length := ⟨_, rfl⟩
  obtain ⟨m, hm⟩ : ∃ m, m = tb.length := ⟨_, rfl⟩
  rw [← hn, ← hm]
  rw [← hn] at ha
  rw [← hm] at hb
  have HN := Lib.hid hn
  have HM := Lib.hid hm
  have HA := Lib.hid hA
  have HB := Lib.hid hB
  clear hn hm hA hB
  by_cases hl : n = m
  · have HL : Hid (ta.length = tb.length) := by show _ = _; rw [← HN.out, ← HM.out, hl]
    have e1 : ((n : Int) == (m : Int)) = true := by rw [beq_iff_eq]; omega
    have hmn : n ≤ m := by omega
    clear hl
    go_enter Tryd.func61, Tryd.ntmps61
    go_wp2
    go_loopw [13] (fun x wr => ∃ k : Nat, k ≤ n ∧ x = .int .i64 k ∧ Hid (∀ j, j < k → ta[j]? = tb[j]?) ∧ ∃ q, wr = w.drewN q) (fun x _ => n - (intOf x).toNat)
    case atStart => exact ⟨0, Nat.zero_le _, by go_num, fun j hj => absurd hj (by omega), 0, rfl⟩
    case round =>
      obtain ⟨k, hk, rfl, hsame, q, rfl⟩ := hrel
      by_cases hkn : k < n
      · have hka : k < ta.length := by have := HN.out; omega
        have hkb : k < tb.length := by have := HM.out; omega
        obtain ⟨b1, o1, rfl, hc1⟩ := HA.out.at k hka
        obtain ⟨b2, o2, rfl, hc2⟩ := HB.out.at k hkb
        obtain ⟨s, hs⟩ : ∃ s, s = ta[k] := ⟨_, rfl⟩
        obtain ⟨t, ht⟩ : ∃ t, t = tb[k] := ⟨_, rfl⟩
        have c0 : w.cell? ⟨b1, o1 + k * 3, none⟩ = some (.string s.1) := by rw [hs]; exact (hc1 k hka).1
        have c1 : w.cell? ⟨b1, o1 + k * 3 + 1, none⟩ = some (.bool s.2.1) := by rw [hs]; exact (hc1 k hka).2.1
        have c2 : w.cell? ⟨b1, o1 + k * 3 + 2, none⟩ = some (.string s.2.2) := by rw [hs]; exact (hc1 k hka).2.2
        have d0 : w.cell? ⟨b2, o2 + k * 3, none⟩ = some (.string t.1) := by rw [ht]; exact (hc2 k hkb).1
        have d1 : w.cell? ⟨b2, o2 + k * 3 + 1, none⟩ = some (.bool t.2.1) := by rw [ht]; exact (hc2 k hkb).2.1
        have d2 : w.cell? ⟨b2, o2 + k * 3 + 2, none⟩ = some (.string t.2.2) := by rw [ht]; exact (hc2 k hkb).2.2
        have i0 : (0 : Int) ≤ (k : Int) := by omega
        have i1 : (k : Int) < (n : Int) := by omega
        have i2 : (k : Int) < (m : Int) := by omega
        have HS : Hid (ta[k]? = some s) := by show _ = _; rw [hs]; exact List.getElem?_eq_getElem hka
        have HT : Hid (tb[k]? = some t) := by show _ = _; rw [ht]; exact List.getElem?_eq_getElem hkb
        clear hc1 hc2 hs ht hka hkb
        by_cases hst : s = t
        · have HE : Hid (ta[k]? = tb[k]?) := by show _ = _; rw [HS.out, HT.out, hst]
          have q0 : s.1.toList = t.1.toList := by rw [hst]
          have q1 : s.2.1 = t.2.1 := by rw [hst]
          have q2 : s.2.2.toList = t.2.2.toList := by rw [hst]
          clear hst
          go_wp2_with fail
          go_quiet (fail)
          go_wp2
          go_roundw
          case rel =>
            refine ⟨k + 1, by omega, by go_num, fun j hj => ?_, _, rfl⟩
            by_cases e : j = k
            · subst e; exact HE.out
            · exact hsame.out j (by omega)
          case measure => simp [intOf]; omega
        · have HF : Hid (decide (ta = tb) = false) := by
            show _ = _
            rw [decide_eq_false_iff_not]
            intro h
            subst h
            have := HS.out.symm.trans HT.out
            exact hst (Option.some.inj this)
          have HST := Lib.hid hst
          clear hst
          by_cases q0 : s.1.toList = t.1.toList
          rotate_left
          · go_wp2_with fail
            go_quiet (fail)
            go_wp2
            go_ret
            exact ⟨by rw [HF.out]; rfl, _, World.drewN_drewN _ _ _⟩
          by_cases q1 : s.2.1 = t.2.1
          rotate_left
          · go_wp2_with fail
            go_quiet (fail)
            go_wp2
            go_ret
            exact ⟨by rw [HF.out]; rfl, _, World.drewN_drewN _ _ _⟩
          have q2 : ¬ s.2.2.toList = t.2.2.toList := fun q2 => HST.out (Prod.ext (str_ext q0) (Prod.ext (q1) (str_ext q2)))
          go_wp2_with fail
          go_quiet (fail)
          go_wp2
          go_ret
          exact ⟨by rw [HF.out]; rfl, _, World.drewN_drewN _ _ _⟩
      · have hnk : n ≤ k := by omega
        have HT : Hid (decide (ta = tb) = true) := by
          show _ = _
          rw [decide_eq_true_eq]
          exact list_ext HL.out (fun j hj => hsame.out j (by have := HN.out; omega))
        clear hkn
        go_wp2
        go_ret
        exact ⟨by rw [HT.out]; rfl, q, rfl⟩
  · have e1 : ((n : Int) == (m : Int)) = false := by rw [beq_eq_false_iff_ne]; omega
    have HF : Hid (decide (ta = tb) = false) := by
      show _ = _
      rw [decide_eq_false_iff_not]
      intro h
      exact hl (by rw [HN.out, HM.out, h])
    clear hl
    go_enter Tryd.func61, Tryd.ntmps61
    go_wp2
    go_ret
    exact ⟨by rw [HF.out]; rfl, 0, rfl⟩
end Go.Proofs.YtklhhpnibeejeaaDoor
