/-
  msg.checked and msg.Valid, of any message. Printed by gen_msgvalid.py.
-/
import Derived.Test.YtklhhpnibeejeaaDoorMsgCk1
import Derived.Test.YtklhhpnibeejeaaDoorMsgCk2
import Derived.Test.YtklhhpnibeejeaaDoorMsgCk3
import Derived.Test.YtklhhpnibeejeaaDoorMsgCk4
import Derived.Test.YtklhhpnibeejeaaDoorMsgCk5
import Derived.Test.YtklhhpnibeejeaaDoorMsgCk6
import Derived.Test.YtklhhpnibeejeaaDoorMsgCk7
import Derived.Test.YtklhhpnibeejeaaDoorMsgCk8
import Derived.Test.YtklhhpnibeejeaaDoorMsgCk9
namespace Go.Proofs.YtklhhpnibeejeaaDoor
open Go.RowKit
set_option linter.unusedVariables false

set_option maxRecDepth 100000 in
theorem checked_other (m : Mes) (s : Sl) (hk : ¬ (1 ≤ m.kind ∧ m.kind ≤ 9)) (w : World) :
    Calls Tryd.prog 19 #[msgV m s] w fun e w' => e = .returned .nilIface ∧ Below w.heap.size w w' := by
  have HM := Lib.hid (made_other m.kind hk)
  clear hk
  unfold msgV
  go_enter Tryd.func19, Tryd.ntmps19
  go_wp2_with fail
  refine (HM.out _).mono ?_
  rintro e w1 ⟨rfl, rfl⟩
  go_wp2
  go_ret
  exact ⟨rfl, (Below.refl _ _).alloc (Nat.le_refl _) _⟩
theorem valid_other (m : Mes) (hk : ¬ (1 ≤ m.kind ∧ m.kind ≤ 9)) : m.valid = false := by
  have : (decide (1 ≤ m.kind) && decide (m.kind ≤ 9)) = false := by
    rw [← Bool.not_eq_true]
    simpa using hk
  simp only [Mes.valid, this, Bool.false_and]
/-- nil just if the message is not valid. -/
theorem checked_nil (m : Mes) (s : Sl) (w : World) (hm : MsgIn w m s) :
    Calls Tryd.prog 19 #[msgV m s] w fun e w' => (m.valid = false → e = .returned .nilIface) ∧ (m.valid = true → ∃ T v, e = .returned (.iface T v)) ∧ Below w.heap.size w w' := by
  by_cases hk : 1 ≤ m.kind ∧ m.kind ≤ 9
  · rcases kinds m.kind hk.1 hk.2 with h | h | h | h | h | h | h | h | h
    · exact (checked_1 m s h w hm).mono fun e w' ⟨h1, h2, h3⟩ => ⟨h1, fun hv => let ⟨p, _, he, _⟩ := h2 hv; ⟨_, _, he⟩, h3⟩
    · exact (checked_2 m s h w hm).mono fun e w' ⟨h1, h2, h3⟩ => ⟨h1, fun hv => let ⟨p, _, he, _⟩ := h2 hv; ⟨_, _, he⟩, h3⟩
    · exact (checked_3 m s h w hm).mono fun e w' ⟨h1, h2, h3⟩ => ⟨h1, fun hv => let ⟨p, _, he, _⟩ := h2 hv; ⟨_, _, he⟩, h3⟩
    · exact (checked_4 m s h w hm).mono fun e w' ⟨h1, h2, h3⟩ => ⟨h1, fun hv => let ⟨p, _, he, _⟩ := h2 hv; ⟨_, _, he⟩, h3⟩
    · exact (checked_5 m s h w hm).mono fun e w' ⟨h1, h2, h3⟩ => ⟨h1, fun hv => let ⟨p, _, he, _⟩ := h2 hv; ⟨_, _, he⟩, h3⟩
    · exact (checked_6 m s h w hm).mono fun e w' ⟨h1, h2, h3⟩ => ⟨h1, fun hv => let ⟨p, _, he, _⟩ := h2 hv; ⟨_, _, he⟩, h3⟩
    · exact (checked_7 m s h w hm).mono fun e w' ⟨h1, h2, h3⟩ => ⟨h1, fun hv => let ⟨p, _, he, _⟩ := h2 hv; ⟨_, _, he⟩, h3⟩
    · exact (checked_8 m s h w hm).mono fun e w' ⟨h1, h2, h3⟩ => ⟨h1, fun hv => let ⟨p, _, he, _⟩ := h2 hv; ⟨_, _, he⟩, h3⟩
    · exact (checked_9 m s h w hm).mono fun e w' ⟨h1, h2, h3⟩ => ⟨h1, fun hv => let ⟨p, _, he, _⟩ := h2 hv; ⟨_, _, he⟩, h3⟩
  · have hv := valid_other m hk
    refine (checked_other m s hk w).mono fun e w' ⟨he, hb⟩ => ⟨fun _ => he, fun h => ?_, hb⟩
    rw [hv] at h
    cases h
set_option maxRecDepth 100000 in
theorem Valid_any (m : Mes) (s : Sl) (w : World) (hm : MsgIn w m s) :
    Calls Tryd.prog 14 #[msgV m s] w fun e w' => e = .returned (.int .i64 (if m.valid then 0 else 50)) ∧ Below w.heap.size w w' := by
  have HC := Lib.hid (fun w1 (h : Below w.heap.size w w1) => checked_nil m s w1 (hm.below h (Nat.le_refl _)))
  clear hm
  obtain ⟨v, hv⟩ : ∃ v, v = m.valid := ⟨_, rfl⟩
  rw [← hv] at HC
  rw [← hv]
  clear hv
  cases v
  · unfold msgV at *
    go_enter Tryd.func14, Tryd.ntmps14
    go_wp2_with fail
    refine (HC.out _ ((Below.refl _ _).alloc (Nat.le_refl _) _)).mono ?_
    rintro e w1 ⟨h1, h2, hb0⟩
    have hb : Below w.heap.size w w1 := ((Below.refl _ _).alloc (Nat.le_refl _) _).trans (hb0.mono (by simp))
    clear hb0
    have he := h1 (by simp)
    subst he
    clear h1 h2
    go_wp2
    go_ret
    exact ⟨rfl, hb⟩
  · unfold msgV at *
    go_enter Tryd.func14, Tryd.ntmps14
    go_wp2_with fail
    refine (HC.out _ ((Below.refl _ _).alloc (Nat.le_refl _) _)).mono ?_
    rintro e w1 ⟨h1, h2, hb0⟩
    have hb : Below w.heap.size w w1 := ((Below.refl _ _).alloc (Nat.le_refl _) _).trans (hb0.mono (by simp))
    clear hb0
    obtain ⟨T, x, he⟩ := h2 (by simp)
    subst he
    clear h1 h2
    go_wp2
    go_ret
    exact ⟨rfl, hb⟩
end Go.Proofs.YtklhhpnibeejeaaDoor
