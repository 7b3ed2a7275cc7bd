/-
  THE DECODER'S ENDS: Open, Left, End.
-/
import Derived.Test.YtbiogajejcfkfaaTakes
namespace Go.Proofs.Ytbiogajejcfkfaa
open Go.RowKit
set_option linter.unusedVariables false

theorem Open_any (l : List UInt8) (w : World) :
    Calls Try.prog 6 #[.string (strL l)] w fun e w' => e = .returned (.pointer (some ⟨w.heap.size, 0, none⟩)) ∧ DecAt w' w.heap.size l 0 ∧ Below w.heap.size w w' ∧ w'.heap.size = w.heap.size + 1 := by
  go_enter Try.func6, Try.ntmps6
  go_wp2
  go_ret
  exact ⟨rfl, TwoAt.new _ _ _ _, (Below.refl _ _).alloc (Nat.le_refl _) _, by simp⟩

def endN (l : List UInt8) (e : Int) : Int := if e = 0 then (if l = [] then 0 else 31) else e
theorem strL_empty (l : List UInt8) : (strL l).toList.isEmpty = l.isEmpty := by rw [ByteArray.toList_eq]; rfl
set_option maxRecDepth 100000 in
theorem End_any (b : Nat) (l : List UInt8) (e : Int) (w : World) (hd : DecAt w b l e) :
    Calls Try.prog 8 #[.pointer (some ⟨b, 0, none⟩)] w fun o w' => o = .returned (.int .i64 (endN l e)) ∧ w' = w := by
  have c0 := hd.cell0
  have c1 := hd.cell1
  have HD := Lib.hid hd
  clear hd
  by_cases he : e = 0
  · subst he
    cases l with
    | nil =>
      have hne : (strL []).toList.isEmpty = true := strL_empty []
      go_enter Try.func8, Try.ntmps8
      go_wp2
      go_ret
      exact ⟨by rfl, rfl⟩
    | cons c r =>
      have hne : (strL (c :: r)).toList.isEmpty = false := strL_empty (c :: r)
      go_enter Try.func8, Try.ntmps8
      go_wp2
      go_ret
      exact ⟨by rfl, rfl⟩
  · have e1 : (e == 0) = false := by rw [beq_eq_false_iff_ne]; exact he
    have HN : Hid (endN l e = e) := if_neg he
    clear he
    go_enter Try.func8, Try.ntmps8
    go_wp2
    go_ret
    exact ⟨by rw [HN.out]; rfl, rfl⟩
end Go.Proofs.Ytbiogajejcfkfaa
