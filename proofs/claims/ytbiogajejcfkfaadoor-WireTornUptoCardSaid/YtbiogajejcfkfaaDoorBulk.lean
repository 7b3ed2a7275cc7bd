/-
  WHAT THE BOUND OF THE SECOND FORM GIVES. (Began as the starting text UptoLemmas.lean of the given pages.)
-/
import Derived.Test.YtbiogajejcfkfaaDoorStrs
namespace Go.Proofs.YtbiogajejcfkfaaDoor.Bulk
open Go.ChangeShapes

theorem one_le {H : Type} (d : DataW H) : 1 ≤ Rows.uptoBulk d := by
  cases d with
  | lit l => cases l <;> simp [Rows.uptoBulk]
  | nil => simp [Rows.uptoBulk]
  | ptr d => simp [Rows.uptoBulk]
  | slice elems spare => simp [Rows.uptoBulk]
  | agg parts => simp [Rows.uptoBulk]
  | iface t d => simp [Rows.uptoBulk]
  | map entries => simp [Rows.uptoBulk]
  | held h => simp [Rows.uptoBulk]
theorem part_le {H : Type} {d : DataW H} {l : List (DataW H)} (h : d ∈ l) : Rows.uptoBulk d ≤ Rows.uptoBulkAll l := by
  induction l with
  | nil => cases h
  | cons x r ih =>
    simp only [Rows.uptoBulkAll]
    cases List.mem_cons.1 h with
    | inl e => subst e; omega
    | inr e => have := ih e; omega
theorem length_le {H : Type} (l : List (DataW H)) : l.length ≤ Rows.uptoBulkAll l := by
  induction l with
  | nil => simp [Rows.uptoBulkAll]
  | cons x r ih => have := one_le x; simp only [Rows.uptoBulkAll, List.length_cons]; omega
/-- What texts weigh: their bytes, and one each. -/
theorem strs_bulk {H : Type} (l : List ByteArray) : Rows.uptoBulkAll (strs (H := H) l) = (l.map ByteArray.size).sum + l.length := by
  induction l with
  | nil => rfl
  | cons s l ih =>
    show Rows.uptoBulk (DataW.lit (H := H) (.string s.data.toList)) + Rows.uptoBulkAll (strs l) = _
    rw [ih]
    simp [Rows.uptoBulk]
    omega
theorem size_le_sum (l : List ByteArray) : ∀ s ∈ l, s.size ≤ (l.map ByteArray.size).sum := by
  induction l with
  | nil => intro s h; cases h
  | cons x l ih =>
    intro s h
    simp only [List.map_cons, List.sum_cons]
    cases List.mem_cons.1 h with
    | inl e => subst e; omega
    | inr e => have := ih s e; omega
theorem bound {H : Type} {l : List (DataW H)} (hk : Rows.uptoSmall H l = true) : Rows.uptoBulkAll l ≤ 1048576 := of_decide_eq_true hk
end Go.Proofs.YtbiogajejcfkfaaDoor.Bulk
