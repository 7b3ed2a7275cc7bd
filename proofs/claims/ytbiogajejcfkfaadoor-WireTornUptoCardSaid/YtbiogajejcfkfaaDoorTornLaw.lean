/-
  WireTorn, the plain law: frames one behind the other, cut anywhere, come off one by one. No program in sight.
-/
import Derived.Test.YtbiogajejcfkfaaDoorFramesLaw
namespace Go.Proofs.YtbiogajejcfkfaaDoor.Torn

/-- The frames of the first k payloads, one behind the other. -/
def S (l : List ByteArray) (k : Nat) : List UInt8 := ((l.take k).map fun p => frameL p.data.toList).flatten
theorem S_zero (l : List ByteArray) : S l 0 = [] := by simp [S]
theorem S_succ (l : List ByteArray) (k : Nat) (h : k < l.length) : S l (k + 1) = S l k ++ frameL l[k].data.toList := by
  unfold S; rw [List.take_succ_eq_append_getElem h, List.map_append, List.flatten_append, List.map_cons, List.map_nil, List.flatten_cons, List.flatten_nil, List.append_nil]
theorem frame_len (p : ByteArray) : (frameL p.data.toList).length = 8 + p.size := by rw [frameL_length]; simp
theorem S_len_succ (l : List ByteArray) (k : Nat) (h : k < l.length) : (S l (k + 1)).length = (S l k).length + (8 + l[k].size) := by
  rw [S_succ l k h, List.length_append, frame_len]
theorem S_split (l : List ByteArray) (k d : Nat) (h : k + d ≤ l.length) : ∃ r, S l (k + d) = S l k ++ r := by
  induction d with
  | zero => exact ⟨[], by simp⟩
  | succ d ih =>
    obtain ⟨r, hr⟩ := ih (by omega)
    exact ⟨r ++ frameL l[k + d].data.toList, by rw [← Nat.add_assoc, S_succ l (k + d) (by omega), hr, List.append_assoc]⟩
/-- The sum of the lengths. -/
def tot (l : List ByteArray) : Nat := (l.map ByteArray.size).sum
theorem S_len_le (l : List ByteArray) : ∀ k, (S l k).length ≤ 8 * k + tot l := by
  have key : ∀ m : List ByteArray, ((m.map fun p => frameL p.data.toList).flatten).length = 8 * m.length + tot m := by
    intro m
    induction m with
    | nil => rfl
    | cons p m ih =>
      simp only [List.map_cons, List.flatten_cons, List.length_append, frame_len, ih, List.length_cons, tot, List.sum_cons]
      omega
  intro k
  unfold S
  rw [key]
  have h1 : (l.take k).length ≤ k := List.length_take_le _ _
  have h2 : tot (l.take k) ≤ tot l := by
    unfold tot
    conv => rhs; rw [← List.take_append_drop k l]
    rw [List.map_append, List.sum_append]
    omega
  omega

/-- What is left of the stream, cut at C, behind the first k frames. -/
def T (l : List ByteArray) (C k : Nat) : List UInt8 := ((S l l.length).take C).drop (S l k).length
theorem T_zero (l : List ByteArray) (C : Nat) : T l C 0 = (S l l.length).take C := by unfold T; rw [S_zero]; rfl
theorem T_frame (l : List ByteArray) (C k : Nat) (h : k < l.length) (hC : (S l (k + 1)).length ≤ C) : T l C k = frameL l[k].data.toList ++ T l C (k + 1) := by
  obtain ⟨r, hr⟩ := S_split l (k + 1) (l.length - (k + 1)) (by omega)
  rw [show k + 1 + (l.length - (k + 1)) = l.length by omega] at hr
  unfold T
  rw [hr, List.take_append, List.take_of_length_le hC, List.drop_left' rfl]
  conv => lhs; rw [S_succ l k h, List.append_assoc]
  rw [List.drop_left' rfl, ← S_succ l k h]
theorem T_cut (l : List ByteArray) (C k : Nat) (h : k < l.length) (hC : C < (S l (k + 1)).length) (hk : (S l k).length ≤ C) : T l C k = (frameL l[k].data.toList).take (C - (S l k).length) := by
  obtain ⟨r, hr⟩ := S_split l (k + 1) (l.length - (k + 1)) (by omega)
  rw [show k + 1 + (l.length - (k + 1)) = l.length by omega] at hr
  unfold T
  rw [hr, S_succ l k h, List.append_assoc, List.drop_take, List.drop_left' rfl, List.take_append_of_le_length]
  rw [S_len_succ l k h] at hC
  rw [frame_len]; omega
theorem T_end (l : List ByteArray) (C : Nat) (hC : C ≤ (S l l.length).length) : T l C l.length = [] := by
  unfold T
  exact List.drop_eq_nil_of_le (by rw [List.length_take]; omega)

theorem unf_frame (l : List ByteArray) (C k : Nat) (h : k < l.length) (hs : l[k].size ≤ 1048576) (hC : (S l (k + 1)).length ≤ C) : unfL (T l C k) = (l[k].data.toList, T l C (k + 1), 0) := by
  rw [T_frame l C k h hC, unfL_frame _ _ (by simpa using hs)]
theorem unf_cut (l : List ByteArray) (C k : Nat) (h : k < l.length) (hs : l[k].size ≤ 1048576) (hC : C < (S l (k + 1)).length) (hk : (S l k).length ≤ C) : unfL (T l C k) = ([], [], 30) := by
  rw [T_cut l C k h hC hk]
  have := S_len_succ l k h
  exact unfL_cut _ _ (by simpa using hs) (by simp; omega)
theorem unf_end (l : List ByteArray) (C : Nat) (hC : C ≤ (S l l.length).length) : unfL (T l C l.length) = ([], [], 30) := by
  rw [T_end l C hC]; rfl
/-- The rest, as the law cuts it out of the stream. -/
theorem T_rest (l : List ByteArray) (C k : Nat) : ((S l l.length).drop (S l k).length).take (C - (S l k).length) = T l C k := by
  unfold T; rw [List.drop_take]
theorem T_len (l : List ByteArray) (C k : Nat) : (T l C k).length ≤ (S l l.length).length := by
  unfold T; rw [List.length_drop, List.length_take]; omega
end Go.Proofs.YtbiogajejcfkfaaDoor.Torn
