/-
  THE FRAMES' LAWS, on lists of bytes: what Unframe answers of a frame, of a frame cut short, of a frame with bits turned. No program in sight.
-/
import Derived.Test.YtbiogajejcfkfaaDoorFrames
namespace Go.Proofs.YtbiogajejcfkfaaDoor

theorem u8_ofNat (m : Nat) (h : m < 256) : (UInt8.ofNat m).toNat = m := by simp [Nat.mod_eq_of_lt h]
theorem num4L_be4 (n : Nat) (l : List UInt8) (hn : n < 4294967296) : num4L (be4 n ++ l) = n := by
  unfold num4L be4
  simp only [List.cons_append, List.nil_append, List.getD_cons_zero, List.getD_cons_succ]
  rw [u8_ofNat _ (by omega), u8_ofNat _ (by omega), u8_ofNat _ (by omega), u8_ofNat _ (by omega)]
  omega
theorem frameL_length (p : List UInt8) : (frameL p).length = 8 + p.length := by
  unfold frameL; simp [be4_length]; omega
theorem frameL_take8 (p : List UInt8) : (frameL p).take 8 = be4 p.length ++ be4 (Crc.crc (be4 p.length ++ p)) := by
  unfold frameL; exact List.take_left' (by simp [be4_length])
theorem frameL_drop8 (p : List UInt8) : (frameL p).drop 8 = p := by
  unfold frameL; exact List.drop_left' (by simp [be4_length])

/-- What Unframe answers of eight bytes and what follows. -/
theorem unfL_head (n c : Nat) (q : List UInt8) (hn : n < 4294967296) (hc : c < 4294967296) :
    unfL (be4 n ++ be4 c ++ q) = if 1048576 < n then ([], [], 32) else if q.length < n then ([], [], 30)
      else if Crc.crc (be4 n ++ q.take n) ≠ c then ([], [], 32) else (q.take n, q.drop n, 0) := by
  have h1 : num4L (be4 n ++ be4 c ++ q) = n := by rw [List.append_assoc]; exact num4L_be4 _ _ hn
  have h2 : (be4 n ++ be4 c ++ q).drop 4 = be4 c ++ q := by rw [List.append_assoc]; exact List.drop_left' (be4_length n)
  have h3 : (be4 n ++ be4 c ++ q).drop 8 = q := List.drop_left' (by simp [be4_length])
  have h4 : (be4 n ++ be4 c ++ q).take 4 = be4 n := by rw [List.append_assoc]; exact List.take_left' (be4_length n)
  have h5 : (be4 n ++ be4 c ++ q).length = 8 + q.length := by simp [be4_length]; omega
  have h6 : (be4 n ++ be4 c ++ q).drop (8 + n) = q.drop n := by rw [← List.drop_drop, h3]
  unfold unfL
  rw [h1, h2, h3, h4, h5, h6, num4L_be4 _ _ hc, if_neg (by omega), show 8 + q.length - 8 = q.length by omega]

/-- A FRAME AND WHAT FOLLOWS IT COME APART. -/
theorem unfL_frame (p r : List UInt8) (hp : p.length ≤ 1048576) : unfL (frameL p ++ r) = (p, r, 0) := by
  have e : frameL p ++ r = be4 p.length ++ be4 (Crc.crc (be4 p.length ++ p)) ++ (p ++ r) := by unfold frameL; simp
  rw [e, unfL_head _ _ _ (by omega) (Crc.crc_lt _), if_neg (by omega), if_neg (by simp), List.take_left' rfl, List.drop_left' rfl, if_neg (by simp)]

/-- A frame cut short is short. -/
theorem unfL_cut (p : List UInt8) (k : Nat) (hp : p.length ≤ 1048576) (hk : k < 8 + p.length) : unfL ((frameL p).take k) = ([], [], 30) := by
  by_cases h8 : k < 8
  · unfold unfL; rw [if_pos (by rw [List.length_take, frameL_length]; omega)]
  · have e : (frameL p).take k = be4 p.length ++ be4 (Crc.crc (be4 p.length ++ p)) ++ p.take (k - 8) := by
      have : frameL p = (be4 p.length ++ be4 (Crc.crc (be4 p.length ++ p))) ++ p := rfl
      rw [this, List.take_append]
      have l8 : (be4 p.length ++ be4 (Crc.crc (be4 p.length ++ p))).length = 8 := by simp [be4_length]
      rw [l8, List.take_of_length_le (by omega)]
    rw [e, unfL_head _ _ _ (by omega) (Crc.crc_lt _), if_neg (by omega), if_pos (by rw [List.length_take]; omega)]

/-- Of eight bytes and a payload of the told length with another sum. -/
theorem unfL_spoilt (n c : Nat) (q : List UInt8) (hn : n = q.length) (hp : q.length ≤ 1048576) (hc : c < 4294967296) (hne : Crc.crc (be4 n ++ q) ≠ c) :
    unfL (be4 n ++ be4 c ++ q) = ([], [], 32) := by
  subst hn
  rw [unfL_head _ _ _ (by omega) hc, if_neg (by omega), if_neg (by omega), List.take_of_length_le (Nat.le_refl _), if_pos hne]

theorem frame_size (p : ByteArray) : (strL (frameL p.data.toList)).size = 8 + p.size := by rw [strL_size, frameL_length]; simp
/-- The same, as the program answers it. -/
theorem Unframe_frame (p r : ByteArray) (hp : p.size ≤ 1048576) (hr : r.size ≤ 140737488351232) (w : World) (ht : Tab w) :
    Calls Tryd.prog 12 #[.string (strL (frameL p.data.toList) ++ r)] w fun e w' => e = .returned (.tuple #[.string p, .string r, .int .i64 0]) ∧ ∃ n, w' = w.drewN n := by
  have h := Unframe_any (strL (frameL p.data.toList) ++ r) (by rw [ByteArray.size_append, frame_size]; unfold maxLen; omega) w ht
  have e : (strL (frameL p.data.toList) ++ r).data.toList = frameL p.data.toList ++ r.data.toList := by simp [strL]
  rw [e, unfL_frame _ _ (by simpa using hp), strL_of, strL_of] at h
  exact h
end Go.Proofs.YtbiogajejcfkfaaDoor
