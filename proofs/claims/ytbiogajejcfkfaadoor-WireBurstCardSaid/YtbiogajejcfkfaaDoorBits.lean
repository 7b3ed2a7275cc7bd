/-
  BITS OF A TEXT AS A NUMBER: one bit of one byte turned; bits turned one by one inside 32 in a row. No program in sight.
-/
import Derived.Test.YtbiogajejcfkfaaDoorCrc
namespace Go.Proofs.YtbiogajejcfkfaaDoor.Crc

theorem mul_xor (n a b : Nat) : 2 ^ n * (a ^^^ b) = 2 ^ n * a ^^^ 2 ^ n * b := by
  have := Nat.shiftLeft_xor_distrib (a := a) (b := b) (i := n)
  rw [Nat.shiftLeft_eq, Nat.shiftLeft_eq, Nat.shiftLeft_eq] at this
  rw [Nat.mul_comm, this, Nat.mul_comm a, Nat.mul_comm b]

theorem le_cons (b : UInt8) (l : List UInt8) : le (b :: l) = b.toNat ^^^ 2 ^ 8 * le l := split256 _ _ b.toNat_lt

/-- One bit of one byte turned. -/
theorem le_set (l : List UInt8) (x : UInt8) (r : Nat) (hx : x.toNat = 2 ^ r) : ∀ j, (hj : j < l.length) → le (l.set j (l[j] ^^^ x)) = le l ^^^ 2 ^ (8 * j + r) := by
  induction l with
  | nil => intro j hj; simp at hj
  | cons b l ih =>
    intro j hj
    cases j with
    | zero =>
      show le ((b ^^^ x) :: l) = _
      rw [le_cons, le_cons, UInt8.toNat_xor, hx, show 8 * 0 + r = r by omega]
      ac_rfl
    | succ j =>
      have hj' : j < l.length := by simpa using hj
      show le (b :: l.set j (l[j] ^^^ x)) = _
      rw [le_cons, le_cons, ih j hj', mul_xor, show 8 * (j + 1) + r = 8 + (8 * j + r) by omega, Nat.pow_add 2 8 (8 * j + r)]
      ac_rfl

/-- A number below 2^i with its bit i set besides. -/
theorem xor_top (m i : Nat) (h : m < 2 ^ i) : m ^^^ 2 ^ i = m + 2 ^ i := by
  have h1 := Nat.two_pow_add_eq_or_of_lt (i := i) (b := m) h 1
  rw [Nat.mul_one] at h1
  rw [Nat.add_comm, h1]
  apply Nat.eq_of_testBit_eq
  intro k
  rw [Nat.testBit_xor, Nat.testBit_or, Nat.testBit_two_pow]
  by_cases e : i = k
  · subst e
    simp [Nat.testBit_lt_two_pow h]
  · simp [e]

/-- What has been turned so far: the bits of m, m below 2^i, from bit 'a' on. -/
def Turn (p q : List UInt8) (a i m : Nat) : Prop := q.length = p.length ∧ m < 2 ^ i ∧ le p ^^^ le q = 2 ^ a * m
theorem turn_zero (p : List UInt8) (a : Nat) : Turn p p a 0 0 := ⟨rfl, by decide, by simp⟩
theorem turn_keep {p q : List UInt8} {a i m : Nat} (h : Turn p q a i m) : Turn p q a (i + 1) m :=
  ⟨h.1, Nat.lt_of_lt_of_le h.2.1 (Nat.pow_le_pow_right (by decide) (by omega)), h.2.2⟩
theorem turn_le {p q : List UInt8} {a i k m : Nat} (h : Turn p q a i m) (hk : i ≤ k) : Turn p q a k m :=
  ⟨h.1, Nat.lt_of_lt_of_le h.2.1 (Nat.pow_le_pow_right (by decide) hk), h.2.2⟩
theorem turn_bit {p q : List UInt8} {a i m : Nat} (h : Turn p q a i m) (x : UInt8) (j : Nat) (hj : j < q.length) (hx : x.toNat = 2 ^ ((a + i) % 8)) (hji : j = (a + i) / 8) :
    Turn p (q.set j (q[j] ^^^ x)) a (i + 1) (m + 2 ^ i) := by
  refine ⟨by rw [List.length_set]; exact h.1, by have := h.2.1; rw [Nat.pow_succ]; omega, ?_⟩
  rw [le_set q x _ hx j hj, ← Nat.xor_assoc, h.2.2, show 8 * j + (a + i) % 8 = a + i by omega, Nat.pow_add, ← mul_xor, xor_top _ _ h.2.1]
end Go.Proofs.YtbiogajejcfkfaaDoor.Crc
