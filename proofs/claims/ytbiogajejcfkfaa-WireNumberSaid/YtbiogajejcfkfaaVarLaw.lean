/-
  THE PLAIN LAW OF NUMBERS: what varL lays and numP takes.
-/
import Derived.Test.YtbiogajejcfkfaaEncW
import Derived.Test.YtbiogajejcfkfaaEnds
namespace Go.Proofs.Ytbiogajejcfkfaa
set_option linter.unusedVariables false

theorem varL_len (k : Nat) : ∀ n, n < 128 ^ (k + 1) → (varL n).length ≤ k + 1 := by
  induction k with
  | zero => intro n h; rw [varL_small n (by omega)]; simp
  | succ k ih =>
    intro n h
    by_cases hs : n ≤ 127
    · rw [varL_small n hs]; simp
    · rw [varL_great n (by omega)]
      have := ih (n / 128) (by rw [Nat.pow_succ] at h; omega)
      simp; omega
theorem varL_len10 (n : Nat) (h : n < 2 ^ 64) : (varL n).length ≤ 10 := varL_len 9 n (by have : (2 : Nat) ^ 64 < 128 ^ 10 := by decide
                                                                                         show n < 128 ^ 10; omega)

theorem numGo_var (max : Nat) : ∀ (n sh acc : Nat) (r : List UInt8), sh ≤ 63 → sh % 7 = 0 → n * 2 ^ sh < 2 ^ 64 → (0 < n ∨ sh = 0) →
    numGo max sh acc (varL n ++ r) = if max < acc + n * 2 ^ sh then .error 31 else .ok (acc + n * 2 ^ sh, r) := by
  intro n
  induction n using Nat.strongRecOn with
  | _ n ih =>
    intro sh acc r hsh h7 hn hpos
    by_cases hs : n ≤ 127
    · rw [varL_small n hs]
      have hc : (UInt8.ofNat n).toNat = n := UInt8.toNat_ofNat_of_lt' (by show n < 256; omega)
      have hA : ¬ (sh = 63 ∧ 1 < n) := by
        rintro ⟨h1, h2⟩
        subst h1
        have : (2 : Nat) ^ 64 = 2 * 2 ^ 63 := by decide
        rw [this] at hn
        have := Nat.lt_of_mul_lt_mul_right hn
        omega
      have e : n % 128 = n := Nat.mod_eq_of_lt (by omega)
      simp only [List.singleton_append, numGo, hc, if_neg hA, if_pos (show n < 128 by omega), e]
      by_cases hm : max < acc + n * 2 ^ sh
      · rw [if_pos (Or.inl hm), if_pos hm]
      · rw [if_neg (by rintro (h | ⟨h, k⟩); exact hm h; omega), if_neg hm]
    · rw [varL_great n (by omega)]
      have hc : (UInt8.ofNat (n % 128 + 128)).toNat = n % 128 + 128 := UInt8.toNat_ofNat_of_lt' (by show n % 128 + 128 < 256; omega)
      have h57 : sh ≤ 56 := by
        by_cases h : sh = 63
        · subst h
          have : (2 : Nat) ^ 64 = 2 * 2 ^ 63 := by decide
          rw [this] at hn
          have := Nat.lt_of_mul_lt_mul_right hn
          omega
        · omega
      have e : (n % 128 + 128) % 128 = n % 128 := by omega
      have hp : n / 128 * 2 ^ (sh + 7) ≤ n * 2 ^ sh := by
        rw [Nat.pow_add, Nat.mul_comm (2 ^ sh), ← Nat.mul_assoc]
        exact Nat.mul_le_mul_right _ (by omega)
      have hsum : acc + n % 128 * 2 ^ sh + n / 128 * 2 ^ (sh + 7) = acc + n * 2 ^ sh := by
        rw [Nat.pow_add, Nat.mul_comm (2 ^ sh), ← Nat.mul_assoc, Nat.add_assoc, ← Nat.add_mul]
        congr 2; omega
      simp only [List.cons_append, numGo, hc, if_neg (show ¬ (sh = 63 ∧ 1 < n % 128 + 128) by omega), if_neg (show ¬ (n % 128 + 128 < 128) by omega), e]
      rw [ih (n / 128) (by omega) (sh + 7) _ r (by omega) (by omega) (by omega) (Or.inl (by omega)), hsum]

theorem numP_var (max n : Nat) (r : List UInt8) (h : n < 2 ^ 64) : numP max (varL n ++ r) = if max < n then .error 31 else .ok (n, r) := by
  have := numGo_var max n 0 0 r (by omega) rfl (by simpa using h) (Or.inr rfl)
  simpa [numP] using this
end Go.Proofs.Ytbiogajejcfkfaa
