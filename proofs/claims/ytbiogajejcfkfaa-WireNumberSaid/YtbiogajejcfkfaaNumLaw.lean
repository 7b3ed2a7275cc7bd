/-
  THE PLAIN LAW OF WireNumber: a number's bytes one by one; what is taken of them cut short, or with an idle byte.
-/
import Derived.Test.YtbiogajejcfkfaaVarLaw
namespace Go.Proofs.Ytbiogajejcfkfaa
set_option linter.unusedVariables false

theorem varL_get : ∀ (n i : Nat) (h : i < (varL n).length), (i + 1 = (varL n).length → (varL n)[i].toNat = n / 128 ^ i ∧ n / 128 ^ i ≤ 127) ∧ (i + 1 < (varL n).length → (varL n)[i].toNat = n / 128 ^ i % 128 + 128) := by
  intro n
  induction n using Nat.strongRecOn with
  | _ n ih =>
    intro i h
    by_cases hs : n ≤ 127
    · have e := varL_small n hs
      have hl : (varL n).length = 1 := by rw [e]; rfl
      have hi : i = 0 := by omega
      subst hi
      have hg : (varL n)[0] = UInt8.ofNat n := by simp [e]
      have hc : (UInt8.ofNat n).toNat = n := UInt8.toNat_ofNat_of_lt' (by show n < 256; omega)
      refine ⟨fun _ => ⟨by rw [hg, hc]; simp, by simpa using hs⟩, fun h => by omega⟩
    · have e := varL_great n (by omega)
      have hl : (varL n).length = (varL (n / 128)).length + 1 := by rw [e]; rfl
      have hp := varL_pos (n / 128)
      have hc : (UInt8.ofNat (n % 128 + 128)).toNat = n % 128 + 128 := UInt8.toNat_ofNat_of_lt' (by show n % 128 + 128 < 256; omega)
      cases i with
      | zero =>
        have hg : (varL n)[0] = UInt8.ofNat (n % 128 + 128) := by simp [e]
        refine ⟨fun h => by omega, fun _ => by rw [hg, hc]; simp⟩
      | succ i =>
        have hg : (varL n)[i + 1] = (varL (n / 128))[i]'(by omega) := by simp [e]
        have hd : n / 128 ^ (i + 1) = n / 128 / 128 ^ i := by rw [Nat.pow_succ, Nat.mul_comm, Nat.div_div_eq_div_mul]
        obtain ⟨h1, h2⟩ := ih (n / 128) (by omega) i (by omega)
        rw [hg, hd]
        exact ⟨fun h => h1 (by omega), fun h => h2 (by omega)⟩
theorem varL_last : ∀ n, 1 < (varL n).length → 0 < n / 128 ^ ((varL n).length - 1) := by
  intro n
  induction n using Nat.strongRecOn with
  | _ n ih =>
    intro h
    by_cases hs : n ≤ 127
    · rw [varL_small n hs] at h; simp at h
    · have hl : (varL n).length = (varL (n / 128)).length + 1 := by rw [varL_great n (by omega)]; rfl
      have hp := varL_pos (n / 128)
      have hd : n / 128 ^ ((varL (n / 128)).length - 1 + 1) = n / 128 / 128 ^ ((varL (n / 128)).length - 1) := by rw [Nat.pow_succ, Nat.mul_comm, Nat.div_div_eq_div_mul]
      rw [hl, show (varL (n / 128)).length + 1 - 1 = (varL (n / 128)).length - 1 + 1 by omega, hd]
      by_cases h1 : 1 < (varL (n / 128)).length
      · exact ih (n / 128) (by omega) h1
      · have : (varL (n / 128)).length - 1 = 0 := by omega
        rw [this]; simp; omega

/-- All but the last byte. -/
def headL (n : Nat) : List UInt8 := (varL n).take ((varL n).length - 1)
theorem headL_small (n : Nat) (h : n ≤ 127) : headL n = [] := by unfold headL; rw [varL_small n h]; rfl
theorem headL_great (n : Nat) (h : 127 < n) : headL n = UInt8.ofNat (n % 128 + 128) :: headL (n / 128) := by
  unfold headL
  have hp := varL_pos (n / 128)
  rw [varL_great n h, List.length_cons, Nat.add_sub_cancel]
  obtain ⟨k, hk⟩ : ∃ k, (varL (n / 128)).length = k + 1 := ⟨(varL (n / 128)).length - 1, by omega⟩
  rw [hk, List.take_succ_cons, Nat.add_sub_cancel]

theorem numGo_head (max : Nat) : ∀ (n sh acc : Nat) (r : List UInt8), sh ≤ 63 → sh % 7 = 0 → n * 2 ^ sh < 2 ^ 64 →
    ∃ sh' acc', numGo max sh acc (headL n ++ r) = numGo max sh' acc' r ∧ sh' ≤ 63 ∧ sh' % 7 = 0 := by
  intro n
  induction n using Nat.strongRecOn with
  | _ n ih =>
    intro sh acc r hsh h7 hn
    by_cases hs : n ≤ 127
    · rw [headL_small n hs]; exact ⟨sh, acc, rfl, hsh, h7⟩
    · rw [headL_great n (by omega)]
      have hc : (UInt8.ofNat (n % 128 + 128)).toNat = n % 128 + 128 := UInt8.toNat_ofNat_of_lt' (by show n % 128 + 128 < 256; omega)
      have h57 : sh ≤ 56 := by
        by_cases h : sh = 63
        · subst h
          have : (2 : Nat) ^ 64 = 2 * 2 ^ 63 := by decide
          rw [this] at hn
          have := Nat.lt_of_mul_lt_mul_right hn
          omega
        · omega
      have hp : n / 128 * 2 ^ (sh + 7) ≤ n * 2 ^ sh := by
        rw [Nat.pow_add, Nat.mul_comm (2 ^ sh), ← Nat.mul_assoc]
        exact Nat.mul_le_mul_right _ (by omega)
      obtain ⟨s2, a2, h2, h3⟩ := ih (n / 128) (by omega) (sh + 7) (acc + (n % 128 + 128) % 128 * 2 ^ sh) r (by omega) (by omega) (by omega)
      refine ⟨s2, a2, ?_, h3⟩
      rw [← h2]
      simp only [List.cons_append, numGo, hc, if_neg (show ¬ (sh = 63 ∧ 1 < n % 128 + 128) by omega), if_neg (show ¬ (n % 128 + 128 < 128) by omega)]

theorem numP_cut (max n : Nat) (h : n < 2 ^ 64) : numP max (headL n) = .error 30 := by
  obtain ⟨s, a, h1, _⟩ := numGo_head max n 0 0 [] (by omega) rfl (by simpa using h)
  rw [List.append_nil] at h1
  unfold numP
  rw [h1]; rfl
theorem numGo_zero (max t a : Nat) (ht : 0 < t) : numGo max t a [0] = .error 31 := by
  have h0 : (0 : UInt8).toNat = 0 := rfl
  rw [numGo, h0, if_neg (by omega), if_pos (by omega), if_pos (by omega)]
theorem numP_idle (max n : Nat) (c : UInt8) (h : n < 2 ^ 64) (hc : 128 ≤ c.toNat) : numP max (headL n ++ [c, 0]) = .error 31 := by
  obtain ⟨s, a, h1, h2, h3⟩ := numGo_head max n 0 0 [c, 0] (by omega) rfl (by simpa using h)
  unfold numP
  rw [h1]
  by_cases h63 : s = 63
  · simp only [numGo, if_pos (show s = 63 ∧ 1 < c.toNat by omega)]
  · rw [numGo, if_neg (show ¬ (s = 63 ∧ 1 < c.toNat) by omega), if_neg (show ¬ (c.toNat < 128) by omega)]
    exact numGo_zero _ _ _ (by omega)
end Go.Proofs.Ytbiogajejcfkfaa
