/-
  The CRC-32 of the document as plain arithmetic on natural numbers: that it is affine, and that a difference inside 32 bits in a row is always told. No program in sight.
-/
namespace Go.Proofs.YtklhhpnibeejeaaDoor.Crc

/-- The sixteen remainders, as a list. -/
def tabL : List Nat := [0x00000000, 0x1db71064, 0x3b6e20c8, 0x26d930ac, 0x76dc4190, 0x6b6b51f4, 0x4db26158, 0x5005713c, 0xedb88320, 0xf00f9344, 0xd6d6a3e8, 0xcb61b38c, 0x9b64c2b0, 0x86d3d2d4, 0xa00ae278, 0xbdbdf21c]
def tab (i : Nat) : Nat := tabL.getD i 0
def nib (c : Nat) : Nat := tab (c % 16) ^^^ (c / 16)
def stepB (c b : Nat) : Nat := nib (nib (c ^^^ b))
def gath (c : Nat) (l : List UInt8) : Nat := l.foldl (fun c b => stepB c b.toNat) c
/-- The complement within 32 bits. -/
def flip (c : Nat) : Nat := 4294967295 - c
def crc (l : List UInt8) : Nat := flip (gath 4294967295 l)

theorem tab_lt (i : Nat) : tab i < 2 ^ 32 := by
  unfold tab tabL
  match i with
  | 0 | 1 | 2 | 3 | 4 | 5 | 6 | 7 | 8 | 9 | 10 | 11 | 12 | 13 | 14 | 15 => decide
  | n + 16 => simp

theorem tab_xor : ∀ i, i < 16 → ∀ j, j < 16 → tab (i ^^^ j) = tab i ^^^ tab j := by decide
theorem tab_top : ∀ i, i < 16 → tab i < 2 ^ 28 → i = 0 := by decide

theorem xor_mod16 (a b : Nat) : (a ^^^ b) % 16 = a % 16 ^^^ b % 16 := Nat.xor_mod_two_pow (n := 4)
theorem xor_div16 (a b : Nat) : (a ^^^ b) / 16 = a / 16 ^^^ b / 16 := Nat.xor_div_two_pow (n := 4)

theorem nib_xor (a b : Nat) : nib (a ^^^ b) = nib a ^^^ nib b := by
  unfold nib
  rw [xor_mod16, xor_div16, tab_xor _ (Nat.mod_lt _ (by decide)) _ (Nat.mod_lt _ (by decide))]
  ac_rfl
theorem nib_lt (c : Nat) (h : c < 2 ^ 32) : nib c < 2 ^ 32 := Nat.xor_lt_two_pow (tab_lt _) (by omega)
theorem nib_zero : nib 0 = 0 := by decide
theorem nib_eq_zero (c : Nat) (h : c < 2 ^ 32) (hz : nib c = 0) : c = 0 := by
  unfold nib at hz
  have e : tab (c % 16) = c / 16 := by
    have := congrArg (· ^^^ (c / 16)) hz
    simpa [Nat.xor_assoc] using this
  have h16 : c % 16 < 16 := Nat.mod_lt _ (by decide)
  have hz' := tab_top _ h16 (by rw [e]; omega)
  rw [hz'] at e
  have : tab 0 = 0 := by decide
  omega

theorem byte_lt (b : UInt8) : b.toNat < 2 ^ 32 := by have := b.toNat_lt; omega

theorem stepB_lt (c b : Nat) (h : c < 2 ^ 32) (hb : b < 2 ^ 32) : stepB c b < 2 ^ 32 := nib_lt _ (nib_lt _ (Nat.xor_lt_two_pow h hb))
theorem stepB_xor (c d b e : Nat) : stepB (c ^^^ d) (b ^^^ e) = stepB c b ^^^ stepB d e := by
  unfold stepB
  rw [show (c ^^^ d) ^^^ (b ^^^ e) = (c ^^^ b) ^^^ (d ^^^ e) by ac_rfl, nib_xor, nib_xor]

theorem gath_lt (l : List UInt8) : ∀ c, c < 2 ^ 32 → gath c l < 2 ^ 32 := by
  induction l with
  | nil => intro c h; exact h
  | cons b l ih => intro c h; exact ih _ (stepB_lt _ _ h (byte_lt b))

theorem gath_append (c : Nat) (a b : List UInt8) : gath c (a ++ b) = gath (gath c a) b := by simp [gath]
theorem gath_snoc (c : Nat) (a : List UInt8) (b : UInt8) : gath c (a ++ [b]) = stepB (gath c a) b.toNat := by simp [gath]

/-- The exclusive or of two texts, place by place. -/
def xorL (a b : List UInt8) : List UInt8 := List.zipWith (· ^^^ ·) a b

theorem gath_xor (a : List UInt8) : ∀ (b : List UInt8) (c d : Nat), a.length = b.length → gath (c ^^^ d) (xorL a b) = gath c a ^^^ gath d b := by
  induction a with
  | nil => intro b c d h; cases b with
    | nil => rfl
    | cons _ _ => simp at h
  | cons x a ih =>
    intro b c d h
    cases b with
    | nil => simp at h
    | cons y b =>
      simp only [List.length_cons, Nat.add_right_cancel_iff] at h
      show gath (stepB (c ^^^ d) (x ^^^ y).toNat) (xorL a b) = gath (stepB c x.toNat) a ^^^ gath (stepB d y.toNat) b
      rw [UInt8.toNat_xor, stepB_xor, ih b _ _ h]

/-- THE SUM IS AFFINE. -/
theorem flip_eq (c : Nat) (h : c < 2 ^ 32) : flip c = 4294967295 ^^^ c := by
  unfold flip
  apply Nat.eq_of_testBit_eq
  intro i
  rw [Nat.testBit_xor, show (4294967295 : Nat) - c = 2 ^ 32 - (c + 1) by omega, Nat.testBit_two_pow_sub_succ h, show (4294967295 : Nat) = 2 ^ 32 - 1 by decide, Nat.testBit_two_pow_sub_one]
  by_cases hi : i < 32
  · simp [hi]
  · have : c.testBit i = false := Nat.testBit_lt_two_pow (Nat.lt_of_lt_of_le h (Nat.pow_le_pow_right (by decide) (by omega)))
    simp [hi, this]

theorem crc_eq (l : List UInt8) : crc l = 4294967295 ^^^ gath 4294967295 l := flip_eq _ (gath_lt l _ (by decide))
theorem crc_lt (l : List UInt8) : crc l < 2 ^ 32 := by unfold crc flip; omega

theorem crc_affine (a b c : List UInt8) (h : a.length = b.length) (h' : b.length = c.length) :
    crc (xorL a (xorL b c)) = crc a ^^^ crc b ^^^ crc c := by
  have e : xorL b c = xorL b c := rfl
  have l1 : (xorL b c).length = b.length := by simp [xorL, h']
  rw [crc_eq, crc_eq, crc_eq, crc_eq]
  have k : (4294967295 : Nat) = 4294967295 ^^^ (4294967295 ^^^ 4294967295) := by decide
  conv => lhs; rw [k]
  rw [show gath (4294967295 ^^^ (4294967295 ^^^ 4294967295)) (xorL a (xorL b c)) = gath 4294967295 a ^^^ (gath 4294967295 b ^^^ gath 4294967295 c) by
    rw [gath_xor _ _ _ _ (by rw [l1, h]), gath_xor _ _ _ _ h']]
  ac_rfl

theorem crc_empty : crc [] = 0 := by decide
set_option maxRecDepth 100000 in
theorem crc_nine : crc [49, 50, 51, 52, 53, 54, 55, 56, 57] = 0xcbf43926 := by decide +kernel

/-- The number that a text is, its first byte the lowest. -/
def le : List UInt8 → Nat
  | [] => 0
  | b :: l => b.toNat + 256 * le l

/-- One bit's step, on any number. -/
def L (c : Nat) : Nat := c / 2 ^^^ (if c % 2 = 1 then 0xedb88320 else 0)
def Ln : Nat → Nat → Nat
  | 0, c => c
  | n + 1, c => Ln n (L c)
theorem Ln_add (m n c : Nat) : Ln (m + n) c = Ln n (Ln m c) := by
  induction m generalizing c with
  | zero => rw [Nat.zero_add]; rfl
  | succ m ih => rw [Nat.succ_add]; exact ih _
theorem L_xor (a b : Nat) : L (a ^^^ b) = L a ^^^ L b := by
  unfold L
  have h1 : (a ^^^ b) / 2 = a / 2 ^^^ b / 2 := Nat.xor_div_two_pow (n := 1)
  have h2 : (a ^^^ b) % 2 = a % 2 ^^^ b % 2 := Nat.xor_mod_two_pow (n := 1)
  rw [h1, h2]
  rcases Nat.mod_two_eq_zero_or_one a with ha | ha <;> rcases Nat.mod_two_eq_zero_or_one b with hb | hb <;> rw [ha, hb] <;> simp
  · ac_rfl
  · ac_rfl
  · rw [show a / 2 ^^^ 3988292384 ^^^ (b / 2 ^^^ 3988292384) = a / 2 ^^^ b / 2 ^^^ (3988292384 ^^^ 3988292384) by ac_rfl]; simp
theorem Ln_xor (n a b : Nat) : Ln n (a ^^^ b) = Ln n a ^^^ Ln n b := by
  induction n generalizing a b with
  | zero => rfl
  | succ n ih => show Ln n (L (a ^^^ b)) = _; rw [L_xor, ih]; rfl
theorem L_lt (c : Nat) (h : c < 2 ^ 32) : L c < 2 ^ 32 := Nat.xor_lt_two_pow (by omega) (by split <;> decide)
theorem L_eq_zero (c : Nat) (h : c < 2 ^ 32) (hz : L c = 0) : c = 0 := by
  unfold L at hz
  have e : c / 2 = (if c % 2 = 1 then 0xedb88320 else 0) := by
    have := congrArg (· ^^^ (if c % 2 = 1 then 0xedb88320 else 0)) hz
    simpa [Nat.xor_assoc] using this
  split at e <;> omega
theorem Ln_ne_zero (n c : Nat) (h : c < 2 ^ 32) (hz : c ≠ 0) : Ln n c ≠ 0 := by
  induction n generalizing c with
  | zero => exact hz
  | succ n ih => exact ih _ (L_lt c h) fun e => hz (L_eq_zero c h e)
theorem L_double (c : Nat) : L (2 * c) = c := by unfold L; rw [if_neg (by omega)]; simp
theorem Ln_shift (n c : Nat) : Ln n (2 ^ n * c) = c := by
  induction n with
  | zero => show 2 ^ 0 * c = c; simp
  | succ n ih => show Ln n (L (2 ^ (n + 1) * c)) = c; rw [show 2 ^ (n + 1) * c = 2 * (2 ^ n * c) by rw [Nat.pow_succ]; ac_rfl, L_double, ih]

theorem Ln4_small : ∀ i, i < 16 → Ln 4 i = tab i := by decide
theorem split16 (c : Nat) : c = c % 16 ^^^ 16 * (c / 16) := by
  have h := Nat.two_pow_add_eq_or_of_lt (i := 4) (b := c % 16) (Nat.mod_lt _ (by decide)) (c / 16)
  apply Nat.eq_of_testBit_eq
  intro i
  rw [Nat.testBit_xor, show 16 * (c / 16) = 2 ^ 4 * (c / 16) from rfl, show c % 16 = c % 2 ^ 4 from rfl, Nat.testBit_mod_two_pow, Nat.testBit_two_pow_mul, show c / 16 = c / 2 ^ 4 from rfl, Nat.testBit_div_two_pow]
  by_cases hi : i < 4
  · simp [hi, Nat.not_le.2 hi]
  · simp [hi, Nat.not_lt.1 hi]
theorem nib_eq (c : Nat) : nib c = Ln 4 c := by
  conv => rhs; rw [split16 c, Ln_xor, Ln4_small _ (Nat.mod_lt _ (by decide)), show 16 * (c / 16) = 2 ^ 4 * (c / 16) from rfl, Ln_shift]
  rfl
theorem stepB_eq (c b : Nat) : stepB c b = Ln 8 (c ^^^ b) := by
  unfold stepB; rw [nib_eq, nib_eq, show (8 : Nat) = 4 + 4 from rfl, Ln_add]

theorem split256 (b n : Nat) (hb : b < 256) : b + 256 * n = b ^^^ 2 ^ 8 * n := by
  have h := Nat.two_pow_add_eq_or_of_lt (i := 8) (b := b) hb n
  apply Nat.eq_of_testBit_eq
  intro i
  rw [show b + 256 * n = 2 ^ 8 * n + b by omega, h, Nat.testBit_or, Nat.testBit_xor, Nat.testBit_two_pow_mul]
  by_cases hi : i < 8
  · simp [Nat.not_le.2 hi]
  · have : b.testBit i = false := Nat.testBit_lt_two_pow (Nat.lt_of_lt_of_le hb (by rw [show (256 : Nat) = 2 ^ 8 from rfl]; exact Nat.pow_le_pow_right (by decide) (by omega)))
    simp [this]

theorem gath_eq (l : List UInt8) : ∀ c, gath c l = Ln (8 * l.length) (c ^^^ le l) := by
  induction l with
  | nil => intro c; show c = c ^^^ 0; simp
  | cons b l ih =>
    intro c
    show gath (stepB c b.toNat) l = _
    rw [ih, stepB_eq, show 8 * (b :: l).length = 8 + 8 * l.length by simp; omega, Ln_add]
    congr 1
    show Ln 8 (c ^^^ b.toNat) ^^^ le l = Ln 8 (c ^^^ (b.toNat + 256 * le l))
    rw [split256 _ _ b.toNat_lt, ← Nat.xor_assoc, Ln_xor 8 _ (2 ^ 8 * le l), Ln_shift]

/-- A DIFFERENCE INSIDE 32 BITS IN A ROW IS TOLD: of two texts of one length whose numbers' exclusive or is 2^at * m, m below 2^32 and not 0. -/
theorem gath_burst (a b : List UInt8) (c : Nat) (h : a.length = b.length) (at_ m : Nat) (hm : m < 2 ^ 32) (h0 : m ≠ 0) (hat : at_ ≤ 8 * a.length)
    (hx : le a ^^^ le b = 2 ^ at_ * m) : gath c a ≠ gath c b := by
  intro e
  rw [gath_eq, gath_eq, ← h] at e
  have z : Ln (8 * a.length) (c ^^^ le a) ^^^ Ln (8 * a.length) (c ^^^ le b) = 0 := by rw [e]; simp
  rw [← Ln_xor, show c ^^^ le a ^^^ (c ^^^ le b) = (c ^^^ c) ^^^ (le a ^^^ le b) by ac_rfl, Nat.xor_self, Nat.zero_xor, hx,
    show 8 * a.length = at_ + (8 * a.length - at_) by omega, Ln_add, Ln_shift] at z
  exact Ln_ne_zero _ m hm h0 z

#print axioms gath_burst
#print axioms crc_affine
end Go.Proofs.YtklhhpnibeejeaaDoor.Crc
