/-
  THE FRAMES: what wire's gather, Crc, sum, big, small, Frame and Unframe compute: each walked once. Conditions: the table of the checksum lies where the program lays it; the lengths are those of texts in memory.
-/
import Derived.Test.YtbiogajejcfkfaaRows
import Derived.Test.YtbiogajejcfkfaaCrc
import Derived.WalkKit
import Derived.WalkLawsBesides
import Derived.WalkSpells
import Derived.Outline
import Derived.Lib.Hide
import Derived.RegionTactic
import Derived.ChangeAlike
import Derived.Deep.QuietTactic
import Derived.BigQuiet
import Derived.Lib.ConvBytes
import Derived.Laws.IdiomStrings
import Derived.Lib.AppendStr
import Derived.WalkSmall
namespace Go.Proofs.Ytbiogajejcfkfaa
open Go.RowKit

theorem bits_xor32 (a b : Nat) (ha : a < 2 ^ 32) (hb : b < 2 ^ 32) : bits .xor .u32 (a : Int) (b : Int) = ((a ^^^ b : Nat) : Int) := by
  have := u32_xor (a := (a : Int)) (b := (b : Int)) (by omega) (by omega) (by omega) (by omega)
  simpa using this
theorem bits_and15 (a : Nat) (ha : a < 2 ^ 32) : bits .and .u32 (a : Int) 15 = ((a % 16 : Nat) : Int) := by
  have := bits_mask .u32 32 (by decide) (fun n h0 h1 => by rw [IntKind.wrap_u32]; omega) 4 (by decide) (a : Int) (by omega) (by omega)
  simpa using this

theorem ret_int {k : IntKind} {a b : Int} (h : a = b) : Ending.returned (.int k a) = .returned (.int k b) := by rw [h]
theorem take_snoc (s : ByteArray) (k : Nat) (h : k < s.size) : s.data.toList.take (k + 1) = s.data.toList.take k ++ [s[k]] := by
  rw [List.take_succ_eq_append_getElem (by simpa using h)]; rfl

def strL (l : List UInt8) : ByteArray := ⟨l.toArray⟩
theorem strL_data (l : List UInt8) : (strL l).data.toList = l := rfl
theorem strL_size (l : List UInt8) : (strL l).size = l.length := by show l.toArray.size = _; simp
theorem strL_append (a b : List UInt8) : strL a ++ strL b = strL (a ++ b) := by
  apply ByteArray.ext; simp [strL]
theorem strL_of (b : ByteArray) : strL b.data.toList = b := by cases b; rfl
def be4 (n : Nat) : List UInt8 := [UInt8.ofNat (n / 16777216 % 256), UInt8.ofNat (n / 65536 % 256), UInt8.ofNat (n / 256 % 256), UInt8.ofNat (n % 256)]
theorem u8_cast (m : Nat) (i : Int) (h : i = (m : Int)) (hm : m < 256) : Value.int .u8 i = .int .u8 ((UInt8.ofNat m).toNat : Int) := by
  rw [h]; simp [Nat.mod_eq_of_lt hm]

/-- The number that a text's first four bytes are. -/
def num4L (l : List UInt8) : Nat := ((l.getD 0 0).toNat * 256 + (l.getD 1 0).toNat) * 65536 + (l.getD 2 0).toNat * 256 + (l.getD 3 0).toNat
def num4 (b : ByteArray) : Nat := num4L b.data.toList
theorem getD_byte (b : ByteArray) (i : Nat) (h : i < b.size) : b[i] = b.data.toList.getD i 0 := by
  rw [List.getD_eq_getElem?_getD, List.getElem?_eq_getElem (by simpa using h)]; rfl

theorem or4 (a b c d : Nat) (ha : a < 256) (hb : b < 256) (hc : c < 256) (hd : d < 256) :
    bits .or .u32 (bits .or .u32 (bits .or .u32 ((a : Int) % 4294967296 * 16777216 % 4294967296) ((b : Int) % 4294967296 * 65536 % 4294967296)) ((c : Int) % 4294967296 * 256 % 4294967296)) ((d : Int) % 4294967296)
      = (((a * 256 + b) * 65536 + c * 256 + d : Nat) : Int) := by
  have wr : ∀ n : Int, 0 ≤ n → n < 2 ^ 32 → IntKind.u32.wrap n = n := fun n h0 h1 => by rw [IntKind.wrap_u32]; omega
  have j1 := bits_join .u32 32 (by decide) wr 24 ((a : Int) * 16777216) ((b : Int) * 65536) (by omega) (by omega) (by omega) (by omega) (by omega) (by omega)
  have j2 := bits_join .u32 32 (by decide) wr 16 ((a : Int) * 16777216 + (b : Int) * 65536) ((c : Int) * 256) (by omega) (by omega) (by omega) (by omega) (by omega) (by omega)
  have j3 := bits_join .u32 32 (by decide) wr 8 ((a : Int) * 16777216 + (b : Int) * 65536 + (c : Int) * 256) (d : Int) (by omega) (by omega) (by omega) (by omega) (by omega) (by omega)
  rw [show (a : Int) % 4294967296 * 16777216 % 4294967296 = (a : Int) * 16777216 by omega, show (b : Int) % 4294967296 * 65536 % 4294967296 = (b : Int) * 65536 by omega,
    show (c : Int) % 4294967296 * 256 % 4294967296 = (c : Int) * 256 by omega, show (d : Int) % 4294967296 = (d : Int) by omega, j1, j2, j3]
  omega

theorem flip_bits (c : Nat) (h : c < 2 ^ 32) : bits .xor .u32 IntKind.u32.max (c : Int) = ((Crc.flip c : Nat) : Int) := by
  have := u32_xor_nat 4294967295 c (by decide) h
  rw [Crc.flip_eq c h, ← this]; rfl
theorem crc_two (a b : List UInt8) : Crc.flip (Crc.gath (Crc.gath 4294967295 a) b) = Crc.crc (a ++ b) := by
  unfold Crc.crc; rw [Crc.gath_append]
/-- A frame's bytes. -/
def frameL (p : List UInt8) : List UInt8 := be4 p.length ++ be4 (Crc.crc (be4 p.length ++ p)) ++ p
theorem be4_length (n : Nat) : (be4 n).length = 4 := rfl
/-- What Unframe answers. -/
def unfL (s : List UInt8) : List UInt8 × List UInt8 × Int :=
  if s.length < 8 then ([], [], 30) else if 1048576 < num4L s then ([], [], 32) else if s.length - 8 < num4L s then ([], [], 30)
  else if Crc.crc (s.take 4 ++ (s.drop 8).take (num4L s)) ≠ num4L (s.drop 4) then ([], [], 32) else ((s.drop 8).take (num4L s), s.drop (8 + num4L s), 0)
theorem num4L_lt (l : List UInt8) : num4L l < 4294967296 := by
  unfold num4L
  have := (l.getD 0 0).toNat_lt; have := (l.getD 1 0).toNat_lt; have := (l.getD 2 0).toNat_lt; have := (l.getD 3 0).toNat_lt
  omega
theorem extract_list (s : ByteArray) (i j : Nat) : (s.extract i j).data.toList = (s.data.toList.drop i).take (j - i) := by
  simp [ByteArray.data_extract]
theorem num4_take (s : ByteArray) : num4 (s.extract 0 4) = num4L s.data.toList := by
  unfold num4 num4L
  rw [extract_list]
  simp
theorem num4_mid (s : ByteArray) : num4 (s.extract 4 8) = num4L (s.data.toList.drop 4) := by
  unfold num4 num4L
  rw [extract_list]
  simp

theorem ret_unf {a b a' b' : ByteArray} {e e' : Int} (h1 : a = a') (h2 : b = b') (h3 : e = e') : Ending.returned (.tuple #[.string a, .string b, .int .i64 e]) = .returned (.tuple #[.string a', .string b', .int .i64 e']) := by rw [h1, h2, h3]

end Go.Proofs.Ytbiogajejcfkfaa
