/-
  THE FRAMES: what wire's gather, Crc, sum, big, small, Frame and Unframe compute: each walked once. Conditions: the table of the checksum lies where the program lays it; the lengths are those of texts in memory.
-/
import Derived.Test.YtklhhpnibeejeaaDoorRows
import Derived.Test.YtklhhpnibeejeaaDoorCrc
import Derived.WalkKit
import Derived.WalkLawsBesides
import Derived.WalkSpells
import Derived.Outline
import Derived.Lib.Hide
import Derived.RegionTactic
import Derived.ChangeAlike
import Derived.Deep.QuietTactic
import Derived.BigQuiet
import Derived.Lib.ConvBytes
import Derived.Laws.IdiomStrings
import Derived.Lib.AppendStr
import Derived.WalkSmall
namespace Go.Proofs.YtklhhpnibeejeaaDoor
open Go.RowKit

theorem bits_xor32 (a b : Nat) (ha : a < 2 ^ 32) (hb : b < 2 ^ 32) : bits .xor .u32 (a : Int) (b : Int) = ((a ^^^ b : Nat) : Int) := by
  have := u32_xor (a := (a : Int)) (b := (b : Int)) (by omega) (by omega) (by omega) (by omega)
  simpa using this
theorem bits_and15 (a : Nat) (ha : a < 2 ^ 32) : bits .and .u32 (a : Int) 15 = ((a % 16 : Nat) : Int) := by
  have := bits_mask .u32 32 (by decide) (fun n h0 h1 => by rw [IntKind.wrap_u32]; omega) 4 (by decide) (a : Int) (by omega) (by omega)
  simpa using this

theorem ret_int {k : IntKind} {a b : Int} (h : a = b) : Ending.returned (.int k a) = .returned (.int k b) := by rw [h]
theorem take_snoc (s : ByteArray) (k : Nat) (h : k < s.size) : s.data.toList.take (k + 1) = s.data.toList.take k ++ [s[k]] := by
  rw [List.take_succ_eq_append_getElem (by simpa using h)]; rfl

/-- The table lies where the program lays it. -/
def Tab (w : World) : Prop := ∀ i : Nat, i < 16 → w.cell? ⟨2, i, none⟩ = some (.int .u32 (Crc.tab i))
theorem Tab.lt {w : World} (h : Tab w) : 2 < w.heap.size := World.block_lt_of_cell? w ⟨2, 0, none⟩ (h 0 (by omega))
theorem Tab.below {w w' : World} {B : Nat} (h : Tab w) (hb : Below B w w') (hB : 2 < B) : Tab w' := fun i hi => (hb.cell (p := ⟨2, i, none⟩) hB).trans (h i hi)
theorem Tab.drewN {w : World} (h : Tab w) (n : Nat) : Tab (w.drewN n) := h -- 2

theorem gather_any (s : ByteArray) (hs : s.size ≤ maxLen) (c0 : Nat) (w : World) (hc : c0 < 4294967296)
   (ht : Tab w) :
    Calls Tryd.prog 63 #[.int .u32 c0, .string s] w fun e w' => e = .returned (.int .u32 (Crc.gath c0 s.data.toList)) ∧ w = w' := by
  unfold maxLen at hs
  have H := Lib.hid ht
  clear ht
  go_enter Tryd.func63, Tryd.ntmps63
  go_wp2
  go_loop [0, 5] (fun c i => ∃ k : Nat, k ≤ s.size ∧ i = .int .i64 k ∧ c = .int .u32 (Crc.gath c0 (s.data.toList.take k))) (fun _ i => s.size - (intOf i).toNat)
  case atStart => exact ⟨0, Nat.zero_le _, rfl, rfl⟩
  case round =>
    obtain ⟨k, hk, rfl, rfl⟩ := hrel
    obtain ⟨g, hg⟩ : ∃ g, g = Crc.gath c0 (s.data.toList.take k) := ⟨_, rfl⟩
    rw [← hg]
    by_cases hlt : k < s.size
    · have hgl : g < 2 ^ 32 := by rw [hg]; exact Crc.gath_lt _ _ hc
      have hbl := Crc.byte_lt s[k]
      obtain ⟨x, hx⟩ : ∃ x, x = g ^^^ s[k].toNat := ⟨_, rfl⟩
      obtain ⟨y, hy⟩ : ∃ y, y = Crc.nib x := ⟨_, rfl⟩
      obtain ⟨z, hz⟩ : ∃ z, z = Crc.nib y := ⟨_, rfl⟩
      have hxl : x < 2 ^ 32 := by rw [hx]; exact Nat.xor_lt_two_pow hgl hbl
      have hyl : y < 2 ^ 32 := by rw [hy]; exact Crc.nib_lt _ hxl
      have h1 : bits .xor .u32 ↑g (↑s[k].toNat % 4294967296) = (x : Int) := by
        rw [hx, ← bits_xor32 _ _ hgl hbl]; congr 1; omega
      have h2 := bits_and15 x hxl
      have h2' : 0 ≤ ((x % 16 : Nat) : Int) ∧ ((x % 16 : Nat) : Int) < 16 := by omega
      have h3 : w.cell? ⟨2, x % 16, none⟩ = some (.int .u32 (Crc.tab (x % 16))) := H.out _ (by omega)
      have h4 : bits .xor .u32 ↑(Crc.tab (x % 16)) (↑x / 16) = (y : Int) := by
        rw [hy, show ((x : Int) / 16) = ((x / 16 : Nat) : Int) by omega, bits_xor32 _ _ (Crc.tab_lt _) (by omega)]; rfl
      have h5 := bits_and15 y hyl
      have h5' : 0 ≤ ((y % 16 : Nat) : Int) ∧ ((y % 16 : Nat) : Int) < 16 := by omega
      have h6 : w.cell? ⟨2, y % 16, none⟩ = some (.int .u32 (Crc.tab (y % 16))) := H.out _ (by omega)
      have h7 : bits .xor .u32 ↑(Crc.tab (y % 16)) (↑y / 16) = (z : Int) := by
        rw [hz, show ((y : Int) / 16) = ((y / 16 : Nat) : Int) by omega, bits_xor32 _ _ (Crc.tab_lt _) (by omega)]; rfl
      have HZ : Hid (z = Crc.gath c0 (s.data.toList.take (k + 1))) := by
        show z = _
        rw [take_snoc s k hlt, Crc.gath_snoc, ← hg, hz, hy, hx]; rfl
      clear hx hy hz hg hbl
      go_wp2
      go_round
      case rel => exact ⟨k + 1, by omega, by go_num, by rw [HZ.out]⟩
      case measure => simp [intOf]; omega
    · have HG := Lib.hid hg
      clear hg
      go_wp2
      go_ret
      exact ⟨ret_int (by rw [HG.out, List.take_of_length_le (by simp; omega)]), rfl⟩

def strL (l : List UInt8) : ByteArray := ⟨l.toArray⟩
theorem strL_data (l : List UInt8) : (strL l).data.toList = l := rfl
theorem strL_size (l : List UInt8) : (strL l).size = l.length := by show l.toArray.size = _; simp
theorem strL_append (a b : List UInt8) : strL a ++ strL b = strL (a ++ b) := by
  apply ByteArray.ext; simp [strL]
theorem strL_of (b : ByteArray) : strL b.data.toList = b := by cases b; rfl
def be4 (n : Nat) : List UInt8 := [UInt8.ofNat (n / 16777216 % 256), UInt8.ofNat (n / 65536 % 256), UInt8.ofNat (n / 256 % 256), UInt8.ofNat (n % 256)]
theorem u8_cast (m : Nat) (i : Int) (h : i = (m : Int)) (hm : m < 256) : Value.int .u8 i = .int .u8 ((UInt8.ofNat m).toNat : Int) := by
  rw [h]; simp [Nat.mod_eq_of_lt hm]

set_option maxRecDepth 100000 in
theorem big_any (n : Nat) (w : World) :
    Calls Tryd.prog 41 #[.int .u32 n] w fun e w' => e = .returned (.string (strL (be4 n))) ∧ Below w.heap.size w w' := by
  have hk := run_convert_bytes_back (P := Tryd.prog) (w.alloc (Obj.cells #[Value.int IntKind.u8 (↑n / 16777216 % 256), Value.int IntKind.u8 (↑n / 65536 % 256), Value.int IntKind.u8 (↑n / 256 % 256), Value.int IntKind.u8 (↑n % 256)] 5))
    53 9 5 ⟨w.heap.size, 0, none⟩ 4 (be4 n) Tryd.underlying53 Tryd.underlying5 Tryd.underlying9 (by
      intro j hj
      have h4 : (be4 n).length = 4 := rfl
      rw [h4] at hj
      have e : (⟨w.heap.size, 0, none⟩ : Addr).add j = ⟨w.heap.size, j, none⟩ := by unfold Addr.add; split <;> simp_all
      rw [e]
      match j, hj with
      | 0, _ => rw [World.cell?_alloc_mark]; exact congrArg some (u8_cast (n / 16777216 % 256) _ (by omega) (by omega))
      | 1, _ => rw [World.cell?_alloc_mark]; exact congrArg some (u8_cast (n / 65536 % 256) _ (by omega) (by omega))
      | 2, _ => rw [World.cell?_alloc_mark]; exact congrArg some (u8_cast (n / 256 % 256) _ (by omega) (by omega))
      | 3, _ => rw [World.cell?_alloc_mark]; exact congrArg some (u8_cast (n % 256) _ (by omega) (by omega)))
  rw [show (be4 n).length = 4 from rfl] at hk
  go_enter Tryd.func41, Tryd.ntmps41
  go_wp2
  go_ret
  exact ⟨rfl, (Below.refl _ _).alloc (Nat.le_refl _) _⟩

/-- The number that a text's first four bytes are. -/
def num4L (l : List UInt8) : Nat := ((l.getD 0 0).toNat * 256 + (l.getD 1 0).toNat) * 65536 + (l.getD 2 0).toNat * 256 + (l.getD 3 0).toNat
def num4 (b : ByteArray) : Nat := num4L b.data.toList
theorem getD_byte (b : ByteArray) (i : Nat) (h : i < b.size) : b[i] = b.data.toList.getD i 0 := by
  rw [List.getD_eq_getElem?_getD, List.getElem?_eq_getElem (by simpa using h)]; rfl

theorem or4 (a b c d : Nat) (ha : a < 256) (hb : b < 256) (hc : c < 256) (hd : d < 256) :
    bits .or .u32 (bits .or .u32 (bits .or .u32 ((a : Int) % 4294967296 * 16777216 % 4294967296) ((b : Int) % 4294967296 * 65536 % 4294967296)) ((c : Int) % 4294967296 * 256 % 4294967296)) ((d : Int) % 4294967296)
      = (((a * 256 + b) * 65536 + c * 256 + d : Nat) : Int) := by
  have wr : ∀ n : Int, 0 ≤ n → n < 2 ^ 32 → IntKind.u32.wrap n = n := fun n h0 h1 => by rw [IntKind.wrap_u32]; omega
  have j1 := bits_join .u32 32 (by decide) wr 24 ((a : Int) * 16777216) ((b : Int) * 65536) (by omega) (by omega) (by omega) (by omega) (by omega) (by omega)
  have j2 := bits_join .u32 32 (by decide) wr 16 ((a : Int) * 16777216 + (b : Int) * 65536) ((c : Int) * 256) (by omega) (by omega) (by omega) (by omega) (by omega) (by omega)
  have j3 := bits_join .u32 32 (by decide) wr 8 ((a : Int) * 16777216 + (b : Int) * 65536 + (c : Int) * 256) (d : Int) (by omega) (by omega) (by omega) (by omega) (by omega) (by omega)
  rw [show (a : Int) % 4294967296 * 16777216 % 4294967296 = (a : Int) * 16777216 by omega, show (b : Int) % 4294967296 * 65536 % 4294967296 = (b : Int) * 65536 by omega,
    show (c : Int) % 4294967296 * 256 % 4294967296 = (c : Int) * 256 by omega, show (d : Int) % 4294967296 = (d : Int) by omega, j1, j2, j3]
  omega

theorem small_any (b : ByteArray) (hn : 4 ≤ b.size) (w : World) :
    Calls Tryd.prog 43 #[.string b] w fun e w' => e = .returned (.int .u32 (num4 b)) ∧ ∃ n, w' = w.drewN n := by
  have h0 : 0 < b.size := by omega
  have h1 : 1 < b.size := by omega
  have h2 : 2 < b.size := by omega
  have h3 : 3 < b.size := by omega
  have k0 : (0 : Int) < (b.size : Int) := by omega
  have k1 : (1 : Int) < (b.size : Int) := by omega
  have k2 : (2 : Int) < (b.size : Int) := by omega
  have k3 : (3 : Int) < (b.size : Int) := by omega
  go_enter Tryd.func43, Tryd.ntmps43
  go_wp2
  go_quiet (fail)
  go_wp2
  go_ret
  refine ⟨?_, nq, rfl⟩
  rw [or4 _ _ _ _ b[0].toNat_lt b[1].toNat_lt b[2].toNat_lt b[3].toNat_lt, getD_byte b 0 h0, getD_byte b 1 h1, getD_byte b 2 h2, getD_byte b 3 h3]
  rfl

theorem flip_bits (c : Nat) (h : c < 2 ^ 32) : bits .xor .u32 IntKind.u32.max (c : Int) = ((Crc.flip c : Nat) : Int) := by
  have := u32_xor_nat 4294967295 c (by decide) h
  rw [Crc.flip_eq c h, ← this]; rfl
theorem crc_two (a b : List UInt8) : Crc.flip (Crc.gath (Crc.gath 4294967295 a) b) = Crc.crc (a ++ b) := by
  unfold Crc.crc; rw [Crc.gath_append]
theorem sum_any (a b : ByteArray) (ha : a.size ≤ maxLen) (hb : b.size ≤ maxLen) (w : World) (ht : Tab w) :
    Calls Tryd.prog 42 #[.string a, .string b] w fun e w' => e = .returned (.int .u32 (Crc.crc (a.data.toList ++ b.data.toList))) ∧ w = w' := by
  have H := Lib.hid ht
  clear ht
  go_enter Tryd.func42, Tryd.ntmps42
  go_wp2_with (go_at_call 63; refine (gather_any _ (by assumption) _ _ (by first | decide | exact Crc.gath_lt _ _ (by decide)) H.out).mono ?_; rintro e w' ⟨rfl, rfl⟩)
  all_goals go_ret
  exact ⟨ret_int (by rw [flip_bits _ (Crc.gath_lt _ _ (Crc.gath_lt _ _ (by decide))), crc_two]), rfl⟩
/-- A frame's bytes. -/
def frameL (p : List UInt8) : List UInt8 := be4 p.length ++ be4 (Crc.crc (be4 p.length ++ p)) ++ p
theorem Frame_long (p : ByteArray) (h : 1048576 < p.size) (hs : p.size ≤ maxLen) (w : World) :
    Calls Tryd.prog 22 #[.string p] w fun e w' => e = .returned (.tuple #[.string ⟨#[]⟩, .int .i64 1]) ∧ w = w' := by
  unfold maxLen at hs
  go_enter Tryd.func22, Tryd.ntmps22
  go_wp2
  go_ret2
  exact ⟨rfl, rfl⟩
theorem be4_length (n : Nat) : (be4 n).length = 4 := rfl
theorem Frame_ok (p : ByteArray) (h : p.size ≤ 1048576) (w : World) (ht : Tab w) :
    Calls Tryd.prog 22 #[.string p] w fun e w' => e = .returned (.tuple #[.string (strL (frameL p.data.toList)), .int .i64 0]) ∧ Below w.heap.size w w' := by
  have H := Lib.hid ht
  have HL := ht.lt
  clear ht
  have z4 : ∀ n, (strL (be4 n)).size = 4 := fun n => strL_size _
  go_enter Tryd.func22, Tryd.ntmps22
  go_wp2_with fail
  refine (big_any _ _).mono ?_
  rintro e w1 ⟨rfl, hb1⟩
  have HT1 : Hid (Tab w1) := H.out.below hb1 HL
  have hz1 := hb1.size
  go_wp2_with fail
  refine (sum_any _ _ (by rw [z4]; decide) (by unfold maxLen; omega) _ HT1.out).mono ?_
  rintro e w2 ⟨rfl, rfl⟩
  go_wp2_with fail
  refine (big_any _ _).mono ?_
  rintro e w2 ⟨rfl, hb2⟩
  go_wp2_with fail
  go_ret2
  refine ⟨?_, hb1.trans (hb2.mono hz1)⟩
  rw [strL_append, strL_data, show strL (be4 p.size ++ be4 (Crc.crc (be4 p.size ++ p.data.toList))) ++ p = strL (frameL p.data.toList) by
    conv => lhs; rhs; rw [← strL_of p]
    rw [strL_append]; unfold frameL; rw [show p.data.toList.length = p.size by simp]]
  rfl

/-- What Unframe answers. -/
def unfL (s : List UInt8) : List UInt8 × List UInt8 × Int :=
  if s.length < 8 then ([], [], 30) else if 1048576 < num4L s then ([], [], 32) else if s.length - 8 < num4L s then ([], [], 30)
  else if Crc.crc (s.take 4 ++ (s.drop 8).take (num4L s)) ≠ num4L (s.drop 4) then ([], [], 32) else ((s.drop 8).take (num4L s), s.drop (8 + num4L s), 0)
theorem num4L_lt (l : List UInt8) : num4L l < 4294967296 := by
  unfold num4L
  have := (l.getD 0 0).toNat_lt; have := (l.getD 1 0).toNat_lt; have := (l.getD 2 0).toNat_lt; have := (l.getD 3 0).toNat_lt
  omega
theorem extract_list (s : ByteArray) (i j : Nat) : (s.extract i j).data.toList = (s.data.toList.drop i).take (j - i) := by
  simp [ByteArray.data_extract]
theorem num4_take (s : ByteArray) : num4 (s.extract 0 4) = num4L s.data.toList := by
  unfold num4 num4L
  rw [extract_list]
  simp
theorem num4_mid (s : ByteArray) : num4 (s.extract 4 8) = num4L (s.data.toList.drop 4) := by
  unfold num4 num4L
  rw [extract_list]
  simp

theorem ret_unf {a b a' b' : ByteArray} {e e' : Int} (h1 : a = a') (h2 : b = b') (h3 : e = e') : Ending.returned (.tuple #[.string a, .string b, .int .i64 e]) = .returned (.tuple #[.string a', .string b', .int .i64 e']) := by rw [h1, h2, h3]

theorem Unframe_short (s : ByteArray) (h : s.size < 8) (w : World) :
    Calls Tryd.prog 24 #[.string s] w fun e w' => e = .returned (.tuple #[.string ⟨#[]⟩, .string ⟨#[]⟩, .int .i64 30]) ∧ ∃ n, w' = w.drewN n := by
  go_enter Tryd.func24, Tryd.ntmps24
  go_wp2
  go_ret3
  exact ⟨rfl, 0, rfl⟩

theorem Unframe_long (s : ByteArray) (h : 8 ≤ s.size) (hs : s.size ≤ maxLen) (w : World) (ht : Tab w) :
    Calls Tryd.prog 24 #[.string s] w fun e w' => e = .returned (.tuple #[.string (strL (unfL s.data.toList).1), .string (strL (unfL s.data.toList).2.1), .int .i64 (unfL s.data.toList).2.2]) ∧ ∃ n, w' = w.drewN n := by
  have H := Lib.hid ht
  clear ht
  unfold maxLen at hs
  have z4 : (s.extract 0 4).size = 4 := by simp; omega
  obtain ⟨n, hn⟩ : ∃ n, n = num4L s.data.toList := ⟨_, rfl⟩
  have hnl : n < 4294967296 := by rw [hn]; exact num4L_lt _
  have HN := Lib.hid hn
  have hsm : ∀ w, Calls Tryd.prog 43 #[.string (s.extract 0 4)] w fun e w' => e = .returned (.int .u32 n) ∧ ∃ m, w' = w.drewN m := by
    intro w; rw [hn, ← num4_take]; exact small_any _ (by omega) w
  have hlen : s.data.toList.length = s.size := by simp
  have HLn := Lib.hid hlen
  have HS := Lib.hid hsm
  clear hn hlen hsm
  obtain ⟨n2, hn2⟩ : ∃ n2, n2 = num4L (s.data.toList.drop 4) := ⟨_, rfl⟩
  obtain ⟨c, hc⟩ : ∃ c, c = Crc.crc (s.data.toList.take 4 ++ (s.data.toList.drop 8).take n) := ⟨_, rfl⟩
  have HN2 := Lib.hid hn2
  have k4 : (4 : Int) ≤ (s.size : Int) := by omega
  have k8 : (8 : Int) ≤ (s.size : Int) := by omega
  have n4 : 4 ≤ s.size := by omega
  have HC := Lib.hid hc
  have HS2 : Hid (∀ w, Calls Tryd.prog 43 #[.string (s.extract 4 8)] w fun e w' => e = .returned (.int .u32 n2) ∧ ∃ m, w' = w.drewN m) := by
    intro w; rw [hn2, ← num4_mid]; exact small_any _ (by simp; omega) w
  have HSUM : Hid (∀ W, Tab W → Calls Tryd.prog 42 #[.string (s.extract 0 4), .string (s.extract 8 (8 + n))] W fun e w' => e = .returned (.int .u32 c) ∧ w' = W) := by
    intro W hW
    have := sum_any (s.extract 0 4) (s.extract 8 (8 + n)) (by rw [z4]; decide) (by simp; unfold maxLen; omega) W hW
    rw [extract_list, extract_list, List.drop_zero, show 4 - 0 = 4 from rfl, show 8 + n - 8 = n by omega, ← hc] at this
    exact this.mono fun e w' ⟨a, b⟩ => ⟨a, b.symm⟩
  clear hn2 hc
  by_cases h1 : 1048576 < n
  · go_enter Tryd.func24, Tryd.ntmps24
    go_wp2_with (go_at_call 43; refine (HS.out _).mono ?_; rintro e w1 ⟨rfl, m, rfl⟩)
    go_ret3
    refine ⟨?_, m, rfl⟩
    have E : unfL s.data.toList = ([], [], 32) := by
      unfold unfL; rw [if_neg (by rw [HLn.out]; omega), if_pos (by rw [← HN.out]; exact h1)]
    rw [E]; rfl
  · by_cases h2 : s.size - 8 < n
    · go_enter Tryd.func24, Tryd.ntmps24
      go_wp2_with (go_at_call 43; refine (HS.out _).mono ?_; rintro e w1 ⟨rfl, m, rfl⟩)
      go_ret3
      refine ⟨?_, m, rfl⟩
      have E : unfL s.data.toList = ([], [], 30) := by
        unfold unfL; rw [if_neg (by rw [HLn.out]; omega), if_neg (by rw [← HN.out]; exact h1), if_pos (by rw [← HN.out, HLn.out]; exact h2)]
      rw [E]; rfl
    · go_enter Tryd.func24, Tryd.ntmps24
      go_wp2_with (go_at_call 43; refine (HS.out _).mono ?_; rintro e w1 ⟨rfl, hw1⟩; have HW1 := Lib.hid hw1; clear hw1)
      have HT1 : Hid (Tab w1) := by obtain ⟨m, rfl⟩ := HW1.out; exact H.out
      go_quiet ((first | (go_at_call 42; go_loud (exact Calls.quiet_of_same (HSUM.out _ HT1.out))) | (go_at_call 43; go_loud (exact Calls.quiet_of (HS2.out _)))))
      have E0 : unfL s.data.toList = if c ≠ n2 then ([], [], 32) else ((s.data.toList.drop 8).take n, s.data.toList.drop (8 + n), 0) := by
        unfold unfL
        rw [if_neg (by rw [HLn.out]; omega), if_neg (by rw [← HN.out]; exact h1), if_neg (by rw [← HN.out, HLn.out]; exact h2), ← HN.out, ← HN2.out, ← HC.out]
      have HE0 := Lib.hid E0
      clear E0
      by_cases h3 : c = n2
      · have h3' : ((c : Int) == (n2 : Int)) = true := by simp [h3]
        have h3'' : (c : Int) = (n2 : Int) := by omega
        have HE := Lib.hid h3
        clear h3
        go_wp2
        go_quiet (fail)
        go_wp2
        go_ret3
        have E := HE0.out
        rw [if_neg (not_not_intro HE.out)] at E
        obtain ⟨m, hm⟩ := HW1.out
        refine ⟨ret_unf ?_ ?_ ?_, _, by rw [hm, World.drewN_drewN, World.drewN_drewN]⟩
        · rw [E]; apply ByteArray.ext; apply Array.ext'; rw [extract_list]; show _ = (strL _).data.toList; rw [strL_data, show 8 + n - 8 = n by omega]
        · rw [E]; apply ByteArray.ext; apply Array.ext'; rw [extract_list]; show _ = (strL _).data.toList; rw [strL_data, List.take_of_length_le (by simp)]
        · rw [E]
      · have h3' : ((c : Int) == (n2 : Int)) = false := by simp; omega
        have HE := Lib.hid h3
        clear h3
        go_wp2
        go_ret3
        have E := HE0.out
        rw [if_pos HE.out] at E
        obtain ⟨m, hm⟩ := HW1.out
        exact ⟨ret_unf (by rw [E]; rfl) (by rw [E]; rfl) (by rw [E]), _, by rw [hm, World.drewN_drewN]⟩

theorem Unframe_any (s : ByteArray) (hs : s.size ≤ maxLen) (w : World) (ht : Tab w) :
    Calls Tryd.prog 24 #[.string s] w fun e w' => e = .returned (.tuple #[.string (strL (unfL s.data.toList).1), .string (strL (unfL s.data.toList).2.1), .int .i64 (unfL s.data.toList).2.2]) ∧ ∃ n, w' = w.drewN n := by
  by_cases h : s.size < 8
  · have E : unfL s.data.toList = ([], [], 30) := by unfold unfL; rw [if_pos (by simpa using h)]
    rw [E]
    exact Unframe_short s h w
  · exact Unframe_long s (by omega) hs w ht
end Go.Proofs.YtklhhpnibeejeaaDoor
