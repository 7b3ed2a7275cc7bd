/-
  WireBurst, the plain law: a frame whose payload's bits were turned inside 32 in a row, or whose sum's bits were turned, is refused. And the law's walk. Conditions: the table as the program lays it.
-/
import Derived.Test.YtbiogajejcfkfaaDoorBurst
import Derived.StillTailTactics
namespace Go.Proofs.YtbiogajejcfkfaaDoor.Burst
open Go.RowKit
set_option linter.unusedVariables false

theorem crc_ne (h a b : List UInt8) (hl : a.length = b.length) (A m : Nat) (hm : m < 2 ^ 32) (h0 : m ≠ 0) (hA : A ≤ 8 * a.length) (hx : Crc.le a ^^^ Crc.le b = 2 ^ A * m) :
    Crc.crc (h ++ b) ≠ Crc.crc (h ++ a) := by
  intro e
  rw [Crc.crc_eq, Crc.crc_eq, Crc.gath_append, Crc.gath_append] at e
  have : Crc.gath (Crc.gath 4294967295 h) b = Crc.gath (Crc.gath 4294967295 h) a := by
    have := congrArg (fun z => 4294967295 ^^^ z) e
    simpa [← Nat.xor_assoc] using this
  exact Crc.gath_burst a b _ hl A m hm h0 hA hx this.symm

/-- The payload's bits turned. -/
theorem payload_turned (p q : List UInt8) (hp : p.length ≤ 1048576) (A m : Nat) (h0 : m ≠ 0) (hA : A ≤ 8 * p.length) (h : Crc.Turn p q A 32 m) :
    unfL ((frameL p).take 8 ++ q) = ([], [], 32) := by
  rw [frameL_take8, ← h.1]
  refine unfL_spoilt q.length _ q rfl (by rw [h.1]; exact hp) (Crc.crc_lt _) ?_
  exact crc_ne _ _ _ h.1.symm A m h.2.1 h0 hA h.2.2

theorem u8_xor_ofNat (a b : Nat) (ha : a < 256) (hb : b < 256) : UInt8.ofNat a ^^^ UInt8.ofNat b = UInt8.ofNat (a ^^^ b) := by
  apply UInt8.toNat_inj.1
  rw [UInt8.toNat_xor, u8_ofNat _ ha, u8_ofNat _ hb, u8_ofNat _ (Nat.xor_lt_two_pow (n := 8) ha hb)]
theorem part_xor (c m k : Nat) : c / 2 ^ k % 256 ^^^ m / 2 ^ k % 256 = (c ^^^ m) / 2 ^ k % 256 := by
  rw [Nat.xor_div_two_pow, show (256 : Nat) = 2 ^ 8 from rfl, Nat.xor_mod_two_pow]

/-- The sum's bits turned. -/
theorem sum_turned (p : List UInt8) (hp : p.length ≤ 1048576) (m : Nat) (hm : m < 2 ^ 32) (h0 : m ≠ 0) :
    unfL ((frameL p).take 4 ++ be4 (Crc.crc (be4 p.length ++ p) ^^^ m) ++ (frameL p).drop 8) = ([], [], 32) := by
  have e : (frameL p).take 4 = be4 p.length := by
    unfold frameL; rw [List.append_assoc]; exact List.take_left' (be4_length _)
  rw [e, frameL_drop8]
  refine unfL_spoilt p.length _ p rfl hp (Nat.xor_lt_two_pow (n := 32) (Crc.crc_lt _) hm) ?_
  intro h
  apply h0
  have := congrArg (fun z => Crc.crc (be4 p.length ++ p) ^^^ z) h
  simpa [← Nat.xor_assoc] using this.symm
theorem be4_back (n : Nat) (w : World) :
    (convert 26 9 (.slice (some ⟨w.heap.size, 0, none⟩) 4 4)).run Tryd.prog (w.alloc (Obj.cells #[Value.int IntKind.u8 (↑n / 16777216 % 256), Value.int IntKind.u8 (↑n / 65536 % 256), Value.int IntKind.u8 (↑n / 256 % 256), Value.int IntKind.u8 (↑n % 256)] 5)).drew
      = .ok (.string (strL (be4 n))) (w.alloc (Obj.cells #[Value.int IntKind.u8 (↑n / 16777216 % 256), Value.int IntKind.u8 (↑n / 65536 % 256), Value.int IntKind.u8 (↑n / 256 % 256), Value.int IntKind.u8 (↑n % 256)] 5)).drew := by
  refine run_convert_bytes_back (P := Tryd.prog) _ 26 9 5 ⟨w.heap.size, 0, none⟩ 4 (be4 n) Tryd.underlying26 Tryd.underlying5 Tryd.underlying9 ?_
  intro j hj
  have h4 : (be4 n).length = 4 := rfl
  rw [h4] at hj
  have e : (⟨w.heap.size, 0, none⟩ : Addr).add j = ⟨w.heap.size, j, none⟩ := by unfold Addr.add; split <;> simp_all
  rw [e, World.cell?_drew]
  match j, hj with
  | 0, _ => rw [World.cell?_alloc_mark]; exact congrArg some (u8_cast (n / 16777216 % 256) _ (by omega) (by omega))
  | 1, _ => rw [World.cell?_alloc_mark]; exact congrArg some (u8_cast (n / 65536 % 256) _ (by omega) (by omega))
  | 2, _ => rw [World.cell?_alloc_mark]; exact congrArg some (u8_cast (n / 256 % 256) _ (by omega) (by omega))
  | 3, _ => rw [World.cell?_alloc_mark]; exact congrArg some (u8_cast (n % 256) _ (by omega) (by omega))
theorem frame_at (p : List UInt8) (k : Nat) (hk : k < 4) : (frameL p).getD (4 + k) 0 = (be4 (Crc.crc (be4 p.length ++ p))).getD k 0 := by
  match k, hk with
  | 0, _ => rfl
  | 1, _ => rfl
  | 2, _ => rfl
  | 3, _ => rfl

theorem frame_byte (f p : ByteArray) (hf : f = strL (frameL p.data.toList)) (k : Nat) (hk : k < 4) (h : 4 + k < f.size) (m : Nat) :
    bits .xor .u8 (f[4 + k].toNat : Int) (((m / 2 ^ (8 * (3 - k)) % 256 : Nat)) : Int) = ((((Crc.crc (be4 p.data.toList.length ++ p.data.toList) ^^^ m) / 2 ^ (8 * (3 - k)) % 256 : Nat)) : Int) := by
  have e : f[4 + k].toNat = Crc.crc (be4 p.data.toList.length ++ p.data.toList) / 2 ^ (8 * (3 - k)) % 256 := by
    rw [getD_byte f (4 + k) h]
    have : f.data.toList = frameL p.data.toList := by rw [hf]; rfl
    rw [this, frame_at _ k hk]
    match k, hk with
    | 0, _ => exact u8_ofNat _ (by omega)
    | 1, _ => exact u8_ofNat _ (by omega)
    | 2, _ => exact u8_ofNat _ (by omega)
    | 3, _ => exact (u8_ofNat _ (by omega)).trans (by simp)
  rw [e, u8_xor_nat _ _ (Nat.mod_lt _ (by decide)) (Nat.mod_lt _ (by decide)), part_xor]
set_option maxRecDepth 100000 in
theorem walk_long (p : ByteArray) (hp : 1048576 < p.size) (hs : p.size ≤ maxLen) (at_ : Int) (m : Nat) (w : World) :
    Calls Tryd.prog 4 #[.agg #[.string p, .int .i64 at_, .int .u32 m]] w fun e w' => e = .returned (.bool true) ∧ Below w.heap.size w w' := by
  have hs' := hs
  unfold maxLen at hs'
  go_enter Tryd.func4, Tryd.ntmps4
  go_wp2_with (go_at_call 11; refine (Frame_long p hp hs _).mono ?_; rintro e w1 ⟨rfl, rfl⟩)
  go_ret
  exact ⟨rfl, (Below.refl _ _).alloc (Nat.le_refl _) _⟩

set_option maxHeartbeats 1000000 in
set_option maxRecDepth 100000 in
theorem walk_ok (p : ByteArray) (hp : p.size ≤ 1048576) (at_ : Int) (m : Nat) (hm : m < 2 ^ 32) (w : World) (ht : Tab w) :
    Calls Tryd.prog 4 #[.agg #[.string p, .int .i64 at_, .int .u32 m]] w fun e w' => e = .returned (.bool true) ∧ Below w.heap.size w w' := by
  have H := Lib.hid ht
  have HL := ht.lt
  clear ht
  obtain ⟨f, hf⟩ : ∃ f, f = strL (frameL p.data.toList) := ⟨_, rfl⟩
  have hfs : f.size = 8 + p.size := by rw [hf]; exact frame_size p
  have hf8 : f.extract 8 (8 + p.size) = p := by
    apply ByteArray.ext; apply Array.ext'
    rw [extract_list, hf, strL_data, frameL_drop8, List.take_of_length_le]
    simp
  have HU : Hid (∀ W, Tab W → Calls Tryd.prog 12 #[.string f] W fun e w' => e = .returned (.tuple #[.string p, .string ⟨#[]⟩, .int .i64 0]) ∧ ∃ n, w' = W.drewN n) := by
    intro W hW
    have := Unframe_frame p ⟨#[]⟩ hp (by decide) W hW
    rw [show strL (frameL p.data.toList) ++ (⟨#[]⟩ : ByteArray) = f by rw [hf]; apply ByteArray.ext; simp] at this
    exact this
  go_enter Tryd.func4, Tryd.ntmps4
  go_wp2_with fail
  obtain ⟨W0, hW0⟩ : ∃ W0, W0 = w.alloc (Obj.cells #[.string p, .int .i64 at_, .int .u32 m] 29) := ⟨_, rfl⟩
  have hb0 : Below w.heap.size w W0 := by rw [hW0]; exact (Below.refl _ _).alloc (Nat.le_refl _) _
  have z0 : W0.heap.size = w.heap.size + 1 := by rw [hW0]; simp
  have c0 : W0.cell? ⟨w.heap.size, 0, none⟩ = some (.string p) := by rw [hW0]; simp
  have c1 : W0.cell? ⟨w.heap.size, 1, none⟩ = some (.int .i64 at_) := by rw [hW0]; simp
  have c2 : W0.cell? ⟨w.heap.size, 2, none⟩ = some (.int .u32 m) := by rw [hW0]; simp
  rw [← hW0]
  have HT0 : Hid (Tab W0) := H.out.below hb0 HL
  have Z0 := Lib.hid z0
  clear hW0 z0
  have hfr := Frame_ok p hp W0 HT0.out
  rw [← hf] at hfr
  refine hfr.mono ?_
  rintro e w1 ⟨rfl, hb1⟩
  have HT1 : Hid (Tab w1) := HT0.out.below hb1 (by have := Z0.out; omega)
  have d0 : w1.cell? ⟨w.heap.size, 0, none⟩ = some (.string p) := (hb1.cell (p := ⟨w.heap.size, 0, none⟩) (by have := Z0.out; show w.heap.size < W0.heap.size; omega)).trans c0
  have d1 : w1.cell? ⟨w.heap.size, 1, none⟩ = some (.int .i64 at_) := (hb1.cell (p := ⟨w.heap.size, 1, none⟩) (by have := Z0.out; show w.heap.size < W0.heap.size; omega)).trans c1
  have d2 : w1.cell? ⟨w.heap.size, 2, none⟩ = some (.int .u32 m) := (hb1.cell (p := ⟨w.heap.size, 2, none⟩) (by have := Z0.out; show w.heap.size < W0.heap.size; omega)).trans c2
  have HF := Lib.hid hf
  clear hf c0 c1 c2 hfr
  have k8 : (8 : Int) ≤ (f.size : Int) := by omega
  go_wp2_with fail
  go_quiet (fail)
  go_wp2_with fail
  refine (HU.out _ (HT1.out.drewN _)).mono ?_
  rintro e w2 ⟨rfl, n2, hw2⟩
  have hb2 : Below w.heap.size w w2 := by rw [hw2]; exact below_drewN (below_drewN (hb0.trans (hb1.mono (by have := Z0.out; omega))) _) _
  have HT2 : Hid (Tab w2) := by rw [hw2]; exact HT1.out
  have hz2 : w.heap.size < w2.heap.size := by rw [hw2]; have := hb1.size; have := Z0.out; simp only [World.heap_drewN]; omega
  have e0 : w2.cell? ⟨w.heap.size, 0, none⟩ = some (.string p) := by rw [hw2]; exact d0
  have e1 : w2.cell? ⟨w.heap.size, 1, none⟩ = some (.int .i64 at_) := by rw [hw2]; exact d1
  have e2 : w2.cell? ⟨w.heap.size, 2, none⟩ = some (.int .u32 m) := by rw [hw2]; exact d2
  clear hw2 d0 d1 d2 hb1 hb0
  go_wp2_with fail
  refine (turned_any p hp at_ m hm w2).mono ?_
  rintro e w3 ⟨q, any, rfl, hb3, htn⟩
  have HB3 : Hid (Below w.heap.size w w3) := hb2.trans (hb3.mono (by omega))
  have HT3 : Hid (Tab w3) := HT2.out.below hb3 (by omega)
  have g0 : w3.cell? ⟨w.heap.size, 0, none⟩ = some (.string p) := (hb3.cell (p := ⟨w.heap.size, 0, none⟩) hz2).trans e0
  have g2 : w3.cell? ⟨w.heap.size, 2, none⟩ = some (.int .u32 m) := (hb3.cell (p := ⟨w.heap.size, 2, none⟩) hz2).trans e2
  have hz3 : w.heap.size < w3.heap.size := by have := hb3.size; omega
  have HTN := Lib.hid htn
  clear htn hb2 hb3 e0 e1 e2 hz2
  have h8 : (8 : Int) ≤ (f.size : Int) := k8
  have hm0 : ((m : Int) == 0) = true ∨ ((m : Int) == 0) = false := by cases ((m : Int) == 0) <;> simp
  cases any with
  | true =>
    obtain ⟨A, mm, hA, hmm, hturn⟩ := HTN.out rfl
    have hq : (strL q).size = p.size := by rw [strL_size, hturn.1]; simp
    have HU2 : Hid (∀ W, Tab W → Calls Tryd.prog 12 #[.string (f.extract 0 8 ++ strL q)] W fun e w' => e = .returned (.tuple #[.string ⟨#[]⟩, .string ⟨#[]⟩, .int .i64 32]) ∧ ∃ n, w' = W.drewN n) := by
      intro W hW
      have hh := Unframe_any (f.extract 0 8 ++ strL q) (by rw [ByteArray.size_append, hq]; simp; unfold maxLen; omega) W hW
      have e : (f.extract 0 8 ++ strL q).data.toList = (frameL p.data.toList).take 8 ++ q := by
        rw [ByteArray.data_append, Array.toList_append, extract_list, HF.out]; rfl
      rw [e, payload_turned p.data.toList q (by simpa using hp) A mm hmm (by simpa using hA) hturn] at hh
      exact hh
    clear hturn hA hmm
    go_wp2_with fail
    refine (HU2.out _ HT3.out).mono ?_
    rintro e w4 ⟨rfl, n4, hw4⟩
    have HB4 : Hid (Below w.heap.size w w4) := by rw [hw4]; exact below_drewN HB3.out _
    have HT4 : Hid (Tab w4) := by rw [hw4]; exact HT3.out
    have g4 : w4.cell? ⟨w.heap.size, 2, none⟩ = some (.int .u32 m) := by rw [hw4]; exact g2
    clear hw4
    rcases hm0 with hm0 | hm0
    · go_wp2
      go_ret
      exact ⟨rfl, HB4.out⟩
    · have s4 : 4 < f.size := by omega
      have s5 : 5 < f.size := by omega
      have s6 : 6 < f.size := by omega
      have s7 : 7 < f.size := by omega
      have i4 : (4 : Int) < (f.size : Int) := by omega
      have i5 : (5 : Int) < (f.size : Int) := by omega
      have i6 : (6 : Int) < (f.size : Int) := by omega
      have i7 : (7 : Int) < (f.size : Int) := by omega
      have x4 := frame_byte f p HF.out 0 (by decide) s4 m
      have x5 := frame_byte f p HF.out 1 (by decide) s5 m
      have x6 := frame_byte f p HF.out 2 (by decide) s6 m
      have x7 := frame_byte f p HF.out 3 (by decide) s7 m
      obtain ⟨c, hc⟩ : ∃ c, c = Crc.crc (be4 p.data.toList.length ++ p.data.toList) ^^^ m := ⟨_, rfl⟩
      rw [← hc] at x4 x5 x6 x7
      have y4 : bits .xor .u8 (f[4].toNat : Int) ((m : Int) / 16777216) = ((c / 16777216 % 256 : Nat) : Int) := by
        rw [← x4]; congr 1; omega
      have y5 : bits .xor .u8 (f[5].toNat : Int) ((m : Int) / 65536 % 256) = ((c / 65536 % 256 : Nat) : Int) := x5
      have y6 : bits .xor .u8 (f[6].toNat : Int) ((m : Int) / 256 % 256) = ((c / 256 % 256 : Nat) : Int) := x6
      have y7 : bits .xor .u8 (f[7].toNat : Int) ((m : Int) % 256) = ((c % 256 : Nat) : Int) := by
        have := x7
        simp only [Nat.sub_self, Nat.mul_zero, Nat.pow_zero, Nat.div_one] at this
        exact this
      have HC := Lib.hid hc
      have hf9 : f.extract 8 f.size = p := by rw [hfs]; exact hf8
      have HFS := Lib.hid hfs
      have hk := be4_back c w4
      have HU4 : Hid (∀ W, Tab W → Calls Tryd.prog 12 #[.string (f.extract 0 4 ++ strL (be4 c) ++ p)] W fun e w' => e = .returned (.tuple #[.string ⟨#[]⟩, .string ⟨#[]⟩, .int .i64 32]) ∧ ∃ n, w' = W.drewN n) := by
        intro W hW
        have hh := Unframe_any (f.extract 0 4 ++ strL (be4 c) ++ p) (by rw [ByteArray.size_append, ByteArray.size_append, strL_size, be4_length]; simp; unfold maxLen; omega) W hW
        have e : (f.extract 0 4 ++ strL (be4 c) ++ p).data.toList = (frameL p.data.toList).take 4 ++ be4 c ++ (frameL p.data.toList).drop 8 := by
          rw [ByteArray.data_append, Array.toList_append, ByteArray.data_append, Array.toList_append, extract_list, HF.out, frameL_drop8]; rfl
        have e2 : unfL ((frameL p.data.toList).take 4 ++ be4 c ++ (frameL p.data.toList).drop 8) = ([], [], 32) := by
          rw [HC.out]; exact sum_turned p.data.toList (by simpa using hp) m hm (by intro h; rw [h] at hm0; simp at hm0)
        rw [e, e2] at hh
        exact hh
      have z4 : (strL (be4 c)).size = 4 := strL_size _
      clear x4 x5 x6 x7 hc hfs hf8
      go_wp2
      go_still_tail 27, (by kernel_rfl)
      change wpList _ _ _ _ _ w4.drew
      go_wp2
      obtain ⟨W5, hW5⟩ : ∃ W5, W5 = (w4.alloc (Obj.cells #[Value.int IntKind.u8 (↑c / 16777216 % 256), Value.int IntKind.u8 (↑c / 65536 % 256), Value.int IntKind.u8 (↑c / 256 % 256), Value.int IntKind.u8 (↑c % 256)] 5)).drew := ⟨_, rfl⟩
      rw [← hW5]
      have hb5 : Below w4.heap.size w4 W5 := by rw [hW5]; exact ((Below.refl _ _).alloc (Nat.le_refl _) _).drew
      have HB5 : Hid (Below w.heap.size w W5) := HB4.out.trans (hb5.mono HB4.out.size)
      have HT5 : Hid (∀ n, Tab (W5.drewN n)) := fun n => (HT4.out.below hb5 HT4.out.lt).drewN n
      clear hW5 hk hb5
      have l4 : (4 : Int) ≤ (f.size : Int) := by omega
      have l4' : 4 ≤ f.size := by omega
      have hex : (f.extract 0 4).size = 4 := by simp; omega
      go_quiet ((go_at_call 12; exact Calls.quiet_of (HU4.out _ (HT5.out _))))
      go_wp2
      go_ret
      exact ⟨rfl, below_drewN HB5.out _⟩
  | false =>
    rcases hm0 with hm0 | hm0
    · go_wp2
      go_ret
      exact ⟨rfl, HB3.out⟩
    · have s4 : 4 < f.size := by omega
      have s5 : 5 < f.size := by omega
      have s6 : 6 < f.size := by omega
      have s7 : 7 < f.size := by omega
      have i4 : (4 : Int) < (f.size : Int) := by omega
      have i5 : (5 : Int) < (f.size : Int) := by omega
      have i6 : (6 : Int) < (f.size : Int) := by omega
      have i7 : (7 : Int) < (f.size : Int) := by omega
      have x4 := frame_byte f p HF.out 0 (by decide) s4 m
      have x5 := frame_byte f p HF.out 1 (by decide) s5 m
      have x6 := frame_byte f p HF.out 2 (by decide) s6 m
      have x7 := frame_byte f p HF.out 3 (by decide) s7 m
      obtain ⟨c, hc⟩ : ∃ c, c = Crc.crc (be4 p.data.toList.length ++ p.data.toList) ^^^ m := ⟨_, rfl⟩
      rw [← hc] at x4 x5 x6 x7
      have y4 : bits .xor .u8 (f[4].toNat : Int) ((m : Int) / 16777216) = ((c / 16777216 % 256 : Nat) : Int) := by
        rw [← x4]; congr 1; omega
      have y5 : bits .xor .u8 (f[5].toNat : Int) ((m : Int) / 65536 % 256) = ((c / 65536 % 256 : Nat) : Int) := x5
      have y6 : bits .xor .u8 (f[6].toNat : Int) ((m : Int) / 256 % 256) = ((c / 256 % 256 : Nat) : Int) := x6
      have y7 : bits .xor .u8 (f[7].toNat : Int) ((m : Int) % 256) = ((c % 256 : Nat) : Int) := by
        have := x7
        simp only [Nat.sub_self, Nat.mul_zero, Nat.pow_zero, Nat.div_one] at this
        exact this
      have HC := Lib.hid hc
      have hf9 : f.extract 8 f.size = p := by rw [hfs]; exact hf8
      have HFS := Lib.hid hfs
      have hk := be4_back c w3
      have HU4 : Hid (∀ W, Tab W → Calls Tryd.prog 12 #[.string (f.extract 0 4 ++ strL (be4 c) ++ p)] W fun e w' => e = .returned (.tuple #[.string ⟨#[]⟩, .string ⟨#[]⟩, .int .i64 32]) ∧ ∃ n, w' = W.drewN n) := by
        intro W hW
        have hh := Unframe_any (f.extract 0 4 ++ strL (be4 c) ++ p) (by rw [ByteArray.size_append, ByteArray.size_append, strL_size, be4_length]; simp; unfold maxLen; omega) W hW
        have e : (f.extract 0 4 ++ strL (be4 c) ++ p).data.toList = (frameL p.data.toList).take 4 ++ be4 c ++ (frameL p.data.toList).drop 8 := by
          rw [ByteArray.data_append, Array.toList_append, ByteArray.data_append, Array.toList_append, extract_list, HF.out, frameL_drop8]; rfl
        have e2 : unfL ((frameL p.data.toList).take 4 ++ be4 c ++ (frameL p.data.toList).drop 8) = ([], [], 32) := by
          rw [HC.out]; exact sum_turned p.data.toList (by simpa using hp) m hm (by intro h; rw [h] at hm0; simp at hm0)
        rw [e, e2] at hh
        exact hh
      have z4 : (strL (be4 c)).size = 4 := strL_size _
      clear x4 x5 x6 x7 hc hfs hf8
      go_wp2
      go_still_tail 27, (by kernel_rfl)
      change wpList _ _ _ _ _ w3.drew
      go_wp2
      obtain ⟨W5, hW5⟩ : ∃ W5, W5 = (w3.alloc (Obj.cells #[Value.int IntKind.u8 (↑c / 16777216 % 256), Value.int IntKind.u8 (↑c / 65536 % 256), Value.int IntKind.u8 (↑c / 256 % 256), Value.int IntKind.u8 (↑c % 256)] 5)).drew := ⟨_, rfl⟩
      rw [← hW5]
      have hb5 : Below w3.heap.size w3 W5 := by rw [hW5]; exact ((Below.refl _ _).alloc (Nat.le_refl _) _).drew
      have HB5 : Hid (Below w.heap.size w W5) := HB3.out.trans (hb5.mono HB3.out.size)
      have HT5 : Hid (∀ n, Tab (W5.drewN n)) := fun n => (HT3.out.below hb5 HT3.out.lt).drewN n
      clear hW5 hk hb5
      have l4 : (4 : Int) ≤ (f.size : Int) := by omega
      have l4' : 4 ≤ f.size := by omega
      have hex : (f.extract 0 4).size = 4 := by simp; omega
      go_quiet ((go_at_call 12; exact Calls.quiet_of (HU4.out _ (HT5.out _))))
      go_wp2
      go_ret
      exact ⟨rfl, below_drewN HB5.out _⟩
end Go.Proofs.YtbiogajejcfkfaaDoor.Burst
