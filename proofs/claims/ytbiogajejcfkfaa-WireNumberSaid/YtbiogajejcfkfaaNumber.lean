/-
  THE WALK of WireNumber.
-/
import Derived.Test.YtbiogajejcfkfaaNumLaw
import Derived.Test.YtbiogajejcfkfaaRowKit
import Derived.StillTailTactics
import Derived.Deep.RegionWith
namespace Go.Proofs.Ytbiogajejcfkfaa.Number
open Go.RowKit
set_option linter.unusedVariables false

theorem mark_or (C : Nat) (h : C ≤ 127) : bits .or .u8 (C : Int) 128 = ((UInt8.ofNat (C + 128)).toNat : Int) := by
  have h1 := List.all_eq_true.1 mark_all C (by rw [List.mem_range]; omega)
  rw [decide_eq_true_eq] at h1
  rw [h1, UInt8.toNat_ofNat_of_lt' (by show C + 128 < 256; omega)]
  omega

theorem join7 (s C : Nat) (hs : s ≤ 144115188075855871) (hC : C < 256) :
    bits .or .u64 ((s : Int) * 128) (IntKind.u64.wrap (bits .and .u8 (C : Int) 127)) = ((s * 128 + C % 128 : Nat) : Int) := by
  have h1 : bits .and .u8 (C : Int) 127 = ((C % 128 : Nat) : Int) := by
    have := u8_and_nat C 127 hC (by decide)
    rw [show (127 : Nat) = 2 ^ 7 - 1 from rfl, Nat.and_two_pow_sub_one_eq_mod] at this
    exact this
  have wr : ∀ n : Int, 0 ≤ n → n < 2 ^ 64 → IntKind.u64.wrap n = n := fun n h0 h1 => by rw [IntKind.wrap_u64]; omega
  rw [h1, wr _ (by omega) (by omega), bits_join .u64 64 (by decide) wr 7 ((s : Int) * 128) ((C % 128 : Nat) : Int) (by omega) (by omega) (by omega) (by omega) (by omega) (by omega)]
  omega

theorem Var_err (b : Nat) (l : List UInt8) (max : Nat) (x : Int) (hs : l.length ≤ 100) (hp : numP max l = .error x) (w : World) (hd : DecAt w b l 0) :
    Calls Try.prog 7 #[.pointer (some ⟨b, 0, none⟩), .int .u64 max] w fun o w' => o = .returned (.int .u64 0) ∧ DecAt w' b [] x ∧ Keeps (one b) w w' := by
  have h := Var_any b l 0 max (by unfold maxLen; omega) w hd
  rw [takeS_error hp] at h
  exact h
theorem Var_fine (b : Nat) (l r : List UInt8) (max v : Nat) (hs : l.length ≤ 100) (hp : numP max l = .ok (v, r)) (w : World) (hd : DecAt w b l 0) :
    Calls Try.prog 7 #[.pointer (some ⟨b, 0, none⟩), .int .u64 max] w fun o w' => o = .returned (.int .u64 v) ∧ DecAt w' b r 0 ∧ Keeps (one b) w w' := by
  have h := Var_any b l 0 max (by unfold maxLen; omega) w hd
  rw [takeS_ok hp] at h
  exact h
theorem Open_at (S : ByteArray) (l : List UInt8) (hS : S = strL l) (w : World) :
    Calls Try.prog 6 #[.string S] w fun e w' => ∃ b, e = .returned (.pointer (some ⟨b, 0, none⟩)) ∧ DecAt w' b l 0 ∧ Below b w w' ∧ w.heap.size ≤ b ∧ w'.heap.size = b + 1 := by
  subst hS
  exact (Open_any l w).mono fun e w' ⟨h1, h2, h3, h4⟩ => ⟨w.heap.size, h1, h2, h3, Nat.le_refl _, h4⟩
theorem Keeps.other {S : Nat → Prop} {a b c : World} {n p : Nat} (h : Below n a b) (k : Keeps (one p) b c) (hp : n ≤ p) (hn : n ≤ b.heap.size) : Below n a c :=
  h.trans (k.below hn (fun i hi e => by have e : i = p := e; omega))
theorem endN_err (x : Int) (h : x ≠ 0) : endN [] x = x := if_neg h

set_option maxRecDepth 100000 in
set_option maxHeartbeats 2000000 in
theorem walk (n : Nat) (h64 : n < 2 ^ 64) (w : World) :
    Calls Try.prog 3 #[.int .u64 n] w fun e w' => e = .returned (.bool true) ∧ Below w.heap.size w w' := by
  have HV := Lib.hid (EVar_any w.heap.size (.slice none 0 0) [] n (w.alloc (.cells #[.slice none 0 0] 25)) ⟨OneAt.new _ _ _, RowAt.nil _⟩ h64 (by have := varL_len10 n h64; simp; omega))
  have H64 := Lib.hid h64
  have h64' : n < 18446744073709551616 := h64
  clear h64
  go_enter Try.func3, Try.ntmps3
  go_wp2_with fail
  refine HV.out.mono ?_
  rintro e w1 ⟨rfl, u, ha⟩
  have HA := Lib.hid ha
  clear ha
  go_wp2_with fail
  refine (EBytes_any w.heap.size u _ w1 HA.out.enc).mono ?_
  rintro e w2 ⟨rfl, rfl⟩
  rw [List.nil_append]
  have HB : Hid (Below w.heap.size w w2) := ((Below.refl _ _).alloc (Nat.le_refl _) _).trans (HA.out.keeps.below (by simp) (fun k hk => by rintro (h | h); omega; cases h))
  clear HA HV
  have hl : (strL (varL n)).size = (varL n).length := strL_size _
  have h10 := varL_len10 n H64.out
  have h1 := varL_pos n
  obtain ⟨len, hlen⟩ : ∃ len, len = (varL n).length := ⟨_, rfl⟩
  rw [← hlen] at hl h10 h1
  have HLEN := Lib.hid hlen
  clear hlen
  have HGET : Hid (∀ i (h : i < (strL (varL n)).size), (i + 1 = len → ((strL (varL n))[i]'h).toNat = n / 128 ^ i ∧ n / 128 ^ i ≤ 127) ∧ (i + 1 < len → ((strL (varL n))[i]'h).toNat = n / 128 ^ i % 128 + 128)) := by
    intro i h
    have := varL_get n i (by rw [strL_size] at h; exact h)
    have e := HLEN.out
    exact ⟨fun h => this.1 (by omega), fun h => this.2 (by omega)⟩
  obtain ⟨S, hS⟩ : ∃ S, S = strL (varL n) := ⟨_, rfl⟩
  rw [← hS] at hl HGET ⊢
  have HS0 := Lib.hid hS
  clear hS
  have hz : ((len : Int) == 0) = false := by rw [beq_eq_false_iff_ne]; omega
  go_wp2
  go_loopw [5, 6] (fun x y wr => ∃ (k s : Nat), k ≤ len ∧ y = .int .i64 ((k : Int) - 1) ∧ x = .int .u64 s ∧ Hid (s = n / 128 ^ k) ∧ wr = w2) (fun _ y _ => (intOf y + 1).toNat)
  case atStart =>
    refine ⟨len, 0, Nat.le_refl _, by go_num, rfl, ?_, rfl⟩
    show 0 = n / 128 ^ len
    obtain ⟨k, rfl⟩ : ∃ k, len = k + 1 := ⟨len - 1, by omega⟩
    have := ((HGET.out k (by rw [hl]; omega)).1 rfl).2
    rw [Nat.pow_succ, ← Nat.div_div_eq_div_mul, Nat.div_eq_of_lt (by omega)]
  case round =>
    obtain ⟨k, s, hk, rfl, rfl, hs, rfl⟩ := hrel
    cases k with
    | zero =>
      subst hl
      have k1 : (1 : Int) ≤ (S.size : Int) := by omega
      have hsn : s = n := by have := hs.out; rw [this]; simp
      subst hsn
      clear hs
      obtain ⟨C, hC⟩ : ∃ C, C = s / 128 ^ (S.size - 1) := ⟨_, rfl⟩
      have hg := (HGET.out (S.size - 1) (by omega)).1 (by omega)
      rw [← hC] at hg
      have hidx : ∀ h, (S[S.size - 1]'h).toNat = C := fun _ => hg.1
      have hC127 : C ≤ 127 := hg.2
      have hCp : Hid (1 < S.size → 0 < C) := by
        intro h
        have e := varL_last s (by rw [← HLEN.out]; exact h)
        rw [← HLEN.out, ← hC] at e
        exact e
      have hhead : S.extract 0 (S.size - 1) = strL (headL s) := by
        rw [← strL_of (S.extract 0 (S.size - 1)), extract_list, HS0.out, strL_data, ← HS0.out]
        unfold headL
        rw [← HLEN.out, List.drop_zero, Nat.sub_zero]
      have hhl : (strL (headL s)).size = S.size - 1 := by
        rw [strL_size]; unfold headL; rw [List.length_take, ← HLEN.out]; omega
      have hor := mark_or C hC127
      obtain ⟨c2, hc2⟩ : ∃ c2, c2 = UInt8.ofNat (C + 128) := ⟨_, rfl⟩
      rw [← hc2] at hor
      have HC2 : Hid (128 ≤ c2.toNat) := by
        show 128 ≤ c2.toNat
        rw [hc2, UInt8.toNat_ofNat_of_lt' (by show C + 128 < 256; omega)]; omega
      clear hg hC hc2
      have hcase : S.size ≤ 1 ∨ 1 < S.size ∧ 0 < C := by
        by_cases h : 1 < S.size
        · exact Or.inr ⟨h, hCp.out h⟩
        · exact Or.inl (by omega)
      have hv : s ≤ 0 ∨ 0 < s := by omega
      have HN := Lib.hid h64'
      have HN2 : Hid (s < 2 ^ 64) := H64.out
      have HL1 : Hid ((varL s).length ≤ 100) := by show (varL s).length ≤ 100; have := HLEN.out; omega
      have HL2 : Hid ((headL s).length ≤ 100) := by
        show (headL s).length ≤ 100
        unfold headL; rw [List.length_take]; have := HL1.out; omega
      have HE : Hid (S.size ≤ 1 → strL (headL s) = ByteArray.empty) := by
        intro h
        have e : (headL s) = [] := by
          apply List.eq_nil_of_length_eq_zero
          unfold headL; rw [List.length_take]; have := HLEN.out; omega
        rw [e]; rfl
      have HV1 : Hid (numP s (headL s) = .error 30) := numP_cut s s HN2.out
      have HV2 : Hid (numP s (headL s ++ [c2, 0]) = .error 31) := numP_idle s s c2 HN2.out HC2.out
      have HV3 : Hid (numP s (varL s) = .ok (s, [])) := by
        have := numP_var s s [] HN2.out
        rw [List.append_nil, if_neg (Nat.lt_irrefl _)] at this
        exact this
      have HSeq : Hid (S = strL (varL s)) := HS0.out
      rcases hcase with hcase | hcase
      all_goals
        rcases hv with hv | hv
        · have HBt := Lib.hid HB.out
          go_wp2_with fail
          refine (Open_at _ (headL s) (by first | rfl | exact (HE.out hcase).symm) _).mono ?_
          have HCASE := Lib.hid hcase
          clear hcase
          rintro e w3 ⟨b3, rfl, hd3, hb3, hl3, hz3⟩
          have HB3 : Hid (Below w.heap.size w w3) := HBt.out.trans (hb3.mono (by have := HBt.out.size; omega))
          have HL3 : Hid (w.heap.size ≤ b3) := by show w.heap.size ≤ b3; have := HBt.out.size; omega
          have HZ3 := Lib.hid hz3
          have HD3 := Lib.hid hd3
          clear hd3 hb3 hl3 hz3
          have hconv := run_convert_bytes_back (P := Try.prog) (w3.alloc (Obj.cells #[Value.int IntKind.u8 c2.toNat, Value.int IntKind.u8 0] 5)).drew 23 9 5 ⟨w3.heap.size, 0, none⟩ 2 [c2, 0] Try.underlying23 Try.underlying5 Try.underlying9 (by
            intro j hj
            have e : (⟨w3.heap.size, 0, none⟩ : Addr).add j = ⟨w3.heap.size, j, none⟩ := by unfold Addr.add; split <;> simp_all
            rw [e]
            change World.cell? (w3.alloc (Obj.cells #[Value.int IntKind.u8 c2.toNat, Value.int IntKind.u8 0] 5)) _ = _
            match j, hj with
            | 0, _ => rw [World.cell?_alloc_mark]; rfl
            | 1, _ => rw [World.cell?_alloc_mark]; rfl)
          rw [show ([c2, 0] : List UInt8).length = 2 from rfl] at hconv
          have hs2 : (strL [c2, 0]).size = 2 := rfl
          go_wp2_with fail
          have hw : IntKind.i64.wrap ((S.size : Int) - 1) = ((S.size - 1 : Nat) : Int) := by rw [IntKind.wrap_i64]; omega
          have hw2 : ((S.size - 1 : Nat) : Int) ≤ (S.size : Int) := by omega
          have hw3 : ((S.size - 1 : Nat) : Int) < (S.size : Int) := by omega
          go_region_with (go_at_call 6; refine (Open_at _ (headL s ++ [c2, 0]) (by exact strL_append _ _) _).mono ?_; rintro e w4 ⟨b4, rfl, hd4, hb4, hl4, hz4⟩; have HD4 := Lib.hid hd4; have HB4a := Lib.hid hb4; have HL4a := Lib.hid hl4; clear hd4 hb4 hl4 hz4)
          have HB34 : Hid (Below (b3 + 1) w3 w4) := by
            have := HZ3.out
            exact ((Below.refl _ _).alloc (by omega) _).drew.trans (HB4a.out.mono (by have := HL4a.out; simp at this; omega))
          have HB4 : Hid (Below w.heap.size w w4) := HB3.out.trans (HB34.out.mono (by have := HL3.out; omega))
          have HL4 : Hid (b3 < b4) := by show b3 < b4; have := HZ3.out; have h := HL4a.out; simp at h; omega
          have HD34 := Lib.hid (HD3.out.keeps (Keeps.of_below (S := fun _ => False) (HB34.out.mono (by have := HZ3.out; omega))) (fun h => h))
          clear hconv hw hw2 hw3 HB4a HL4a
          go_wp2_with fail
          refine (Var_err b3 (headL s) s 30 HL2.out HV1.out w4 HD34.out).mono ?_
          rintro e w5 ⟨rfl, hd5, hk5⟩
          have HD5 := Lib.hid hd5
          have HD45 := Lib.hid (HD4.out.keeps hk5 (fun h => by have h : b4 = b3 := h; have := HL4.out; omega))
          have HB5 : Hid (Below w.heap.size w w5) := HB4.out.trans (hk5.below HB4.out.size (fun k hk h => by have h : k = b3 := h; have := HL3.out; omega))
          clear hd5 hk5
          go_wp2_with fail
          refine (End_any b3 [] 30 w5 HD5.out).mono ?_
          rintro e w6 ⟨rfl, rfl⟩
          rw [endN_err 30 (by decide)]
          go_wp2_with fail
          refine (Var_err b4 (headL s ++ [c2, 0]) s 31 (by rw [List.length_append]; unfold headL; rw [List.length_take]; have := HLEN.out; simp; omega) HV2.out _ HD45.out).mono ?_
          rintro e w7 ⟨rfl, hd7, hk7⟩
          have HD7 := Lib.hid hd7
          have HB7 : Hid (Below w.heap.size w w7) := HB5.out.trans (hk7.below HB5.out.size (fun k hk h => by have h : k = b4 := h; have := HL3.out; have := HL4.out; omega))
          clear hd7 hk7
          go_wp2_with fail
          refine (End_any b4 [] 31 w7 HD7.out).mono ?_
          rintro e w8 ⟨rfl, rfl⟩
          rw [endN_err 31 (by decide)]
          go_wp2_with fail
          refine (Open_at _ (varL s) HSeq.out _).mono ?_
          rintro e w9 ⟨b9, rfl, hd9, hb9, hl9, hz9⟩
          have HB9 : Hid (Below w.heap.size w w9) := HB7.out.trans (hb9.mono (by have := HB7.out.size; omega))
          have HL9 : Hid (w.heap.size ≤ b9) := by show w.heap.size ≤ b9; have := HB7.out.size; omega
          have HD9 := Lib.hid hd9
          clear hd9 hb9 hl9 hz9
          go_wp2_with fail
          refine (Var_fine b9 (varL s) [] s s HL1.out HV3.out w9 HD9.out).mono ?_
          rintro e w10 ⟨rfl, hd10, hk10⟩
          have HD10 := Lib.hid hd10
          have HB10 : Hid (Below w.heap.size w w10) := HB9.out.trans (hk10.below HB9.out.size (fun k hk h => by have h : k = b9 := h; have := HL9.out; omega))
          clear hd10 hk10
          go_wp2_with fail
          refine (End_any b9 [] 0 w10 HD10.out).mono ?_
          rintro e w11 ⟨rfl, rfl⟩
          rw [show endN [] 0 = 0 from rfl]
          go_wp2
          go_ret
          exact ⟨by rfl, HB10.out⟩
        · have HV0 : Hid (numP (s - 1) (varL s) = .error 31) := by
            have := numP_var (s - 1) s [] HN2.out
            rw [List.append_nil, if_pos (by omega)] at this
            exact this
          go_wp2_with fail
          refine (Open_at _ (varL s) HSeq.out _).mono ?_
          rintro e w0 ⟨b0, rfl, hd0, hb0, hl0, hz0⟩
          have HB0 : Hid (Below w.heap.size w w0) := HB.out.trans (hb0.mono (by have := HB.out.size; omega))
          have HL0 : Hid (w.heap.size ≤ b0) := by show w.heap.size ≤ b0; have := HB.out.size; omega
          have hvar := Var_err b0 (varL s) (s - 1) 31 HL1.out HV0.out w0 hd0
          rw [show ((s - 1 : Nat) : Int) = (s : Int) - 1 by omega] at hvar
          clear hd0 hb0 hl0 hz0
          go_wp2_with fail
          refine hvar.mono ?_
          rintro e w1 ⟨rfl, hd1, hk1⟩
          have HD1 := Lib.hid hd1
          have HBt : Hid (Below w.heap.size w w1) := HB0.out.trans (hk1.below HB0.out.size (fun k hk h => by have h : k = b0 := h; have := HL0.out; omega))
          clear hd1 hk1 hvar
          go_wp2_with fail
          refine (End_any b0 [] 31 w1 HD1.out).mono ?_
          rintro e w2 ⟨rfl, rfl⟩
          rw [endN_err 31 (by decide)]
          go_wp2_with fail
          refine (Open_at _ (headL s) (by first | rfl | exact (HE.out hcase).symm) _).mono ?_
          have HCASE := Lib.hid hcase
          clear hcase
          rintro e w3 ⟨b3, rfl, hd3, hb3, hl3, hz3⟩
          have HB3 : Hid (Below w.heap.size w w3) := HBt.out.trans (hb3.mono (by have := HBt.out.size; omega))
          have HL3 : Hid (w.heap.size ≤ b3) := by show w.heap.size ≤ b3; have := HBt.out.size; omega
          have HZ3 := Lib.hid hz3
          have HD3 := Lib.hid hd3
          clear hd3 hb3 hl3 hz3
          have hconv := run_convert_bytes_back (P := Try.prog) (w3.alloc (Obj.cells #[Value.int IntKind.u8 c2.toNat, Value.int IntKind.u8 0] 5)).drew 23 9 5 ⟨w3.heap.size, 0, none⟩ 2 [c2, 0] Try.underlying23 Try.underlying5 Try.underlying9 (by
            intro j hj
            have e : (⟨w3.heap.size, 0, none⟩ : Addr).add j = ⟨w3.heap.size, j, none⟩ := by unfold Addr.add; split <;> simp_all
            rw [e]
            change World.cell? (w3.alloc (Obj.cells #[Value.int IntKind.u8 c2.toNat, Value.int IntKind.u8 0] 5)) _ = _
            match j, hj with
            | 0, _ => rw [World.cell?_alloc_mark]; rfl
            | 1, _ => rw [World.cell?_alloc_mark]; rfl)
          rw [show ([c2, 0] : List UInt8).length = 2 from rfl] at hconv
          have hs2 : (strL [c2, 0]).size = 2 := rfl
          go_wp2_with fail
          have hw : IntKind.i64.wrap ((S.size : Int) - 1) = ((S.size - 1 : Nat) : Int) := by rw [IntKind.wrap_i64]; omega
          have hw2 : ((S.size - 1 : Nat) : Int) ≤ (S.size : Int) := by omega
          have hw3 : ((S.size - 1 : Nat) : Int) < (S.size : Int) := by omega
          go_region_with (go_at_call 6; refine (Open_at _ (headL s ++ [c2, 0]) (by exact strL_append _ _) _).mono ?_; rintro e w4 ⟨b4, rfl, hd4, hb4, hl4, hz4⟩; have HD4 := Lib.hid hd4; have HB4a := Lib.hid hb4; have HL4a := Lib.hid hl4; clear hd4 hb4 hl4 hz4)
          have HB34 : Hid (Below (b3 + 1) w3 w4) := by
            have := HZ3.out
            exact ((Below.refl _ _).alloc (by omega) _).drew.trans (HB4a.out.mono (by have := HL4a.out; simp at this; omega))
          have HB4 : Hid (Below w.heap.size w w4) := HB3.out.trans (HB34.out.mono (by have := HL3.out; omega))
          have HL4 : Hid (b3 < b4) := by show b3 < b4; have := HZ3.out; have h := HL4a.out; simp at h; omega
          have HD34 := Lib.hid (HD3.out.keeps (Keeps.of_below (S := fun _ => False) (HB34.out.mono (by have := HZ3.out; omega))) (fun h => h))
          clear hconv hw hw2 hw3 HB4a HL4a
          go_wp2_with fail
          refine (Var_err b3 (headL s) s 30 HL2.out HV1.out w4 HD34.out).mono ?_
          rintro e w5 ⟨rfl, hd5, hk5⟩
          have HD5 := Lib.hid hd5
          have HD45 := Lib.hid (HD4.out.keeps hk5 (fun h => by have h : b4 = b3 := h; have := HL4.out; omega))
          have HB5 : Hid (Below w.heap.size w w5) := HB4.out.trans (hk5.below HB4.out.size (fun k hk h => by have h : k = b3 := h; have := HL3.out; omega))
          clear hd5 hk5
          go_wp2_with fail
          refine (End_any b3 [] 30 w5 HD5.out).mono ?_
          rintro e w6 ⟨rfl, rfl⟩
          rw [endN_err 30 (by decide)]
          go_wp2_with fail
          refine (Var_err b4 (headL s ++ [c2, 0]) s 31 (by rw [List.length_append]; unfold headL; rw [List.length_take]; have := HLEN.out; simp; omega) HV2.out _ HD45.out).mono ?_
          rintro e w7 ⟨rfl, hd7, hk7⟩
          have HD7 := Lib.hid hd7
          have HB7 : Hid (Below w.heap.size w w7) := HB5.out.trans (hk7.below HB5.out.size (fun k hk h => by have h : k = b4 := h; have := HL3.out; have := HL4.out; omega))
          clear hd7 hk7
          go_wp2_with fail
          refine (End_any b4 [] 31 w7 HD7.out).mono ?_
          rintro e w8 ⟨rfl, rfl⟩
          rw [endN_err 31 (by decide)]
          go_wp2_with fail
          refine (Open_at _ (varL s) HSeq.out _).mono ?_
          rintro e w9 ⟨b9, rfl, hd9, hb9, hl9, hz9⟩
          have HB9 : Hid (Below w.heap.size w w9) := HB7.out.trans (hb9.mono (by have := HB7.out.size; omega))
          have HL9 : Hid (w.heap.size ≤ b9) := by show w.heap.size ≤ b9; have := HB7.out.size; omega
          have HD9 := Lib.hid hd9
          clear hd9 hb9 hl9 hz9
          go_wp2_with fail
          refine (Var_fine b9 (varL s) [] s s HL1.out HV3.out w9 HD9.out).mono ?_
          rintro e w10 ⟨rfl, hd10, hk10⟩
          have HD10 := Lib.hid hd10
          have HB10 : Hid (Below w.heap.size w w10) := HB9.out.trans (hk10.below HB9.out.size (fun k hk h => by have h : k = b9 := h; have := HL9.out; omega))
          clear hd10 hk10
          go_wp2_with fail
          refine (End_any b9 [] 0 w10 HD10.out).mono ?_
          rintro e w11 ⟨rfl, rfl⟩
          rw [show endN [] 0 = 0 from rfl]
          go_wp2
          go_ret
          exact ⟨by rfl, HB10.out⟩
    | succ j =>
      have hg := HGET.out j (by rw [hl]; omega)
      have hs' : s = n / 128 ^ j / 128 := by rw [hs.out, Nat.pow_succ, Nat.div_div_eq_div_mul]
      obtain ⟨q, hq⟩ : ∃ q, q = n / 128 ^ j := ⟨_, rfl⟩
      rw [← hq] at hs' hg
      obtain ⟨C, hC⟩ : ∃ C : Nat, C = (S[j]'(by rw [hl]; omega)).toNat := ⟨_, rfl⟩
      rw [← hC] at hg
      have hidx : ∀ h, (S[j]'h).toNat = C := fun _ => hC.symm
      have hqn : q ≤ n := by rw [hq]; exact Nat.div_le_self _ _
      have HQ := Lib.hid hq
      have HS := Lib.hid hs'
      have hs57 : s ≤ 144115188075855871 := by omega
      clear hC hq hs hs'
      have HJ := Lib.hid (join7 s C hs57 (by omega))
      have HEQ : Hid (s * 128 + C % 128 = q) := by show s * 128 + C % 128 = q; have := HS.out; omega
      have hj3 : j < len := by omega
      clear hk
      by_cases hj : j + 1 = len
      · obtain ⟨h1, h2⟩ := hg.1 hj
        have hj2 : len ≤ j + 1 := by omega
        have HC1 := Lib.hid h1
        have hC3 : C ≤ 127 := by omega
        clear hg hj h1 h2
        go_wp2
        go_roundw
        case rel => exact ⟨j, q, by omega, by go_num, by rw [HJ.out, HEQ.out], HQ.out, trivial⟩
        case measure => simp [intOf]
      · have h1 := hg.2 (by omega)
        have hj2 : j + 1 < len := by omega
        have HC1 := Lib.hid h1
        have hC3 : 128 ≤ C := by omega
        have hC4 : C < 256 := by omega
        clear hg hj h1
        go_wp2
        go_roundw
        case rel => exact ⟨j, q, by omega, by go_num, by rw [HJ.out, HEQ.out], HQ.out, trivial⟩
        case measure => simp [intOf]
end Go.Proofs.Ytbiogajejcfkfaa.Number
