/-
  THE DECODER's INNER FUNCTIONS: bytes, limit, number, text: what each hands back or panics with, and what becomes of the decoder.
-/
import Derived.Test.YtbiogajejcfkfaaKit
namespace Go.Proofs.Ytbiogajejcfkfaa
open Go.RowKit
set_option linter.unusedVariables false

/-- A decoder lies at block b: what is left, and its error. -/
def DecAt (w : World) (b : Nat) (l : List UInt8) (e : Int) : Prop := TwoAt 37 w b (.string (strL l)) (.int .i64 e)
theorem DecAt.keeps {S : Nat → Prop} {w w' : World} {b : Nat} {l : List UInt8} {e : Int} (h : DecAt w b l e) (hk : Keeps S w w') (hs : ¬ S b) : DecAt w' b l e := TwoAt.keeps h hk hs
theorem extract_take (l : List UInt8) (n : Nat) : (strL l).extract 0 n = strL (l.take n) := by
  apply ByteArray.ext; apply Array.ext'
  rw [extract_list, strL_data]; rfl
theorem extract_drop (l : List UInt8) (n : Nat) : (strL l).extract n (strL l).size = strL (l.drop n) := by
  apply ByteArray.ext; apply Array.ext'
  rw [extract_list, strL_data, strL_size, List.take_of_length_le (by rw [List.length_drop]; omega)]; rfl

/-- What a panic of the package's own is. -/
def stopV (x : Int) : Value := .iface 40 (.agg #[.int .i64 x])
def stop (x : Int) : Ending := .panicked [{ v := stopV x, recovered := false }]

/-- How an inner take ends: a value and what is left, or the package's own panic with an error. -/
def Inner (b : Nat) (w : World) (r : Except Int (Value × List UInt8)) (e : Ending) (w' : World) : Prop :=
  match r with
  | .ok (v, l) => e = .returned v ∧ DecAt w' b l 0 ∧ Keeps (one b) w w'
  | .error x => e = stop x ∧ (∃ l y, DecAt w' b l y) ∧ Keeps (one b) w w'

def bytesP (n : Nat) (l : List UInt8) : Except Int (List UInt8 × List UInt8) := if n ≤ l.length then .ok (l.take n, l.drop n) else .error 30

theorem bytes_ok (b : Nat) (l : List UInt8) (n : Nat) (hn : n ≤ l.length) (hs : l.length ≤ maxLen) (w : World) (hd : DecAt w b l 0) :
    Calls Try.prog 12 #[.pointer (some ⟨b, 0, none⟩), .int .u64 n] w fun e w' => e = .returned (.string (strL (l.take n))) ∧ DecAt w' b (l.drop n) 0 ∧ Keeps (one b) w w' := by
  have c0 := hd.cell0
  have c1 := hd.cell1
  have f0 := hd.frozen 0
  have HD := Lib.hid hd
  have hz := strL_size l
  have k : (n : Int) ≤ ((strL l).size : Int) := by rw [hz]; omega
  have k' : n ≤ (strL l).size := by rw [hz]; omega
  have k2 : (strL l).size ≤ 9223372036854775807 := by rw [hz]; unfold maxLen at hs; omega
  have k3 : ¬ (strL l).size < n := by omega
  have e1 := extract_take l n
  have e2 := extract_drop l n
  clear hd hz hn hs
  go_enter Try.func12, Try.ntmps12
  go_wp2
  go_ret
  exact ⟨rfl, HD.out.set0 _, (Keeps.refl (one b) w).setCell (p := ⟨b, 0, none⟩) (Or.inl (show b = b from rfl)) _⟩
theorem bytes_short (b : Nat) (l : List UInt8) (n : Nat) (hn : l.length < n) (hs : l.length ≤ maxLen) (w : World) (hd : DecAt w b l 0) :
    Calls Try.prog 12 #[.pointer (some ⟨b, 0, none⟩), .int .u64 n] w fun e w' => e = .panicked [{ v := stopV 30, recovered := false }] ∧ w = w' := by
  have c0 := hd.cell0
  have c1 := hd.cell1
  have hz := strL_size l
  have k' : (strL l).size < n := by rw [hz]; omega
  have k2 : (strL l).size ≤ 9223372036854775807 := by rw [hz]; unfold maxLen at hs; omega
  clear hd hz hn hs
  go_enter Try.func12, Try.ntmps12
  go_wp2
  exact ⟨rfl, rfl, rfl⟩
theorem bytes_stop (b : Nat) (l : List UInt8) (n : Nat) (x : Int) (hx : (x == 0) = false) (w : World) (hd : DecAt w b l x) :
    Calls Try.prog 12 #[.pointer (some ⟨b, 0, none⟩), .int .u64 n] w fun e w' => e = .panicked [{ v := stopV x, recovered := false }] ∧ w = w' := by
  have c0 := hd.cell0
  have c1 := hd.cell1
  clear hd
  go_enter Try.func12, Try.ntmps12
  go_wp2
  exact ⟨rfl, rfl, rfl⟩
/-- The takes' first step, of a decoder that has not stopped. -/
theorem bytes_any (b : Nat) (l : List UInt8) (n : Nat) (hs : l.length ≤ maxLen) (w : World) (hd : DecAt w b l 0) :
    Calls Try.prog 12 #[.pointer (some ⟨b, 0, none⟩), .int .u64 n] w (Inner b w ((bytesP n l).map fun x => (.string (strL x.1), x.2))) := by
  by_cases hn : n ≤ l.length
  · have e : bytesP n l = .ok (l.take n, l.drop n) := by unfold bytesP; rw [if_pos hn]
    rw [e]
    exact bytes_ok b l n hn hs w hd
  · have e : bytesP n l = .error 30 := by unfold bytesP; rw [if_neg hn]
    rw [e]
    exact (bytes_short b l n (by omega) hs w hd).mono fun _ _ ⟨h1, h2⟩ => ⟨h1, ⟨l, 0, by rw [← h2]; exact hd⟩, by rw [← h2]; exact Keeps.refl _ _⟩

/-- A limit that came as an int. -/
def limN (m : Int) : Nat := m.toNat
/-- A number's bytes, from the place 'shift' on, with the value v so far. -/
def numGo (max : Nat) : Nat → Nat → List UInt8 → Except Int (Nat × List UInt8)
  | _, _, [] => .error 30
  | shift, v, c :: r =>
    if shift = 63 ∧ 1 < c.toNat then .error 31
    else if c.toNat < 128 then (if max < v + c.toNat % 128 * 2 ^ shift ∨ c.toNat = 0 ∧ 0 < shift then .error 31 else .ok (v + c.toNat % 128 * 2 ^ shift, r))
    else numGo max (shift + 7) (v + c.toNat % 128 * 2 ^ shift) r
def numP (max : Nat) (l : List UInt8) : Except Int (Nat × List UInt8) := numGo max 0 0 l

theorem num_or (v C sh : Nat) (hC : C < 256) (hsh : sh ≤ 63) (hv : v < 2 ^ sh) (h : sh ≤ 56 ∨ C ≤ 1) :
    bits .or .u64 (v : Int) (IntKind.u64.wrap (IntKind.u64.wrap (bits .and .u8 (C : Int) 127) * 2 ^ sh)) = ((v + C % 128 * 2 ^ sh : Nat) : Int) := by
  have h1 : bits .and .u8 (C : Int) 127 = ((C % 128 : Nat) : Int) := by
    have := u8_and_nat C 127 hC (by decide)
    rw [show (127 : Nat) = 2 ^ 7 - 1 from rfl, Nat.and_two_pow_sub_one_eq_mod] at this
    exact this
  have hp : C % 128 * 2 ^ sh < 2 ^ 64 := by
    rcases h with h | h
    · have h2 : 2 ^ sh ≤ 2 ^ 56 := Nat.pow_le_pow_right (by decide) h
      have h3 : C % 128 ≤ 127 := by omega
      have := Nat.mul_le_mul h3 h2
      omega
    · have h2 : 2 ^ sh ≤ 2 ^ 63 := Nat.pow_le_pow_right (by decide) hsh
      have h3 : C % 128 ≤ 1 := by omega
      have := Nat.mul_le_mul h3 h2
      omega
  have h2 : IntKind.u64.wrap (IntKind.u64.wrap ((C % 128 : Nat) : Int) * 2 ^ sh) = ((C % 128 * 2 ^ sh : Nat) : Int) := by
    rw [IntKind.wrap_u64, IntKind.wrap_u64]
    have e1 : ((C % 128 : Nat) : Int) % 18446744073709551616 = ((C % 128 : Nat) : Int) := by omega
    rw [e1]
    have e2 : ((C % 128 : Nat) : Int) * 2 ^ sh = ((C % 128 * 2 ^ sh : Nat) : Int) := by simp
    rw [e2]
    omega
  have hv64 : v < 2 ^ 64 := by
    have : 2 ^ sh ≤ 2 ^ 63 := Nat.pow_le_pow_right (by decide) hsh
    omega
  rw [h1, h2, u64_or_nat v _ hv64 hp]
  congr 1
  have := Nat.two_pow_add_eq_or_of_lt (i := sh) (b := v) hv (C % 128)
  rw [Nat.or_comm, Nat.mul_comm, ← this]
  omega

set_option maxHeartbeats 1000000 in
set_option maxRecDepth 100000 in
theorem number_any (b : Nat) (l : List UInt8) (max : Nat) (hs : l.length ≤ maxLen) (w : World) (hd : DecAt w b l 0) :
    Calls Try.prog 11 #[.pointer (some ⟨b, 0, none⟩), .int .u64 max] w (Inner b w ((numP max l).map fun x => (.int .u64 x.1, x.2))) := by
  have HS := Lib.hid hs
  obtain ⟨res, hres⟩ : ∃ res, res = numP max l := ⟨_, rfl⟩
  rw [← hres]
  have HRES := Lib.hid hres
  have HD := Lib.hid hd
  clear hs hres hd
  go_enter Try.func11, Try.ntmps11
  go_wp2
  go_loopw [5, 6] (fun x y wr => ∃ (sh v : Nat) (r : List UInt8), sh ≤ 63 ∧ y = .int .i64 sh ∧ x = .int .u64 v ∧ Hid (sh % 7 = 0) ∧ Hid (res = numGo max sh v r) ∧ Hid (v < 2 ^ sh) ∧ Hid (r.length ≤ maxLen) ∧ Hid (DecAt wr b r 0) ∧ Keeps (one b) w wr)
    (fun _ y _ => 70 - (intOf y).toNat)
  case atStart => exact ⟨0, 0, l, by omega, rfl, rfl, rfl, HRES.out, (by show 0 < 2 ^ 0; decide), HS.out, HD.out, Keeps.refl _ _⟩
  case round =>
    obtain ⟨sh, v, r, hk, rfl, rfl, h7, hr, hv, hrl, hdr, hkeep⟩ := hrel
    cases r with
    | nil =>
      have hb := Lib.hid (bytes_short b [] 1 (by decide) (by decide) wr hdr.out)
      go_wp2_with (go_at_call 12; refine hb.out.mono ?_; rintro e w1 ⟨rfl, rfl⟩)
      refine ⟨rfl, ?_⟩
      show Inner b w (Except.map _ res) _ wr
      rw [hr.out]
      exact ⟨rfl, ⟨[], 0, hdr.out⟩, hkeep⟩
    | cons c r =>
      have hb : Hid (Calls Try.prog 12 #[.pointer (some ⟨b, 0, none⟩), .int .u64 (1 : Nat)] wr fun e w' => e = .returned (.string (strL [c])) ∧ DecAt w' b r 0 ∧ Keeps (one b) wr w') := bytes_ok b (c :: r) 1 (by simp) hrl.out wr hdr.out
      obtain ⟨C, hC⟩ : ∃ C, C = c.toNat := ⟨_, rfl⟩
      have hCl : C < 256 := by rw [hC]; exact c.toNat_lt
      have hidx : ∀ h, ((strL [c])[0]'h).toNat = C := fun _ => hC.symm
      have hsz : (strL [c]).size = 1 := rfl
      obtain ⟨V, hV⟩ : ∃ V, V = v + C % 128 * 2 ^ sh := ⟨_, rfl⟩
      have hor : sh = 63 → C ≤ 1 → bits .or .u64 (v : Int) (IntKind.u64.wrap (IntKind.u64.wrap (bits .and .u8 (C : Int) 127) * 2 ^ sh)) = (V : Int) := by
        intro _ _; rw [hV]; exact num_or v C sh hCl hk hv.out (by omega)
      have hor' : sh < 63 → bits .or .u64 (v : Int) (IntKind.u64.wrap (IntKind.u64.wrap (bits .and .u8 (C : Int) 127) * 2 ^ sh)) = (V : Int) := by
        intro _; rw [hV]; exact num_or v C sh hCl hk hv.out (by have := h7.out; omega)
      have HOR : Hid (¬ (sh = 63 ∧ 1 < C) → bits .or .u64 (v : Int) (IntKind.u64.wrap (IntKind.u64.wrap (bits .and .u8 (C : Int) 127) * 2 ^ sh)) = (V : Int)) := by
        intro h
        by_cases h63 : sh = 63
        · exact hor h63 (by omega)
        · exact hor' (by omega)
      have HV := Lib.hid hV
      have HC := Lib.hid hC
      clear hC hor hor' hV
      have HGO : Hid (res = if sh = 63 ∧ 1 < C then .error 31 else if C < 128 then (if max < V ∨ C = 0 ∧ 0 < sh then .error 31 else .ok (V, r)) else numGo max (sh + 7) V r) := by
        have h := hr.out
        simp only [numGo] at h
        rw [← HC.out, ← HV.out] at h
        exact h
      by_cases hA : sh = 63 ∧ 1 < C
      · obtain ⟨h63, h1C⟩ := hA
        have e1 : ((sh : Int) == 63) = true := by rw [beq_iff_eq]; omega
        have HG2 : Hid (res = .error 31) := by have h := HGO.out; rw [if_pos ⟨h63, h1C⟩] at h; exact h
        clear h63
        go_wp2_with (go_at_call 12; refine hb.out.mono ?_; rintro e w1 ⟨rfl, hd1, hk1⟩)
        refine ⟨rfl, ?_⟩
        show Inner b w (Except.map _ res) _ w1
        rw [HG2.out]
        exact ⟨rfl, ⟨r, 0, hd1⟩, hkeep.trans hk1⟩
      · have hor := HOR.out hA
        have e1 : ((sh : Int) == 63) = true ∨ ((sh : Int) == 63) = false := by cases ((sh : Int) == 63) <;> simp
        have HNA := Lib.hid hA
        have hC1 : ((sh : Int) == 63) = true → C ≤ 1 := by intro h; rw [beq_iff_eq] at h; have := HNA.out; omega
        have hshl : ((sh : Int) == 63) = false → sh < 63 := by intro h; rw [beq_eq_false_iff_ne] at h; omega
        clear HOR hA
        by_cases hB : C < 128
        · by_cases hM : max < V
          · have HG2 : Hid (res = .error 31) := by have h := HGO.out; rw [if_neg HNA.out, if_pos hB, if_pos (Or.inl hM)] at h; exact h
            rcases e1 with e1 | e1
            · have := hC1 e1
              clear hC1 hshl
              go_wp2_with (go_at_call 12; refine hb.out.mono ?_; rintro e w1 ⟨rfl, hd1, hk1⟩)
              refine ⟨rfl, ?_⟩
              show Inner b w (Except.map _ res) _ w1
              rw [HG2.out]
              exact ⟨rfl, ⟨r, 0, hd1⟩, hkeep.trans hk1⟩
            · clear hC1 hshl
              go_wp2_with (go_at_call 12; refine hb.out.mono ?_; rintro e w1 ⟨rfl, hd1, hk1⟩)
              refine ⟨rfl, ?_⟩
              show Inner b w (Except.map _ res) _ w1
              rw [HG2.out]
              exact ⟨rfl, ⟨r, 0, hd1⟩, hkeep.trans hk1⟩
          · by_cases hZ : C = 0 ∧ 0 < sh
            · obtain ⟨hZ1, hZ2⟩ := hZ
              have HG2 : Hid (res = .error 31) := by have h := HGO.out; rw [if_neg HNA.out, if_pos hB, if_pos (Or.inr ⟨hZ1, hZ2⟩)] at h; exact h
              have z1 : ((C : Int) == 0) = true := by rw [beq_iff_eq]; omega
              clear hZ1
              rcases e1 with e1 | e1
              · have := hC1 e1
                clear hC1 hshl
                go_wp2_with (go_at_call 12; refine hb.out.mono ?_; rintro e w1 ⟨rfl, hd1, hk1⟩)
                refine ⟨rfl, ?_⟩
                show Inner b w (Except.map _ res) _ w1
                rw [HG2.out]
                exact ⟨rfl, ⟨r, 0, hd1⟩, hkeep.trans hk1⟩
              · clear hC1 hshl
                go_wp2_with (go_at_call 12; refine hb.out.mono ?_; rintro e w1 ⟨rfl, hd1, hk1⟩)
                refine ⟨rfl, ?_⟩
                show Inner b w (Except.map _ res) _ w1
                rw [HG2.out]
                exact ⟨rfl, ⟨r, 0, hd1⟩, hkeep.trans hk1⟩
            · have HG2 : Hid (res = .ok (V, r)) := by have h := HGO.out; rw [if_neg HNA.out, if_pos hB, if_neg (by rintro (h | h); exact hM h; exact hZ h)] at h; exact h
              have hz : ((C : Int) == 0) = true ∧ sh ≤ 0 ∨ ((C : Int) == 0) = false := by
                by_cases h : C = 0
                · left; exact ⟨by rw [beq_iff_eq]; omega, by omega⟩
                · right; rw [beq_eq_false_iff_ne]; omega
              clear hZ
              have he : (((sh : Int) == 63) = true ∧ C ≤ 1) ∨ ((sh : Int) == 63) = false := by
                rcases e1 with e1 | e1
                · exact Or.inl ⟨e1, hC1 e1⟩
                · exact Or.inr e1
              clear hC1 hshl e1
              rcases hz with ⟨hz, hs0⟩ | hz
              all_goals
                rcases he with ⟨e1, hle⟩ | e1
                all_goals
                  go_wp2_with (go_at_call 12; refine hb.out.mono ?_; rintro e w1 ⟨rfl, hd1, hk1⟩)
                  go_ret
                  show Inner b w (Except.map _ res) _ w1
                  rw [HG2.out]
                  exact ⟨rfl, hd1, hkeep.trans hk1⟩
        · have HG2 : Hid (res = numGo max (sh + 7) V r) := by have h := HGO.out; rw [if_neg HNA.out, if_neg hB] at h; exact h
          have e1 : ((sh : Int) == 63) = false := by
            rcases e1 with h | h
            · have := hC1 h; omega
            · exact h
          have hsh := hshl e1
          clear hC1 hshl
          go_wp2_with (go_at_call 12; refine hb.out.mono ?_; rintro e w1 ⟨rfl, hd1, hk1⟩)
          go_roundw
          case rel =>
            refine ⟨sh + 7, V, r, by have := h7.out; omega, by go_num, rfl, (by show (sh + 7) % 7 = 0; have := h7.out; omega), HG2.out, ?_, ?_, hd1, hkeep.trans hk1⟩
            · show V < 2 ^ (sh + 7)
              rw [HV.out]
              have := hv.out
              have h3 : C % 128 * 2 ^ sh ≤ 127 * 2 ^ sh := Nat.mul_le_mul_right _ (by omega)
              rw [Nat.pow_add]; omega
            · show r.length ≤ maxLen
              have := hrl.out
              simp at this
              omega
          case measure => simp [intOf]; omega

theorem numGo_len (max : Nat) : ∀ (l : List UInt8) (sh v n : Nat) (r : List UInt8), numGo max sh v l = .ok (n, r) → r.length < l.length := by
  intro l
  induction l with
  | nil => intro sh v n r h; cases h
  | cons c l ih =>
    intro sh v n r h
    simp only [numGo] at h
    split at h
    · cases h
    · split at h
      · split at h
        · cases h
        · simp only [Except.ok.injEq, Prod.mk.injEq] at h
          rw [← h.2]; simp
      · have := ih _ _ _ _ h
        simp; omega
theorem numP_len {max n : Nat} {l r : List UInt8} (h : numP max l = .ok (n, r)) : r.length ≤ l.length := Nat.le_of_lt (numGo_len max l 0 0 n r h)

def textP (max : Int) (l : List UInt8) : Except Int (List UInt8 × List UInt8) :=
  match numP (limN max) l with
  | .error e => .error e
  | .ok (n, r) => bytesP n r
theorem bytesP_len {n : Nat} {l a r : List UInt8} (h : bytesP n l = .ok (a, r)) : r.length ≤ l.length := by
  unfold bytesP at h
  split at h
  · simp only [Except.ok.injEq, Prod.mk.injEq] at h; rw [← h.2]; simp
  · cases h

set_option maxRecDepth 100000 in
theorem number_stop (b : Nat) (l : List UInt8) (max : Nat) (x : Int) (hx : (x == 0) = false) (w : World) (hd : DecAt w b l x) :
    Calls Try.prog 11 #[.pointer (some ⟨b, 0, none⟩), .int .u64 max] w fun e w' => e = .panicked [{ v := stopV x, recovered := false }] ∧ w = w' := by
  have hb := Lib.hid (bytes_stop b l 1 x hx w hd)
  clear hd hx
  go_enter Try.func11, Try.ntmps11
  go_wp2
  go_loop [5, 6] (fun x y => x = .int .u64 0 ∧ y = .int .i64 0) (fun _ _ => 0)
  case atStart => exact ⟨rfl, rfl⟩
  case round =>
    obtain ⟨rfl, rfl⟩ := hrel
    go_wp2_with (go_at_call 12; refine hb.out.mono ?_; rintro e w1 ⟨rfl, rfl⟩)
    exact ⟨rfl, rfl, rfl⟩
end Go.Proofs.Ytbiogajejcfkfaa
