/-
  THE WALKS of the encoder: Byte, Flag, Var, Text, Raw, Texts, Bytes.
-/
import Derived.Test.YtbiogajejcfkfaaEnc
import Derived.Laws.BytesArg

namespace Go.Proofs.Ytbiogajejcfkfaa
open Go.RowKit
open Go.Lib
set_option linter.unusedVariables false

/-- A number's bytes: seven bits each, the lowest first, every one but the last marked. -/
def varL (n : Nat) : List UInt8 := if h : n ≤ 127 then [UInt8.ofNat n] else UInt8.ofNat (n % 128 + 128) :: varL (n / 128)
termination_by n
decreasing_by omega
theorem varL_small (n : Nat) (h : n ≤ 127) : varL n = [UInt8.ofNat n] := by rw [varL.eq_1, dif_pos h]
theorem varL_great (n : Nat) (h : 127 < n) : varL n = UInt8.ofNat (n % 128 + 128) :: varL (n / 128) := by rw [varL.eq_1, dif_neg (by omega)]
theorem varL_pos (n : Nat) : 0 < (varL n).length := by
  by_cases h : n ≤ 127
  · rw [varL_small n h]; simp
  · rw [varL_great n (by omega)]; simp
theorem mark_all : ((List.range 256).all fun m => decide (bits .or .u8 (m : Int) 128 = ((m % 128 + 128 : Nat) : Int))) = true := by kernel_rfl
theorem mark_byte (n : Nat) : bits .or .u8 ((n : Int) % 256) 128 = ((UInt8.ofNat (n % 128 + 128)).toNat : Int) := by
  have h := List.all_eq_true.1 mark_all (n % 256) (by rw [List.mem_range]; omega)
  rw [decide_eq_true_eq] at h
  have e : ((n % 256 : Nat) : Int) = (n : Int) % 256 := by omega
  rw [e] at h
  rw [h, UInt8.toNat_ofNat_of_lt' (by show n % 128 + 128 < 256; omega)]
  omega
theorem low_byte (n : Nat) (h : n ≤ 127) : (n : Int) % 256 = ((UInt8.ofNat n).toNat : Int) := by
  rw [UInt8.toNat_ofNat_of_lt' (by show n < 256; omega)]; omega

set_option maxRecDepth 100000 in
theorem EVar_any (b : Nat) (v : Value) (l : List UInt8) (n0 : Nat) (w : World) (h : EncAt w b v l) (h64 : n0 < 2 ^ 64) (hlen : l.length + (varL n0).length ≤ 140737488355328) :
    Calls Try.prog 4 #[.pointer (some ⟨b, 0, none⟩), .int .u64 n0] w fun e w' => e = .returned (.tuple #[]) ∧ ∃ v', Added w w' b v v' (l ++ varL n0) := by
  have H := Lib.hid h
  have HL := Lib.hid hlen
  have H64 := Lib.hid h64
  clear h hlen h64
  go_enter Try.func4, Try.ntmps4
  go_wp2
  go_loopw [1] (fun x wr => ∃ (n : Nat) (u : Value) (m : List UInt8), n < 18446744073709551616 ∧ x = .int .u64 n ∧ Hid (m ++ varL n = l ++ varL n0) ∧ Hid (Added w wr b v u m))
    (fun x _ => (intOf x).toNat)
  case atStart => exact ⟨n0, v, l, by have := H64.out; omega, rfl, rfl, Added.refl H.out⟩
  case round =>
    obtain ⟨n, u, m, hn, rfl, hm, ha⟩ := hrel
    have c0 := ha.out.enc.box.cell
    have HE := Lib.hid ha.out.enc
    have HLE : Hid (m.length + (varL n).length ≤ 140737488355328) := by
      have e := congrArg List.length hm.out
      simp only [List.length_append] at e
      have := HL.out
      show m.length + (varL n).length ≤ 140737488355328
      omega
    have HLE1 : Hid (m.length + 1 ≤ 140737488355328) := by
      have e := HLE.out
      have := varL_pos n
      show m.length + 1 ≤ 140737488355328
      omega
    by_cases hs : n ≤ 127
    · have HM : Hid (m ++ [UInt8.ofNat n] = l ++ varL n0) := by have e := hm.out; rw [varL_small n hs] at e; exact e
      have hlow := low_byte n hs
      obtain ⟨c, hc⟩ : ∃ c, c = UInt8.ofNat n := ⟨_, rfl⟩
      rw [← hc] at hlow HM
      clear hc
      go_wp2_with (at_builtin; refine wpList_grow_byte rfl _ _ rfl u m c 1 ⟨wr.heap.size, 0, none⟩ rfl (HE.out.row_at ((Below.refl _ _).alloc (Nat.le_refl _) _)) rfl ?c1 HLE1.out ?_)
      case c1 => simp [Addr.add]; omega
      intro v' w2 hg
      obtain ⟨sa, sn, sc, rfl⟩ := hg.1.slice
      have hb := HE.out.grown_box ((Below.refl _ _).alloc (Nat.le_refl _) _) hg
      have HG := Lib.hid hg
      have d0 := hb.cell
      have f0 := hb.frozen 0
      clear hg hb
      go_wp2
      (try simp only [Exit.inBlock, Exit.then])
      first | refine bodyPost_end (results_none rfl _ _ _) rfl ?_ | refine bodyPost_ret (results_none rfl _ _ _) rfl ?_
      refine ⟨rfl, Value.slice sa sn sc, ?_⟩
      rw [← HM.out]
      exact ha.out.trans (Added.of_grew HE.out ((Below.refl _ _).alloc (Nat.le_refl _) _) HG.out)
    · have HM : Hid ((m ++ [UInt8.ofNat (n % 128 + 128)]) ++ varL (n / 128) = l ++ varL n0) := by have e := hm.out; rw [varL_great n (by omega)] at e; show _ = _; rw [List.append_assoc, List.singleton_append]; exact e
      have hmark := mark_byte n
      obtain ⟨c, hc⟩ : ∃ c, c = UInt8.ofNat (n % 128 + 128) := ⟨_, rfl⟩
      rw [← hc] at hmark HM
      clear hc
      go_wp2_with (at_builtin; refine wpList_grow_byte rfl _ _ rfl u m c 1 ⟨wr.heap.size, 0, none⟩ rfl (HE.out.row_at ((Below.refl _ _).alloc (Nat.le_refl _) _)) rfl ?c1 HLE1.out ?_)
      case c1 => simp [Addr.add]
      intro v' w2 hg
      obtain ⟨sa, sn, sc, rfl⟩ := hg.1.slice
      have hb := HE.out.grown_box ((Below.refl _ _).alloc (Nat.le_refl _) _) hg
      have HG := Lib.hid hg
      have d0 := hb.cell
      have f0 := hb.frozen 0
      clear hg hb
      go_wp2
      go_roundw
      case rel => exact ⟨n / 128, _, _, by omega, by go_num, HM, ha.out.trans (Added.of_grew HE.out ((Below.refl _ _).alloc (Nat.le_refl _) _) HG.out)⟩
      case measure => simp [intOf]; omega

def flagL (x : Bool) : List UInt8 := [if x then 1 else 0]
def textL (s : List UInt8) : List UInt8 := varL s.length ++ s
set_option maxRecDepth 100000 in
theorem EBytes_any (b : Nat) (v : Value) (l : List UInt8) (w : World) (h : EncAt w b v l) :
    Calls Try.prog 5 #[.pointer (some ⟨b, 0, none⟩)] w fun e w' => e = .returned (.string (strL l)) ∧ w' = w := by
  have c0 := h.box.cell
  rcases h.row.2 with ⟨rfl, hn⟩ | ⟨g, cap, cur, rfl, hb, hg, hnc, hcm, hcs, htake⟩
  · have hl : l = [] := List.eq_nil_of_length_eq_zero hn
    subst hl
    clear hn h
    have hk : (convert 23 9 (.slice none 0 0)).run Try.prog w = .ok (.string (strL [])) w := run_convert_bytes_nil (P := Try.prog) w 23 5 Try.underlying23 Try.underlying5 0 0 9 Try.underlying9
    go_enter Try.func5, Try.ntmps5
    go_wp2
    go_ret
    exact ⟨rfl, rfl⟩
  · have hk := run_convert_bytes_back (P := Try.prog) w 23 9 5 ⟨g, 0, none⟩ cap l Try.underlying23 Try.underlying5 Try.underlying9 (by
      intro j hj
      exact World.ownsRow.cells h.row (g := g) rfl j _ (by simp [u8s]; exact ⟨l[j], by simp⟩))
    clear hg hnc hcm hcs htake h
    go_enter Try.func5, Try.ntmps5
    go_wp2
    go_ret
    exact ⟨rfl, rfl⟩
end Go.Proofs.Ytbiogajejcfkfaa
