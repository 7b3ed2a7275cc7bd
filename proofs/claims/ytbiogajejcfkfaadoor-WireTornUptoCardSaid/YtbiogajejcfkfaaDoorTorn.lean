/-
  WireTorn, the walk: for every row of payloads of at most 2^20 bytes together and every cut the law returns true. Conditions: the table as the program lays it.
-/
import Derived.Test.YtbiogajejcfkfaaDoorTornLaw
import Derived.Test.YtbiogajejcfkfaaDoorStrs
namespace Go.Proofs.YtbiogajejcfkfaaDoor.Torn
open Go.RowKit
set_option linter.unusedVariables false

theorem info_int : (Tryd.prog.info? 3).map (fun i => (i.zero, i.size, i.bytes)) = some (some (.int .i64 0), 1, 8) := by kernel_rfl
/-- The ends of the first k frames. -/
def ends (l : List ByteArray) (k : Nat) : List Value := (List.range k).map fun j => .int .i64 ((S l (j + 1)).length : Int)
theorem ends_len (l : List ByteArray) (k : Nat) : (ends l k).length = k := by simp [ends]
theorem ends_succ (l : List ByteArray) (k : Nat) : ends l (k + 1) = ends l k ++ [.int .i64 ((S l (k + 1)).length : Int)] := by simp [ends, List.range_succ]

theorem grown_of_below {w w' : World} (h : Below w.heap.size w w') (row : Option Nat) : w.grownBy w' row := ⟨h.os, h.tape, h.output, h.size, fun k hk _ => h.block k hk⟩
theorem owns_below {w w' : World} {base : Nat} {e : TypeId} {size : Nat} {v : Value} {n : Nat} {xs : List Value} (h : w.ownsRow base e size v n xs) (hb : Below w.heap.size w w') : w'.ownsRow base e size v n xs := by
  cases hv : v.ownBlock with
  | none => exact h.kept (grown_of_below hb none) (Or.inl hv)
  | some g => exact h.kept (grown_of_below hb none) (Or.inr (by rw [hv]; simp))

set_option maxHeartbeats 4000000 in
set_option maxRecDepth 100000 in
theorem walk (ao : Option Addr) (l : List ByteArray) (cap : Nat) (cut : Int) (w : World) (hl : StrsAt w ao l) (hsz : ∀ s ∈ l, s.size ≤ 1048576) (hlen : l.length ≤ 1048576) (htot : tot l ≤ 1048576) (ht : Tab w) :
    Calls Tryd.prog 5 #[.agg #[.slice ao l.length cap, .int .i64 cut]] w fun e w' => e = .returned (.bool true) ∧ Below w.heap.size w w' := by
  obtain ⟨i0, hi, hz0, hz1, hz2⟩ := info_parts info_int
  obtain ⟨n, hn⟩ : ∃ n, n = l.length := ⟨_, rfl⟩
  have H := Lib.hid ht
  have HL := ht.lt
  have HSZ := Lib.hid hsz
  have HSA := Lib.hid hl
  have HN := Lib.hid hn
  rw [← hn] at hlen ⊢
  have hSle : ∀ k, k ≤ n → (S l k).length ≤ 9437184 := fun k hk => by have := S_len_le l k; omega
  have HSL := Lib.hid hSle
  clear ht hsz hl hn htot hSle
  go_enter Tryd.func5, Tryd.ntmps5
  go_wp2_with fail
  obtain ⟨W0, hW0⟩ : ∃ W0, W0 = w.alloc (Obj.cells #[.slice ao n cap, .int .i64 cut] 41) := ⟨_, rfl⟩
  have hb0 : Below w.heap.size w W0 := by rw [hW0]; exact (Below.refl _ _).alloc (Nat.le_refl _) _
  have z0 : W0.heap.size = w.heap.size + 1 := by rw [hW0]; simp
  have c0 : W0.cell? ⟨w.heap.size, 0, none⟩ = some (.slice ao n cap) := by rw [hW0]; simp
  have c1 : W0.cell? ⟨w.heap.size, 1, none⟩ = some (.int .i64 cut) := by rw [hW0]; simp
  rw [← hW0]
  have HT0 : Hid (Tab W0) := H.out.below hb0 HL
  have HS0 : Hid (StrsAt W0 ao l) := HSA.out.below hb0 (Nat.le_refl _)
  have Z0 := Lib.hid z0
  obtain ⟨B, hB⟩ : ∃ B, B = W0.heap.size := ⟨_, rfl⟩
  have HB := Lib.hid hB
  have HCC := Lib.hid (show W0.cell? ⟨w.heap.size, 0, none⟩ = some (.slice ao n cap) ∧ W0.cell? ⟨w.heap.size, 1, none⟩ = some (.int .i64 cut) from ⟨c0, c1⟩)
  clear hW0 z0 hB c0 c1
  go_loopw [3, 4, 5] (fun x y z wr => ∃ (k : Nat) (v : Value), k ≤ n ∧ z = .int .i64 k ∧ x = .string (strL (S l k)) ∧ y = v ∧ wr.ownsRow B 3 1 v k (ends l k) ∧ Below B W0 wr)
    (fun _ _ z _ => n - (intOf z).toNat)
  case atStart => exact ⟨0, .slice none 0 0, Nat.zero_le _, rfl, by rw [S_zero]; rfl, rfl, World.ownsRow_nil _ _ _ _, Below.refl _ _⟩
  case round =>
    obtain ⟨k, v, hk, rfl, rfl, rfl, hown, hb⟩ := hrel
    have d0 : wr.cell? ⟨w.heap.size, 0, none⟩ = some (.slice ao n cap) := (hb.cell (p := ⟨w.heap.size, 0, none⟩) (by have := Z0.out; have := HB.out; show w.heap.size < B; omega)).trans HCC.out.1
    have d1 : wr.cell? ⟨w.heap.size, 1, none⟩ = some (.int .i64 cut) := (hb.cell (p := ⟨w.heap.size, 1, none⟩) (by have := Z0.out; have := HB.out; show w.heap.size < B; omega)).trans HCC.out.2
    have HTr : Hid (Tab wr) := HT0.out.below hb (by have := Z0.out; have := HB.out; omega)
    have HSr : Hid (StrsAt wr ao l) := HS0.out.below hb (by have := HB.out; omega)
    by_cases hlt : k < n
    · have hkl : k < l.length := by have := HN.out; omega
      obtain ⟨b, off, rfl, hcell⟩ := HSr.out.at k hkl
      obtain ⟨p, hp⟩ : ∃ p, p = l[k] := ⟨_, rfl⟩
      have hck : wr.cell? ⟨b, off + k, none⟩ = some (.string p) := by rw [hp]; exact hcell k hkl
      have hps : p.size ≤ 1048576 := by rw [hp]; exact HSZ.out _ (List.getElem_mem _)
      have HP := Lib.hid hp
      have HCELL := Lib.hid hcell
      have HOW := Lib.hid hown
      clear hp hcell hown
      go_wp2_with fail
      refine (Frame_ok p hps _ HTr.out).mono ?_
      rintro e w1 ⟨rfl, hb1⟩
      have HB1 : Hid (Below B W0 w1) := hb.trans (hb1.mono (by have := hb.size; have := HB.out; omega))
      have e0 : w1.cell? ⟨w.heap.size, 0, none⟩ = some (.slice (some ⟨b, off, none⟩) n cap) := (HB1.out.cell (p := ⟨w.heap.size, 0, none⟩) (by have := Z0.out; have := HB.out; show w.heap.size < B; omega)).trans HCC.out.1
      have e1 : w1.cell? ⟨b, off + k, none⟩ = some (.string p) := (hb1.cell (p := ⟨b, off + k, none⟩) (World.block_lt_of_cell? wr ⟨b, off + k, none⟩ hck)).trans hck
      have hown1 := owns_below HOW.out hb1
      have hcat : strL (S l k) ++ strL (frameL p.data.toList) = strL (S l (k + 1)) := by rw [strL_append, S_succ l k hkl, HP.out]
      have q1 : (strL (S l k)).size ≤ 9437184 := by rw [strL_size]; exact HSL.out k (by omega)
      have q2 : (strL (frameL p.data.toList)).size ≤ 1048584 := by rw [frame_size]; omega
      obtain ⟨m, hm⟩ : ∃ m, m = (S l (k + 1)).length := ⟨_, rfl⟩
      have q3 : (strL (S l (k + 1))).size = m := by rw [strL_size, hm]
      have q4 : m ≤ 9437184 := by rw [hm]; exact HSL.out (k + 1) (by omega)
      have HM := Lib.hid hm
      clear d0 d1 hck hm
      go_wp2_with (at_builtin; refine wpList_append_own _ rfl _ _ 42 rfl B 3 i0 (.int .i64 0) 1 8 Tryd.underlying42 hi hz0 hz1 hz2 rfl (by decide) _ _ _ rfl (hown1.alloc _) ⟨w1.heap.size, 0, none⟩ 1 1 [.int .i64 m] rfl rfl ?c1 ?c2 ?c3 ?c4 ?c5 ?_)
      case c1 =>
        intro j u hj
        match j, hj with
        | 0, hj => simp at hj; subst hj; simp [Addr.add]
      case c2 => intro u hu; simp at hu; subst hu; rfl
      case c3 => unfold maxLen; omega
      case c4 => omega
      case c5 => have := HB1.out.size; have := HB.out; simp; omega
      intro v' w2 hown2 hg2 _
      have HB2 : Hid (Below B W0 w2) := (HB1.out.alloc (by have := HB1.out.size; have := HB.out; omega) _).grown hg2 (by have := HB1.out.size; have := HB.out; simp; omega) (fun g hg => (hown1.lt g hg).1)
      clear hown1 hg2 e0 e1 hcat
      go_wp2
      go_roundw
      case rel => exact ⟨k + 1, v', by omega, by go_num, rfl, rfl, by rw [ends_succ, ← HM.out]; exact hown2, HB2.out⟩
      case measure => simp [intOf]; omega
    · obtain rfl : k = n := by omega
      obtain ⟨M, hM⟩ : ∃ M, M = (S l k).length := ⟨_, rfl⟩
      have hMs : (strL (S l k)).size = M := by rw [strL_size, hM]
      have hMl : M ≤ 9437184 := by rw [hM]; exact HSL.out k (by omega)
      have ht1 := Int.tmod_lt_of_pos cut (show 0 < (M : Int) + 1 by omega)
      have ht2 := Int.lt_tmod_of_pos cut (show 0 < (M : Int) + 1 by omega)
      obtain ⟨C, hC, hcase⟩ : ∃ C : Nat, C ≤ M ∧ ((cut.tmod ((M : Int) + 1) < 0 ∧ cut.tmod ((M : Int) + 1) + ((M : Int) + 1) = (C : Int)) ∨ cut.tmod ((M : Int) + 1) = (C : Int)) := by
        by_cases hneg : cut.tmod ((M : Int) + 1) < 0
        · exact ⟨(cut.tmod ((M : Int) + 1) + ((M : Int) + 1)).toNat, by omega, Or.inl ⟨hneg, by omega⟩⟩
        · exact ⟨(cut.tmod ((M : Int) + 1)).toNat, by omega, Or.inr (by omega)⟩
      have HM := Lib.hid hM
      have HOW := Lib.hid hown
      clear hM hown
      rcases hcase with ⟨hneg, hC1⟩ | hC1
      all_goals
        have hbo := hb
        have HBO := Lib.hid hbo
        clear hb hbo
        go_wp2
        obtain ⟨wo, hwo⟩ : ∃ wo : World, wo = wr := ⟨_, rfl⟩
        rw [← hwo] at HOW HBO d0 d1 HTr HSr ⊢
        clear hwo
        go_loopw [9, 10, 11] (fun x y z wr => ∃ (j : Nat) (t : ByteArray), j ≤ k ∧ z = .int .i64 j ∧ y = .int .i64 j ∧ x = .string t ∧ Hid (t.data.toList = T l C j) ∧ Hid ((S l j).length ≤ C) ∧ wr.ownsRow B 3 1 u4 k (ends l k) ∧ Below B W0 wr)
          (fun _ _ z _ => k - (intOf z).toNat)
        case atStart =>
          refine ⟨0, (strL (S l k)).extract 0 C, Nat.zero_le _, rfl, rfl, rfl, ?_, ?_, HOW.out, HBO.out⟩
          · show ((strL (S l k)).extract 0 C).data.toList = T l C 0
            rw [extract_list, strL_data, T_zero, ← HN.out]; rfl
          · show (S l 0).length ≤ C
            rw [S_zero]; exact Nat.zero_le _
        case round =>
          obtain ⟨j, t, hj, rfl, rfl, rfl, hT, hP, hown, hb⟩ := hrel
          have f0 : wr.cell? ⟨w.heap.size, 0, none⟩ = some (.slice ao k cap) := (hb.cell (p := ⟨w.heap.size, 0, none⟩) (by have := Z0.out; have := HB.out; show w.heap.size < B; omega)).trans HCC.out.1
          have HTw : Hid (Tab wr) := HT0.out.below hb (by have := Z0.out; have := HB.out; omega)
          have HSw : Hid (StrsAt wr ao l) := HS0.out.below hb (by have := HB.out; omega)
          have htl : t.size ≤ maxLen := by
            have h1 : t.data.toList.length = t.size := by simp
            rw [hT.out] at h1
            have := T_len l C j
            have := HSL.out k (Nat.le_refl _)
            rw [← HN.out] at *
            unfold maxLen
            omega
          have HTL := Lib.hid htl
          clear htl d0 d1
          by_cases hlt : j < k
          · have hjl : j < l.length := by have := HN.out; omega
            obtain ⟨b, off, rfl, hcell⟩ := HSw.out.at j hjl
            obtain ⟨p, hp⟩ : ∃ p, p = l[j] := ⟨_, rfl⟩
            have hcj : wr.cell? ⟨b, off + j, none⟩ = some (.string p) := by rw [hp]; exact hcell j hjl
            have hps : p.size ≤ 1048576 := by rw [hp]; exact HSZ.out _ (List.getElem_mem _)
            obtain ⟨g, cp, rfl⟩ : ∃ g cp, u4 = .slice (some ⟨g, 0, none⟩) k cp := by
              rcases hown.2 with ⟨_, h⟩ | ⟨g, cp, cur, h, _⟩
              · omega
              · exact ⟨g, cp, h⟩
            obtain ⟨E, hE⟩ : ∃ E, E = (S l (j + 1)).length := ⟨_, rfl⟩
            have hce : wr.cell? ⟨g, j, none⟩ = some (.int .i64 E) := by
              rw [hown.cellAt j (by omega), hE]
              simp [ends, hlt]
            have hEl : E ≤ 9437184 := by rw [hE]; exact HSL.out (j + 1) (by omega)
            have HPP := Lib.hid hp
            have HE := Lib.hid hE
            have HOWr := Lib.hid hown
            clear hp hcell hE hown
            by_cases hEC : C < E
            · have hu : Hid (Calls Tryd.prog 12 #[.string t] wr fun e w' => e = .returned (.tuple #[.string ⟨#[]⟩, .string ⟨#[]⟩, .int .i64 30]) ∧ ∃ n, w' = wr.drewN n) := by
                have h := Unframe_any t HTL.out wr HTw.out
                rw [hT.out, unf_cut l C j hjl (by rw [← HPP.out]; exact hps) (by rw [← HE.out]; exact hEC) hP.out] at h
                exact h
              go_wp2_with (go_at_call 12; refine hu.out.mono ?_; rintro e w1 ⟨rfl, m1, rfl⟩)
              go_ret
              exact ⟨rfl, below_drewN (hb0.trans (hb.mono (by have := Z0.out; have := HB.out; omega))) _⟩
            · have hu : Hid (Calls Tryd.prog 12 #[.string t] wr fun e w' => e = .returned (.tuple #[.string p, .string (strL (T l C (j + 1))), .int .i64 0]) ∧ ∃ n, w' = wr.drewN n) := by
                have h := Unframe_any t HTL.out wr HTw.out
                rw [hT.out, unf_frame l C j hjl (by rw [← HPP.out]; exact hps) (by rw [← HE.out]; omega), ← HPP.out] at h
                show Calls _ _ _ _ _
                simp only [strL_of] at h
                exact h
              have hEC' : E ≤ C := by omega
              have hext : (strL (S l k)).extract E C = strL (T l C (j + 1)) := by
                apply ByteArray.ext; apply Array.ext'
                have hr := T_rest l C (j + 1)
                rw [← HN.out] at hr
                rw [extract_list, strL_data, HE.out, hr]; rfl
              go_wp2_with (go_at_call 12; refine hu.out.mono ?_; rintro e w1 ⟨rfl, m1, rfl⟩)
              go_roundw
              case rel => exact ⟨j + 1, strL (T l C (j + 1)), by omega, by go_num, by go_num, rfl, strL_data _, (by show (S l (j + 1)).length ≤ C; rw [← HE.out]; exact hEC'), HOWr.out, below_drewN hb _⟩
              case measure => simp [intOf]; omega
          · obtain rfl : j = k := by omega
            have hu : Hid (Calls Tryd.prog 12 #[.string t] wr fun e w' => e = .returned (.tuple #[.string ⟨#[]⟩, .string ⟨#[]⟩, .int .i64 30]) ∧ ∃ n, w' = wr.drewN n) := by
              have h := Unframe_any t HTL.out wr HTw.out
              rw [hT.out, HN.out, unf_end l C (by rw [← HN.out, ← HM.out]; exact hC)] at h
              exact h
            go_wp2_with (go_at_call 12; refine hu.out.mono ?_; rintro e w1 ⟨rfl, m1, rfl⟩)
            go_ret
            exact ⟨rfl, below_drewN (hb0.trans (hb.mono (by have := Z0.out; have := HB.out; omega))) _⟩
end Go.Proofs.YtbiogajejcfkfaaDoor.Torn
