/-
  WireSums, the walk: for every three texts the law returns true. Conditions: the table as the program lays it; the texts within the form's reach.
-/
import Derived.Test.YtbiogajejcfkfaaDoorFrames
import Derived.BigRegion
import Derived.StillTailTactics
namespace Go.Proofs.YtbiogajejcfkfaaDoor
open Go.RowKit

theorem Crc_any (a : ByteArray) (ha : a.size ≤ maxLen) (w : World) (ht : Tab w) :
    Calls Tryd.prog 10 #[.string a] w fun e w' => e = .returned (.int .u32 (Crc.crc a.data.toList)) ∧ w = w' := by
  have H := Lib.hid ht
  clear ht
  go_enter Tryd.func10, Tryd.ntmps10
  go_wp2_with (go_at_call 29; refine (gather_any _ (by assumption) _ _ (by first | decide | exact Crc.gath_lt _ _ (by decide)) H.out).mono ?_; rintro e w' ⟨rfl, rfl⟩)
  all_goals go_ret
  exact ⟨ret_int (by rw [flip_bits _ (Crc.gath_lt _ _ (by decide))]; rfl), rfl⟩
namespace Sums

theorem crc_none (w : World) (ht : Tab w) : Calls Tryd.prog 10 #[.string ⟨#[]⟩] w fun e w' => e = .returned (.int .u32 0) ∧ w = w' :=
  Crc_any ⟨#[]⟩ (by decide) w ht
theorem crc_told (w : World) (ht : Tab w) : Calls Tryd.prog 10 #[.string ⟨#[49, 50, 51, 52, 53, 54, 55, 56, 57]⟩] w fun e w' => e = .returned (.int .u32 3421780262) ∧ w = w' := by
  have h := Crc_any ⟨#[49, 50, 51, 52, 53, 54, 55, 56, 57]⟩ (by decide) w ht
  have e : (⟨#[49, 50, 51, 52, 53, 54, 55, 56, 57]⟩ : ByteArray).data.toList = [49, 50, 51, 52, 53, 54, 55, 56, 57] := rfl
  rw [e, Crc.crc_nine] at h
  exact h
theorem getD_at (l : List UInt8) (j : Nat) (h : j < l.length) : l.getD j 0 = l[j] := by rw [List.getD_eq_getElem?_getD, List.getElem?_eq_getElem h]; rfl
theorem xorL3_get (a b c : List UInt8) (k j : Nat) (h : j < (Crc.xorL (a.take k) (Crc.xorL (b.take k) (c.take k))).length) :
    (Crc.xorL (a.take k) (Crc.xorL (b.take k) (c.take k)))[j] = a.getD j 0 ^^^ (b.getD j 0 ^^^ c.getD j 0) := by
  have h' := h
  simp [Crc.xorL] at h'
  rw [getD_at a j (by omega), getD_at b j (by omega), getD_at c j (by omega)]
  simp [Crc.xorL]
theorem info_u8 : (Tryd.prog.info? 5).map (fun i => (i.zero, i.size, i.bytes)) = some (some (.int .u8 0), 1, 1) := by kernel_rfl

set_option maxRecDepth 100000 in
theorem walk (a b c : ByteArray) (ha : a.size ≤ 140737488351232) (w : World) (ht : Tab w) :
    Calls Tryd.prog 3 #[.agg #[.string a, .string b, .string c]] w fun e w' => e = .returned (.bool true) ∧ Below w.heap.size w w' := by
  have H := Lib.hid ht
  have HL := ht.lt
  clear ht
  obtain ⟨n, hn⟩ : ∃ n : Nat, n = min (min a.size b.size) c.size := ⟨_, rfl⟩
  have hna : n ≤ a.size := by omega
  have hnb : n ≤ b.size := by omega
  have hnc : n ≤ c.size := by omega
  have hm : ∀ (ts : Array TypeId) (t : TypeId) (w : World), (Builtin.min_ ts t #[.int .i64 a.size, .int .i64 b.size, .int .i64 c.size]).run Tryd.prog w = .ok (.int .i64 n) w := by
    intro ts t w
    rw [run_min_int3]
    have : (if (c.size : Int) < (if (b.size : Int) < (a.size : Int) then (b.size : Int) else (a.size : Int)) then (c.size : Int) else (if (b.size : Int) < (a.size : Int) then (b.size : Int) else (a.size : Int))) = (n : Int) := by
      rw [hn]; split <;> split <;> omega
    rw [this]
  clear hn
  go_enter Tryd.func3, Tryd.ntmps3
  go_wp2_with fail
  obtain ⟨W0, hW0⟩ : ∃ W0, W0 = w.alloc (Obj.cells #[Value.string a, Value.string b, Value.string c] 23) := ⟨_, rfl⟩
  have hb0 : Below w.heap.size w W0 := by rw [hW0]; exact (Below.refl _ _).alloc (Nat.le_refl _) _
  have z0 : W0.heap.size = w.heap.size + 1 := by rw [hW0]; simp
  have c0 : W0.cell? ⟨w.heap.size, 0, none⟩ = some (.string a) := by rw [hW0]; simp
  have c1 : W0.cell? ⟨w.heap.size, 1, none⟩ = some (.string b) := by rw [hW0]; simp
  have c2 : W0.cell? ⟨w.heap.size, 2, none⟩ = some (.string c) := by rw [hW0]; simp
  rw [← hW0]
  have HT0 : Hid (Tab W0) := H.out.below hb0 HL
  have Z0 := Lib.hid z0
  clear hW0 z0
  refine (crc_none _ HT0.out).mono ?_
  rintro e w1 ⟨rfl, rfl⟩
  obtain ⟨i0, hi, hz0, hz1, hz2⟩ := info_parts info_u8
  go_wp2_with (first | (go_at_call 10; refine (crc_told _ HT0.out).mono ?_; rintro e w1 ⟨rfl, rfl⟩) | (at_make; refine wpList_make_full _ rfl _ _ 26 rfl W0.heap.size 5 i0 (.int .u8 0) 1 Tryd.underlying26 hi hz0 hz1 .i64 .i64 n n n rfl rfl rfl rfl (by rw [hz2]; omega) (by unfold maxLen; omega) (Nat.le_refl _) ?_; intro W1 hown hg1))
  have hb1 : Below W0.heap.size W0 W1 := (Below.refl _ _).grown hg1 (Nat.le_refl _) (by intro k hk; cases hk)
  clear hg1
  obtain ⟨G, hG⟩ : ∃ G, G = W0.heap.size := ⟨_, rfl⟩
  rw [← hG] at hown hb1 ⊢
  have HG := Lib.hid hG
  clear hG hi
  go_wp2_with fail
  go_loopw [5] (fun i wr => ∃ k : Nat, ∃ xs : List Value, k ≤ n ∧ i = .int .i64 k ∧ wr.ownsRow G 5 1 (.slice (some ⟨G, 0, none⟩) n n) n xs ∧ Hid (∀ j, j < k → xs[j]? = some (.int .u8 (((a.data.toList.getD j 0 ^^^ (b.data.toList.getD j 0 ^^^ c.data.toList.getD j 0)).toNat : Nat) : Int))) ∧ Below G W0 wr) (fun i _ => n - (intOf i).toNat)
  case atStart => exact ⟨0, _, Nat.zero_le _, rfl, hown, fun j hj => absurd hj (by omega), hb1⟩
  case round =>
    obtain ⟨k, xs, hk, rfl, hownk, hxs, hbk⟩ := hrel
    have d0 : wr.cell? ⟨w.heap.size, 0, none⟩ = some (.string a) := (hbk.cell (p := ⟨w.heap.size, 0, none⟩) (by have := Z0.out; have := HG.out; show w.heap.size < G; omega)).trans c0
    have d1 : wr.cell? ⟨w.heap.size, 1, none⟩ = some (.string b) := (hbk.cell (p := ⟨w.heap.size, 1, none⟩) (by have := Z0.out; have := HG.out; show w.heap.size < G; omega)).trans c1
    have d2 : wr.cell? ⟨w.heap.size, 2, none⟩ = some (.string c) := (hbk.cell (p := ⟨w.heap.size, 2, none⟩) (by have := Z0.out; have := HG.out; show w.heap.size < G; omega)).trans c2
    by_cases hlt : k < n
    · have ka : k < a.size := by omega
      have kb : k < b.size := by omega
      have kc : k < c.size := by omega
      have kz : (k : Int) < (n : Int) := by omega
      have f0 := hownk.frozenAt k
      obtain ⟨old, hold⟩ : ∃ old, wr.cell? ⟨G, k, none⟩ = some old := by
        rw [hownk.cellAt k (by omega)]
        exact ⟨_, List.getElem?_eq_getElem (by rw [hownk.1]; omega)⟩
      obtain ⟨x, hx⟩ : ∃ x, x = a[k].toNat ^^^ b[k].toNat := ⟨_, rfl⟩
      obtain ⟨y, hy⟩ : ∃ y, y = x ^^^ c[k].toNat := ⟨_, rfl⟩
      have hxl : x < 256 := by rw [hx]; exact Nat.xor_lt_two_pow (n := 8) a[k].toNat_lt b[k].toNat_lt
      have hx1 : bits .xor .u8 (a[k].toNat : Int) (b[k].toNat : Int) = (x : Int) := by rw [hx]; exact u8_xor_nat _ _ a[k].toNat_lt b[k].toNat_lt
      have hx2 : bits .xor .u8 (x : Int) (c[k].toNat : Int) = (y : Int) := by rw [hy]; exact u8_xor_nat _ _ hxl c[k].toNat_lt
      have HY : Hid ((y : Int) = (((a.data.toList.getD k 0 ^^^ (b.data.toList.getD k 0 ^^^ c.data.toList.getD k 0)).toNat : Nat) : Int)) := by
        show (y : Int) = _
        rw [UInt8.toNat_xor, UInt8.toNat_xor, ← getD_byte a k ka, ← getD_byte b k kb, ← getD_byte c k kc, ← Nat.xor_assoc, hy, hx]
      clear hx hy
      have HOW := Lib.hid hownk
      clear hownk
      go_wp2_with fail
      go_still_tail 17, (by kernel_rfl)
      change wpList _ _ _ _ _ wr.drew
      go_wp2
      have hst := HOW.out.stored k (.int .u8 (y : Int))
      refine ⟨⟨k + 1, xs.set k (.int .u8 (y : Int)), by omega, by go_num, hst.1, ?_, (hbk.grown hst.2 (by have := hbk.size; have := HG.out; omega) (by intro j hj; cases hj; exact Nat.le_refl _)).drew⟩, by simp [intOf]; omega⟩
      intro j hj
      rw [List.getElem?_set]
      by_cases e : k = j
      · subst e
        rw [if_pos rfl, if_pos (by rw [HOW.out.1]; omega), HY.out]
      · rw [if_neg e]
        exact hxs.out j (by omega)
    · obtain rfl : k = n := by omega
      obtain ⟨D, hD⟩ : ∃ D, D = Crc.xorL (a.data.toList.take k) (Crc.xorL (b.data.toList.take k) (c.data.toList.take k)) := ⟨_, rfl⟩
      have hDl : D.length = k := by rw [hD]; simp [Crc.xorL]; omega
      have hDj : ∀ j (hj : j < D.length), wr.cell? ⟨G, j, none⟩ = some (.int .u8 (D[j].toNat : Int)) := by
        intro j hj
        rw [hownk.cellAt j (by omega), hxs.out j (by omega)]
        congr 4
        subst hD
        rw [xorL3_get]
      have HT : Hid (Tab wr) := HT0.out.below hbk (by have := Z0.out; have := HG.out; omega)
      have hconv : ∀ m, (convert 26 9 (.slice (some ⟨G, 0, none⟩) k k)).run Tryd.prog (wr.drewN m) = .ok (.string (strL D)) (wr.drewN m) := by
        intro m
        have := run_convert_bytes_back (P := Tryd.prog) (wr.drewN m) 26 9 5 ⟨G, 0, none⟩ k D Tryd.underlying26 Tryd.underlying5 Tryd.underlying9 (by
          intro j hj
          have e : (⟨G, 0, none⟩ : Addr).add j = ⟨G, j, none⟩ := by unfold Addr.add; split <;> simp_all
          rw [e]; exact hDj j hj)
        rw [hDl] at this
        exact this
      have sD : (strL D).size ≤ maxLen := by rw [strL_size, hDl]; unfold maxLen; omega
      have sa : (a.extract 0 k).size ≤ maxLen := by simp; unfold maxLen; omega
      have sb : (b.extract 0 k).size ≤ maxLen := by simp; unfold maxLen; omega
      have sc : (c.extract 0 k).size ≤ maxLen := by simp; unfold maxLen; omega
      have la : (a.extract 0 k).data.toList = a.data.toList.take k := by rw [extract_list]; rfl
      have lb : (b.extract 0 k).data.toList = b.data.toList.take k := by rw [extract_list]; rfl
      have lc : (c.extract 0 k).data.toList = c.data.toList.take k := by rw [extract_list]; rfl
      obtain ⟨va, hva⟩ : ∃ va, va = Crc.crc (a.data.toList.take k) := ⟨_, rfl⟩
      obtain ⟨vb, hvb⟩ : ∃ vb, vb = Crc.crc (b.data.toList.take k) := ⟨_, rfl⟩
      obtain ⟨vc, hvc⟩ : ∃ vc, vc = Crc.crc (c.data.toList.take k) := ⟨_, rfl⟩
      obtain ⟨vd, hvd⟩ : ∃ vd, vd = Crc.crc D := ⟨_, rfl⟩
      obtain ⟨ve, hve⟩ : ∃ ve, ve = va ^^^ vb := ⟨_, rfl⟩
      have Va : Hid (∀ m, Calls Tryd.prog 10 #[.string (a.extract 0 k)] (wr.drewN m) fun e w' => e = .returned (.int .u32 va) ∧ w' = wr.drewN m) := by
        intro m; rw [hva, ← la]; exact (Crc_any _ sa _ (HT.out.drewN m)).mono fun e w' ⟨h1, h2⟩ => ⟨h1, h2.symm⟩
      have Vb : Hid (∀ m, Calls Tryd.prog 10 #[.string (b.extract 0 k)] (wr.drewN m) fun e w' => e = .returned (.int .u32 vb) ∧ w' = wr.drewN m) := by
        intro m; rw [hvb, ← lb]; exact (Crc_any _ sb _ (HT.out.drewN m)).mono fun e w' ⟨h1, h2⟩ => ⟨h1, h2.symm⟩
      have Vc : Hid (∀ m, Calls Tryd.prog 10 #[.string (c.extract 0 k)] (wr.drewN m) fun e w' => e = .returned (.int .u32 vc) ∧ w' = wr.drewN m) := by
        intro m; rw [hvc, ← lc]; exact (Crc_any _ sc _ (HT.out.drewN m)).mono fun e w' ⟨h1, h2⟩ => ⟨h1, h2.symm⟩
      have Vd : Hid (∀ m, Calls Tryd.prog 10 #[.string (strL D)] (wr.drewN m) fun e w' => e = .returned (.int .u32 vd) ∧ w' = wr.drewN m) := by
        intro m; rw [hvd]; exact (Crc_any _ sD _ (HT.out.drewN m)).mono fun e w' ⟨h1, h2⟩ => ⟨h1, h2.symm⟩
      have hx1 : bits .xor .u32 (va : Int) (vb : Int) = (ve : Int) := by
        rw [hve]; exact u32_xor_nat va vb (by rw [hva]; exact Crc.crc_lt _) (by rw [hvb]; exact Crc.crc_lt _)
      have hx2 : bits .xor .u32 (ve : Int) (vc : Int) = (vd : Int) := by
        have hel : ve < 2 ^ 32 := by rw [hve, hva, hvb]; exact Nat.xor_lt_two_pow (Crc.crc_lt _) (Crc.crc_lt _)
        have := u32_xor_nat ve vc hel (by rw [hvc]; exact Crc.crc_lt _)
        rw [this, hvd, hD, Crc.crc_affine _ _ _ (by simp; omega) (by simp; omega), hve, hva, hvb, hvc]
      have ka : (k : Int) ≤ (a.size : Int) := by omega
      have kb : (k : Int) ≤ (b.size : Int) := by omega
      have kc : (k : Int) ≤ (c.size : Int) := by omega
      clear hva hvb hvc hvd hve la lb lc sD sa sb sc hDl hDj hD hm hown hownk hlt hk
      go_wp2_with fail
      go_quiet ((first | (go_at_call 10; with_reducible exact Calls.quiet_of_same (Va.out _)) | (go_at_call 10; with_reducible exact Calls.quiet_of_same (Vb.out _)) | (go_at_call 10; with_reducible exact Calls.quiet_of_same (Vc.out _)) | (go_at_call 10; with_reducible exact Calls.quiet_of_same (Vd.out _))))
      go_wp2
      go_ret
      exact ⟨rfl, below_drewN (hb0.trans (hbk.mono (by have := Z0.out; have := HG.out; omega))) _⟩
end Sums
end Go.Proofs.YtbiogajejcfkfaaDoor
