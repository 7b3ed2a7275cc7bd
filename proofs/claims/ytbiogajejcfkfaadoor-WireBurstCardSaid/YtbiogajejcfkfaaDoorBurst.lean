/-
  WireBurst, the walks: the payload with bits turned; the law. Conditions: the table as the program lays it.
-/
import Derived.Test.YtbiogajejcfkfaaDoorFramesLaw
import Derived.Test.YtbiogajejcfkfaaDoorBits
import Derived.Deep.LoopGhost
namespace Go.Proofs.YtbiogajejcfkfaaDoor.Burst
open Go.RowKit
set_option linter.unusedVariables false

/-- What 'turned' hands back: a text q and whether any bit was turned. -/
def Turned (p : ByteArray) (w : World) (e : Ending) (w' : World) : Prop :=
  ∃ (q : List UInt8) (any : Bool), e = .returned (.tuple #[.string (strL q), .bool any]) ∧ Below w.heap.size w w' ∧
    (any = true → ∃ a m, a ≤ 8 * p.size ∧ m ≠ 0 ∧ Crc.Turn p.data.toList q a 32 m)

theorem row_set {wr : World} {g : Nat} {q : List UInt8} {J : Nat} {y : UInt8} (hJ : J < q.length) (hR : ∀ j, (hj : j < q.length) → wr.cell? ⟨g, j, none⟩ = some (.int .u8 q[j].toNat)) (v : Value) (hv : v = .int .u8 y.toNat) :
    ∀ j, (hj : j < (q.set J y).length) → (wr.setCell ⟨g, J, none⟩ v).cell? ⟨g, j, none⟩ = some (.int .u8 (q.set J y)[j].toNat) := by
  intro j hj
  by_cases e : j = J
  · subst e
    rw [World.cell?_setCell_same _ _ _ (hR j hJ), hv]
    simp
  · have hne : (⟨g, J, none⟩ : Addr) ≠ ⟨g, j, none⟩ := by simp
    rw [World.cell?_setCell_other _ _ _ _ hne, hR j (by simpa using hj), List.getElem_set_ne (by omega)]

theorem below_bytes (w : World) (e : TypeId) (s : ByteArray) : Below w.heap.size w (Lib.bytesWorld w e s) :=
  ⟨rfl, rfl, rfl, by rw [Lib.bytesWorld_size]; omega, fun k hk => Lib.bytesWorld_at_old w e s k hk⟩

set_option maxRecDepth 100000 in
theorem turned_none (at_ : Int) (m : Nat) (w : World) :
    Calls Tryd.prog 13 #[.agg #[.string ⟨#[]⟩, .int .i64 at_, .int .u32 m]] w (Turned ⟨#[]⟩ w) := by
  have hcv := fun W : World => Lib.run_convert_string_bytes (P := Tryd.prog) W 9 26 5 ⟨#[]⟩ Tryd.underlying9 Tryd.underlying26 Tryd.underlying5
  go_enter Tryd.func13, Tryd.ntmps13
  go_wp2
  go_ret2
  exact ⟨[], false, rfl, ((Below.refl _ _).alloc (Nat.le_refl _) _).trans ((below_bytes _ _ _).mono (by simp)), fun h => by cases h⟩

set_option maxRecDepth 100000 in
theorem bytes_made (p : ByteArray) (at_ : Int) (m : Nat) (w : World) :
    ∃ W1 C, (convert 9 26 (.string p)).run Tryd.prog (w.alloc (Obj.cells #[.string p, .int .i64 at_, .int .u32 m] 29)) = .ok (.slice (some ⟨w.heap.size + 1, 0, none⟩) p.size C) W1 ∧
      Below w.heap.size w W1 ∧ W1.cell? ⟨w.heap.size, 1, none⟩ = some (.int .i64 at_) ∧ W1.cell? ⟨w.heap.size, 2, none⟩ = some (.int .u32 m) ∧
      (∀ j, (hj : j < p.data.toList.length) → W1.cell? ⟨w.heap.size + 1, j, none⟩ = some (.int .u8 p.data.toList[j].toNat)) ∧ (∀ j, j < p.size → W1.frozen? ⟨w.heap.size + 1, j, none⟩ = false) := by
  have hrun := Lib.run_convert_string_bytes (P := Tryd.prog) (w.alloc (Obj.cells #[.string p, .int .i64 at_, .int .u32 m] 29)) 9 26 5 p Tryd.underlying9 Tryd.underlying26 Tryd.underlying5
  rw [World.size_alloc] at hrun
  refine ⟨_, _, hrun, ((Below.refl _ _).alloc (Nat.le_refl _) _).trans ((below_bytes _ _ _).mono (by simp)), ?_, ?_, ?_, ?_⟩
  · rw [Lib.bytesWorld_old _ _ _ _ (by simp)]; simp
  · rw [Lib.bytesWorld_old _ _ _ _ (by simp)]; simp
  · intro j hj
    have := Lib.bytesWorld_cell (w.alloc (Obj.cells #[.string p, .int .i64 at_, .int .u32 m] 29)) 5 p j (by simpa using hj)
    rw [List.getD_eq_getElem?_getD, List.getElem?_eq_getElem hj, World.size_alloc] at this
    exact this
  · intro j hj
    have := Lib.bytesWorld_at_new (w.alloc (Obj.cells #[.string p, .int .i64 at_, .int .u32 m] 29)) 5 p
    rw [World.size_alloc] at this
    unfold World.frozen?
    rw [this]
    simp [Lib.bytesCells]
    omega

set_option maxRecDepth 100000 in
theorem turned_some (p : ByteArray) (h0 : 0 < p.size) (hp : p.size ≤ 1048576) (at_ : Int) (m : Nat) (hm : m < 2 ^ 32) (w : World) :
    Calls Tryd.prog 13 #[.agg #[.string p, .int .i64 at_, .int .u32 m]] w (Turned p w) := by
  obtain ⟨W1, C, hcv, hb1, c1, c2, hrow, hfz⟩ := bytes_made p at_ m w
  have HR := Lib.hid hrow
  have HF := Lib.hid hfz
  clear hrow hfz
  have e0 : ((p.size : Int) == 0) = false := by rw [beq_eq_false_iff_ne]; omega
  have ht1 := Int.tmod_lt_of_pos at_ (show 0 < 8 * (p.size : Int) by omega)
  have ht2 : -(8 * (p.size : Int)) < at_.tmod (8 * (p.size : Int)) := by
    have := Int.lt_tmod_of_pos at_ (show 0 < 8 * (p.size : Int) by omega)
    omega
  obtain ⟨A, hA, hcase⟩ : ∃ A : Nat, A < 8 * p.size ∧ ((at_.tmod (8 * (p.size : Int)) < 0 ∧ at_.tmod (8 * (p.size : Int)) + 8 * (p.size : Int) = (A : Int)) ∨ at_.tmod (8 * (p.size : Int)) = (A : Int)) := by
    by_cases hneg : at_.tmod (8 * (p.size : Int)) < 0
    · exact ⟨(at_.tmod (8 * (p.size : Int)) + 8 * (p.size : Int)).toNat, by omega, Or.inl ⟨hneg, by omega⟩⟩
    · exact ⟨(at_.tmod (8 * (p.size : Int))).toNat, by omega, Or.inr (by omega)⟩
  rcases hcase with ⟨hneg, hA1⟩ | hA1
  all_goals
    go_enter Tryd.func13, Tryd.ntmps13
    go_wp2
    go_loopw [6, 7] (fun x y wr => ∃ (i : Nat) (q : List UInt8) (mm : Nat) (any : Bool), i ≤ 32 ∧ y = .int .i64 i ∧ x = .bool any ∧ Hid (any = decide (mm ≠ 0)) ∧ Hid (Crc.Turn p.data.toList q A i mm) ∧
        Hid (∀ j, (hj : j < q.length) → wr.cell? ⟨w.heap.size + 1, j, none⟩ = some (.int .u8 q[j].toNat)) ∧ Hid (∀ j, j < p.size → wr.frozen? ⟨w.heap.size + 1, j, none⟩ = false) ∧ Below w.heap.size w wr ∧ wr.cell? ⟨w.heap.size, 2, none⟩ = some (.int .u32 m))
      (fun _ y _ => 32 - (intOf y).toNat)
    case atStart => exact ⟨0, p.data.toList, 0, false, by omega, rfl, rfl, rfl, Crc.turn_zero _ _, HR.out, HF.out, hb1, c2⟩
    case round =>
      obtain ⟨i, q, mm, any, hi, rfl, rfl, hany, hT, hR, hF, hb, hc⟩ := hrel
      by_cases hi2 : i < 32 ∧ A + i < 8 * p.size
      · obtain ⟨hi3, hi4⟩ := hi2
        have hql : q.length = p.size := by rw [hT.out.1]; simp
        obtain ⟨J, hJ⟩ : ∃ J, J = (A + i) / 8 := ⟨_, rfl⟩
        have hJl : J < q.length := by omega
        obtain ⟨b, hbq⟩ : ∃ b, b = q[J] := ⟨_, rfl⟩
        have cJ : wr.cell? ⟨w.heap.size + 1, (A + i) / 8, none⟩ = some (.int .u8 b.toNat) := by rw [← hJ, hbq]; exact hR.out J hJl
        have fJ : wr.frozen? ⟨w.heap.size + 1, (A + i) / 8, none⟩ = false := hF.out _ (by omega)
        have hbit : (bits .and .u32 ((m : Int) / 2 ^ i) 1 == 1) = true ∨ (bits .and .u32 ((m : Int) / 2 ^ i) 1 == 1) = false := by
          cases (bits .and .u32 ((m : Int) / 2 ^ i) 1 == 1) <;> simp
        have HBQ := Lib.hid hbq
        have HJ := Lib.hid hJ
        clear hbq hJ
        rcases hbit with hbit | hbit
        · obtain ⟨x, hx⟩ : ∃ x : UInt8, x = UInt8.ofNat (2 ^ ((A + i) % 8)) := ⟨_, rfl⟩
          have hr8 : (A + i) % 8 < 8 := Nat.mod_lt _ (by decide)
          have hpow : 2 ^ ((A + i) % 8) < 256 := by
            have := Nat.pow_le_pow_right (show 0 < 2 by decide) (show (A + i) % 8 ≤ 7 by omega)
            omega
          have hxn : x.toNat = 2 ^ ((A + i) % 8) := by rw [hx, u8_ofNat _ hpow]
          have hxor : bits .xor .u8 (b.toNat : Int) (2 ^ ((A + i) % 8) % 256) = ((b ^^^ x).toNat : Int) := by
            have e1 : ((2 : Int) ^ ((A + i) % 8)) = ((2 ^ ((A + i) % 8) : Nat) : Int) := by simp
            rw [e1, UInt8.toNat_xor, ← u8_xor_nat b.toNat x.toNat b.toNat_lt x.toNat_lt, hxn]
            congr 1
            omega
          have HX := Lib.hid hxn
          clear hx hxn hpow hr8
          go_wp2
          go_roundw
          case rel =>
            have HJ' := HJ.out
            have HB' := HBQ.out
            refine ⟨i + 1, q.set J (q[J] ^^^ x), mm + 2 ^ i, true, by omega, by go_num, rfl, ?_, Crc.turn_bit hT.out x J hJl HX.out HJ', ?_, ?_, hb.setCell (by show w.heap.size ≤ w.heap.size + 1; omega) _, ?_⟩
            · show true = decide (mm + 2 ^ i ≠ 0)
              simp
            · rw [← HJ', ← HB']
              exact row_set hJl hR.out _ (by rw [UInt8.toNat_xor])
            · intro j hj
              rw [World.frozen?_setCell]; exact hF.out j hj
            · rw [World.cell?_setCell_other _ _ _ _ (by simp)]; exact hc
          case measure => simp [intOf]; omega
        · go_wp2
          go_roundw
          case rel => exact ⟨i + 1, q, mm, any, by omega, by go_num, rfl, hany, Crc.turn_keep hT.out, hR, hF, hb, hc⟩
          case measure => simp [intOf]; omega
      · have hql : q.length = p.size := by rw [hT.out.1]; simp
        have hconv : (convert 26 9 (.slice (some ⟨w.heap.size + 1, 0, none⟩) p.size C)).run Tryd.prog wr = .ok (.string (strL q)) wr := by
          have := run_convert_bytes_back (P := Tryd.prog) wr 26 9 5 ⟨w.heap.size + 1, 0, none⟩ C q Tryd.underlying26 Tryd.underlying5 Tryd.underlying9 (by
            intro j hj
            have e : (⟨w.heap.size + 1, 0, none⟩ : Addr).add j = ⟨w.heap.size + 1, j, none⟩ := by unfold Addr.add; split <;> simp_all
            rw [e]; exact hR.out j hj)
          rw [hql] at this
          exact this
        have fin : ∀ e, e = Ending.returned (.tuple #[.string (strL q), .bool any]) → Turned p w e wr := by
          intro e he
          refine ⟨q, any, he, hb, fun h => ⟨A, mm, by omega, ?_, Crc.turn_le hT.out hi⟩⟩
          rw [hany.out] at h
          simpa using h
        have HFIN := Lib.hid fin
        clear fin
        by_cases hi3 : i < 32
        · have hi4 : 8 * p.size ≤ A + i := by omega
          go_wp2
          go_ret2
          exact HFIN.out _ rfl
        · go_wp2
          go_ret2
          exact HFIN.out _ rfl

theorem turned_any (p : ByteArray) (hp : p.size ≤ 1048576) (at_ : Int) (m : Nat) (hm : m < 2 ^ 32) (w : World) :
    Calls Tryd.prog 13 #[.agg #[.string p, .int .i64 at_, .int .u32 m]] w (Turned p w) := by
  by_cases h0 : 0 < p.size
  · exact turned_some p h0 hp at_ m hm w
  · have e : p = ⟨#[]⟩ := by
      apply ByteArray.ext
      apply Array.eq_empty_of_size_eq_zero
      have : p.data.size = p.size := rfl
      omega
    rw [e]
    exact turned_none at_ m w
end Go.Proofs.YtbiogajejcfkfaaDoor.Burst
