/-
  WireRest: for every payload and every rest the law returns true, and the argument reads as it read. Conditions: the row's own (the table as the program lays it; the form's reach).
-/
import Derived.Test.YtbiogajejcfkfaaDoorFramesLaw
namespace Go.Proofs.YtbiogajejcfkfaaDoor.Rest
open Go.RowKit

theorem walk_long (p r : ByteArray) (hp : 1048576 < p.size) (hs : p.size ≤ maxLen) (w : World) :
    Calls Tryd.prog 6 #[.agg #[.string p, .string r]] w fun e w' => e = .returned (.bool true) ∧ Below w.heap.size w w' := by
  have hs' := hs
  unfold maxLen at hs'
  go_enter Tryd.func6, Tryd.ntmps6
  go_wp2_with (go_at_call 11; refine (Frame_long p hp hs _).mono ?_; rintro e w1 ⟨rfl, rfl⟩)
  go_ret
  exact ⟨rfl, (Below.refl _ _).alloc (Nat.le_refl _) _⟩
theorem walk_ok (p r : ByteArray) (hp : p.size ≤ 1048576) (hr : r.size ≤ 140737488351232) (w : World) (ht : Tab w) :
    Calls Tryd.prog 6 #[.agg #[.string p, .string r]] w fun e w' => e = .returned (.bool true) ∧ Below w.heap.size w w' := by
  have H := Lib.hid ht
  have HL := ht.lt
  clear ht
  have hf := frame_size p
  go_enter Tryd.func6, Tryd.ntmps6
  go_wp2_with fail
  obtain ⟨W0, hW0⟩ : ∃ W0, W0 = w.alloc (Obj.cells #[Value.string p, Value.string r] 45) := ⟨_, rfl⟩
  have hb0 : Below w.heap.size w W0 := by rw [hW0]; exact (Below.refl _ _).alloc (Nat.le_refl _) _
  have z0 : W0.heap.size = w.heap.size + 1 := by rw [hW0]; simp
  have c0 : W0.cell? ⟨w.heap.size, 0, none⟩ = some (.string p) := by rw [hW0]; simp
  have c1 : W0.cell? ⟨w.heap.size, 1, none⟩ = some (.string r) := by rw [hW0]; simp
  rw [← hW0]
  have HT0 : Hid (Tab W0) := H.out.below hb0 HL
  clear hW0
  refine (Frame_ok p hp _ HT0.out).mono ?_
  rintro e w1 ⟨rfl, hb1⟩
  have HT1 : Hid (Tab w1) := HT0.out.below hb1 (by omega)
  have d0 : w1.cell? ⟨w.heap.size, 0, none⟩ = some (.string p) := (hb1.cell (p := ⟨w.heap.size, 0, none⟩) (by show w.heap.size < W0.heap.size; omega)).trans c0
  have d1 : w1.cell? ⟨w.heap.size, 1, none⟩ = some (.string r) := (hb1.cell (p := ⟨w.heap.size, 1, none⟩) (by show w.heap.size < W0.heap.size; omega)).trans c1
  go_wp2_with fail
  refine (Unframe_frame p r hp hr _ HT1.out).mono ?_
  rintro e w2 ⟨rfl, n2, rfl⟩
  have hz1 := hb1.size
  go_wp2
  go_ret
  exact ⟨rfl, below_drewN (hb0.trans (hb1.mono (by omega))) _⟩
end Go.Proofs.YtbiogajejcfkfaaDoor.Rest
