/-
  A SLICE OF TEXTS that came in: what it reads as, and where its texts lie. Of no function.
-/
import Derived.Test.YtklhhpnibeejeaaDoorFrames
import Derived.SliceStrings
import Derived.ProofKit
import Derived.OpenShut
namespace Go.Proofs.YtklhhpnibeejeaaDoor
open Go.RowKit Go.ChangeShapes

/-- The texts l lie from the address ao on. -/
def StrsAt (w : World) (ao : Option Addr) (l : List ByteArray) : Prop :=
  ∀ i (h : i < l.length), ∃ b off, ao = some ⟨b, off, none⟩ ∧ w.cell? ⟨b, off + i, none⟩ = some (.string l[i])
theorem StrsAt.at {w : World} {ao : Option Addr} {l : List ByteArray} (h : StrsAt w ao l) (i : Nat) (hi : i < l.length) :
    ∃ b off, ao = some ⟨b, off, none⟩ ∧ ∀ j (hj : j < l.length), w.cell? ⟨b, off + j, none⟩ = some (.string l[j]) := by
  obtain ⟨b, off, e, _⟩ := h i hi
  refine ⟨b, off, e, fun j hj => ?_⟩
  obtain ⟨b', off', e', c⟩ := h j hj
  rw [e] at e'
  simp at e'
  obtain ⟨rfl, rfl⟩ := e'
  exact c
theorem StrsAt.below {w w' : World} {B : Nat} {ao : Option Addr} {l : List ByteArray} (h : StrsAt w ao l) (hb : Below B w w') (hB : w.heap.size ≤ B) : StrsAt w' ao l := by
  intro i hi
  obtain ⟨b, off, e, c⟩ := h i hi
  have hlt : b < w.heap.size := World.block_lt_of_cell? w ⟨b, off + i, none⟩ c
  exact ⟨b, off, e, (hb.cell (p := ⟨b, off + i, none⟩) (by show b < B; omega)).trans c⟩

theorem strs_open {H : Type} {enc : TypeId × Value → H} {P : Program} {w : World} {base : Nat} {held : Bool} {t e : TypeId} {fuel : Nat} {cs : List Value} {x : DataW H × List MemPlace} (ht : P.underlying t = some (.slice e)) (he : P.underlying e = some .string) (hc : P.cellsOf e = 1)
    (h : DataW.trod enc P w base (fun _ => true) held fuel t cs = some x) :
    ∃ (ao : Option Addr) (l spare : List ByteArray) (cap : Nat), cs = [.slice ao l.length cap] ∧ StrsAt w ao l ∧ (∀ s ∈ l, s.size ≤ maxLen) ∧ l.length ≤ cap ∧ cap ≤ maxLen ∧
      ((x.1 = .nil ∧ l = []) ∨ x.1 = .slice (strs l) (strs spare)) := by
  rcases open_strings ht he hc h with ⟨rfl, rfl⟩ | ⟨a, len, cap, ss, rfl, _, hl, hm, hlen, rfl, hcell, hsz⟩
  · exact ⟨none, [], [], 0, rfl, fun i hi => absurd hi (by simp), by simp, Nat.le_refl _, Nat.zero_le _, Or.inl ⟨rfl, rfl⟩⟩
  · have hlen' : ss.length = cap := by simpa using hlen
    have htl : (ss.take len).length = len := by rw [List.length_take]; omega
    refine ⟨some a, ss.take len, ss.drop len, cap, by rw [htl], ?_, fun s hs => hsz s (List.mem_of_mem_take hs), by omega, hm, Or.inr rfl⟩
    intro i hi
    rw [htl] at hi
    have h0 := hcell i (by omega)
    obtain ⟨b, off, spot⟩ := a
    have h00 := hcell 0 (by omega)
    have hspot : spot = none := by simpa [Addr.add] using World.cell?_spot h00
    subst hspot
    refine ⟨b, off, rfl, ?_⟩
    rw [Go.WideShapes.add_plain] at h0
    rw [h0, List.getElem_take, List.getD_eq_getElem?_getD, List.getElem?_eq_getElem (by omega)]
    rfl
end Go.Proofs.YtklhhpnibeejeaaDoor
