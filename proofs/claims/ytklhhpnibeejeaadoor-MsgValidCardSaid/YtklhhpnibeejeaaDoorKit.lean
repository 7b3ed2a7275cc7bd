/-
  THE KIT: what a call leaves of a world: 'Keeps S w w'': every old block but those in S is as it was. And a decoder in memory. Of no function.
-/
import Derived.Test.YtklhhpnibeejeaaDoorFrames
import Derived.Defers
import Derived.Recover
import Derived.Orders
namespace Go.Proofs.YtklhhpnibeejeaaDoor
open Go.RowKit
set_option linter.unusedVariables false

/-- Every block that was there, but for those in S, is as it was; the streams too. -/
structure Keeps (S : Nat → Prop) (w w' : World) : Prop where
  os : w'.os = w.os
  tape : w'.tape = w.tape
  output : w'.output = w.output
  size : w.heap.size ≤ w'.heap.size
  block : ∀ k, k < w.heap.size → ¬ S k → w'.heap[k]? = w.heap[k]?

theorem Keeps.refl (S : Nat → Prop) (w : World) : Keeps S w w := ⟨rfl, rfl, rfl, Nat.le_refl _, fun _ _ _ => rfl⟩
theorem Keeps.trans {S : Nat → Prop} {a b c : World} (h : Keeps S a b) (k : Keeps S b c) : Keeps S a c :=
  ⟨k.os.trans h.os, k.tape.trans h.tape, k.output.trans h.output, Nat.le_trans h.size k.size, fun i hi hs => (k.block i (Nat.lt_of_lt_of_le hi h.size) hs).trans (h.block i hi hs)⟩
theorem Keeps.mono {S S' : Nat → Prop} {a b : World} (h : Keeps S a b) (hs : ∀ k, k < a.heap.size → S k → S' k) : Keeps S' a b :=
  ⟨h.os, h.tape, h.output, h.size, fun k hk hn => h.block k hk fun s => hn (hs k hk s)⟩
theorem Keeps.of_below {S : Nat → Prop} {a b : World} (h : Below a.heap.size a b) : Keeps S a b := ⟨h.os, h.tape, h.output, h.size, fun k hk _ => h.block k hk⟩
theorem Keeps.below {S : Nat → Prop} {a b : World} {B : Nat} (h : Keeps S a b) (hB : B ≤ a.heap.size) (hs : ∀ k, k < B → ¬ S k) : Below B a b :=
  ⟨h.os, h.tape, h.output, h.size, fun k hk => h.block k (by omega) (hs k hk)⟩
theorem Keeps.alloc {S : Nat → Prop} {a b : World} (h : Keeps S a b) (o : Obj) : Keeps S a (b.alloc o) :=
  h.trans (.of_below ((Below.refl _ _).alloc (Nat.le_refl _) o))
theorem Keeps.drewN {S : Nat → Prop} {a b : World} (h : Keeps S a b) (n : Nat) : Keeps S a (b.drewN n) := ⟨h.os, h.tape, h.output, h.size, h.block⟩
theorem Keeps.drew {S : Nat → Prop} {a b : World} (h : Keeps S a b) : Keeps S a b.drew := ⟨h.os, h.tape, h.output, h.size, h.block⟩
/-- A store into a block of S, or into one that is new. -/
theorem Keeps.setCell {S : Nat → Prop} {a b : World} (h : Keeps S a b) {p : Addr} (hp : S p.block ∨ a.heap.size ≤ p.block) (u : Value) : Keeps S a (b.setCell p u) := by
  refine ⟨h.os, h.tape, h.output, by simpa [World.setCell] using h.size, fun k hk hn => ?_⟩
  have hne : k ≠ p.block := by
    intro e
    subst e
    rcases hp with hp | hp
    · exact hn hp
    · omega
  rw [Below.heap_setCell _ _ _ _ hne]
  exact h.block k hk hn
theorem Keeps.cell {S : Nat → Prop} {a b : World} (h : Keeps S a b) {p : Addr} {v : Value} (hc : a.cell? p = some v) (hs : ¬ S p.block) : b.cell? p = some v :=
  (World.cell?_of_block (h.block p.block (World.block_lt_of_cell? _ _ hc) hs)).trans hc
theorem Keeps.frozen {S : Nat → Prop} {a b : World} (h : Keeps S a b) {p : Addr} (hp : p.block < a.heap.size) (hs : ¬ S p.block) : b.frozen? p = a.frozen? p :=
  World.frozen?_of_block (h.block p.block hp hs)

/-- The blocks that are the one block b. -/
def one (b : Nat) : Nat → Prop := fun k => k = b

def two (a b : Nat) : Nat → Prop := fun k => k = a ∨ k = b
theorem Keeps.set_one {a w : World} {b : Nat} {i : Nat} (h : Keeps (one b) a w) (u : Value) : Keeps (one b) a (w.setCell ⟨b, i, none⟩ u) := h.setCell (p := ⟨b, i, none⟩) (Or.inl (show b = b from rfl)) u
theorem Keeps.set_two {a w : World} {b c : Nat} {i : Nat} (h : Keeps (one b) a w) (u : Value) : Keeps (two b c) a (w.setCell ⟨c, i, none⟩ u) :=
  (h.mono (S' := two b c) (fun _ _ e => Or.inl e)).setCell (p := ⟨c, i, none⟩) (Or.inl (show c = b ∨ c = c from Or.inr rfl)) u

/-- A whole block of two cells. -/
def TwoAt (T : TypeId) (w : World) (b : Nat) (x y : Value) : Prop := w.heap[b]? = some (.cells #[x, y] T (0, 0))
theorem TwoAt.lt {T : TypeId} {w : World} {b : Nat} {x y : Value} (h : TwoAt T w b x y) : b < w.heap.size := (Array.getElem?_eq_some_iff.1 h).1
theorem TwoAt.cell0 {T : TypeId} {w : World} {b : Nat} {x y : Value} (h : TwoAt T w b x y) : w.cell? ⟨b, 0, none⟩ = some x := by
  unfold TwoAt at h; simp [World.cell?, h]
theorem TwoAt.cell1 {T : TypeId} {w : World} {b : Nat} {x y : Value} (h : TwoAt T w b x y) : w.cell? ⟨b, 1, none⟩ = some y := by
  unfold TwoAt at h; simp [World.cell?, h]
theorem TwoAt.frozen {T : TypeId} {w : World} {b : Nat} {x y : Value} (h : TwoAt T w b x y) (i : Nat) : w.frozen? ⟨b, i, none⟩ = false := by
  unfold TwoAt at h; simp [World.frozen?, h]
theorem setCell_at (w : World) (b i : Nat) (u : Value) (cs : Array Value) (T : TypeId) (fr : Nat × Nat) (h : w.heap[b]? = some (.cells cs T fr)) :
    (w.setCell ⟨b, i, none⟩ u).heap[b]? = some (.cells (cs.setIfInBounds i u) T fr) := by
  simp only [World.setCell, Array.getElem?_modify, if_true]
  rw [h]
  simp
theorem TwoAt.set0 {T : TypeId} {w : World} {b : Nat} {x y : Value} (h : TwoAt T w b x y) (u : Value) : TwoAt T (w.setCell ⟨b, 0, none⟩ u) b u y := by
  unfold TwoAt; rw [setCell_at w b 0 u _ T _ h]; rfl
theorem TwoAt.set1 {T : TypeId} {w : World} {b : Nat} {x y : Value} (h : TwoAt T w b x y) (u : Value) : TwoAt T (w.setCell ⟨b, 1, none⟩ u) b x u := by
  unfold TwoAt; rw [setCell_at w b 1 u _ T _ h]; rfl
theorem TwoAt.keeps {T : TypeId} {S : Nat → Prop} {w w' : World} {b : Nat} {x y : Value} (h : TwoAt T w b x y) (hk : Keeps S w w') (hs : ¬ S b) : TwoAt T w' b x y := by
  unfold TwoAt; rw [hk.block b h.lt hs]; exact h
theorem TwoAt.drewN {T : TypeId} {w : World} {b : Nat} {x y : Value} (h : TwoAt T w b x y) (n : Nat) : TwoAt T (w.drewN n) b x y := h
theorem TwoAt.new (T : TypeId) (w : World) (x y : Value) : TwoAt T (w.alloc (.cells #[x, y] T)) w.heap.size x y := heap_alloc_new w _
end Go.Proofs.YtklhhpnibeejeaaDoor
