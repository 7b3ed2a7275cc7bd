/-
  THE ENCODER: an encoder in memory; append to it; what each Add leaves.
-/
import Derived.Test.YtbiogajejcfkfaaKit
namespace Go.Proofs.Ytbiogajejcfkfaa
open Go.RowKit
open Go.Lib
set_option linter.unusedVariables false

theorem info_u8e : (Try.prog.info? 5).map (fun i => (i.zero, i.size, i.bytes)) = some (some (.int .u8 0), 1, 1) := by kernel_rfl

def u8s (l : List UInt8) : List Value := l.map fun c => .int .u8 c.toNat
theorem u8s_len (l : List UInt8) : (u8s l).length = l.length := by simp [u8s]
theorem u8s_append (a b : List UInt8) : u8s (a ++ b) = u8s a ++ u8s b := by simp [u8s]

/-- The slice value v owns the bytes l: its row lies in the block that v names. -/
def RowAt (w : World) (v : Value) (l : List UInt8) : Prop := w.ownsRow 0 5 1 v l.length (u8s l)
theorem RowAt.nil (w : World) : RowAt w (.slice none 0 0) [] := World.ownsRow_nil _ _ _ _
theorem RowAt.keeps {S : Nat → Prop} {w w' : World} {v : Value} {l : List UInt8} (h : RowAt w v l) (hk : Keeps S w w') (hs : ∀ g, v.ownBlock = some g → ¬ S g) : RowAt w' v l := by
  refine ⟨h.1, ?_⟩
  rcases h.2 with hn | ⟨g, cap, cur, rfl, hb, hg, r⟩
  · exact Or.inl hn
  · exact Or.inr ⟨g, cap, cur, rfl, hb, by rw [hk.block g (Array.getElem?_eq_some_iff.1 hg).1 (hs g rfl)]; exact hg, r⟩
theorem RowAt.lt {w : World} {v : Value} {l : List UInt8} (h : RowAt w v l) : ∀ g, v.ownBlock = some g → g < w.heap.size := fun g hg => (World.ownsRow.lt h g hg).2
/-- The row's block holds bytes, so it is no block of another type's. -/
theorem RowAt.typed {w : World} {v : Value} {l : List UInt8} (h : RowAt w v l) {g : Nat} (hg : v.ownBlock = some g) : ∃ cur, w.heap[g]? = some (.cells cur 5 (0, 0)) := by
  rcases h.2 with ⟨rfl, _⟩ | ⟨g', cap, cur, rfl, _, hgg, _⟩
  · simp [Value.ownBlock] at hg
  · simp [Value.ownBlock] at hg; subst hg; exact ⟨cur, hgg⟩

theorem RowAt.slice {w : World} {v : Value} {l : List UInt8} (h : RowAt w v l) : ∃ a n c, v = .slice a n c := by
  rcases h.2 with ⟨rfl, _⟩ | ⟨g', cap, cur, rfl, _⟩
  · exact ⟨_, _, _, rfl⟩
  · exact ⟨_, _, _, rfl⟩

/-- What an append leaves: the row longer by the news; it lies where it lay, or in a new block. -/
def Grew (w : World) (v : Value) (l news : List UInt8) (v' : Value) (w' : World) : Prop :=
  RowAt w' v' (l ++ news) ∧ w.grownBy w' v.ownBlock ∧ (v'.ownBlock = v.ownBlock ∨ ∃ g, w.heap.size ≤ g ∧ v'.ownBlock = some g)

theorem ok_value {v v' : Value} {w w' : World} (h : (Result.ok v w : Result Value) = .ok v' w') : v = v' := by
  injection h

theorem grew_string (w : World) (v : Value) (l : List UInt8) (s : List UInt8) (ty : TypeId) (h : RowAt w v l) (hlen : l.length + s.length ≤ 140737488355328) :
    ∃ v' w', (Builtin.append_ #[23, 9] ty #[v, .string (strL s)]).run Try.prog w = .ok v' w' ∧ Grew w v l s v' w' := by
  obtain ⟨i0, hi, hz0, hz1, hz2⟩ := info_parts info_u8e
  have hs : (strL s).size = s.length := strL_size s
  have hcells : strCells (strL s) = u8s s := by
    simp [strCells, u8s, strL]
  obtain ⟨v', w', hr, h2, h3, h4⟩ := run_append_own_string (P := Try.prog) w 0 23 9 ty 5 i0 Try.underlying23 Try.underlying9 hi hz0 hz1 hz2 v l.length (u8s l) h (strL s) (by rw [hs]; unfold maxLen; omega) (by rw [hs]; exact hlen) (Nat.zero_le _)
  refine ⟨v', w', hr, ?_, h3, ?_⟩
  · show World.ownsRow _ _ _ _ _ _ _
    rw [u8s_append, List.length_append, ← hs, ← hcells]; exact h2
  · rcases h.2 with ⟨rfl, hn⟩ | ⟨g, cap, cur, rfl, hbg, hg, hnc, hcm, hcs, htake⟩
    · have hl : l = [] := List.eq_nil_of_length_eq_zero hn
      subst hl
      obtain ⟨v2, w2, hr2, h22, h32, h42⟩ := run_append_own_string (P := Try.prog) w w.heap.size 23 9 ty 5 i0 Try.underlying23 Try.underlying9 hi hz0 hz1 hz2 (.slice none 0 0) 0 [] (World.ownsRow_nil _ _ _ _) (strL s) (by rw [hs]; unfold maxLen; omega) (by rw [hs]; simpa using hlen) (Nat.le_refl _)
      have e := ok_value (hr.symm.trans hr2)
      subst e
      rcases h22.2 with ⟨rfl, _⟩ | ⟨g, cap, cur, rfl, hbg, _⟩
      · exact Or.inl rfl
      · exact Or.inr ⟨g, hbg, rfl⟩
    · by_cases hroom : l.length + (strL s).size ≤ cap
      · have hr2 := run_append_room_string (P := Try.prog) w 23 9 ty 5 i0 Try.underlying23 Try.underlying9 hi hz1 g l.length cap cur hg (strL s) hroom (by omega)
        rw [ok_value (hr.symm.trans hr2)]
        exact Or.inl rfl
      · have hr2 := run_append_grow_string (P := Try.prog) w 23 9 ty 5 i0 _ Try.underlying23 Try.underlying9 hi hz0 ⟨g, 0, none⟩ l.length cap (u8s l) (by rw [hz1, u8s_len]; omega) (World.ownsRow.cells h (g := g) rfl) (strL s) (by omega) (by rw [hs]; omega) (by rw [hz2]; exact growslice_fits (by omega) (by rw [hs]; omega))
        rw [ok_value (hr.symm.trans hr2)]
        exact Or.inr ⟨w.heap.size, Nat.le_refl _, rfl⟩

/-- One byte, from a cell at a. -/
theorem grew_byte (w : World) (v : Value) (l : List UInt8) (c : UInt8) (k : Nat) (ad : Addr) (ty : TypeId) (h : RowAt w v l) (hlen : l.length + 1 ≤ 140737488355328) (hc : w.cell? (ad.add 0) = some (.int .u8 c.toNat)) :
    ∃ v' w', (Builtin.append_ #[23, 23] ty #[v, .slice (some ad) 1 k]).run Try.prog w = .ok v' w' ∧ Grew w v l [c] v' w' := by
  obtain ⟨i0, hi, hz0, hz1, hz2⟩ := info_parts info_u8e
  have hn : ∀ j u, (u8s [c])[j]? = some u → w.cell? (ad.add j) = some u := by
    intro j u hj
    match j, hj with
    | 0, hj => rw [← show Value.int .u8 c.toNat = u by simpa [u8s] using hj]; exact hc
    | j + 1, hj => simp [u8s] at hj
  have h1 : ∀ u ∈ u8s [c], u.oneCell' = true := by simp [u8s, Value.oneCell']
  obtain ⟨v', w', hr, h2, h3, h4⟩ := run_append_own (P := Try.prog) w 0 23 ty 5 i0 _ 1 1 Try.underlying23 hi hz0 hz1 hz2 rfl (by decide) v l.length (u8s l) h ad 1 k (u8s [c]) (by simp [u8s]) hn h1 (by unfold maxLen; omega) (by omega) (Nat.zero_le _)
  refine ⟨v', w', hr, ?_, h3, ?_⟩
  · show World.ownsRow _ _ _ _ _ _ _
    rw [u8s_append, List.length_append]; exact h2
  · rcases h.2 with ⟨rfl, hn0⟩ | ⟨g, cap, cur, rfl, hbg, hg, hnc, hcm, hcs, htake⟩
    · have hl : l = [] := List.eq_nil_of_length_eq_zero hn0
      subst hl
      obtain ⟨v2, w2, hr2, h22, h32, h42⟩ := run_append_own (P := Try.prog) w w.heap.size 23 ty 5 i0 _ 1 1 Try.underlying23 hi hz0 hz1 hz2 rfl (by decide) (.slice none 0 0) 0 [] (World.ownsRow_nil _ _ _ _) ad 1 k (u8s [c]) (by simp [u8s]) hn h1 (by unfold maxLen; omega) (by omega) (Nat.le_refl _)
      have e := ok_value (hr.symm.trans hr2)
      subst e
      rcases h22.2 with ⟨rfl, _⟩ | ⟨g, cap, cur, rfl, hbg, _⟩
      · exact Or.inl rfl
      · exact Or.inr ⟨g, hbg, rfl⟩
    · by_cases hroom : l.length + 1 ≤ cap
      · have hr2 := run_append_room (P := Try.prog) w 23 ty 5 i0 Try.underlying23 hi g l.length cap cur hg ad 1 k (u8s [c]) (by rw [hz1]; simp [u8s]) hn h1 hroom (by rw [hz1]; simp only [u8s_len, List.length_singleton]; omega)
        rw [ok_value (hr.symm.trans hr2)]
        exact Or.inl rfl
      · have hr2 := run_append_grow (P := Try.prog) w 23 ty 5 i0 _ Try.underlying23 hi hz0 ⟨g, 0, none⟩ l.length cap (u8s l) (by rw [hz1, u8s_len]; omega) (World.ownsRow.cells h (g := g) rfl) ad 1 k (u8s [c]) (by rw [hz1]; simp [u8s]) hn (by omega) (by omega) (by rw [hz2]; exact growslice_fits (by omega) (by omega))
        rw [ok_value (hr.symm.trans hr2)]
        exact Or.inr ⟨w.heap.size, Nat.le_refl _, rfl⟩

/-- THE OPERATIONS, for the walk. -/
theorem wpList_grow_string {ops : Array Oper} {rest : List Oper} {o : Oper} {a : Act} {w : World} {Q : Exit → Act → World → Prop} (hgd : o.guard = none) (sl x : Operand)
    (ho : o.op = .call { callee := .builtin .append, args := #[sl, x], argTypes := #[23, 9] })
    (v : Value) (l s : List UInt8) (hs : a.eval sl = v) (h : RowAt w v l) (hx : a.eval x = .string (strL s)) (hlen : l.length + s.length ≤ 140737488355328)
    (k : ∀ v' w', Grew w v l s v' w' → wpList Try.prog ops Q rest (a.put o.dst v') w') : wpList Try.prog ops Q (o :: rest) a w := by
  refine wpList_plain hgd fun K hK => ?_
  obtain ⟨v', w', hr, hg⟩ := grew_string w v l s o.type h hlen
  unfold Oper.wp execOp
  simp only [ho, resolve, invoke, builtin, Sem.run_bind, Sem.run_pure, Result.andThen_ok, List.map_toArray, List.map_cons, List.map_nil, hs, hx, hr]
  exact hK _ _ (k v' w' hg)
theorem wpList_grow_byte {ops : Array Oper} {rest : List Oper} {o : Oper} {a : Act} {w : World} {Q : Exit → Act → World → Prop} (hgd : o.guard = none) (sl x : Operand)
    (ho : o.op = .call { callee := .builtin .append, args := #[sl, x], argTypes := #[23, 23] })
    (v : Value) (l : List UInt8) (c : UInt8) (n : Nat) (ad : Addr) (hs : a.eval sl = v) (h : RowAt w v l) (hx : a.eval x = .slice (some ad) 1 n) (hc : w.cell? (ad.add 0) = some (.int .u8 c.toNat)) (hlen : l.length + 1 ≤ 140737488355328)
    (k : ∀ v' w', Grew w v l [c] v' w' → wpList Try.prog ops Q rest (a.put o.dst v') w') : wpList Try.prog ops Q (o :: rest) a w := by
  refine wpList_plain hgd fun K hK => ?_
  obtain ⟨v', w', hr, hg⟩ := grew_byte w v l c n ad o.type h hlen hc
  unfold Oper.wp execOp
  simp only [ho, resolve, invoke, builtin, Sem.run_bind, Sem.run_pure, Result.andThen_ok, List.map_toArray, List.map_cons, List.map_nil, hs, hx, hr]
  exact hK _ _ (k v' w' hg)

/-- A whole block of one cell. -/
def OneAt (T : TypeId) (w : World) (b : Nat) (x : Value) : Prop := w.heap[b]? = some (.cells #[x] T (0, 0))
theorem OneAt.lt {T : TypeId} {w : World} {b : Nat} {x : Value} (h : OneAt T w b x) : b < w.heap.size := (Array.getElem?_eq_some_iff.1 h).1
theorem OneAt.cell {T : TypeId} {w : World} {b : Nat} {x : Value} (h : OneAt T w b x) : w.cell? ⟨b, 0, none⟩ = some x := by
  unfold OneAt at h; simp [World.cell?, h]
theorem OneAt.frozen {T : TypeId} {w : World} {b : Nat} {x : Value} (h : OneAt T w b x) (i : Nat) : w.frozen? ⟨b, i, none⟩ = false := by
  unfold OneAt at h; simp [World.frozen?, h]
theorem OneAt.set {T : TypeId} {w : World} {b : Nat} {x : Value} (h : OneAt T w b x) (u : Value) : OneAt T (w.setCell ⟨b, 0, none⟩ u) b u := by
  unfold OneAt; rw [setCell_at w b 0 u _ T _ h]; rfl
theorem OneAt.keeps {T : TypeId} {S : Nat → Prop} {w w' : World} {b : Nat} {x : Value} (h : OneAt T w b x) (hk : Keeps S w w') (hs : ¬ S b) : OneAt T w' b x := by
  unfold OneAt; rw [hk.block b h.lt hs]; exact h
theorem OneAt.new (T : TypeId) (w : World) (x : Value) : OneAt T (w.alloc (.cells #[x] T)) w.heap.size x := heap_alloc_new w _

/-- The blocks of an encoder: its own, and its row's. -/
def encS (b : Nat) (v : Value) : Nat → Prop := fun k => k = b ∨ v.ownBlock = some k

/-- An encoder at block b: its bytes are l, in the row that v names. -/
structure EncAt (w : World) (b : Nat) (v : Value) (l : List UInt8) : Prop where
  box : OneAt 25 w b v
  row : RowAt w v l

theorem EncAt.apart {w : World} {b : Nat} {v : Value} {l : List UInt8} (h : EncAt w b v l) : v.ownBlock ≠ some b := by
  intro e
  obtain ⟨cur, hc⟩ := h.row.typed e
  have := h.box
  unfold OneAt at this
  rw [hc] at this
  simp at this
theorem EncAt.keeps {S : Nat → Prop} {w w' : World} {b : Nat} {v : Value} {l : List UInt8} (h : EncAt w b v l) (hk : Keeps S w w') (hs : ¬ S b) (hv : ∀ g, v.ownBlock = some g → ¬ S g) : EncAt w' b v l :=
  ⟨h.box.keeps hk hs, h.row.keeps hk hv⟩

/-- What a call on an encoder leaves. -/
structure Added (w w' : World) (b : Nat) (v v' : Value) (l : List UInt8) : Prop where
  enc : EncAt w' b v' l
  keeps : Keeps (encS b v) w w'
  fresh : v'.ownBlock = v.ownBlock ∨ ∃ g, w.heap.size ≤ g ∧ v'.ownBlock = some g

theorem Added.trans {w w1 w2 : World} {b : Nat} {v v1 v2 : Value} {l l2 : List UInt8} (h : Added w w1 b v v1 l) (k : Added w1 w2 b v1 v2 l2) : Added w w2 b v v2 l2 := by
  refine ⟨k.enc, ?_, ?_⟩
  · refine ⟨k.keeps.os.trans h.keeps.os, k.keeps.tape.trans h.keeps.tape, k.keeps.output.trans h.keeps.output, Nat.le_trans h.keeps.size k.keeps.size, fun g hg hn => ?_⟩
    rw [k.keeps.block g (Nat.lt_of_lt_of_le hg h.keeps.size) ?_, h.keeps.block g hg hn]
    rintro (e | e)
    · exact hn (Or.inl e)
    · rcases h.fresh with f | ⟨g2, f, e2⟩
      · exact hn (Or.inr (f ▸ e))
      · rw [e2] at e; injection e with e; omega
  · rcases k.fresh with f | ⟨g, hg, e⟩
    · rw [f]; exact h.fresh
    · exact Or.inr ⟨g, Nat.le_trans h.keeps.size hg, e⟩
theorem Added.refl {w : World} {b : Nat} {v : Value} {l : List UInt8} (h : EncAt w b v l) : Added w w b v v l := ⟨h, Keeps.refl _ _, Or.inl rfl⟩
theorem EncAt.grown_box {w w1 w2 : World} {b : Nat} {v v' : Value} {l s : List UInt8} (h : EncAt w b v l) (hb : Below w.heap.size w w1) (g : Grew w1 v l s v' w2) : OneAt 25 w2 b v :=
  (h.box.keeps (Keeps.of_below (S := fun _ => False) hb) (fun e => e)).keeps (S := fun k => v.ownBlock = some k) ⟨g.2.1.os, g.2.1.tape, g.2.1.output, g.2.1.size, fun k hk hn => g.2.1.block k hk fun e => hn e.symm⟩ h.apart
theorem EncAt.row_at {w w1 : World} {b : Nat} {v : Value} {l : List UInt8} (h : EncAt w b v l) (hb : Below w.heap.size w w1) : RowAt w1 v l := h.row.keeps (Keeps.of_below (S := fun _ => False) hb) (fun _ _ e => e)
/-- An append (behind news of new blocks) and the store of the slice. -/
theorem Added.of_grew {w w1 w2 : World} {b : Nat} {v v' : Value} {l s : List UInt8} (h : EncAt w b v l) (hb : Below w.heap.size w w1) (g : Grew w1 v l s v' w2) : Added w (w2.setCell ⟨b, 0, none⟩ v') b v v' (l ++ s) := by
  have k1 : Keeps (encS b v) w w1 := Keeps.of_below hb
  have k2 : Keeps (encS b v) w1 w2 := ⟨g.2.1.os, g.2.1.tape, g.2.1.output, g.2.1.size, fun k hk hn => g.2.1.block k hk fun e => hn (Or.inr e.symm)⟩
  have hbx : OneAt 25 w2 b v := h.grown_box hb g
  have hap : v'.ownBlock ≠ some b := by
    intro e
    obtain ⟨cur, hc⟩ := g.1.typed e
    have := hbx
    unfold OneAt at this
    rw [hc] at this
    simp at this
  refine ⟨⟨hbx.set v', g.1.keeps (S := one b) ((Keeps.refl (one b) w2).setCell (p := ⟨b, 0, none⟩) (Or.inl (show b = b from rfl)) v') ?_⟩, (k1.trans k2).setCell (p := ⟨b, 0, none⟩) (Or.inl (Or.inl rfl)) v', ?_⟩
  · intro g2 e e2
    subst e2
    exact hap e
  · rcases g.2.2 with e | ⟨g2, h2, e⟩
    · exact Or.inl e
    · exact Or.inr ⟨g2, Nat.le_trans hb.size h2, e⟩
end Go.Proofs.Ytbiogajejcfkfaa
