/-
  A MESSAGE THAT CAME IN, OPENED. Of no function.
-/
import Derived.Test.YtklhhpnibeejeaaDoorMsgV
import Derived.Test.YtklhhpnibeejeaaDoorRowKit
import Derived.Deep.SlicePairs
import Derived.Deep.Strs
namespace Go.Proofs.YtklhhpnibeejeaaDoor
open Go.RowKit Go.ChangeShapes Go.WideShapes Go.Deep
set_option linter.unusedVariables false

def strIn : Value → ByteArray
  | .string s => s
  | _ => ⟨#[]⟩
def boolIn : Value → Bool
  | .bool b => b
  | _ => false
theorem list3 {α : Type} {l : List α} (h : l.length = 3) : ∃ a b c, l = [a, b, c] := by
  match l, h with
  | [a, b, c], _ => exact ⟨a, b, c, rfl⟩
theorem list15 {α : Type} {l : List α} (h : l.length = 15) : ∃ a b c d e f g h i j k m n o p, l = [a, b, c, d, e, f, g, h, i, j, k, m, n, o, p] := by
  match l, h with
  | [a, b, c, d, e, f, g, h, i, j, k, m, n, o, p], _ => exact ⟨a, b, c, d, e, f, g, h, i, j, k, m, n, o, p, rfl⟩
section
variable {H : Type} {enc : TypeId × Value → H} {w : World} {base : Nat} {held : Bool}
theorem twos_open {t e : TypeId} {f0 f1 : Field} {fuel : Nat} {cs : List Value} {x : DataW H × List MemPlace} (ht : Tryd.prog.underlying t = some (.slice e)) (he : Tryd.prog.underlying e = some (.struct #[f0, f1]))
    (ce : Tryd.prog.cellsOf e = 2) (o0 : f0.offset = 0) (o1 : f1.offset = 1) (c0 : Tryd.prog.cellsOf f0.type = 1) (c1 : Tryd.prog.cellsOf f1.type = 1) (s0 : Tryd.prog.underlying f0.type = some .string) (s1 : Tryd.prog.underlying f1.type = some .string)
    (h : DataW.trod enc Tryd.prog w base (fun _ => true) held fuel t cs = some x) :
    ∃ (ao : Option Addr) (l : List (ByteArray × ByteArray)) (cap : Nat), cs = [.slice ao l.length cap] ∧ TwosAt w ao l ∧ (∀ y ∈ l, y.1.size ≤ maxLen ∧ y.2.size ≤ maxLen) ∧ (∃ el sp, (x.1 = .nil ∧ l = []) ∨ (x.1 = .slice el sp ∧ el.length = l.length)) := by
  rcases open_slice_pairs ht he ce o0 o1 c0 c1 h with ⟨rfl, rfl⟩ | ⟨a, len, cap, m, n, V0, V1, D0, D1, P0, P1, rfl, hb, hl, hm, hmm, rfl, hx⟩
  · exact ⟨none, [], 0, rfl, TwosAt.none _, by simp, [], [], Or.inl ⟨rfl, rfl⟩⟩
  · have hlm : len ≤ m := by rw [hmm]; simpa using hl
    have each : ∀ i, i < len → V0 i = .string (strIn (V0 i)) ∧ V1 i = .string (strIn (V1 i)) ∧ (strIn (V0 i)).size ≤ maxLen ∧ (strIn (V1 i)).size ≤ maxLen := by
      intro i hi
      obtain ⟨_, _, g0, g1⟩ := hx i (by omega)
      obtain ⟨a0, e0, _, z0⟩ := DataW.trod_string s0 g0
      obtain ⟨a1, e1, _, z1⟩ := DataW.trod_string s1 g1
      simp only [List.cons.injEq, and_true] at e0 e1
      rw [e0, e1]
      exact ⟨rfl, rfl, z0, z1⟩
    refine ⟨some a, (List.range len).map fun i => (strIn (V0 i), strIn (V1 i)), cap, by simp, ?_, ?_, _, _, Or.inr ⟨rfl, by simp⟩⟩
    · intro i hi
      have hi' : i < len := by simpa using hi
      obtain ⟨h0, h1, _, _⟩ := hx i (by omega)
      obtain ⟨q0, q1, _, _⟩ := each i hi'
      obtain ⟨b, off, spot⟩ := a
      have hspot : spot = none := by
        obtain ⟨h00, _⟩ := hx 0 (by omega)
        simpa [Addr.add] using World.cell?_spot h00
      subst hspot
      refine ⟨b, off, rfl, ?_, ?_⟩
      · rw [add_plain] at h0
        rw [h0, q0]; simp [strIn]
      · rw [add_plain] at h1
        rw [show off + i * 2 + 1 = off + (i * 2 + 1) by omega, h1, q1]; simp [strIn]
    · intro y hy
      obtain ⟨i, hi, rfl⟩ := List.mem_map.1 hy
      obtain ⟨_, _, z0, z1⟩ := each i (List.mem_range.1 hi)
      exact ⟨z0, z1⟩
theorem wrs_open {t e : TypeId} {f0 f1 f2 : Field} {fuel : Nat} {cs : List Value} {x : DataW H × List MemPlace} (ht : Tryd.prog.underlying t = some (.slice e)) (he : Tryd.prog.underlying e = some (.struct #[f0, f1, f2]))
    (ce : Tryd.prog.cellsOf e = 3) (o0 : f0.offset = 0) (o1 : f1.offset = 1) (o2 : f2.offset = 2) (c0 : Tryd.prog.cellsOf f0.type = 1) (c1 : Tryd.prog.cellsOf f1.type = 1) (c2 : Tryd.prog.cellsOf f2.type = 1)
    (s0 : Tryd.prog.underlying f0.type = some .string) (s1 : Tryd.prog.underlying f1.type = some .bool) (s2 : Tryd.prog.underlying f2.type = some .string)
    (h : DataW.trod enc Tryd.prog w base (fun _ => true) held fuel t cs = some x) :
    ∃ (ao : Option Addr) (l : List (ByteArray × Bool × ByteArray)) (cap : Nat), cs = [.slice ao l.length cap] ∧ WrsAt w ao l ∧ (∀ y ∈ l, y.1.size ≤ maxLen ∧ y.2.2.size ≤ maxLen) ∧ (∃ el sp, (x.1 = .nil ∧ l = []) ∨ (x.1 = .slice el sp ∧ el.length = l.length)) := by
  rcases open_slice ht h with ⟨rfl, rfl⟩ | ⟨a, len, cap, m, n, D, Pl, rfl, hb, hl, hm, hmm, rfl, hx⟩
  · exact ⟨none, [], 0, rfl, WrsAt.none _, by simp, [], [], Or.inl ⟨rfl, rfl⟩⟩
  · have hlm : len ≤ m := by rw [hmm]; simpa using hl
    have each : ∀ i, i < len → ∃ y : ByteArray × Bool × ByteArray, w.cell? (a.add (i * 3)) = some (.string y.1) ∧ w.cell? (a.add (i * 3 + 1)) = some (.bool y.2.1) ∧ w.cell? (a.add (i * 3 + 2)) = some (.string y.2.2) ∧ y.1.size ≤ maxLen ∧ y.2.2.size ≤ maxLen := by
      intro i hi
      obtain ⟨cs', h1, h2⟩ := hx i (by omega)
      rw [ce] at h1
      obtain ⟨_, hlen, hcell⟩ := World.cells?_some h1
      obtain ⟨y0, y1, y2, k, _, _, g0, g1, g2⟩ := trod_struct3 he h2
      obtain ⟨v0, v1, v2, rfl⟩ := list3 hlen
      simp [o0, o1, o2, c0, c1, c2] at g0 g1 g2
      have e0 := hcell 0 (by omega)
      have e1 := hcell 1 (by omega)
      have e2 := hcell 2 (by omega)
      rw [add_add] at e0 e1 e2
      obtain ⟨a0, q0, _, z0⟩ := DataW.trod_string s0 g0
      obtain ⟨a1, q1, _⟩ := DataW.trod_bool s1 g1
      obtain ⟨a2, q2, _, z2⟩ := DataW.trod_string s2 g2
      simp only [List.cons.injEq, and_true] at q0 q1 q2
      subst q0 q1 q2
      exact ⟨(a0, a1, a2), by simpa using e0, by simpa using e1, by simpa using e2, z0, z2⟩
    obtain ⟨f, hf⟩ := choose_lt each
    refine ⟨some a, (List.range len).map f, cap, by simp, ?_, ?_, _, _, Or.inr ⟨rfl, by simp⟩⟩
    · intro i hi
      have hi' : i < len := by simpa using hi
      obtain ⟨h0, h1, h2, _, _⟩ := hf i hi'
      obtain ⟨b, off, spot⟩ := a
      have hspot : spot = none := by
        obtain ⟨h00, _⟩ := hf 0 (by omega)
        simpa [Addr.add] using World.cell?_spot h00
      subst hspot
      refine ⟨b, off, rfl, ?_, ?_, ?_⟩
      · rw [add_plain] at h0; rw [h0]; simp
      · rw [add_plain] at h1; rw [show off + i * 3 + 1 = off + (i * 3 + 1) by omega, h1]; simp
      · rw [add_plain] at h2; rw [show off + i * 3 + 2 = off + (i * 3 + 2) by omega, h2]; simp
    · intro y hy
      obtain ⟨i, hi, rfl⟩ := List.mem_map.1 hy
      obtain ⟨_, _, _, z0, z1⟩ := hf i (List.mem_range.1 hi)
      exact ⟨z0, z1⟩
end
theorem u32_nat {n : Int} (h : (Lit.int .u32 n).wf = true) : ∃ k : Nat, n = k ∧ k < 4294967296 := by
  simp [Lit.wf, IntKind.min, IntKind.max, IntKind.signed, IntKind.bits] at h
  exact ⟨n.toNat, by omega, by omega⟩
theorem u64_nat {n : Int} (h : (Lit.int .u64 n).wf = true) : ∃ k : Nat, n = k ∧ k < 18446744073709551616 := by
  simp [Lit.wf, IntKind.min, IntKind.max, IntKind.signed, IntKind.bits] at h
  exact ⟨n.toNat, by omega, by omega⟩
theorem list12 {α : Type} {l : List α} (h : l.length = 12) : ∃ a b c d e f g h i j k m, l = [a, b, c, d, e, f, g, h, i, j, k, m] := by
  match l, h with
  | [a, b, c, d, e, f, g, h, i, j, k, m], _ => exact ⟨a, b, c, d, e, f, g, h, i, j, k, m, rfl⟩
theorem cells_0 : Tryd.prog.cellsOf 25 = 1 := by kernel_rfl
theorem cells_1 : Tryd.prog.cellsOf 26 = 1 := by kernel_rfl
theorem cells_2 : Tryd.prog.cellsOf 28 = 2 := by kernel_rfl
theorem cells_3 : Tryd.prog.cellsOf 31 = 3 := by kernel_rfl
theorem cells_4 : Tryd.prog.cellsOf 22 = 1 := by kernel_rfl
theorem cells_5 : Tryd.prog.cellsOf 32 = 1 := by kernel_rfl
theorem cells_6 : Tryd.prog.cellsOf 33 = 1 := by kernel_rfl
theorem cells_7 : Tryd.prog.cellsOf 34 = 1 := by kernel_rfl
theorem cells_8 : Tryd.prog.cellsOf 35 = 1 := by kernel_rfl
theorem cells_9 : Tryd.prog.cellsOf 29 = 1 := by kernel_rfl
theorem cells_10 : Tryd.prog.cellsOf 9 = 1 := by kernel_rfl
theorem cells_11 : Tryd.prog.cellsOf 4 = 1 := by kernel_rfl
theorem cellsMsg : Tryd.prog.cellsOf 37 = 15 := by kernel_rfl
theorem cellsSpan : Tryd.prog.cellsOf 78 = 2 := by kernel_rfl
theorem cellsPair : Tryd.prog.cellsOf 82 = 2 := by kernel_rfl
theorem cellsWrite : Tryd.prog.cellsOf 80 = 3 := by kernel_rfl
theorem bytesSpan : Tryd.prog.bytesOf 78 = 32 := by kernel_rfl
theorem bytesPair : Tryd.prog.bytesOf 82 = 32 := by kernel_rfl
theorem bytesWrite : Tryd.prog.bytesOf 80 = 40 := by kernel_rfl
section
variable {H : Type} {enc : TypeId × Value → H} {w : World} {base : Nat} {held : Bool}
set_option maxHeartbeats 2000000 in
theorem msg_open {fuel : Nat} {cs : List Value} {x : DataW H × List MemPlace} (h : DataW.trod enc Tryd.prog w base (fun _ => true) held fuel 37 cs = some x) (hw : ∀ n ∈ x.1.weights Tryd.prog 37, n ≤ reachBytes) :
    ∃ (m : Mes) (s : Sl), Value.agg cs.toArray = msgV m s ∧ MsgIn w m s ∧ m.frm < 4294967296 ∧ m.dst < 4294967296 ∧ m.cl < 4294967296 ∧ m.seq < 4294967296 ∧ m.home < 4294967296 ∧ m.op < 4294967296 ∧ m.wall < 18446744073709551616 ∧ m.log < 4294967296 ∧ m.node < 4294967296 := by
  obtain ⟨xs, n, _, rfl, hl, hlen, hf⟩ := DataW.trod_struct Tryd.underlying37 h
  obtain ⟨a0, a1, a2, a3, a4, a5, a6, a7, a8, a9, a10, a11, a12, a13, a14, rfl⟩ := list15 (hl.trans cellsMsg)
  obtain ⟨x0, x1, x2, x3, x4, x5, x6, x7, x8, x9, x10, x11, rfl⟩ := list12 hlen
  have g0 : DataW.trod enc Tryd.prog w base (fun _ => true) held n 25 [a0] = some x0 := by have := hf 0 _ rfl; simpa [cells_0] using this
  have g1 : DataW.trod enc Tryd.prog w base (fun _ => true) held n 26 [a1] = some x1 := by have := hf 1 _ rfl; simpa [cells_1] using this
  have g2 : DataW.trod enc Tryd.prog w base (fun _ => true) held n 26 [a2] = some x2 := by have := hf 2 _ rfl; simpa [cells_1] using this
  have g3 : DataW.trod enc Tryd.prog w base (fun _ => true) held n 28 [a3, a4] = some x3 := by have := hf 3 _ rfl; simpa [cells_2] using this
  have g4 : DataW.trod enc Tryd.prog w base (fun _ => true) held n 26 [a5] = some x4 := by have := hf 4 _ rfl; simpa [cells_1] using this
  have g5 : DataW.trod enc Tryd.prog w base (fun _ => true) held n 26 [a6] = some x5 := by have := hf 5 _ rfl; simpa [cells_1] using this
  have g6 : DataW.trod enc Tryd.prog w base (fun _ => true) held n 31 [a7, a8, a9] = some x6 := by have := hf 6 _ rfl; simpa [cells_3] using this
  have g7 : DataW.trod enc Tryd.prog w base (fun _ => true) held n 22 [a10] = some x7 := by have := hf 7 _ rfl; simpa [cells_4] using this
  have g8 : DataW.trod enc Tryd.prog w base (fun _ => true) held n 32 [a11] = some x8 := by have := hf 8 _ rfl; simpa [cells_5] using this
  have g9 : DataW.trod enc Tryd.prog w base (fun _ => true) held n 33 [a12] = some x9 := by have := hf 9 _ rfl; simpa [cells_6] using this
  have g10 : DataW.trod enc Tryd.prog w base (fun _ => true) held n 34 [a13] = some x10 := by have := hf 10 _ rfl; simpa [cells_7] using this
  have g11 : DataW.trod enc Tryd.prog w base (fun _ => true) held n 35 [a14] = some x11 := by have := hf 11 _ rfl; simpa [cells_8] using this
  clear hf h hl hlen
  obtain ⟨i0, e0, _, _⟩ := DataW.trod_int Tryd.underlying25 g0
  obtain ⟨i1, e1, _, r1⟩ := DataW.trod_int Tryd.underlying26 g1
  obtain ⟨n1, rfl, b1⟩ := u32_nat r1
  obtain ⟨i2, e2, _, r2⟩ := DataW.trod_int Tryd.underlying26 g2
  obtain ⟨n2, rfl, b2⟩ := u32_nat r2
  obtain ⟨i4, e4, _, r4⟩ := DataW.trod_int Tryd.underlying26 g4
  obtain ⟨n4, rfl, b4⟩ := u32_nat r4
  obtain ⟨i5, e5, _, r5⟩ := DataW.trod_int Tryd.underlying26 g5
  obtain ⟨n5, rfl, b5⟩ := u32_nat r5
  obtain ⟨y0, y1, k3, _, _, g3a, g3b⟩ := trod_struct2 Tryd.underlying28 g3
  simp [cells_1] at g3a g3b
  obtain ⟨i3, e3, _, r3⟩ := DataW.trod_int Tryd.underlying26 g3a
  obtain ⟨n3, rfl, b3⟩ := u32_nat r3
  obtain ⟨i3', e3', _, r3'⟩ := DataW.trod_int Tryd.underlying26 g3b
  obtain ⟨n3', rfl, b3'⟩ := u32_nat r3'
  obtain ⟨z0, z1, z2, k6, _, _, g6a, g6b, g6c⟩ := trod_struct3 Tryd.underlying31 g6
  simp [cells_1, cells_9] at g6a g6b g6c
  obtain ⟨i6, e6, _, r6⟩ := DataW.trod_int Tryd.underlying29 g6a
  obtain ⟨n6, rfl, b6⟩ := u64_nat r6
  obtain ⟨i6', e6', _, r6'⟩ := DataW.trod_int Tryd.underlying26 g6b
  obtain ⟨n6', rfl, b6'⟩ := u32_nat r6'
  obtain ⟨i6'', e6'', _, r6''⟩ := DataW.trod_int Tryd.underlying26 g6c
  obtain ⟨n6'', rfl, b6''⟩ := u32_nat r6''
  obtain ⟨i7, e7, _, _⟩ := DataW.trod_int Tryd.underlying22 g7
  obtain ⟨i8, e8, _, _⟩ := DataW.trod_int Tryd.underlying32 g8
  obtain ⟨ra, lr, rc, e9, hr, hrs, elr, spr, hr2⟩ := twos_open Tryd.underlying33 Tryd.underlying78 cellsSpan rfl rfl cells_10 cells_10 Tryd.underlying9 Tryd.underlying9 g9
  obtain ⟨wa, lw, wc, e10, hww, hws, elw, spw, hw2⟩ := wrs_open Tryd.underlying34 Tryd.underlying80 cellsWrite rfl rfl rfl cells_10 cells_11 cells_10 Tryd.underlying9 Tryd.underlying4 Tryd.underlying9 g10
  obtain ⟨pa, lp, pc, e11, hp, hps, elp, spp, hp2⟩ := twos_open Tryd.underlying35 Tryd.underlying82 cellsPair rfl rfl cells_10 cells_10 Tryd.underlying9 Tryd.underlying9 g11
  have l9 : lr.length ≤ 140737488355328 := by
    rcases hr2 with ⟨_, rfl⟩ | ⟨q, q2⟩
    · exact Nat.zero_le _
    · have := hw ((elr.length + spr.length) * 32) (by simp [DataW.weights, DataW.weightsEach, Tryd.underlying37, q, Tryd.underlying33, bytesSpan])
      unfold reachBytes at this
      omega
  have l10 : lw.length ≤ 140737488355328 := by
    rcases hw2 with ⟨_, rfl⟩ | ⟨q, q2⟩
    · exact Nat.zero_le _
    · have := hw ((elw.length + spw.length) * 40) (by simp [DataW.weights, DataW.weightsEach, Tryd.underlying37, q, Tryd.underlying34, bytesWrite])
      unfold reachBytes at this
      omega
  have l11 : lp.length ≤ 140737488355328 := by
    rcases hp2 with ⟨_, rfl⟩ | ⟨q, q2⟩
    · exact Nat.zero_le _
    · have := hw ((elp.length + spp.length) * 32) (by simp [DataW.weights, DataW.weightsEach, Tryd.underlying37, q, Tryd.underlying35, bytesPair])
      unfold reachBytes at this
      omega
  simp only [List.cons.injEq, and_true] at e0 e1 e2 e3 e3' e4 e5 e6 e6' e6'' e7 e8 e9 e10 e11
  subst e0 e1 e2 e3 e3' e4 e5 e6 e6' e6'' e7 e8 e9 e10 e11
  exact ⟨⟨i0, n1, n2, n3, n3', n4, n5, n6, n6', n6'', i7, i8, lr, lw, lp⟩, ⟨ra, wa, pa, rc, wc, pc⟩, rfl, ⟨hr, hww, hp, l9, l10, l11, hrs, hws, hps⟩, b1, b2, b3, b3', b4, b5, b6, b6', b6''⟩
end
end Go.Proofs.YtklhhpnibeejeaaDoor
