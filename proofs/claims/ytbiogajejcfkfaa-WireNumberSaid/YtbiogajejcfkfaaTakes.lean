/-
  THE TAKES of the decoder: what settled hands back, the deferred closures, and Byte, Flag, Var, Text, Raw. Printed by gen_takes.py.
-/
import Derived.Test.YtbiogajejcfkfaaCatch
namespace Go.Proofs.Ytbiogajejcfkfaa
open Go.RowKit
set_option linter.unusedVariables false

theorem mixed : Try.prog.follows .mixedOrders = true := by kernel_rfl
theorem asserted (x : Int) (w : World) : (Instr.typeAssert (.iface 40 (.agg #[.int .i64 x])) 20 40 true).run Try.prog w = .ok (.tuple #[.agg #[.int .i64 x], .bool true]) w := by kernel_rfl
theorem one_cell {w : World} {b : Nat} {v : Value} {T : TypeId} (h : w.heap[b]? = some (.cells #[v] T (0, 0))) : w.cell? ⟨b, 0, none⟩ = some v ∧ w.frozen? ⟨b, 0, none⟩ = false := by
  constructor
  · simp [World.cell?, h]
  · simp [World.frozen?, h]

def takeS {α : Type} (zero : α) (p : List UInt8 → Except Int (α × List UInt8)) (l : List UInt8) (e : Int) : α × List UInt8 × Int :=
  if e = 0 then (match p l with | .ok (v, r) => (v, r, 0) | .error x => (zero, [], x)) else (zero, [], e)
theorem takeS_stop {α : Type} {z : α} {p : List UInt8 → Except Int (α × List UInt8)} {l : List UInt8} {e : Int} (he : ¬ e = 0) : takeS z p l e = (z, [], e) := by unfold takeS; rw [if_neg he]
theorem takeS_error {α : Type} {z : α} {p : List UInt8 → Except Int (α × List UInt8)} {l : List UInt8} {x : Int} (h : p l = .error x) : takeS z p l 0 = (z, [], x) := by unfold takeS; rw [if_pos rfl, h]
theorem takeS_ok {α : Type} {z v : α} {p : List UInt8 → Except Int (α × List UInt8)} {l r : List UInt8} (h : p l = .ok (v, r)) : takeS z p l 0 = (v, r, 0) := by unfold takeS; rw [if_pos rfl, h]
def byteP : List UInt8 → Except Int (UInt8 × List UInt8)
  | [] => .error 30
  | c :: r => .ok (c, r)
def flagP : List UInt8 → Except Int (Bool × List UInt8)
  | [] => .error 30
  | c :: r => if 1 < c.toNat then .error 31 else .ok (c.toNat == 1, r)
def rawP (n : Int) (l : List UInt8) : Except Int (List UInt8 × List UInt8) := bytesP (limN n) l

/-- The two blocks that a take makes: its copy of the decoder's pointer, its named result. -/
theorem take_start (b : Nat) (l : List UInt8) (e : Int) (w : World) (hd : DecAt w b l e) (T : TypeId) (cs : Array Value) :
    ∃ W, W = ((w.alloc (Obj.cells #[Value.pointer (some ⟨b, 0, none⟩)] 29)).alloc (Obj.cells cs T)) ∧ DecAt W b l e ∧ b < w.heap.size ∧ W.heap.size = w.heap.size + 2 ∧
      W.cell? ⟨w.heap.size, 0, none⟩ = some (.pointer (some ⟨b, 0, none⟩)) ∧ W.heap[w.heap.size + 1]? = some (.cells cs T (0, 0)) ∧ Below w.heap.size w W := by
  have hb : Below w.heap.size w ((w.alloc (Obj.cells #[Value.pointer (some ⟨b, 0, none⟩)] 29)).alloc (Obj.cells cs T)) := ((Below.refl _ _).alloc (Nat.le_refl _) _).alloc (by simp) _
  refine ⟨_, rfl, hd.keeps (Keeps.of_below (S := fun _ => False) hb) (by simp), hd.lt, by simp, ?_, ?_, hb⟩
  · rw [World.cell?_alloc_old _ _ _ (by simp)]; simp
  · have := heap_alloc_new (w.alloc (Obj.cells #[Value.pointer (some ⟨b, 0, none⟩)] 29)) (Obj.cells cs T)
    simpa using this
theorem take_keeps {b pv : Nat} {w W w2 : World} (hB : Below w.heap.size w W) (hk : Keeps (two b pv) W w2) (hpv : w.heap.size ≤ pv) : Keeps (one b) w w2 :=
  ⟨hk.os.trans hB.os, hk.tape.trans hB.tape, hk.output.trans hB.output, Nat.le_trans hB.size hk.size, fun k h1 h2 =>
    (hk.block k (by have := hB.size; omega) (by rintro (h | h); exact h2 h; omega)).trans (hB.block k h1)⟩
theorem two_of_one {b pv : Nat} {w w' : World} (h : Keeps (one b) w w') : Keeps (two b pv) w w' := h.mono fun _ _ e => Or.inl e
theorem two_of_other {b pv : Nat} {w w' : World} (h : Keeps (one pv) w w') : Keeps (two b pv) w w' := h.mono fun _ _ e => Or.inr e

set_option maxRecDepth 100000 in
theorem settled_u64_none (b : Nat) (v : Int) (w : World) :
    Calls Try.prog 10 #[.pointer (some ⟨b, 0, none⟩), .nilIface, .int .u64 v] w fun e w' => e = .returned (.int .u64 v) ∧ w = w' := by
  go_enter Try.func10, Try.ntmps10
  go_wp2
  go_ret
  exact ⟨rfl, rfl⟩
set_option maxRecDepth 100000 in
theorem settled_u64_some (b : Nat) (v : Int) (x : Int) (l : List UInt8) (y : Int) (w : World) (hd : DecAt w b l y) :
    Calls Try.prog 10 #[.pointer (some ⟨b, 0, none⟩), stopV x, .int .u64 v] w fun e w' => e = .returned (.int .u64 0) ∧ DecAt w' b [] x ∧ Keeps (one b) w w' := by
  have c0 := hd.cell0
  have c1 := hd.cell1
  have f0 := hd.frozen 0
  have f1 := hd.frozen 1
  have HD := Lib.hid hd
  have hlt := hd.lt
  clear hd
  unfold stopV
  have ha := asserted x
  go_enter Try.func10, Try.ntmps10
  go_wp2
  go_ret
  exact ⟨rfl, TwoAt.keeps ((HD.out.set1 _).set0 _) ((Keeps.refl (fun _ => False) _).alloc _) (by simp), (((Keeps.refl (one b) w).set_one _).set_one _).alloc _⟩

theorem catch_Var_stop (b pd pv : Nat) (v : Int) (x : Int) (l : List UInt8) (y : Int) (older : List PanicEntry) (w : World) (hd : DecAt w b l y)
    (hpd : w.cell? ⟨pd, 0, none⟩ = some (.pointer (some ⟨b, 0, none⟩))) (hpv : w.cell? ⟨pv, 0, none⟩ = some (.int .u64 v)) (hfz : w.frozen? ⟨pv, 0, none⟩ = false) (hne : b ≠ pv) :
    CallsD Try.prog 9 #[.pointer (some ⟨pd, 0, none⟩), .pointer (some ⟨pv, 0, none⟩)] (.panicking ({ v := stopV x, recovered := false } :: older)) w fun e u' w' =>
      e = .returned (.tuple #[]) ∧ u' = .panicking ({ v := stopV x, recovered := true } :: older) ∧ w'.cell? ⟨pv, 0, none⟩ = some (.int .u64 0) ∧ DecAt w' b [] x ∧ Keeps (two b pv) w w' := by
  refine callsD_of_wpS Try.func9 rfl fun c₀ cs hu => ?_
  refine wpS_region_orders mixed [[0, 1, 2, 3, 4], [0, 2, 1, 3, 4], [1, 0, 2, 3, 4], [1, 2, 0, 3, 4], [2, 0, 1, 3, 4], [2, 1, 0, 3, 4]] (by kernel_rfl) ?_
  intro o ho
  simp only [List.mem_cons, List.not_mem_nil, or_false] at ho
  have hst := settled_u64_some b v x l y w.drew hd
  rcases ho with rfl | rfl | rfl | rfl | rfl | rfl
  all_goals
    simp [wpOpsS, go_sem, recoverD, hu, Try.ntmps9, hpd, hpv]
    refine hst.mono ?_
    rintro e w1 ⟨rfl, hd1, hk1⟩
    have q1 : w1.cell? ⟨pv, 0, none⟩ = some (.int .u64 v) := hk1.cell (a := w.drew) hpv (fun h => hne h.symm)
    have q2 : w1.frozen? ⟨pv, 0, none⟩ = false := (hk1.frozen (a := w.drew) (p := ⟨pv, 0, none⟩) (World.block_lt_of_cell? _ _ hpv) (fun h => hne h.symm)).trans hfz
    simp [go_sem, q1, q2, bodyPostS, results, Try.results9]
    exact ⟨hd1.keeps ((Keeps.refl (one pv) w1).set_one _) hne, (((Keeps.refl (one b) w).drew).trans hk1).set_two _⟩
theorem catch_Var_idle (b pd pv : Nat) (v : Int) (w : World)
    (hpd : w.cell? ⟨pd, 0, none⟩ = some (.pointer (some ⟨b, 0, none⟩))) (hpv : w.cell? ⟨pv, 0, none⟩ = some (.int .u64 v)) (hfz : w.frozen? ⟨pv, 0, none⟩ = false) :
    CallsD Try.prog 9 #[.pointer (some ⟨pd, 0, none⟩), .pointer (some ⟨pv, 0, none⟩)] .returning w fun e u' w' =>
      e = .returned (.tuple #[]) ∧ u' = .returning ∧ w'.cell? ⟨pv, 0, none⟩ = some (.int .u64 v) ∧ Keeps (one pv) w w' := by
  refine callsD_of_wpS Try.func9 rfl fun c₀ cs hu => ?_
  refine wpS_region_orders mixed [[0, 1, 2, 3, 4], [0, 2, 1, 3, 4], [1, 0, 2, 3, 4], [1, 2, 0, 3, 4], [2, 0, 1, 3, 4], [2, 1, 0, 3, 4]] (by kernel_rfl) ?_
  intro o ho
  simp only [List.mem_cons, List.not_mem_nil, or_false] at ho
  have hst := settled_u64_none b v w.drew
  rcases ho with rfl | rfl | rfl | rfl | rfl | rfl
  all_goals
    simp [wpOpsS, go_sem, recoverD, hu, Try.ntmps9, hpd, hpv]
    refine hst.mono ?_
    rintro e w1 ⟨rfl, rfl⟩
    simp [go_sem, hpv, hfz, bodyPostS, results, Try.results9]
    exact ⟨c₀.mode, rfl, hu, ((Keeps.refl (one pv) w).set_one _).drew⟩

set_option maxRecDepth 100000 in
theorem Var_any (b : Nat) (l : List UInt8) (e : Int) (max : Nat) (hs : l.length ≤ maxLen) (w : World) (hd : DecAt w b l e) :
    Calls Try.prog 7 #[.pointer (some ⟨b, 0, none⟩), .int .u64 max] w fun o w' => o = .returned (.int .u64 (takeS (0 : Nat) (numP max) l e).1) ∧ DecAt w' b (takeS (0 : Nat) (numP max) l e).2.1 (takeS (0 : Nat) (numP max) l e).2.2 ∧ Keeps (one b) w w' := by
  have hmf : ∀ (fn : Fn) (first cap : Array Value) (w : World), (Instr.makeFunc fn first cap).run Try.prog w = .ok (.func fn first cap) w := fun _ _ _ _ => rfl
  obtain ⟨W, hW, hdW, hblt, hWs, cpd, hpv, hbW⟩ := take_start b l e w hd 22 #[.int .u64 0]
  have HD := Lib.hid hdW
  have HB := Lib.hid hbW
  have HS := Lib.hid hs
  have HW := Lib.hid hW
  obtain ⟨cpv, fpv⟩ := one_cell hpv
  have HWs := Lib.hid hWs
  clear hdW hbW hpv hW hWs hs hd
  by_cases he : e = 0
  · subst he
    have hin := number_any b l max HS.out W HD.out
    cases hr : (numP max) l with
    | error x =>
      have HE := Lib.hid (takeS_error (z := (0 : Nat)) (p := (numP max)) (l := l) (x := x) hr)
      have hin' : Hid (Calls Try.prog 11 #[.pointer (some ⟨b, 0, none⟩), .int .u64 max] W fun e w' => e = .panicked [{ v := stopV x, recovered := false }] ∧ (∃ l y, DecAt w' b l y) ∧ Keeps (one b) W w') := by
        have h := hin
        rw [show numP max l = .error x from hr] at h
        exact h
      clear hr hin
      go_enter_defers Try.func7, Try.ntmps7
      go_wp2_with fail
      rw [← HW.out]
      refine hin'.out.mono ?_
      rintro o w1 ⟨rfl, ⟨l1, y1, hd1⟩, hk1⟩
      have cpd1 : w1.cell? ⟨w.heap.size, 0, none⟩ = some (.pointer (some ⟨b, 0, none⟩)) := hk1.cell cpd (fun h => by have : w.heap.size = b := h; omega)
      have cpv1 : w1.cell? ⟨w.heap.size + 1, 0, none⟩ = some (.int .u64 0) := hk1.cell cpv (fun h => by have : w.heap.size + 1 = b := h; omega)
      have fpv1 : w1.frozen? ⟨w.heap.size + 1, 0, none⟩ = false := (hk1.frozen (p := ⟨w.heap.size + 1, 0, none⟩) (by have := HWs.out; show w.heap.size + 1 < _; omega) (fun h => by have : w.heap.size + 1 = b := h; omega)).trans fpv
      clear cpd cpv fpv
      refine leaves_cons (f := 9) (args := #[.pointer (some ⟨w.heap.size, 0, none⟩), .pointer (some ⟨w.heap.size + 1, 0, none⟩)]) (by simp) (by simp [go_sem]) ?_
      refine (catch_Var_stop b w.heap.size (w.heap.size + 1) 0 x l1 y1 [] w1 hd1 cpd1 cpv1 fpv1 (by omega)).mono ?_
      rintro o u' w2 ⟨rfl, rfl, hc, hd2, hk2⟩
      simp [Leaves, settle, results, Try.results7, go_sem, hc]
      rw [HE.out]
      exact ⟨rfl, hd2, take_keeps HB.out ((two_of_one hk1).trans hk2) (by omega)⟩
    | ok q =>
      obtain ⟨v, r⟩ := q
      have HE := Lib.hid (takeS_ok (z := (0 : Nat)) (p := (numP max)) (l := l) (v := v) (r := r) hr)
      have hin' : Hid (Calls Try.prog 11 #[.pointer (some ⟨b, 0, none⟩), .int .u64 max] W fun e w' => e = .returned (.int .u64 v) ∧ DecAt w' b r 0 ∧ Keeps (one b) W w') := by
        have h := hin
        rw [show numP max l = .ok (v, r) from hr] at h
        exact h
      clear hr hin
      go_enter_defers Try.func7, Try.ntmps7
      go_wp2_with fail
      rw [← HW.out]
      refine hin'.out.mono ?_
      rintro o w1 ⟨rfl, hd1, hk1⟩
      have cpd1 : w1.cell? ⟨w.heap.size, 0, none⟩ = some (.pointer (some ⟨b, 0, none⟩)) := hk1.cell cpd (fun h => by have : w.heap.size = b := h; omega)
      have cpv1 : w1.cell? ⟨w.heap.size + 1, 0, none⟩ = some (.int .u64 0) := hk1.cell cpv (fun h => by have : w.heap.size + 1 = b := h; omega)
      have fpv1 : w1.frozen? ⟨w.heap.size + 1, 0, none⟩ = false := (hk1.frozen (p := ⟨w.heap.size + 1, 0, none⟩) (by have := HWs.out; show w.heap.size + 1 < _; omega) (fun h => by have : w.heap.size + 1 = b := h; omega)).trans fpv
      clear cpd cpv fpv
      go_wp2
      refine leaves_cons (f := 9) (args := #[.pointer (some ⟨w.heap.size, 0, none⟩), .pointer (some ⟨w.heap.size + 1, 0, none⟩)]) (by simp) (by simp [go_sem]) ?_
      refine (catch_Var_idle b w.heap.size (w.heap.size + 1) v _ (by rw [World.cell?_setCell_other _ _ _ _ (by simp)]; exact cpd1) (World.cell?_setCell_same _ _ _ cpv1) (by simp [fpv1])).mono ?_
      rintro o u' w2 ⟨rfl, rfl, hc, hk2⟩
      simp [Leaves, settle, results, Try.results7, go_sem, hc]
      rw [HE.out]
      have hk3 : Keeps (two b (w.heap.size + 1)) W w2 := (two_of_one hk1).trans (two_of_other (((Keeps.refl (one (w.heap.size + 1)) w1).set_one _).trans hk2))
      exact ⟨rfl, hd1.keeps (((Keeps.refl (one (w.heap.size + 1)) w1).set_one _).trans hk2) (fun h => by have : b = w.heap.size + 1 := h; omega), take_keeps HB.out hk3 (by omega)⟩
  · have HE := Lib.hid (takeS_stop (z := (0 : Nat)) (p := (numP max)) (l := l) he)
    have hx : (e == 0) = false := by rw [beq_eq_false_iff_ne]; exact he
    go_enter_defers Try.func7, Try.ntmps7
    go_wp2_with fail
    rw [← HW.out]
    refine (number_stop b l max e hx W HD.out).mono ?_
    rintro o w1 ⟨rfl, rfl⟩
    refine leaves_cons (f := 9) (args := #[.pointer (some ⟨w.heap.size, 0, none⟩), .pointer (some ⟨w.heap.size + 1, 0, none⟩)]) (by simp) (by simp [go_sem]) ?_
    refine (catch_Var_stop b w.heap.size (w.heap.size + 1) 0 e l e [] W HD.out cpd cpv fpv (by omega)).mono ?_
    rintro o u' w2 ⟨rfl, rfl, hc, hd2, hk2⟩
    simp [Leaves, settle, results, Try.results7, go_sem, hc]
    rw [HE.out]
    exact ⟨rfl, hd2, take_keeps HB.out hk2 (by omega)⟩

end Go.Proofs.Ytbiogajejcfkfaa
