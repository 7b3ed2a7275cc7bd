/-
  MESSAGES, PLAIN: a message as a value, when it may be, and what a message of its kind names. Of no function.
-/
import Derived.Test.YtklhhpnibeejeaaDoorKit
namespace Go.Proofs.YtklhhpnibeejeaaDoor
set_option linter.unusedVariables false

/-- A message. -/
structure Mes where
  kind : Int
  frm : Nat
  dst : Nat
  cl : Nat
  seq : Nat
  home : Nat
  op : Nat
  wall : Nat
  log : Nat
  node : Nat
  status : Int
  outcome : Int
  reads : List (ByteArray × ByteArray)
  writes : List (ByteArray × Bool × ByteArray)
  pairs : List (ByteArray × ByteArray)
/-- A message of no fields. -/
def Mes.bare (k : Int) (f t : Nat) : Mes := ⟨k, f, t, 0, 0, 0, 0, 0, 0, 0, 0, 0, [], [], []⟩
/-- The fields that the kind names. -/
def Mes.named (m : Mes) : Mes :=
  if m.kind = 1 then { Mes.bare m.kind m.frm m.dst with op := m.op, wall := m.wall, log := m.log, node := m.node, reads := m.reads }
  else if m.kind = 2 then { Mes.bare m.kind m.frm m.dst with op := m.op, wall := m.wall, log := m.log, node := m.node, status := m.status, pairs := m.pairs }
  else if m.kind = 3 then { Mes.bare m.kind m.frm m.dst with cl := m.cl, seq := m.seq, home := m.home, wall := m.wall, log := m.log, node := m.node, reads := m.reads, writes := m.writes }
  else if m.kind = 4 then { Mes.bare m.kind m.frm m.dst with cl := m.cl, seq := m.seq, home := m.home, wall := m.wall, log := m.log, node := m.node, status := m.status }
  else if m.kind = 5 then { Mes.bare m.kind m.frm m.dst with cl := m.cl, seq := m.seq, home := m.home, wall := m.wall, log := m.log, node := m.node }
  else if m.kind = 6 ∨ m.kind = 7 ∨ m.kind = 9 then { Mes.bare m.kind m.frm m.dst with cl := m.cl, seq := m.seq, home := m.home, wall := m.wall, log := m.log, node := m.node, outcome := m.outcome }
  else if m.kind = 8 then { Mes.bare m.kind m.frm m.dst with cl := m.cl, seq := m.seq, home := m.home }
  else Mes.bare m.kind m.frm m.dst
def bad2 (s : ByteArray × ByteArray) : Bool := decide (33 < s.1.size) || decide (33 < s.2.size) || (!(s.2.toList == [])) && !(Op.bytesLess s.1.toList s.2.toList)
def goodKeyL (s : ByteArray) : Bool := decide (0 < s.size) && decide (s.size ≤ 32)
def spansOK (l : List (ByteArray × ByteArray)) : Bool := decide (l.length ≤ 16) && !l.any bad2
/-- What stands at i behind what stands one ahead of it. -/
def risesAt (f : Nat → ByteArray) (i : Nat) : Bool := decide (i = 0) || Op.bytesLess (f (i - 1)).toList (f i).toList
def writeAt (l : List (ByteArray × Bool × ByteArray)) (i : Nat) : Bool :=
  match l[i]? with
  | none => true
  | some x => goodKeyL x.1 && decide (x.2.2.size ≤ 64) && !(x.2.1 && !(x.2.2.toList == [])) && (decide (i = 0) || Op.bytesLess ((l[i - 1]?.map fun y => y.1.toList).getD []) x.1.toList)
def writesOK (l : List (ByteArray × Bool × ByteArray)) : Bool := decide (l.length ≤ 16) && (List.range l.length).all (writeAt l)
def pairAt (l : List (ByteArray × ByteArray)) (i : Nat) : Bool :=
  match l[i]? with
  | none => true
  | some x => goodKeyL x.1 && decide (x.2.size ≤ 64) && (decide (i = 0) || Op.bytesLess ((l[i - 1]?.map fun y => y.1.toList).getD []) x.1.toList)
def pairsOK (l : List (ByteArray × ByteArray)) : Bool := decide (l.length ≤ 512) && (List.range l.length).all (pairAt l)
def dataFail (x : Int) : Bool := [11, 60, 90, 140, 142].contains x
def voteFail (x : Int) : Bool := [11, 60, 90, 100, 141, 164].contains x
def Mes.still (m : Mes) : Bool := decide (m.wall = 0) && decide (m.log = 0) && decide (m.node = 0)
/-- What the body of a message must be. -/
def Mes.good (m : Mes) : Bool :=
  if m.kind = 1 then decide (m.reads.length = 1) && spansOK m.reads
  else if m.kind = 2 then (if m.status = 0 then pairsOK m.pairs else dataFail m.status && decide (m.pairs.length = 0))
  else if m.kind = 3 then decide (0 < m.seq) && spansOK m.reads && writesOK m.writes && decide (0 < m.reads.length + m.writes.length)
  else if m.kind = 4 then (if m.status = 0 then decide (0 < m.seq) else voteFail m.status && decide (0 < m.seq) && m.still)
  else if m.kind = 5 then decide (0 < m.seq)
  else if m.kind = 6 ∨ m.kind = 7 ∨ m.kind = 9 then decide (0 < m.seq) && (decide (m.outcome = 1) || decide (m.outcome = 2) && m.still)
  else if m.kind = 8 then decide (0 < m.seq)
  else false
/-- The same message. -/
def same2 (a b : Mes) : Bool :=
  decide (a.kind = b.kind) && decide (a.frm = b.frm) && decide (a.dst = b.dst) && decide (a.cl = b.cl) && decide (a.seq = b.seq) && decide (a.home = b.home) && decide (a.op = b.op) &&
  decide (a.wall = b.wall) && decide (a.log = b.log) && decide (a.node = b.node) && decide (a.status = b.status) && decide (a.outcome = b.outcome) &&
  decide (a.reads = b.reads) && decide (a.writes = b.writes) && decide (a.pairs = b.pairs)
theorem same2_iff (a b : Mes) : same2 a b = true ↔ a = b := by
  cases a; cases b
  simp [same2, and_assoc]
def Mes.valid (m : Mes) : Bool := decide (1 ≤ m.kind) && decide (m.kind ≤ 9) && m.good && same2 m m.named
/-- The reference's rules. -/
def Mes.rules (m : Mes) : Bool :=
  if m.kind = 1 then decide (m.reads.length = 1)
  else if m.kind = 2 then (decide (m.status = 0) || dataFail m.status) && (decide (m.status = 0) || decide (m.pairs.length = 0))
  else if m.kind = 3 then decide (0 < m.reads.length) || decide (0 < m.writes.length)
  else if m.kind = 4 then (decide (m.status = 0) || voteFail m.status) && (decide (m.status = 0) || m.still)
  else if m.kind = 6 ∨ m.kind = 7 ∨ m.kind = 9 then decide (m.outcome = 1) || decide (m.outcome = 2) && m.still
  else true
def Mes.refGood (m : Mes) : Bool :=
  decide (1 ≤ m.kind) && decide (m.kind ≤ 9) && same2 m m.named && spansOK m.reads && writesOK m.writes && pairsOK m.pairs && m.rules &&
  !(decide (3 ≤ m.kind) && decide (m.kind ≤ 9) && decide (m.seq = 0))
theorem kinds (k : Int) (h : 1 ≤ k) (h' : k ≤ 9) : k = 1 ∨ k = 2 ∨ k = 3 ∨ k = 4 ∨ k = 5 ∨ k = 6 ∨ k = 7 ∨ k = 8 ∨ k = 9 := by omega
theorem refGood_valid (m : Mes) : m.refGood = m.valid := by
  obtain ⟨kind, frm, dst, cl, seq, home, op, wall, log, node, status, outcome, reads, writes, pairs⟩ := m
  by_cases h : 1 ≤ kind ∧ kind ≤ 9
  · have e1 : spansOK [] = true := rfl
    have e2 : writesOK [] = true := rfl
    have e3 : pairsOK [] = true := rfl
    rcases kinds _ h.1 h.2 with rfl | rfl | rfl | rfl | rfl | rfl | rfl | rfl | rfl
    all_goals
      rw [Bool.eq_iff_iff]
      simp [Mes.refGood, Mes.valid, Mes.good, Mes.named, Mes.bare, Mes.rules, Mes.still, same2]
    all_goals (by_cases hs : status = 0 <;> by_cases hq : seq = 0 <;> simp [hs, hq] <;> (try constructor) <;> intro h <;> (try simp_all) <;> (try omega))
  · have e : (decide (1 ≤ kind) && decide (kind ≤ 9)) = false := by
      rw [← Bool.not_eq_true]
      simpa using h
    simp only [Mes.refGood, Mes.valid, e, Bool.false_and]
end Go.Proofs.YtklhhpnibeejeaaDoor
