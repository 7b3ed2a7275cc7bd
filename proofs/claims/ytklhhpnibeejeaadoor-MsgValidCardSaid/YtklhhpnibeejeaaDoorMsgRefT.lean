/-
  THE REFERENCE: the tables of the statuses, and status.
-/
import Derived.Test.YtklhhpnibeejeaaDoorMsgV
import Derived.BigQuiet
namespace Go.Proofs.YtklhhpnibeejeaaDoor
open Go.RowKit
set_option linter.unusedVariables false

def dataT (i : Nat) : Int := [0, 11, 60, 90, 140, 142].getD i 0
def voteT (i : Nat) : Int := [0, 11, 60, 90, 100, 141, 164].getD i 0
/-- The two tables of the statuses lie in memory. -/
structure STab (w : World) : Prop where
  data : ∀ i : Nat, i < 6 → w.cell? ⟨0, i, none⟩ = some (.int .i64 (dataT i))
  vote : ∀ i : Nat, i < 7 → w.cell? ⟨1, i, none⟩ = some (.int .i64 (voteT i))
theorem STab.lt {w : World} (h : STab w) : 0 < w.heap.size ∧ 1 < w.heap.size :=
  ⟨World.block_lt_of_cell? w ⟨0, 0, none⟩ (h.data 0 (by omega)), World.block_lt_of_cell? w ⟨1, 0, none⟩ (h.vote 0 (by omega))⟩
theorem STab.below {w w' : World} (h : STab w) (hb : Below w.heap.size w w') : STab w' :=
  ⟨fun i hi => (hb.cell (p := ⟨0, i, none⟩) h.lt.1).trans (h.data i hi), fun i hi => (hb.cell (p := ⟨1, i, none⟩) h.lt.2).trans (h.vote i hi)⟩
def saidL (k e : Int) : Bool := (decide (k = 2) && (decide (e = 0) || dataFail e)) || (decide (k = 4) && (decide (e = 0) || voteFail e))
theorem data_in (e : Int) : (decide (e = 0) || dataFail e) = true ↔ ∃ i, i < 6 ∧ e = dataT i := by
  constructor
  · intro h
    simp [dataFail] at h
    rcases h with h | h | h | h | h | h
    · exact ⟨0, by omega, h⟩
    · exact ⟨1, by omega, h⟩
    · exact ⟨2, by omega, h⟩
    · exact ⟨3, by omega, h⟩
    · exact ⟨4, by omega, h⟩
    · exact ⟨5, by omega, h⟩
  · rintro ⟨i, hi, rfl⟩
    match i, hi with
    | 0, _ | 1, _ | 2, _ | 3, _ | 4, _ | 5, _ => decide
theorem vote_in (e : Int) : (decide (e = 0) || voteFail e) = true ↔ ∃ i, i < 7 ∧ e = voteT i := by
  constructor
  · intro h
    simp [voteFail] at h
    rcases h with h | h | h | h | h | h | h
    · exact ⟨0, by omega, h⟩
    · exact ⟨1, by omega, h⟩
    · exact ⟨2, by omega, h⟩
    · exact ⟨3, by omega, h⟩
    · exact ⟨4, by omega, h⟩
    · exact ⟨5, by omega, h⟩
    · exact ⟨6, by omega, h⟩
  · rintro ⟨i, hi, rfl⟩
    match i, hi with
    | 0, _ | 1, _ | 2, _ | 3, _ | 4, _ | 5, _ | 6, _ => decide
set_option maxRecDepth 100000 in
set_option maxHeartbeats 4000000 in
theorem status_any (k e : Int) (w : World) (hT : STab w) :
    Calls Tryd.prog 51 #[.int .i64 k, .int .i64 e] w fun o w' => o = .returned (.bool (saidL k e)) ∧ ∃ q, w' = w.drewN q := by
  have HT := Lib.hid hT
  clear hT
  go_enter Tryd.func51, Tryd.ntmps51
  go_wp2
  go_loopw [5] (fun x wr => ∃ i : Nat, i ≤ 6 ∧ x = .int .i64 i ∧ Hid (∀ j, j < i → ¬ (k = 2 ∧ e = dataT j)) ∧ ∃ q, wr = w.drewN q) (fun x _ => 6 - (intOf x).toNat)
  case atStart => exact ⟨0, by omega, by go_num, fun j h => absurd h (by omega), 0, rfl⟩
  case round =>
    obtain ⟨i, hi, rfl, hno, q, rfl⟩ := hrel
    by_cases hin : i < 6
    · have c0 : w.cell? ⟨0, i, none⟩ = some (.int .i64 (dataT i)) := HT.out.data i hin
      have i0 : (0 : Int) ≤ (i : Int) := by omega
      have i1 : (i : Int) < 6 := by omega
      obtain ⟨d, hd⟩ : ∃ d, d = dataT i := ⟨_, rfl⟩
      rw [← hd] at c0
      have HD := Lib.hid hd
      have HI := Lib.hid hin
      clear hd
      by_cases h2 : k = 2
      · have e2 : (k == 2) = true := by rw [beq_iff_eq]; exact h2
        by_cases he : e = d
        · have e3 : (e == d) = true := by rw [beq_iff_eq]; exact he
          have HF : Hid (saidL k e = true) := by
            show _ = _
            unfold saidL
            rw [(data_in e).2 ⟨i, HI.out, by rw [← HD.out]; exact he⟩, h2]
            rfl
          clear h2 he
          go_wp2
          go_ret
          exact ⟨by rw [HF.out]; rfl, by first | exact ⟨_, World.drewN_drewN _ _ _⟩ | exact ⟨_, rfl⟩⟩
        · have e3 : (e == d) = false := by rw [beq_eq_false_iff_ne]; exact he
          have HE := Lib.hid he
          clear h2 he
          go_wp2
          go_roundw
          case rel =>
            refine ⟨i + 1, by omega, by go_num, fun j h => ?_, by first | exact ⟨_, World.drewN_drewN _ _ _⟩ | exact ⟨_, rfl⟩⟩
            by_cases e : j = i
            · subst e; rintro ⟨_, g⟩; exact HE.out (g.trans HD.out.symm)
            · exact hno.out j (by omega)
          case measure => simp [intOf]; omega
      · have e2 : (k == 2) = false := by rw [beq_eq_false_iff_ne]; exact h2
        have HK2 := Lib.hid h2
        clear h2
        go_wp2
        go_roundw
        case rel =>
          exact ⟨i + 1, by omega, by go_num, fun j h g => HK2.out g.1, by first | exact ⟨_, World.drewN_drewN _ _ _⟩ | exact ⟨_, rfl⟩⟩
        case measure => simp [intOf]; omega
    · have hni : 6 ≤ i := by omega
      have HN1 : Hid (¬ (k = 2 ∧ (decide (e = 0) || dataFail e) = true)) := by
        rintro ⟨g1, g2⟩
        obtain ⟨j, hj, g3⟩ := (data_in e).1 g2
        exact hno.out j (by omega) ⟨g1, g3⟩
      clear hin hno
      go_wp2
      go_loopw [6] (fun x wr => ∃ i : Nat, i ≤ 7 ∧ x = .int .i64 i ∧ Hid (∀ j, j < i → ¬ (k = 4 ∧ e = voteT j)) ∧ ∃ q, wr = w.drewN q) (fun x _ => 7 - (intOf x).toNat)
      case atStart => exact ⟨0, by omega, by go_num, fun j h => absurd h (by omega), q, rfl⟩
      case round =>
        obtain ⟨a, ha, rfl, hno, q, rfl⟩ := hrel
        by_cases hin : a < 7
        · have c0 : w.cell? ⟨1, a, none⟩ = some (.int .i64 (voteT a)) := HT.out.vote a hin
          have i0 : (0 : Int) ≤ (a : Int) := by omega
          have i1 : (a : Int) < 7 := by omega
          obtain ⟨d, hd⟩ : ∃ d, d = voteT a := ⟨_, rfl⟩
          rw [← hd] at c0
          have HD := Lib.hid hd
          have HI := Lib.hid hin
          clear hd
          by_cases h2 : k = 4
          · have e2 : (k == 4) = true := by rw [beq_iff_eq]; exact h2
            by_cases he : e = d
            · have e3 : (e == d) = true := by rw [beq_iff_eq]; exact he
              have HF : Hid (saidL k e = true) := by
                show _ = _
                unfold saidL
                rw [(vote_in e).2 ⟨a, HI.out, by rw [← HD.out]; exact he⟩, h2]
                rfl
              clear h2 he
              go_wp2
              go_ret
              exact ⟨by rw [HF.out]; rfl, by first | exact ⟨_, World.drewN_drewN _ _ _⟩ | exact ⟨_, rfl⟩⟩
            · have e3 : (e == d) = false := by rw [beq_eq_false_iff_ne]; exact he
              have HE := Lib.hid he
              clear h2 he
              go_wp2
              go_roundw
              case rel =>
                refine ⟨a + 1, by omega, by go_num, fun j h => ?_, by first | exact ⟨_, World.drewN_drewN _ _ _⟩ | exact ⟨_, rfl⟩⟩
                by_cases e : j = a
                · subst e; rintro ⟨_, g⟩; exact HE.out (g.trans HD.out.symm)
                · exact hno.out j (by omega)
              case measure => simp [intOf]; omega
          · have e2 : (k == 4) = false := by rw [beq_eq_false_iff_ne]; exact h2
            have HK2 := Lib.hid h2
            clear h2
            go_wp2
            go_roundw
            case rel =>
              exact ⟨a + 1, by omega, by go_num, fun j h g => HK2.out g.1, by first | exact ⟨_, World.drewN_drewN _ _ _⟩ | exact ⟨_, rfl⟩⟩
            case measure => simp [intOf]; omega
        · have hna : 7 ≤ a := by omega
          have HN2 : Hid (¬ (k = 4 ∧ (decide (e = 0) || voteFail e) = true)) := by
            rintro ⟨g1, g2⟩
            obtain ⟨j, hj, g3⟩ := (vote_in e).1 g2
            exact hno.out j (by omega) ⟨g1, g3⟩
          have HF : Hid (saidL k e = false) := by
            show _ = _
            rw [← Bool.not_eq_true]
            unfold saidL
            rw [Bool.or_eq_true, Bool.and_eq_true, Bool.and_eq_true, decide_eq_true_eq, decide_eq_true_eq]
            rintro (g | g)
            · exact HN1.out g
            · exact HN2.out g
          clear hin hno
          go_wp2
          go_ret
          exact ⟨by rw [HF.out]; rfl, by first | exact ⟨_, World.drewN_drewN _ _ _⟩ | exact ⟨_, rfl⟩⟩
end Go.Proofs.YtklhhpnibeejeaaDoor
