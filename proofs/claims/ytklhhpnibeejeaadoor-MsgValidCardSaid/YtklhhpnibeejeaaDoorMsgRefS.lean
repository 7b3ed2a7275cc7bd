/-
  THE REFERENCE: Same. Printed by gen_msgrefs.py.
-/
import Derived.Test.YtklhhpnibeejeaaDoorMsgV
import Derived.BigQuiet
namespace Go.Proofs.YtklhhpnibeejeaaDoor
open Go.RowKit
set_option linter.unusedVariables false

set_option maxHeartbeats 20000000 in
set_option maxRecDepth 100000 in
theorem rsame_any (m n : Mes) (s t : Sl) (w : World) (hm : MsgIn w m s) (hn : MsgIn w n t) :
    Calls Tryd.prog 13 #[msgV m s, msgV n t] w fun e w' => e = .returned (.bool (same2 m n)) ∧ Below w.heap.size w w' := by
  have HM := Lib.hid hm
  have HN := Lib.hid hn
  clear hm hn
  unfold msgV
  obtain ⟨r1, hr1⟩ : ∃ r1, r1 = m.reads.length := ⟨_, rfl⟩
  obtain ⟨r2, hr2⟩ : ∃ r2, r2 = n.reads.length := ⟨_, rfl⟩
  obtain ⟨w1, hw1⟩ : ∃ w1, w1 = m.writes.length := ⟨_, rfl⟩
  obtain ⟨w2, hw2⟩ : ∃ w2, w2 = n.writes.length := ⟨_, rfl⟩
  obtain ⟨p1, hp1⟩ : ∃ p1, p1 = m.pairs.length := ⟨_, rfl⟩
  obtain ⟨p2, hp2⟩ : ∃ p2, p2 = n.pairs.length := ⟨_, rfl⟩
  rw [← hr1, ← hr2, ← hw1, ← hw2, ← hp1, ← hp2]
  have HR1 := Lib.hid hr1
  have HR2 := Lib.hid hr2
  have HW1 := Lib.hid hw1
  have HW2 := Lib.hid hw2
  have HP1 := Lib.hid hp1
  have HP2 := Lib.hid hp2
  have br1 : r1 ≤ 140737488355328 := by rw [hr1]; exact HM.out.rlen
  have br2 : r2 ≤ 140737488355328 := by rw [hr2]; exact HN.out.rlen
  have bw1 : w1 ≤ 140737488355328 := by rw [hw1]; exact HM.out.wlen
  have bw2 : w2 ≤ 140737488355328 := by rw [hw2]; exact HN.out.wlen
  have bp1 : p1 ≤ 140737488355328 := by rw [hp1]; exact HM.out.plen
  have bp2 : p2 ≤ 140737488355328 := by rw [hp2]; exact HN.out.plen
  clear hr1 hr2 hw1 hw2 hp1 hp2
  go_enter Tryd.func13, Tryd.ntmps13
  go_wp2
  any_goals
    (go_ret
     refine ⟨ret_bool ?_, two_below _ _ _⟩
     rw [eq_comm, ← Bool.not_eq_true, same2_iff]
     intro e
     have e0 := congrArg Mes.kind e
     have e1 := congrArg Mes.frm e
     have e2 := congrArg Mes.dst e
     have e3 := congrArg Mes.cl e
     have e4 := congrArg Mes.seq e
     have e5 := congrArg Mes.home e
     have e6 := congrArg Mes.op e
     have e7 := congrArg Mes.wall e
     have e8 := congrArg Mes.log e
     have e9 := congrArg Mes.node e
     have e10 := congrArg Mes.status e
     have e11 := congrArg Mes.outcome e
     have lr : r1 = r2 := by rw [HR1.out, HR2.out, e]
     have lw : w1 = w2 := by rw [HW1.out, HW2.out, e]
     have lp : p1 = p2 := by rw [HP1.out, HP2.out, e]
     (try simp only [bne_eq_false_iff_eq, bne_iff_ne] at *)
     omega)
  try simp only [bne_eq_false_iff_eq] at *
  have HEQ : Hid (m.kind = n.kind ∧ m.frm = n.frm ∧ m.dst = n.dst ∧ m.cl = n.cl ∧ m.seq = n.seq ∧ m.home = n.home ∧ m.op = n.op ∧ m.wall = n.wall ∧ m.log = n.log ∧ m.node = n.node ∧ m.status = n.status ∧ m.outcome = n.outcome) := ⟨by omega, by omega, by omega, by omega, by omega, by omega, by omega, by omega, by omega, by omega, by omega, by omega⟩
  have lr : r1 = r2 := by omega
  have lw : w1 = w2 := by omega
  have lp : p1 = p2 := by omega
  obtain ⟨W, hW⟩ : ∃ W, W = (w.alloc (.cells #[.int .i64 n.kind, .int .u32 n.frm, .int .u32 n.dst, .int .u32 n.cl, .int .u32 n.seq, .int .u32 n.home, .int .u32 m.op, .int .u64 n.wall, .int .u32 n.log, .int .u32 n.node, .int .i64 n.status, .int .i64 m.outcome, .slice s.ra r1 s.rc, .slice s.wa w1 s.wc, .slice s.pa p1 s.pc] 37)).alloc (.cells #[.int .i64 n.kind, .int .u32 n.frm, .int .u32 n.dst, .int .u32 n.cl, .int .u32 n.seq, .int .u32 n.home, .int .u32 n.op, .int .u64 n.wall, .int .u32 n.log, .int .u32 n.node, .int .i64 n.status, .int .i64 n.outcome, .slice t.ra r2 t.rc, .slice t.wa w2 t.wc, .slice t.pa p2 t.pc] 37) := ⟨_, rfl⟩
  have HBW : Hid (Below w.heap.size w W) := by rw [hW]; exact two_below _ _ _
  obtain ⟨A, hA⟩ : ∃ A, A = w.heap.size := ⟨_, rfl⟩
  obtain ⟨B, hB⟩ : ∃ B, B = w.heap.size + 1 := ⟨_, rfl⟩
  have HZ : Hid (W.cell? ⟨A, 12, none⟩ = some (.slice s.ra r1 s.rc) ∧ W.cell? ⟨A, 13, none⟩ = some (.slice s.wa w1 s.wc) ∧ W.cell? ⟨A, 14, none⟩ = some (.slice s.pa p1 s.pc) ∧ W.cell? ⟨B, 12, none⟩ = some (.slice t.ra r2 t.rc) ∧ W.cell? ⟨B, 13, none⟩ = some (.slice t.wa w2 t.wc) ∧ W.cell? ⟨B, 14, none⟩ = some (.slice t.pa p2 t.pc)) := by
    rw [hW, hA, hB]
    refine ⟨?_, ?_, ?_, ?_, ?_, ?_⟩ <;> go_cell
  have HM2 : Hid (MsgIn W m s) := HM.out.below HBW.out (Nat.le_refl _)
  have HN2 : Hid (MsgIn W n t) := HN.out.below HBW.out (Nat.le_refl _)
  have y1 : W.cell? ⟨A, 12, none⟩ = some (.slice s.ra r1 s.rc) := (HZ.out).1
  rw [← hW, ← hB, ← hA]
  have HAA := Lib.hid hA
  clear hW hA hB HM HN
  go_loopw [5] (fun x wr => ∃ k : Nat, k ≤ r1 ∧ x = .int .i64 k ∧ Hid (∀ j, j < k → m.reads[j]? = n.reads[j]?) ∧ ∃ q, wr = W.drewN q) (fun x _ => r1 - (intOf x).toNat)
  case atStart => exact ⟨0, Nat.zero_le _, by go_num, fun j hj => absurd hj (by omega), 0, rfl⟩
  case round =>
    obtain ⟨k, hk, rfl, hsame, q, rfl⟩ := hrel
    by_cases hkn : k < r1
    · have hka : k < m.reads.length := by have := HR1.out; omega
      have hkb : k < n.reads.length := by have := HR2.out; omega
      obtain ⟨b1, o1, ea1, hc1⟩ := HM2.out.reads.at k hka
      obtain ⟨b2, o2, ea2, hc2⟩ := HN2.out.reads.at k hkb
      have z1 : W.cell? ⟨A, 12, none⟩ = some (.slice (some ⟨b1, o1, none⟩) r1 s.rc) := by rw [← ea1]; exact (HZ.out).1
      have z2 : W.cell? ⟨B, 12, none⟩ = some (.slice (some ⟨b2, o2, none⟩) r2 t.rc) := by rw [← ea2]; exact (HZ.out).2.2.2.1
      obtain ⟨x, hx⟩ : ∃ x, x = m.reads[k] := ⟨_, rfl⟩
      obtain ⟨y, hy⟩ : ∃ y, y = n.reads[k] := ⟨_, rfl⟩
      have c0 : W.cell? ⟨b1, o1 + k * 2, none⟩ = some (.string x.1) := by rw [hx]; exact (hc1 k hka).1
      have c1 : W.cell? ⟨b1, o1 + k * 2 + 1, none⟩ = some (.string x.2) := by rw [hx]; exact (hc1 k hka).2
      have d0 : W.cell? ⟨b2, o2 + k * 2, none⟩ = some (.string y.1) := by rw [hy]; exact (hc2 k hkb).1
      have d1 : W.cell? ⟨b2, o2 + k * 2 + 1, none⟩ = some (.string y.2) := by rw [hy]; exact (hc2 k hkb).2
      have i0 : (0 : Int) ≤ (k : Int) := by omega
      have i1 : (k : Int) < (r1 : Int) := by omega
      have i2 : (k : Int) < (r2 : Int) := by omega
      have HS : Hid (m.reads[k]? = some x) := by show _ = _; rw [hx]; exact List.getElem?_eq_getElem hka
      have HT : Hid (n.reads[k]? = some y) := by show _ = _; rw [hy]; exact List.getElem?_eq_getElem hkb
      clear hc1 hc2 hx hy hka hkb ea1 ea2 y1
      by_cases hst : x = y
      · have HE : Hid (m.reads[k]? = n.reads[k]?) := by show _ = _; rw [HS.out, HT.out, hst]
        have q0 : x.1.toList = y.1.toList := by rw [hst]
        have q1 : x.2.toList = y.2.toList := by rw [hst]
        clear hst
        go_wp2_with fail
        go_quiet (fail)
        go_wp2
        go_roundw
        case rel =>
          refine ⟨k + 1, by omega, by go_num, fun j hj => ?_, by first | exact ⟨_, World.drewN_drewN _ _ _⟩ | exact ⟨_, rfl⟩⟩
          by_cases e : j = k
          · subst e; exact HE.out
          · exact hsame.out j (by omega)
        case measure => simp [intOf]; omega
      · have HF : Hid (same2 m n = false) := by
          show _ = _
          rw [← Bool.not_eq_true, same2_iff]
          intro h
          have HS2 := HS.out
          rw [h, HT.out] at HS2
          exact hst (Option.some.inj HS2).symm
        have HST := Lib.hid hst
        clear hst
        by_cases q0 : x.1.toList = y.1.toList
        rotate_left
        · go_wp2_with fail
          go_quiet (fail)
          go_wp2
          go_ret
          exact ⟨ret_bool (by rw [HF.out]), by first | exact below_drewN (HBW.out) _ | exact below_drewN (below_drewN (HBW.out) _) _⟩
        have q1 : ¬ x.2.toList = y.2.toList := fun q1 => HST.out (Prod.ext (str_ext q0) (str_ext q1))
        go_wp2_with fail
        go_quiet (fail)
        go_wp2
        go_ret
        exact ⟨ret_bool (by rw [HF.out]), by first | exact below_drewN (HBW.out) _ | exact below_drewN (below_drewN (HBW.out) _) _⟩
    · have HEr : Hid (m.reads = n.reads) := list_ext (by rw [← HR1.out, ← HR2.out]; exact lr) (fun j hj => hsame.out j (by have := HR1.out; omega))
      have hnk : r1 ≤ k := by omega
      have y1 : W.cell? ⟨A, 12, none⟩ = some (.slice s.ra r1 s.rc) := (HZ.out).1
      clear hkn
      go_wp2
      go_loopw [6] (fun x wr => ∃ k : Nat, k ≤ w1 ∧ x = .int .i64 k ∧ Hid (∀ j, j < k → m.writes[j]? = n.writes[j]?) ∧ ∃ q, wr = W.drewN q) (fun x _ => w1 - (intOf x).toNat)
      case atStart => exact ⟨0, Nat.zero_le _, by go_num, fun j hj => absurd hj (by omega), q, rfl⟩
      case round =>
        obtain ⟨k, hk, rfl, hsame, q, rfl⟩ := hrel
        by_cases hkn : k < w1
        · have hka : k < m.writes.length := by have := HW1.out; omega
          have hkb : k < n.writes.length := by have := HW2.out; omega
          obtain ⟨b1, o1, ea1, hc1⟩ := HM2.out.writes.at k hka
          obtain ⟨b2, o2, ea2, hc2⟩ := HN2.out.writes.at k hkb
          have z1 : W.cell? ⟨A, 13, none⟩ = some (.slice (some ⟨b1, o1, none⟩) w1 s.wc) := by rw [← ea1]; exact (HZ.out).2.1
          have z2 : W.cell? ⟨B, 13, none⟩ = some (.slice (some ⟨b2, o2, none⟩) w2 t.wc) := by rw [← ea2]; exact (HZ.out).2.2.2.2.1
          obtain ⟨x, hx⟩ : ∃ x, x = m.writes[k] := ⟨_, rfl⟩
          obtain ⟨y, hy⟩ : ∃ y, y = n.writes[k] := ⟨_, rfl⟩
          have c0 : W.cell? ⟨b1, o1 + k * 3, none⟩ = some (.string x.1) := by rw [hx]; exact (hc1 k hka).1
          have c1 : W.cell? ⟨b1, o1 + k * 3 + 1, none⟩ = some (.bool x.2.1) := by rw [hx]; exact (hc1 k hka).2.1
          have c2 : W.cell? ⟨b1, o1 + k * 3 + 2, none⟩ = some (.string x.2.2) := by rw [hx]; exact (hc1 k hka).2.2
          have d0 : W.cell? ⟨b2, o2 + k * 3, none⟩ = some (.string y.1) := by rw [hy]; exact (hc2 k hkb).1
          have d1 : W.cell? ⟨b2, o2 + k * 3 + 1, none⟩ = some (.bool y.2.1) := by rw [hy]; exact (hc2 k hkb).2.1
          have d2 : W.cell? ⟨b2, o2 + k * 3 + 2, none⟩ = some (.string y.2.2) := by rw [hy]; exact (hc2 k hkb).2.2
          have i0 : (0 : Int) ≤ (k : Int) := by omega
          have i1 : (k : Int) < (w1 : Int) := by omega
          have i2 : (k : Int) < (w2 : Int) := by omega
          have HS : Hid (m.writes[k]? = some x) := by show _ = _; rw [hx]; exact List.getElem?_eq_getElem hka
          have HT : Hid (n.writes[k]? = some y) := by show _ = _; rw [hy]; exact List.getElem?_eq_getElem hkb
          clear hc1 hc2 hx hy hka hkb ea1 ea2 y1
          by_cases hst : x = y
          · have HE : Hid (m.writes[k]? = n.writes[k]?) := by show _ = _; rw [HS.out, HT.out, hst]
            have q0 : x.1.toList = y.1.toList := by rw [hst]
            have q1 : x.2.1 = y.2.1 := by rw [hst]
            have q2 : x.2.2.toList = y.2.2.toList := by rw [hst]
            clear hst
            go_wp2_with fail
            go_quiet (fail)
            go_wp2
            go_roundw
            case rel =>
              refine ⟨k + 1, by omega, by go_num, fun j hj => ?_, by first | exact ⟨_, World.drewN_drewN _ _ _⟩ | exact ⟨_, rfl⟩⟩
              by_cases e : j = k
              · subst e; exact HE.out
              · exact hsame.out j (by omega)
            case measure => simp [intOf]; omega
          · have HF : Hid (same2 m n = false) := by
              show _ = _
              rw [← Bool.not_eq_true, same2_iff]
              intro h
              have HS2 := HS.out
              rw [h, HT.out] at HS2
              exact hst (Option.some.inj HS2).symm
            have HST := Lib.hid hst
            clear hst
            by_cases q0 : x.1.toList = y.1.toList
            rotate_left
            · go_wp2_with fail
              go_quiet (fail)
              go_wp2
              go_ret
              exact ⟨ret_bool (by rw [HF.out]), by first | exact below_drewN (HBW.out) _ | exact below_drewN (below_drewN (HBW.out) _) _⟩
            by_cases q1 : x.2.1 = y.2.1
            rotate_left
            · go_wp2_with fail
              go_quiet (fail)
              go_wp2
              go_ret
              exact ⟨ret_bool (by rw [HF.out]), by first | exact below_drewN (HBW.out) _ | exact below_drewN (below_drewN (HBW.out) _) _⟩
            have q2 : ¬ x.2.2.toList = y.2.2.toList := fun q2 => HST.out (Prod.ext (str_ext q0) (Prod.ext (q1) (str_ext q2)))
            go_wp2_with fail
            go_quiet (fail)
            go_wp2
            go_ret
            exact ⟨ret_bool (by rw [HF.out]), by first | exact below_drewN (HBW.out) _ | exact below_drewN (below_drewN (HBW.out) _) _⟩
        · have HEw : Hid (m.writes = n.writes) := list_ext (by rw [← HW1.out, ← HW2.out]; exact lw) (fun j hj => hsame.out j (by have := HW1.out; omega))
          have hnk : w1 ≤ k := by omega
          have y1 : W.cell? ⟨A, 13, none⟩ = some (.slice s.wa w1 s.wc) := (HZ.out).2.1
          clear hkn
          go_wp2
          go_loopw [7] (fun x wr => ∃ k : Nat, k ≤ p1 ∧ x = .int .i64 k ∧ Hid (∀ j, j < k → m.pairs[j]? = n.pairs[j]?) ∧ ∃ q, wr = W.drewN q) (fun x _ => p1 - (intOf x).toNat)
          case atStart => exact ⟨0, Nat.zero_le _, by go_num, fun j hj => absurd hj (by omega), q, rfl⟩
          case round =>
            obtain ⟨k, hk, rfl, hsame, q, rfl⟩ := hrel
            by_cases hkn : k < p1
            · have hka : k < m.pairs.length := by have := HP1.out; omega
              have hkb : k < n.pairs.length := by have := HP2.out; omega
              obtain ⟨b1, o1, ea1, hc1⟩ := HM2.out.pairs.at k hka
              obtain ⟨b2, o2, ea2, hc2⟩ := HN2.out.pairs.at k hkb
              have z1 : W.cell? ⟨A, 14, none⟩ = some (.slice (some ⟨b1, o1, none⟩) p1 s.pc) := by rw [← ea1]; exact (HZ.out).2.2.1
              have z2 : W.cell? ⟨B, 14, none⟩ = some (.slice (some ⟨b2, o2, none⟩) p2 t.pc) := by rw [← ea2]; exact (HZ.out).2.2.2.2.2
              obtain ⟨x, hx⟩ : ∃ x, x = m.pairs[k] := ⟨_, rfl⟩
              obtain ⟨y, hy⟩ : ∃ y, y = n.pairs[k] := ⟨_, rfl⟩
              have c0 : W.cell? ⟨b1, o1 + k * 2, none⟩ = some (.string x.1) := by rw [hx]; exact (hc1 k hka).1
              have c1 : W.cell? ⟨b1, o1 + k * 2 + 1, none⟩ = some (.string x.2) := by rw [hx]; exact (hc1 k hka).2
              have d0 : W.cell? ⟨b2, o2 + k * 2, none⟩ = some (.string y.1) := by rw [hy]; exact (hc2 k hkb).1
              have d1 : W.cell? ⟨b2, o2 + k * 2 + 1, none⟩ = some (.string y.2) := by rw [hy]; exact (hc2 k hkb).2
              have i0 : (0 : Int) ≤ (k : Int) := by omega
              have i1 : (k : Int) < (p1 : Int) := by omega
              have i2 : (k : Int) < (p2 : Int) := by omega
              have HS : Hid (m.pairs[k]? = some x) := by show _ = _; rw [hx]; exact List.getElem?_eq_getElem hka
              have HT : Hid (n.pairs[k]? = some y) := by show _ = _; rw [hy]; exact List.getElem?_eq_getElem hkb
              clear hc1 hc2 hx hy hka hkb ea1 ea2 y1
              by_cases hst : x = y
              · have HE : Hid (m.pairs[k]? = n.pairs[k]?) := by show _ = _; rw [HS.out, HT.out, hst]
                have q0 : x.1.toList = y.1.toList := by rw [hst]
                have q1 : x.2.toList = y.2.toList := by rw [hst]
                clear hst
                go_wp2_with fail
                go_quiet (fail)
                go_wp2
                go_roundw
                case rel =>
                  refine ⟨k + 1, by omega, by go_num, fun j hj => ?_, by first | exact ⟨_, World.drewN_drewN _ _ _⟩ | exact ⟨_, rfl⟩⟩
                  by_cases e : j = k
                  · subst e; exact HE.out
                  · exact hsame.out j (by omega)
                case measure => simp [intOf]; omega
              · have HF : Hid (same2 m n = false) := by
                  show _ = _
                  rw [← Bool.not_eq_true, same2_iff]
                  intro h
                  have HS2 := HS.out
                  rw [h, HT.out] at HS2
                  exact hst (Option.some.inj HS2).symm
                have HST := Lib.hid hst
                clear hst
                by_cases q0 : x.1.toList = y.1.toList
                rotate_left
                · go_wp2_with fail
                  go_quiet (fail)
                  go_wp2
                  go_ret
                  exact ⟨ret_bool (by rw [HF.out]), by first | exact below_drewN (HBW.out) _ | exact below_drewN (below_drewN (HBW.out) _) _⟩
                have q1 : ¬ x.2.toList = y.2.toList := fun q1 => HST.out (Prod.ext (str_ext q0) (str_ext q1))
                go_wp2_with fail
                go_quiet (fail)
                go_wp2
                go_ret
                exact ⟨ret_bool (by rw [HF.out]), by first | exact below_drewN (HBW.out) _ | exact below_drewN (below_drewN (HBW.out) _) _⟩
            · have HEp : Hid (m.pairs = n.pairs) := list_ext (by rw [← HP1.out, ← HP2.out]; exact lp) (fun j hj => hsame.out j (by have := HP1.out; omega))
              have hnk : p1 ≤ k := by omega
              have y1 : W.cell? ⟨A, 14, none⟩ = some (.slice s.pa p1 s.pc) := (HZ.out).2.2.1
              clear hkn
              go_wp2
              go_ret
              refine ⟨ret_bool ?_, by first | exact below_drewN (HBW.out) _ | exact below_drewN (below_drewN (HBW.out) _) _⟩
              rw [eq_comm, same2_iff]
              obtain ⟨g0, g1, g2, g3, g4, g5, g6, g7, g8, g9, g10, g11⟩ := HEQ.out
              cases m; cases n
              have a1 := HEr.out; have a2 := HEw.out; have a3 := HEp.out
              simp_all
end Go.Proofs.YtklhhpnibeejeaaDoor
