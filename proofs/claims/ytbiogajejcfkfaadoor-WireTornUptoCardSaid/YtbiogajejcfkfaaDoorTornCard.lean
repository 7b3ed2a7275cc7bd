/-
  WireTorn, the second form: for every row of payloads and every cut of bulk at most 1048576 the law returns true, and the argument reads as it read: the row, and its card tied to the program's text. Condition: the row's own (the bound; the table as the program's initialiser lays it).
-/
import Derived.Test.YtbiogajejcfkfaaDoorTorn
import Derived.Test.YtbiogajejcfkfaaDoorBulk
import Derived.Test.YtbiogajejcfkfaaDoorRowTab
import Derived.Test.YtbiogajejcfkfaaDoorCards
import Derived.Test.YtbiogajejcfkfaaDoorTie
namespace Go.Proofs.YtbiogajejcfkfaaDoor.Torn
open Go.ChangeShapes Go.WideShapes Go.ChangeAt Go.RowKit Go.Joins
set_option linter.unusedVariables false

theorem cellsArg : Tryd.prog.cellsOf 41 = 2 := by kernel_rfl
theorem cellsStr : Tryd.prog.cellsOf 9 = 1 := by kernel_rfl
set_option maxRecDepth 100000 in
theorem contract (H : Type) (enc : TypeId × Value → H) (W : World) (base : Nat) (args : Array Value) (ds gs : List (DataW H)) (before : List MemPlace)
    (hval : ∀ (j : Nat) t v, Tryd.f5.params[j]? = some t → args[j]? = some v → Value.okWide Tryd.prog W .any base t v)
    (hW : DataW.Whole enc Tryd.prog Tryd.f5.params.toList Rows.wireTornSpec.vars false W args.toList ds gs before)
    (hsz : (DataW.weightsEach Tryd.prog (Tryd.f5.params.toList ++ Rows.wireTornSpec.plain.varTypes Tryd.prog) (ds ++ gs)).all (· ≤ reachBytes) = true) (hk : Rows.uptoSmall H (ds ++ gs) = true) (ht : Tab W) :
    Calls Tryd.prog 5 args W fun e W' => ∃ v, e = .returned v ∧ Rows.wireTornSpec.post enc Tryd.prog Tryd.f5 false true false false W args v W' := by
  refine law_frame Tryd.params5 (tb := 4) rfl Tryd.underlying4 (fun _ => rfl) rfl (by kernel_rfl) (of_decide_eq_true (by kernel_rfl)) hval hW hsz ?_
  intro v d p hd hwt _ hv h
  have hb := Bulk.bound hk
  rw [hd] at hb
  obtain ⟨v0, v1, y0, y1, n, rfl, rfl, _, h0, h1⟩ := open_agg2 Tryd.underlying41 (by kernel_rfl) cellsArg hv h
  obtain ⟨ao, l, spare, cap, e0, hl, hsz, hlc, hcm, hx⟩ := strs_open Tryd.underlying39 Tryd.underlying9 cellsStr h0
  obtain ⟨cut, e1, rfl, wb⟩ := DataW.trod_int Tryd.underlying3 h1
  simp only [List.cons.injEq, and_true] at e0 e1
  subst e0 e1
  have hbl : (l.map ByteArray.size).sum + l.length ≤ 1048576 := by
    rcases hx with ⟨_, rfl⟩ | hx
    · simp
    · rw [hx] at hb
      simp only [Rows.uptoBulkAll, Rows.uptoBulk, Bulk.strs_bulk] at hb
      omega
  exact walk ao l cap cut W hl (fun s hs => by have := Bulk.size_le_sum l s hs; omega) (by omega) (by show (l.map ByteArray.size).sum ≤ 1048576; omega) ht

/-- A WORLD FOR THE WITNESS: the settled one, the table holding what its initialiser lays. -/
noncomputable def laidWorld (os : Os) : World :=
  { World.holding Tryd.prog os ⟨#[], #[], []⟩ with heap := (World.holding Tryd.prog os ⟨#[], #[], []⟩).heap.modify 0 fun
      | .cells _ t frozen => .cells (tabI.map (Value.int .u32)).toArray t frozen
      | o => o }
def wit : Value := .agg #[.slice none 0 0, .int .i64 0]
def witD {H : Type} : DataW H := .agg [.nil, .lit (.int .i64 0)]
theorem laid_met (os : Os) : laidMet Tryd.prog Rows.wireTornUptoRow.laid ((laidWorld os).forCall (fun _ _ => 0) ⟨#[], #[wit], []⟩).memory :=
  laidMet_of_run' 8 (by kernel_rfl) (by kernel_rfl)
theorem reads (os : Os) {H : Type} (enc : TypeId × Value → H) : ∃ places, DataW.whole enc Tryd.prog ((laidWorld os).forCall (fun _ _ => 0) ⟨#[], #[wit], []⟩).memory Tryd.f5.params.toList Rows.wireTornSpec.vars false #[wit].toList 8 = some ([witD], [], places) :=
  ⟨[], by kernel_rfl⟩

set_option maxRecDepth 100000 in
theorem lifted (os : Os) (started : os.Started) (H : Type) (enc : TypeId × Value → H) (F : Stop.Interp) :
    ReturnsInHanded {} Tryd.checked os 5 .any ((Rows.OpenSpec.upto Rows.wireTornSpec).preRow enc Tryd.prog Tryd.f5 Rows.wireTornUptoRow.domain false Rows.wireTornUptoRow.laid) (((Rows.OpenSpec.upto Rows.wireTornSpec).at F).post enc Tryd.prog Tryd.f5 false true false false) := by
  obtain ⟨places, hx⟩ := reads os enc
  refine returnsInHanded_of_row (C := Tryd.checked) (s := Rows.OpenSpec.upto Rows.wireTornSpec) own started (by kernel_rfl) Tryd.func5
    (witness_row_at (enc := enc) (C := Tryd.checked) false (laidWorld os) #[wit] rfl (by kernel_rfl) (by kernel_rfl) (by kernel_rfl)
      (OpenSpec.preRow_of_cond 8 hx (by kernel_rfl) (fun k hk => by cases hk; kernel_rfl) (by kernel_rfl) (laid_met os))) ?_
  intro W base args ds gs before hval hW _ hcond hsz hL _ _
  exact contract H enc W base args ds gs before hval hW hsz (hcond _ rfl) (tab_of hL)

theorem said : Rows.WireTornUptoSaid :=
  OpenClaim.holds_of_cond 5 Tryd.f5 rfl rfl rfl rfl rfl rfl rfl ⟨rfl, rfl, rfl, rfl, rfl⟩ rfl rfl rfl rfl rfl (by kernel_rfl) Tryd.func5 (by kernel_rfl)
    (of_decide_eq_true (by kernel_rfl)) (by unfold Func.isWrapper; first | (rw [if_pos (by decide +kernel)]; kernel_rfl) | (rw [if_neg (by decide +kernel)]; exact ⟨rfl, rfl⟩))
    (fun os started H enc _ F => by rw [OpenClaim.pre_eq_preRow]; exact lifted os started H enc F)

theorem plain (f : FuncId) (fn : Func) (hf : Tryd.pinned.checked.prog.funcNamed "tidemark/tidemarklaw3.WireTorn" = some f) (hfn : Tryd.pinned.checked.prog.funcs[f]? = some fn) :
    true = Tryd.pinned.checked.prog.looks [] ∧ ∀ (j : Nat) t, fn.params[j]? = some t → Tryd.pinned.checked.prog.wantsStandIn t = false := by
  obtain rfl : f = 5 := Option.some.inj ((show Tryd.prog.funcNamed "tidemark/tidemarklaw3.WireTorn" = some 5 by kernel_rfl).symm.trans hf) |>.symm
  obtain rfl : fn = Tryd.f5 := (Option.some.inj (Tryd.func5.symm.trans hfn)).symm
  refine ⟨by kernel_rfl, fun j t ht => ?_⟩
  rw [Tryd.params5] at ht
  obtain rfl : t = 41 := by simpa using Array.mem_of_getElem? ht
  exact (show Tryd.prog.wantsStandIn 41 = false by kernel_rfl)

/-- THE CARD. -/
theorem WireTorn : Rows.WireTornUptoCardSaid :=
  Claim7.holds_tied_plain_at .later [] _ _ _ _ said (fun _ h => by cases h) (by kernel_rfl) (fun _ h => by cases h) wireTornUpto_row_tie rfl ⟨rfl, rfl⟩ (by kernel_rfl) rfl plain (by kernel_rfl)
#print axioms WireTorn
end Go.Proofs.YtbiogajejcfkfaaDoor.Torn
