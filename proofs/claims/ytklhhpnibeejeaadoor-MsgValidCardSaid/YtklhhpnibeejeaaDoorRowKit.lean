/-
  THE FRAME OF EVERY ROW OF THIS SEAT: a law of one argument that returns true and turns nothing that was there meets its row. Condition: the walk's contract, as 'K' says it.
-/
import Derived.Test.YtklhhpnibeejeaaDoorRows
import Derived.WalkKit
import Derived.ProofKit
import Derived.OpenShut
import Derived.Deep.DeepHandedRow
import Derived.Lib.LaidTab
import Derived.Carry
import Derived.Lib.SmallJoins
namespace Go.Proofs.YtklhhpnibeejeaaDoor
open Go.ChangeShapes Go.WideShapes Go.ChangeAt Go.RowKit

theorem own : ownKnob Tryd.prog.godebug = none := by kernel_rfl
theorem laidOut : laidOutB Tryd.prog = true := by kernel_rfl

set_option maxRecDepth 100000 in
theorem law_frame {H : Type} {enc : TypeId × Value → H} {W : World} {base : Nat} {args : Array Value} {ds gs : List (DataW H)} {before : List MemPlace} {F : FuncId} {f : Func} {s : ChangeSpec} {t tb : TypeId}
    (hp : f.params = #[t]) (hr : f.resultTypes = #[tb]) (hu : Tryd.prog.underlying tb = some .bool) (hfn : ∀ d : DataW H, s.fn H [d] = { results := [.lit (.bool true)], args := [d] }) (hvars : s.vars = [])
    (rr : Tryd.prog.readableRec t = true) (tl : t < Tryd.prog.types.size)
    (hval : ∀ (j : Nat) t v, f.params[j]? = some t → args[j]? = some v → Value.okWide Tryd.prog W .any base t v)
    (hW : DataW.Whole enc Tryd.prog f.params.toList s.vars false W args.toList ds gs before)
    {vt : List TypeId} (hsz : (DataW.weightsEach Tryd.prog (f.params.toList ++ vt) (ds ++ gs)).all (· ≤ reachBytes) = true)
    (K : ∀ v d p, ds ++ gs = [d] → (∀ n ∈ d.weights Tryd.prog t, n ≤ reachBytes) → (∀ x ∈ p, x.block < W.heap.size) → Value.okWide Tryd.prog W .any base t v → DataW.Trod enc Tryd.prog W 0 (fun _ => true) true t v d p →
      Calls Tryd.prog F #[v] W fun e W' => e = .returned (.bool true) ∧ Below W.heap.size W W') :
    Calls Tryd.prog F args W fun e W' => ∃ v, e = .returned v ∧ s.post enc Tryd.prog f false true false false W args v W' := by
  have hW' := hW
  obtain ⟨p, q, hA0, hV, rfl, hfz, hnd⟩ := hW
  have hA : DataW.TrodAll enc Tryd.prog W 0 (fun _ => true) true f.params.toList args.toList ds p := hA0
  rw [hp] at hA hval
  rw [hvars] at hV
  obtain ⟨v0, vs0, d0, ds0, p0, q0, hargs, rfl, rfl, h0, r0⟩ := trodAll_cons hA
  obtain ⟨rfl, rfl, rfl⟩ := trodAll_nil r0
  obtain rfl : args = #[v0] := Array.ext' hargs
  obtain ⟨rfl, rfl⟩ := trodVars_none hV
  have hlt : ∀ x ∈ p0, x.block < W.heap.size := fun x hx => hW'.lt x (List.mem_append_left _ (List.mem_append_left _ hx))
  have hv : Value.okWide Tryd.prog W .any base t v0 := hval 0 t v0 rfl rfl
  have hd : [d0] ++ ([] : List (DataW H)) = [d0] := rfl
  have hwt : ∀ n ∈ d0.weights Tryd.prog t, n ≤ reachBytes := by
    intro n hn
    rw [hp] at hsz
    have := List.all_eq_true.1 hsz n (by show n ∈ DataW.weights Tryd.prog t d0 ++ _; exact List.mem_append_left _ hn)
    simpa using this
  refine (K v0 d0 p0 hd hwt hlt hv h0).mono fun e W' ⟨he, hb⟩ => ?_
  subst he
  refine ⟨_, rfl, _, _, _, [], p0 ++ [], [], hW', ?_, ?_, ?_, hb.frame _, fun h => by cases h⟩
  · rw [hr, show [d0] ++ [] = [d0] from rfl, hfn]
    exact trodAll_cons_mk (shut_bool hu _) trodAll_mk0
  · rw [hp, show [d0] ++ [] = [d0] from rfl, hfn]
    exact trodAll_cons_mk (Below.trod laidOut rr tl h0 hb hlt) trodAll_mk0
  · rw [show [d0] ++ [] = [d0] from rfl, hfn, hvars]
    rfl
set_option maxRecDepth 100000 in
theorem law_frame0 {H : Type} {enc : TypeId × Value → H} {W : World} {base : Nat} {args : Array Value} {ds gs : List (DataW H)} {before : List MemPlace} {F : FuncId} {f : Func} {s : ChangeSpec} {t tb : TypeId}
    (hp : f.params = #[t]) (hr : f.resultTypes = #[tb]) (hu : Tryd.prog.underlying tb = some .bool) (hfn : ∀ d : DataW H, s.fn H [d] = { results := [.lit (.bool true)], args := [d] }) (hvars : s.vars = [])
    (rr : Tryd.prog.readableRec t = true) (tl : t < Tryd.prog.types.size)
    (hval : ∀ (j : Nat) t v, f.params[j]? = some t → args[j]? = some v → Value.okWide Tryd.prog W .any base t v)
    (hW : DataW.Whole enc Tryd.prog f.params.toList s.vars false W args.toList ds gs before)
    (K : ∀ v d p, ds ++ gs = [d] → (∀ x ∈ p, x.block < W.heap.size) → Value.okWide Tryd.prog W .any base t v → DataW.Trod enc Tryd.prog W 0 (fun _ => true) true t v d p →
      Calls Tryd.prog F #[v] W fun e W' => e = .returned (.bool true) ∧ Below W.heap.size W W') :
    Calls Tryd.prog F args W fun e W' => ∃ v, e = .returned v ∧ s.post enc Tryd.prog f false true false false W args v W' := by
  have hW' := hW
  obtain ⟨p, q, hA0, hV, rfl, hfz, hnd⟩ := hW
  have hA : DataW.TrodAll enc Tryd.prog W 0 (fun _ => true) true f.params.toList args.toList ds p := hA0
  rw [hp] at hA hval
  rw [hvars] at hV
  obtain ⟨v0, vs0, d0, ds0, p0, q0, hargs, rfl, rfl, h0, r0⟩ := trodAll_cons hA
  obtain ⟨rfl, rfl, rfl⟩ := trodAll_nil r0
  obtain rfl : args = #[v0] := Array.ext' hargs
  obtain ⟨rfl, rfl⟩ := trodVars_none hV
  have hlt : ∀ x ∈ p0, x.block < W.heap.size := fun x hx => hW'.lt x (List.mem_append_left _ (List.mem_append_left _ hx))
  have hv : Value.okWide Tryd.prog W .any base t v0 := hval 0 t v0 rfl rfl
  have hd : [d0] ++ ([] : List (DataW H)) = [d0] := rfl
  refine (K v0 d0 p0 hd hlt hv h0).mono fun e W' ⟨he, hb⟩ => ?_
  subst he
  refine ⟨_, rfl, _, _, _, [], p0 ++ [], [], hW', ?_, ?_, ?_, hb.frame _, fun h => by cases h⟩
  · rw [hr, show [d0] ++ [] = [d0] from rfl, hfn]
    exact trodAll_cons_mk (shut_bool hu _) trodAll_mk0
  · rw [hp, show [d0] ++ [] = [d0] from rfl, hfn]
    exact trodAll_cons_mk (Below.trod laidOut rr tl h0 hb hlt) trodAll_mk0
  · rw [show [d0] ++ [] = [d0] from rfl, hfn, hvars]
    rfl
end Go.Proofs.YtklhhpnibeejeaaDoor
