/-
  A DEFERRED FUNCTION WHOSE ONE REGION DRAWS ITS ORDER AND HOLDS recover(): every order that the draw may give. Of no function.
-/
import Derived.Test.YtbiogajejcfkfaaDec
namespace Go.Proofs.Ytbiogajejcfkfaa
open Go.RowKit
set_option linter.unusedVariables false

section
variable {P : Program} {Q : Exit → Act → List Frame → World → Prop} {a : Act} {cs : List Frame} {w : World}

theorem wpS_region_draw {id : Nat} {ops : Array Oper} (h : ∀ t, wpOpsS P ops Q (Region.schedule (P.follows .mixedOrders) ops t) a cs { w with drawn := w.drawn + 1 }) : (Code.region id ops true).wpS P Q a cs w :=
  fun b k hb hr => let ⟨e, a', cs', w', q, r⟩ := wp_opsS _ a cs _ (h _) b k hb hr; ⟨e, a', cs', w', q, .of_steps (.one step_region_draw) r⟩
end

/-- Every order in which a region's operations may come up. -/
def ordersFrom (md : Region.Mode) (ops : Array Oper) : Nat → Array Bool → List (List Nat)
  | 0, _ => [[]]
  | n + 1, listed =>
    match Region.ready md ops listed with
    | [] => [[]]
    | rs => rs.flatMap fun i => (ordersFrom md ops n (listed.setIfInBounds i true)).map (i :: ·)

theorem ordersFrom_mem (md : Region.Mode) (ops : Array Oper) : ∀ (fuel t : Nat) (listed : Array Bool), Region.linearise.go md ops fuel t listed [] ∈ ordersFrom md ops fuel listed := by
  intro fuel
  induction fuel with
  | zero => intro t listed; simp [Region.linearise.go, ordersFrom]
  | succ fuel ih =>
    intro t listed
    simp only [Region.linearise.go]
    change (match (Region.ready md ops listed)[t % (Region.ready md ops listed).length]? with
      | some i => Region.linearise.go md ops fuel (t / (Region.ready md ops listed).length) (listed.setIfInBounds i true) [i]
      | none => [].reverse) ∈ ordersFrom md ops (fuel + 1) listed
    cases hi : (Region.ready md ops listed)[t % (Region.ready md ops listed).length]? with
    | none =>
      have hnil : Region.ready md ops listed = [] := by
        cases hr : Region.ready md ops listed with
        | nil => rfl
        | cons x xs =>
          rw [hr] at hi
          have hlt : t % (x :: xs).length < (x :: xs).length := Nat.mod_lt _ (by simp)
          simp at hi
          simp at hlt
          omega
      simp [ordersFrom, hnil]
    | some i =>
      simp only []
      rw [linearise_go_acc, List.reverse_singleton, List.singleton_append]
      have hm := List.mem_of_getElem? hi
      cases hr : Region.ready md ops listed with
      | nil => rw [hr] at hm; cases hm
      | cons x xs =>
        simp only [ordersFrom, hr]
        rw [List.mem_flatMap]
        exact ⟨i, by rw [← hr]; exact hm, List.mem_map.2 ⟨_, ih _ _, rfl⟩⟩

theorem schedule_mem {P : Program} (hm : P.follows .mixedOrders = true) (ops : Array Oper) (t : Nat) :
    Region.schedule (P.follows .mixedOrders) ops t ∈ ordersFrom .any ops ops.size (Array.replicate ops.size false) := by
  simp only [Region.schedule, hm, Bool.true_or, if_true]
  exact ordersFrom_mem .any ops ops.size t _

theorem wpS_region_orders {P : Program} {Q : Exit → Act → List Frame → World → Prop} {a : Act} {cs : List Frame} {w : World} {id : Nat} {ops : Array Oper} (hm : P.follows .mixedOrders = true) (rs : List (List Nat))
    (hrs : ordersFrom .any ops ops.size (Array.replicate ops.size false) = rs) (h : ∀ o ∈ rs, wpOpsS P ops Q o a cs { w with drawn := w.drawn + 1 }) : (Code.region id ops true).wpS P Q a cs w :=
  wpS_region_draw fun t => h _ (hrs ▸ schedule_mem hm ops t)
end Go.Proofs.Ytbiogajejcfkfaa
