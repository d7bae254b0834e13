/- Plain laws for a line: its words, the rows of the table, the place of N. No program in sight. -/
import Derived.Test.YtnbeeehfapjpdaaGreatDoorPl
import Derived.Lib.IndexLaws
namespace Go.Proofs.YtnbeeehfapjpdaaGreatDoor
open Go.Lib Sp

/-- what is true of every row -/
def RowOk (r : RowV) : Prop :=
  r.places.length ≤ 5 ∧ 1 ≤ r.verb ∧ r.verb ≤ 24 ∧ r.least ≤ 5 ∧ (r.more = true → 1 ≤ r.places.length) ∧ (∀ k ∈ r.places, k ∈ ([75, 70, 84, 78, 67, 48, 68, 83, 86, 87, 71] : Bs))
instance (r : RowV) : Decidable (RowOk r) := by unfold RowOk; infer_instance
theorem tab_ok : ∀ x ∈ tab, RowOk x.2 := by decide
theorem rowOf_ok {w : Bs} {r : RowV} (h : rowOf w = some r) : RowOk r := by
  unfold rowOf at h
  cases hf : tab.find? (fun x => w == x.1) with
  | none => rw [hf] at h; cases h
  | some x =>
    rw [hf] at h
    injection h with h
    subst h
    exact tab_ok x (List.mem_of_find?_eq_some hf)

end Go.Proofs.YtnbeeehfapjpdaaGreatDoor
