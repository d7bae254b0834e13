/- A map from strings that is known whole, entry by entry: a look-up in it and a new entry, whatever the program. -/
import Derived.WalkKit
namespace Go.Proofs.YtnbeeehfapjpdaaGreatDoor
open Go.RowKit

/-- the entries of a table, numbered from n on -/
def ents {α : Type} (val : α → Value) : Nat → List (List UInt8 × α) → List MapEntry
  | _, [] => []
  | n, x :: t => { key := .string ⟨x.1.toArray⟩, val := val x.2, born := n } :: ents val (n + 1) t

/-- the map holds the first entries of a table -/
def HoldsTab {α : Type} (w : World) (b : Nat) (val : α → Value) (l : List (List UInt8 × α)) : Prop := w.heap[b]? = some (.map (ents val 0 l).toArray l.length)

theorem HoldsTab.same {α : Type} {w w' : World} {b : Nat} {val : α → Value} {l : List (List UInt8 × α)} (h : HoldsTab w b val l) (hs : w'.heap[b]? = w.heap[b]?) : HoldsTab w' b val l := hs.trans h
theorem HoldsTab.lt {α : Type} {w : World} {b : Nat} {val : α → Value} {l : List (List UInt8 × α)} (h : HoldsTab w b val l) : b < w.heap.size := by
  rcases Nat.lt_or_ge b w.heap.size with hlt | hge
  · exact hlt
  · unfold HoldsTab at h; rw [Array.getElem?_eq_none hge] at h; cases h

end Go.Proofs.YtnbeeehfapjpdaaGreatDoor
