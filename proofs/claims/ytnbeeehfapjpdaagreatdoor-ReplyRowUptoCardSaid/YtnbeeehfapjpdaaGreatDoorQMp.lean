/- A map from strings that is known whole, entry by entry: a look-up in it and a new entry, whatever the program. Walks of package words: fail, rows. What every walk asks of the library's own variables: that they are there; and that it stays so. -/
import Derived.WalkKit
import Derived.Test.YtnbeeehfapjpdaaGreatDoorW1
import Derived.Lib.Hide
section
namespace Go.Proofs.YtnbeeehfapjpdaaGreatDoor
open Go.RowKit

/-- the entries of a table, numbered from n on -/
def ents {α : Type} (val : α → Value) : Nat → List (List UInt8 × α) → List MapEntry
  | _, [] => []
  | n, x :: t => { key := .string ⟨x.1.toArray⟩, val := val x.2, born := n } :: ents val (n + 1) t

/-- the map holds the first entries of a table -/
def HoldsTab {α : Type} (w : World) (b : Nat) (val : α → Value) (l : List (List UInt8 × α)) : Prop := w.heap[b]? = some (.map (ents val 0 l).toArray l.length)

theorem HoldsTab.same {α : Type} {w w' : World} {b : Nat} {val : α → Value} {l : List (List UInt8 × α)} (h : HoldsTab w b val l) (hs : w'.heap[b]? = w.heap[b]?) : HoldsTab w' b val l := hs.trans h
theorem HoldsTab.lt {α : Type} {w : World} {b : Nat} {val : α → Value} {l : List (List UInt8 × α)} (h : HoldsTab w b val l) : b < w.heap.size := by
  rcases Nat.lt_or_ge b w.heap.size with hlt | hge
  · exact hlt
  · unfold HoldsTab at h; rw [Array.getElem?_eq_none hge] at h; cases h

end Go.Proofs.YtnbeeehfapjpdaaGreatDoor
end
section
namespace Go.Proofs.YtnbeeehfapjpdaaGreatDoor
open Go.RowKit

/-- a verb's row as it lies in the map -/
def rowVal (r : Sp.RowV) : Value := .agg #[.int .i64 r.verb, str r.places, .int .i64 r.least, .bool r.more, .bool r.noreply, .bool r.block]

/-- the map under way: it holds the first i rows -/
def RowsAt (w0 : World) (b i : Nat) (w : World) : Prop := HoldsTab w b rowVal (Sp.tab.take i) ∧ w0.heap.size ≤ b ∧ Below w0.heap.size w0 w

theorem RowsAt.new (w : World) : RowsAt w w.heap.size 0 (w.alloc (.map #[] 0)) := by
  refine ⟨?_, Nat.le_refl _, (Below.refl _ _).alloc (Nat.le_refl _) _⟩
  show (w.alloc (.map #[] 0)).heap[w.heap.size]? = some (.map (ents rowVal 0 (Sp.tab.take 0)).toArray (Sp.tab.take 0).length)
  simp only [List.take_zero, ents, List.length_nil]
  exact heap_alloc_new w _

theorem RowsAt.alloc {w0 w : World} {b i : Nat} (h : RowsAt w0 b i w) (o : Obj) : RowsAt w0 b i (w.alloc o) :=
  ⟨h.1.same (Below.heap_alloc w o b h.1.lt), h.2.1, h.2.2.alloc h.2.2.size o⟩

def fiveWords : List Sp.Bs := [[115, 101, 116], [97, 100, 100], [114, 101, 112, 108, 97, 99, 101], [97, 112, 112, 101, 110, 100], [112, 114, 101, 112, 101, 110, 100]]
def FiveAt (g : Nat) (w : World) : Prop :=
  w.heap[g]? = some (.cells #[str [115, 101, 116], str [97, 100, 100], str [114, 101, 112, 108, 97, 99, 101], str [97, 112, 112, 101, 110, 100], str [112, 114, 101, 112, 101, 110, 100]] 9 (0, 0))
theorem FiveAt.cell {g : Nat} {w : World} (h : FiveAt g w) (k : Nat) (hk : k < 5) : w.cell? ⟨g, k, none⟩ = some (str (Sp.tab.getD (19 + k) ([], { verb := 0 })).1) := by
  unfold FiveAt at h
  have e : ∀ k : Fin 5, (#[str [115, 101, 116], str [97, 100, 100], str [114, 101, 112, 108, 97, 99, 101], str [97, 112, 112, 101, 110, 100], str [112, 114, 101, 112, 101, 110, 100]])[k.1]? = some (str (Sp.tab.getD (19 + k.1) ([], { verb := 0 })).1) := by
    intro k
    match k with
    | 0 => rfl
    | 1 => rfl
    | 2 => rfl
    | 3 => rfl
    | 4 => rfl
  simp only [World.cell?, h]
  exact e ⟨k, hk⟩
theorem FiveAt.grown {g b : Nat} {w w' : World} (h : FiveAt g w) (hg : w.grownBy w' (some b)) (hne : g ≠ b) : FiveAt g w' := by
  unfold FiveAt at h ⊢
  have hl : g < w.heap.size := by
    rcases Nat.lt_or_ge g w.heap.size with hlt | hge
    · exact hlt
    · rw [Array.getElem?_eq_none hge] at h; cases h
  rw [hg.block g hl (by simpa using hne)]
  exact h
end Go.Proofs.YtnbeeehfapjpdaaGreatDoor
end
section
namespace Go.Proofs.YtnbeeehfapjpdaaGreatDoor
open Go.RowKit

end Go.Proofs.YtnbeeehfapjpdaaGreatDoor
end
