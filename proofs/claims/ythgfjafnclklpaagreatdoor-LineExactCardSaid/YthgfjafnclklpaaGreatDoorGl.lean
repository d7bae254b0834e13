/- What every walk asks of the library's own variables: that they are there; and that it stays so. -/
import Derived.WalkKit
namespace Go.Proofs.YthgfjafnclklpaaGreatDoor
open Go.RowKit

/-- the library's variables hold what the contracts ask; there are 16 at most, and they lie below all else -/
structure Glob (w : World) : Prop where
  maxLen : ∃ m : Int, w.cell? ⟨0, 0, none⟩ = some (.int .i64 m)
  errSyntax : ∃ ev, w.cell? ⟨2, 0, none⟩ = some ev ∧ (ev = .nilIface ∨ ∃ te pe, ev = .iface te pe)
  errRange : ∃ ev, w.cell? ⟨3, 0, none⟩ = some ev ∧ (ev = .nilIface ∨ ∃ te pe, ev = .iface te pe)
  size : 8 ≤ w.heap.size

theorem Glob.keep {w w' : World} (h : Glob w) (hb : ∀ k, k < 8 → w'.heap[k]? = w.heap[k]?) (hs : w.heap.size ≤ w'.heap.size) : Glob w' := by
  obtain ⟨⟨m, h1⟩, ⟨e2, h2, h2'⟩, ⟨e3, h3, h3'⟩, h4⟩ := h
  exact ⟨⟨m, (World.cell?_of_block (hb _ (by decide))).trans h1⟩, ⟨e2, (World.cell?_of_block (hb _ (by decide))).trans h2, h2'⟩, ⟨e3, (World.cell?_of_block (hb _ (by decide))).trans h3, h3'⟩, Nat.le_trans h4 hs⟩

theorem Glob.below {B : Nat} {w w' : World} (h : Glob w) (hb : Below B w w') (hB : 8 ≤ B) : Glob w' := h.keep (fun k hk => hb.block k (by omega)) hb.size
theorem Glob.later {w w' : World} (h : Glob w) (hb : Below w.heap.size w w') : Glob w' := h.below hb h.size
theorem Glob.drew {w : World} (h : Glob w) : Glob w.drew := h.keep (fun _ _ => rfl) (Nat.le_refl _)
theorem Glob.alloc {w : World} (h : Glob w) (o : Obj) : Glob (w.alloc o) := h.later ((Below.refl _ _).alloc (Nat.le_refl _) o)
theorem Glob.setCell {w : World} (h : Glob w) {p : Addr} (hp : 8 ≤ p.block) (u : Value) : Glob (w.setCell p u) :=
  h.keep (fun k hk => Below.heap_setCell w p u k (by omega)) (by simp [World.setCell])
end Go.Proofs.YthgfjafnclklpaaGreatDoor
