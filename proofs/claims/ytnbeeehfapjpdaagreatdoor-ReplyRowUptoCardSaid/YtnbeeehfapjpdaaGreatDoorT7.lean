/- An argument of type []Pair, opened. -/
import Derived.Test.YtnbeeehfapjpdaaGreatDoorT6
namespace Go.Proofs.YtnbeeehfapjpdaaGreatDoor
open Go.ChangeShapes Go.WideShapes Go.ChangeAt Go.RowKit
section
variable {H : Type} {enc : TypeId × Value → H} {w : World} {held : Bool}
set_option maxRecDepth 100000 in
theorem open_pairs {base : Nat} {v : Value} {d : DataW H} {p : List MemPlace} (hv : Value.okWide Tryz.prog w .any base 22 v) (h : DataW.Trod enc Tryz.prog w 0 (fun _ => true) held 22 v d p) (hw : Rows.uptoBulk d ≤ 1048576) :
    ∃ (A : Option Addr) (cap : Nat) (xs : List PairX), v = .slice A xs.length cap ∧ PairsAt w A xs := by
  obtain ⟨fuel, h⟩ := h
  obtain ⟨a0, n0, c0, rfl⟩ := okWide_slice Tryz.underlying22 hv
  replace h : DataW.trod enc Tryz.prog w 0 (fun _ => true) held fuel 22 [.slice a0 n0 c0] = some (d, p) := h
  have hlen := bulk_len Tryz.underlying22 h
  obtain ⟨A, cap, l, hv', h1, h2, h3, h4, h5⟩ := open_list (k := 16) PairX.cells (fun X d => Sp.sizeA X.R.v ≤ Rows.uptoBulk d ∧ (Rows.uptoBulk d ≤ 1048576 → PairGood w X)) (by decide) (fun _ => rfl) Tryz.underlying22 (by kernel_rfl) (fun n cs x hx hl => open_pair hx hl) h
  refine ⟨A, cap, l, hv', h1, fun x hx => ?_, ?_, ?_⟩
  · obtain ⟨i, hi⟩ := List.getElem?_of_mem hx
    rcases h5 with ⟨rfl, _⟩ | ⟨es, sp, hy, _, _, hq⟩
    · cases hx
    · obtain ⟨d', hd', _, hg⟩ := hq i x hi
      change d = _ at hy
      subst hy
      have := (bulk_slice (es := es) (sp := sp)).2 d' (List.mem_of_getElem? hd')
      exact hg (by omega)
  · rcases h5 with ⟨rfl, _⟩ | ⟨es, sp, hy, hel, _, hq⟩
    · exact Nat.zero_le _
    · change d = _ at hy
      subst hy
      have := bulk_sum (f := fun X : PairX => Sp.sizeA X.R.v) hel (fun i a ha => by obtain ⟨d, q1, q2, _⟩ := hq i a ha; exact ⟨d, q1, q2⟩)
      rw [Rows.uptoBulk] at hw
      omega
  · injection hv' with _ e _
    rw [← e]
    have : n0 ≤ Rows.uptoBulk d := hlen
    omega
end
end Go.Proofs.YtnbeeehfapjpdaaGreatDoor
