/- An argument of type []Flagged, opened. -/
import Derived.Test.YticigfpieeoolaaGreatDoorPc
import Derived.Test.YticigfpieeoolaaGreatDoorR6
namespace Go.Proofs.YticigfpieeoolaaGreatDoor
open Go.ChangeShapes Go.WideShapes Go.ChangeAt Go.RowKit

/-- a verb and flags, as they lie in a row -/
structure FlaggedV where
  verb : Int
  A : Option Addr
  cap : Nat
  l : List Sp.FlagV
def FlaggedV.cells (a : FlaggedV) : List Value := [.int .i64 a.verb, .slice a.A a.l.length a.cap]

section
variable {H : Type} {enc : TypeId × Value → H} {w : World} {held : Bool}
set_option maxRecDepth 100000 in
theorem open_flagged {base : Nat} {v : Value} {d : DataW H} {p : List MemPlace} (hv : Value.okWide Tryz.prog w .any base 75 v) (h : DataW.Trod enc Tryz.prog w 0 (fun _ => true) held 75 v d p) (hw : ∀ n ∈ d.weights Tryz.prog 75, n ≤ reachBytes) :
    ∃ (A : Option Addr) (cap : Nat) (ls : List (Int × List Sp.FlagV)), v = .slice A ls.length cap ∧ FlaggedAt w A ls ∧ ls.length ≤ 9223372036854775807 ∧ ∀ p ∈ ls, p.2.length * 32 ≤ reachBytes ∧ ∀ f ∈ p.2, f.arg.length ≤ reachBytes := by
  obtain ⟨fuel, h⟩ := h
  obtain ⟨a0, n0, c0, rfl⟩ := okWide_slice Tryz.underlying75 hv
  replace h : DataW.trod enc Tryz.prog w 0 (fun _ => true) held fuel 75 [.slice a0 n0 c0] = some (d, p) := h
  obtain ⟨A, cap, l, hv', h1, h2, h3, h4, h5⟩ := open_list (k := 2) FlaggedV.cells (fun a d => (RowAt w a.A (flagsCells a.l) ∧ (a.A = none → a.cap = 0) ∧ a.l.length ≤ a.cap) ∧ ∃ d0 d1 : DataW H, d = .agg [d0, d1] ∧
      ((a.l = [] ∧ d1 = .nil) ∨ ∃ es sp : List (DataW H), d1 = .slice es sp ∧ es.length = a.l.length ∧ (∀ (i : Nat) (f : Sp.FlagV), a.l[i]? = some f → ∃ d : DataW H, es[i]? = some d ∧ ∃ d0 d2 : DataW H, d = .agg [d0, .lit (.string (Sp.FlagV.arg f)), d2]))) (by decide) (fun _ => rfl) Tryz.underlying75 (by kernel_rfl) (fun n cs x hx hl => by
    obtain ⟨y0, y1, n', rfl, _, g0, g1⟩ := trod_struct2 Tryz.underlying77 hx
    match cs, hl with
    | [c0, c1], _ =>
      have e0 : Tryz.prog.cellsOf 3 = 1 := by kernel_rfl
      have e1 : Tryz.prog.cellsOf 39 = 1 := by kernel_rfl
      simp only [e0, e1, List.drop_zero, List.drop_succ_cons, List.take_succ_cons, List.take_zero] at g0 g1
      obtain ⟨z, k0, _, _⟩ := DataW.trod_int Tryz.underlying3 g0
      injection k0 with k0
      subst k0
      obtain ⟨B, cp, l, rfl, b1, b2, b3, b4, b5⟩ := open_flags g1
      refine ⟨⟨z, B, cp, l⟩, rfl, ⟨b1, b4, b2⟩, y0.1, y1.1, rfl, ?_⟩
      rcases b5 with b5 | ⟨es, sp, q1, q2, q3, q4⟩
      · exact .inl b5
      · exact .inr ⟨es, sp, q1, q2, q4⟩) h
  refine ⟨A, cap, l.map fun a => (a.verb, a.l), by rw [List.length_map]; exact hv', fun i p hp => ?_, by rw [List.length_map]; omega, fun p hp => ?_⟩
  · rw [List.getElem?_map] at hp
    obtain ⟨a, ha, rfl⟩ := Option.map_eq_some_iff.1 hp
    rcases h5 with ⟨rfl, _⟩ | ⟨es, sp, _, _, _, hq⟩
    · simp at ha
    · obtain ⟨d', _, ⟨q1, q2, q3⟩, _⟩ := hq i a ha
      have c0 : (l.flatMap FlaggedV.cells)[i * 2 + 0]? = some (.int .i64 a.verb) := flatMap_get (k := 2) (fun _ _ => rfl) ha (by decide)
      have c1 : (l.flatMap FlaggedV.cells)[i * 2 + 1]? = some (.slice a.A a.l.length a.cap) := flatMap_get (k := 2) (fun _ _ => rfl) ha (by decide)
      rcases h1 with h0 | ⟨b, o, e, _, hc⟩
      · rw [h0] at c0; simp at c0
      · refine ⟨b, o, a.A, a.cap, e, hc _ _ c0, ?_, q1, q2, q3⟩
        have := hc _ _ c1
        rwa [← Nat.add_assoc] at this
  · obtain ⟨a, ha, rfl⟩ := List.mem_map.1 hp
    obtain ⟨i, hi⟩ := List.getElem?_of_mem ha
    rcases h5 with ⟨rfl, _⟩ | ⟨es, sp, hy, _, _, hq⟩
    · simp at ha
    · obtain ⟨d', hd', _, d0, d1, rfl, hf⟩ := hq i a hi
      change d = _ at hy
      subst hy
      have hw1 := (weights_slice Tryz.underlying75 hw).2 i _ hd'
      exact reach_flags hf (weights_agg Tryz.underlying77 hw1 1 _ _ rfl rfl)
end
end Go.Proofs.YticigfpieeoolaaGreatDoor
