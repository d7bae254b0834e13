/- Arguments opened: a slice of bytes, of ints; what a law leaves behind reads as before. -/
import Derived.Test.YticigfpieeoolaaGreatDoorPc
import Derived.Carry
import Derived.ProofKit
import Derived.OpenShut
import Derived.ChangeSlices
import Derived.Lib.SmallJoins
namespace Go.Proofs.YticigfpieeoolaaGreatDoor
open Go.ChangeShapes Go.WideShapes Go.ChangeAt Go.RowKit

section
variable {H : Type} {enc : TypeId × Value → H} {w : World} {spare : Nat → Bool} {held : Bool}

theorem rowAt_of_cells {a : Addr} {k : IntKind} {zs : List Int} (h : ∀ i, i < zs.length → w.cell? (a.add i) = some (.int k (zs.getD i 0))) (len : Nat) : RowAt w (some a) ((zs.take len).map (Value.int k)) := by
  cases hz : zs.take len with
  | nil => exact .inl rfl
  | cons z t =>
    rw [← hz]
    have hlen : 0 < zs.length := by
      rcases Nat.eq_zero_or_pos zs.length with h0 | h0
      · rw [List.eq_nil_of_length_eq_zero h0] at hz; simp at hz
      · exact h0
    have h0 := h 0 hlen
    rw [show a.add 0 = a from by simp [Addr.add]] at h0
    obtain ⟨b, o, sp⟩ := a
    cases sp with
    | some x => simp [World.cell?] at h0; split at h0 <;> cases h0
    | none =>
      refine .inr ⟨b, o, rfl, ?_, fun j u hu => ?_⟩
      · rcases Nat.lt_or_ge b w.heap.size with hb | hb
        · exact hb
        · simp [World.cell?, Array.getElem?_eq_none hb] at h0
      · rw [List.getElem?_map, List.getElem?_take] at hu
        split at hu
        · cases hj : zs[j]? with
          | none => rw [hj] at hu; cases hu
          | some n =>
            rw [hj] at hu
            have hjl : j < zs.length := (List.getElem?_eq_some_iff.1 hj).1
            have := h j hjl
            rw [Addr.add_mid] at this
            rw [this]
            rw [Option.map_some] at hu
            rw [List.getD_eq_getElem?_getD, hj, Option.getD_some]
            exact hu
        · cases hu

/-- a slice of ints that came in -/
theorem open_introw {t e : TypeId} {n : Nat} {v : Value} {y : DataW H × List MemPlace} (ht : Tryz.prog.underlying t = some (.slice e)) (he : Tryz.prog.underlying e = some (.int .i64)) (hc : Tryz.prog.cellsOf e = 1)
    (h : DataW.trod enc Tryz.prog w 0 spare held n t [v] = some y) : ∃ A cap l, v = .slice A (l : List Int).length cap ∧ RowAt w A (l.map (Value.int .i64)) ∧ l.length ≤ cap ∧ cap ≤ 9223372036854775807 ∧ (A = none → cap = 0) ∧ ∀ x ∈ l, -9223372036854775808 ≤ x ∧ x ≤ 9223372036854775807 := by
  rcases open_ints ht he hc h with ⟨h1, _⟩ | ⟨a, len, cap, zs, h1, _, hlc, hcm, hzl, _, hcell, hwf⟩
  · injection h1 with h1
    exact ⟨none, 0, [], h1, .inl rfl, Nat.le_refl _, by decide, fun _ => rfl, fun x hx => by cases hx⟩
  · injection h1 with h1
    have hlz : len ≤ zs.length := by rw [hzl]; split <;> omega
    refine ⟨some a, cap, zs.take len, ?_, rowAt_of_cells hcell len, ?_, ?_, fun h => (by cases h), fun x hx => ?_⟩
    · rw [h1, List.length_take, Nat.min_eq_left hlz]
    · rw [List.length_take]; omega
    · unfold maxLen at hcm; exact hcm
    · exact bounds_i64 (hwf x (List.mem_of_mem_take hx))

/-- a slice of bytes that came in -/
theorem open_byterow {t e : TypeId} {n : Nat} {v : Value} {y : DataW H × List MemPlace} (ht : Tryz.prog.underlying t = some (.slice e)) (he : Tryz.prog.underlying e = some (.int .u8)) (hc : Tryz.prog.cellsOf e = 1)
    (h : DataW.trod enc Tryz.prog w 0 spare held n t [v] = some y) : ∃ A cap l, v = .slice A (l : Sp.Bs).length cap ∧ RowAt w A (bytesV l) ∧ l.length ≤ cap ∧ cap ≤ 9223372036854775807 ∧ (A = none → cap = 0) := by
  rcases open_ints ht he hc h with ⟨h1, _⟩ | ⟨a, len, cap, zs, h1, _, hlc, hcm, hzl, _, hcell, hwf⟩
  · injection h1 with h1
    exact ⟨none, 0, [], h1, .inl rfl, Nat.le_refl _, by decide, fun _ => rfl⟩
  · injection h1 with h1
    have hlz : len ≤ zs.length := by rw [hzl]; split <;> omega
    have hb : bytesV ((zs.take len).map fun n => UInt8.ofNat n.toNat) = (zs.take len).map (Value.int .u8) := by
      unfold bytesV
      rw [List.map_map]
      refine List.map_congr_left fun x hx => ?_
      have hbd := bounds_u8 (hwf x (List.mem_of_mem_take hx))
      show Value.int .u8 ((UInt8.ofNat x.toNat).toNat : Int) = Value.int .u8 x
      rw [UInt8.toNat_ofNat', Nat.mod_eq_of_lt (by have : (2 : Nat) ^ 8 = 256 := rfl; omega), Int.toNat_of_nonneg hbd.1]
    refine ⟨some a, cap, (zs.take len).map fun n => UInt8.ofNat n.toNat, ?_, ?_, ?_, ?_, fun h => (by cases h)⟩
    · rw [h1, List.length_map, List.length_take, Nat.min_eq_left hlz]
    · rw [hb]; exact rowAt_of_cells hcell len
    · rw [List.length_map, List.length_take]; omega
    · unfold maxLen at hcm; exact hcm
end

theorem laid_out : laidOutB Tryz.prog = true := by kernel_rfl

/-- the arguments read behind the call as before -/
theorem args_stay {H : Type} {enc : TypeId × Value → H} {W W' : World} (hb : Below W.heap.size W W') : ∀ {ts : List TypeId} {vs : List Value} {ds : List (DataW H)} {ps : List MemPlace}, (∀ t ∈ ts, Tryz.prog.readableRec t = true ∧ t < Tryz.prog.types.size) →
    DataW.TrodAll enc Tryz.prog W 0 (fun _ => true) true ts vs ds ps → (∀ x ∈ ps, x.block < W.heap.size) → DataW.TrodAll enc Tryz.prog W' 0 (fun b => decide (b < W.heap.size)) true ts vs ds ps
  | [], [], [], _, _, h, _ => h
  | t :: _, _ :: _, _ :: _, _, ht, ⟨p, q, h1, h2, e⟩, hp => by
    subst e
    exact ⟨p, q, Below.trod laid_out (ht t (by simp)).1 (ht t (by simp)).2 h1 hb (fun x hx => hp x (by simp [hx])), args_stay hb (fun t ht' => ht t (by simp [ht'])) h2 (fun x hx => hp x (by simp [hx])), rfl⟩

/-- what a law must leave behind -/
theorem law_post {H : Type} {enc : TypeId × Value → H} {f : Func} {s : ChangeSpec} {W W' : World} {args : Array Value} {ds gs : List (DataW H)} {before : List MemPlace} (hW : DataW.Whole enc Tryz.prog f.params.toList s.vars false W args.toList ds gs before)
    (hv : s.vars = []) (hr : f.resultTypes = #[4]) (hfn : s.fn H ds = { results := [.lit (.bool true)], args := ds }) (ht : ∀ t ∈ f.params.toList, Tryz.prog.readableRec t = true ∧ t < Tryz.prog.types.size) (hb : Below W.heap.size W W') :
    s.post enc Tryz.prog f false true false false W args (.bool true) W' := by
  have hW' := hW
  have hlt := hW.lt
  obtain ⟨p, q, hA, hV, rfl, _, _⟩ := hW
  rw [hv] at hV
  obtain ⟨rfl, rfl⟩ := trodVars_none hV
  simp only [List.append_nil] at hW' hlt
  have hfn' : s.fn H (ds ++ []) = { results := [.lit (.bool true)], args := ds } := by rw [List.append_nil]; exact hfn
  refine ⟨ds, [], p, [], p, [], hW', ?_, ?_, ?_, hb.frame _, fun h => by cases h⟩
  · rw [hr, hfn']
    exact trodAll_mk1 (shut_bool Tryz.underlying4 _)
  · rw [hfn']
    exact args_stay hb ht hA hlt
  · rw [hv, hfn']
    exact rfl
end Go.Proofs.YticigfpieeoolaaGreatDoor
