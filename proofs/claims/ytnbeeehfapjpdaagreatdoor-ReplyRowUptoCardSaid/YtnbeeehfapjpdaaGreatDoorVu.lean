/- Walks for Fits: an answer that came in; slices.Contains over numbers; the predicate of stats' lines and its search. -/
import Derived.Test.YtnbeeehfapjpdaaGreatDoorVt
import Derived.Test.YtnbeeehfapjpdaaGreatDoorQS1
import Derived.Test.YtnbeeehfapjpdaaGreatDoorV2
namespace Go.Proofs.YtnbeeehfapjpdaaGreatDoor
attribute [local go_sem ↓] Go.wp_at_zero Go.wp_at_succ
open Go.RowKit

/-- an answer that came in -/
structure AnsIn (w : World) (x : AnsX) : Prop where
  ents : EntsIn w x.E x.xs
  stats : RowAt w x.S (statCells x.stats)
  few : x.xs.length ≤ 1000000000 ∧ x.stats.length ≤ 1000000000
  text : x.text.length ≤ 100000000
  number : x.number ≤ 18446744073709551615
  lines : ∀ y ∈ x.stats, y.1.length ≤ 140737488355328 ∧ y.2 ≤ 18446744073709551615
theorem AnsIn.below {w w' : World} {x : AnsX} (h : AnsIn w x) (hb : Below w.heap.size w w') : AnsIn w' x := ⟨h.ents.below hb, h.stats.below hb, h.few, h.text, h.number, h.lines⟩
theorem hasInt_any {w : World} {T : Option Addr} {c : Nat} {ls : List Int} (hrow : RowAt w T (intsR ls)) (hn : ls.length ≤ 9223372036854775807) (x : Int) :
    Calls Tryz.prog 38 #[.slice T ls.length c, .int .i64 x] w fun e w' => e = .returned (.bool (decide (x ∈ ls))) ∧ w = w' := by
  rcases hrow with h0 | ⟨g, o, rfl, _, h3⟩
  · have : ls = [] := by simpa [intsR] using h0
    subst this
    exact (Tryz.slices_Contains_int_empty T c x w).mono fun e w' ⟨h1, h2⟩ => ⟨by rw [h1]; rfl, h2.symm⟩
  · have := Tryz.slices_Contains_int g o ls.length c ls x w (Nat.le_refl _) hn (fun j hj => by
      rw [h3 j (.int .i64 ls[j]) (by unfold intsR; rw [List.getElem?_map, List.getElem?_eq_getElem hj]; rfl), List.getD_eq_getElem?_getD, List.getElem?_eq_getElem hj]; rfl)
    refine this.mono fun e w' ⟨h1, h2⟩ => ⟨?_, h2.symm⟩
    rw [h1, List.take_of_length_le (Nat.le_refl _)]
    congr 2
    rw [Bool.eq_iff_iff, decide_eq_true_eq, List.contains_iff_mem]
theorem fits1_any (l : Sp.Bs) (n : Nat) (w : World) (hl : l.length ≤ 140737488355328) : Calls Tryz.prog 43 #[.agg #[str l, .int .u64 n]] w fun e w' => e = .returned (.bool (!Sp.nameR l)) ∧ Below w.heap.size w w' := by
  have H := Lib.hid (fun W : World => replyName_any l W hl)
  generalize Sp.nameR l = b at H
  have hal : Below w.heap.size w (w.alloc (.cells #[str l, .int .u64 n] 90)) := (Below.refl _ _).alloc (Nat.le_refl _) _
  have HAL := Lib.hid hal
  clear hal
  go_enter Tryz.func43, Tryz.ntmps43
  go_wp2_with (go_at_call 44; refine (H.out _).mono ?_; rintro e w2 ⟨rfl, hb2⟩; have HB2 := Lib.hid hb2; clear hb2)
  go_ret
  exact ⟨rfl, HAL.out.trans (HB2.out.mono HAL.out.size)⟩
/-- the first line that meets P, or -1 -/
def idxS (P : Sp.Bs × Nat → Bool) (l : List (Sp.Bs × Nat)) : Int := match l.findIdx? P with
  | some i => i
  | none => -1
theorem idxS_at {P : Sp.Bs × Nat → Bool} {l : List (Sp.Bs × Nat)} {i : Nat} {x : Sp.Bs × Nat} (hx : l[i]? = some x) (h : P x = true) (hn : ∀ (j : Nat) (y : Sp.Bs × Nat), j < i → l[j]? = some y → P y = false) : idxS P l = i := by
  obtain ⟨h1, h2⟩ := List.getElem?_eq_some_iff.1 hx
  have : l.findIdx? P = some i := List.findIdx?_eq_some_iff_getElem.2 ⟨h1, by rw [h2]; exact h, fun j hj => by
    rw [hn j _ hj (List.getElem?_eq_getElem (by omega))]; decide⟩
  unfold idxS
  rw [this]
theorem idxS_none {P : Sp.Bs × Nat → Bool} {l : List (Sp.Bs × Nat)} (hn : ∀ (j : Nat) (y : Sp.Bs × Nat), j < l.length → l[j]? = some y → P y = false) : idxS P l = -1 := by
  have : l.findIdx? P = none := List.findIdx?_eq_none_iff.2 fun x hx => by
    obtain ⟨j, hj, rfl⟩ := List.getElem_of_mem hx
    exact hn j _ hj (List.getElem?_eq_getElem hj)
  unfold idxS
  rw [this]
theorem idxS_any (P : Sp.Bs × Nat → Bool) (l : List (Sp.Bs × Nat)) : decide (0 ≤ idxS P l) = l.any P := by
  unfold idxS
  cases e : l.findIdx? P with
  | none =>
    have := List.findIdx?_eq_none_iff.1 e
    rw [show l.any P = false by rw [Bool.eq_false_iff, Ne, List.any_eq_true]; rintro ⟨x, hx, hp⟩; rw [this x hx] at hp; cases hp]
    rfl
  | some i =>
    obtain ⟨h1, h2, _⟩ := List.findIdx?_eq_some_iff_getElem.1 e
    rw [show l.any P = true by rw [List.any_eq_true]; exact ⟨_, List.getElem_mem h1, h2⟩]
    exact decide_eq_true (by show (0 : Int) ≤ (i : Int); omega)
theorem stat_cell {w : World} {S : Option Addr} {l : List (Sp.Bs × Nat)} (h : RowAt w S (statCells l)) {i : Nat} {x : Sp.Bs × Nat} (hx : l[i]? = some x) : ∃ g o, S = some ⟨g, o, none⟩ ∧ g < w.heap.size ∧ w.cell? ⟨g, o + i * 2, none⟩ = some (str x.1) ∧ w.cell? ⟨g, o + i * 2 + 1, none⟩ = some (.int .u64 x.2) := by
  have c0 : (statCells l)[i * 2 + 0]? = some (str x.1) := (flatMap_get (k := 2) (fun _ _ => rfl) hx (by decide)).trans rfl
  have c1 : (statCells l)[i * 2 + 1]? = some (.int .u64 x.2) := (flatMap_get (k := 2) (fun _ _ => rfl) hx (by decide)).trans rfl
  rcases h with h0 | ⟨g, o, h1, h2, h3⟩
  · rw [h0] at c0; cases c0
  · exact ⟨g, o, h1, h2, h3 _ _ c0, by rw [Nat.add_assoc]; exact h3 _ _ c1⟩
set_option maxHeartbeats 2000000 in
set_option maxRecDepth 100000 in
theorem idx_stats {P : Sp.Bs × Nat → Bool} {w : World} {A : Option Addr} {c : Nat} {l : List (Sp.Bs × Nat)} (hrow : RowAt w A (statCells l)) (hl : l.length ≤ 1000000000)
    (hf : ∀ (W : World) (x : Sp.Bs × Nat), x ∈ l → Below w.heap.size w W → Calls Tryz.prog 43 #[.agg #[str x.1, .int .u64 x.2]] W fun e w' => e = .returned (.bool (P x)) ∧ Below W.heap.size W w') :
    Calls Tryz.prog 83 #[.slice A l.length c, .func (.func 43) #[] #[]] w fun e w' => e = .returned (.int .i64 (idxS P l)) ∧ Below w.heap.size w w' := by
  generalize hR : (fun (e : Ending) (w' : World) => e = .returned (.int .i64 (idxS P l)) ∧ Below w.heap.size w w') = R
  have HR := Lib.hid hR
  have HF := Lib.hid hf
  have HROW := Lib.hid hrow
  clear hR hf hrow
  go_enter Tryz.func83, Tryz.ntmps83
  go_wp2_with fail
  go_loopw [5, 8] (fun _ k wr => ∃ i : Nat, k = .int .i64 i ∧ i ≤ l.length ∧ (∀ (j : Nat) (y : Sp.Bs × Nat), j < i → l[j]? = some y → P y = false) ∧ Below w.heap.size w wr) (fun _ k _ => l.length - (intOf k).toNat)
  case atStart => exact ⟨0, rfl, Nat.zero_le _, fun j y h => by omega, Below.refl _ _⟩
  case round =>
    obtain ⟨i, rfl, hi, hn, hb⟩ := hrel
    have HN := Lib.hid hn
    have HB := Lib.hid hb
    by_cases hlt : i < l.length
    · obtain ⟨x, hx⟩ : ∃ x, l[i]? = some x := ⟨l[i], by simp [hlt]⟩
      have hc := HF.out wr x (List.mem_of_getElem? hx) hb
      obtain ⟨g, o, hAe, _, ycell, ycell2⟩ := stat_cell (HROW.out.below hb) hx
      subst hAe
      have hi1 : (i : Int) < (l.length : Int) := by omega
      have HX := Lib.hid hx
      obtain ⟨b, hbv⟩ : ∃ b, b = P x := ⟨_, rfl⟩
      rw [← hbv] at hc
      have HBV := Lib.hid hbv
      have HC := Lib.hid hc
      clear hn hb hx hc hbv
      cases b with
      | true =>
        go_wp2_with (go_at_call 43; refine HC.out.mono ?_; rintro e w2 ⟨rfl, hb2⟩; have HB2 := Lib.hid hb2; clear hb2)
        rw [← HR.out]
        exact ⟨by rw [idxS_at HX.out HBV.out.symm HN.out]; rfl, HB.out.trans (HB2.out.mono HB.out.size)⟩
      | false =>
        go_wp2_with (go_at_call 43; refine HC.out.mono ?_; rintro e w2 ⟨rfl, hb2⟩; have HB2 := Lib.hid hb2; clear hb2)
        refine ⟨⟨i + 1, by go_num, by omega, fun j y hj hy => ?_, HB.out.trans (HB2.out.mono HB.out.size)⟩, by show l.length - ((i : Int) + 1).toNat < l.length - (i : Int).toNat; omega⟩
        rcases Nat.lt_or_ge j i with h1 | h1
        · exact HN.out j y h1 hy
        · have e : j = i := by omega
          have h2 := HX.out
          rw [← e, hy] at h2
          injection h2 with h2
          rw [h2]; exact HBV.out.symm
    · have hi1 : decide ((i : Int) < (l.length : Int)) = false := decide_eq_false (by omega)
      have hi2 : decide (i < l.length) = false := decide_eq_false hlt
      have e : i = l.length := by omega
      clear hn hb
      go_wp2_with fail
      rw [← HR.out]
      exact ⟨by rw [idxS_none (by rw [← e]; exact HN.out)]; rfl, HB.out⟩
theorem has_stats {P : Sp.Bs × Nat → Bool} {w : World} {A : Option Addr} {c : Nat} {l : List (Sp.Bs × Nat)} (hrow : RowAt w A (statCells l)) (hl : l.length ≤ 1000000000)
    (hf : ∀ (W : World) (x : Sp.Bs × Nat), x ∈ l → Below w.heap.size w W → Calls Tryz.prog 43 #[.agg #[str x.1, .int .u64 x.2]] W fun e w' => e = .returned (.bool (P x)) ∧ Below W.heap.size W w') :
    Calls Tryz.prog 42 #[.slice A l.length c, .func (.func 43) #[] #[]] w fun e w' => e = .returned (.bool (l.any P)) ∧ Below w.heap.size w w' := by
  have h := idx_stats (c := c) hrow hl hf
  rw [← idxS_any]
  generalize idxS P l = r at h
  have H := Lib.hid h
  clear h hf hrow
  go_enter Tryz.func42, Tryz.ntmps42
  go_wp2_with (go_at_call 83; refine H.out.mono ?_; rintro e w2 ⟨rfl, hb2⟩; have HB2 := Lib.hid hb2; clear hb2)
  go_ret
  exact ⟨rfl, HB2.out⟩
end Go.Proofs.YtnbeeehfapjpdaaGreatDoor
