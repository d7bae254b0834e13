/- Walks of the library: slices.IndexFunc, slices.ContainsFunc over texts, at the predicates of package reply. Printed by gen/genV6.py. Walks of the library: strconv.FormatUint at base 10. Walks of package reply: refusal, the predicates of meta and choose, digits; the reader's rest, fail. -/
import Derived.Test.YtnbeeehfapjpdaaGreatDoorQV3
import Derived.Test.YtnbeeehfapjpdaaGreatDoorPc
import Derived.Test.YtnbeeehfapjpdaaGreatDoorQG1
import Derived.Deep.CutRange
import Derived.Deep.DeepCutAuto
import Derived.Test.YtnbeeehfapjpdaaGreatDoorQW3
import Derived.Test.YtnbeeehfapjpdaaGreatDoorShelf
import Derived.Lib.AppendIntMem
import Derived.Lib.ItoaMem
import Derived.WalkSmall
import Derived.Lib.Hide
section
namespace Go.Proofs.YtnbeeehfapjpdaaGreatDoor
attribute [local go_sem ↓] Go.wp_at_zero Go.wp_at_succ
open Go.RowKit

/-- the first element that meets P, or -1 -/
def idxP (P : Sp.Bs → Bool) (l : List Sp.Bs) : Int := match l.findIdx? P with
  | some i => i
  | none => -1
theorem idxP_at {P : Sp.Bs → Bool} {l : List Sp.Bs} {i : Nat} {x : Sp.Bs} (hx : l[i]? = some x) (h : P x = true) (hn : ∀ (j : Nat) (y : Sp.Bs), j < i → l[j]? = some y → P y = false) : idxP P l = i := by
  obtain ⟨h1, h2⟩ := List.getElem?_eq_some_iff.1 hx
  have : l.findIdx? P = some i := List.findIdx?_eq_some_iff_getElem.2 ⟨h1, by rw [h2]; exact h, fun j hj => by
    rw [hn j _ hj (List.getElem?_eq_getElem (by omega))]; decide⟩
  unfold idxP
  rw [this]
theorem idxP_none {P : Sp.Bs → Bool} {l : List Sp.Bs} (hn : ∀ (j : Nat) (y : Sp.Bs), j < l.length → l[j]? = some y → P y = false) : idxP P l = -1 := by
  have : l.findIdx? P = none := List.findIdx?_eq_none_iff.2 fun x hx => by
    obtain ⟨j, hj, rfl⟩ := List.getElem_of_mem hx
    exact hn j _ hj (List.getElem?_eq_getElem hj)
  unfold idxP
  rw [this]
theorem idxP_any (P : Sp.Bs → Bool) (l : List Sp.Bs) : decide (0 ≤ idxP P l) = l.any P := by
  unfold idxP
  cases e : l.findIdx? P with
  | none =>
    have := List.findIdx?_eq_none_iff.1 e
    rw [show l.any P = false by rw [Bool.eq_false_iff, Ne, List.any_eq_true]; rintro ⟨x, hx, hp⟩; rw [this x hx] at hp; cases hp]
    rfl
  | some i =>
    obtain ⟨h1, h2, _⟩ := List.findIdx?_eq_some_iff_getElem.1 e
    rw [show l.any P = true by rw [List.any_eq_true]; exact ⟨_, List.getElem_mem h1, h2⟩]
    exact decide_eq_true (by show (0 : Int) ≤ (i : Int); omega)
set_option maxHeartbeats 2000000 in
set_option maxRecDepth 100000 in
theorem idx_refusal {sb : Nat} {P : Sp.Bs → Bool} {w : World} {A : Option Addr} {c : Nat} {l : List Sp.Bs} (hrow : RowAt w A (l.map str)) (hl : l.length ≤ 1000000000)
    (hf : ∀ (W : World) (x : Sp.Bs), x ∈ l → Below w.heap.size w W → Calls Tryz.prog 81 #[str x, .pointer (some ⟨sb, 0, none⟩)] W fun e w' => e = .returned (.bool (P x)) ∧ Below W.heap.size W w') :
    Calls Tryz.prog 122 #[.slice A l.length c, .func (.func 81) #[] #[.pointer (some ⟨sb, 0, none⟩)]] w fun e w' => e = .returned (.int .i64 (idxP P l)) ∧ Below w.heap.size w w' := by
  generalize hR : (fun (e : Ending) (w' : World) => e = .returned (.int .i64 (idxP P l)) ∧ Below w.heap.size w w') = R
  have HR := Lib.hid hR
  have HF := Lib.hid hf
  have HROW := Lib.hid hrow
  clear hR hf hrow
  go_enter Tryz.func122, Tryz.ntmps122
  go_wp2_with fail
  go_loopw [5, 8] (fun _ k wr => ∃ i : Nat, k = .int .i64 i ∧ i ≤ l.length ∧ (∀ (j : Nat) (y : Sp.Bs), j < i → l[j]? = some y → P y = false) ∧ Below w.heap.size w wr) (fun _ k _ => l.length - (intOf k).toNat)
  case atStart => exact ⟨0, rfl, Nat.zero_le _, fun j y h => by omega, Below.refl _ _⟩
  case round =>
    obtain ⟨i, rfl, hi, hn, hb⟩ := hrel
    have HN := Lib.hid hn
    have HB := Lib.hid hb
    by_cases hlt : i < l.length
    · obtain ⟨x, hx⟩ : ∃ x, l[i]? = some x := ⟨l[i], by simp [hlt]⟩
      have hc := HF.out wr x (List.mem_of_getElem? hx) hb
      obtain ⟨g, o, hAe, ycell⟩ : ∃ g o, A = some ⟨g, o, none⟩ ∧ wr.cell? ⟨g, o + i, none⟩ = some (str x) := by
        rcases HROW.out.below hb with h0 | ⟨g, o, h1, h2, h3⟩
        · have : l = [] := by simpa using h0
          rw [this] at hlt; simp at hlt
        · exact ⟨g, o, h1, h3 _ _ (by rw [List.getElem?_map, hx]; rfl)⟩
      subst hAe
      have hi1 : (i : Int) < (l.length : Int) := by omega
      have HX := Lib.hid hx
      obtain ⟨b, hbv⟩ : ∃ b, b = P x := ⟨_, rfl⟩
      rw [← hbv] at hc
      have HBV := Lib.hid hbv
      have HC := Lib.hid hc
      clear hn hb hx hc hbv
      cases b with
      | true =>
        go_wp2_with (go_at_call 81; refine HC.out.mono ?_; rintro e w2 ⟨rfl, hb2⟩; have HB2 := Lib.hid hb2; clear hb2)
        rw [← HR.out]
        exact ⟨by rw [idxP_at HX.out HBV.out.symm HN.out]; rfl, HB.out.trans (HB2.out.mono HB.out.size)⟩
      | false =>
        go_wp2_with (go_at_call 81; refine HC.out.mono ?_; rintro e w2 ⟨rfl, hb2⟩; have HB2 := Lib.hid hb2; clear hb2)
        refine ⟨⟨i + 1, by go_num, by omega, fun j y hj hy => ?_, HB.out.trans (HB2.out.mono HB.out.size)⟩, by show l.length - ((i : Int) + 1).toNat < l.length - (i : Int).toNat; omega⟩
        rcases Nat.lt_or_ge j i with h1 | h1
        · exact HN.out j y h1 hy
        · have e : j = i := by omega
          have h2 := HX.out
          rw [← e, hy] at h2
          injection h2 with h2
          rw [h2]; exact HBV.out.symm
    · have hi1 : decide ((i : Int) < (l.length : Int)) = false := decide_eq_false (by omega)
      have hi2 : decide (i < l.length) = false := decide_eq_false hlt
      have e : i = l.length := by omega
      clear hn hb
      go_wp2_with fail
      rw [← HR.out]
      exact ⟨by rw [idxP_none (by rw [← e]; exact HN.out)]; rfl, HB.out⟩
theorem has_refusal {sb : Nat} {P : Sp.Bs → Bool} {w : World} {A : Option Addr} {c : Nat} {l : List Sp.Bs} (hrow : RowAt w A (l.map str)) (hl : l.length ≤ 1000000000)
    (hf : ∀ (W : World) (x : Sp.Bs), x ∈ l → Below w.heap.size w W → Calls Tryz.prog 81 #[str x, .pointer (some ⟨sb, 0, none⟩)] W fun e w' => e = .returned (.bool (P x)) ∧ Below W.heap.size W w') :
    Calls Tryz.prog 79 #[.slice A l.length c, .func (.func 81) #[] #[.pointer (some ⟨sb, 0, none⟩)]] w fun e w' => e = .returned (.bool (l.any P)) ∧ Below w.heap.size w w' := by
  have h := idx_refusal (c := c) hrow hl hf
  rw [← idxP_any]
  generalize idxP P l = r at h
  have H := Lib.hid h
  clear h hf hrow
  go_enter Tryz.func79, Tryz.ntmps79
  go_wp2_with (go_at_call 122; refine H.out.mono ?_; rintro e w2 ⟨rfl, hb2⟩; have HB2 := Lib.hid hb2; clear hb2)
  go_ret
  exact ⟨rfl, HB2.out⟩
set_option maxHeartbeats 2000000 in
set_option maxRecDepth 100000 in
theorem idx_choose {sb : Nat} {P : Sp.Bs → Bool} {w : World} {A : Option Addr} {c : Nat} {l : List Sp.Bs} (hrow : RowAt w A (l.map str)) (hl : l.length ≤ 1000000000)
    (hf : ∀ (W : World) (x : Sp.Bs), x ∈ l → Below w.heap.size w W → Calls Tryz.prog 146 #[str x, .pointer (some ⟨sb, 0, none⟩)] W fun e w' => e = .returned (.bool (P x)) ∧ Below W.heap.size W w') :
    Calls Tryz.prog 122 #[.slice A l.length c, .func (.func 146) #[] #[.pointer (some ⟨sb, 0, none⟩)]] w fun e w' => e = .returned (.int .i64 (idxP P l)) ∧ Below w.heap.size w w' := by
  generalize hR : (fun (e : Ending) (w' : World) => e = .returned (.int .i64 (idxP P l)) ∧ Below w.heap.size w w') = R
  have HR := Lib.hid hR
  have HF := Lib.hid hf
  have HROW := Lib.hid hrow
  clear hR hf hrow
  go_enter Tryz.func122, Tryz.ntmps122
  go_wp2_with fail
  go_loopw [5, 8] (fun _ k wr => ∃ i : Nat, k = .int .i64 i ∧ i ≤ l.length ∧ (∀ (j : Nat) (y : Sp.Bs), j < i → l[j]? = some y → P y = false) ∧ Below w.heap.size w wr) (fun _ k _ => l.length - (intOf k).toNat)
  case atStart => exact ⟨0, rfl, Nat.zero_le _, fun j y h => by omega, Below.refl _ _⟩
  case round =>
    obtain ⟨i, rfl, hi, hn, hb⟩ := hrel
    have HN := Lib.hid hn
    have HB := Lib.hid hb
    by_cases hlt : i < l.length
    · obtain ⟨x, hx⟩ : ∃ x, l[i]? = some x := ⟨l[i], by simp [hlt]⟩
      have hc := HF.out wr x (List.mem_of_getElem? hx) hb
      obtain ⟨g, o, hAe, ycell⟩ : ∃ g o, A = some ⟨g, o, none⟩ ∧ wr.cell? ⟨g, o + i, none⟩ = some (str x) := by
        rcases HROW.out.below hb with h0 | ⟨g, o, h1, h2, h3⟩
        · have : l = [] := by simpa using h0
          rw [this] at hlt; simp at hlt
        · exact ⟨g, o, h1, h3 _ _ (by rw [List.getElem?_map, hx]; rfl)⟩
      subst hAe
      have hi1 : (i : Int) < (l.length : Int) := by omega
      have HX := Lib.hid hx
      obtain ⟨b, hbv⟩ : ∃ b, b = P x := ⟨_, rfl⟩
      rw [← hbv] at hc
      have HBV := Lib.hid hbv
      have HC := Lib.hid hc
      clear hn hb hx hc hbv
      cases b with
      | true =>
        go_wp2_with (go_at_call 146; refine HC.out.mono ?_; rintro e w2 ⟨rfl, hb2⟩; have HB2 := Lib.hid hb2; clear hb2)
        rw [← HR.out]
        exact ⟨by rw [idxP_at HX.out HBV.out.symm HN.out]; rfl, HB.out.trans (HB2.out.mono HB.out.size)⟩
      | false =>
        go_wp2_with (go_at_call 146; refine HC.out.mono ?_; rintro e w2 ⟨rfl, hb2⟩; have HB2 := Lib.hid hb2; clear hb2)
        refine ⟨⟨i + 1, by go_num, by omega, fun j y hj hy => ?_, HB.out.trans (HB2.out.mono HB.out.size)⟩, by show l.length - ((i : Int) + 1).toNat < l.length - (i : Int).toNat; omega⟩
        rcases Nat.lt_or_ge j i with h1 | h1
        · exact HN.out j y h1 hy
        · have e : j = i := by omega
          have h2 := HX.out
          rw [← e, hy] at h2
          injection h2 with h2
          rw [h2]; exact HBV.out.symm
    · have hi1 : decide ((i : Int) < (l.length : Int)) = false := decide_eq_false (by omega)
      have hi2 : decide (i < l.length) = false := decide_eq_false hlt
      have e : i = l.length := by omega
      clear hn hb
      go_wp2_with fail
      rw [← HR.out]
      exact ⟨by rw [idxP_none (by rw [← e]; exact HN.out)]; rfl, HB.out⟩
theorem has_choose {sb : Nat} {P : Sp.Bs → Bool} {w : World} {A : Option Addr} {c : Nat} {l : List Sp.Bs} (hrow : RowAt w A (l.map str)) (hl : l.length ≤ 1000000000)
    (hf : ∀ (W : World) (x : Sp.Bs), x ∈ l → Below w.heap.size w W → Calls Tryz.prog 146 #[str x, .pointer (some ⟨sb, 0, none⟩)] W fun e w' => e = .returned (.bool (P x)) ∧ Below W.heap.size W w') :
    Calls Tryz.prog 79 #[.slice A l.length c, .func (.func 146) #[] #[.pointer (some ⟨sb, 0, none⟩)]] w fun e w' => e = .returned (.bool (l.any P)) ∧ Below w.heap.size w w' := by
  have h := idx_choose (c := c) hrow hl hf
  rw [← idxP_any]
  generalize idxP P l = r at h
  have H := Lib.hid h
  clear h hf hrow
  go_enter Tryz.func79, Tryz.ntmps79
  go_wp2_with (go_at_call 122; refine H.out.mono ?_; rintro e w2 ⟨rfl, hb2⟩; have HB2 := Lib.hid hb2; clear hb2)
  go_ret
  exact ⟨rfl, HB2.out⟩
set_option maxHeartbeats 2000000 in
set_option maxRecDepth 100000 in
theorem idx_meta {P : Sp.Bs → Bool} {w : World} {A : Option Addr} {c : Nat} {l : List Sp.Bs} (hrow : RowAt w A (l.map str)) (hl : l.length ≤ 1000000000)
    (hf : ∀ (W : World) (x : Sp.Bs), x ∈ l → Below w.heap.size w W → Calls Tryz.prog 88 #[str x] W fun e w' => e = .returned (.bool (P x)) ∧ Below W.heap.size W w') :
    Calls Tryz.prog 122 #[.slice A l.length c, .func (.func 88) #[] #[]] w fun e w' => e = .returned (.int .i64 (idxP P l)) ∧ Below w.heap.size w w' := by
  generalize hR : (fun (e : Ending) (w' : World) => e = .returned (.int .i64 (idxP P l)) ∧ Below w.heap.size w w') = R
  have HR := Lib.hid hR
  have HF := Lib.hid hf
  have HROW := Lib.hid hrow
  clear hR hf hrow
  go_enter Tryz.func122, Tryz.ntmps122
  go_wp2_with fail
  go_loopw [5, 8] (fun _ k wr => ∃ i : Nat, k = .int .i64 i ∧ i ≤ l.length ∧ (∀ (j : Nat) (y : Sp.Bs), j < i → l[j]? = some y → P y = false) ∧ Below w.heap.size w wr) (fun _ k _ => l.length - (intOf k).toNat)
  case atStart => exact ⟨0, rfl, Nat.zero_le _, fun j y h => by omega, Below.refl _ _⟩
  case round =>
    obtain ⟨i, rfl, hi, hn, hb⟩ := hrel
    have HN := Lib.hid hn
    have HB := Lib.hid hb
    by_cases hlt : i < l.length
    · obtain ⟨x, hx⟩ : ∃ x, l[i]? = some x := ⟨l[i], by simp [hlt]⟩
      have hc := HF.out wr x (List.mem_of_getElem? hx) hb
      obtain ⟨g, o, hAe, ycell⟩ : ∃ g o, A = some ⟨g, o, none⟩ ∧ wr.cell? ⟨g, o + i, none⟩ = some (str x) := by
        rcases HROW.out.below hb with h0 | ⟨g, o, h1, h2, h3⟩
        · have : l = [] := by simpa using h0
          rw [this] at hlt; simp at hlt
        · exact ⟨g, o, h1, h3 _ _ (by rw [List.getElem?_map, hx]; rfl)⟩
      subst hAe
      have hi1 : (i : Int) < (l.length : Int) := by omega
      have HX := Lib.hid hx
      obtain ⟨b, hbv⟩ : ∃ b, b = P x := ⟨_, rfl⟩
      rw [← hbv] at hc
      have HBV := Lib.hid hbv
      have HC := Lib.hid hc
      clear hn hb hx hc hbv
      cases b with
      | true =>
        go_wp2_with (go_at_call 88; refine HC.out.mono ?_; rintro e w2 ⟨rfl, hb2⟩; have HB2 := Lib.hid hb2; clear hb2)
        rw [← HR.out]
        exact ⟨by rw [idxP_at HX.out HBV.out.symm HN.out]; rfl, HB.out.trans (HB2.out.mono HB.out.size)⟩
      | false =>
        go_wp2_with (go_at_call 88; refine HC.out.mono ?_; rintro e w2 ⟨rfl, hb2⟩; have HB2 := Lib.hid hb2; clear hb2)
        refine ⟨⟨i + 1, by go_num, by omega, fun j y hj hy => ?_, HB.out.trans (HB2.out.mono HB.out.size)⟩, by show l.length - ((i : Int) + 1).toNat < l.length - (i : Int).toNat; omega⟩
        rcases Nat.lt_or_ge j i with h1 | h1
        · exact HN.out j y h1 hy
        · have e : j = i := by omega
          have h2 := HX.out
          rw [← e, hy] at h2
          injection h2 with h2
          rw [h2]; exact HBV.out.symm
    · have hi1 : decide ((i : Int) < (l.length : Int)) = false := decide_eq_false (by omega)
      have hi2 : decide (i < l.length) = false := decide_eq_false hlt
      have e : i = l.length := by omega
      clear hn hb
      go_wp2_with fail
      rw [← HR.out]
      exact ⟨by rw [idxP_none (by rw [← e]; exact HN.out)]; rfl, HB.out⟩
theorem has_meta {P : Sp.Bs → Bool} {w : World} {A : Option Addr} {c : Nat} {l : List Sp.Bs} (hrow : RowAt w A (l.map str)) (hl : l.length ≤ 1000000000)
    (hf : ∀ (W : World) (x : Sp.Bs), x ∈ l → Below w.heap.size w W → Calls Tryz.prog 88 #[str x] W fun e w' => e = .returned (.bool (P x)) ∧ Below W.heap.size W w') :
    Calls Tryz.prog 79 #[.slice A l.length c, .func (.func 88) #[] #[]] w fun e w' => e = .returned (.bool (l.any P)) ∧ Below w.heap.size w w' := by
  have h := idx_meta (c := c) hrow hl hf
  rw [← idxP_any]
  generalize idxP P l = r at h
  have H := Lib.hid h
  clear h hf hrow
  go_enter Tryz.func79, Tryz.ntmps79
  go_wp2_with (go_at_call 122; refine H.out.mono ?_; rintro e w2 ⟨rfl, hb2⟩; have HB2 := Lib.hid hb2; clear hb2)
  go_ret
  exact ⟨rfl, HB2.out⟩
end Go.Proofs.YtnbeeehfapjpdaaGreatDoor
end
section
namespace Go.Proofs.YtnbeeehfapjpdaaGreatDoor
open Go.RowKit Go.Lib Go.Sort

/-- the library's table of powers is there -/
def TabAt (w : World) : Prop := Lib.TabIs Tryz.prog w "internal/strconv.uint64pow10" .u64 Lib.pow10Tab

theorem below_grow {w : World} (k : Nat) (os : Array Obj) : Below w.heap.size w (grow (w.drewN k) os) := by
  refine ⟨rfl, rfl, rfl, by simp [grow], fun i hi => ?_⟩
  show (w.heap ++ os)[i]? = _
  rw [Array.getElem?_append_left hi]

set_option maxHeartbeats 6400000 in
set_option maxRecDepth 100000 in
theorem formatUint_in (u : Nat) (hu64 : u < 18446744073709551616) (w : World) (htab : TabAt w) :
    Calls Tryz.prog 126 #[.int .u64 u, .int .i64 10] w fun e w' => e = .returned (str (Lib.decDigits u)) ∧ Below w.heap.size w w' := by
  unfold TabAt at htab
  by_cases hs : u < 100
  · go_enter Tryz.func126, Tryz.ntmps126
    go_wp2_with (go_at_call 154; refine (Tryz.internal_strconv_small u hs _).mono ?_; rintro e w' ⟨rfl, rfl⟩)
    go_ret
    exact ⟨rfl, Below.refl _ _⟩
  · have hu1 : 1 ≤ u := by omega
    have hnd20 : Lib.nDigits u ≤ 20 := by have := Lib.numDigits_eq u hu1 hu64; split at this <;> omega
    have hal : Tryz.prog.arrayLen 184 = 24 := by simp [Program.arrayLen, Tryz.underlying184]
    have hsl1 : ∀ W, (Instr.sliceAt 184 (.pointer (some ⟨w.heap.size, 0, none⟩)) none (some (.int .i64 (Lib.nDigits u : Int))) none).run Tryz.prog W = .ok (.slice (some ⟨w.heap.size, 0, none⟩) (Lib.nDigits u) 24) W := fun W => by
      rw [run_sliceAt_array_h W 184 ⟨w.heap.size, 0, none⟩ (by simp [Program.arrayLen, Program.elem, Tryz.underlying184]) .i64 (Lib.nDigits u : Int) (by omega) (by rw [hal]; omega)]
      go_simp
    have hH0 := Lib.holds_zero0 w 184 (Lib.nDigits u) (by omega)
    have hfmt := Tryz.internal_strconv_formatBase10 w.heap.size 0 24 u (Array.replicate (Lib.nDigits u) 0) (w.alloc (.cells Lib.zeros24 184)) hH0 (by rw [Array.size_replicate]; exact Lib.lt_pow_nDigits u) hu64 (by rw [Array.size_replicate]; omega)
    rw [Array.size_replicate] at hfmt
    have HH0 := Lib.hid hH0
    have HT := Lib.hid htab
    clear hH0 hal htab
    have hs' : ¬ (u : Int) < 100 := by omega
    go_enter Tryz.func126, Tryz.ntmps126
    go_wp2_with (first | (go_at_call 155; refine (Tryz.internal_strconv_numDigits u hu1 hu64 _ (Lib.tabIs_alloc HT.out _)).mono ?_; rintro e w' ⟨rfl, rfl⟩))
    refine hfmt.mono ?_
    rintro e w' ⟨rfl, k, v', dk, rfl, hF⟩
    have hcv : (convert 29 9 (.slice (some ⟨w.heap.size, 0, none⟩) (Lib.nDigits u) 24)).run Tryz.prog ((putRow (fun (b : UInt8) => Value.int .u8 (b.toNat : Int)) (w.alloc (.cells Lib.zeros24 184)) w.heap.size 0 dk).drewN k) = .ok (.string ⟨(Lib.decDigits u).toArray⟩) ((putRow (fun (b : UInt8) => Value.int .u8 (b.toNat : Int)) (w.alloc (.cells Lib.zeros24 184)) w.heap.size 0 dk).drewN k) := by
      have h := run_convert_bytes_back (P := Tryz.prog) ((putRow (fun (b : UInt8) => Value.int .u8 (b.toNat : Int)) (w.alloc (.cells Lib.zeros24 184)) w.heap.size 0 dk).drewN k) 29 9 5 ⟨w.heap.size, 0, none⟩ 24 (Lib.decDigits u) Tryz.underlying29 Tryz.underlying5 Tryz.underlying9 (fun j hj => by
        rw [Lib.row_is_numeral hF j hj, Lib.add_plain, World.cell?_drewN]
        exact cell?_putRow (fun (b : UInt8) => Value.int .u8 (b.toNat : Int)) _ w.heap.size 0 _ dk HH0.out (by rw [hF.size, Array.size_replicate]) j (by rw [hF.size]; rw [Lib.decDigits_length] at hj; exact hj))
      rw [Lib.decDigits_length] at h
      exact h
    have hfin : Below w.heap.size w ((putRow (fun (b : UInt8) => Value.int .u8 (b.toNat : Int)) (w.alloc (.cells Lib.zeros24 184)) w.heap.size 0 dk).drewN k) := by
      rw [alloc_eq_grow]
      obtain ⟨os', _, e⟩ := putRow_grow_new (fun (b : UInt8) => Value.int .u8 (b.toNat : Int)) w #[.cells Lib.zeros24 184] w.heap.size 0 dk (Nat.le_refl _)
      rw [e]
      exact below_grow k os'
    have HF := Lib.hid hfin
    clear hfin hF
    go_wp2
    go_ret
    exact ⟨rfl, HF.out⟩

theorem formatUint_any (u : Nat) (hu64 : u < 18446744073709551616) (w : World) (htab : TabAt w) :
    Calls Tryz.prog 90 #[.int .u64 u, .int .i64 10] w fun e w' => e = .returned (str (Lib.decDigits u)) ∧ Below w.heap.size w w' := by
  have h := formatUint_in u hu64 w htab
  have H := Lib.hid h
  clear h htab
  go_enter Tryz.func90, Tryz.ntmps90
  go_wp2_with (go_at_call 126; refine H.out.mono ?_; rintro e w' ⟨rfl, hb⟩; have HB := Lib.hid hb; clear hb)
  go_ret
  exact ⟨rfl, HB.out⟩

theorem itoa_any (n : Int) (h0 : -9223372036854775808 ≤ n) (h1 : n ≤ 9223372036854775807) (w : World) (htab : TabAt w) :
    Calls Tryz.prog 47 #[.int .i64 n] w fun e w' => e = .returned (str (Lib.itoa n)) ∧ Below w.heap.size w w' :=
  (Tryz.strconv_Itoa n h0 h1 w htab).mono fun _ _ ⟨h, k, os, hw⟩ => ⟨h, hw ▸ below_grow k os⟩
end Go.Proofs.YtnbeeehfapjpdaaGreatDoor
end
section
namespace Go.Proofs.YtnbeeehfapjpdaaGreatDoor
open Go.RowKit

theorem refusal_any (l : Sp.Bs) (w : World) (hl : l.length ≤ 140737488355328) : Calls Tryz.prog 41 #[str l] w fun e w' => e = .returned (.bool (Sp.refusalV l)) ∧ Below w.heap.size w w' := by
  unfold Sp.refusalV
  by_cases he : l = Sp.errorV
  · subst he
    rw [decide_eq_true (p := Sp.errorV = Sp.errorV) rfl, Bool.true_or]
    clear hl
    go_enter Tryz.func41, Tryz.ntmps41
    go_wp2
    go_ret
    exact ⟨rfl, (Below.refl _ _).alloc (Nat.le_refl _) _⟩
  · have he2 : (l == [69, 82, 82, 79, 82]) = false := by simpa [Sp.errorV] using he
    rw [decide_eq_false he, Bool.false_or]
    have hb0 : Below w.heap.size w (w.alloc (.cells #[str l] 9)) := (Below.refl _ _).alloc (Nat.le_refl _) _
    have hc0 : (w.alloc (.cells #[str l] 9)).cell? ⟨w.heap.size, 0, none⟩ = some (str l) := by
      unfold World.cell?
      rw [heap_alloc_new w (.cells #[str l] 9)]; rfl
    have hs0 : (w.alloc (.cells #[str l] 9)).heap.size = w.heap.size + 1 := by simp
    obtain ⟨W1, hW1⟩ : ∃ W1, W1 = w.alloc (.cells #[str l] 9) := ⟨_, rfl⟩
    rw [← hW1] at hb0 hc0 hs0
    have h1 := refusals_any W1
    have h2 : ∀ (W : World) (g c : Nat), Below W1.heap.size W1 W → W.ownsRow W1.heap.size 9 1 (.slice (some ⟨g, 0, none⟩) 2 c) 2 ([Sp.clientErr, Sp.serverErr].map str) →
        Calls Tryz.prog 79 #[.slice (some ⟨g, 0, none⟩) 2 c, .func (.func 81) #[] #[.pointer (some ⟨w.heap.size, 0, none⟩)]] W fun e w' => e = .returned (.bool ([Sp.clientErr, Sp.serverErr].any fun p => p.isPrefixOf l && Sp.plainV (l.drop p.length))) ∧ Below W.heap.size W w' := fun W g c hb ho =>
      has_refusal (l := [Sp.clientErr, Sp.serverErr]) (P := fun p => p.isPrefixOf l && Sp.plainV (l.drop p.length)) (RowAt.of_own ho) (by decide) (fun W' x hx hb' => refusal1_any ((World.cell?_of_block (a := ⟨w.heap.size, 0, none⟩) ((hb.trans (hb'.mono hb.size)).block w.heap.size (by omega))).trans hc0) hl x (by
        simp only [List.mem_cons, List.not_mem_nil, or_false] at hx
        rcases hx with rfl | rfl <;> decide))
    generalize ([Sp.clientErr, Sp.serverErr].any fun p => p.isPrefixOf l && Sp.plainV (l.drop p.length)) = bv at h2 ⊢
    have H1 := Lib.hid h1
    have H2 := Lib.hid h2
    have HB0 := Lib.hid hb0
    have HW1 := Lib.hid hW1
    clear h1 h2 hb0 hW1 he hs0
    go_enter Tryz.func41, Tryz.ntmps41
    go_upto_region 1 with fail
    rw [← HW1.out]
    go_wp2_with (first | (go_at_call 80; refine H1.out.mono ?_; rintro e w2 ⟨g, c, rfl, ho2, hb2⟩; have hc := H2.out w2 g c hb2 ho2; have HC := Lib.hid hc; have HB2 := Lib.hid hb2; clear ho2 hb2 hc) | (go_at_call 79; refine HC.out.mono ?_; rintro e w3 ⟨rfl, hb3⟩; have HB3 := Lib.hid hb3; clear hb3))
    go_ret
    exact ⟨rfl, HB0.out.trans ((HB2.out.trans (HB3.out.mono HB2.out.size)).mono HB0.out.size)⟩
theorem meta1_any (l : Sp.Bs) (w : World) (hl : l.length ≤ 140737488355328) : Calls Tryz.prog 88 #[str l] w fun e w' => e = .returned (.bool (!Sp.flagR l)) ∧ Below w.heap.size w w' := by
  have H := Lib.hid (replyFlag_any l w hl)
  generalize Sp.flagR l = b at H
  go_enter Tryz.func88, Tryz.ntmps88
  go_wp2_with (go_at_call 89; refine H.out.mono ?_; rintro e w2 ⟨rfl, hb2⟩; have HB2 := Lib.hid hb2; clear hb2)
  go_ret
  exact ⟨rfl, HB2.out⟩
end Go.Proofs.YtnbeeehfapjpdaaGreatDoor
end
