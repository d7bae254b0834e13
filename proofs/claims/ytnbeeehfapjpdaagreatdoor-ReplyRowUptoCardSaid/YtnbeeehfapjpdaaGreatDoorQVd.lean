/- Walk of package reply's reader: text. Walk of package reply's reader: choose. -/
import Derived.Test.YtnbeeehfapjpdaaGreatDoorQVa
section
namespace Go.Proofs.YtnbeeehfapjpdaaGreatDoor
attribute [local go_sem ↓] Go.wp_at_zero Go.wp_at_succ
open Go.RowKit

/-- what the reading of words tells -/
def TextPost (w : World) (rb : Nat) (A : Option Addr) (cap : Nat) (raw : Sp.Bs) (p : Nat) (r : Sp.RdV Sp.Bs) (e : Ending) (w' : World) : Prop :=
  OnlyIn [rb] w w' ∧ match r with
    | .got s q => e = .returned (str s) ∧ RdAt w' rb A cap raw q
    | .more => e = thrownR true ∧ RdAt w' rb A cap raw p
    | .fail => e = thrownR false ∧ RdAt w' rb A cap raw p
theorem idxB_find (P : UInt8 → Bool) (l : Sp.Bs) : (idxB P l = -1 ∧ l.findIdx? P = none) ∨ ∃ i : Nat, idxB P l = i ∧ l.findIdx? P = some i ∧ i < l.length := by
  unfold idxB
  cases e : l.findIdx? P with
  | none => exact .inl ⟨rfl, rfl⟩
  | some i =>
    obtain ⟨h1, _⟩ := List.findIdx?_eq_some_iff_getElem.1 e
    exact .inr ⟨i, rfl, rfl, h1⟩
set_option maxHeartbeats 4000000 in
set_option maxRecDepth 100000 in
theorem text_some {w : World} {rb : Nat} {A : Option Addr} {cap : Nat} {raw : Sp.Bs} {p i : Nat} (h : RdAt w rb A cap raw p) (hi : (raw.drop p).findIdx? (fun c => decide (c < 32 ∨ 126 < c)) = some i) :
    Calls Tryz.prog 110 #[.pointer (some ⟨rb, 0, none⟩)] w (TextPost w rb A cap raw p (Sp.textR raw p)) := by
  obtain ⟨r, hr⟩ : ∃ r, r = Sp.textR raw p := ⟨_, rfl⟩
  rw [← hr]
  unfold Sp.textR at hr
  rw [hi] at hr
  dsimp only at hr
  generalize hR : TextPost w rb A cap raw p r = R
  obtain ⟨l, hl⟩ : ∃ l, l = raw.drop p := ⟨_, rfl⟩
  have hlen : l.length = raw.length - p := by rw [hl, List.length_drop]
  have hrest := rest_any h
  unfold restV at hrest
  rw [← hlen] at hrest
  have hrow := h.rest
  rw [← hl] at hrow hr hi
  obtain ⟨hil, _, _⟩ := List.findIdx?_eq_some_iff_getElem.1 hi
  have hx : idxB (fun c => decide (c < 32 ∨ 126 < c)) l = (i : Int) := by unfold idxB; rw [hi]
  have hsm := h.small
  have hle := h.le
  have hroom := h.room
  have hidx : ∀ W : World, Below w.heap.size w W → Calls Tryz.prog 143 #[.slice (cutAddr A p cap) l.length (cap - p), .func (.func 144) #[] #[]] W fun e w' => e = .returned (.int .i64 i) ∧ Below W.heap.size W w' := fun W hW => by
    have := idx_text (P := fun c => decide (c < 32 ∨ 126 < c)) (c := cap - p) (hrow.below hW) (by omega) (fun W' x _ _ => (text1_any x W').mono fun e w' ⟨h1, h2⟩ => ⟨h1, by rw [← h2]; exact Below.refl _ _⟩)
    rw [hx] at this
    exact this
  have hstr : ∀ W : World, Below w.heap.size w W → (convert 29 9 (.slice (cutAddr A p cap) i (cap - p))).run Tryz.prog W = .ok (.string ⟨(l.take i).toArray⟩) W := fun W hW => by
    have hrt : RowAt W (cutAddr A p cap) (bytesV (l.take i)) := by
      have := (hrow.below hW).take i
      simpa [bytesV, List.map_take] using this
    have := run_bytes_str (cap := cap - p) hrt
    rwa [show (l.take i).length = i by rw [List.length_take]; omega] at this
  have hpl := fun W : World => plain_any (l.take i) W (by rw [List.length_take]; omega)
  have hf := fun W : World => readerFail_any W rb
  have hi0 : decide ((i : Int) < 0) = false := decide_eq_false (by omega)
  have hic : (i : Int) ≤ ((cap - p : Nat) : Int) := by omega
  have hil2 : (i : Int) ≤ (l.length : Int) := by omega
  have HR := Lib.hid hR
  have HH := Lib.hid h
  have HREST := Lib.hid hrest
  have HIDX := Lib.hid hidx
  have HSTR := Lib.hid hstr
  have HF := Lib.hid hf
  generalize cutAddr A p cap = D at HREST HIDX HSTR
  obtain ⟨s, hs⟩ : ∃ s, s = l.take i := ⟨_, rfl⟩
  have hsl : s.length = i := by rw [hs, List.length_take]; omega
  rw [← hs] at hr hpl HSTR
  have hpi : p + i ≤ raw.length := by omega
  clear hR h hrest hidx hstr hf hrow hx hi hs hl hlen hsl
  cases hb : Sp.plainV s with
  | true =>
    rw [if_pos hb] at hr
    rw [hb] at hpl
    have HPL := Lib.hid hpl
    have HRR := Lib.hid hr
    clear hpl hr hb
    go_enter Tryz.func110, Tryz.ntmps110
    go_wp2_with (first
      | (go_at_call 135; refine HREST.out.mono ?_; rintro e w1 ⟨rfl, hb1⟩; have HI := Lib.hid (HIDX.out w1 hb1); have HB1 := Lib.hid hb1; clear hb1)
      | (go_at_call 143; refine HI.out.mono ?_; rintro e w2 ⟨rfl, hb2⟩; have hb := HB1.out.trans (hb2.mono HB1.out.size); have k2 := HSTR.out w2 hb; have HB := Lib.hid hb; clear hb hb2)
      | (go_at_call 40; refine (HPL.out w2).mono ?_; rintro e w3 ⟨rfl, hb3⟩; have hx3 := HH.out.later (HB.out.trans (hb3.mono HB.out.size)); have x1 : w3.cell? ⟨rb, 1, none⟩ = some (.int .i64 p) := hx3.blk.cell 1; have x1f := hx3.blk.frozen 1; have HX3 := Lib.hid hx3; have HB3 := Lib.hid (HB.out.trans (hb3.mono HB.out.size)); clear hx3 hb3))
    rw [← HR.out, HRR.out]
    have hmv := HX3.out.move hpi
    rw [Int.natCast_add] at hmv
    exact ⟨(OnlyIn.of HB3.out [rb]).setCell (.inl (List.mem_singleton.2 rfl)) 1 _, rfl, hmv⟩
  | false =>
    rw [if_neg (by rw [hb]; decide)] at hr
    rw [hb] at hpl
    have HPL := Lib.hid hpl
    have HRR := Lib.hid hr
    clear hpl hr hb
    go_enter Tryz.func110, Tryz.ntmps110
    go_wp2_with (first
      | (go_at_call 135; refine HREST.out.mono ?_; rintro e w1 ⟨rfl, hb1⟩; have HI := Lib.hid (HIDX.out w1 hb1); have HB1 := Lib.hid hb1; clear hb1)
      | (go_at_call 143; refine HI.out.mono ?_; rintro e w2 ⟨rfl, hb2⟩; have hb := HB1.out.trans (hb2.mono HB1.out.size); have k2 := HSTR.out w2 hb; have HB := Lib.hid hb; clear hb hb2)
      | (go_at_call 40; refine (HPL.out w2).mono ?_; rintro e w3 ⟨rfl, hb3⟩; have hx3 := HH.out.later (HB.out.trans (hb3.mono HB.out.size)); have HX3 := Lib.hid hx3; have HB3 := Lib.hid (HB.out.trans (hb3.mono HB.out.size)); clear hx3 hb3)
      | (go_at_call 137; refine (HF.out _).mono ?_; rintro e w5 ⟨rfl, rfl⟩))
    refine ⟨rfl, ?_⟩
    rw [← HR.out, HRR.out]
    exact ⟨OnlyIn.of HB3.out [rb], rfl, HX3.out⟩
set_option maxHeartbeats 4000000 in
set_option maxRecDepth 100000 in
theorem text_none {w : World} {rb : Nat} {A : Option Addr} {cap : Nat} {raw : Sp.Bs} {p : Nat} (h : RdAt w rb A cap raw p) (hi : (raw.drop p).findIdx? (fun c => decide (c < 32 ∨ 126 < c)) = none) :
    Calls Tryz.prog 110 #[.pointer (some ⟨rb, 0, none⟩)] w (TextPost w rb A cap raw p (Sp.textR raw p)) := by
  obtain ⟨r, hr⟩ : ∃ r, r = Sp.textR raw p := ⟨_, rfl⟩
  rw [← hr]
  unfold Sp.textR at hr
  rw [hi] at hr
  dsimp only at hr
  generalize hR : TextPost w rb A cap raw p r = R
  obtain ⟨l, hl⟩ : ∃ l, l = raw.drop p := ⟨_, rfl⟩
  have hlen : l.length = raw.length - p := by rw [hl, List.length_drop]
  have hrest := rest_any h
  unfold restV at hrest
  rw [← hlen] at hrest
  have hrow := h.rest
  rw [← hl] at hrow hr hi
  have hx : idxB (fun c => decide (c < 32 ∨ 126 < c)) l = -1 := by unfold idxB; rw [hi]
  have hsm := h.small
  have hidx : ∀ W : World, Below w.heap.size w W → Calls Tryz.prog 143 #[.slice (cutAddr A p cap) l.length (cap - p), .func (.func 144) #[] #[]] W fun e w' => e = .returned (.int .i64 (-1)) ∧ Below W.heap.size W w' := fun W hW => by
    have := idx_text (P := fun c => decide (c < 32 ∨ 126 < c)) (c := cap - p) (hrow.below hW) (by omega) (fun W' x _ _ => (text1_any x W').mono fun e w' ⟨h1, h2⟩ => ⟨h1, by rw [← h2]; exact Below.refl _ _⟩)
    rw [hx] at this
    exact this
  have hf := fun W : World => readerFail_any W rb
  have hcell : ∀ W : World, Below w.heap.size w W → ∀ (j : Nat) (c : UInt8), l[j]? = some c → ∃ g o, cutAddr A p cap = some ⟨g, o, none⟩ ∧ W.cell? ⟨g, o + j, none⟩ = some (.int .u8 c.toNat) := fun W hW j c hc => by
    rcases hrow.below hW with h0 | ⟨g, o, h1, h2, h3⟩
    · have : l = [] := by simpa [bytesV] using h0
      rw [this] at hc; simp at hc
    · exact ⟨g, o, h1, h3 _ _ (by simp [bytesV, hc])⟩
  generalize cutAddr A p cap = D at hrest hidx hcell
  obtain ⟨n, hn⟩ : ∃ n, n = l.length := ⟨_, rfl⟩
  rw [← hn] at hrest hidx hr
  have HR := Lib.hid hR
  have HH := Lib.hid h
  have HREST := Lib.hid hrest
  have HIDX := Lib.hid hidx
  have HF := Lib.hid hf
  have HCELL := Lib.hid hcell
  clear hR h hrest hidx hf hrow hx hi hl hlen hcell hsm
  have hlast : l.getLast? = l[n - 1]? := by rw [List.getLast?_eq_getElem?, hn]
  have hhead : l.head? = l[0]? := List.head?_eq_getElem? ..
  rw [hlast, hhead] at hr
  clear hlast hhead
  by_cases h1 : 512 < n
  · rw [if_pos (.inl h1)] at hr
    have g1 : (512 : Int) < (n : Int) := by omega
    have HRR := Lib.hid hr
    clear hr h1 hn
    go_enter Tryz.func110, Tryz.ntmps110
    go_wp2_with (first
      | (go_at_call 135; refine HREST.out.mono ?_; rintro e w1 ⟨rfl, hb1⟩; have HI := Lib.hid (HIDX.out w1 hb1); have HB1 := Lib.hid hb1; clear hb1)
      | (go_at_call 143; refine HI.out.mono ?_; rintro e w2 ⟨rfl, hb2⟩; have hb := HB1.out.trans (hb2.mono HB1.out.size); have HB := Lib.hid hb; clear hb hb2)
      | (go_at_call 137; refine (HF.out _).mono ?_; rintro e w5 ⟨rfl, rfl⟩))
    refine ⟨rfl, ?_⟩
    rw [← HR.out, HRR.out]
    exact ⟨OnlyIn.of HB.out [rb], rfl, HH.out.later HB.out⟩
  · have g1 : decide ((512 : Int) < (n : Int)) = false := decide_eq_false (by omega)
    by_cases h0 : n = 0
    · have hne : l = [] := List.length_eq_zero_iff.1 (by omega)
      rw [hne, if_neg (by simp; omega)] at hr
      have g2 : ((n : Int) == 512) = false := by simp; omega
      have g3 : decide ((0 : Int) < (n : Int)) = false := decide_eq_false (by omega)
      have g3' : decide (0 < n) = false := decide_eq_false (by omega)
      have HRR := Lib.hid hr
      clear hr h1 hn h0 hne
      go_enter Tryz.func110, Tryz.ntmps110
      go_wp2_with (first
        | (go_at_call 135; refine HREST.out.mono ?_; rintro e w1 ⟨rfl, hb1⟩; have HI := Lib.hid (HIDX.out w1 hb1); have HB1 := Lib.hid hb1; clear hb1)
        | (go_at_call 143; refine HI.out.mono ?_; rintro e w2 ⟨rfl, hb2⟩; have hb := HB1.out.trans (hb2.mono HB1.out.size); have HB := Lib.hid hb; clear hb hb2))
      refine ⟨rfl, ?_⟩
      rw [← HR.out, HRR.out]
      exact ⟨OnlyIn.of HB.out [rb], rfl, HH.out.later HB.out⟩
    · obtain ⟨c0, hc0⟩ : ∃ c, l[0]? = some c := ⟨l[0]'(by omega), List.getElem?_eq_getElem _⟩
      have g3 : (0 : Int) < (n : Int) := by omega
      have g3' : 0 < n := by omega
      obtain ⟨g, o, hD, _⟩ := HCELL.out w (Below.refl _ _) 0 c0 hc0
      subst hD
      have hcl : ∀ W : World, Below w.heap.size w W → ∀ (j : Nat) (c : UInt8), l[j]? = some c → W.cell? ⟨g, o + j, none⟩ = some (.int .u8 c.toNat) := fun W hW j c hc => by
        obtain ⟨g', o', h1, h2⟩ := HCELL.out W hW j c hc
        injection h1 with h1
        injection h1 with h3 h4
        rw [h3, h4]; exact h2
      have hy0 : ∀ W : World, Below w.heap.size w W → W.cell? ⟨g, o, none⟩ = some (.int .u8 c0.toNat) := fun W hW => hcl W hW 0 c0 hc0
      have HC0 := Lib.hid hy0
      by_cases h2 : n = 512
      · have g2 : ((n : Int) == 512) = true := by simp; omega
        have g4 : (511 : Int) < (n : Int) := by omega
        obtain ⟨c1, hc1⟩ : ∃ c, l[511]? = some c := ⟨l[511]'(by omega), List.getElem?_eq_getElem _⟩
        have hy1 : ∀ W : World, Below w.heap.size w W → W.cell? ⟨g, o + 511, none⟩ = some (.int .u8 c1.toNat) := fun W hW => hcl W hW 511 c1 hc1
        have HC1 := Lib.hid hy1
        rw [h2, hc0, hc1] at hr
        by_cases h3 : c1 = 32
        · have g5 : ((c1.toNat : Int) == 32) = true := by rw [h3]; rfl
          rw [if_pos (.inr (.inl ⟨rfl, by rw [h3]⟩))] at hr
          have HRR := Lib.hid hr
          clear hr h1 hn h0 h2 hcl hy0 hy1 hc0 hc1 h3 HCELL
          go_enter Tryz.func110, Tryz.ntmps110
          go_wp2_with (first
            | (go_at_call 135; refine HREST.out.mono ?_; rintro e w1 ⟨rfl, hb1⟩; have HI := Lib.hid (HIDX.out w1 hb1); have HB1 := Lib.hid hb1; clear hb1)
            | (go_at_call 143; refine HI.out.mono ?_; rintro e w2 ⟨rfl, hb2⟩; have hb := HB1.out.trans (hb2.mono HB1.out.size); have y0 := HC0.out w2 hb; have y1 := HC1.out w2 hb; have HB := Lib.hid hb; clear hb hb2)
            | (go_at_call 137; refine (HF.out _).mono ?_; rintro e w5 ⟨rfl, rfl⟩))
          refine ⟨rfl, ?_⟩
          rw [← HR.out, HRR.out]
          exact ⟨OnlyIn.of HB.out [rb], rfl, HH.out.later HB.out⟩
        · have g5 : ((c1.toNat : Int) == 32) = false := by
            rw [beq_eq_false_iff_ne]
            intro e
            exact h3 (UInt8.toNat_inj.1 (by show c1.toNat = 32; omega))
          by_cases h4 : c0 = 32
          · have g6 : ((c0.toNat : Int) == 32) = true := by rw [h4]; rfl
            rw [if_pos (.inr (.inr (by rw [h4])))] at hr
            have HRR := Lib.hid hr
            clear hr h1 hn h0 h2 hcl hy0 hy1 hc0 hc1 h3 h4 HCELL
            go_enter Tryz.func110, Tryz.ntmps110
            go_wp2_with (first
              | (go_at_call 135; refine HREST.out.mono ?_; rintro e w1 ⟨rfl, hb1⟩; have HI := Lib.hid (HIDX.out w1 hb1); have HB1 := Lib.hid hb1; clear hb1)
              | (go_at_call 143; refine HI.out.mono ?_; rintro e w2 ⟨rfl, hb2⟩; have hb := HB1.out.trans (hb2.mono HB1.out.size); have y0 := HC0.out w2 hb; have y1 := HC1.out w2 hb; have HB := Lib.hid hb; clear hb hb2)
              | (go_at_call 137; refine (HF.out _).mono ?_; rintro e w5 ⟨rfl, rfl⟩))
            refine ⟨rfl, ?_⟩
            rw [← HR.out, HRR.out]
            exact ⟨OnlyIn.of HB.out [rb], rfl, HH.out.later HB.out⟩
          · have g6 : ((c0.toNat : Int) == 32) = false := by
              rw [beq_eq_false_iff_ne]
              intro e
              exact h4 (UInt8.toNat_inj.1 (by show c0.toNat = 32; omega))
            rw [if_neg (by simp [h3, h4])] at hr
            have HRR := Lib.hid hr
            clear hr h1 hn h0 h2 hcl hy0 hy1 hc0 hc1 h3 h4 HCELL
            go_enter Tryz.func110, Tryz.ntmps110
            go_wp2_with (first
              | (go_at_call 135; refine HREST.out.mono ?_; rintro e w1 ⟨rfl, hb1⟩; have HI := Lib.hid (HIDX.out w1 hb1); have HB1 := Lib.hid hb1; clear hb1)
              | (go_at_call 143; refine HI.out.mono ?_; rintro e w2 ⟨rfl, hb2⟩; have hb := HB1.out.trans (hb2.mono HB1.out.size); have y0 := HC0.out w2 hb; have y1 := HC1.out w2 hb; have HB := Lib.hid hb; clear hb hb2))
            refine ⟨rfl, ?_⟩
            rw [← HR.out, HRR.out]
            exact ⟨OnlyIn.of HB.out [rb], rfl, HH.out.later HB.out⟩
      · have g2 : ((n : Int) == 512) = false := by simp; omega
        rw [hc0] at hr
        by_cases h4 : c0 = 32
        · have g6 : ((c0.toNat : Int) == 32) = true := by rw [h4]; rfl
          rw [if_pos (.inr (.inr (by rw [h4])))] at hr
          have HRR := Lib.hid hr
          clear hr h1 hn h0 h2 hcl hy0 hc0 h4 HCELL
          go_enter Tryz.func110, Tryz.ntmps110
          go_wp2_with (first
            | (go_at_call 135; refine HREST.out.mono ?_; rintro e w1 ⟨rfl, hb1⟩; have HI := Lib.hid (HIDX.out w1 hb1); have HB1 := Lib.hid hb1; clear hb1)
            | (go_at_call 143; refine HI.out.mono ?_; rintro e w2 ⟨rfl, hb2⟩; have hb := HB1.out.trans (hb2.mono HB1.out.size); have y0 := HC0.out w2 hb; have HB := Lib.hid hb; clear hb hb2)
            | (go_at_call 137; refine (HF.out _).mono ?_; rintro e w5 ⟨rfl, rfl⟩))
          refine ⟨rfl, ?_⟩
          rw [← HR.out, HRR.out]
          exact ⟨OnlyIn.of HB.out [rb], rfl, HH.out.later HB.out⟩
        · have g6 : ((c0.toNat : Int) == 32) = false := by
            rw [beq_eq_false_iff_ne]
            intro e
            exact h4 (UInt8.toNat_inj.1 (by show c0.toNat = 32; omega))
          rw [if_neg (by simp [h4, h2]; omega)] at hr
          have HRR := Lib.hid hr
          clear hr h1 hn h0 h2 hcl hy0 hc0 h4 HCELL
          go_enter Tryz.func110, Tryz.ntmps110
          go_wp2_with (first
            | (go_at_call 135; refine HREST.out.mono ?_; rintro e w1 ⟨rfl, hb1⟩; have HI := Lib.hid (HIDX.out w1 hb1); have HB1 := Lib.hid hb1; clear hb1)
            | (go_at_call 143; refine HI.out.mono ?_; rintro e w2 ⟨rfl, hb2⟩; have hb := HB1.out.trans (hb2.mono HB1.out.size); have y0 := HC0.out w2 hb; have HB := Lib.hid hb; clear hb hb2))
          refine ⟨rfl, ?_⟩
          rw [← HR.out, HRR.out]
          exact ⟨OnlyIn.of HB.out [rb], rfl, HH.out.later HB.out⟩
theorem text_any {w : World} {rb : Nat} {A : Option Addr} {cap : Nat} {raw : Sp.Bs} {p : Nat} (h : RdAt w rb A cap raw p) :
    Calls Tryz.prog 110 #[.pointer (some ⟨rb, 0, none⟩)] w (TextPost w rb A cap raw p (Sp.textR raw p)) := by
  cases hi : (raw.drop p).findIdx? (fun c => decide (c < 32 ∨ 126 < c)) with
  | none => exact text_none h hi
  | some i => exact text_some h hi
end Go.Proofs.YtnbeeehfapjpdaaGreatDoor
end
section
namespace Go.Proofs.YtnbeeehfapjpdaaGreatDoor
attribute [local go_sem ↓] Go.wp_at_zero Go.wp_at_succ
open Go.RowKit

theorem choose1_any {w : World} {bb : Nat} {A : Option Addr} {c : Nat} {l : Sp.Bs} (hb : w.cell? ⟨bb, 0, none⟩ = some (.slice A l.length c)) (hrow : RowAt w A (bytesV l)) (s : Sp.Bs) :
    Calls Tryz.prog 146 #[str s, .pointer (some ⟨bb, 0, none⟩)] w fun e w' => e = .returned (.bool (l.isPrefixOf s)) ∧ Below w.heap.size w w' := by
  have h1 := Tryz.strings_HasPrefix ⟨s.toArray⟩ ⟨l.toArray⟩ w
  rw [strR_list, strR_list] at h1
  have h2 := run_bytes_str (cap := c) hrow
  have H1 := Lib.hid h1
  clear h1 hrow
  go_enter Tryz.func146, Tryz.ntmps146
  go_wp2_with (go_at_call 82; refine H1.out.mono ?_; rintro e w1 ⟨rfl, rfl⟩)
  go_ret
  exact ⟨rfl, Below.refl _ _⟩
/-- what the choice of a text tells -/
def ChoosePost (w : World) (rb : Nat) (A : Option Addr) (cap : Nat) (raw : Sp.Bs) (p : Nat) (r : Sp.RdV Nat) (e : Ending) (w' : World) : Prop :=
  OnlyIn [rb] w w' ∧ match r with
    | .got i q => e = .returned (.int .i64 i) ∧ RdAt w' rb A cap raw q
    | .more => e = thrownR true ∧ RdAt w' rb A cap raw p
    | .fail => e = thrownR false ∧ RdAt w' rb A cap raw p
/-- where the loop of choose stands -/
structure ChooseLoop (W : World) (l : Sp.Bs) (ts : List Sp.Bs) (i : Nat) (wr : World) : Prop where
  le : i ≤ ts.length
  not : ∀ (j : Nat) (s : Sp.Bs), j < i → ts[j]? = some s → s.isPrefixOf l = false
  below : Below W.heap.size W wr
set_option maxHeartbeats 4000000 in
set_option maxRecDepth 100000 in
theorem choose_any {w : World} {rb : Nat} {A : Option Addr} {cap : Nat} {raw : Sp.Bs} {p : Nat} (h : RdAt w rb A cap raw p) {T : Option Addr} {tc : Nat} {ts : List Sp.Bs} (hT : RowAt w T (ts.map str)) (hn : ts.length ≤ 10000000) (hs : ∀ s ∈ ts, s.length ≤ 100000) :
    Calls Tryz.prog 112 #[.pointer (some ⟨rb, 0, none⟩), .slice T ts.length tc] w (ChoosePost w rb A cap raw p (Sp.chooseV raw p ts)) := by
  obtain ⟨r, hr⟩ : ∃ r, r = Sp.chooseV raw p ts := ⟨_, rfl⟩
  rw [← hr]
  unfold Sp.chooseV at hr
  generalize hR : ChoosePost w rb A cap raw p r = R
  obtain ⟨l, hl⟩ : ∃ l, l = raw.drop p := ⟨_, rfl⟩
  have hlen : l.length = raw.length - p := by rw [hl, List.length_drop]
  have hrest := rest_any h
  unfold restV at hrest
  rw [← hlen] at hrest
  have hrow := h.rest
  rw [← hl] at hrow hr
  have hle := h.le
  have hsm := h.small
  have hroom := h.room
  have hf := fun W : World => readerFail_any W rb
  generalize cutAddr A p cap = D at hrest hrow
  have HR := Lib.hid hR
  have HH := Lib.hid h
  have HREST := Lib.hid hrest
  have HROW := Lib.hid hrow
  have HT := Lib.hid hT
  have HF := Lib.hid hf
  have HS := Lib.hid hs
  have HRR := Lib.hid hr
  have HLEN := Lib.hid hlen
  clear hR h hrest hrow hT hf hs hr hl hlen
  go_enter Tryz.func112, Tryz.ntmps112
  go_upto_region 2 with (go_at_call 135; refine HREST.out.mono ?_; rintro e w1 ⟨rfl, hb1⟩; have HB1 := Lib.hid hb1; clear hb1)
  obtain ⟨nb, hnb⟩ : ∃ nb, nb = w1.heap.size := ⟨_, rfl⟩
  rw [← hnb]
  obtain ⟨W0, hW0⟩ : ∃ W0, W0 = w1.alloc (.cells #[.slice D l.length (cap - p)] 29) := ⟨_, rfl⟩
  rw [← hW0]
  have hbx : Blk W0 nb 29 #[.slice D l.length (cap - p)] := by rw [hW0, hnb]; exact Blk.new w1 _ _
  have hb0 : Below w.heap.size w W0 := by rw [hW0]; exact HB1.out.alloc HB1.out.size _
  have hstart : ChooseLoop W0 l ts 0 W0 := ⟨Nat.zero_le _, fun j s h => by omega, Below.refl _ _⟩
  have HBX := Lib.hid hbx
  have HB0 := Lib.hid hb0
  have HST := Lib.hid hstart
  clear hW0 hnb hbx hb0 hstart HB1
  go_wp2_with fail
  go_loopw [6, 7, 12] (fun _ _ iv wr => ∃ i : Nat, iv = .int .i64 i ∧ ChooseLoop W0 l ts i wr) (fun _ _ iv _ => ts.length - (intOf iv).toNat)
  case atStart => exact ⟨0, rfl, HST.out⟩
  case round =>
    obtain ⟨i, rfl, hm⟩ := hrel
    have hil := hm.le
    by_cases hlt : i < ts.length
    · obtain ⟨s, hsi⟩ : ∃ s, ts[i]? = some s := ⟨ts[i], by simp [hlt]⟩
      have hi1 : (i : Int) < (ts.length : Int) := by omega
      have hbw := HB0.out.trans (hm.below.mono HB0.out.size)
      obtain ⟨g, o, hTe, ycell⟩ : ∃ g o, T = some ⟨g, o, none⟩ ∧ wr.cell? ⟨g, o + i, none⟩ = some (str s) := by
        rcases HT.out.below hbw with h0 | ⟨g, o, h1, h2, h3⟩
        · have : ts = [] := by simpa using h0
          rw [this] at hlt; simp at hlt
        · exact ⟨g, o, h1, h3 _ _ (by rw [List.getElem?_map, hsi]; rfl)⟩
      subst hTe
      have hsl := HS.out s (List.mem_of_getElem? hsi)
      have hbc : wr.cell? ⟨nb, 0, none⟩ = some (.slice D l.length (cap - p)) := (HBX.out.later hm.below).cell 0
      obtain ⟨W3, cp2, hcv, hrow3, hb3⟩ := convert_free wr s (Nat.le_refl _) (by unfold maxLen; omega)
      have hpre := prefix_any (d := cp2) (cap := cap - p) (HROW.out.below (hbw.trans (hb3.mono hbw.size))) hrow3.row (by have := HLEN.out; omega)
      have hbc3 : W3.cell? ⟨nb, 0, none⟩ = some (.slice D l.length (cap - p)) := (HBX.out.later (hm.below.trans (hb3.mono hm.below.size))).cell 0
      have HM := Lib.hid hm
      have HSI := Lib.hid hsi
      have HB3 := Lib.hid (hbw.trans (hb3.mono hbw.size))
      have HB3' := Lib.hid (hm.below.trans (hb3.mono hm.below.size))
      by_cases h1 : s.isPrefixOf l = true
      · have ht : decide (l.take s.length = s) = true := by
          obtain ⟨r', hr'⟩ := List.isPrefixOf_iff_prefix.1 h1
          rw [← hr', List.take_left, decide_eq_true rfl]
        rw [ht] at hpre
        have hq : p + s.length ≤ raw.length := by
          have := (List.isPrefixOf_iff_prefix.1 h1).length_le
          have := HLEN.out
          omega
        have hgot : r = .got i (p + s.length) := by
          rw [HRR.out]
          have e : ts.findIdx? (fun s => s.isPrefixOf l) = some i := List.findIdx?_eq_some_iff_getElem.2 ⟨hlt, by rw [List.getElem?_eq_getElem hlt] at hsi; injection hsi with hsi; rw [hsi]; exact h1, fun j hj => by
            rw [HM.out.not j _ hj (List.getElem?_eq_getElem (by omega))]; decide⟩
          rw [e]
          show Sp.RdV.got i (p + (ts.getD i []).length) = _
          rw [List.getD_eq_getElem?_getD, hsi]; rfl
        have hx3 := HH.out.later HB3.out
        have x1 : W3.cell? ⟨rb, 1, none⟩ = some (.int .i64 p) := hx3.blk.cell 1
        have x1f := hx3.blk.frozen 1
        have hmv := hx3.move hq
        rw [Int.natCast_add] at hmv
        have HMV := Lib.hid hmv
        have HPRE := Lib.hid hpre
        have HGOT := Lib.hid hgot
        clear hm hsi hrow3 hb3 hpre hbw ht h1 hx3 hmv hgot
        go_wp2_with (go_at_call 145; refine HPRE.out.mono ?_; rintro e w4 ⟨rfl, rfl⟩)
        rw [← HR.out, HGOT.out]
        exact ⟨(OnlyIn.of HB3.out [rb]).setCell (.inl (List.mem_singleton.2 rfl)) 1 _, rfl, HMV.out⟩
      · have h1' : s.isPrefixOf l = false := Bool.eq_false_iff.2 h1
        have ht : decide (l.take s.length = s) = false := decide_eq_false fun e => h1 (List.isPrefixOf_iff_prefix.2 (by
          have := List.take_prefix s.length l
          rwa [e] at this))
        rw [ht] at hpre
        have HPRE := Lib.hid hpre
        have H1 := Lib.hid h1'
        clear hm hsi hrow3 hb3 hpre hbw ht h1 h1'
        go_wp2_with (go_at_call 145; refine HPRE.out.mono ?_; rintro e w4 ⟨rfl, rfl⟩)
        refine ⟨⟨i + 1, by go_num, by omega, fun j y hj hy => ?_, HB3'.out⟩, by show ts.length - ((i : Int) + 1).toNat < ts.length - (i : Int).toNat; omega⟩
        rcases Nat.lt_or_ge j i with h1 | h1
        · exact HM.out.not j y h1 hy
        · have e : j = i := by omega
          have h2 := HSI.out
          rw [← e, hy] at h2
          injection h2 with h2
          rw [h2]; exact H1.out
    · have hi1 : decide ((i : Int) < (ts.length : Int)) = false := decide_eq_false (by omega)
      have hi2 : decide (i < ts.length) = false := decide_eq_false hlt
      have hbw := HB0.out.trans (hm.below.mono HB0.out.size)
      have hnone : ts.findIdx? (fun s => s.isPrefixOf l) = none := List.findIdx?_eq_none_iff.2 fun x hx => by
        obtain ⟨j, hj, rfl⟩ := List.getElem_of_mem hx
        rw [hm.not j _ (by omega) (List.getElem?_eq_getElem hj)]
      have hrr := HRR.out
      rw [hnone] at hrr
      dsimp only at hrr
      have hhas := has_choose (sb := nb) (P := fun s => l.isPrefixOf s) (c := tc) (HT.out.below hbw) (by omega) (fun W' x _ hb' => choose1_any ((HBX.out.later (hm.below.trans (hb'.mono hm.below.size))).cell 0) (HROW.out.below (hbw.trans (hb'.mono hbw.size))) x)
      have HB := Lib.hid hbw
      cases hany : ts.any (fun s => l.isPrefixOf s) with
      | true =>
        rw [hany] at hrr hhas
        rw [if_pos rfl] at hrr
        have HRE := Lib.hid hrr
        have HHAS := Lib.hid hhas
        clear hm hnone hrr hhas hbw hany hlt
        go_wp2_with (go_at_call 79; refine HHAS.out.mono ?_; rintro e w4 ⟨rfl, hb4⟩; have HB4 := Lib.hid (HB.out.trans (hb4.mono HB.out.size)); clear hb4)
        refine ⟨rfl, ?_⟩
        rw [← HR.out, HRE.out]
        exact ⟨OnlyIn.of HB4.out [rb], rfl, HH.out.later HB4.out⟩
      | false =>
        rw [hany] at hrr hhas
        rw [if_neg (by decide)] at hrr
        have HRE := Lib.hid hrr
        have HHAS := Lib.hid hhas
        clear hm hnone hrr hhas hbw hany hlt
        go_wp2_with (first | (go_at_call 79; refine HHAS.out.mono ?_; rintro e w4 ⟨rfl, hb4⟩; have HB4 := Lib.hid (HB.out.trans (hb4.mono HB.out.size)); clear hb4) | (go_at_call 137; refine (HF.out _).mono ?_; rintro e w5 ⟨rfl, rfl⟩))
        refine ⟨rfl, ?_⟩
        rw [← HR.out, HRE.out]
        exact ⟨OnlyIn.of HB4.out [rb], rfl, HH.out.later HB4.out⟩
end Go.Proofs.YtnbeeehfapjpdaaGreatDoor
end
