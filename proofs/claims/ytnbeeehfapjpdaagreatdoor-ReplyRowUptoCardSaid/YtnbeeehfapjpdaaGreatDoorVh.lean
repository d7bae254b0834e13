/- Walk of package reply's reader: flags. -/
import Derived.Test.YtnbeeehfapjpdaaGreatDoorQVf
namespace Go.Proofs.YtnbeeehfapjpdaaGreatDoor
attribute [local go_sem ↓] Go.wp_at_zero Go.wp_at_succ
open Go.RowKit

structure FlagsLoop (w : World) (rb : Nat) (A : Option Addr) (cap : Nat) (raw : Sp.Bs) (b : Nat) (r : Sp.RdV Unit) (k q : Nat) (wr : World) : Prop where
  rd : RdAt wr rb A cap raw q
  only : OnlyIn [rb] w wr
  go : Sp.flagsFrom raw b k q = r
  fuel : raw.length - q < k
  le : b ≤ q
theorem odd_idx (l : Sp.Bs) : (idxB Sp.oddV l = -1 ∧ l.findIdx Sp.oddV = l.length) ∨ ∃ i : Nat, idxB Sp.oddV l = i ∧ l.findIdx Sp.oddV = i ∧ i < l.length := by
  rcases idxB_find Sp.oddV l with ⟨h1, h2⟩ | ⟨i, h1, h2, h3⟩
  · exact .inl ⟨h1, List.findIdx?_eq_none_iff_findIdx_eq.1 h2⟩
  · exact .inr ⟨i, h1, (List.findIdx?_eq_some_iff_findIdx_eq.1 h2).2, h3⟩
set_option maxHeartbeats 8000000 in
set_option maxRecDepth 100000 in
theorem flags_any {w : World} {rb : Nat} {A : Option Addr} {cap : Nat} {raw : Sp.Bs} {b p : Nat} (h : RdAt w rb A cap raw p) (hbp : b ≤ p) :
    Calls Tryz.prog 138 #[.pointer (some ⟨rb, 0, none⟩), .int .i64 b] w (ReadsTo w rb A cap raw (fun _ e _ => e = .returned (.tuple #[])) (Sp.flagsFrom raw b (raw.length + 1) p)) := by
  obtain ⟨r, hr⟩ : ∃ r, r = Sp.flagsFrom raw b (raw.length + 1) p := ⟨_, rfl⟩
  rw [← hr]
  generalize hR : ReadsTo w rb A cap raw (fun _ e _ => e = .returned (.tuple #[])) r = R
  have hstart : FlagsLoop w rb A cap raw b r (raw.length + 1) p w := ⟨h, OnlyIn.refl _ _, hr.symm, by omega, hbp⟩
  have hsm := h.small
  have hroom := h.room
  have hf := fun W : World => readerFail_any W rb
  have HR := Lib.hid hR
  have HS := Lib.hid hstart
  have HF := Lib.hid hf
  clear hR hstart hr h hf hbp
  go_enter Tryz.func138, Tryz.ntmps138
  go_wp2_with fail
  go_loopw [4, 5, 6, 56, 77, 95] (fun _ _ _ _ _ _ wr => ∃ k q, FlagsLoop w rb A cap raw b r k q wr) (fun _ _ _ _ _ _ wr => raw.length - atOf wr rb)
  case atStart => exact ⟨_, _, HS.out⟩
  case round =>
    obtain ⟨k, q, hm⟩ := hrel
    obtain ⟨k, rfl⟩ : ∃ k', k = k' + 1 := ⟨k - 1, by have := hm.fuel; omega⟩
    have hgo := hm.go
    rw [Sp.flagsFrom] at hgo
    unfold Sp.flagHead at hgo
    have hrd := hm.rd
    have hrest := rest_any hrd
    unfold restV at hrest
    obtain ⟨l, hl⟩ : ∃ l, l = raw.drop q := ⟨_, rfl⟩
    have hlen : l.length = raw.length - q := by rw [hl, List.length_drop]
    rw [← hlen] at hrest
    have hrow := hrd.rest
    rw [← hl] at hrow hgo
    have hle := hrd.le
    have hbq := hm.le
    obtain ⟨d, hd⟩ : ∃ d, d = q - b := ⟨_, rfl⟩
    rw [← hd] at hgo
    have g0 : (q : Int) - (b : Int) = (d : Int) := by omega
    have hdb : d ≤ 1000000000 := by omega
    obtain ⟨n, hn⟩ : ∃ n, n = l.length := ⟨_, rfl⟩
    rw [← hn] at hrest
    have HM := Lib.hid hm
    have hat := hrd.at
    have HAT := Lib.hid hat
    have HRD := Lib.hid hrd
    clear hm hat
    by_cases hn0 : n = 0
    · have hl0 : l = [] := List.length_eq_zero_iff.1 (by omega)
      rw [if_pos hl0] at hgo
      have g1 : ((n : Int) == 0) = true := by rw [hn0]; rfl
      by_cases hbig : 2048 < d
      · rw [if_pos hbig] at hgo
        have g2 : (2048 : Int) < (d : Int) := by omega
        have HREST := Lib.hid hrest
        have HG := Lib.hid hgo
        generalize cutAddr A q cap = D at HREST
        clear hgo hrest hrow hl hlen hn hl0 hn0 hle hbq hd hrd hbig
        go_wp2_with (first
          | (go_at_call 135; refine HREST.out.mono ?_; rintro e w2 ⟨rfl, hb2⟩; have hx2 := HRD.out.later hb2; have x1 : w2.cell? ⟨rb, 1, none⟩ = some (.int .i64 q) := hx2.blk.cell 1; have x1f := hx2.blk.frozen 1; have HB2 := Lib.hid hb2; clear hb2 hx2)
          | (go_at_call 137; refine (HF.out _).mono ?_; rintro e w5 ⟨rfl, rfl⟩))
        refine ⟨rfl, ?_⟩
        rw [← HR.out, ← HG.out]
        exact ⟨HM.out.only.later HB2.out, rfl⟩
      · rw [if_neg hbig] at hgo
        have g2 : decide ((2048 : Int) < (d : Int)) = false := decide_eq_false (by omega)
        have g3 : decide (2048 < d) = false := decide_eq_false hbig
        have HREST := Lib.hid hrest
        have HG := Lib.hid hgo
        generalize cutAddr A q cap = D at HREST
        clear hgo hrest hrow hl hlen hn hl0 hn0 hle hbq hd hrd hbig
        go_wp2_with (go_at_call 135; refine HREST.out.mono ?_; rintro e w2 ⟨rfl, hb2⟩; have hx2 := HRD.out.later hb2; have x1 : w2.cell? ⟨rb, 1, none⟩ = some (.int .i64 q) := hx2.blk.cell 1; have x1f := hx2.blk.frozen 1; have HB2 := Lib.hid hb2; clear hb2 hx2)
        refine ⟨rfl, ?_⟩
        rw [← HR.out, ← HG.out]
        exact ⟨HM.out.only.later HB2.out, rfl⟩
    · have g1 : ((n : Int) == 0) = false := by simp; omega
      have hl0 : l ≠ [] := fun e => by rw [e] at hn; exact hn0 hn
      rw [if_neg hl0] at hgo
      by_cases hbig : 2048 < d
      · rw [if_pos hbig] at hgo
        have g2 : (2048 : Int) < (d : Int) := by omega
        have HREST := Lib.hid hrest
        have HG := Lib.hid hgo
        generalize cutAddr A q cap = D at HREST
        clear hgo hrest hrow hl hlen hn hl0 hn0 hle hbq hd hrd hbig
        go_wp2_with (first
          | (go_at_call 135; refine HREST.out.mono ?_; rintro e w2 ⟨rfl, hb2⟩; have hx2 := HRD.out.later hb2; have x1 : w2.cell? ⟨rb, 1, none⟩ = some (.int .i64 q) := hx2.blk.cell 1; have x1f := hx2.blk.frozen 1; have HB2 := Lib.hid hb2; clear hb2 hx2)
          | (go_at_call 137; refine (HF.out _).mono ?_; rintro e w5 ⟨rfl, rfl⟩))
        refine ⟨rfl, ?_⟩
        rw [← HR.out, ← HG.out]
        exact ⟨HM.out.only.later HB2.out, rfl⟩
      · rw [if_neg hbig] at hgo
        have g2 : decide ((2048 : Int) < (d : Int)) = false := decide_eq_false (by omega)
        have g3 : decide (2048 < d) = false := decide_eq_false hbig
        obtain ⟨c0, hc0⟩ : ∃ c, l[0]? = some c := ⟨l[0]'(by omega), List.getElem?_eq_getElem _⟩
        have hhd : l.head? = some c0 := by rw [List.head?_eq_getElem?, hc0]
        rw [hhd] at hgo
        have hcell : ∃ g o, cutAddr A q cap = some ⟨g, o, none⟩ ∧ ∀ W : World, Below wr.heap.size wr W → W.cell? ⟨g, o, none⟩ = some (.int .u8 c0.toNat) := by
          rcases hrow with h0 | ⟨g, o, h1, h2, h3⟩
          · have : l = [] := by simpa [bytesV] using h0
            exact absurd this hl0
          · exact ⟨g, o, h1, fun W hW => (World.cell?_of_block (hW.block g h2)).trans (h3 0 _ (by simp [bytesV, hc0]))⟩
        obtain ⟨g, o, hD, hcell⟩ := hcell
        rw [hD] at hrest
        have HREST := Lib.hid hrest
        have HC0 := Lib.hid hcell
        have g4 : (0 : Int) < (n : Int) := by omega
        have g5 : 0 < n := by omega
        by_cases h13 : c0 = 13
        · have g6 : ((c0.toNat : Int) == 13) = true := by rw [h13]; rfl
          change (if decide (some c0 = some 13) = true then Sp.RdV.got () q else _) = r at hgo
          rw [if_pos (by rw [h13]; decide)] at hgo
          have HG := Lib.hid hgo
          clear hgo hrest hrow hl hlen hn hl0 hn0 hle hbq hd hrd hbig hhd hc0 hcell hD h13
          go_wp2_with (go_at_call 135; refine HREST.out.mono ?_; rintro e w2 ⟨rfl, hb2⟩; have hx2 := HRD.out.later hb2; have x1 : w2.cell? ⟨rb, 1, none⟩ = some (.int .i64 q) := hx2.blk.cell 1; have x1f := hx2.blk.frozen 1; have y0 := HC0.out w2 hb2; have HB2 := Lib.hid hb2; have HX2 := Lib.hid hx2; clear hb2 hx2)
          refine ⟨rfl, .tuple #[], by simp [results, Tryz.results138, go_sem], ?_⟩
          rw [← HR.out, ← HG.out]
          exact ⟨HM.out.only.later HB2.out, rfl, HX2.out⟩
        · have g6 : ((c0.toNat : Int) == 13) = false := by
            rw [beq_eq_false_iff_ne]
            intro e
            exact h13 (UInt8.toNat_inj.1 (by show c0.toNat = 13; omega))
          change (if decide (some c0 = some 13) = true then Sp.RdV.got () q else (Sp.wantV raw q [32]).next _) = r at hgo
          rw [if_neg (by simp [h13])] at hgo
          have HG := Lib.hid hgo
          clear hgo hrest hrow hl hlen hn hl0 hn0 hle hbq hd hrd hbig hhd hc0 hcell hD h13
          go_upto_region 8 with (go_at_call 135; refine HREST.out.mono ?_; rintro e w2 ⟨rfl, hb2⟩; have hx2 := HRD.out.later hb2; have x1 : w2.cell? ⟨rb, 1, none⟩ = some (.int .i64 q) := hx2.blk.cell 1; have x1f := hx2.blk.frozen 1; have y0 := HC0.out w2 hb2; have HB2 := Lib.hid hb2; have HX2 := Lib.hid hx2; clear hb2 hx2)
          have hw := readerWant_any HX2.out [32] (by decide)
          have hgo := HG.out
          have ho2 := HM.out.only.later HB2.out
          have HO2 := Lib.hid ho2
          clear x1 x1f y0 ho2
          cases hwv : Sp.wantV raw q [32] with
          | more =>
            rw [hwv] at hgo hw
            have HW := Lib.hid hw
            have HG2 := Lib.hid hgo
            clear hgo hw hwv HG
            go_wp2_with (go_at_call 109; refine HW.out.mono ?_; rintro e w3 ⟨ho3, rfl, _⟩; have HO3 := Lib.hid ho3; clear ho3)
            refine ⟨rfl, ?_⟩
            rw [← HR.out, ← HG2.out]
            exact ⟨HO2.out.rd HO3.out, rfl⟩
          | fail =>
            rw [hwv] at hgo hw
            have HW := Lib.hid hw
            have HG2 := Lib.hid hgo
            clear hgo hw hwv HG
            go_wp2_with (go_at_call 109; refine HW.out.mono ?_; rintro e w3 ⟨ho3, rfl, _⟩; have HO3 := Lib.hid ho3; clear ho3)
            refine ⟨rfl, ?_⟩
            rw [← HR.out, ← HG2.out]
            exact ⟨HO2.out.rd HO3.out, rfl⟩
          | got u q1 =>
            obtain ⟨_, hq1⟩ := Sp.want_reads hwv
            have hq1' : q1 = q + 1 := hq1
            rw [hwv] at hgo hw
            change (Sp.flagStep raw b q1).next _ = r at hgo
            unfold Sp.flagStep at hgo
            have HW := Lib.hid hw
            have HG2 := Lib.hid hgo
            have HQ1 := Lib.hid hq1'
            clear hgo hw hwv HG hq1 hq1' g0 g1 g2 g3 g4 g5 g6 hdb
            go_upto_region 9 with (go_at_call 109; refine HW.out.mono ?_; rintro e w3 ⟨ho3, rfl, hx3⟩; have HO3 := Lib.hid (HO2.out.rd ho3); have HX3 := Lib.hid hx3; clear ho3 hx3)
            have hx3 := HX3.out
            have hrest := rest_any hx3
            unfold restV at hrest
            obtain ⟨l2, hl⟩ : ∃ l, l = raw.drop q1 := ⟨_, rfl⟩
            have hlen : l2.length = raw.length - q1 := by rw [hl, List.length_drop]
            rw [← hlen] at hrest
            have hrow := hx3.rest
            have hgo := HG2.out
            rw [← hl] at hrow hgo
            have hle := hx3.le
            have hidx : ∀ W : World, Below w3.heap.size w3 W → Calls Tryz.prog 143 #[.slice (cutAddr A q1 cap) l2.length (cap - q1), .func (.func 160) #[] #[]] W fun e w' => e = .returned (.int .i64 (idxB Sp.oddV l2)) ∧ Below W.heap.size W w' := fun W hW => idx_flags (P := Sp.oddV) (c := cap - q1) (hrow.below hW) (by omega) (fun W' x _ _ => (flags1_any x W').mono fun e w' ⟨h1, h2⟩ => ⟨h1, by rw [← h2]; exact Below.refl _ _⟩)
            obtain ⟨n2, hn2⟩ : ∃ n, n = l2.length := ⟨_, rfl⟩
            rw [← hn2] at hrest hidx hgo
            generalize cutAddr A q1 cap = D at hrest hidx
            have hbq1 : b ≤ q1 := by have := HQ1.out; have := HM.out.le; omega
            rcases odd_idx l2 with ⟨hx, hn⟩ | ⟨e, hx, hn, hel⟩
            · rw [hx] at hidx
              rw [hn, ← hn2, if_neg (Nat.lt_irrefl _)] at hgo
              have hq2 : q1 + n2 ≤ raw.length := by omega
              obtain ⟨d2, hd2⟩ : ∃ d, d = q1 + n2 - b := ⟨_, rfl⟩
              have hdd : n2 = 0 → q1 - b = d2 := fun h => by omega
              rw [← hd2] at hgo
              have g0 : (q1 : Int) + (n2 : Int) - (b : Int) = (d2 : Int) := by omega
              have hd2b : d2 ≤ 1000000000 := by omega
              have hn2b : n2 ≤ 1000000000 := by omega
              have hq1b : q1 ≤ 1000000000 := by omega
              have hqs : (q1 : Int) + (n2 : Int) ≤ 1000000000000 := by omega
              have HREST := Lib.hid hrest
              have HIDX := Lib.hid hidx
              by_cases hA : 251 < n2
              · rw [if_pos (.inl hA)] at hgo
                have g2 : (251 : Int) < (n2 : Int) := by omega
                have HG3 := Lib.hid hgo
                clear hgo hrest hidx hrow hx hn hl hlen hn2 hx3 hle HG2 hA hbq1 hd2 hdd hq2
                go_wp2_with (first
                  | (go_at_call 135; refine HREST.out.mono ?_; rintro e w4 ⟨rfl, hb4⟩; have HB4 := Lib.hid hb4; clear hb4)
                  | (go_at_call 143; refine (HIDX.out _ HB4.out).mono ?_; rintro e w5 ⟨rfl, hb5⟩; have hb := HB4.out.trans (hb5.mono HB4.out.size); have hx5 := HX3.out.later hb; have x1 : w5.cell? ⟨rb, 1, none⟩ = some (.int .i64 q1) := hx5.blk.cell 1; have x1f := hx5.blk.frozen 1; have HB5 := Lib.hid hb; clear hb5 hb hx5)
                  | (go_at_call 137; refine (HF.out _).mono ?_; rintro e w6 ⟨rfl, rfl⟩))
                refine ⟨rfl, ?_⟩
                rw [← HR.out, ← HG3.out]
                exact ⟨(HO3.out.later HB5.out).setCell (.inl (List.mem_singleton.2 rfl)) 1 _, rfl⟩
              · have g2 : decide ((251 : Int) < (n2 : Int)) = false := decide_eq_false (by omega)
                have g2' : decide (251 < n2) = false := decide_eq_false (by omega)
                by_cases hB : 2048 < d2
                · rw [if_pos (.inr (.inl hB))] at hgo
                  have g3 : (2048 : Int) < (d2 : Int) := by omega
                  have HG3 := Lib.hid hgo
                  clear hgo hrest hidx hrow hx hn hl hlen hn2 hx3 hle HG2 hbq1 hA hB hd2 hdd hq2
                  go_wp2_with (first
                    | (go_at_call 135; refine HREST.out.mono ?_; rintro e w4 ⟨rfl, hb4⟩; have HB4 := Lib.hid hb4; clear hb4)
                    | (go_at_call 143; refine (HIDX.out _ HB4.out).mono ?_; rintro e w5 ⟨rfl, hb5⟩; have hb := HB4.out.trans (hb5.mono HB4.out.size); have hx5 := HX3.out.later hb; have x1 : w5.cell? ⟨rb, 1, none⟩ = some (.int .i64 q1) := hx5.blk.cell 1; have x1f := hx5.blk.frozen 1; have HX5 := Lib.hid hx5; have HB5 := Lib.hid hb; clear hb5 hb hx5)
                    | (go_at_call 137; refine (HF.out _).mono ?_; rintro e w6 ⟨rfl, rfl⟩))
                  refine ⟨rfl, ?_⟩
                  rw [← HR.out, ← HG3.out]
                  exact ⟨(HO3.out.later HB5.out).setCell (.inl (List.mem_singleton.2 rfl)) 1 _, rfl⟩
                · have g3 : decide ((2048 : Int) < (d2 : Int)) = false := decide_eq_false (by omega)
                  have g3' : decide (2048 < d2) = false := decide_eq_false (by omega)
                  by_cases hC : n2 = 0
                  · have g4 : ((n2 : Int) == 0) = true := by rw [hC]; rfl
                    have g0' : (q1 : Int) - (b : Int) = (d2 : Int) := by omega
                    rw [hdd hC] at hgo
                    by_cases hE : d2 = 2048
                    · rw [if_pos (.inr (.inr ⟨hC, hE⟩))] at hgo
                      have g5 : ((d2 : Int) == 2048) = true := by rw [hE]; rfl
                      have HG3 := Lib.hid hgo
                      clear hgo hrest hidx hrow hx hn hl hlen hn2 hx3 hle HG2 hbq1 hA hB hC hE hd2 hdd hq2
                      go_wp2_with (first
                        | (go_at_call 135; refine HREST.out.mono ?_; rintro e w4 ⟨rfl, hb4⟩; have HB4 := Lib.hid hb4; clear hb4)
                        | (go_at_call 143; refine (HIDX.out _ HB4.out).mono ?_; rintro e w5 ⟨rfl, hb5⟩; have hb := HB4.out.trans (hb5.mono HB4.out.size); have hx5 := HX3.out.later hb; have x1 : w5.cell? ⟨rb, 1, none⟩ = some (.int .i64 q1) := hx5.blk.cell 1; have x1f := hx5.blk.frozen 1; have HX5 := Lib.hid hx5; have HB5 := Lib.hid hb; clear hb5 hb hx5)
                        | (go_at_call 137; refine (HF.out _).mono ?_; rintro e w6 ⟨rfl, rfl⟩))
                      refine ⟨rfl, ?_⟩
                      rw [← HR.out, ← HG3.out]
                      exact ⟨(HO3.out.later HB5.out).setCell (.inl (List.mem_singleton.2 rfl)) 1 _, rfl⟩
                    · rw [if_neg (by omega)] at hgo
                      have g5 : ((d2 : Int) == 2048) = false := by simp; omega
                      have HG3 := Lib.hid hgo
                      clear hgo hrest hidx hrow hx hn hl hlen hn2 hx3 hle HG2 hbq1 hA hB hC hE hd2 hdd hq2
                      go_wp2_with (first
                        | (go_at_call 135; refine HREST.out.mono ?_; rintro e w4 ⟨rfl, hb4⟩; have HB4 := Lib.hid hb4; clear hb4)
                        | (go_at_call 143; refine (HIDX.out _ HB4.out).mono ?_; rintro e w5 ⟨rfl, hb5⟩; have hb := HB4.out.trans (hb5.mono HB4.out.size); have hx5 := HX3.out.later hb; have x1 : w5.cell? ⟨rb, 1, none⟩ = some (.int .i64 q1) := hx5.blk.cell 1; have x1f := hx5.blk.frozen 1; have HX5 := Lib.hid hx5; have HB5 := Lib.hid hb; clear hb5 hb hx5))
                      refine ⟨rfl, ?_⟩
                      rw [← HR.out, ← HG3.out]
                      exact ⟨(HO3.out.later HB5.out).setCell (.inl (List.mem_singleton.2 rfl)) 1 _, rfl⟩
                  · have g4 : ((n2 : Int) == 0) = false := by simp; omega
                    rw [if_neg (by omega)] at hgo
                    have HG3 := Lib.hid hgo
                    clear hgo hrest hidx hrow hx hn hl hlen hn2 hx3 hle HG2 hbq1 hA hB hC hd2 hdd hq2
                    go_wp2_with (first
                      | (go_at_call 135; refine HREST.out.mono ?_; rintro e w4 ⟨rfl, hb4⟩; have HB4 := Lib.hid hb4; clear hb4)
                      | (go_at_call 143; refine (HIDX.out _ HB4.out).mono ?_; rintro e w5 ⟨rfl, hb5⟩; have hb := HB4.out.trans (hb5.mono HB4.out.size); have hx5 := HX3.out.later hb; have x1 : w5.cell? ⟨rb, 1, none⟩ = some (.int .i64 q1) := hx5.blk.cell 1; have x1f := hx5.blk.frozen 1; have HX5 := Lib.hid hx5; have HB5 := Lib.hid hb; clear hb5 hb hx5))
                    refine ⟨rfl, ?_⟩
                    rw [← HR.out, ← HG3.out]
                    exact ⟨(HO3.out.later HB5.out).setCell (.inl (List.mem_singleton.2 rfl)) 1 _, rfl⟩
            · rw [hx] at hidx
              rw [hn, if_pos (by omega)] at hgo
              have hq2 : q1 + e ≤ raw.length := by omega
              have HQ2 := Lib.hid hq2
              obtain ⟨d2, hd2⟩ : ∃ d, d = q1 + e - b := ⟨_, rfl⟩
              rw [← hd2] at hgo
              have g0 : (q1 : Int) + (e : Int) - (b : Int) = (d2 : Int) := by omega
              have hd2b : d2 ≤ 1000000000 := by omega
              have heb : e ≤ 1000000000 := by omega
              have hq1b : q1 ≤ 1000000000 := by omega
              have hqs : (q1 : Int) + (e : Int) ≤ 1000000000000 := by omega
              have HREST := Lib.hid hrest
              have HIDX := Lib.hid hidx
              by_cases hA : 251 < e
              · rw [if_pos (.inl hA)] at hgo
                have g2 : (251 : Int) < (e : Int) := by omega
                have HG3 := Lib.hid hgo
                clear hgo hrest hidx hrow hx hn hl hlen hn2 hx3 hle HG2 hbq1 hA hd2 hq2 hel
                go_wp2_with (first
                  | (go_at_call 135; refine HREST.out.mono ?_; rintro e w4 ⟨rfl, hb4⟩; have HB4 := Lib.hid hb4; clear hb4)
                  | (go_at_call 143; refine (HIDX.out _ HB4.out).mono ?_; rintro e w5 ⟨rfl, hb5⟩; have hb := HB4.out.trans (hb5.mono HB4.out.size); have hx5 := HX3.out.later hb; have x1 : w5.cell? ⟨rb, 1, none⟩ = some (.int .i64 q1) := hx5.blk.cell 1; have x1f := hx5.blk.frozen 1; have HX5 := Lib.hid hx5; have HB5 := Lib.hid hb; clear hb5 hb hx5)
                  | (go_at_call 137; refine (HF.out _).mono ?_; rintro e w6 ⟨rfl, rfl⟩))
                refine ⟨rfl, ?_⟩
                rw [← HR.out, ← HG3.out]
                exact ⟨(HO3.out.later HB5.out).setCell (.inl (List.mem_singleton.2 rfl)) 1 _, rfl⟩
              · have g2 : decide ((251 : Int) < (e : Int)) = false := decide_eq_false (by omega)
                have g2' : decide (251 < e) = false := decide_eq_false (by omega)
                by_cases hC : e = 0
                · have g4 : ((e : Int) == 0) = true := by rw [hC]; rfl
                  rw [if_pos (.inr (.inl hC))] at hgo
                  have HG3 := Lib.hid hgo
                  clear hgo hrest hidx hrow hx hn hl hlen hn2 hx3 hle HG2 hbq1 hA hC hd2 hq2 hel
                  go_wp2_with (first
                    | (go_at_call 135; refine HREST.out.mono ?_; rintro e w4 ⟨rfl, hb4⟩; have HB4 := Lib.hid hb4; clear hb4)
                    | (go_at_call 143; refine (HIDX.out _ HB4.out).mono ?_; rintro e w5 ⟨rfl, hb5⟩; have hb := HB4.out.trans (hb5.mono HB4.out.size); have hx5 := HX3.out.later hb; have x1 : w5.cell? ⟨rb, 1, none⟩ = some (.int .i64 q1) := hx5.blk.cell 1; have x1f := hx5.blk.frozen 1; have HX5 := Lib.hid hx5; have HB5 := Lib.hid hb; clear hb5 hb hx5)
                    | (go_at_call 137; refine (HF.out _).mono ?_; rintro e w6 ⟨rfl, rfl⟩))
                  refine ⟨rfl, ?_⟩
                  rw [← HR.out, ← HG3.out]
                  exact ⟨(HO3.out.later HB5.out).setCell (.inl (List.mem_singleton.2 rfl)) 1 _, rfl⟩
                · have g4 : ((e : Int) == 0) = false := by simp; omega
                  by_cases hB : 2048 < d2
                  · rw [if_pos (.inr (.inr hB))] at hgo
                    have g3 : (2048 : Int) < (d2 : Int) := by omega
                    have HG3 := Lib.hid hgo
                    clear hgo hrest hidx hrow hx hn hl hlen hn2 hx3 hle HG2 hbq1 hA hB hC hd2 hq2 hel
                    go_wp2_with (first
                      | (go_at_call 135; refine HREST.out.mono ?_; rintro e w4 ⟨rfl, hb4⟩; have HB4 := Lib.hid hb4; clear hb4)
                      | (go_at_call 143; refine (HIDX.out _ HB4.out).mono ?_; rintro e w5 ⟨rfl, hb5⟩; have hb := HB4.out.trans (hb5.mono HB4.out.size); have hx5 := HX3.out.later hb; have x1 : w5.cell? ⟨rb, 1, none⟩ = some (.int .i64 q1) := hx5.blk.cell 1; have x1f := hx5.blk.frozen 1; have HX5 := Lib.hid hx5; have HB5 := Lib.hid hb; clear hb5 hb hx5)
                      | (go_at_call 137; refine (HF.out _).mono ?_; rintro e w6 ⟨rfl, rfl⟩))
                    refine ⟨rfl, ?_⟩
                    rw [← HR.out, ← HG3.out]
                    exact ⟨(HO3.out.later HB5.out).setCell (.inl (List.mem_singleton.2 rfl)) 1 _, rfl⟩
                  · have g3 : decide ((2048 : Int) < (d2 : Int)) = false := decide_eq_false (by omega)
                    have g3' : decide (2048 < d2) = false := decide_eq_false (by omega)
                    rw [if_neg (by omega)] at hgo
                    change Sp.flagsFrom raw b k (q1 + e) = r at hgo
                    have HG3 := Lib.hid hgo
                    clear hgo hrest hidx hrow hx hn hl hlen hn2 hx3 hle HG2 hbq1 hA hB hC hd2 hq2 hel
                    go_wp2_with (first
                      | (go_at_call 135; refine HREST.out.mono ?_; rintro e w4 ⟨rfl, hb4⟩; have HB4 := Lib.hid hb4; clear hb4)
                      | (go_at_call 143; refine (HIDX.out _ HB4.out).mono ?_; rintro e w5 ⟨rfl, hb5⟩; have hb := HB4.out.trans (hb5.mono HB4.out.size); have hx5 := HX3.out.later hb; have x1 : w5.cell? ⟨rb, 1, none⟩ = some (.int .i64 q1) := hx5.blk.cell 1; have x1f := hx5.blk.frozen 1; have HX5 := Lib.hid hx5; have HB5 := Lib.hid hb; clear hb5 hb hx5))
                    have hmv := HX5.out.move HQ2.out
                    rw [Int.natCast_add] at hmv
                    refine ⟨⟨k, q1 + e, hmv, (HO3.out.later HB5.out).setCell (.inl (List.mem_singleton.2 rfl)) 1 _, HG3.out, ?_, ?_⟩, ?_⟩
                    · have := HM.out.fuel; have := HQ1.out; have := HQ2.out; omega
                    · have := HM.out.le; have := HQ1.out; omega
                    · show raw.length - atOf _ rb < raw.length - atOf wr rb
                      rw [hmv.at, HAT.out]
                      have := HQ1.out; have := HQ2.out; omega
end Go.Proofs.YtnbeeehfapjpdaaGreatDoor
