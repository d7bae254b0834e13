/- Walks of package reply: Fits, kinds 11, 15 and the others. Printed by gen/genVv.py. -/
import Derived.Test.YtnbeeehfapjpdaaGreatDoorVv
namespace Go.Proofs.YtnbeeehfapjpdaaGreatDoor
attribute [local go_sem ↓] Go.wp_at_zero Go.wp_at_succ
open Go.RowKit

set_option maxHeartbeats 16000000 in
set_option maxRecDepth 100000 in
theorem fits_11 {w : World} (hg : GlobR w) (v : Int) {K : Option Addr} {keys : List Sp.Bs} {kc : Nat} (fl ex tk dl : Int) (D : Option Addr) (dn dc : Nat) (nr lg : Bool) (M : Option Addr) (mn mc : Nat) (what : Sp.Bs) (hK : RowAt w K (keys.map str)) (_hkc : keys.length ≤ kc) (_hks : keys.length ≤ 1000000000) {x : AnsX} (hx : AnsIn w x) (hk : x.kind = 11) (hne : Sp.kindsV v what ≠ []) (hin : x.kind ∈ Sp.kindsV v what ∨ (x.kind = 11 ∧ v ≠ 18)) :
    Calls Tryz.prog 14 #[cmdA v K keys.length kc fl ex tk dl D dn dc nr lg M mn mc what, x.val] w fun e w' => e = .returned (.bool (Sp.fitsV v keys what x.v)) ∧ Below w.heap.size w w' := by
  obtain ⟨b, hb⟩ : ∃ b, b = Sp.fitsV v keys what x.v := ⟨_, rfl⟩
  rw [← hb]
  generalize hR : (fun (e : Ending) (w' : World) => e = .returned (.bool b) ∧ Below w.heap.size w w') = R
  obtain ⟨kind, E, ec, xs, number, text, S, sc, stats⟩ := x
  dsimp only [AnsX.val, AnsX.cells] at hk hin ⊢
  replace hb : b = Sp.fitsV v keys what { kind := kind, entries := xs.map EntX.e, number := number, text := text, stats := stats } := hb
  subst hk
  rw [fits_eq (by rintro (e | ⟨e1, e2⟩); exact hne e; rcases hin with h1 | ⟨h1, h2⟩; exact e1 h1; rcases e2 with e2 | e2; exact e2 h1; exact h2 e2)] at hb
  obtain ⟨l, hl⟩ : ∃ l, l = Sp.kindsV v what := ⟨_, rfl⟩
  have hkd := fun W : World => kinds_any v K keys.length kc fl ex tk dl D dn dc nr lg M mn mc what W
  rw [← hl] at hkd hne hin
  have hlf : l.length ≤ 3 := by rw [hl]; exact kinds_few v what
  have hln : 0 < l.length := List.length_pos_iff.2 hne
  have hal : Below w.heap.size w ((w.alloc (.cells #[.int .i64 v, .slice K keys.length kc, .int .u64 fl, .int .i64 ex, .int .u64 tk, .int .u64 dl, .slice D dn dc, .bool nr, .bool lg, .slice M mn mc, str what] 32)).alloc (.cells #[.int .i64 11, .slice E xs.length ec, .int .u64 number, str text, .slice S stats.length sc] 36)) := ((Below.refl _ _).alloc (Nat.le_refl _) _).alloc (by simp) _
  have hbx : Blk ((w.alloc (.cells #[.int .i64 v, .slice K keys.length kc, .int .u64 fl, .int .i64 ex, .int .u64 tk, .int .u64 dl, .slice D dn dc, .bool nr, .bool lg, .slice M mn mc, str what] 32)).alloc (.cells #[.int .i64 11, .slice E xs.length ec, .int .u64 number, str text, .slice S stats.length sc] 36)) w.heap.size 32 #[.int .i64 v, .slice K keys.length kc, .int .u64 fl, .int .i64 ex, .int .u64 tk, .int .u64 dl, .slice D dn dc, .bool nr, .bool lg, .slice M mn mc, str what] := (Blk.new w _ _).alloc _
  have hab : Blk ((w.alloc (.cells #[.int .i64 v, .slice K keys.length kc, .int .u64 fl, .int .i64 ex, .int .u64 tk, .int .u64 dl, .slice D dn dc, .bool nr, .bool lg, .slice M mn mc, str what] 32)).alloc (.cells #[.int .i64 11, .slice E xs.length ec, .int .u64 number, str text, .slice S stats.length sc] 36)) (w.heap.size + 1) 36 #[.int .i64 11, .slice E xs.length ec, .int .u64 number, str text, .slice S stats.length sc] := by
    have := Blk.new (w.alloc (.cells #[.int .i64 v, .slice K keys.length kc, .int .u64 fl, .int .i64 ex, .int .u64 tk, .int .u64 dl, .slice D dn dc, .bool nr, .bool lg, .slice M mn mc, str what] 32)) 36 #[.int .i64 11, .slice E xs.length ec, .int .u64 number, str text, .slice S stats.length sc]
    rwa [show (w.alloc (.cells #[.int .i64 v, .slice K keys.length kc, .int .u64 fl, .int .i64 ex, .int .u64 tk, .int .u64 dl, .slice D dn dc, .bool nr, .bool lg, .slice M mn mc, str what] 32)).heap.size = w.heap.size + 1 by simp] at this
  obtain ⟨W1, hW1⟩ : ∃ W1, W1 = (w.alloc (.cells #[.int .i64 v, .slice K keys.length kc, .int .u64 fl, .int .i64 ex, .int .u64 tk, .int .u64 dl, .slice D dn dc, .bool nr, .bool lg, .slice M mn mc, str what] 32)).alloc (.cells #[.int .i64 11, .slice E xs.length ec, .int .u64 number, str text, .slice S stats.length sc] 36) := ⟨_, rfl⟩
  rw [← hW1] at hal hbx hab
  obtain ⟨bx, hbe⟩ : ∃ bx, bx = w.heap.size := ⟨_, rfl⟩
  obtain ⟨ab, hae⟩ : ∃ ab, ab = w.heap.size + 1 := ⟨_, rfl⟩
  rw [← hbe] at hbx
  rw [← hae] at hab
  have y0 := hbx.cell 0
  have y1 := hbx.cell 1
  have y2 := hbx.cell 2
  have y3 := hbx.cell 3
  have y4 := hbx.cell 4
  have y5 := hbx.cell 5
  have y6 := hbx.cell 6
  have y7 := hbx.cell 7
  have y8 := hbx.cell 8
  have y9 := hbx.cell 9
  have y10 := hbx.cell 10
  simp only [List.getElem?_toArray, List.getElem?_cons_zero, List.getElem?_cons_succ] at y0 y1 y2 y3 y4 y5 y6 y7 y8 y9 y10
  have hsomek := run_some_kinds
  have HR := Lib.hid hR
  have HIN := Lib.hid hx
  have HG := Lib.hid hg
  have HK := Lib.hid hK
  have HKD := Lib.hid hkd
  have HLF := Lib.hid hlf
  have HLN := Lib.hid hln
  have HAL := Lib.hid hal
  have HBX := Lib.hid hbx
  have HAB := Lib.hid hab
  have HW1 := Lib.hid hW1
  have HBE := Lib.hid hbe
  have HAE := Lib.hid hae
  have HBB := Lib.hid hb
  clear hR hx hg hK hkd hlf hln hal hbx hab hW1 hbe hae hb hne hl
  by_cases hmem : (11 : Int) ∈ l
  · have HMM := Lib.hid (decide_eq_true hmem)
    clear hmem hin
    by_cases hc0 : stats = []
    · have s1 : decide ((0 : Int) < (stats.length : Int)) = false := decide_eq_false (by rw [hc0]; decide)
      have s2 : decide (0 < stats.length) = false := decide_eq_false (by rw [hc0]; decide)
      by_cases hc1 : xs = []
      · have t1 : decide ((0 : Int) < (xs.length : Int)) = false := decide_eq_false (by rw [hc1]; decide)
        have t2 : decide (0 < xs.length) = false := decide_eq_false (by rw [hc1]; decide)
        by_cases hc2 : number = 0
        · have u1 : decide ((0 : Int) < (number : Int)) = false := decide_eq_false (by rw [hc2]; decide)
          have u2 : decide (0 < number) = false := decide_eq_false (by rw [hc2]; decide)
          by_cases hc3 : text = []
          · have v1 : text.isEmpty = true := by rw [hc3]; rfl
            have hbf := HBB.out
            rw [if_neg (by rintro (⟨h1, h2⟩ | ⟨h1, h2, h3⟩ | ⟨h1, h2⟩ | ⟨h1, h2, h3, h4⟩); exact h1 hc0; exact h1 (List.map_eq_nil_iff.2 hc1); exact absurd h1 (by omega); exact h1 hc3), if_neg (by decide), if_neg (by decide), if_pos rfl] at hbf
            have HBF := Lib.hid hbf
            clear hbf hc0 hc1 hc2 hc3
            go_enter Tryz.func14, Tryz.ntmps14
            go_upto_region 1 with fail
            rw [← HW1.out, ← HAE.out, ← HBE.out]
            go_wp2_with (first | (go_at_call 37; refine (HKD.out W1).mono ?_; rintro e w1 ⟨L, lc, rfl, hown1, _, hb1⟩; obtain ⟨gk, hgk⟩ := own_some hown1 (by have := HLN.out; omega); subst hgk; have hbx1 := HBX.out.later hb1; have hab1 := HAB.out.later hb1; have b0 := hbx1.cell 0; have b1 := hbx1.cell 1; have a0 := hab1.cell 0; have a1 := hab1.cell 1; have a2 := hab1.cell 2; have a3 := hab1.cell 3; have a4 := hab1.cell 4; simp only [List.getElem?_toArray, List.getElem?_cons_zero, List.getElem?_cons_succ] at b0 b1 a0 a1 a2 a3 a4; have hci := hasInt_any (c := lc) (RowAt.of_own hown1) (by have := HLF.out; omega) 11; rw [HMM.out] at hci; have HCI := Lib.hid hci; have HB1 := Lib.hid (HAL.out.trans (hb1.mono HAL.out.size)); clear hown1 hb1 hbx1 hab1 hci) | (go_at_call 38; refine HCI.out.mono ?_; rintro e w2 ⟨rfl, rfl⟩) | (go_at_call 41; refine (refusal_any text w1 (by have := HIN.out.text; simp only at this; omega)).mono ?_; rintro e w3 ⟨rfl, hb3⟩; have HB3 := Lib.hid (HB1.out.trans (hb3.mono HB1.out.size)); clear hb3))
            rw [← HR.out, HBF.out]
            exact ⟨rfl, HB3.out⟩
          · have v1 : text.isEmpty = false := List.isEmpty_eq_false_iff.2 hc3
            have hbf := HBB.out
            rw [if_neg (by rintro (⟨h1, h2⟩ | ⟨h1, h2, h3⟩ | ⟨h1, h2⟩ | ⟨h1, h2, h3, h4⟩); exact h1 hc0; exact h1 (List.map_eq_nil_iff.2 hc1); exact absurd h1 (by omega); exact h3 rfl), if_neg (by decide), if_neg (by decide), if_pos rfl] at hbf
            have HBF := Lib.hid hbf
            clear hbf hc0 hc1 hc2 hc3
            go_enter Tryz.func14, Tryz.ntmps14
            go_upto_region 1 with fail
            rw [← HW1.out, ← HAE.out, ← HBE.out]
            go_wp2_with (first | (go_at_call 37; refine (HKD.out W1).mono ?_; rintro e w1 ⟨L, lc, rfl, hown1, _, hb1⟩; obtain ⟨gk, hgk⟩ := own_some hown1 (by have := HLN.out; omega); subst hgk; have hbx1 := HBX.out.later hb1; have hab1 := HAB.out.later hb1; have b0 := hbx1.cell 0; have b1 := hbx1.cell 1; have a0 := hab1.cell 0; have a1 := hab1.cell 1; have a2 := hab1.cell 2; have a3 := hab1.cell 3; have a4 := hab1.cell 4; simp only [List.getElem?_toArray, List.getElem?_cons_zero, List.getElem?_cons_succ] at b0 b1 a0 a1 a2 a3 a4; have hci := hasInt_any (c := lc) (RowAt.of_own hown1) (by have := HLF.out; omega) 11; rw [HMM.out] at hci; have HCI := Lib.hid hci; have HB1 := Lib.hid (HAL.out.trans (hb1.mono HAL.out.size)); clear hown1 hb1 hbx1 hab1 hci) | (go_at_call 38; refine HCI.out.mono ?_; rintro e w2 ⟨rfl, rfl⟩) | (go_at_call 41; refine (refusal_any text w1 (by have := HIN.out.text; simp only at this; omega)).mono ?_; rintro e w3 ⟨rfl, hb3⟩; have HB3 := Lib.hid (HB1.out.trans (hb3.mono HB1.out.size)); clear hb3))
            rw [← HR.out, HBF.out]
            exact ⟨rfl, HB3.out⟩
        · have u2 : 0 < number := by omega
          have u1 : (0 : Int) < (number : Int) := by omega
          have hbf := HBB.out
          rw [if_pos (.inr (.inr (.inl ⟨by omega, by decide⟩)))] at hbf
          have HBF := Lib.hid hbf
          clear hbf hc0 hc1 hc2
          go_enter Tryz.func14, Tryz.ntmps14
          go_upto_region 1 with fail
          rw [← HW1.out, ← HAE.out, ← HBE.out]
          go_wp2_with (first | (go_at_call 37; refine (HKD.out W1).mono ?_; rintro e w1 ⟨L, lc, rfl, hown1, _, hb1⟩; obtain ⟨gk, hgk⟩ := own_some hown1 (by have := HLN.out; omega); subst hgk; have hbx1 := HBX.out.later hb1; have hab1 := HAB.out.later hb1; have b0 := hbx1.cell 0; have b1 := hbx1.cell 1; have a0 := hab1.cell 0; have a1 := hab1.cell 1; have a2 := hab1.cell 2; have a3 := hab1.cell 3; have a4 := hab1.cell 4; simp only [List.getElem?_toArray, List.getElem?_cons_zero, List.getElem?_cons_succ] at b0 b1 a0 a1 a2 a3 a4; have hci := hasInt_any (c := lc) (RowAt.of_own hown1) (by have := HLF.out; omega) 11; rw [HMM.out] at hci; have HCI := Lib.hid hci; have HB1 := Lib.hid (HAL.out.trans (hb1.mono HAL.out.size)); clear hown1 hb1 hbx1 hab1 hci) | (go_at_call 38; refine HCI.out.mono ?_; rintro e w2 ⟨rfl, rfl⟩))
          rw [← HR.out, HBF.out]
          exact ⟨rfl, HB1.out⟩
      · have t2 : 0 < xs.length := List.length_pos_iff.2 hc1
        have t1 : (0 : Int) < (xs.length : Int) := by omega
        have hbf := HBB.out
        rw [if_pos (.inr (.inl ⟨fun e => hc1 (List.map_eq_nil_iff.1 e), by decide, by decide⟩))] at hbf
        have HBF := Lib.hid hbf
        clear hbf hc0 hc1
        go_enter Tryz.func14, Tryz.ntmps14
        go_upto_region 1 with fail
        rw [← HW1.out, ← HAE.out, ← HBE.out]
        go_wp2_with (first | (go_at_call 37; refine (HKD.out W1).mono ?_; rintro e w1 ⟨L, lc, rfl, hown1, _, hb1⟩; obtain ⟨gk, hgk⟩ := own_some hown1 (by have := HLN.out; omega); subst hgk; have hbx1 := HBX.out.later hb1; have hab1 := HAB.out.later hb1; have b0 := hbx1.cell 0; have b1 := hbx1.cell 1; have a0 := hab1.cell 0; have a1 := hab1.cell 1; have a2 := hab1.cell 2; have a3 := hab1.cell 3; have a4 := hab1.cell 4; simp only [List.getElem?_toArray, List.getElem?_cons_zero, List.getElem?_cons_succ] at b0 b1 a0 a1 a2 a3 a4; have hci := hasInt_any (c := lc) (RowAt.of_own hown1) (by have := HLF.out; omega) 11; rw [HMM.out] at hci; have HCI := Lib.hid hci; have HB1 := Lib.hid (HAL.out.trans (hb1.mono HAL.out.size)); clear hown1 hb1 hbx1 hab1 hci) | (go_at_call 38; refine HCI.out.mono ?_; rintro e w2 ⟨rfl, rfl⟩))
        rw [← HR.out, HBF.out]
        exact ⟨rfl, HB1.out⟩
    · have s2 : 0 < stats.length := List.length_pos_iff.2 hc0
      have s1 : (0 : Int) < (stats.length : Int) := by omega
      have hbf := HBB.out
      rw [if_pos (.inl ⟨hc0, by decide⟩)] at hbf
      have HBF := Lib.hid hbf
      clear hbf hc0
      go_enter Tryz.func14, Tryz.ntmps14
      go_upto_region 1 with fail
      rw [← HW1.out, ← HAE.out, ← HBE.out]
      go_wp2_with (first | (go_at_call 37; refine (HKD.out W1).mono ?_; rintro e w1 ⟨L, lc, rfl, hown1, _, hb1⟩; obtain ⟨gk, hgk⟩ := own_some hown1 (by have := HLN.out; omega); subst hgk; have hbx1 := HBX.out.later hb1; have hab1 := HAB.out.later hb1; have b0 := hbx1.cell 0; have b1 := hbx1.cell 1; have a0 := hab1.cell 0; have a1 := hab1.cell 1; have a2 := hab1.cell 2; have a3 := hab1.cell 3; have a4 := hab1.cell 4; simp only [List.getElem?_toArray, List.getElem?_cons_zero, List.getElem?_cons_succ] at b0 b1 a0 a1 a2 a3 a4; have hci := hasInt_any (c := lc) (RowAt.of_own hown1) (by have := HLF.out; omega) 11; rw [HMM.out] at hci; have HCI := Lib.hid hci; have HB1 := Lib.hid (HAL.out.trans (hb1.mono HAL.out.size)); clear hown1 hb1 hbx1 hab1 hci) | (go_at_call 38; refine HCI.out.mono ?_; rintro e w2 ⟨rfl, rfl⟩))
      rw [← HR.out, HBF.out]
      exact ⟨rfl, HB1.out⟩
  · have HMM := Lib.hid (decide_eq_false hmem)
    have g18 : (v == 18) = false := by simpa using (hin.resolve_left hmem).2
    clear hmem hin
    by_cases hc0 : stats = []
    · have s1 : decide ((0 : Int) < (stats.length : Int)) = false := decide_eq_false (by rw [hc0]; decide)
      have s2 : decide (0 < stats.length) = false := decide_eq_false (by rw [hc0]; decide)
      by_cases hc1 : xs = []
      · have t1 : decide ((0 : Int) < (xs.length : Int)) = false := decide_eq_false (by rw [hc1]; decide)
        have t2 : decide (0 < xs.length) = false := decide_eq_false (by rw [hc1]; decide)
        by_cases hc2 : number = 0
        · have u1 : decide ((0 : Int) < (number : Int)) = false := decide_eq_false (by rw [hc2]; decide)
          have u2 : decide (0 < number) = false := decide_eq_false (by rw [hc2]; decide)
          by_cases hc3 : text = []
          · have v1 : text.isEmpty = true := by rw [hc3]; rfl
            have hbf := HBB.out
            rw [if_neg (by rintro (⟨h1, h2⟩ | ⟨h1, h2, h3⟩ | ⟨h1, h2⟩ | ⟨h1, h2, h3, h4⟩); exact h1 hc0; exact h1 (List.map_eq_nil_iff.2 hc1); exact absurd h1 (by omega); exact h1 hc3), if_neg (by decide), if_neg (by decide), if_pos rfl] at hbf
            have HBF := Lib.hid hbf
            clear hbf hc0 hc1 hc2 hc3
            go_enter Tryz.func14, Tryz.ntmps14
            go_upto_region 1 with fail
            rw [← HW1.out, ← HAE.out, ← HBE.out]
            go_wp2_with (first | (go_at_call 37; refine (HKD.out W1).mono ?_; rintro e w1 ⟨L, lc, rfl, hown1, _, hb1⟩; obtain ⟨gk, hgk⟩ := own_some hown1 (by have := HLN.out; omega); subst hgk; have hbx1 := HBX.out.later hb1; have hab1 := HAB.out.later hb1; have b0 := hbx1.cell 0; have b1 := hbx1.cell 1; have a0 := hab1.cell 0; have a1 := hab1.cell 1; have a2 := hab1.cell 2; have a3 := hab1.cell 3; have a4 := hab1.cell 4; simp only [List.getElem?_toArray, List.getElem?_cons_zero, List.getElem?_cons_succ] at b0 b1 a0 a1 a2 a3 a4; have hci := hasInt_any (c := lc) (RowAt.of_own hown1) (by have := HLF.out; omega) 11; rw [HMM.out] at hci; have HCI := Lib.hid hci; have HB1 := Lib.hid (HAL.out.trans (hb1.mono HAL.out.size)); clear hown1 hb1 hbx1 hab1 hci) | (go_at_call 38; refine HCI.out.mono ?_; rintro e w2 ⟨rfl, rfl⟩) | (go_at_call 41; refine (refusal_any text w1 (by have := HIN.out.text; simp only at this; omega)).mono ?_; rintro e w3 ⟨rfl, hb3⟩; have HB3 := Lib.hid (HB1.out.trans (hb3.mono HB1.out.size)); clear hb3))
            rw [← HR.out, HBF.out]
            exact ⟨rfl, HB3.out⟩
          · have v1 : text.isEmpty = false := List.isEmpty_eq_false_iff.2 hc3
            have hbf := HBB.out
            rw [if_neg (by rintro (⟨h1, h2⟩ | ⟨h1, h2, h3⟩ | ⟨h1, h2⟩ | ⟨h1, h2, h3, h4⟩); exact h1 hc0; exact h1 (List.map_eq_nil_iff.2 hc1); exact absurd h1 (by omega); exact h3 rfl), if_neg (by decide), if_neg (by decide), if_pos rfl] at hbf
            have HBF := Lib.hid hbf
            clear hbf hc0 hc1 hc2 hc3
            go_enter Tryz.func14, Tryz.ntmps14
            go_upto_region 1 with fail
            rw [← HW1.out, ← HAE.out, ← HBE.out]
            go_wp2_with (first | (go_at_call 37; refine (HKD.out W1).mono ?_; rintro e w1 ⟨L, lc, rfl, hown1, _, hb1⟩; obtain ⟨gk, hgk⟩ := own_some hown1 (by have := HLN.out; omega); subst hgk; have hbx1 := HBX.out.later hb1; have hab1 := HAB.out.later hb1; have b0 := hbx1.cell 0; have b1 := hbx1.cell 1; have a0 := hab1.cell 0; have a1 := hab1.cell 1; have a2 := hab1.cell 2; have a3 := hab1.cell 3; have a4 := hab1.cell 4; simp only [List.getElem?_toArray, List.getElem?_cons_zero, List.getElem?_cons_succ] at b0 b1 a0 a1 a2 a3 a4; have hci := hasInt_any (c := lc) (RowAt.of_own hown1) (by have := HLF.out; omega) 11; rw [HMM.out] at hci; have HCI := Lib.hid hci; have HB1 := Lib.hid (HAL.out.trans (hb1.mono HAL.out.size)); clear hown1 hb1 hbx1 hab1 hci) | (go_at_call 38; refine HCI.out.mono ?_; rintro e w2 ⟨rfl, rfl⟩) | (go_at_call 41; refine (refusal_any text w1 (by have := HIN.out.text; simp only at this; omega)).mono ?_; rintro e w3 ⟨rfl, hb3⟩; have HB3 := Lib.hid (HB1.out.trans (hb3.mono HB1.out.size)); clear hb3))
            rw [← HR.out, HBF.out]
            exact ⟨rfl, HB3.out⟩
        · have u2 : 0 < number := by omega
          have u1 : (0 : Int) < (number : Int) := by omega
          have hbf := HBB.out
          rw [if_pos (.inr (.inr (.inl ⟨by omega, by decide⟩)))] at hbf
          have HBF := Lib.hid hbf
          clear hbf hc0 hc1 hc2
          go_enter Tryz.func14, Tryz.ntmps14
          go_upto_region 1 with fail
          rw [← HW1.out, ← HAE.out, ← HBE.out]
          go_wp2_with (first | (go_at_call 37; refine (HKD.out W1).mono ?_; rintro e w1 ⟨L, lc, rfl, hown1, _, hb1⟩; obtain ⟨gk, hgk⟩ := own_some hown1 (by have := HLN.out; omega); subst hgk; have hbx1 := HBX.out.later hb1; have hab1 := HAB.out.later hb1; have b0 := hbx1.cell 0; have b1 := hbx1.cell 1; have a0 := hab1.cell 0; have a1 := hab1.cell 1; have a2 := hab1.cell 2; have a3 := hab1.cell 3; have a4 := hab1.cell 4; simp only [List.getElem?_toArray, List.getElem?_cons_zero, List.getElem?_cons_succ] at b0 b1 a0 a1 a2 a3 a4; have hci := hasInt_any (c := lc) (RowAt.of_own hown1) (by have := HLF.out; omega) 11; rw [HMM.out] at hci; have HCI := Lib.hid hci; have HB1 := Lib.hid (HAL.out.trans (hb1.mono HAL.out.size)); clear hown1 hb1 hbx1 hab1 hci) | (go_at_call 38; refine HCI.out.mono ?_; rintro e w2 ⟨rfl, rfl⟩))
          rw [← HR.out, HBF.out]
          exact ⟨rfl, HB1.out⟩
      · have t2 : 0 < xs.length := List.length_pos_iff.2 hc1
        have t1 : (0 : Int) < (xs.length : Int) := by omega
        have hbf := HBB.out
        rw [if_pos (.inr (.inl ⟨fun e => hc1 (List.map_eq_nil_iff.1 e), by decide, by decide⟩))] at hbf
        have HBF := Lib.hid hbf
        clear hbf hc0 hc1
        go_enter Tryz.func14, Tryz.ntmps14
        go_upto_region 1 with fail
        rw [← HW1.out, ← HAE.out, ← HBE.out]
        go_wp2_with (first | (go_at_call 37; refine (HKD.out W1).mono ?_; rintro e w1 ⟨L, lc, rfl, hown1, _, hb1⟩; obtain ⟨gk, hgk⟩ := own_some hown1 (by have := HLN.out; omega); subst hgk; have hbx1 := HBX.out.later hb1; have hab1 := HAB.out.later hb1; have b0 := hbx1.cell 0; have b1 := hbx1.cell 1; have a0 := hab1.cell 0; have a1 := hab1.cell 1; have a2 := hab1.cell 2; have a3 := hab1.cell 3; have a4 := hab1.cell 4; simp only [List.getElem?_toArray, List.getElem?_cons_zero, List.getElem?_cons_succ] at b0 b1 a0 a1 a2 a3 a4; have hci := hasInt_any (c := lc) (RowAt.of_own hown1) (by have := HLF.out; omega) 11; rw [HMM.out] at hci; have HCI := Lib.hid hci; have HB1 := Lib.hid (HAL.out.trans (hb1.mono HAL.out.size)); clear hown1 hb1 hbx1 hab1 hci) | (go_at_call 38; refine HCI.out.mono ?_; rintro e w2 ⟨rfl, rfl⟩))
        rw [← HR.out, HBF.out]
        exact ⟨rfl, HB1.out⟩
    · have s2 : 0 < stats.length := List.length_pos_iff.2 hc0
      have s1 : (0 : Int) < (stats.length : Int) := by omega
      have hbf := HBB.out
      rw [if_pos (.inl ⟨hc0, by decide⟩)] at hbf
      have HBF := Lib.hid hbf
      clear hbf hc0
      go_enter Tryz.func14, Tryz.ntmps14
      go_upto_region 1 with fail
      rw [← HW1.out, ← HAE.out, ← HBE.out]
      go_wp2_with (first | (go_at_call 37; refine (HKD.out W1).mono ?_; rintro e w1 ⟨L, lc, rfl, hown1, _, hb1⟩; obtain ⟨gk, hgk⟩ := own_some hown1 (by have := HLN.out; omega); subst hgk; have hbx1 := HBX.out.later hb1; have hab1 := HAB.out.later hb1; have b0 := hbx1.cell 0; have b1 := hbx1.cell 1; have a0 := hab1.cell 0; have a1 := hab1.cell 1; have a2 := hab1.cell 2; have a3 := hab1.cell 3; have a4 := hab1.cell 4; simp only [List.getElem?_toArray, List.getElem?_cons_zero, List.getElem?_cons_succ] at b0 b1 a0 a1 a2 a3 a4; have hci := hasInt_any (c := lc) (RowAt.of_own hown1) (by have := HLF.out; omega) 11; rw [HMM.out] at hci; have HCI := Lib.hid hci; have HB1 := Lib.hid (HAL.out.trans (hb1.mono HAL.out.size)); clear hown1 hb1 hbx1 hab1 hci) | (go_at_call 38; refine HCI.out.mono ?_; rintro e w2 ⟨rfl, rfl⟩))
      rw [← HR.out, HBF.out]
      exact ⟨rfl, HB1.out⟩
set_option maxHeartbeats 16000000 in
set_option maxRecDepth 100000 in
theorem fits_15 {w : World} (hg : GlobR w) (v : Int) {K : Option Addr} {keys : List Sp.Bs} {kc : Nat} (fl ex tk dl : Int) (D : Option Addr) (dn dc : Nat) (nr lg : Bool) (M : Option Addr) (mn mc : Nat) (what : Sp.Bs) (hK : RowAt w K (keys.map str)) (_hkc : keys.length ≤ kc) (_hks : keys.length ≤ 1000000000) {x : AnsX} (hx : AnsIn w x) (hk : x.kind = 15) (hne : Sp.kindsV v what ≠ []) (hin : x.kind ∈ Sp.kindsV v what ∨ (x.kind = 11 ∧ v ≠ 18)) :
    Calls Tryz.prog 14 #[cmdA v K keys.length kc fl ex tk dl D dn dc nr lg M mn mc what, x.val] w fun e w' => e = .returned (.bool (Sp.fitsV v keys what x.v)) ∧ Below w.heap.size w w' := by
  obtain ⟨b, hb⟩ : ∃ b, b = Sp.fitsV v keys what x.v := ⟨_, rfl⟩
  rw [← hb]
  generalize hR : (fun (e : Ending) (w' : World) => e = .returned (.bool b) ∧ Below w.heap.size w w') = R
  obtain ⟨kind, E, ec, xs, number, text, S, sc, stats⟩ := x
  dsimp only [AnsX.val, AnsX.cells] at hk hin ⊢
  replace hb : b = Sp.fitsV v keys what { kind := kind, entries := xs.map EntX.e, number := number, text := text, stats := stats } := hb
  subst hk
  rw [fits_eq (by rintro (e | ⟨e1, e2⟩); exact hne e; rcases hin with h1 | ⟨h1, h2⟩; exact e1 h1; rcases e2 with e2 | e2; exact e2 h1; exact h2 e2)] at hb
  obtain ⟨l, hl⟩ : ∃ l, l = Sp.kindsV v what := ⟨_, rfl⟩
  have hkd := fun W : World => kinds_any v K keys.length kc fl ex tk dl D dn dc nr lg M mn mc what W
  rw [← hl] at hkd hne hin
  have hlf : l.length ≤ 3 := by rw [hl]; exact kinds_few v what
  have hln : 0 < l.length := List.length_pos_iff.2 hne
  have hal : Below w.heap.size w ((w.alloc (.cells #[.int .i64 v, .slice K keys.length kc, .int .u64 fl, .int .i64 ex, .int .u64 tk, .int .u64 dl, .slice D dn dc, .bool nr, .bool lg, .slice M mn mc, str what] 32)).alloc (.cells #[.int .i64 15, .slice E xs.length ec, .int .u64 number, str text, .slice S stats.length sc] 36)) := ((Below.refl _ _).alloc (Nat.le_refl _) _).alloc (by simp) _
  have hbx : Blk ((w.alloc (.cells #[.int .i64 v, .slice K keys.length kc, .int .u64 fl, .int .i64 ex, .int .u64 tk, .int .u64 dl, .slice D dn dc, .bool nr, .bool lg, .slice M mn mc, str what] 32)).alloc (.cells #[.int .i64 15, .slice E xs.length ec, .int .u64 number, str text, .slice S stats.length sc] 36)) w.heap.size 32 #[.int .i64 v, .slice K keys.length kc, .int .u64 fl, .int .i64 ex, .int .u64 tk, .int .u64 dl, .slice D dn dc, .bool nr, .bool lg, .slice M mn mc, str what] := (Blk.new w _ _).alloc _
  have hab : Blk ((w.alloc (.cells #[.int .i64 v, .slice K keys.length kc, .int .u64 fl, .int .i64 ex, .int .u64 tk, .int .u64 dl, .slice D dn dc, .bool nr, .bool lg, .slice M mn mc, str what] 32)).alloc (.cells #[.int .i64 15, .slice E xs.length ec, .int .u64 number, str text, .slice S stats.length sc] 36)) (w.heap.size + 1) 36 #[.int .i64 15, .slice E xs.length ec, .int .u64 number, str text, .slice S stats.length sc] := by
    have := Blk.new (w.alloc (.cells #[.int .i64 v, .slice K keys.length kc, .int .u64 fl, .int .i64 ex, .int .u64 tk, .int .u64 dl, .slice D dn dc, .bool nr, .bool lg, .slice M mn mc, str what] 32)) 36 #[.int .i64 15, .slice E xs.length ec, .int .u64 number, str text, .slice S stats.length sc]
    rwa [show (w.alloc (.cells #[.int .i64 v, .slice K keys.length kc, .int .u64 fl, .int .i64 ex, .int .u64 tk, .int .u64 dl, .slice D dn dc, .bool nr, .bool lg, .slice M mn mc, str what] 32)).heap.size = w.heap.size + 1 by simp] at this
  obtain ⟨W1, hW1⟩ : ∃ W1, W1 = (w.alloc (.cells #[.int .i64 v, .slice K keys.length kc, .int .u64 fl, .int .i64 ex, .int .u64 tk, .int .u64 dl, .slice D dn dc, .bool nr, .bool lg, .slice M mn mc, str what] 32)).alloc (.cells #[.int .i64 15, .slice E xs.length ec, .int .u64 number, str text, .slice S stats.length sc] 36) := ⟨_, rfl⟩
  rw [← hW1] at hal hbx hab
  obtain ⟨bx, hbe⟩ : ∃ bx, bx = w.heap.size := ⟨_, rfl⟩
  obtain ⟨ab, hae⟩ : ∃ ab, ab = w.heap.size + 1 := ⟨_, rfl⟩
  rw [← hbe] at hbx
  rw [← hae] at hab
  have y0 := hbx.cell 0
  have y1 := hbx.cell 1
  have y2 := hbx.cell 2
  have y3 := hbx.cell 3
  have y4 := hbx.cell 4
  have y5 := hbx.cell 5
  have y6 := hbx.cell 6
  have y7 := hbx.cell 7
  have y8 := hbx.cell 8
  have y9 := hbx.cell 9
  have y10 := hbx.cell 10
  simp only [List.getElem?_toArray, List.getElem?_cons_zero, List.getElem?_cons_succ] at y0 y1 y2 y3 y4 y5 y6 y7 y8 y9 y10
  have hsomek := run_some_kinds
  have HR := Lib.hid hR
  have HIN := Lib.hid hx
  have HG := Lib.hid hg
  have HK := Lib.hid hK
  have HKD := Lib.hid hkd
  have HLF := Lib.hid hlf
  have HLN := Lib.hid hln
  have HAL := Lib.hid hal
  have HBX := Lib.hid hbx
  have HAB := Lib.hid hab
  have HW1 := Lib.hid hW1
  have HBE := Lib.hid hbe
  have HAE := Lib.hid hae
  have HBB := Lib.hid hb
  clear hR hx hg hK hkd hlf hln hal hbx hab hW1 hbe hae hb hne hl
  have hmem : (15 : Int) ∈ l := hin.resolve_right fun e => absurd e.1 (by decide)
  have HMM := Lib.hid (decide_eq_true hmem)
  clear hmem hin
  by_cases hc0 : stats = []
  · have s1 : decide ((0 : Int) < (stats.length : Int)) = false := decide_eq_false (by rw [hc0]; decide)
    have s2 : decide (0 < stats.length) = false := decide_eq_false (by rw [hc0]; decide)
    by_cases hc1 : xs = []
    · have t1 : decide ((0 : Int) < (xs.length : Int)) = false := decide_eq_false (by rw [hc1]; decide)
      have t2 : decide (0 < xs.length) = false := decide_eq_false (by rw [hc1]; decide)
      by_cases hc2 : number = 0
      · have u1 : decide ((0 : Int) < (number : Int)) = false := decide_eq_false (by rw [hc2]; decide)
        have u2 : decide (0 < number) = false := decide_eq_false (by rw [hc2]; decide)
        by_cases hc3 : text = []
        · have v1 : text.isEmpty = true := by rw [hc3]; rfl
          have hbf := HBB.out
          rw [if_neg (by rintro (⟨h1, h2⟩ | ⟨h1, h2, h3⟩ | ⟨h1, h2⟩ | ⟨h1, h2, h3, h4⟩); exact h1 hc0; exact h1 (List.map_eq_nil_iff.2 hc1); exact absurd h1 (by omega); exact h1 hc3), if_neg (by decide), if_neg (by decide), if_neg (by decide), if_neg (by decide), if_pos rfl] at hbf
          have HBF := Lib.hid hbf
          clear hbf hc0 hc1 hc2 hc3
          go_enter Tryz.func14, Tryz.ntmps14
          go_upto_region 1 with fail
          rw [← HW1.out, ← HAE.out, ← HBE.out]
          go_wp2_with (first | (go_at_call 37; refine (HKD.out W1).mono ?_; rintro e w1 ⟨L, lc, rfl, hown1, _, hb1⟩; obtain ⟨gk, hgk⟩ := own_some hown1 (by have := HLN.out; omega); subst hgk; have hbx1 := HBX.out.later hb1; have hab1 := HAB.out.later hb1; have b0 := hbx1.cell 0; have b1 := hbx1.cell 1; have a0 := hab1.cell 0; have a1 := hab1.cell 1; have a2 := hab1.cell 2; have a3 := hab1.cell 3; have a4 := hab1.cell 4; simp only [List.getElem?_toArray, List.getElem?_cons_zero, List.getElem?_cons_succ] at b0 b1 a0 a1 a2 a3 a4; have hci := hasInt_any (c := lc) (RowAt.of_own hown1) (by have := HLF.out; omega) 15; rw [HMM.out] at hci; have HCI := Lib.hid hci; have HB1 := Lib.hid (HAL.out.trans (hb1.mono HAL.out.size)); clear hown1 hb1 hbx1 hab1 hci) | (go_at_call 38; refine HCI.out.mono ?_; rintro e w2 ⟨rfl, rfl⟩) | (go_at_call 45; refine (meta_any (HG.out.later HB1.out) v text HIN.out.text (HIN.out.ents.below HB1.out) (by have := HIN.out.few.1; omega)).mono ?_; rintro e w3 ⟨rfl, hb3⟩; have HB3 := Lib.hid (HB1.out.trans (hb3.mono HB1.out.size)); clear hb3))
          rw [← HR.out, HBF.out]
          exact ⟨rfl, HB3.out⟩
        · have v1 : text.isEmpty = false := List.isEmpty_eq_false_iff.2 hc3
          have hbf := HBB.out
          rw [if_neg (by rintro (⟨h1, h2⟩ | ⟨h1, h2, h3⟩ | ⟨h1, h2⟩ | ⟨h1, h2, h3, h4⟩); exact h1 hc0; exact h1 (List.map_eq_nil_iff.2 hc1); exact absurd h1 (by omega); exact h4 rfl), if_neg (by decide), if_neg (by decide), if_neg (by decide), if_neg (by decide), if_pos rfl] at hbf
          have HBF := Lib.hid hbf
          clear hbf hc0 hc1 hc2 hc3
          go_enter Tryz.func14, Tryz.ntmps14
          go_upto_region 1 with fail
          rw [← HW1.out, ← HAE.out, ← HBE.out]
          go_wp2_with (first | (go_at_call 37; refine (HKD.out W1).mono ?_; rintro e w1 ⟨L, lc, rfl, hown1, _, hb1⟩; obtain ⟨gk, hgk⟩ := own_some hown1 (by have := HLN.out; omega); subst hgk; have hbx1 := HBX.out.later hb1; have hab1 := HAB.out.later hb1; have b0 := hbx1.cell 0; have b1 := hbx1.cell 1; have a0 := hab1.cell 0; have a1 := hab1.cell 1; have a2 := hab1.cell 2; have a3 := hab1.cell 3; have a4 := hab1.cell 4; simp only [List.getElem?_toArray, List.getElem?_cons_zero, List.getElem?_cons_succ] at b0 b1 a0 a1 a2 a3 a4; have hci := hasInt_any (c := lc) (RowAt.of_own hown1) (by have := HLF.out; omega) 15; rw [HMM.out] at hci; have HCI := Lib.hid hci; have HB1 := Lib.hid (HAL.out.trans (hb1.mono HAL.out.size)); clear hown1 hb1 hbx1 hab1 hci) | (go_at_call 38; refine HCI.out.mono ?_; rintro e w2 ⟨rfl, rfl⟩) | (go_at_call 45; refine (meta_any (HG.out.later HB1.out) v text HIN.out.text (HIN.out.ents.below HB1.out) (by have := HIN.out.few.1; omega)).mono ?_; rintro e w3 ⟨rfl, hb3⟩; have HB3 := Lib.hid (HB1.out.trans (hb3.mono HB1.out.size)); clear hb3))
          rw [← HR.out, HBF.out]
          exact ⟨rfl, HB3.out⟩
      · have u2 : 0 < number := by omega
        have u1 : (0 : Int) < (number : Int) := by omega
        have hbf := HBB.out
        rw [if_pos (.inr (.inr (.inl ⟨by omega, by decide⟩)))] at hbf
        have HBF := Lib.hid hbf
        clear hbf hc0 hc1 hc2
        go_enter Tryz.func14, Tryz.ntmps14
        go_upto_region 1 with fail
        rw [← HW1.out, ← HAE.out, ← HBE.out]
        go_wp2_with (first | (go_at_call 37; refine (HKD.out W1).mono ?_; rintro e w1 ⟨L, lc, rfl, hown1, _, hb1⟩; obtain ⟨gk, hgk⟩ := own_some hown1 (by have := HLN.out; omega); subst hgk; have hbx1 := HBX.out.later hb1; have hab1 := HAB.out.later hb1; have b0 := hbx1.cell 0; have b1 := hbx1.cell 1; have a0 := hab1.cell 0; have a1 := hab1.cell 1; have a2 := hab1.cell 2; have a3 := hab1.cell 3; have a4 := hab1.cell 4; simp only [List.getElem?_toArray, List.getElem?_cons_zero, List.getElem?_cons_succ] at b0 b1 a0 a1 a2 a3 a4; have hci := hasInt_any (c := lc) (RowAt.of_own hown1) (by have := HLF.out; omega) 15; rw [HMM.out] at hci; have HCI := Lib.hid hci; have HB1 := Lib.hid (HAL.out.trans (hb1.mono HAL.out.size)); clear hown1 hb1 hbx1 hab1 hci) | (go_at_call 38; refine HCI.out.mono ?_; rintro e w2 ⟨rfl, rfl⟩))
        rw [← HR.out, HBF.out]
        exact ⟨rfl, HB1.out⟩
    · have t2 : 0 < xs.length := List.length_pos_iff.2 hc1
      have t1 : (0 : Int) < (xs.length : Int) := by omega
      by_cases hc2 : number = 0
      · have u1 : decide ((0 : Int) < (number : Int)) = false := decide_eq_false (by rw [hc2]; decide)
        have u2 : decide (0 < number) = false := decide_eq_false (by rw [hc2]; decide)
        by_cases hc3 : text = []
        · have v1 : text.isEmpty = true := by rw [hc3]; rfl
          have hbf := HBB.out
          rw [if_neg (by rintro (⟨h1, h2⟩ | ⟨h1, h2, h3⟩ | ⟨h1, h2⟩ | ⟨h1, h2, h3, h4⟩); exact h1 hc0; exact h3 rfl; exact absurd h1 (by omega); exact h1 hc3), if_neg (by decide), if_neg (by decide), if_neg (by decide), if_neg (by decide), if_pos rfl] at hbf
          have HBF := Lib.hid hbf
          clear hbf hc0 hc1 hc2 hc3
          go_enter Tryz.func14, Tryz.ntmps14
          go_upto_region 1 with fail
          rw [← HW1.out, ← HAE.out, ← HBE.out]
          go_wp2_with (first | (go_at_call 37; refine (HKD.out W1).mono ?_; rintro e w1 ⟨L, lc, rfl, hown1, _, hb1⟩; obtain ⟨gk, hgk⟩ := own_some hown1 (by have := HLN.out; omega); subst hgk; have hbx1 := HBX.out.later hb1; have hab1 := HAB.out.later hb1; have b0 := hbx1.cell 0; have b1 := hbx1.cell 1; have a0 := hab1.cell 0; have a1 := hab1.cell 1; have a2 := hab1.cell 2; have a3 := hab1.cell 3; have a4 := hab1.cell 4; simp only [List.getElem?_toArray, List.getElem?_cons_zero, List.getElem?_cons_succ] at b0 b1 a0 a1 a2 a3 a4; have hci := hasInt_any (c := lc) (RowAt.of_own hown1) (by have := HLF.out; omega) 15; rw [HMM.out] at hci; have HCI := Lib.hid hci; have HB1 := Lib.hid (HAL.out.trans (hb1.mono HAL.out.size)); clear hown1 hb1 hbx1 hab1 hci) | (go_at_call 38; refine HCI.out.mono ?_; rintro e w2 ⟨rfl, rfl⟩) | (go_at_call 45; refine (meta_any (HG.out.later HB1.out) v text HIN.out.text (HIN.out.ents.below HB1.out) (by have := HIN.out.few.1; omega)).mono ?_; rintro e w3 ⟨rfl, hb3⟩; have HB3 := Lib.hid (HB1.out.trans (hb3.mono HB1.out.size)); clear hb3))
          rw [← HR.out, HBF.out]
          exact ⟨rfl, HB3.out⟩
        · have v1 : text.isEmpty = false := List.isEmpty_eq_false_iff.2 hc3
          have hbf := HBB.out
          rw [if_neg (by rintro (⟨h1, h2⟩ | ⟨h1, h2, h3⟩ | ⟨h1, h2⟩ | ⟨h1, h2, h3, h4⟩); exact h1 hc0; exact h3 rfl; exact absurd h1 (by omega); exact h4 rfl), if_neg (by decide), if_neg (by decide), if_neg (by decide), if_neg (by decide), if_pos rfl] at hbf
          have HBF := Lib.hid hbf
          clear hbf hc0 hc1 hc2 hc3
          go_enter Tryz.func14, Tryz.ntmps14
          go_upto_region 1 with fail
          rw [← HW1.out, ← HAE.out, ← HBE.out]
          go_wp2_with (first | (go_at_call 37; refine (HKD.out W1).mono ?_; rintro e w1 ⟨L, lc, rfl, hown1, _, hb1⟩; obtain ⟨gk, hgk⟩ := own_some hown1 (by have := HLN.out; omega); subst hgk; have hbx1 := HBX.out.later hb1; have hab1 := HAB.out.later hb1; have b0 := hbx1.cell 0; have b1 := hbx1.cell 1; have a0 := hab1.cell 0; have a1 := hab1.cell 1; have a2 := hab1.cell 2; have a3 := hab1.cell 3; have a4 := hab1.cell 4; simp only [List.getElem?_toArray, List.getElem?_cons_zero, List.getElem?_cons_succ] at b0 b1 a0 a1 a2 a3 a4; have hci := hasInt_any (c := lc) (RowAt.of_own hown1) (by have := HLF.out; omega) 15; rw [HMM.out] at hci; have HCI := Lib.hid hci; have HB1 := Lib.hid (HAL.out.trans (hb1.mono HAL.out.size)); clear hown1 hb1 hbx1 hab1 hci) | (go_at_call 38; refine HCI.out.mono ?_; rintro e w2 ⟨rfl, rfl⟩) | (go_at_call 45; refine (meta_any (HG.out.later HB1.out) v text HIN.out.text (HIN.out.ents.below HB1.out) (by have := HIN.out.few.1; omega)).mono ?_; rintro e w3 ⟨rfl, hb3⟩; have HB3 := Lib.hid (HB1.out.trans (hb3.mono HB1.out.size)); clear hb3))
          rw [← HR.out, HBF.out]
          exact ⟨rfl, HB3.out⟩
      · have u2 : 0 < number := by omega
        have u1 : (0 : Int) < (number : Int) := by omega
        have hbf := HBB.out
        rw [if_pos (.inr (.inr (.inl ⟨by omega, by decide⟩)))] at hbf
        have HBF := Lib.hid hbf
        clear hbf hc0 hc1 hc2
        go_enter Tryz.func14, Tryz.ntmps14
        go_upto_region 1 with fail
        rw [← HW1.out, ← HAE.out, ← HBE.out]
        go_wp2_with (first | (go_at_call 37; refine (HKD.out W1).mono ?_; rintro e w1 ⟨L, lc, rfl, hown1, _, hb1⟩; obtain ⟨gk, hgk⟩ := own_some hown1 (by have := HLN.out; omega); subst hgk; have hbx1 := HBX.out.later hb1; have hab1 := HAB.out.later hb1; have b0 := hbx1.cell 0; have b1 := hbx1.cell 1; have a0 := hab1.cell 0; have a1 := hab1.cell 1; have a2 := hab1.cell 2; have a3 := hab1.cell 3; have a4 := hab1.cell 4; simp only [List.getElem?_toArray, List.getElem?_cons_zero, List.getElem?_cons_succ] at b0 b1 a0 a1 a2 a3 a4; have hci := hasInt_any (c := lc) (RowAt.of_own hown1) (by have := HLF.out; omega) 15; rw [HMM.out] at hci; have HCI := Lib.hid hci; have HB1 := Lib.hid (HAL.out.trans (hb1.mono HAL.out.size)); clear hown1 hb1 hbx1 hab1 hci) | (go_at_call 38; refine HCI.out.mono ?_; rintro e w2 ⟨rfl, rfl⟩))
        rw [← HR.out, HBF.out]
        exact ⟨rfl, HB1.out⟩
  · have s2 : 0 < stats.length := List.length_pos_iff.2 hc0
    have s1 : (0 : Int) < (stats.length : Int) := by omega
    have hbf := HBB.out
    rw [if_pos (.inl ⟨hc0, by decide⟩)] at hbf
    have HBF := Lib.hid hbf
    clear hbf hc0
    go_enter Tryz.func14, Tryz.ntmps14
    go_upto_region 1 with fail
    rw [← HW1.out, ← HAE.out, ← HBE.out]
    go_wp2_with (first | (go_at_call 37; refine (HKD.out W1).mono ?_; rintro e w1 ⟨L, lc, rfl, hown1, _, hb1⟩; obtain ⟨gk, hgk⟩ := own_some hown1 (by have := HLN.out; omega); subst hgk; have hbx1 := HBX.out.later hb1; have hab1 := HAB.out.later hb1; have b0 := hbx1.cell 0; have b1 := hbx1.cell 1; have a0 := hab1.cell 0; have a1 := hab1.cell 1; have a2 := hab1.cell 2; have a3 := hab1.cell 3; have a4 := hab1.cell 4; simp only [List.getElem?_toArray, List.getElem?_cons_zero, List.getElem?_cons_succ] at b0 b1 a0 a1 a2 a3 a4; have hci := hasInt_any (c := lc) (RowAt.of_own hown1) (by have := HLF.out; omega) 15; rw [HMM.out] at hci; have HCI := Lib.hid hci; have HB1 := Lib.hid (HAL.out.trans (hb1.mono HAL.out.size)); clear hown1 hb1 hbx1 hab1 hci) | (go_at_call 38; refine HCI.out.mono ?_; rintro e w2 ⟨rfl, rfl⟩))
    rw [← HR.out, HBF.out]
    exact ⟨rfl, HB1.out⟩
set_option maxHeartbeats 16000000 in
set_option maxRecDepth 100000 in
theorem fits_other {w : World} (hg : GlobR w) (v : Int) {K : Option Addr} {keys : List Sp.Bs} {kc : Nat} (fl ex tk dl : Int) (D : Option Addr) (dn dc : Nat) (nr lg : Bool) (M : Option Addr) (mn mc : Nat) (what : Sp.Bs) (hK : RowAt w K (keys.map str)) (_hkc : keys.length ≤ kc) (_hks : keys.length ≤ 1000000000) {x : AnsX} (hx : AnsIn w x) (hk : x.kind ≠ 7 ∧ x.kind ≠ 9 ∧ x.kind ≠ 10 ∧ x.kind ≠ 11 ∧ x.kind ≠ 13 ∧ x.kind ≠ 15) (hne : Sp.kindsV v what ≠ []) (hin : x.kind ∈ Sp.kindsV v what ∨ (x.kind = 11 ∧ v ≠ 18)) :
    Calls Tryz.prog 14 #[cmdA v K keys.length kc fl ex tk dl D dn dc nr lg M mn mc what, x.val] w fun e w' => e = .returned (.bool (Sp.fitsV v keys what x.v)) ∧ Below w.heap.size w w' := by
  obtain ⟨b, hb⟩ : ∃ b, b = Sp.fitsV v keys what x.v := ⟨_, rfl⟩
  rw [← hb]
  generalize hR : (fun (e : Ending) (w' : World) => e = .returned (.bool b) ∧ Below w.heap.size w w') = R
  obtain ⟨kind, E, ec, xs, number, text, S, sc, stats⟩ := x
  dsimp only [AnsX.val, AnsX.cells] at hk hin ⊢
  replace hb : b = Sp.fitsV v keys what { kind := kind, entries := xs.map EntX.e, number := number, text := text, stats := stats } := hb
  obtain ⟨k7, k9, k10, k11, k13, k15⟩ := hk
  rw [fits_eq (by rintro (e | ⟨e1, e2⟩); exact hne e; rcases hin with h1 | ⟨h1, h2⟩; exact e1 h1; rcases e2 with e2 | e2; exact e2 h1; exact h2 e2)] at hb
  obtain ⟨l, hl⟩ : ∃ l, l = Sp.kindsV v what := ⟨_, rfl⟩
  have hkd := fun W : World => kinds_any v K keys.length kc fl ex tk dl D dn dc nr lg M mn mc what W
  rw [← hl] at hkd hne hin
  have hlf : l.length ≤ 3 := by rw [hl]; exact kinds_few v what
  have hln : 0 < l.length := List.length_pos_iff.2 hne
  have hal : Below w.heap.size w ((w.alloc (.cells #[.int .i64 v, .slice K keys.length kc, .int .u64 fl, .int .i64 ex, .int .u64 tk, .int .u64 dl, .slice D dn dc, .bool nr, .bool lg, .slice M mn mc, str what] 32)).alloc (.cells #[.int .i64 kind, .slice E xs.length ec, .int .u64 number, str text, .slice S stats.length sc] 36)) := ((Below.refl _ _).alloc (Nat.le_refl _) _).alloc (by simp) _
  have hbx : Blk ((w.alloc (.cells #[.int .i64 v, .slice K keys.length kc, .int .u64 fl, .int .i64 ex, .int .u64 tk, .int .u64 dl, .slice D dn dc, .bool nr, .bool lg, .slice M mn mc, str what] 32)).alloc (.cells #[.int .i64 kind, .slice E xs.length ec, .int .u64 number, str text, .slice S stats.length sc] 36)) w.heap.size 32 #[.int .i64 v, .slice K keys.length kc, .int .u64 fl, .int .i64 ex, .int .u64 tk, .int .u64 dl, .slice D dn dc, .bool nr, .bool lg, .slice M mn mc, str what] := (Blk.new w _ _).alloc _
  have hab : Blk ((w.alloc (.cells #[.int .i64 v, .slice K keys.length kc, .int .u64 fl, .int .i64 ex, .int .u64 tk, .int .u64 dl, .slice D dn dc, .bool nr, .bool lg, .slice M mn mc, str what] 32)).alloc (.cells #[.int .i64 kind, .slice E xs.length ec, .int .u64 number, str text, .slice S stats.length sc] 36)) (w.heap.size + 1) 36 #[.int .i64 kind, .slice E xs.length ec, .int .u64 number, str text, .slice S stats.length sc] := by
    have := Blk.new (w.alloc (.cells #[.int .i64 v, .slice K keys.length kc, .int .u64 fl, .int .i64 ex, .int .u64 tk, .int .u64 dl, .slice D dn dc, .bool nr, .bool lg, .slice M mn mc, str what] 32)) 36 #[.int .i64 kind, .slice E xs.length ec, .int .u64 number, str text, .slice S stats.length sc]
    rwa [show (w.alloc (.cells #[.int .i64 v, .slice K keys.length kc, .int .u64 fl, .int .i64 ex, .int .u64 tk, .int .u64 dl, .slice D dn dc, .bool nr, .bool lg, .slice M mn mc, str what] 32)).heap.size = w.heap.size + 1 by simp] at this
  obtain ⟨W1, hW1⟩ : ∃ W1, W1 = (w.alloc (.cells #[.int .i64 v, .slice K keys.length kc, .int .u64 fl, .int .i64 ex, .int .u64 tk, .int .u64 dl, .slice D dn dc, .bool nr, .bool lg, .slice M mn mc, str what] 32)).alloc (.cells #[.int .i64 kind, .slice E xs.length ec, .int .u64 number, str text, .slice S stats.length sc] 36) := ⟨_, rfl⟩
  rw [← hW1] at hal hbx hab
  obtain ⟨bx, hbe⟩ : ∃ bx, bx = w.heap.size := ⟨_, rfl⟩
  obtain ⟨ab, hae⟩ : ∃ ab, ab = w.heap.size + 1 := ⟨_, rfl⟩
  rw [← hbe] at hbx
  rw [← hae] at hab
  have y0 := hbx.cell 0
  have y1 := hbx.cell 1
  have y2 := hbx.cell 2
  have y3 := hbx.cell 3
  have y4 := hbx.cell 4
  have y5 := hbx.cell 5
  have y6 := hbx.cell 6
  have y7 := hbx.cell 7
  have y8 := hbx.cell 8
  have y9 := hbx.cell 9
  have y10 := hbx.cell 10
  simp only [List.getElem?_toArray, List.getElem?_cons_zero, List.getElem?_cons_succ] at y0 y1 y2 y3 y4 y5 y6 y7 y8 y9 y10
  have hsomek := run_some_kinds
  have HR := Lib.hid hR
  have HIN := Lib.hid hx
  have HG := Lib.hid hg
  have HK := Lib.hid hK
  have HKD := Lib.hid hkd
  have HLF := Lib.hid hlf
  have HLN := Lib.hid hln
  have HAL := Lib.hid hal
  have HBX := Lib.hid hbx
  have HAB := Lib.hid hab
  have HW1 := Lib.hid hW1
  have HBE := Lib.hid hbe
  have HAE := Lib.hid hae
  have HBB := Lib.hid hb
  clear hR hx hg hK hkd hlf hln hal hbx hab hW1 hbe hae hb hne hl
  have e7 : (kind == 7) = false := by simpa using k7
  have n7 : (kind != 7) = true := by rw [bne, e7]; rfl
  have e9 : (kind == 9) = false := by simpa using k9
  have n9 : (kind != 9) = true := by rw [bne, e9]; rfl
  have e10 : (kind == 10) = false := by simpa using k10
  have n10 : (kind != 10) = true := by rw [bne, e10]; rfl
  have e11 : (kind == 11) = false := by simpa using k11
  have n11 : (kind != 11) = true := by rw [bne, e11]; rfl
  have e13 : (kind == 13) = false := by simpa using k13
  have n13 : (kind != 13) = true := by rw [bne, e13]; rfl
  have e15 : (kind == 15) = false := by simpa using k15
  have n15 : (kind != 15) = true := by rw [bne, e15]; rfl
  have hmem : kind ∈ l := hin.resolve_right fun e => k11 e.1
  have HMM := Lib.hid (decide_eq_true hmem)
  clear hmem hin
  by_cases hc0 : stats = []
  · have s1 : decide ((0 : Int) < (stats.length : Int)) = false := decide_eq_false (by rw [hc0]; decide)
    have s2 : decide (0 < stats.length) = false := decide_eq_false (by rw [hc0]; decide)
    by_cases hc1 : xs = []
    · have t1 : decide ((0 : Int) < (xs.length : Int)) = false := decide_eq_false (by rw [hc1]; decide)
      have t2 : decide (0 < xs.length) = false := decide_eq_false (by rw [hc1]; decide)
      by_cases hc2 : number = 0
      · have u1 : decide ((0 : Int) < (number : Int)) = false := decide_eq_false (by rw [hc2]; decide)
        have u2 : decide (0 < number) = false := decide_eq_false (by rw [hc2]; decide)
        by_cases hc3 : text = []
        · have v1 : text.isEmpty = true := by rw [hc3]; rfl
          have hbf := HBB.out
          rw [if_neg (by rintro (⟨h1, h2⟩ | ⟨h1, h2, h3⟩ | ⟨h1, h2⟩ | ⟨h1, h2, h3, h4⟩); exact h1 hc0; exact h1 (List.map_eq_nil_iff.2 hc1); exact absurd h1 (by omega); exact h1 hc3), if_neg k9, if_neg k10, if_neg k11, if_neg k13, if_neg k15] at hbf
          have HBF := Lib.hid hbf
          clear hbf hc0 hc1 hc2 hc3
          go_enter Tryz.func14, Tryz.ntmps14
          go_upto_region 1 with fail
          rw [← HW1.out, ← HAE.out, ← HBE.out]
          go_wp2_with (first | (go_at_call 37; refine (HKD.out W1).mono ?_; rintro e w1 ⟨L, lc, rfl, hown1, _, hb1⟩; obtain ⟨gk, hgk⟩ := own_some hown1 (by have := HLN.out; omega); subst hgk; have hbx1 := HBX.out.later hb1; have hab1 := HAB.out.later hb1; have b0 := hbx1.cell 0; have b1 := hbx1.cell 1; have a0 := hab1.cell 0; have a1 := hab1.cell 1; have a2 := hab1.cell 2; have a3 := hab1.cell 3; have a4 := hab1.cell 4; simp only [List.getElem?_toArray, List.getElem?_cons_zero, List.getElem?_cons_succ] at b0 b1 a0 a1 a2 a3 a4; have hci := hasInt_any (c := lc) (RowAt.of_own hown1) (by have := HLF.out; omega) kind; rw [HMM.out] at hci; have HCI := Lib.hid hci; have HB1 := Lib.hid (HAL.out.trans (hb1.mono HAL.out.size)); clear hown1 hb1 hbx1 hab1 hci) | (go_at_call 38; refine HCI.out.mono ?_; rintro e w2 ⟨rfl, rfl⟩))
          rw [← HR.out, HBF.out]
          exact ⟨rfl, HB1.out⟩
        · have v1 : text.isEmpty = false := List.isEmpty_eq_false_iff.2 hc3
          have hbf := HBB.out
          rw [if_pos (.inr (.inr (.inr ⟨hc3, k10, k11, k15⟩)))] at hbf
          have HBF := Lib.hid hbf
          clear hbf hc0 hc1 hc2 hc3
          go_enter Tryz.func14, Tryz.ntmps14
          go_upto_region 1 with fail
          rw [← HW1.out, ← HAE.out, ← HBE.out]
          go_wp2_with (first | (go_at_call 37; refine (HKD.out W1).mono ?_; rintro e w1 ⟨L, lc, rfl, hown1, _, hb1⟩; obtain ⟨gk, hgk⟩ := own_some hown1 (by have := HLN.out; omega); subst hgk; have hbx1 := HBX.out.later hb1; have hab1 := HAB.out.later hb1; have b0 := hbx1.cell 0; have b1 := hbx1.cell 1; have a0 := hab1.cell 0; have a1 := hab1.cell 1; have a2 := hab1.cell 2; have a3 := hab1.cell 3; have a4 := hab1.cell 4; simp only [List.getElem?_toArray, List.getElem?_cons_zero, List.getElem?_cons_succ] at b0 b1 a0 a1 a2 a3 a4; have hci := hasInt_any (c := lc) (RowAt.of_own hown1) (by have := HLF.out; omega) kind; rw [HMM.out] at hci; have HCI := Lib.hid hci; have HB1 := Lib.hid (HAL.out.trans (hb1.mono HAL.out.size)); clear hown1 hb1 hbx1 hab1 hci) | (go_at_call 38; refine HCI.out.mono ?_; rintro e w2 ⟨rfl, rfl⟩))
          rw [← HR.out, HBF.out]
          exact ⟨rfl, HB1.out⟩
      · have u2 : 0 < number := by omega
        have u1 : (0 : Int) < (number : Int) := by omega
        have hbf := HBB.out
        rw [if_pos (.inr (.inr (.inl ⟨by omega, k7⟩)))] at hbf
        have HBF := Lib.hid hbf
        clear hbf hc0 hc1 hc2
        go_enter Tryz.func14, Tryz.ntmps14
        go_upto_region 1 with fail
        rw [← HW1.out, ← HAE.out, ← HBE.out]
        go_wp2_with (first | (go_at_call 37; refine (HKD.out W1).mono ?_; rintro e w1 ⟨L, lc, rfl, hown1, _, hb1⟩; obtain ⟨gk, hgk⟩ := own_some hown1 (by have := HLN.out; omega); subst hgk; have hbx1 := HBX.out.later hb1; have hab1 := HAB.out.later hb1; have b0 := hbx1.cell 0; have b1 := hbx1.cell 1; have a0 := hab1.cell 0; have a1 := hab1.cell 1; have a2 := hab1.cell 2; have a3 := hab1.cell 3; have a4 := hab1.cell 4; simp only [List.getElem?_toArray, List.getElem?_cons_zero, List.getElem?_cons_succ] at b0 b1 a0 a1 a2 a3 a4; have hci := hasInt_any (c := lc) (RowAt.of_own hown1) (by have := HLF.out; omega) kind; rw [HMM.out] at hci; have HCI := Lib.hid hci; have HB1 := Lib.hid (HAL.out.trans (hb1.mono HAL.out.size)); clear hown1 hb1 hbx1 hab1 hci) | (go_at_call 38; refine HCI.out.mono ?_; rintro e w2 ⟨rfl, rfl⟩))
        rw [← HR.out, HBF.out]
        exact ⟨rfl, HB1.out⟩
    · have t2 : 0 < xs.length := List.length_pos_iff.2 hc1
      have t1 : (0 : Int) < (xs.length : Int) := by omega
      have hbf := HBB.out
      rw [if_pos (.inr (.inl ⟨fun e => hc1 (List.map_eq_nil_iff.1 e), k9, k15⟩))] at hbf
      have HBF := Lib.hid hbf
      clear hbf hc0 hc1
      go_enter Tryz.func14, Tryz.ntmps14
      go_upto_region 1 with fail
      rw [← HW1.out, ← HAE.out, ← HBE.out]
      go_wp2_with (first | (go_at_call 37; refine (HKD.out W1).mono ?_; rintro e w1 ⟨L, lc, rfl, hown1, _, hb1⟩; obtain ⟨gk, hgk⟩ := own_some hown1 (by have := HLN.out; omega); subst hgk; have hbx1 := HBX.out.later hb1; have hab1 := HAB.out.later hb1; have b0 := hbx1.cell 0; have b1 := hbx1.cell 1; have a0 := hab1.cell 0; have a1 := hab1.cell 1; have a2 := hab1.cell 2; have a3 := hab1.cell 3; have a4 := hab1.cell 4; simp only [List.getElem?_toArray, List.getElem?_cons_zero, List.getElem?_cons_succ] at b0 b1 a0 a1 a2 a3 a4; have hci := hasInt_any (c := lc) (RowAt.of_own hown1) (by have := HLF.out; omega) kind; rw [HMM.out] at hci; have HCI := Lib.hid hci; have HB1 := Lib.hid (HAL.out.trans (hb1.mono HAL.out.size)); clear hown1 hb1 hbx1 hab1 hci) | (go_at_call 38; refine HCI.out.mono ?_; rintro e w2 ⟨rfl, rfl⟩))
      rw [← HR.out, HBF.out]
      exact ⟨rfl, HB1.out⟩
  · have s2 : 0 < stats.length := List.length_pos_iff.2 hc0
    have s1 : (0 : Int) < (stats.length : Int) := by omega
    have hbf := HBB.out
    rw [if_pos (.inl ⟨hc0, k13⟩)] at hbf
    have HBF := Lib.hid hbf
    clear hbf hc0
    go_enter Tryz.func14, Tryz.ntmps14
    go_upto_region 1 with fail
    rw [← HW1.out, ← HAE.out, ← HBE.out]
    go_wp2_with (first | (go_at_call 37; refine (HKD.out W1).mono ?_; rintro e w1 ⟨L, lc, rfl, hown1, _, hb1⟩; obtain ⟨gk, hgk⟩ := own_some hown1 (by have := HLN.out; omega); subst hgk; have hbx1 := HBX.out.later hb1; have hab1 := HAB.out.later hb1; have b0 := hbx1.cell 0; have b1 := hbx1.cell 1; have a0 := hab1.cell 0; have a1 := hab1.cell 1; have a2 := hab1.cell 2; have a3 := hab1.cell 3; have a4 := hab1.cell 4; simp only [List.getElem?_toArray, List.getElem?_cons_zero, List.getElem?_cons_succ] at b0 b1 a0 a1 a2 a3 a4; have hci := hasInt_any (c := lc) (RowAt.of_own hown1) (by have := HLF.out; omega) kind; rw [HMM.out] at hci; have HCI := Lib.hid hci; have HB1 := Lib.hid (HAL.out.trans (hb1.mono HAL.out.size)); clear hown1 hb1 hbx1 hab1 hci) | (go_at_call 38; refine HCI.out.mono ?_; rintro e w2 ⟨rfl, rfl⟩))
    rw [← HR.out, HBF.out]
    exact ⟨rfl, HB1.out⟩
end Go.Proofs.YtnbeeehfapjpdaaGreatDoor
