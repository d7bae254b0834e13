/- Walk of package reply: Fits. Printed by gen/genVv.py. -/
import Derived.Test.YtnbeeehfapjpdaaGreatDoorVw
namespace Go.Proofs.YtnbeeehfapjpdaaGreatDoor
attribute [local go_sem ↓] Go.wp_at_zero Go.wp_at_succ
open Go.RowKit

set_option maxHeartbeats 16000000 in
set_option maxRecDepth 100000 in
theorem fits_no {w : World} (v : Int) {K : Option Addr} {keys : List Sp.Bs} {kc : Nat} (fl ex tk dl : Int) (D : Option Addr) (dn dc : Nat) (nr lg : Bool) (M : Option Addr) (mn mc : Nat) (what : Sp.Bs) (x : AnsX) (hno : Sp.kindsV v what = [] ∨ (x.kind ∉ Sp.kindsV v what ∧ (x.kind ≠ 11 ∨ v = 18))) :
    Calls Tryz.prog 14 #[cmdA v K keys.length kc fl ex tk dl D dn dc nr lg M mn mc what, x.val] w fun e w' => e = .returned (.bool (Sp.fitsV v keys what x.v)) ∧ Below w.heap.size w w' := by
  have hb : Sp.fitsV v keys what x.v = false := by
    unfold Sp.fitsV
    exact if_pos hno
  rw [hb]
  generalize hR : (fun (e : Ending) (w' : World) => e = .returned (.bool false) ∧ Below w.heap.size w w') = R
  obtain ⟨kind, E, ec, xs, number, text, S, sc, stats⟩ := x
  dsimp only [AnsX.val, AnsX.cells] at hno ⊢
  obtain ⟨l, hl⟩ : ∃ l, l = Sp.kindsV v what := ⟨_, rfl⟩
  have hkd := fun W : World => kinds_any v K keys.length kc fl ex tk dl D dn dc nr lg M mn mc what W
  rw [← hl] at hkd hno
  have hlf : l.length ≤ 3 := by rw [hl]; exact kinds_few v what
  have hal : Below w.heap.size w ((w.alloc (.cells #[.int .i64 v, .slice K keys.length kc, .int .u64 fl, .int .i64 ex, .int .u64 tk, .int .u64 dl, .slice D dn dc, .bool nr, .bool lg, .slice M mn mc, str what] 32)).alloc (.cells #[.int .i64 kind, .slice E xs.length ec, .int .u64 number, str text, .slice S stats.length sc] 36)) := ((Below.refl _ _).alloc (Nat.le_refl _) _).alloc (by simp) _
  have hbx : Blk ((w.alloc (.cells #[.int .i64 v, .slice K keys.length kc, .int .u64 fl, .int .i64 ex, .int .u64 tk, .int .u64 dl, .slice D dn dc, .bool nr, .bool lg, .slice M mn mc, str what] 32)).alloc (.cells #[.int .i64 kind, .slice E xs.length ec, .int .u64 number, str text, .slice S stats.length sc] 36)) w.heap.size 32 #[.int .i64 v, .slice K keys.length kc, .int .u64 fl, .int .i64 ex, .int .u64 tk, .int .u64 dl, .slice D dn dc, .bool nr, .bool lg, .slice M mn mc, str what] := (Blk.new w _ _).alloc _
  have hab : Blk ((w.alloc (.cells #[.int .i64 v, .slice K keys.length kc, .int .u64 fl, .int .i64 ex, .int .u64 tk, .int .u64 dl, .slice D dn dc, .bool nr, .bool lg, .slice M mn mc, str what] 32)).alloc (.cells #[.int .i64 kind, .slice E xs.length ec, .int .u64 number, str text, .slice S stats.length sc] 36)) (w.heap.size + 1) 36 #[.int .i64 kind, .slice E xs.length ec, .int .u64 number, str text, .slice S stats.length sc] := by
    have := Blk.new (w.alloc (.cells #[.int .i64 v, .slice K keys.length kc, .int .u64 fl, .int .i64 ex, .int .u64 tk, .int .u64 dl, .slice D dn dc, .bool nr, .bool lg, .slice M mn mc, str what] 32)) 36 #[.int .i64 kind, .slice E xs.length ec, .int .u64 number, str text, .slice S stats.length sc]
    rwa [show (w.alloc (.cells #[.int .i64 v, .slice K keys.length kc, .int .u64 fl, .int .i64 ex, .int .u64 tk, .int .u64 dl, .slice D dn dc, .bool nr, .bool lg, .slice M mn mc, str what] 32)).heap.size = w.heap.size + 1 by simp] at this
  obtain ⟨W1, hW1⟩ : ∃ W1, W1 = (w.alloc (.cells #[.int .i64 v, .slice K keys.length kc, .int .u64 fl, .int .i64 ex, .int .u64 tk, .int .u64 dl, .slice D dn dc, .bool nr, .bool lg, .slice M mn mc, str what] 32)).alloc (.cells #[.int .i64 kind, .slice E xs.length ec, .int .u64 number, str text, .slice S stats.length sc] 36) := ⟨_, rfl⟩
  rw [← hW1] at hal hbx hab
  obtain ⟨bx, hbe⟩ : ∃ bx, bx = w.heap.size := ⟨_, rfl⟩
  obtain ⟨ab, hae⟩ : ∃ ab, ab = w.heap.size + 1 := ⟨_, rfl⟩
  rw [← hbe] at hbx
  rw [← hae] at hab
  have y0 := hbx.cell 0
  have y1 := hbx.cell 1
  have y2 := hbx.cell 2
  have y3 := hbx.cell 3
  have y4 := hbx.cell 4
  have y5 := hbx.cell 5
  have y6 := hbx.cell 6
  have y7 := hbx.cell 7
  have y8 := hbx.cell 8
  have y9 := hbx.cell 9
  have y10 := hbx.cell 10
  simp only [List.getElem?_toArray, List.getElem?_cons_zero, List.getElem?_cons_succ] at y0 y1 y2 y3 y4 y5 y6 y7 y8 y9 y10
  have hsomek := run_some_kinds
  have hnilk := run_nil_kinds
  have HR := Lib.hid hR
  have HKD := Lib.hid hkd
  have HLF := Lib.hid hlf
  have HAL := Lib.hid hal
  have HBX := Lib.hid hbx
  have HAB := Lib.hid hab
  have HW1 := Lib.hid hW1
  have HBE := Lib.hid hbe
  have HAE := Lib.hid hae
  clear hR hkd hlf hal hbx hab hW1 hbe hae hl hb
  by_cases hne : l = []
  · have HNE := Lib.hid hne
    clear hne hno
    go_enter Tryz.func14, Tryz.ntmps14
    go_upto_region 1 with fail
    rw [← HW1.out, ← HAE.out, ← HBE.out]
    go_wp2_with (go_at_call 37; refine (HKD.out W1).mono ?_; rintro e w1 ⟨L, lc, rfl, hown1, hiff, hb1⟩; have hLn := hiff.2 HNE.out; have hl0 : l.length = 0 := (by rw [HNE.out]; rfl); rw [hl0] at hown1 ⊢; subst hLn; have hc0 := (own_room3 hown1).2.2 rfl; subst hc0; have HB1 := Lib.hid (HAL.out.trans (hb1.mono HAL.out.size)); clear hown1 hiff hb1 hl0)
    rw [← HR.out]
    exact ⟨rfl, HB1.out⟩
  obtain ⟨hmem, hor⟩ := hno.resolve_left hne
  have HLN := Lib.hid (List.length_pos_iff.2 hne)
  have HMM := Lib.hid (decide_eq_false hmem)
  clear hmem hne hno
  by_cases h11 : kind = 11
  · have g18 : (v == 18) = true := by
      have := hor.resolve_left (fun e => e h11)
      rw [this]; rfl
    have g11 : (kind != 11) = false := by rw [h11]; rfl
    clear hor h11
    go_enter Tryz.func14, Tryz.ntmps14
    go_upto_region 1 with fail
    rw [← HW1.out, ← HAE.out, ← HBE.out]
    go_wp2_with (first | (go_at_call 37; refine (HKD.out W1).mono ?_; rintro e w1 ⟨L, lc, rfl, hown1, _, hb1⟩; obtain ⟨gk, hgk⟩ := own_some hown1 (by have := HLN.out; omega); subst hgk; have hbx1 := HBX.out.later hb1; have hab1 := HAB.out.later hb1; have b0 := hbx1.cell 0; have b1 := hbx1.cell 1; have a0 := hab1.cell 0; have a1 := hab1.cell 1; have a2 := hab1.cell 2; have a3 := hab1.cell 3; have a4 := hab1.cell 4; simp only [List.getElem?_toArray, List.getElem?_cons_zero, List.getElem?_cons_succ] at b0 b1 a0 a1 a2 a3 a4; have hci := hasInt_any (c := lc) (RowAt.of_own hown1) (by have := HLF.out; omega) kind; rw [HMM.out] at hci; have HCI := Lib.hid hci; have HB1 := Lib.hid (HAL.out.trans (hb1.mono HAL.out.size)); clear hown1 hb1 hbx1 hab1 hci) | (go_at_call 38; refine HCI.out.mono ?_; rintro e w2 ⟨rfl, rfl⟩))
    rw [← HR.out]
    exact ⟨rfl, HB1.out⟩
  · have g11 : (kind != 11) = true := by rw [bne, show (kind == 11) = false by simpa using h11]; rfl
    clear hor h11
    go_enter Tryz.func14, Tryz.ntmps14
    go_upto_region 1 with fail
    rw [← HW1.out, ← HAE.out, ← HBE.out]
    go_wp2_with (first | (go_at_call 37; refine (HKD.out W1).mono ?_; rintro e w1 ⟨L, lc, rfl, hown1, _, hb1⟩; obtain ⟨gk, hgk⟩ := own_some hown1 (by have := HLN.out; omega); subst hgk; have hbx1 := HBX.out.later hb1; have hab1 := HAB.out.later hb1; have b0 := hbx1.cell 0; have b1 := hbx1.cell 1; have a0 := hab1.cell 0; have a1 := hab1.cell 1; have a2 := hab1.cell 2; have a3 := hab1.cell 3; have a4 := hab1.cell 4; simp only [List.getElem?_toArray, List.getElem?_cons_zero, List.getElem?_cons_succ] at b0 b1 a0 a1 a2 a3 a4; have hci := hasInt_any (c := lc) (RowAt.of_own hown1) (by have := HLF.out; omega) kind; rw [HMM.out] at hci; have HCI := Lib.hid hci; have HB1 := Lib.hid (HAL.out.trans (hb1.mono HAL.out.size)); clear hown1 hb1 hbx1 hab1 hci) | (go_at_call 38; refine HCI.out.mono ?_; rintro e w2 ⟨rfl, rfl⟩))
    rw [← HR.out]
    exact ⟨rfl, HB1.out⟩
theorem fitsOf_any {w : World} (hg : GlobR w) (v : Int) {K : Option Addr} {keys : List Sp.Bs} {kc : Nat} (fl ex tk dl : Int) (D : Option Addr) (dn dc : Nat) (nr lg : Bool) (M : Option Addr) (mn mc : Nat) (what : Sp.Bs) (hK : RowAt w K (keys.map str)) (hkc : keys.length ≤ kc) (hks : keys.length ≤ 1000000000) {x : AnsX} (hx : AnsIn w x) :
    Calls Tryz.prog 14 #[cmdA v K keys.length kc fl ex tk dl D dn dc nr lg M mn mc what, x.val] w fun e w' => e = .returned (.bool (Sp.fitsV v keys what x.v)) ∧ Below w.heap.size w w' := by
  by_cases hno : Sp.kindsV v what = [] ∨ (x.kind ∉ Sp.kindsV v what ∧ (x.kind ≠ 11 ∨ v = 18))
  · exact fits_no v fl ex tk dl D dn dc nr lg M mn mc what x hno
  have hne : Sp.kindsV v what ≠ [] := fun e => hno (.inl e)
  have hin : x.kind ∈ Sp.kindsV v what ∨ (x.kind = 11 ∧ v ≠ 18) := by
    by_cases hm : x.kind ∈ Sp.kindsV v what
    · exact .inl hm
    · refine .inr ⟨?_, fun e => hno (.inr ⟨hm, .inr e⟩)⟩
      by_cases h11 : x.kind = 11
      · exact h11
      · exact absurd (.inr ⟨hm, .inl h11⟩) hno
  by_cases h9 : x.kind = 9
  · exact fits_9 hg v fl ex tk dl D dn dc nr lg M mn mc what hK hkc hks hx h9 hne hin
  by_cases h10 : x.kind = 10
  · exact fits_10 hg v fl ex tk dl D dn dc nr lg M mn mc what hK hkc hks hx h10 hne hin
  by_cases h13 : x.kind = 13
  · exact fits_13 hg v fl ex tk dl D dn dc nr lg M mn mc what hK hkc hks hx h13 hne hin
  by_cases h7 : x.kind = 7
  · exact fits_7 hg v fl ex tk dl D dn dc nr lg M mn mc what hK hkc hks hx h7 hne hin
  by_cases h11 : x.kind = 11
  · exact fits_11 hg v fl ex tk dl D dn dc nr lg M mn mc what hK hkc hks hx h11 hne hin
  by_cases h15 : x.kind = 15
  · exact fits_15 hg v fl ex tk dl D dn dc nr lg M mn mc what hK hkc hks hx h15 hne hin
  exact fits_other hg v fl ex tk dl D dn dc nr lg M mn mc what hK hkc hks hx ⟨h7, h9, h10, h11, h13, h15⟩ hne hin
end Go.Proofs.YtnbeeehfapjpdaaGreatDoor
