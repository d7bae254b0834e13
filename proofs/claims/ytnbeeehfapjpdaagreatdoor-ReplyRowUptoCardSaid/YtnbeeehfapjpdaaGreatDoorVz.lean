/- Walk of package reply: Bytes of stats. Printed by gen/genVz.py. -/
import Derived.Test.YtnbeeehfapjpdaaGreatDoorVy
import Derived.Deep.RegionHeld3
namespace Go.Proofs.YtnbeeehfapjpdaaGreatDoor
attribute [local go_sem ↓] Go.wp_at_zero Go.wp_at_succ
open Go.RowKit

def statW (y : Sp.Bs × Nat) : Sp.Bs := Sp.lineR [Sp.statV, y.1, Sp.digitsV y.2]
/-- where a loop that writes stands -/
structure WriteLoop (w : World) (ov : Value) (out : Sp.Bs) (wr : World) : Prop where
  own : wr.ownsRow w.heap.size 5 1 ov out.length (bytesV out)
  below : Below w.heap.size w wr
theorem WriteLoop.on {w wr W : World} {ov O : Value} {out out2 : Sp.Bs} (h : WriteLoop w ov out wr) (hb : Below wr.heap.size wr W) {w4 : World} (hown : w4.ownsRow w.heap.size 5 1 O out2.length (bytesV out2)) (hg : W.grownBy w4 ov.ownBlock) : WriteLoop w O out2 w4 := by
  refine ⟨hown, ?_⟩
  have h1 : Below w.heap.size w W := h.below.trans (hb.mono h.below.size)
  exact h1.grown hg h1.size (fun k hk => ((own_later h.own hb).lt k hk).1)
theorem take_flat {α : Type} (f : α → Sp.Bs) (l : List α) (j : Nat) : ((l.take j).flatMap f).length ≤ (l.flatMap f).length := by
  have h : l.flatMap f = (l.take j).flatMap f ++ (l.drop j).flatMap f := by rw [← List.flatMap_append, List.take_append_drop]
  rw [h, List.length_append]; omega
set_option maxHeartbeats 16000000 in
set_option maxRecDepth 100000 in
theorem bytes_13 {w : World} (hg : GlobR w) (v : Int) {K : Option Addr} {keys : List Sp.Bs} {kc : Nat} (fl ex tk dl : Int) (D : Option Addr) (dn dc : Nat) (nr lg : Bool) (M : Option Addr) (mn mc : Nat) (what : Sp.Bs) (hK : RowAt w K (keys.map str)) (hkc : keys.length ≤ kc) (hks : keys.length ≤ 1000000000) {x : AnsX} (hx : AnsIn w x) (hf : Sp.fitsV v keys what x.v = true) (hn : nr = false) (hk : x.kind = 13) (hbig : (Sp.answerW v x.v).length ≤ 1000000000000) :
    Calls Tryz.prog 15 #[cmdA v K keys.length kc fl ex tk dl D dn dc nr lg M mn mc what, x.val] w (WroteK w (Sp.wroteV v keys what nr x.v)) := by
  obtain ⟨r, hr⟩ : ∃ r, r = Sp.wroteV v keys what nr x.v := ⟨_, rfl⟩
  rw [← hr]
  unfold Sp.wroteV at hr
  generalize hR : WroteK w r = R
  have hal : Below w.heap.size w ((w.alloc (.cells #[.int .i64 v, .slice K keys.length kc, .int .u64 fl, .int .i64 ex, .int .u64 tk, .int .u64 dl, .slice D dn dc, .bool nr, .bool lg, .slice M mn mc, str what] 32)).alloc (.cells x.cells 36)) := ((Below.refl _ _).alloc (Nat.le_refl _) _).alloc (by simp) _
  have hbx : Blk ((w.alloc (.cells #[.int .i64 v, .slice K keys.length kc, .int .u64 fl, .int .i64 ex, .int .u64 tk, .int .u64 dl, .slice D dn dc, .bool nr, .bool lg, .slice M mn mc, str what] 32)).alloc (.cells x.cells 36)) w.heap.size 32 #[.int .i64 v, .slice K keys.length kc, .int .u64 fl, .int .i64 ex, .int .u64 tk, .int .u64 dl, .slice D dn dc, .bool nr, .bool lg, .slice M mn mc, str what] := (Blk.new w _ _).alloc _
  have hab : Blk ((w.alloc (.cells #[.int .i64 v, .slice K keys.length kc, .int .u64 fl, .int .i64 ex, .int .u64 tk, .int .u64 dl, .slice D dn dc, .bool nr, .bool lg, .slice M mn mc, str what] 32)).alloc (.cells x.cells 36)) (w.heap.size + 1) 36 x.cells := by
    have := Blk.new (w.alloc (.cells #[.int .i64 v, .slice K keys.length kc, .int .u64 fl, .int .i64 ex, .int .u64 tk, .int .u64 dl, .slice D dn dc, .bool nr, .bool lg, .slice M mn mc, str what] 32)) 36 x.cells
    rwa [show (w.alloc (.cells #[.int .i64 v, .slice K keys.length kc, .int .u64 fl, .int .i64 ex, .int .u64 tk, .int .u64 dl, .slice D dn dc, .bool nr, .bool lg, .slice M mn mc, str what] 32)).heap.size = w.heap.size + 1 by simp] at this
  obtain ⟨W1, hW1⟩ : ∃ W1, W1 = (w.alloc (.cells #[.int .i64 v, .slice K keys.length kc, .int .u64 fl, .int .i64 ex, .int .u64 tk, .int .u64 dl, .slice D dn dc, .bool nr, .bool lg, .slice M mn mc, str what] 32)).alloc (.cells x.cells 36) := ⟨_, rfl⟩
  rw [← hW1] at hal hbx hab
  have hft := fitsOf_any (hg.later hal) v fl ex tk dl D dn dc nr lg M mn mc what (hK.below hal) hkc hks (hx.below hal)
  rw [hf] at hft
  rw [if_neg (by rw [hf]; decide), if_neg (by rintro (e | e); rw [hn] at e; cases e; exact absurd (hk.symm.trans e) (by decide))] at hr
  have haw : Sp.answerW v x.v = x.stats.flatMap statW ++ Sp.lineR [Sp.endV] := by
    unfold Sp.answerW
    rw [if_neg (by show x.kind ≠ 9; omega), if_neg (by show x.kind ≠ 7; omega), if_neg (by show x.kind ≠ 10; omega), if_neg (by show x.kind ≠ 11; omega), if_pos (show x.v.kind = 13 from hk)]
    rfl
  rw [haw] at hr hbig
  have hnm : ∀ y ∈ x.stats, y.1.length ≤ 250 := fun y hy => by
    have h1 := (Sp.fits_form hf).2.2.2.2.2.2.2.2.2.1 hk y hy
    unfold Sp.nameR at h1
    simp only [Bool.and_eq_true, decide_eq_true_eq] at h1
    exact h1.1.2
  clear hf haw
  obtain ⟨kind, E, ec, xs, number, text, S, sc, stats⟩ := x
  dsimp only [AnsX.val, AnsX.cells] at hW1 hab hft ⊢
  dsimp only at hk hr hbig hnm
  subst hn
  subst hk
  obtain ⟨bx, hbe⟩ : ∃ bx, bx = w.heap.size := ⟨_, rfl⟩
  obtain ⟨ab, hae⟩ : ∃ ab, ab = w.heap.size + 1 := ⟨_, rfl⟩
  rw [← hbe] at hbx
  rw [← hae] at hab
  have y0 := hbx.cell 0
  have y1 := hbx.cell 1
  have y2 := hbx.cell 2
  have y3 := hbx.cell 3
  have y4 := hbx.cell 4
  have y5 := hbx.cell 5
  have y6 := hbx.cell 6
  have y7 := hbx.cell 7
  have y8 := hbx.cell 8
  have y9 := hbx.cell 9
  have y10 := hbx.cell 10
  have q0 := hab.cell 0
  have q1 := hab.cell 1
  have q2 := hab.cell 2
  have q3 := hab.cell 3
  have q4 := hab.cell 4
  simp only [List.getElem?_toArray, List.getElem?_cons_zero, List.getElem?_cons_succ] at y0 y1 y2 y3 y4 y5 y6 y7 y8 y9 y10 q0 q1 q2 q3 q4
  have HR := Lib.hid hR
  have HIN := Lib.hid hx
  have HG := Lib.hid hg
  have HFT := Lib.hid hft
  have HAL := Lib.hid hal
  have HBX := Lib.hid hbx
  have HAB := Lib.hid hab
  have HW1 := Lib.hid hW1
  have HBE := Lib.hid hbe
  have HAE := Lib.hid hae
  have HRR := Lib.hid hr
  clear hR hx hg hft hal hbx hab hW1 hbe hae hr hK hkc hks
  have hdg := fun (W : World) (hW : Below w.heap.size w W) (u : Nat) (hu : u ≤ 18446744073709551615) => replyDigits_any u hu (HG.out.later hW)
  have HDG := Lib.hid hdg
  have HNM := Lib.hid hnm
  have HBIG := Lib.hid hbig
  have hbl : (stats.flatMap statW).length ≤ 1000000000000 := by rw [List.length_append] at hbig; omega
  have hsl9 : stats.length ≤ 1000000000 := HIN.out.few.2
  clear hdg hnm hbig
  go_enter Tryz.func15, Tryz.ntmps15
  go_upto_region 1 with fail
  rw [← HW1.out, ← HAE.out, ← HBE.out]
  go_wp2_with (go_at_call 14; refine HFT.out.mono ?_; rintro e w1 ⟨rfl, hb1⟩; have hbx1 := HBX.out.later hb1; have hab1 := HAB.out.later hb1; have b0 := hbx1.cell 0; have b7 := hbx1.cell 7; have a0 := hab1.cell 0; have a1 := hab1.cell 1; have a2 := hab1.cell 2; have a3 := hab1.cell 3; have a4 := hab1.cell 4; simp only [List.getElem?_toArray, List.getElem?_cons_zero, List.getElem?_cons_succ] at b0 b7 a0 a1 a2 a3 a4; have HB1 := Lib.hid (HAL.out.trans (hb1.mono HAL.out.size)); have hs1 := (HAL.out.trans (hb1.mono HAL.out.size)).size; clear hb1 hbx1 hab1)
  have hst : WriteLoop w nilRow [] w1 := ⟨World.ownsRow_nil _ _ _ 1, HB1.out⟩
  have HST := Lib.hid hst
  clear hst
  go_loopw [6, 11, 91] (fun ov _ iv wr => ∃ (j : Nat) (O : Option Addr) (oc : Nat), iv = .int .i64 j ∧ ov = .slice O ((stats.take j).flatMap statW).length oc ∧ j ≤ stats.length ∧ WriteLoop w (.slice O ((stats.take j).flatMap statW).length oc) ((stats.take j).flatMap statW) wr) (fun _ _ iv _ => stats.length - (intOf iv).toNat)
  case atStart => exact ⟨0, none, 0, rfl, rfl, Nat.zero_le _, HST.out⟩
  case round =>
    obtain ⟨j, O, oc, rfl, rfl, hj, hm⟩ := hrel
    have hol := take_flat statW stats j
    obtain ⟨out, hout⟩ : ∃ out, out = (stats.take j).flatMap statW := ⟨_, rfl⟩
    rw [← hout] at hm hol ⊢
    have hol2 : out.length ≤ 1000000000000 := by omega
    obtain ⟨ln, hln⟩ : ∃ ln, ln = out.length := ⟨_, rfl⟩
    have HM := Lib.hid hm
    have HOUT := Lib.hid hout
    have hsw := hm.below.size
    by_cases hjl : j < stats.length
    · obtain ⟨y, hy⟩ : ∃ y, stats[j]? = some y := ⟨stats[j], by simp [hjl]⟩
      obtain ⟨g, o, hSe, _, yc0, yc1⟩ := stat_cell (HIN.out.stats.below hm.below) hy
      subst hSe
      have hj1 : (j : Int) < (stats.length : Int) := by omega
      have hyn := HNM.out y (List.mem_of_getElem? hy)
      have hyl := (HIN.out.lines y (List.mem_of_getElem? hy)).2
      have HY := Lib.hid hy
      obtain ⟨sb, hsb⟩ : ∃ sb, sb = wr.heap.size := ⟨_, rfl⟩
      obtain ⟨W2, hW2⟩ : ∃ W2, W2 = wr.alloc (.cells #[str y.1, .int .u64 y.2] 90) := ⟨_, rfl⟩
      have hb2 : Below wr.heap.size wr W2 := by rw [hW2]; exact (Below.refl _ _).alloc (Nat.le_refl _) _
      have hsbk : Blk W2 sb 90 #[str y.1, .int .u64 y.2] := by rw [hW2, hsb]; exact Blk.new wr _ _
      have hd2 := HDG.out W2.drew ((hm.below.trans (hb2.mono hsw)).drew) y.2 hyl
      obtain ⟨dg, hdge⟩ : ∃ dg, dg = Sp.digitsV y.2 := ⟨_, rfl⟩
      rw [← hdge] at hd2
      have hdl : dg.length ≤ 20 := by
        rw [hdge, Sp.digits_dec hyl]
        exact dec_len (by omega)
      have hline : ∀ w3 : World, Below wr.heap.size wr w3 → Calls Tryz.prog 49 #[.slice O out.length oc, .slice (some ⟨w3.heap.size, 0, none⟩) 3 3] (w3.alloc (.cells #[str Sp.statV, str y.1, str dg] 9)) (LineK (w3.alloc (.cells #[str Sp.statV, str y.1, str dg] 9)) w.heap.size (.slice O out.length oc) (out ++ Sp.lineR [Sp.statV, y.1, dg])) := fun w3 hb3 => by
        have hal3 : Below wr.heap.size wr (w3.alloc (.cells #[str Sp.statV, str y.1, str dg] 9)) := hb3.alloc hb3.size _
        have hs3 := hal3.size
        exact line_reply (own_later hm.own hal3) (by omega) (row_new w3 rfl 9 [str Sp.statV, str y.1, str dg]) (Nat.le_refl _) (by simp) (by simp [List.intercalate, List.intersperse, Sp.statV]; omega) (by omega)
      have HLINE := Lib.hid hline
      have hapart : (Value.slice O out.length oc).ownBlock ≠ some sb := own_apart (own_later hm.own hb2) hsbk (by decide)
      have HAPART := Lib.hid hapart
      have HB2 := Lib.hid hb2
      have HSBK := Lib.hid hsbk
      have HSB := Lib.hid hsb
      have HW2 := Lib.hid hW2
      have HD2 := Lib.hid hd2
      have HDGE := Lib.hid hdge
      clear hb2 hsbk hsb hW2 hd2 hdge hm hout hy hol hln hline hapart
      go_upto_region 28 with fail
      rw [← HW2.out, ← HSB.out]
      clear yc0 yc1
      go_region_held3 (fun w' => w'.cell? ⟨sb, 0, none⟩ = some (str y.1) ∧ w'.cell? ⟨sb, 1, none⟩ = some (.int .u64 y.2)) (first | exact ⟨HSBK.out.cell 0, HSBK.out.cell 1⟩ | exact ⟨HSBK.out.drew.cell 0, HSBK.out.drew.cell 1⟩ | exact ⟨HSB3.out.cell 0, HSB3.out.cell 1⟩ | exact ⟨(HSB3.out.alloc _).cell 0, (HSB3.out.alloc _).cell 1⟩ | exact ⟨HSB4.out.cell 0, HSB4.out.cell 1⟩) ((first
        | (go_at_call 46; refine HD2.out.mono ?_; rintro e w3 ⟨rfl, hb3⟩; have HSB3 := Lib.hid (HSBK.out.drew.later hb3); have HB3 := Lib.hid (HB2.out.drew.trans (hb3.mono HB2.out.size)); clear hb3)
        | (go_at_call 49; refine (HLINE.out w3 HB3.out).mono ?_; rintro e w4 ⟨O4, oc4, rfl, hown4, hg4⟩; have hsb4 := (HSB3.out.alloc (.cells #[str Sp.statV, str y.1, str dg] 9)).grown hg4 (fun e => HAPART.out e.symm); have HSB4 := Lib.hid hsb4; have HOWN4 := Lib.hid hown4; have HG4 := Lib.hid hg4; clear hown4 hg4 hsb4)))
      go_wp2_with fail
      have hnext : (stats.take (j + 1)).flatMap statW = out ++ Sp.lineR [Sp.statV, y.1, dg] := by
        rw [List.take_add_one, HY.out, List.flatMap_append, ← HOUT.out, HDGE.out]
        show out ++ ([y].flatMap statW) = _
        rw [List.flatMap_singleton]; rfl
      have hfin := HM.out.on (HB3.out.alloc HB3.out.size (.cells #[str Sp.statV, str y.1, str dg] 9)) HOWN4.out HG4.out
      refine ⟨⟨j + 1, O4, oc4, by go_num, by rw [hnext, List.length_append], by omega, by rw [hnext]; exact hfin⟩, by show stats.length - ((j : Int) + 1).toNat < stats.length - (j : Int).toNat; omega⟩
    · have hje : j = stats.length := by omega
      have i1' : decide ((j : Int) < (stats.length : Int)) = false := decide_eq_false (by omega)
      have i2' : decide (j < stats.length) = false := decide_eq_false hjl
      have hlast : stats.flatMap statW = out := by rw [hout, hje, List.take_length]
      have hrr := HRR.out
      rw [hlast] at hrr
      have hline : Calls Tryz.prog 49 #[.slice O out.length oc, .slice (some ⟨wr.heap.size, 0, none⟩) 1 1] (wr.alloc (.cells #[str Sp.endV] 9)) (LineK (wr.alloc (.cells #[str Sp.endV] 9)) w.heap.size (.slice O out.length oc) (out ++ Sp.lineR [Sp.endV])) := by
        have hal3 : Below wr.heap.size wr (wr.alloc (.cells #[str Sp.endV] 9)) := (Below.refl _ _).alloc (Nat.le_refl _) _
        have hs3 := hal3.size
        exact line_reply (own_later hm.own hal3) (by omega) (row_new wr rfl 9 [str Sp.endV]) (Nat.le_refl _) (by decide) (by decide) (by omega)
      have HLINE := Lib.hid hline
      have HRR2 := Lib.hid hrr
      clear hline hrr hlast hje hm hout hol hln hjl
      go_wp2_with (go_at_call 49; refine HLINE.out.mono ?_; rintro e w4 ⟨O4, oc4, rfl, hown4, hg4⟩; have HOWN4 := Lib.hid hown4; have HG4 := Lib.hid hg4; clear hown4 hg4)
      have hfin := HM.out.on ((Below.refl _ _).alloc (Nat.le_refl _) (.cells #[str Sp.endV] 9)) HOWN4.out HG4.out
      rw [← HR.out, HRR2.out]
      exact ⟨O4, oc4, by rw [List.length_append]; rfl, hfin.own, hfin.below⟩
end Go.Proofs.YtnbeeehfapjpdaaGreatDoor
