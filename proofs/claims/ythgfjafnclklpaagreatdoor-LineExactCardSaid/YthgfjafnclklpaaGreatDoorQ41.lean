/- The Book's lists of texts: written full, grown, looked at. The Book's Close, where it keeps lists of bytes and of texts. The Book: a list of texts taken in; where it is full, nothing is. -/
import Derived.Test.YthgfjafnclklpaaGreatDoorBx
import Derived.Test.YthgfjafnclklpaaGreatDoorQ39
section
namespace Go.Proofs.YthgfjafnclklpaaGreatDoor
attribute [local go_sem ↓] Go.wp_at_zero Go.wp_at_succ
open Go.RowKit
attribute [-go_sem] storeVar loadVar
attribute [local go_sem] storeVar_intB storeVar_sliceB storeVar_strB loadVar_textB loadVar_textsB2 loadVar_strB

theorem Shut.lookT {w wr : World} {f f1 : Nat → Lab} {bk : Nat} {arr arr' : Array Value} {F : Nat → Nat → List Value} {b0 b1 b2 : Value} {vs os ms : List Value} {ns : Nat → Nat} (h : Shut w f 32 bk arr 3 1 8 10 11 F b0 vs ns arr' b1 os b2 ms f1 wr) (hF : F = fun i => markT (ns i) i) (hN : vs.length ≤ 300000) (hns : ∀ i, ns i ≤ 70368744177664) :
    (os.length = vs.length → Calls Tryz.prog 98 #[.pointer (some ⟨bk, 0, none⟩), b1] wr fun e w' => e = .returned (.bool true) ∧ Below wr.heap.size wr w') ∧
    (ms.length = vs.length → Calls Tryz.prog 98 #[.pointer (some ⟨bk, 0, none⟩), b2] wr fun e w' => e = .returned (.bool true) ∧ Below wr.heap.size wr w') := by
  subst hF
  exact ⟨fun ho => lookTexts_any hN hns (by decide) ho ((h.blk.cell 8).trans h.a0) h.row h.lots h.one h.ones, fun ho => lookTexts_any hN hns (by decide) ho ((h.blk.cell 8).trans h.a0) h.row h.lots h.many h.manys⟩

set_option maxHeartbeats 4000000 in
set_option maxRecDepth 100000 in
theorem closeTexts_any {w : World} {f : Nat → Lab} {bk : Nat} {arr : Array Value} {b0 : Value} {vs : List Value} {ns : Nat → Nat} (hbk : f bk = (1, 0)) (hN : vs.length ≤ 300000) (hns : ∀ i, ns i ≤ 1000000000)
    (hsz : arr.size = 27) (h0 : arr[8]? = some b0) (h2 : arr[10]? = some (.slice none 0 0)) (h3 : arr[11]? = some (.slice none 0 0)) (h : Fill w f 32 bk arr 3 1 (fun i => markT (ns i) i) b0 vs ns 0 0 w) :
    Calls Tryz.prog 53 #[.pointer (some ⟨bk, 0, none⟩)] w fun e w' => e = .returned (.bool true) ∧ ∃ f' arr' os ms b2 b3, Shut w f 32 bk arr 3 1 8 10 11 (fun i => markT (ns i) i) b0 vs ns arr' b2 os b3 ms f' w' := by
  obtain ⟨A0, c0, hA0⟩ : ∃ A c, b0 = .slice A vs.length c := h.row.form
  subst hA0
  obtain ⟨FB, hFB⟩ : ∃ FB : Nat → Nat → List Value, FB = fun i => markT (ns i) i := ⟨_, rfl⟩
  rw [← hFB] at h
  have hFl : ∀ i k, (FB i k).length = 1 := fun i k => by rw [hFB]; exact markT_length _ _ _
  have HFB := Lib.hid hFB
  have HFL := Lib.hid hFl
  clear hFB hFl
  have H := Lib.hid h
  have HNS := Lib.hid hns
  have HBK := Lib.hid hbk
  have HSZ := Lib.hid (show 10 < arr.size by omega)
  have HSZ3 := Lib.hid (show 11 < arr.size by omega)
  have Z0 := Lib.hid h0
  have Z2 := Lib.hid h2
  have Z3 := Lib.hid h3
  clear h hns hbk h0 h2 h3 hsz
  go_enter Tryz.func53, Tryz.ntmps53
  go_upto_block 0 with fail
  go_cut [] (fun wx => ∃ f1, FillX w f 32 bk arr 3 1 FB (.slice A0 vs.length c0) vs ns vs.length 0 f1 wx)
  case first =>
    go_wp2_with fail
    go_loopw [3, 4] (fun iv _ wr => ∃ (i : Nat) (f1 : Nat → Lab), i ≤ vs.length ∧ iv = .int .i64 i ∧ FillX w f 32 bk arr 3 1 FB (.slice A0 vs.length c0) vs ns i 0 f1 wr) (fun iv _ _ => vs.length - (intOf iv).toNat)
    case atStart => exact ⟨0, f, Nat.zero_le _, rfl, FillX.of H.out HBK.out⟩
    case round =>
      obtain ⟨i, f1, hi, rfl, hm⟩ := hrel
      have y0 := (hm.blk.cell 8).trans Z0.out
      by_cases hlt : i < vs.length
      · obtain ⟨u, hu⟩ : ∃ u, vs[i]? = some u := ⟨vs[i], List.getElem?_eq_getElem hlt⟩
        obtain ⟨gr, cr, hb0, hcell, hgr⟩ := hm.row.at hu
        injection hb0 with e1 _ e3
        subst e1 e3
        obtain ⟨U, cu, rfl⟩ := (hm.lots i u hu).1.form
        have hi1 : (i : Int) < (vs.length : Int) := by omega
        have hni := HNS.out i
        have HM := Lib.hid hm
        have HU := Lib.hid hu
        have hwd := fun W : World => kword_any i W (by omega)
        have HWD := Lib.hid hwd
        clear hm hu hlt hwd
        go_wp2_with fail
        go_loopw [4] (fun kv wx => ∃ (k : Nat) (f2 : Nat → Lab), k ≤ ns i ∧ kv = .int .i64 k ∧ FillX w f 32 bk arr 3 1 FB (.slice (some ⟨gr, 0, none⟩) vs.length c0) vs ns i k f2 wx) (fun kv _ => ns i - (intOf kv).toNat)
        case atStart => exact ⟨0, f1, Nat.zero_le _, rfl, HM.out⟩
        case round =>
          obtain ⟨k, f2, hk, rfl, hm⟩ := hrel
          have z0 := (hm.blk.cell 8).trans Z0.out
          obtain ⟨gr', cr', hb0', hcell', hgr'⟩ := hm.row.at HU.out
          injection hb0' with e1 _ e3
          injection e1 with e1; injection e1 with e1
          subst e1 e3
          by_cases hlk : k < ns i
          · have hmk := (hm.lots i _ HU.out).1
            obtain ⟨g, rfl, ⟨uo, hth1⟩, hth2⟩ : ∃ g, U = some ⟨g, 0, none⟩ ∧ (∃ uo, wr.cell? ⟨g, k, none⟩ = some uo) ∧ wr.frozen? ⟨g, k, none⟩ = false := by
              rcases hmk with ⟨_, h0, _⟩ | ⟨g, cap, he, _, ha⟩
              · omega
              · injection he with he1 _ he3
                have := ha.room
                exact ⟨g, he1, Option.isSome_iff_exists.1 (ha.there k (by omega)).1, (ha.there k (by omega)).2⟩
            have hk1 : (k : Int) < (ns i : Int) := by omega
            have hgl : f2 g = (3, i) := (hm.lots i _ HU.out).2 g rfl
            have hnb : g ≠ bk := fun e => lab_ne (by decide) (hgl.symm.trans ((congrArg f2 e).trans hm.self))
            have hng : g ≠ gr := fun e => lab_ne (by decide) (hgl.symm.trans ((congrArg f2 e).trans (hm.row.lab gr rfl)))
            have HM2 := Lib.hid hm
            have HLK := Lib.hid hlk
            clear hm hmk hlk hgl
            go_upto_region 7 with fail
            have z0 : wr.drew.cell? ⟨bk, 8, none⟩ = _ := z0
            have zi : wr.drew.cell? ⟨gr, i, none⟩ = _ := hcell'
            have zo : wr.drew.cell? ⟨g, k, none⟩ = _ := hth1
            have zf : wr.drew.frozen? ⟨g, k, none⟩ = false := hth2
            go_region_held3 (fun w' => w'.cell? ⟨bk, 8, none⟩ = some (.slice (some ⟨gr, 0, none⟩) vs.length c0) ∧ w'.cell? ⟨gr, i, none⟩ = some (.slice (some ⟨g, 0, none⟩) (ns i) cu)) (first | with_reducible exact ⟨z0, zi⟩ | exact ⟨(World.cell?_setCell_far _ _ _ _ hnb).trans z0, (World.cell?_setCell_far _ _ _ _ hng).trans zi⟩) ((go_at_call 97; with_reducible refine (HWD.out _).mono ?_; rintro e w2 ⟨rfl, hb2⟩; have hm3 := HM2.out.temp (by decide) (j := 9) (by decide) (OnlyL.of_below (P := (· = (13, 9))) hb2 f2 (13, 9) rfl).undrew; have z0 := cell_past z0 hb2; have zi := cell_past zi hb2; have zf := frozen_below2 zo zf hb2; have zo := cell_past zo hb2; have hput := hm3.put HFL.out (by decide) HU.out HLK.out (news := [str (wordV i)]) (by rw [HFB.out]; exact (markT_low HLK.out).symm); rw [Nat.mul_one] at hput; have HP := Lib.hid hput; clear hb2 hm3 hput))
            all_goals go_wp2_with fail
            all_goals exact ⟨⟨k + 1, _, by omega, by go_num, HP.out⟩, by show ns i - ((k : Int) + 1).toNat < ns i - (k : Int).toNat; omega⟩
          · have hk1 : decide ((k : Int) < (ns i : Int)) = false := decide_eq_false (by omega)
            obtain rfl : k = ns i := by omega
            have HN := Lib.hid hm.next
            clear hm hlk
            go_wp2_with fail
            exact ⟨⟨i + 1, f2, by omega, by go_num, HN.out⟩, by show vs.length - ((i : Int) + 1).toNat < vs.length - (i : Int).toNat; omega⟩
      · have hi1 : decide ((i : Int) < (vs.length : Int)) = false := decide_eq_false (by omega)
        obtain rfl : i = vs.length := by omega
        have HM := Lib.hid hm
        clear hm hlt
        go_wp2_with fail
        go_meet
        exact ⟨f1, HM.out⟩
  case rest =>
    obtain ⟨fa, hcut⟩ := hcut
    have hm := hcut.shut (j0 := 8) (j1 := 10) (j2 := 11) Z0.out Z2.out Z3.out
    have HM := Lib.hid hm
    clear hm hcut
    go_upto_block 4 with fail
    go_cut [] (fun wx => ∃ f1 arr1 b1 os, os.length = vs.length ∧ Shut w f 32 bk arr 3 1 8 10 11 FB (.slice A0 vs.length c0) vs ns arr1 b1 os (.slice none 0 0) [] f1 wx)
    case first =>
      go_wp2_with fail
      go_loopw [5, 6, 7] (fun iv _ _ wr => ∃ (i : Nat) (f1 : Nat → Lab) (arr1 : Array Value) (b1 : Value) (os : List Value), i ≤ vs.length ∧ iv = .int .i64 i ∧ os.length = i ∧ Shut w f 32 bk arr 3 1 8 10 11 FB (.slice A0 vs.length c0) vs ns arr1 b1 os (.slice none 0 0) [] f1 wr) (fun iv _ _ _ => vs.length - (intOf iv).toNat)
      case atStart => exact ⟨0, fa, arr, _, [], Nat.zero_le _, rfl, rfl, HM.out⟩
      case round =>
        obtain ⟨i, f1, arr1, b1, os, hi, rfl, hos, hm⟩ := hrel
        have y0 := (hm.blk.cell 8).trans hm.a0
        by_cases hlt : i < vs.length
        · obtain ⟨u, hu⟩ : ∃ u, vs[i]? = some u := ⟨vs[i], List.getElem?_eq_getElem hlt⟩
          obtain ⟨gr, cr, hb0, hcell, hgr⟩ := hm.row.at hu
          injection hb0 with e1 _ e3
          subst e1 e3
          have hlot := hm.lots i u hu
          obtain ⟨U, cu, rfl⟩ := hlot.1.form
          have hi1 : (i : Int) < (vs.length : Int) := by omega
          have hni := HNS.out i
          have HM1 := Lib.hid hm
          have HLOT := Lib.hid hlot
          have HU := Lib.hid hu
          have HOS := Lib.hid hos
          have hwd := fun W : World => kword_any i W (by omega)
          have hwl := wordV_len i
          have hwl2 : ¬ (9223372036854775807 < 1 + List.length (wordV i)) := by omega
          have HWD := Lib.hid hwd
          clear hm hu hlt hlot hos hwd
          go_wp2_with fail
          go_loopw [6, 7] (fun lv kv wx => ∃ (k : Nat) (U : Option Addr) (cu : Nat) (f2 : Nat → Lab), k ≤ 16 ∧ kv = .int .i64 k ∧ lv = .slice U (ns i + k) cu ∧ Shut w f 32 bk arr 3 1 8 10 11 FB (.slice (some ⟨gr, 0, none⟩) vs.length c0) vs ns arr1 b1 os (.slice none 0 0) [] f2 wx ∧ Lot wx 1 (.slice U (ns i + k) cu) (ns i + k) (ns i + k) (FB i) ∧ LabV f2 (.slice U (ns i + k) cu) (3, i)) (fun _ kv _ => 16 - (intOf kv).toNat)
          case atStart => exact ⟨0, U, cu, f1, by decide, rfl, rfl, HM1.out, HLOT.out.1, HLOT.out.2⟩
          case round =>
            obtain ⟨k, U2, cu2, f2, hk, rfl, rfl, hm, hl1, hl2⟩ := hrel
            by_cases hlk : k < 16
            · have hk1 : (k : Int) < 16 := by omega
              have HMA := Lib.hid hm
              have HLA := Lib.hid hl1
              have HLB := Lib.hid hl2
              clear hm hl1 hl2 hlk
              obtain ⟨i0, hi0, hz0, hz1, hz2⟩ := info_parts info_strB
              go_wp2_with (first
                | (go_at_call 97; with_reducible refine (HWD.out _).mono ?_; rintro e w2 ⟨rfl, hb2⟩; have hbel : Below wr.heap.size wr (w2.alloc (.cells #[.string ({ data := #[43] } ++ { data := (wordV i).toArray })] 9)) := hb2.alloc hb2.size _; have hw1 : Wrote f2 (relab f2 wr (3, i)) (3, i) 1 (FB i) wr (w2.alloc (.cells #[.string ({ data := #[43] } ++ { data := (wordV i).toArray })] 9)) := Wrote.of_below hbel f2 (3, i) 1 (FB i); have hm2 := HMA.out.lot HFL.out (by decide) hw1; have hl3 := HLA.out.conf (HFL.out i) hw1; have hl4 := HLB.out.on hw1.only HLA.out.lt; have hnew : FB i (ns i + k) = [.string ({ data := #[43] } ++ { data := (wordV i).toArray })] := (by rw [HFB.out]; exact markT_high (Nat.le_add_right _ _)); have HM2 := Lib.hid hm2; have HL3 := Lib.hid hl3; have HL4 := Lib.hid hl4; have HNEW := Lib.hid hnew; clear hb2 hbel hw1 hm2 hl3 hl4 hnew)
                | (at_builtin; (refine wpList_append_lot rfl (.tmp 63) (.tmp 67) 33 33 rfl (relab f2 wr (3, i)) (3, i) (FB i) 9 i0 _ 1 16 Tryz.underlying33 hi0 hz0 hz1 hz2 rfl (HFL.out i) _ (ns i + k) rfl HL3.out HL4.out _ 1 _ rfl (src_one w2 Tryz.underlying33 _ rfl _) (news_one HNEW.out) (by decide) ?_ ?_ ?_); (unfold maxLen; omega); omega; intro g3 c3 w3 hl5 hb5 hw5; have hm5 := HM2.out.lot HFL.out (by decide) hw5; have HM5 := Lib.hid hm5; have HL5 := Lib.hid hl5; have HB5 := Lib.hid hb5; clear hl5 hb5 hw5 hm5))
              exact ⟨⟨k + 1, some ⟨g3, 0, none⟩, c3, _, by omega, by go_num, rfl, HM5.out, HL5.out, fun g hg => (by injection hg with hg; subst hg; exact HB5.out)⟩, by show 16 - ((k : Int) + 1).toNat < 16 - (k : Int).toNat; omega⟩
            · have hk1 : decide ((k : Int) < 16) = false := decide_eq_false (by omega)
              obtain rfl : k = 16 := by omega
              obtain ⟨lv, hlv⟩ : ∃ lv : Value, lv = .slice U2 (ns i + 16) cu2 := ⟨_, rfl⟩
              have hl1' := hl1
              have hl2' := hl2
              rw [← hlv] at hl1' hl2'
              have hbel : Below wr.heap.size wr (wr.alloc (.cells #[lv] 33)) := (Below.refl _ _).alloc (Nat.le_refl _) _
              have hw1 : Wrote f2 (relab f2 wr (13, 2)) (13, 2) 1 (rowF (os ++ [lv])) wr (wr.alloc (.cells #[lv] 33)) := Wrote.of_below hbel f2 (13, 2) 1 _
              have hr0 : Lot wr 1 b1 os.length os.length (rowF (os ++ [lv])) := hm.one.more lv
              have hr1 := hr0.conf (rowF_length _) hw1
              have hr2 : LabV (relab f2 wr (13, 2)) b1 (13, 2) := hm.one.lab.on hw1.only hm.one.lot.lt
              have hnew : rowF (os ++ [lv]) (os.length) = [lv] := rowF_last os lv
              have z2 := (hm.blk.cell 10).trans hm.a1
              have z0 := (hm.blk.cell 8).trans hm.a0
              obtain ⟨B1, cb1, hb1⟩ := hm.one.form
              have hoi := HOS.out
              have HMM := Lib.hid hm
              have HW1 := Lib.hid hw1
              have HR1 := Lib.hid hr1
              have HR2 := Lib.hid hr2
              have HNEW := Lib.hid hnew
              have HL1 := Lib.hid hl1'
              have HL2 := Lib.hid hl2'
              subst hb1
              subst hlv
              clear hm hw1 hr0 hr1 hr2 hl1 hl2 hl1' hl2' hnew hlk hbel hoi
              obtain ⟨i0, hi0, hz0, hz1, hz2⟩ := info_parts info_textsB
              have hos3 : os.length ≤ 300000 := by rw [HOS.out]; omega
              go_wp2_with (at_builtin; (refine wpList_append_lot rfl (.tmp 73) (.tmp 75) 26 26 rfl (relab f2 wr (13, 2)) (13, 2) (rowF (os ++ [.slice U2 (ns i + 16) cu2])) 33 i0 _ 1 24 Tryz.underlying26 hi0 hz0 hz1 hz2 rfl (rowF_length _) (.slice B1 os.length cb1) os.length rfl HR1.out HR2.out _ 1 _ rfl (src_one wr Tryz.underlying26 (.slice U2 (ns i + 16) cu2) rfl _) (news_one HNEW.out) (by decide) ?_ ?_ ?_))
              · (unfold maxLen; omega)
              · omega
              (intro g3 c3 w3 hl5 hb5 hw5; have ho5 := (HW1.out.only.trans hw5.only); have hrl := RowL.of_append hl5 hb5; have hblk5 := HMM.out.blk.same (ho5.block bk HMM.out.lt (fun e => absurd (HMM.out.self.symm.trans e) (by decide))); have x2 := (hblk5.cell 10).trans HMM.out.a1; have x3 := hblk5.frozen 10; have HO5 := Lib.hid ho5; have HRL := Lib.hid hrl; clear hl5 hb5 hw5 ho5 hrl hblk5)
              go_wp2_with fail
              have hon := HMM.out.onOne (by decide) (by decide) (by decide) HSZ.out HO5.out HRL.out (by rw [HOS.out]; exact HL1.out) (by rw [HOS.out]; exact HL2.out)
              exact ⟨⟨i + 1, _, _, _, _, by omega, by go_num, by rw [List.length_append, List.length_singleton, HOS.out], hon⟩, by show vs.length - ((i : Int) + 1).toNat < vs.length - (i : Int).toNat; omega⟩
        · have hi1 : decide ((i : Int) < (vs.length : Int)) = false := decide_eq_false (by omega)
          obtain rfl : i = vs.length := by omega
          have HM1 := Lib.hid hm
          have HOS := Lib.hid hos
          clear hm hlt hos
          go_wp2_with fail
          go_meet
          exact ⟨_, _, _, _, HOS.out, HM1.out⟩
    case rest =>
      obtain ⟨f1, arr1, b1, os, hos, hm⟩ := hcut
      have z0 := (hm.blk.cell 8).trans hm.a0
      have z2 := (hm.blk.cell 10).trans hm.a1
      have hlk := (hm.lookT HFB.out hN (fun i => Nat.le_trans (HNS.out i) (by decide))).1 hos
      have HLK := Lib.hid hlk
      have HOS := Lib.hid hos
      have HMX := Lib.hid hm
      clear hlk hos hm
      go_upto_block 8 with (go_at_call 98; refine HLK.out.mono ?_; rintro e w2 ⟨rfl, hb2⟩; have hm3 := HMX.out.temp (by decide) (i := 9) (by decide) (OnlyL.of_below (P := (· = (13, 9))) hb2 f1 (13, 9) rfl); have HM1 := Lib.hid hm3; clear hb2 hm3)
      go_cut [] (fun wx => ∃ f2 arr2 b2 ms, ms.length = vs.length ∧ Shut w f 32 bk arr 3 1 8 10 11 FB (.slice A0 vs.length c0) vs ns arr2 b1 os b2 ms f2 wx)
      case first =>
        go_wp2_with fail
        go_loopw [8, 9, 10] (fun iv _ _ wr => ∃ (i : Nat) (f2 : Nat → Lab) (arr2 : Array Value) (b2 : Value) (ms : List Value), i ≤ vs.length ∧ iv = .int .i64 i ∧ ms.length = i ∧ Shut w f 32 bk arr 3 1 8 10 11 FB (.slice A0 vs.length c0) vs ns arr2 b1 os b2 ms f2 wr) (fun iv _ _ _ => vs.length - (intOf iv).toNat)
        case atStart => exact ⟨0, _, arr1, _, [], Nat.zero_le _, rfl, rfl, HM1.out⟩
        case round =>
          obtain ⟨i, f2, arr2, b2, ms, hi, rfl, hms, hm⟩ := hrel
          have y0 := (hm.blk.cell 8).trans hm.a0
          by_cases hlt : i < vs.length
          · obtain ⟨u, hu⟩ : ∃ u, vs[i]? = some u := ⟨vs[i], List.getElem?_eq_getElem hlt⟩
            obtain ⟨gr, cr, hb0, hcell, hgr⟩ := hm.row.at hu
            injection hb0 with e1 e2 e3
            subst e1 e3
            clear e2
            have hi1 : (i : Int) < (vs.length : Int) := by omega
            have hni := HNS.out i
            have HM2 := Lib.hid hm
            have HU := Lib.hid hu
            have HMS := Lib.hid hms
            have hwd := fun W : World => kword_any i W (by omega)
            have hwl := wordV_len i
            have hwl2 : ¬ (9223372036854775807 < 1 + List.length (wordV i)) := by omega
            have HWD := Lib.hid hwd
            clear hm hu hlt hms hwd
            go_wp2_with fail
            go_loopw [9, 10] (fun mv kv wx => ∃ (k : Nat) (M : Option Addr) (cm : Nat) (f3 : Nat → Lab), k ≤ 700 ∧ kv = .int .i64 k ∧ mv = .slice M k cm ∧ Shut w f 32 bk arr 3 1 8 10 11 FB (.slice (some ⟨gr, 0, none⟩) vs.length c0) vs ns arr2 b1 os b2 ms f3 wx ∧ Lot wx 1 (.slice M k cm) k k (plusT i) ∧ LabV f3 (.slice M k cm) (13, 7)) (fun _ kv _ => 700 - (intOf kv).toNat)
            case atStart => exact ⟨0, none, 0, f2, by decide, rfl, rfl, HM2.out, .inl ⟨rfl, rfl, rfl⟩, fun g hg => by cases hg⟩
            case round =>
              obtain ⟨k, M, cm, f3, hk, rfl, rfl, hm, hl1, hl2⟩ := hrel
              by_cases hlk : k < 700
              · have hk1 : (k : Int) < 700 := by omega
                have HMA := Lib.hid hm
                have HLA := Lib.hid hl1
                have HLB := Lib.hid hl2
                clear hm hl1 hl2 hlk
                obtain ⟨i0, hi0, hz0, hz1, hz2⟩ := info_parts info_strB
                go_wp2_with (first
                  | (go_at_call 97; with_reducible refine (HWD.out _).mono ?_; rintro e w2 ⟨rfl, hb2⟩; have hbel : Below wr.heap.size wr (w2.alloc (.cells #[.string ({ data := #[43] } ++ { data := (wordV i).toArray })] 9)) := hb2.alloc hb2.size _; have hw1 : Wrote f3 (relab f3 wr (13, 7)) (13, 7) 1 (plusT i) wr (w2.alloc (.cells #[.string ({ data := #[43] } ++ { data := (wordV i).toArray })] 9)) := Wrote.of_below hbel f3 (13, 7) 1 _; have hm2 := HMA.out.temp (by decide) (by decide) hw1.only; have hl3 := HLA.out.conf (plusT_length i) hw1; have hl4 := HLB.out.on hw1.only HLA.out.lt; have HM2 := Lib.hid hm2; have HL3 := Lib.hid hl3; have HL4 := Lib.hid hl4; clear hb2 hbel hw1 hm2 hl3 hl4)
                  | (at_builtin; (refine wpList_append_lot rfl (.tmp 99) (.tmp 103) 33 33 rfl (relab f3 wr (13, 7)) (13, 7) (plusT i) 9 i0 _ 1 16 Tryz.underlying33 hi0 hz0 hz1 hz2 rfl (plusT_length i) (.slice M k cm) k rfl HL3.out HL4.out _ 1 _ rfl (src_one w2 Tryz.underlying33 _ rfl _) (news_one (plusT_is i k)) (by decide) ?_ ?_ ?_); (unfold maxLen; omega); omega; intro g3 c3 w3 hl5 hb5 hw5; have hm5 := HM2.out.temp (by decide) (by decide) hw5.only; have HM5 := Lib.hid hm5; have HL5 := Lib.hid hl5; have HB5 := Lib.hid hb5; clear hl5 hb5 hw5 hm5))
                exact ⟨⟨k + 1, some ⟨g3, 0, none⟩, c3, _, by omega, by go_num, rfl, HM5.out, HL5.out, LabV.of_eq HB5.out⟩, by show 700 - ((k : Int) + 1).toNat < 700 - (k : Int).toNat; omega⟩
              · have hk1 : decide ((k : Int) < 700) = false := decide_eq_false (by omega)
                obtain rfl : k = 700 := by omega
                have z0 := (hm.blk.cell 8).trans hm.a0
                have z3 := (hm.blk.cell 11).trans hm.a2
                obtain ⟨gr', cr', hb0', zi, hgr3⟩ := hm.row.at HU.out
                injection hb0' with e1 e2 e3
                injection e1 with e1; injection e1 with e1
                subst e1 e3
                clear e2
                obtain ⟨hlu, hlu2⟩ := hm.lots i u HU.out
                obtain ⟨U, cu, rfl⟩ := hlu.form
                obtain ⟨B2, cb2, hb2⟩ := hm.many.form
                subst hb2
                have hself := hm.self
                have hnew : ∀ k, k < 700 → ∀ c, c < 1 → ((List.range 700).flatMap (plusT i))[k * 1 + c]? = (FB i (ns i + k))[c]? := fun k hk c hc => by
                  rw [src_news (plusT_length i) hk hc, HFB.out]
                  show (plusT i k)[c]? = (markT (ns i) i (ns i + k))[c]?
                  rw [show markT (ns i) i (ns i + k) = plusT i k from markT_high (Nat.le_add_right _ _)]
                have hsrc : Src Tryz.prog 1 33 (.slice M 700 cm) 700 ((List.range 700).flatMap (plusT i)) wr.drew := hl1.drew.src Tryz.underlying33 (plusT_length i) (fun k u hu => by rw [plusT_is, List.mem_singleton] at hu; rw [hu]; rfl)
                have HMM := Lib.hid hm
                have HLU := Lib.hid hlu.drew
                have HLU2 := Lib.hid hlu2
                have HSELF := Lib.hid hself
                have HGR := Lib.hid hgr3
                have HNEW := Lib.hid hnew
                have HSRC := Lib.hid hsrc
                have hms3 : ms.length ≤ 300000 := by rw [HMS.out]; omega
                clear hlk hm hl1 hl2 hlu hlu2 hself hgr3 hnew hsrc y0 hcell
                obtain ⟨i0, hi0, hz0, hz1, hz2⟩ := info_parts info_strB
                obtain ⟨j0, hj0, hy0, hy1, hy2⟩ := info_parts info_textsB
                go_wp2_with fail
                go_region_law (first
                    | (refine step_append_lot rfl (.tmp 116) (.tmp 117) 33 33 rfl f3 (3, i) (FB i) 9 i0 _ 1 16 Tryz.underlying33 hi0 hz0 hz1 hz2 rfl (HFL.out i) (.slice U (ns i) cu) (ns i) rfl HLU.out HLU2.out (.slice M 700 cm) 700 _ rfl HSRC.out HNEW.out (by decide) ?_ ?_ ?_; (unfold maxLen; omega); omega; intro g4 c4 w4 hl4 hb4 hw4; have hm4 := HMM.out.lot HFL.out (by decide) hw4.undrew; have z0 := hw4.undrew.only.cell z0 (fun e => lab_ne (by decide) (HSELF.out.symm.trans e)); have z3 := hw4.undrew.only.cell z3 (fun e => lab_ne (by decide) (HSELF.out.symm.trans e)); have zi := hw4.undrew.only.cell zi (fun e => lab_ne (by decide) (HGR.out.symm.trans e)); have hw5 : Wrote _ (relab (relab f3 wr.drew (3, i)) w4 (13, 3)) (13, 3) 1 (rowF (ms ++ [.slice (some ⟨g4, 0, none⟩) (ns i + 700) c4])) w4 (w4.alloc (.cells #[.slice (some ⟨g4, 0, none⟩) (ns i + 700) c4] 33)) := Wrote.of_below ((Below.refl _ _).alloc (Nat.le_refl _) _) _ (13, 3) 1 _; have hr5 := (hm4.many.more (.slice (some ⟨g4, 0, none⟩) (ns i + 700) c4)).conf (rowF_length _) hw5; have hr6 := hm4.many.lab.on hw5.only hm4.many.lot.lt; have HW5 := Lib.hid hw5; have HR5 := Lib.hid hr5; have HR6 := Lib.hid hr6; have z3a := cell_alloc z3 (.cells #[.slice (some ⟨g4, 0, none⟩) (ns i + 700) c4] 33); have HM4 := Lib.hid hm4; have HL4 := Lib.hid hl4; have HB4 := Lib.hid hb4; clear hl4 hb4 hw4 hm4 hw5 hr5 hr6)
                    | (refine step_append_lot rfl (.tmp 109) (.tmp 119) 26 26 rfl _ (13, 3) (rowF (ms ++ [.slice (some ⟨g4, 0, none⟩) (ns i + 700) c4])) 33 j0 _ 1 24 Tryz.underlying26 hj0 hy0 hy1 hy2 rfl (rowF_length _) (.slice B2 ms.length cb2) ms.length rfl HR5.out HR6.out _ 1 _ rfl (src_one w4 Tryz.underlying26 (.slice (some ⟨g4, 0, none⟩) (ns i + 700) c4) rfl _) (news_one (rowF_last ms _)) (by decide) ?_ ?_ ?_; (unfold maxLen; omega); omega; intro g7 c7 w7 hl7 hb7 hw7; have ho7 := HW5.out.only.trans hw7.only; have hrl := RowL.of_append hl7 hb7; have hblk7 := HM4.out.blk.same (ho7.block bk HM4.out.lt (fun e => lab_ne (by decide) (HM4.out.self.symm.trans e))); have z0 := (hblk7.cell 8).trans HM4.out.a0; have z3 := (hblk7.cell 11).trans HM4.out.a2; have z3f := hblk7.frozen 11; have zi := ho7.cell zi (fun e => lab_ne2 (by decide) (((HM4.out.row.lab gr rfl)).symm.trans e)); have HO7 := Lib.hid ho7; have HRL := Lib.hid hrl; clear hl7 hb7 hw7 ho7 hrl hblk7))
                all_goals
                  go_wp2_with fail
                  have hon := HM4.out.onMany (by decide) (by decide) (by decide) HSZ3.out HO7.out HRL.out (by rw [HMS.out]; exact HL4.out) (by rw [HMS.out]; exact LabV.of_eq HB4.out)
                  exact ⟨⟨i + 1, _, _, _, _, by omega, by go_num, by rw [List.length_append, List.length_singleton, HMS.out], hon⟩, by show vs.length - ((i : Int) + 1).toNat < vs.length - (i : Int).toNat; omega⟩
          · have hi1 : decide ((i : Int) < (vs.length : Int)) = false := decide_eq_false (by omega)
            obtain rfl : i = vs.length := by omega
            have HM1 := Lib.hid hm
            have HOS := Lib.hid hms
            clear hm hlt hms
            go_wp2_with fail
            go_meet
            exact ⟨_, _, _, _, HOS.out, HM1.out⟩
      case rest =>
        obtain ⟨f2, arr2, b2, ms, hms, hm⟩ := hcut
        have hos := HOS.out
        have y2 := (hm.blk.cell 10).trans hm.a1
        have y3 := (hm.blk.cell 11).trans hm.a2
        have hlk2 := (hm.lookT HFB.out hN (fun i => Nat.le_trans (HNS.out i) (by decide))).2 hms
        have HLK2 := Lib.hid hlk2
        have HM2 := Lib.hid hm
        clear hlk2 hm hms hos
        go_wp2_with (go_at_call 98; (first | (with_reducible refine HLK2.out.mono ?_; rintro e w2 ⟨rfl, hb2⟩; have hm3 := HM2.out.temp (by decide) (i := 9) (by decide) (OnlyL.of_below (P := (· = (13, 9))) hb2 f2 (13, 9) rfl); have y2 := (hm3.blk.cell 10).trans hm3.a1; have hlk1 := (hm3.lookT HFB.out hN (fun i => Nat.le_trans (HNS.out i) (by decide))).1 HOS.out; have HLK1 := Lib.hid hlk1; have HM3 := Lib.hid hm3; clear hb2 hm3 hlk1) | (with_reducible refine HLK1.out.mono ?_; rintro e w4 ⟨rfl, hb4⟩; have hm5 := HM3.out.temp (by decide) (i := 9) (by decide) (OnlyL.of_below (P := (· = (13, 9))) hb4 _ (13, 9) rfl); have HM5 := Lib.hid hm5; clear hb4 hm5)))
        go_ret
        have hfin := HM5.out
        rw [HFB.out] at hfin
        exact ⟨rfl, _, arr2, os, ms, b1, b2, hfin⟩
end Go.Proofs.YthgfjafnclklpaaGreatDoor
end
section
namespace Go.Proofs.YthgfjafnclklpaaGreatDoor
attribute [local go_sem ↓] Go.wp_at_zero Go.wp_at_succ
open Go.RowKit

theorem sizeT_le {ts : List (List Sp.Bs)} (h : ∀ b ∈ ts, b.length ≤ 1000000000) (i : Nat) : sizeT ts i ≤ 1000000000 := by
  unfold sizeT
  rw [List.getD_eq_getElem?_getD]
  cases hx : ts[i]? with
  | none => exact Nat.zero_le _
  | some b => exact h b (List.mem_of_getElem? hx)
/-- the labels that Close writes -/
def OnC (l : Lab) : Prop := l = (1, 0) ∨ l.1 = 2 ∨ l.1 = 12 ∨ l.1 = 3 ∨ l.1 = 13 ∨ l.1 = 4 ∨ l.1 = 14
theorem OnK.c2 {l : Lab} (h : OnK 2 l) : OnC l := by
  rcases h with h | h | h
  · exact .inl h
  · exact .inr (.inl h)
  · exact .inr (.inr (.inl h))
theorem OnK.c3 {l : Lab} (h : OnK 3 l) : OnC l := by
  rcases h with h | h | h
  · exact .inl h
  · exact .inr (.inr (.inr (.inl h)))
  · exact .inr (.inr (.inr (.inr (.inl h))))
/-- behind closeBytes -/
theorem closeTexts_book {w w2 : World} {f f2 : Nat → Lab} {bk : Nat} {b0 b1 t0 t1 s0 : Value} {n : Int} {vs ws us xs ss : List Value} {bs : List Sp.Bs} {ts : List (List Sp.Bs)} {ls : List Nat} {arr2 : Array Value} (h : BookAt w f bk b0 b1 t0 t1 s0 n vs ws us xs ss bs ts ls)
    (ho : OnlyL f f2 (OnK 2) w w2) (hk : Blk w2 bk 32 arr2) (ha : ∀ j, j ≠ 2 → j ≠ 3 → arr2[j]? = (bookArr b0 b1 t0 t1 s0 n)[j]?) (ht1 : (bookArr b0 b1 t0 t1 s0 n)[10]? = some (.slice none 0 0)) (ht2 : (bookArr b0 b1 t0 t1 s0 n)[11]? = some (.slice none 0 0)) :
    Calls Tryz.prog 53 #[.pointer (some ⟨bk, 0, none⟩)] w2 fun e w' => e = .returned (.bool true) ∧ ∃ f' arr', OnlyL f2 f' (OnK 3) w2 w' ∧ Blk w' bk 32 arr' ∧ ∀ j, j ≠ 10 → j ≠ 11 → arr'[j]? = arr2[j]? := by
  have hN : us.length ≤ 300000 := by have := h.cnt; rw [h.len2]; omega
  have hself : f2 bk = (1, 0) := by rw [ho.lab bk h.blk.lt]; exact h.self
  have hsz : arr2.size = 27 := by
    have h1 := ha 26 (by decide) (by decide)
    have h2 := ha 27 (by decide) (by decide)
    have h3 : arr2[26]? = some (.int .i64 n) := h1
    have h4 : arr2[27]? = none := h2
    have h5 : 26 < arr2.size := by
      rcases Nat.lt_or_ge 26 arr2.size with h | h
      · exact h
      · rw [Array.getElem?_eq_none h] at h3; cases h3
    have h6 := Array.getElem?_eq_none_iff.1 h4
    omega
  have hn0 : ∀ i, ¬ OnK 2 (3, i) := fun i h => by
    rcases h with h | h | h
    · injection h with h _; omega
    · change (3 : Nat) = 2 at h; omega
    · change (3 : Nat) = 12 at h; omega
  have hn1 : ¬ OnK 2 (13, 0) := fun h => by
    rcases h with h | h | h
    · injection h with h _; omega
    · exact absurd h (by decide)
    · exact absurd h (by decide)
  refine (closeTexts_any (f := f2) (arr := arr2) (b0 := t0) (vs := us) (ns := sizeT ts) hself hN (sizeT_le h.big.2.1) hsz ((ha 8 (by decide) (by decide)).trans rfl) ((ha 10 (by decide) (by decide)).trans ht1) ((ha 11 (by decide) (by decide)).trans ht2) ⟨hk, h.row2.apart ho hn1, (h.lots2.apart ho hn0).fresh, OnlyL.refl _ _ _⟩).mono ?_
  rintro e w' ⟨rfl, f', arr', os, ms, b2, b3, hs⟩
  exact ⟨rfl, f', arr', hs.only, hs.blk, hs.ars⟩

end Go.Proofs.YthgfjafnclklpaaGreatDoor
end
section
namespace Go.Proofs.YthgfjafnclklpaaGreatDoor
attribute [local go_sem ↓] Go.wp_at_zero Go.wp_at_succ
open Go.RowKit
/-- what changes while a list of texts is taken in: the Book, two rows, and the copy -/
def OnT1 (k : Nat) (l : Lab) : Prop := l = (1, 0) ∨ l = (13, 0) ∨ l = (13, 1) ∨ l = (23, k)
theorem onT1_not {k : Nat} {a b : Nat} (h1 : a ≠ 1) (h2 : a ≠ 13) (h3 : a = 23 → b ≠ k) : ¬ OnT1 k (a, b) := by
  rintro (h | h | h | h)
  · exact h1 (congrArg Prod.fst h)
  · exact h2 (congrArg Prod.fst h)
  · exact h2 (congrArg Prod.fst h)
  · exact h3 (congrArg Prod.fst h) (congrArg Prod.snd h)
theorem onT1_no {k : Nat} {a b : Nat} (h1 : a ≠ 1) (h2 : a ≠ 13) (h3 : a ≠ 23) : ¬ OnT1 k (a, b) := onT1_not h1 h2 (fun e => absurd e h3)
theorem BookAt.onTexts {w w1 : World} {f f1 : Nat → Lab} {bk : Nat} {b0 b1 t0 t1 s0 t0' t1' v x : Value} {n : Int} {vs ws us xs ss : List Value} {bs : List Sp.Bs} {ts : List (List Sp.Bs)} {ls : List Nat} {l : List Sp.Bs}
    (h : BookAt w f bk b0 b1 t0 t1 s0 n vs ws us xs ss bs ts ls) (hl : LotT w v l) (hv : LabV f v (3, ts.length)) (hlen : l.length ≤ 1000000000) (hn : n ≤ 200000) (ho : OnlyL f f1 (OnT1 ts.length) w w1)
    (hblk : Blk w1 bk 32 (bookArr b0 b1 t0' t1' s0 (n + l.length + 1))) (hr0 : RowL w1 f1 (13, 0) t0' (us ++ [v])) (hr1 : RowL w1 f1 (13, 1) t1' (xs ++ [x])) (hx : LotT w1 x l) (hxl : LabV f1 x (23, ts.length)) :
    BookAt w1 f1 bk b0 b1 t0' t1' s0 (n + l.length + 1) vs ws (us ++ [v]) (xs ++ [x]) ss bs (ts ++ [l]) ls :=
  { blk := hblk
    self := by rw [ho.lab bk h.blk.lt]; exact h.self
    row0 := h.row0.apart ho (onT1_no (by decide) (by decide) (by decide))
    row1 := h.row1.apart ho (onT1_no (by decide) (by decide) (by decide))
    row2 := hr0
    row3 := hr1
    row4 := h.row4.apart ho (onT1_no (by decide) (by decide) (by decide))
    len0 := h.len0
    len1 := h.len1
    len2 := by rw [List.length_append, List.length_append, h.len2]; rfl
    len3 := by rw [List.length_append, List.length_append, h.len3]; rfl
    len4 := h.len4
    lots0 := h.lots0.apart ho (fun i => onT1_no (by decide) (by decide) (by decide))
    lots1 := h.lots1.apart ho (fun i => onT1_no (by decide) (by decide) (by decide))
    lots2 := (h.lots2.apart ho (fun i => onT1_no (by decide) (by decide) (by decide))).takeT h.len2 (hl.apart ho hv (onT1_no (by decide) (by decide) (by decide))) (hv.on ho hl.lt)
    lots3 := (h.lots3.apart' ho (fun i hi => onT1_not (by decide) (by decide) (fun _ => by rw [h.len3] at hi; omega))).takeT h.len3 hx hxl
    lots4 := h.lots4.apart ho (fun i => onT1_no (by decide) (by decide) (by decide))
    n0 := by have := h.n0; omega
    n1 := by omega
    few := by have := h.few; rw [List.length_append, List.length_singleton]; omega
    cnt := by have := h.few; rw [List.length_append, List.length_singleton]; omega
    big := ⟨h.big.1, fun b hb => by
      rcases List.mem_append.1 hb with hb | hb
      · exact h.big.2.1 b hb
      · rw [List.mem_singleton.1 hb]; exact hlen, h.big.2.2⟩ }

attribute [-go_sem] storeVar loadVar
attribute [local go_sem] storeVar_intR storeVar_sliceR loadVar_intR loadVar_rowR loadVar_rowsR loadVar_textsR loadVar_textssR

set_option maxHeartbeats 4000000 in
set_option maxRecDepth 100000 in
theorem bookTexts_any {w : World} {f : Nat → Lab} {bk : Nat} {b0 b1 t0 t1 s0 : Value} {n : Int} {vs ws us xs ss : List Value} {bs : List Sp.Bs} {ts : List (List Sp.Bs)} {ls : List Nat} {A : Option Addr} {c : Nat} {l : List Sp.Bs}
    (h : BookAt w f bk b0 b1 t0 t1 s0 n vs ws us xs ss bs ts ls) (hl : LotT w (.slice A l.length c) l) (hv : LabV f (.slice A l.length c) (3, ts.length)) (hlen : l.length ≤ 1000000000) (hn : n ≤ 200000) :
    Calls Tryz.prog 22 #[.pointer (some ⟨bk, 0, none⟩), .slice A l.length c] w fun e w' => e = .returned (.tuple #[]) ∧ ∃ f1 t0' t1' n' v x, OnlyL f f1 (OnT1 ts.length) w w' ∧ BookAt w' f1 bk b0 b1 t0' t1' s0 n' vs ws (us ++ [v]) (xs ++ [x]) ss bs (ts ++ [l]) ls := by
  have z26 : w.cell? ⟨bk, 26, none⟩ = some (.int .i64 n) := h.blk.cell 26
  have zf26 := h.blk.frozen 26
  have hfull := full_any z26
  rw [decide_eq_false (by omega)] at hfull
  have hn0 := h.n0
  obtain ⟨B0, cb0, hB0⟩ := h.row2.form
  obtain ⟨B1, cb1, hB1⟩ := h.row3.form
  subst hB0
  subst hB1
  have hvs : us.length ≤ 200001 := by have := h.cnt; rw [h.len2]; omega
  have hws : xs.length ≤ 200001 := by have := h.cnt; rw [h.len3]; omega
  obtain ⟨v, hvv⟩ : ∃ v : Value, v = .slice A l.length c := ⟨_, rfl⟩
  rw [← hvv] at hl hv
  obtain ⟨W1, hW1⟩ : ∃ W1, W1 = w.setCell ⟨bk, 26, none⟩ (.int .i64 (n + (l.length : Int) + 1)) := ⟨_, rfl⟩
  have hp : OnlyL f f (OnT1 ts.length) w W1 := by rw [hW1]; exact OnlyL.of_put f w _ _ (.inl h.self)
  have hblk1 : Blk W1 bk 32 (bookArr b0 b1 (.slice B0 us.length cb0) (.slice B1 xs.length cb1) s0 (n + l.length + 1)) := by
    rw [hW1]
    have := h.blk.put 26 (.int .i64 (n + (l.length : Int) + 1))
    exact this
  have hq : OnlyL f f (· = (1, 0)) w W1 := by rw [hW1]; exact OnlyL.of_put f w _ _ h.self
  have hrow0 := h.row2.apart hq (lab_ne (by decide))
  have hrow1 := h.row3.apart hq (lab_ne (by decide))
  have hl1 := hl.apart hq hv (lab_ne (by decide))
  have hw1 : Wrote f (relab f W1 (13, 0)) (13, 0) 1 (rowF (us ++ [v])) W1 (W1.alloc (.cells #[v] 33)) := Wrote.of_below ((Below.refl _ _).alloc (Nat.le_refl _) _) f (13, 0) 1 _
  have hr1 := (hrow0.more v).conf (rowF_length _) hw1
  have hr2 : LabV (relab f W1 (13, 0)) (.slice B0 us.length cb0) (13, 0) := hrow0.lab.on hw1.only hrow0.lot.lt
  have y0 : W1.cell? ⟨bk, 8, none⟩ = some (.slice B0 us.length cb0) := hblk1.cell 8
  have hself := h.self
  have H := Lib.hid h
  have HL := Lib.hid hl
  have HV := Lib.hid hv
  have HVV := Lib.hid hvv
  have HFULL := Lib.hid hfull
  have HP := Lib.hid hp
  have HB1 := Lib.hid hblk1
  have HROW1 := Lib.hid hrow1
  have HL1 := Lib.hid hl1
  have HW1 := Lib.hid hw1
  have HR1 := Lib.hid hr1
  have HR2 := Lib.hid hr2
  have HWW := Lib.hid hW1
  have HSELF := Lib.hid hself
  clear h hl hv hfull hp hblk1 hq hrow0 hrow1 hl1 hw1 hr1 hr2 hW1 hself
  subst hvv
  obtain ⟨i0, hi0, hz0, hz1, hz2⟩ := info_parts info_strB
  obtain ⟨j0, hj0, hy0, hy1, hy2⟩ := info_parts info_textsB
  go_enter Tryz.func22, Tryz.ntmps22
  go_upto_region 2 with (go_at_call 49; refine HFULL.out.mono ?_; rintro e w2 ⟨rfl, rfl⟩)
  rw [← HWW.out]
  clear z26 zf26
  go_upto_region 3 with (at_builtin; refine wpList_append_lot rfl (.tmp 21) (.tmp 23) 26 26 rfl (relab f W1 (13, 0)) (13, 0) (rowF (us ++ [.slice A l.length c])) 33 j0 _ 1 24 Tryz.underlying26 hj0 hy0 hy1 hy2 rfl (rowF_length _) (.slice B0 us.length cb0) us.length rfl HR1.out HR2.out _ 1 _ rfl (src_oneR W1 Tryz.underlying26 (.slice A l.length c) rfl _) (news_oneR (rowF_last us _)) (by decide) ?_ ?_ ?_; (unfold maxLen; omega); omega; intro g3 c3 w3 hl5 hb5 hw5; have ho5 := HW1.out.only.trans hw5.only; have hrl := RowL.of_append hl5 hb5; have hblk5 := HB1.out.same (ho5.block bk HB1.out.lt (fun e => lab_ne (by decide) (HSELF.out.symm.trans e))); have x0 : w3.cell? ⟨bk, 8, none⟩ = some (.slice B0 us.length cb0) := hblk5.cell 8; have x0f := hblk5.frozen 8; have HO5 := Lib.hid ho5; have HRL := Lib.hid hrl; have HB5 := Lib.hid hblk5; clear hl5 hb5 hw5 ho5 hrl hblk5)
  obtain ⟨f2, hf2⟩ : ∃ f2, f2 = relab (relab f W1 (13, 0)) (W1.alloc (.cells #[.slice A l.length c] 33)) (13, 0) := ⟨_, rfl⟩
  rw [← hf2] at HO5 HRL
  obtain ⟨W2, hW2⟩ : ∃ W2, W2 = w3.setCell ⟨bk, 8, none⟩ (.slice (some ⟨g3, 0, none⟩) (us.length + 1) c3) := ⟨_, rfl⟩
  have hself2 : f2 bk = (1, 0) := by rw [HO5.out.lab bk HB1.out.lt]; exact HSELF.out
  have hput : OnlyL f2 f2 (· = (1, 0)) w3 W2 := by rw [hW2]; exact OnlyL.of_put f2 w3 _ _ hself2
  have hblk2 : Blk W2 bk 32 (bookArr b0 b1 (.slice (some ⟨g3, 0, none⟩) (us.length + 1) c3) (.slice B1 xs.length cb1) s0 (n + l.length + 1)) := by
    rw [hW2]
    have := HB5.out.put 8 (.slice (some ⟨g3, 0, none⟩) (us.length + 1) c3)
    exact this
  have hrow0 := HRL.out.apart hput (lab_ne (by decide))
  have hrow1 := (HROW1.out.apart HO5.out (lab_ne2 (by decide))).apart hput (lab_ne (by decide))
  have hl2 := (HL1.out.apart HO5.out HV.out (lab_ne (by decide)))
  have hlv2 := HV.out.on HP.out HL.out.lt
  have hl3 := hl2.apart hput (hlv2.on HO5.out HL1.out.lt) (lab_ne (by decide))
  have hoAll : OnlyL f f2 (OnT1 ts.length) w W2 := (HP.out.trans (HO5.out.mono fun l hl => by subst hl; exact .inr (.inl rfl))).trans (hput.mono fun l hl => by subst hl; exact .inl rfl)
  have hwe : Wrote f2 (relab f2 W2 (23, ts.length)) (23, ts.length) 1 (textF l) W2 (W2.alloc (.cells #[] 9)) := Wrote.of_below ((Below.refl _ _).alloc (Nat.le_refl _) _) f2 _ 1 _
  have hle : Lot (W2.alloc (.cells #[] 9)) 1 (.slice (some ⟨W2.heap.size, 0, none⟩) 0 0) 0 0 (textF l) := Lot.empty (by simp)
  have hlel : LabV (relab f2 W2 (23, ts.length)) (.slice (some ⟨W2.heap.size, 0, none⟩) 0 0) (23, ts.length) := LabV.of_eq (relab_new (Nat.le_refl _))
  have hsrc : Src Tryz.prog 1 33 (.slice A l.length c) l.length ((List.range l.length).flatMap (textF l)) (W2.alloc (.cells #[] 9)).drew := (hl3.later ((Below.refl _ _).alloc (Nat.le_refl _) _)).drew.src Tryz.underlying33 (textF_length l) (textF_one l)
  have hnews : ∀ k, k < l.length → ∀ c, c < 1 → ((List.range l.length).flatMap (textF l))[k * 1 + c]? = (textF l (0 + k))[c]? := fun k hk c hc => by rw [Nat.zero_add]; exact src_news (textF_length l) hk hc
  have z1 : W2.cell? ⟨bk, 9, none⟩ = some (.slice B1 xs.length cb1) := hblk2.cell 9
  have hlt2 := hblk2.lt
  have HROW0 := Lib.hid hrow0
  have HROW1' := Lib.hid hrow1
  have HALL := Lib.hid hoAll
  have HWE := Lib.hid hwe
  have HLE := Lib.hid hle.drew
  have HLEL := Lib.hid hlel
  have HSRC := Lib.hid hsrc
  have HNEWS := Lib.hid hnews
  have HBLK2 := Lib.hid hblk2
  have HSELF2 := Lib.hid hself2
  rw [← hW2]
  clear hf2 hW2 hself2 hput hblk2 hrow0 hrow1 hl2 hlv2 hl3 hoAll hwe hle hlel hsrc hnews x0 x0f y0
  go_wp2_with fail
  go_region_law (first
      | (refine step_append_lotv rfl (.tmp 32) (.tmp 33) 33 33 rfl (relab f2 W2 (23, ts.length)) (23, ts.length) (textF l) 9 i0 _ 1 16 Tryz.underlying33 hi0 hz0 hz1 hz2 rfl (textF_length l) (.slice (some ⟨W2.heap.size, 0, none⟩) 0 0) 0 rfl HLE.out HLEL.out (.slice A l.length c) l.length _ rfl HSRC.out HNEWS.out ?_ ?_ ?_; (unfold maxLen; omega); omega; intro v4 w4 hl4 hb4 hw4; rw [Nat.zero_add] at hl4; obtain ⟨A4, c4, rfl⟩ := hl4.form; have hw4' := HWE.out.trans hw4.undrew; have hr4 := HROW1'.out.apart hw4'.only (lab_ne (by decide)); have hblk4 := HBLK2.out.same (hw4'.only.block bk HBLK2.out.lt (fun e => lab_ne (by decide) (HSELF2.out.symm.trans e))); have hself4 := (hw4'.only.lab bk HBLK2.out.lt).trans HSELF2.out; have z1 : w4.cell? ⟨bk, 9, none⟩ = some (.slice B1 xs.length cb1) := hblk4.cell 9; have z1a := cell_alloc z1 (.cells #[.slice A4 l.length c4] 33); have hw5 : Wrote _ (relab (relab (relab f2 W2 (23, ts.length)) (W2.alloc (.cells #[] 9)).drew (23, ts.length)) w4 (13, 1)) (13, 1) 1 (rowF (xs ++ [.slice A4 l.length c4])) w4 (w4.alloc (.cells #[.slice A4 l.length c4] 33)) := Wrote.of_below ((Below.refl _ _).alloc (Nat.le_refl _) _) _ (13, 1) 1 _; have hr5 := (hr4.more (.slice A4 l.length c4)).conf (rowF_length _) hw5; have hr6 := hr4.lab.on hw5.only hr4.lot.lt; have HW5 := Lib.hid hw5; have HR5 := Lib.hid hr5; have HR6 := Lib.hid hr6; have HW4 := Lib.hid hw4'; have HL4 := Lib.hid hl4; have HB4 := Lib.hid hb4; have HBLK4 := Lib.hid hblk4; have HSELF4 := Lib.hid hself4; clear hl4 hb4 hw4 hw4' hr4 hblk4 hself4 hw5 hr5 hr6)
      | (refine step_append_lot rfl (.tmp 31) (.tmp 35) 26 26 rfl _ (13, 1) (rowF (xs ++ [.slice A4 l.length c4])) 33 j0 _ 1 24 Tryz.underlying26 hj0 hy0 hy1 hy2 rfl (rowF_length _) (.slice B1 xs.length cb1) xs.length rfl HR5.out HR6.out _ 1 _ rfl (src_oneR w4 Tryz.underlying26 (.slice A4 l.length c4) rfl _) (news_oneR (rowF_last xs _)) (by decide) ?_ ?_ ?_; (unfold maxLen; omega); omega; intro g7 c7 w7 hl7 hb7 hw7; have ho7 := HW5.out.only.trans hw7.only; have hrl := RowL.of_append hl7 hb7; have hblk7 := HBLK4.out.same (ho7.block bk HBLK4.out.lt (fun e => lab_ne (by decide) (HSELF4.out.symm.trans e))); have z1 : w7.cell? ⟨bk, 9, none⟩ = some (.slice B1 xs.length cb1) := hblk7.cell 9; have z1f := hblk7.frozen 9; have HO7 := Lib.hid ho7; have HRL7 := Lib.hid hrl; have HBLK7 := Lib.hid hblk7; clear hl7 hb7 hw7 ho7 hrl hblk7))
  all_goals
    refine ⟨rfl, .tuple #[], by simp [results, Tryz.results22, go_sem], rfl, ?_⟩
    have hself7 := (HO7.out.lab bk HBLK4.out.lt).trans HSELF4.out
    have hp8 := OnlyL.of_put (P := (· = ((1, 0) : Lab))) _ w7 ⟨bk, 9, none⟩ (.slice (some ⟨g7, 0, none⟩) (xs.length + 1) c7) hself7
    have hblk8 := HBLK7.out.put 9 (.slice (some ⟨g7, 0, none⟩) (xs.length + 1) c7)
    have ho8 := ((HALL.out.trans (HW4.out.only.mono (Q := OnT1 ts.length) fun l hl => by subst hl; exact .inr (.inr (.inr rfl)))).trans (HO7.out.mono (Q := OnT1 ts.length) fun l hl => by subst hl; exact .inr (.inr (.inl rfl)))).trans (hp8.mono (Q := OnT1 ts.length) fun l hl => by subst hl; exact .inl rfl)
    have hx7 := HL4.out.apart HO7.out HB4.out (lab_ne (by decide))
    have hxl7 := HB4.out.on HO7.out HL4.out.lt
    have hx8 := hx7.apart hp8 hxl7 (lab_ne (by decide))
    have hxl8 := hxl7.on hp8 hx7.lt
    have hr0 := ((HROW0.out.apart HW4.out.only (lab_ne (by decide))).apart HO7.out (lab_ne2 (by decide))).apart hp8 (lab_ne (by decide))
    have hr1 := HRL7.out.apart hp8 (lab_ne (by decide))
    exact ⟨_, _, _, _, _, _, ho8, H.out.onTexts HL.out HV.out hlen hn ho8 hblk8 hr0 hr1 hx8 hxl8⟩

set_option maxHeartbeats 1000000 in
theorem bookTexts_full {w : World} {bk : Nat} {n : Int} {v : Value} (y : w.cell? ⟨bk, 26, none⟩ = some (.int .i64 n)) (hn : 200000 < n) :
    Calls Tryz.prog 22 #[.pointer (some ⟨bk, 0, none⟩), v] w fun e w' => e = .returned (.tuple #[]) ∧ w = w' := by
  have hfull := full_any y
  rw [decide_eq_true hn] at hfull
  have HF := Lib.hid hfull
  clear hfull
  go_enter Tryz.func22, Tryz.ntmps22
  go_wp2_with (go_at_call 49; refine HF.out.mono ?_; rintro e w2 ⟨rfl, rfl⟩)
  exact ⟨rfl, .tuple #[], by simp [results, Tryz.results22, go_sem], rfl, rfl⟩
set_option maxHeartbeats 1000000 in
theorem bookBytes_more {w : World} {bk : Nat} {n : Int} {v : Value} (y : w.cell? ⟨bk, 26, none⟩ = some (.int .i64 n)) (hn : 200000 < n) :
    Calls Tryz.prog 14 #[.pointer (some ⟨bk, 0, none⟩), v] w fun e w' => e = .returned (.tuple #[]) ∧ w = w' := by
  have hfull := full_any y
  rw [decide_eq_true hn] at hfull
  have HF := Lib.hid hfull
  clear hfull
  go_enter Tryz.func14, Tryz.ntmps14
  go_wp2_with (go_at_call 49; refine HF.out.mono ?_; rintro e w2 ⟨rfl, rfl⟩)
  exact ⟨rfl, .tuple #[], by simp [results, Tryz.results14, go_sem], rfl, rfl⟩
end Go.Proofs.YthgfjafnclklpaaGreatDoor
end
