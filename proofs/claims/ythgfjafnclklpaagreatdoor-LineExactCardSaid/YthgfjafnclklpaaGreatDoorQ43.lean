/- The Book's lists of steps: written full, grown, looked at. Printed by gen/genBv.py out of Bq. The Book alone, beside what was there; pending lists have nobody's label; a list of steps taken in; Close. Printed by gen/genDa.py out of Ca, Cb, Cc. -/
import Derived.Test.YthgfjafnclklpaaGreatDoorQ42
import Derived.Test.YthgfjafnclklpaaGreatDoorG1
import Derived.Test.YthgfjafnclklpaaGreatDoorQ41
import Derived.Test.YthgfjafnclklpaaGreatDoorQ35
section
namespace Go.Proofs.YthgfjafnclklpaaGreatDoor
attribute [local go_sem ↓] Go.wp_at_zero Go.wp_at_succ
open Go.RowKit

/-- a step that is a mark -/
def sMark (v : Int) : List Value := [.int .i64 0, .slice none 0 0, .int .u64 0, .int .i64 0, .int .u64 0, .int .u64 0, .slice none 0 0, .bool false, .bool false, .slice none 0 0, .string ⟨#[]⟩, .int .i64 0, .string ⟨#[]⟩, .int .i64 0, .int .i64 (v), .int .i64 0]
theorem sMark_one (v : Int) : ∀ u ∈ sMark v, u.oneCell' = true := fun u hu => List.all_eq_true.1 (show (sMark v).all (·.oneCell') = true from rfl) u hu
def markS (n i k : Nat) : List Value := if k < n then sMark (-1000 - (i : Int)) else sMark (-5000000 - (i : Int))
theorem markS_length (n i k : Nat) : (markS n i k).length = 16 := by unfold markS; split <;> rfl
theorem markS_low {n i k : Nat} (h : k < n) : markS n i k = [.int .i64 0, .slice none 0 0, .int .u64 0, .int .i64 0, .int .u64 0, .int .u64 0, .slice none 0 0, .bool false, .bool false, .slice none 0 0, .string ⟨#[]⟩, .int .i64 0, .string ⟨#[]⟩, .int .i64 0, .int .i64 (-1000 - (i : Int)), .int .i64 0] := if_pos h
theorem markS_high {n i k : Nat} (h : n ≤ k) : markS n i k = [.int .i64 0, .slice none 0 0, .int .u64 0, .int .i64 0, .int .u64 0, .int .u64 0, .slice none 0 0, .bool false, .bool false, .slice none 0 0, .string ⟨#[]⟩, .int .i64 0, .string ⟨#[]⟩, .int .i64 0, .int .i64 (-5000000 - (i : Int)), .int .i64 0] := if_neg (by omega)
def plusS (i : Nat) (_ : Nat) : List Value := sMark (-5000000 - (i : Int))
theorem plusS_length (i k : Nat) : (plusS i k).length = 16 := rfl
theorem info_stepB : (Tryz.prog.info? 99).map (fun i => (i.zero, i.size, i.bytes)) = some (some (.agg #[.int .i64 0, .slice none 0 0, .int .u64 0, .int .i64 0, .int .u64 0, .int .u64 0, .slice none 0 0, .bool false, .bool false, .slice none 0 0, .string ⟨#[]⟩, .int .i64 0, .string ⟨#[]⟩, .int .i64 0, .int .i64 (0), .int .i64 0]), 16, 184) := by kernel_rfl
theorem info_stepsB : (Tryz.prog.info? 69).map (fun i => (i.zero, i.size, i.bytes)) = some (some (.slice none 0 0), 1, 24) := by kernel_rfl
attribute [-go_sem] storeVar loadVar
theorem loadVar_intS (a : Addr) : type_of% (loadVar.eq_1 3 a) := loadVar.eq_1 3 a
theorem loadVar_rowS (a : Addr) : type_of% (loadVar.eq_1 69 a) := loadVar.eq_1 69 a
theorem loadVar_rowsS (a : Addr) : type_of% (loadVar.eq_1 30 a) := loadVar.eq_1 30 a
attribute [local go_sem] storeVar_intB storeVar_sliceB loadVar_intS loadVar_rowS loadVar_rowsS run_store_step

set_option maxHeartbeats 4000000 in
set_option maxRecDepth 100000 in
theorem lookSteps_any {w : World} {f : Nat → Lab} {bk : Nat} {b0 X : Value} {vs xs : List Value} {ns : Nat → Nat} {d : Nat} {l0 lx : Lab} (hN : vs.length ≤ 300000) (hns : ∀ i, ns i ≤ 70368744177664) (hd : d ≤ 1000) (hx : xs.length = vs.length)
    (y0 : w.cell? ⟨bk, 22, none⟩ = some b0) (h0 : RowL w f l0 b0 vs) (h1 : LotsAt w f 4 16 vs ns ns (fun i => markS (ns i) i)) (h2 : RowL w f lx X xs) (h3 : LotsAt w f 4 16 xs (fun i => ns i + d) (fun i => ns i + d) (fun i => markS (ns i) i)) :
    Calls Tryz.prog 102 #[.pointer (some ⟨bk, 0, none⟩), X] w fun e w' => e = .returned (.bool true) ∧ w = w' := by
  obtain ⟨AX, cx, hX⟩ := h2.form
  obtain ⟨A0, c0, hA0⟩ := h0.form
  subst hX
  subst hA0
  have H0 := Lib.hid h0
  have H1 := Lib.hid h1
  have H2 := Lib.hid h2
  have H3 := Lib.hid h3
  have HNS := Lib.hid hns
  rw [hx] at H2 ⊢
  have HX := Lib.hid hx
  clear h0 h1 h2 h3 hns hx
  go_enter Tryz.func102, Tryz.ntmps102
  go_wp2_with fail
  go_loop [5, 6, 7] (fun iv _ _ => ∃ i : Nat, i ≤ vs.length ∧ iv = .int .i64 i) (fun iv _ _ => vs.length - (intOf iv).toNat)
  case atStart => exact ⟨0, Nat.zero_le _, rfl⟩
  case round =>
    obtain ⟨i, hi, rfl⟩ := hrel
    by_cases hlt : i < vs.length
    · obtain ⟨u, hu⟩ : ∃ u, vs[i]? = some u := ⟨vs[i], List.getElem?_eq_getElem hlt⟩
      obtain ⟨v, hv⟩ : ∃ v, xs[i]? = some v := ⟨xs[i]'(by rw [HX.out]; exact hlt), List.getElem?_eq_getElem _⟩
      obtain ⟨gr, cr, hb0, hcell, _⟩ := H0.out.at hu
      obtain ⟨gx, cx', hbx, hcellx, _⟩ := H2.out.at hv
      injection hb0 with e1 _ e3
      subst e1 e3
      injection hbx with e1 e2 e3
      subst e1 e3
      clear e2
      have hl1 := (H1.out i u hu).1
      have hl3 := (H3.out i v hv).1
      obtain ⟨U, cu, rfl⟩ := hl1.form
      obtain ⟨V, cv, rfl⟩ := hl3.form
      have hi1 : (i : Int) < (vs.length : Int) := by omega
      have hni := HNS.out i
      have hw1k : IntKind.i64.wrap (-1000 - (i : Int)) = -1000 - (i : Int) := by rw [IntKind.wrap_i64]; omega
      have hw5k : IntKind.i64.wrap (-5000000 - (i : Int)) = -5000000 - (i : Int) := by rw [IntKind.wrap_i64]; omega
      obtain ⟨n, hn⟩ : ∃ n, n = ns i := ⟨_, rfl⟩
      dsimp only at hl1 hl3 hcell hcellx
      rw [← hn] at hni hl1 hl3 hcell hcellx
      have HL1 := Lib.hid hl1
      have HL3 := Lib.hid hl3
      clear hu hv hlt hl1 hl3 hn
      go_wp2_with fail
      go_loop [7] (fun kv => ∃ k : Nat, k ≤ n + d ∧ kv = .int .i64 k) (fun kv => n + d - (intOf kv).toNat)
      case atStart => exact ⟨0, Nat.zero_le _, rfl⟩
      case round =>
        obtain ⟨k, hk, rfl⟩ := hrel
        by_cases hlk : k < n + d
        · have hk1 : (k : Int) < (n : Int) + (d : Int) := by omega
          by_cases hkn : k < n
          · obtain ⟨g1, c1, e1, z1⟩ := HL1.out.at (k := k) (c := 14) (u := .int .i64 (-1000 - (i : Int))) hkn (by rw [markS_low hkn]; rfl)
            obtain ⟨g3, c3, e3, z3⟩ := HL3.out.at (k := k) (c := 14) (u := .int .i64 (-1000 - (i : Int))) hlk (by rw [markS_low hkn]; rfl)
            injection e1 with e1 _ _
            injection e3 with e3 _ _
            subst e1 e3
            have hk2 : (k : Int) < (n : Int) := by omega
            have hk3 : decide ((n : Int) ≤ (k : Int)) = false := decide_eq_false (by omega)
            clear hlk hkn
            go_wp2_with fail
            exact ⟨⟨k + 1, by omega, by go_num⟩, by show n + d - ((k : Int) + 1).toNat < n + d - (k : Int).toNat; omega⟩
          · obtain ⟨g3, c3, e3, z3⟩ := HL3.out.at (k := k) (c := 14) (u := .int .i64 (-5000000 - (i : Int))) hlk (by rw [markS_high (Nat.le_of_not_lt hkn)]; rfl)
            injection e3 with e3 _ _
            subst e3
            have hk2 : decide ((k : Int) < (n : Int)) = false := decide_eq_false (by omega)
            have hk3 : (n : Int) ≤ (k : Int) := by omega
            clear hlk hkn
            go_wp2_with fail
            exact ⟨⟨k + 1, by omega, by go_num⟩, by show n + d - ((k : Int) + 1).toNat < n + d - (k : Int).toNat; omega⟩
        · have hk1 : decide (k < n + d) = false := decide_eq_false (by omega)
          have hk2 : decide ((k : Int) < (n : Int) + (d : Int)) = false := decide_eq_false (by omega)
          clear hlk
          go_wp2_with fail
          exact ⟨⟨i + 1, by omega, by go_num⟩, by show vs.length - ((i : Int) + 1).toNat < vs.length - (i : Int).toNat; omega⟩
    · have hi1 : decide (i < vs.length) = false := decide_eq_false (by omega)
      clear hlt
      go_wp2_with fail
      go_ret
      exact ⟨rfl, rfl⟩

theorem Shut.lookS {w wr : World} {f f1 : Nat → Lab} {bk : Nat} {arr arr' : Array Value} {F : Nat → Nat → List Value} {b0 b1 b2 : Value} {vs os ms : List Value} {ns : Nat → Nat} (h : Shut w f 32 bk arr 4 16 22 23 24 F b0 vs ns arr' b1 os b2 ms f1 wr) (hF : F = fun i => markS (ns i) i) (hN : vs.length ≤ 300000) (hns : ∀ i, ns i ≤ 70368744177664) :
    (os.length = vs.length → Calls Tryz.prog 102 #[.pointer (some ⟨bk, 0, none⟩), b1] wr fun e w' => e = .returned (.bool true) ∧ wr = w') ∧
    (ms.length = vs.length → Calls Tryz.prog 102 #[.pointer (some ⟨bk, 0, none⟩), b2] wr fun e w' => e = .returned (.bool true) ∧ wr = w') := by
  subst hF
  exact ⟨fun ho => lookSteps_any hN hns (by decide) ho ((h.blk.cell 22).trans h.a0) h.row h.lots h.one h.ones, fun ho => lookSteps_any hN hns (by decide) ho ((h.blk.cell 22).trans h.a0) h.row h.lots h.many h.manys⟩

set_option maxHeartbeats 4000000 in
set_option maxRecDepth 100000 in
theorem closeSteps_any {w : World} {f : Nat → Lab} {bk : Nat} {arr : Array Value} {b0 : Value} {vs : List Value} {ns : Nat → Nat} (hbk : f bk = (1, 0)) (hN : vs.length ≤ 300000) (hns : ∀ i, ns i ≤ 100000000)
    (hsz : arr.size = 27) (h0 : arr[22]? = some b0) (h2 : arr[23]? = some (.slice none 0 0)) (h3 : arr[24]? = some (.slice none 0 0)) (h : Fill w f 32 bk arr 4 16 (fun i => markS (ns i) i) b0 vs ns 0 0 w) :
    Calls Tryz.prog 57 #[.pointer (some ⟨bk, 0, none⟩)] w fun e w' => e = .returned (.bool true) ∧ ∃ f' arr' os ms b2 b3, Shut w f 32 bk arr 4 16 22 23 24 (fun i => markS (ns i) i) b0 vs ns arr' b2 os b3 ms f' w' := by
  obtain ⟨A0, c0, hA0⟩ : ∃ A c, b0 = .slice A vs.length c := h.row.form
  subst hA0
  obtain ⟨FB, hFB⟩ : ∃ FB : Nat → Nat → List Value, FB = fun i => markS (ns i) i := ⟨_, rfl⟩
  rw [← hFB] at h
  have hFl : ∀ i k, (FB i k).length = 16 := fun i k => by rw [hFB]; exact markS_length _ _ _
  have HFB := Lib.hid hFB
  have HFL := Lib.hid hFl
  clear hFB hFl
  have H := Lib.hid h
  have HNS := Lib.hid hns
  have HBK := Lib.hid hbk
  have HSZ := Lib.hid (show 23 < arr.size by omega)
  have HSZ3 := Lib.hid (show 24 < arr.size by omega)
  have Z0 := Lib.hid h0
  have Z2 := Lib.hid h2
  have Z3 := Lib.hid h3
  clear h hns hbk h0 h2 h3 hsz
  go_enter Tryz.func57, Tryz.ntmps57
  go_upto_block 0 with fail
  go_cut [] (fun wx => Fill w f 32 bk arr 4 16 FB (.slice A0 vs.length c0) vs ns vs.length 0 wx)
  case first =>
    go_wp2_with fail
    go_loopw [3, 4] (fun iv _ wr => ∃ i : Nat, i ≤ vs.length ∧ iv = .int .i64 i ∧ Fill w f 32 bk arr 4 16 FB (.slice A0 vs.length c0) vs ns i 0 wr) (fun iv _ _ => vs.length - (intOf iv).toNat)
    case atStart => exact ⟨0, Nat.zero_le _, rfl, H.out⟩
    case round =>
      obtain ⟨i, hi, rfl, hm⟩ := hrel
      have y0 := (hm.blk.cell 22).trans Z0.out
      by_cases hlt : i < vs.length
      · obtain ⟨u, hu⟩ : ∃ u, vs[i]? = some u := ⟨vs[i], List.getElem?_eq_getElem hlt⟩
        obtain ⟨gr, cr, hb0, hcell, hgr⟩ := hm.row.at hu
        injection hb0 with e1 _ e3
        subst e1 e3
        obtain ⟨U, cu, rfl⟩ := (hm.lots i u hu).1.form
        have hi1 : (i : Int) < (vs.length : Int) := by omega
        have hni := HNS.out i
        have hw1k : IntKind.i64.wrap (-1000 - (i : Int)) = -1000 - (i : Int) := by rw [IntKind.wrap_i64]; omega
        have hw5k : IntKind.i64.wrap (-5000000 - (i : Int)) = -5000000 - (i : Int) := by rw [IntKind.wrap_i64]; omega
        have HM := Lib.hid hm
        have HU := Lib.hid hu
        clear hm hu hlt
        go_wp2_with fail
        go_loopw [4] (fun kv wx => ∃ k : Nat, k ≤ ns i ∧ kv = .int .i64 k ∧ Fill w f 32 bk arr 4 16 FB (.slice (some ⟨gr, 0, none⟩) vs.length c0) vs ns i k wx) (fun kv _ => ns i - (intOf kv).toNat)
        case atStart => exact ⟨0, Nat.zero_le _, rfl, HM.out⟩
        case round =>
          obtain ⟨k, hk, rfl, hm⟩ := hrel
          have z0 := (hm.blk.cell 22).trans Z0.out
          obtain ⟨gr', cr', hb0', hcell', hgr'⟩ := hm.row.at HU.out
          injection hb0' with e1 _ e3
          injection e1 with e1; injection e1 with e1
          subst e1 e3
          by_cases hlk : k < ns i
          · have hmk := (hm.lots i _ HU.out).1
            obtain ⟨g, rfl, hca⟩ : ∃ g, U = some ⟨g, 0, none⟩ ∧ canPut wr g (k * 16) 16 = true := by
              rcases hmk with ⟨_, h0, _⟩ | ⟨g, cap, he, _, ha⟩
              · omega
              · injection he with he1 _ he3
                have := ha.room
                exact ⟨g, he1, canPut_of fun j hj => ha.there (k * 16 + j) (by omega)⟩
            have hk1 : (k : Int) < (ns i : Int) := by omega
            have hput := hm.put HFL.out HBK.out (by decide) HU.out hlk (news := [.int .i64 0, .slice none 0 0, .int .u64 0, .int .i64 0, .int .u64 0, .int .u64 0, .slice none 0 0, .bool false, .bool false, .slice none 0 0, .string ⟨#[]⟩, .int .i64 0, .string ⟨#[]⟩, .int .i64 0, .int .i64 (-1000 - (i : Int)), .int .i64 0]) (by rw [HFB.out]; exact (markS_low hlk).symm)
            have HP := Lib.hid hput
            clear hm hput hmk hlk
            go_wp2_with fail
            exact ⟨⟨k + 1, by omega, by go_num, HP.out⟩, by show ns i - ((k : Int) + 1).toNat < ns i - (k : Int).toNat; omega⟩
          · have hk1 : decide ((k : Int) < (ns i : Int)) = false := decide_eq_false (by omega)
            obtain rfl : k = ns i := by omega
            have HN := Lib.hid hm.next
            clear hm hlk
            go_wp2_with fail
            exact ⟨⟨i + 1, by omega, by go_num, HN.out⟩, by show vs.length - ((i : Int) + 1).toNat < vs.length - (i : Int).toNat; omega⟩
      · have hi1 : decide ((i : Int) < (vs.length : Int)) = false := decide_eq_false (by omega)
        obtain rfl : i = vs.length := by omega
        have HM := Lib.hid hm
        clear hm hlt
        go_wp2_with fail
        go_meet
        exact HM.out
  case rest =>
    have hm := hcut.shut (j0 := 22) (j1 := 23) (j2 := 24) HBK.out Z0.out Z2.out Z3.out
    have HM := Lib.hid hm
    clear hm hcut
    go_upto_block 4 with fail
    go_cut [] (fun wx => ∃ f1 arr1 b1 os, os.length = vs.length ∧ Shut w f 32 bk arr 4 16 22 23 24 FB (.slice A0 vs.length c0) vs ns arr1 b1 os (.slice none 0 0) [] f1 wx)
    case first =>
      go_wp2_with fail
      go_loopw [5, 6, 7] (fun iv _ _ wr => ∃ (i : Nat) (f1 : Nat → Lab) (arr1 : Array Value) (b1 : Value) (os : List Value), i ≤ vs.length ∧ iv = .int .i64 i ∧ os.length = i ∧ Shut w f 32 bk arr 4 16 22 23 24 FB (.slice A0 vs.length c0) vs ns arr1 b1 os (.slice none 0 0) [] f1 wr) (fun iv _ _ _ => vs.length - (intOf iv).toNat)
      case atStart => exact ⟨0, f, arr, _, [], Nat.zero_le _, rfl, rfl, HM.out⟩
      case round =>
        obtain ⟨i, f1, arr1, b1, os, hi, rfl, hos, hm⟩ := hrel
        have y0 := (hm.blk.cell 22).trans hm.a0
        by_cases hlt : i < vs.length
        · obtain ⟨u, hu⟩ : ∃ u, vs[i]? = some u := ⟨vs[i], List.getElem?_eq_getElem hlt⟩
          obtain ⟨gr, cr, hb0, hcell, hgr⟩ := hm.row.at hu
          injection hb0 with e1 _ e3
          subst e1 e3
          have hlot := hm.lots i u hu
          obtain ⟨U, cu, rfl⟩ := hlot.1.form
          have hi1 : (i : Int) < (vs.length : Int) := by omega
          have hni := HNS.out i
          have hw1k : IntKind.i64.wrap (-1000 - (i : Int)) = -1000 - (i : Int) := by rw [IntKind.wrap_i64]; omega
          have hw5k : IntKind.i64.wrap (-5000000 - (i : Int)) = -5000000 - (i : Int) := by rw [IntKind.wrap_i64]; omega
          have HM1 := Lib.hid hm
          have HLOT := Lib.hid hlot
          have HU := Lib.hid hu
          have HOS := Lib.hid hos
          clear hm hu hlt hlot hos
          go_wp2_with fail
          go_loopw [6, 7] (fun lv kv wx => ∃ (k : Nat) (U : Option Addr) (cu : Nat) (f2 : Nat → Lab), k ≤ 16 ∧ kv = .int .i64 k ∧ lv = .slice U (ns i + k) cu ∧ Shut w f 32 bk arr 4 16 22 23 24 FB (.slice (some ⟨gr, 0, none⟩) vs.length c0) vs ns arr1 b1 os (.slice none 0 0) [] f2 wx ∧ Lot wx 16 (.slice U (ns i + k) cu) (ns i + k) (ns i + k) (FB i) ∧ LabV f2 (.slice U (ns i + k) cu) (4, i)) (fun _ kv _ => 16 - (intOf kv).toNat)
          case atStart => exact ⟨0, U, cu, f1, by decide, rfl, rfl, HM1.out, HLOT.out.1, HLOT.out.2⟩
          case round =>
            obtain ⟨k, U2, cu2, f2, hk, rfl, rfl, hm, hl1, hl2⟩ := hrel
            by_cases hlk : k < 16
            · have hk1 : (k : Int) < 16 := by omega
              have hbel : Below wr.heap.size wr (wr.alloc (.cells #[.int .i64 0, .slice none 0 0, .int .u64 0, .int .i64 0, .int .u64 0, .int .u64 0, .slice none 0 0, .bool false, .bool false, .slice none 0 0, .string ⟨#[]⟩, .int .i64 0, .string ⟨#[]⟩, .int .i64 0, .int .i64 (-5000000 - (i : Int)), .int .i64 0] 99)) := (Below.refl _ _).alloc (Nat.le_refl _) _
              have hw1 : Wrote f2 (relab f2 wr (4, i)) (4, i) 16 (FB i) wr (wr.alloc (.cells #[.int .i64 0, .slice none 0 0, .int .u64 0, .int .i64 0, .int .u64 0, .int .u64 0, .slice none 0 0, .bool false, .bool false, .slice none 0 0, .string ⟨#[]⟩, .int .i64 0, .string ⟨#[]⟩, .int .i64 0, .int .i64 (-5000000 - (i : Int)), .int .i64 0] 99)) := Wrote.of_below hbel f2 (4, i) 16 (FB i)
              have hm2 := hm.lot HFL.out (by decide) hw1
              have hl3 := hl1.conf (HFL.out i) hw1
              have hl4 := hl2.on hw1.only hl1.lt
              have hnew : FB i (ns i + k) = [.int .i64 0, .slice none 0 0, .int .u64 0, .int .i64 0, .int .u64 0, .int .u64 0, .slice none 0 0, .bool false, .bool false, .slice none 0 0, .string ⟨#[]⟩, .int .i64 0, .string ⟨#[]⟩, .int .i64 0, .int .i64 (-5000000 - (i : Int)), .int .i64 0] := by rw [HFB.out]; exact markS_high (Nat.le_add_right _ _)
              have HM2 := Lib.hid hm2
              have HL3 := Lib.hid hl3
              have HL4 := Lib.hid hl4
              have HNEW := Lib.hid hnew
              clear hm hbel hw1 hm2 hl1 hl2 hl3 hl4 hlk hnew
              obtain ⟨i0, hi0, hz0, hz1, hz2⟩ := info_parts info_stepB
              go_wp2_with (at_builtin; refine wpList_append_lot rfl (.tmp 64) (.tmp 68) 69 69 rfl (relab f2 wr (4, i)) (4, i) (FB i) 99 i0 _ 16 184 Tryz.underlying69 hi0 hz0 hz1 hz2 rfl (HFL.out i) _ (ns i + k) rfl HL3.out HL4.out _ 1 _ rfl (src_agg wr Tryz.underlying69 [.int .i64 0, .slice none 0 0, .int .u64 0, .int .i64 0, .int .u64 0, .int .u64 0, .slice none 0 0, .bool false, .bool false, .slice none 0 0, .string ⟨#[]⟩, .int .i64 0, .string ⟨#[]⟩, .int .i64 0, .int .i64 (-5000000 - (i : Int)), .int .i64 0] (sMark_one _) _) (fun k' hk' c hc => by obtain rfl : k' = 0 := (by omega); rw [Nat.zero_mul, Nat.zero_add, Nat.add_zero, HNEW.out]) (by decide) ?_ ?_ ?_; (unfold maxLen; omega); omega; intro g3 c3 w3 hl5 hb5 hw5; have hm5 := HM2.out.lot HFL.out (by decide) hw5; have HM5 := Lib.hid hm5; have HL5 := Lib.hid hl5; have HB5 := Lib.hid hb5; clear hl5 hb5 hw5 hm5)
              exact ⟨⟨k + 1, some ⟨g3, 0, none⟩, c3, _, by omega, by go_num, rfl, HM5.out, HL5.out, fun g hg => (by injection hg with hg; subst hg; exact HB5.out)⟩, by show 16 - ((k : Int) + 1).toNat < 16 - (k : Int).toNat; omega⟩
            · have hk1 : decide ((k : Int) < 16) = false := decide_eq_false (by omega)
              obtain rfl : k = 16 := by omega
              obtain ⟨lv, hlv⟩ : ∃ lv : Value, lv = .slice U2 (ns i + 16) cu2 := ⟨_, rfl⟩
              have hl1' := hl1
              have hl2' := hl2
              rw [← hlv] at hl1' hl2'
              have hbel : Below wr.heap.size wr (wr.alloc (.cells #[lv] 69)) := (Below.refl _ _).alloc (Nat.le_refl _) _
              have hw1 : Wrote f2 (relab f2 wr (14, 2)) (14, 2) 1 (rowF (os ++ [lv])) wr (wr.alloc (.cells #[lv] 69)) := Wrote.of_below hbel f2 (14, 2) 1 _
              have hr0 : Lot wr 1 b1 os.length os.length (rowF (os ++ [lv])) := hm.one.more lv
              have hr1 := hr0.conf (rowF_length _) hw1
              have hr2 : LabV (relab f2 wr (14, 2)) b1 (14, 2) := hm.one.lab.on hw1.only hm.one.lot.lt
              have hnew : rowF (os ++ [lv]) (os.length) = [lv] := rowF_last os lv
              have z2 := (hm.blk.cell 23).trans hm.a1
              have z0 := (hm.blk.cell 22).trans hm.a0
              obtain ⟨B1, cb1, hb1⟩ := hm.one.form
              have hoi := HOS.out
              have HMM := Lib.hid hm
              have HW1 := Lib.hid hw1
              have HR1 := Lib.hid hr1
              have HR2 := Lib.hid hr2
              have HNEW := Lib.hid hnew
              have HL1 := Lib.hid hl1'
              have HL2 := Lib.hid hl2'
              subst hb1
              subst hlv
              clear hm hw1 hr0 hr1 hr2 hl1 hl2 hl1' hl2' hnew hlk hbel hoi
              obtain ⟨i0, hi0, hz0, hz1, hz2⟩ := info_parts info_stepsB
              have hos3 : os.length ≤ 300000 := by rw [HOS.out]; omega
              go_wp2_with (at_builtin; (refine wpList_append_lot rfl (.tmp 74) (.tmp 76) 30 30 rfl (relab f2 wr (14, 2)) (14, 2) (rowF (os ++ [.slice U2 (ns i + 16) cu2])) 69 i0 _ 1 24 Tryz.underlying30 hi0 hz0 hz1 hz2 rfl (rowF_length _) (.slice B1 os.length cb1) os.length rfl HR1.out HR2.out _ 1 _ rfl (src_one wr Tryz.underlying30 (.slice U2 (ns i + 16) cu2) rfl _) (news_one HNEW.out) (by decide) ?_ ?_ ?_))
              · (unfold maxLen; omega)
              · omega
              (intro g3 c3 w3 hl5 hb5 hw5; have ho5 := (HW1.out.only.trans hw5.only); have hrl := RowL.of_append hl5 hb5; have hblk5 := HMM.out.blk.same (ho5.block bk HMM.out.lt (fun e => absurd (HMM.out.self.symm.trans e) (by decide))); have x2 := (hblk5.cell 23).trans HMM.out.a1; have x3 := hblk5.frozen 23; have HO5 := Lib.hid ho5; have HRL := Lib.hid hrl; clear hl5 hb5 hw5 ho5 hrl hblk5)
              go_wp2_with fail
              have hon := HMM.out.onOne (by decide) (by decide) (by decide) HSZ.out HO5.out HRL.out (by rw [HOS.out]; exact HL1.out) (by rw [HOS.out]; exact HL2.out)
              exact ⟨⟨i + 1, _, _, _, _, by omega, by go_num, by rw [List.length_append, List.length_singleton, HOS.out], hon⟩, by show vs.length - ((i : Int) + 1).toNat < vs.length - (i : Int).toNat; omega⟩
        · have hi1 : decide ((i : Int) < (vs.length : Int)) = false := decide_eq_false (by omega)
          obtain rfl : i = vs.length := by omega
          have HM1 := Lib.hid hm
          have HOS := Lib.hid hos
          clear hm hlt hos
          go_wp2_with fail
          go_meet
          exact ⟨_, _, _, _, HOS.out, HM1.out⟩
    case rest =>
      obtain ⟨f1, arr1, b1, os, hos, hm⟩ := hcut
      have z0 := (hm.blk.cell 22).trans hm.a0
      have z2 := (hm.blk.cell 23).trans hm.a1
      have hlk := (hm.lookS HFB.out hN (fun i => Nat.le_trans (HNS.out i) (by decide))).1 hos
      have HLK := Lib.hid hlk
      have HOS := Lib.hid hos
      have HM1 := Lib.hid hm
      clear hlk hos hm
      go_upto_block 8 with (go_at_call 102; refine HLK.out.mono ?_; rintro e w2 ⟨rfl, rfl⟩)
      go_cut [] (fun wx => ∃ f2 arr2 b2 ms, ms.length = vs.length ∧ Shut w f 32 bk arr 4 16 22 23 24 FB (.slice A0 vs.length c0) vs ns arr2 b1 os b2 ms f2 wx)
      case first =>
        go_wp2_with fail
        go_loopw [8, 9, 10] (fun iv _ _ wr => ∃ (i : Nat) (f2 : Nat → Lab) (arr2 : Array Value) (b2 : Value) (ms : List Value), i ≤ vs.length ∧ iv = .int .i64 i ∧ ms.length = i ∧ Shut w f 32 bk arr 4 16 22 23 24 FB (.slice A0 vs.length c0) vs ns arr2 b1 os b2 ms f2 wr) (fun iv _ _ _ => vs.length - (intOf iv).toNat)
        case atStart => exact ⟨0, f1, arr1, _, [], Nat.zero_le _, rfl, rfl, HM1.out⟩
        case round =>
          obtain ⟨i, f2, arr2, b2, ms, hi, rfl, hms, hm⟩ := hrel
          have y0 := (hm.blk.cell 22).trans hm.a0
          by_cases hlt : i < vs.length
          · obtain ⟨u, hu⟩ : ∃ u, vs[i]? = some u := ⟨vs[i], List.getElem?_eq_getElem hlt⟩
            obtain ⟨gr, cr, hb0, hcell, hgr⟩ := hm.row.at hu
            injection hb0 with e1 e2 e3
            subst e1 e3
            clear e2
            have hi1 : (i : Int) < (vs.length : Int) := by omega
            have hni := HNS.out i
            have hw1k : IntKind.i64.wrap (-1000 - (i : Int)) = -1000 - (i : Int) := by rw [IntKind.wrap_i64]; omega
            have hw5k : IntKind.i64.wrap (-5000000 - (i : Int)) = -5000000 - (i : Int) := by rw [IntKind.wrap_i64]; omega
            have HM2 := Lib.hid hm
            have HU := Lib.hid hu
            have HMS := Lib.hid hms
            clear hm hu hlt hms
            go_wp2_with fail
            go_loopw [9, 10] (fun mv kv wx => ∃ (k : Nat) (M : Option Addr) (cm : Nat) (f3 : Nat → Lab), k ≤ 700 ∧ kv = .int .i64 k ∧ mv = .slice M k cm ∧ Shut w f 32 bk arr 4 16 22 23 24 FB (.slice (some ⟨gr, 0, none⟩) vs.length c0) vs ns arr2 b1 os b2 ms f3 wx ∧ Lot wx 16 (.slice M k cm) k k (plusS i) ∧ LabV f3 (.slice M k cm) (14, 7)) (fun _ kv _ => 700 - (intOf kv).toNat)
            case atStart => exact ⟨0, none, 0, f2, by decide, rfl, rfl, HM2.out, .inl ⟨rfl, rfl, rfl⟩, fun g hg => by cases hg⟩
            case round =>
              obtain ⟨k, M, cm, f3, hk, rfl, rfl, hm, hl1, hl2⟩ := hrel
              by_cases hlk : k < 700
              · have hk1 : (k : Int) < 700 := by omega
                have hbel : Below wr.heap.size wr (wr.alloc (.cells #[.int .i64 0, .slice none 0 0, .int .u64 0, .int .i64 0, .int .u64 0, .int .u64 0, .slice none 0 0, .bool false, .bool false, .slice none 0 0, .string ⟨#[]⟩, .int .i64 0, .string ⟨#[]⟩, .int .i64 0, .int .i64 (-5000000 - (i : Int)), .int .i64 0] 99)) := (Below.refl _ _).alloc (Nat.le_refl _) _
                have hw1 : Wrote f3 (relab f3 wr (14, 7)) (14, 7) 16 (plusS i) wr (wr.alloc (.cells #[.int .i64 0, .slice none 0 0, .int .u64 0, .int .i64 0, .int .u64 0, .int .u64 0, .slice none 0 0, .bool false, .bool false, .slice none 0 0, .string ⟨#[]⟩, .int .i64 0, .string ⟨#[]⟩, .int .i64 0, .int .i64 (-5000000 - (i : Int)), .int .i64 0] 99)) := Wrote.of_below hbel f3 (14, 7) 16 _
                have hm2 := hm.temp (by decide) (by decide) hw1.only
                have hl3 := hl1.conf (plusS_length i) hw1
                have hl4 := hl2.on hw1.only hl1.lt
                have HM2 := Lib.hid hm2
                have HL3 := Lib.hid hl3
                have HL4 := Lib.hid hl4
                clear hm hbel hw1 hm2 hl1 hl2 hl3 hl4 hlk
                obtain ⟨i0, hi0, hz0, hz1, hz2⟩ := info_parts info_stepB
                go_wp2_with (at_builtin; (refine wpList_append_lot rfl (.tmp 100) (.tmp 104) 69 69 rfl (relab f3 wr (14, 7)) (14, 7) (plusS i) 99 i0 _ 16 184 Tryz.underlying69 hi0 hz0 hz1 hz2 rfl (plusS_length i) (.slice M k cm) k rfl HL3.out HL4.out _ 1 _ rfl (src_agg wr Tryz.underlying69 [.int .i64 0, .slice none 0 0, .int .u64 0, .int .i64 0, .int .u64 0, .int .u64 0, .slice none 0 0, .bool false, .bool false, .slice none 0 0, .string ⟨#[]⟩, .int .i64 0, .string ⟨#[]⟩, .int .i64 0, .int .i64 (-5000000 - (i : Int)), .int .i64 0] (sMark_one _) _) (fun k' hk' c hc => by obtain rfl : k' = 0 := (by omega); rw [Nat.zero_mul, Nat.zero_add, Nat.add_zero]; rfl) (by decide) ?_ ?_ ?_))
                · (unfold maxLen; omega)
                · omega
                (intro g3 c3 w3 hl5 hb5 hw5; have hm5 := HM2.out.temp (by decide) (by decide) hw5.only; have HM5 := Lib.hid hm5; have HL5 := Lib.hid hl5; have HB5 := Lib.hid hb5; clear hl5 hb5 hw5 hm5)
                go_wp2_with fail
                exact ⟨⟨k + 1, some ⟨g3, 0, none⟩, c3, _, by omega, by go_num, rfl, HM5.out, HL5.out, LabV.of_eq HB5.out⟩, by show 700 - ((k : Int) + 1).toNat < 700 - (k : Int).toNat; omega⟩
              · have hk1 : decide ((k : Int) < 700) = false := decide_eq_false (by omega)
                obtain rfl : k = 700 := by omega
                have z0 := (hm.blk.cell 22).trans hm.a0
                have z3 := (hm.blk.cell 24).trans hm.a2
                obtain ⟨gr', cr', hb0', zi, hgr3⟩ := hm.row.at HU.out
                injection hb0' with e1 e2 e3
                injection e1 with e1; injection e1 with e1
                subst e1 e3
                clear e2
                obtain ⟨hlu, hlu2⟩ := hm.lots i u HU.out
                obtain ⟨U, cu, rfl⟩ := hlu.form
                obtain ⟨B2, cb2, hb2⟩ := hm.many.form
                subst hb2
                have hself := hm.self
                have hnew : ∀ k, k < 700 → ∀ c, c < 16 → ((List.range 700).flatMap (plusS i))[k * 16 + c]? = (FB i (ns i + k))[c]? := fun k hk c hc => by
                  rw [src_news (plusS_length i) hk hc, HFB.out]
                  show (plusS i k)[c]? = (markS (ns i) i (ns i + k))[c]?
                  rw [show markS (ns i) i (ns i + k) = plusS i k from markS_high (Nat.le_add_right _ _)]
                have hsrc : Src Tryz.prog 16 69 (.slice M 700 cm) 700 ((List.range 700).flatMap (plusS i)) wr.drew := hl1.drew.src Tryz.underlying69 (plusS_length i) (fun k u hu => sMark_one _ u hu)
                have HMM := Lib.hid hm
                have HLU := Lib.hid hlu.drew
                have HLU2 := Lib.hid hlu2
                have HSELF := Lib.hid hself
                have HGR := Lib.hid hgr3
                have HNEW := Lib.hid hnew
                have HSRC := Lib.hid hsrc
                have hms3 : ms.length ≤ 300000 := by rw [HMS.out]; omega
                clear hlk hm hl1 hl2 hlu hlu2 hself hgr3 hnew hsrc y0 hcell
                obtain ⟨i0, hi0, hz0, hz1, hz2⟩ := info_parts info_stepB
                obtain ⟨j0, hj0, hy0, hy1, hy2⟩ := info_parts info_stepsB
                go_wp2_with fail
                go_region_law (first
                    | (refine step_append_lot rfl (.tmp 117) (.tmp 118) 69 69 rfl f3 (4, i) (FB i) 99 i0 _ 16 184 Tryz.underlying69 hi0 hz0 hz1 hz2 rfl (HFL.out i) (.slice U (ns i) cu) (ns i) rfl HLU.out HLU2.out (.slice M 700 cm) 700 _ rfl HSRC.out HNEW.out (by decide) ?_ ?_ ?_; (unfold maxLen; omega); omega; intro g4 c4 w4 hl4 hb4 hw4; have hm4 := HMM.out.lot HFL.out (by decide) hw4.undrew; have z0 := hw4.undrew.only.cell z0 (fun e => lab_ne (by decide) (HSELF.out.symm.trans e)); have z3 := hw4.undrew.only.cell z3 (fun e => lab_ne (by decide) (HSELF.out.symm.trans e)); have zi := hw4.undrew.only.cell zi (fun e => lab_ne (by decide) (HGR.out.symm.trans e)); have hw5 : Wrote _ (relab (relab f3 wr.drew (4, i)) w4 (14, 3)) (14, 3) 1 (rowF (ms ++ [.slice (some ⟨g4, 0, none⟩) (ns i + 700) c4])) w4 (w4.alloc (.cells #[.slice (some ⟨g4, 0, none⟩) (ns i + 700) c4] 69)) := Wrote.of_below ((Below.refl _ _).alloc (Nat.le_refl _) _) _ (14, 3) 1 _; have hr5 := (hm4.many.more (.slice (some ⟨g4, 0, none⟩) (ns i + 700) c4)).conf (rowF_length _) hw5; have hr6 := hm4.many.lab.on hw5.only hm4.many.lot.lt; have HW5 := Lib.hid hw5; have HR5 := Lib.hid hr5; have HR6 := Lib.hid hr6; have z3a := cell_alloc z3 (.cells #[.slice (some ⟨g4, 0, none⟩) (ns i + 700) c4] 69); have HM4 := Lib.hid hm4; have HL4 := Lib.hid hl4; have HB4 := Lib.hid hb4; clear hl4 hb4 hw4 hm4 hw5 hr5 hr6)
                    | (refine step_append_lot rfl (.tmp 110) (.tmp 120) 30 30 rfl _ (14, 3) (rowF (ms ++ [.slice (some ⟨g4, 0, none⟩) (ns i + 700) c4])) 69 j0 _ 1 24 Tryz.underlying30 hj0 hy0 hy1 hy2 rfl (rowF_length _) (.slice B2 ms.length cb2) ms.length rfl HR5.out HR6.out _ 1 _ rfl (src_one w4 Tryz.underlying30 (.slice (some ⟨g4, 0, none⟩) (ns i + 700) c4) rfl _) (news_one (rowF_last ms _)) (by decide) ?_ ?_ ?_; (unfold maxLen; omega); omega; intro g7 c7 w7 hl7 hb7 hw7; have ho7 := HW5.out.only.trans hw7.only; have hrl := RowL.of_append hl7 hb7; have hblk7 := HM4.out.blk.same (ho7.block bk HM4.out.lt (fun e => lab_ne (by decide) (HM4.out.self.symm.trans e))); have z0 := (hblk7.cell 22).trans HM4.out.a0; have z3 := (hblk7.cell 24).trans HM4.out.a2; have z3f := hblk7.frozen 24; have zi := ho7.cell zi (fun e => lab_ne2 (by decide) (((HM4.out.row.lab gr rfl)).symm.trans e)); have HO7 := Lib.hid ho7; have HRL := Lib.hid hrl; clear hl7 hb7 hw7 ho7 hrl hblk7))
                all_goals
                  go_wp2_with fail
                  have hon := HM4.out.onMany (by decide) (by decide) (by decide) HSZ3.out HO7.out HRL.out (by rw [HMS.out]; exact HL4.out) (by rw [HMS.out]; exact LabV.of_eq HB4.out)
                  exact ⟨⟨i + 1, _, _, _, _, by omega, by go_num, by rw [List.length_append, List.length_singleton, HMS.out], hon⟩, by show vs.length - ((i : Int) + 1).toNat < vs.length - (i : Int).toNat; omega⟩
          · have hi1 : decide ((i : Int) < (vs.length : Int)) = false := decide_eq_false (by omega)
            obtain rfl : i = vs.length := by omega
            have HM1 := Lib.hid hm
            have HOS := Lib.hid hms
            clear hm hlt hms
            go_wp2_with fail
            go_meet
            exact ⟨_, _, _, _, HOS.out, HM1.out⟩
      case rest =>
        obtain ⟨f2, arr2, b2, ms, hms, hm⟩ := hcut
        have hos := HOS.out
        have y2 := (hm.blk.cell 23).trans hm.a1
        have y3 := (hm.blk.cell 24).trans hm.a2
        have hlk1 := (hm.lookS HFB.out hN (fun i => Nat.le_trans (HNS.out i) (by decide))).1 hos
        have hlk2 := (hm.lookS HFB.out hN (fun i => Nat.le_trans (HNS.out i) (by decide))).2 hms
        have HLK1 := Lib.hid hlk1
        have HLK2 := Lib.hid hlk2
        have HM2 := Lib.hid hm
        clear hlk1 hlk2 hm hms hos
        go_wp2_with (go_at_call 102; (first | (with_reducible refine HLK2.out.mono ?_) | (with_reducible refine HLK1.out.mono ?_)); rintro e w2 ⟨rfl, rfl⟩)
        go_ret
        refine ⟨rfl, f2, arr2, os, ms, b1, b2, ?_⟩
        have := HM2.out
        rw [HFB.out] at this
        exact this
end Go.Proofs.YthgfjafnclklpaaGreatDoor
end
section
namespace Go.Proofs.YthgfjafnclklpaaGreatDoor
attribute [local go_sem ↓] Go.wp_at_zero Go.wp_at_succ
open Go.RowKit

/-- the labels of what the Book and the flags write while lists are taken in -/
def Inner (l : Lab) : Prop := l = (1, 0) ∨ l.1 = 12 ∨ l.1 = 13 ∨ l.1 = 14 ∨ l.1 = 22 ∨ l.1 = 23 ∨ l = (50, 0) ∨ l.1 = 62
theorem OnB1.inner {m : Nat} {l : Lab} (h : OnB1 m l) : Inner l := by
  rcases h with rfl | rfl | rfl | rfl
  · exact .inl rfl
  · exact .inr (.inl rfl)
  · exact .inr (.inl rfl)
  · exact .inr (.inr (.inr (.inr (.inl rfl))))
theorem OnT1.inner {m : Nat} {l : Lab} (h : OnT1 m l) : Inner l := by
  rcases h with rfl | rfl | rfl | rfl
  · exact .inl rfl
  · exact .inr (.inr (.inl rfl))
  · exact .inr (.inr (.inl rfl))
  · exact .inr (.inr (.inr (.inr (.inr (.inl rfl)))))
theorem inner_no {a b : Nat} (h : a = 0 ∨ a = 2 ∨ a = 3 ∨ a = 4 ∨ a = 52) : ¬ Inner (a, b) := by
  rintro (e | e | e | e | e | e | e | e)
  · have := congrArg Prod.fst e; dsimp only at this; omega
  · dsimp only at e; omega
  · dsimp only at e; omega
  · dsimp only at e; omega
  · dsimp only at e; omega
  · dsimp only at e; omega
  · have := congrArg Prod.fst e; dsimp only at this; omega
  · dsimp only at e; omega
theorem inner_zero : ¬ Inner (0, 0) := inner_no (.inl rfl)

/-- lists of the blocks X were taken in: nothing but the Book's and the flags' own rows has changed -/
structure Keep (X : List Nat) (f : Nat → Lab) (w : World) (f' : Nat → Lab) (w' : World) : Prop where
  size : w.heap.size ≤ w'.heap.size
  heap : ∀ k, k < w.heap.size → ¬ Inner (f k) → w'.heap[k]? = w.heap[k]?
  lab : ∀ k, k < w.heap.size → k ∉ X → f' k = f k
  taken : ∀ k, k < w.heap.size → k ∈ X → ¬ Inner (f' k)
theorem Keep.refl (f : Nat → Lab) (w : World) : Keep [] f w f w := ⟨Nat.le_refl _, fun _ _ _ => rfl, fun _ _ _ => rfl, fun _ _ h => by cases h⟩
theorem Keep.trans {X Y : List Nat} {f f1 f2 : Nat → Lab} {w w1 w2 : World} (h : Keep X f w f1 w1) (k : Keep Y f1 w1 f2 w2) : Keep (X ++ Y) f w f2 w2 := by
  have hin : ∀ j, j < w.heap.size → ¬ Inner (f j) → ¬ Inner (f1 j) := fun j hj hn => by
    by_cases hx : j ∈ X
    · exact h.taken j hj hx
    · rw [h.lab j hj hx]; exact hn
  refine ⟨Nat.le_trans h.size k.size, fun j hj hn => (k.heap j (Nat.lt_of_lt_of_le hj h.size) (hin j hj hn)).trans (h.heap j hj hn), fun j hj hx => ?_, fun j hj hx => ?_⟩
  · have h1 : j ∉ X := fun e => hx (List.mem_append_left _ e)
    have h2 : j ∉ Y := fun e => hx (List.mem_append_right _ e)
    exact (k.lab j (Nat.lt_of_lt_of_le hj h.size) h2).trans (h.lab j hj h1)
  · by_cases h2 : j ∈ Y
    · exact k.taken j (Nat.lt_of_lt_of_le hj h.size) h2
    · rw [k.lab j (Nat.lt_of_lt_of_le hj h.size) h2]
      rcases List.mem_append.1 hx with h1 | h1
      · exact h.taken j hj h1
      · exact absurd h1 h2
theorem Keep.mono {X Y : List Nat} {f f1 : Nat → Lab} {w w1 : World} (h : Keep X f w f1 w1) (hX : ∀ k, k ∈ X → k ∈ Y) (hY : ∀ k, k < w.heap.size → k ∈ Y → ¬ Inner (f k)) : Keep Y f w f1 w1 :=
  ⟨h.size, h.heap, fun k hk hn => h.lab k hk (fun e => hn (hX k e)), fun k hk hy => by
    by_cases hx : k ∈ X
    · exact h.taken k hk hx
    · rw [h.lab k hk hx]; exact hY k hk hy⟩
/-- relabelled: only what was nobody's -/
theorem BookAt.relab {w : World} {f f' : Nat → Lab} {bk : Nat} {b0 b1 t0 t1 s0 : Value} {n : Int} {vs ws us xs ss : List Value} {bs : List Sp.Bs} {ts : List (List Sp.Bs)} {ls : List Nat} (h : BookAt w f bk b0 b1 t0 t1 s0 n vs ws us xs ss bs ts ls) (hf : ∀ k, f k ≠ (0, 0) → f' k = f k) : BookAt w f' bk b0 b1 t0 t1 s0 n vs ws us xs ss bs ts ls := by
  have hL : ∀ {v : Value} {a b : Nat}, a ≠ 0 → LabV f v (a, b) → LabV f' v (a, b) := fun ha hl g hg => by
    have := hl g hg
    rw [hf g (by rw [this]; exact lab_ne ha)]; exact this
  have hLs : ∀ {kd sz : Nat} {vs : List Value} {ns ms : Nat → Nat} {F : Nat → Nat → List Value}, kd ≠ 0 → LotsAt w f kd sz vs ns ms F → LotsAt w f' kd sz vs ns ms F := fun hk hl i u hu => ⟨(hl i u hu).1, hL hk (hl i u hu).2⟩
  exact { h with
    self := by rw [hf bk (by rw [h.self]; exact lab_ne (by decide))]; exact h.self
    row0 := ⟨h.row0.lot, hL (by decide) h.row0.lab⟩
    row1 := ⟨h.row1.lot, hL (by decide) h.row1.lab⟩
    row2 := ⟨h.row2.lot, hL (by decide) h.row2.lab⟩
    row3 := ⟨h.row3.lot, hL (by decide) h.row3.lab⟩
    row4 := ⟨h.row4.lot, hL (by decide) h.row4.lab⟩
    lots0 := hLs (by decide) h.lots0
    lots1 := hLs (by decide) h.lots1
    lots2 := hLs (by decide) h.lots2
    lots3 := hLs (by decide) h.lots3
    lots4 := hLs (by decide) h.lots4 }
/-- the Book, beside what was there -/
structure WlE (w : World) (bk : Nat) (f : Nat → Lab) (wr : World) : Prop where
  book : ∃ b0 b1 t0 t1 s0 n vs ws us xs ss bs ts ls, BookAt wr f bk b0 b1 t0 t1 s0 n vs ws us xs ss bs ts ls
  zero : ∀ k, k < w.heap.size → f k = (0, 0)
  below : Below w.heap.size w wr
/-- the label of the block of a row -/
def relabV (f : Nat → Lab) (v : Value) (l : Lab) : Nat → Lab := fun k => if v.ownBlock = some k then l else f k
theorem relabV_own {f : Nat → Lab} {v : Value} {l : Lab} : LabV (relabV f v l) v l := fun g hg => by unfold relabV; rw [if_pos hg]
theorem relabV_keep {f : Nat → Lab} {v : Value} {l : Lab} (hz : LabV f v (0, 0)) : ∀ k, f k ≠ (0, 0) → relabV f v l k = f k := fun k hk => by
  unfold relabV
  rw [if_neg (fun e => hk (hz k e))]
section
variable {w wr w1 : World} {bk : Nat} {f f1 : Nat → Lab}
theorem WlE.later (h : WlE w bk f wr) (hb : Below wr.heap.size wr w1) (hf : ∀ k, k < wr.heap.size → f1 k = f k) : WlE w bk f1 w1 := by
  obtain ⟨b0, b1, t0, t1, s0, n, vs, ws, us, xs, ss, bs, ts, ls, h1⟩ := h.book
  exact ⟨⟨b0, b1, t0, t1, s0, n, vs, ws, us, xs, ss, bs, ts, ls, h1.later hb hf⟩, fun k hk => by rw [hf k (Nat.lt_of_lt_of_le hk h.below.size)]; exact h.zero k hk, h.below.trans (hb.mono h.below.size)⟩
theorem WlE.relab (h : WlE w bk f wr) (hf : ∀ k, f k ≠ (0, 0) → f1 k = f k) (hz : ∀ k, k < w.heap.size → f1 k = (0, 0)) : WlE w bk f1 wr := by
  obtain ⟨b0, b1, t0, t1, s0, n, vs, ws, us, xs, ss, bs, ts, ls, h1⟩ := h.book
  exact ⟨⟨b0, b1, t0, t1, s0, n, vs, ws, us, xs, ss, bs, ts, ls, h1.relab hf⟩, hz, h.below⟩
/-- from a step's own frame -/
theorem Keep.of_only {v : Value} {l : Lab} {P : Lab → Prop} (ho : OnlyL (relabV f v l) f1 P wr w1) (hP : ∀ l, P l → Inner l) (hl : ¬ Inner l) : Keep (rowBlock v) f wr f1 w1 := by
  refine ⟨ho.size, fun k hk hn => ho.block k hk (fun hp => ?_), fun k hk hx => (ho.lab k hk).trans ?_, fun k hk hx => ?_⟩
  · have := hP _ hp
    unfold relabV at this
    split at this
    · exact hl this
    · exact hn this
  · unfold relabV
    rw [if_neg (fun e => hx (mem_rowBlock.2 e))]
  · rw [ho.lab k hk]
    unfold relabV
    rw [if_pos (mem_rowBlock.1 hx)]; exact hl
theorem WlE.zeroOn {v : Value} {l : Lab} {P : Lab → Prop} (h : WlE w bk f wr) (hz : ∀ g, v.ownBlock = some g → w.heap.size ≤ g) (ho : OnlyL (relabV f v l) f1 P wr w1) (hP : ∀ l, P l → Inner l) : (∀ k, k < w.heap.size → f1 k = (0, 0)) ∧ Below w.heap.size w w1 := by
  have h0 : ∀ k, k < w.heap.size → relabV f v l k = (0, 0) := fun k hk => by
    unfold relabV
    rw [if_neg (fun e => by have := hz k e; omega)]
    exact h.zero k hk
  exact ⟨fun k hk => by rw [ho.lab k (Nat.lt_of_lt_of_le hk h.below.size)]; exact h0 k hk, h.below.trans (ho.below h.below.size (fun k hk => by rw [h0 k hk]; exact fun hp => inner_zero (hP _ hp)))⟩
/-- bytes are taken in -/
theorem WlE.bytes (h : WlE w bk f wr) {A : Option Addr} {c : Nat} {l : Sp.Bs} (hl : LotB wr (.slice A l.length c) l) (hlen : l.length ≤ 70368744177664) (hz : LabV f (.slice A l.length c) (0, 0)) (hn : ∀ g, (Value.slice A l.length c).ownBlock = some g → w.heap.size ≤ g) :
    Calls Tryz.prog 14 #[.pointer (some ⟨bk, 0, none⟩), .slice A l.length c] wr fun e w' => e = .returned (.tuple #[]) ∧ ∃ f', WlE w bk f' w' ∧ Keep (rowBlock (.slice A l.length c)) f wr f' w' := by
  obtain ⟨b0, b1, t0, t1, s0, n, vs, ws, us, xs, ss, bs, ts, ls, h1⟩ := h.book
  by_cases hf : n ≤ 200000
  · refine (bookBytes_any (h1.relab (relabV_keep hz)) hl relabV_own hlen hf).mono ?_
    rintro e w' ⟨rfl, f', b0', b1', n', v, x, ho, hb⟩
    obtain ⟨g1, g2⟩ := h.zeroOn hn ho (fun _ h => h.inner)
    exact ⟨rfl, f', ⟨⟨_, _, _, _, _, _, _, _, _, _, _, _, _, _, hb⟩, g1, g2⟩, Keep.of_only ho (fun _ h => h.inner) (inner_no (.inr (.inl rfl)))⟩
  · refine (bookBytes_more (h1.blk.cell 26) (by omega)).mono ?_
    rintro e w' ⟨rfl, rfl⟩
    exact ⟨rfl, f, h, (Keep.refl f wr).mono (fun k hk => by cases hk) (fun k _ hk => by rw [hz k (mem_rowBlock.1 hk)]; exact inner_zero)⟩
/-- texts are taken in -/
theorem WlE.texts (h : WlE w bk f wr) {A : Option Addr} {c : Nat} {l : List Sp.Bs} (hl : LotT wr (.slice A l.length c) l) (hlen : l.length ≤ 1000000000) (hz : LabV f (.slice A l.length c) (0, 0)) (hn : ∀ g, (Value.slice A l.length c).ownBlock = some g → w.heap.size ≤ g) :
    Calls Tryz.prog 22 #[.pointer (some ⟨bk, 0, none⟩), .slice A l.length c] wr fun e w' => e = .returned (.tuple #[]) ∧ ∃ f', WlE w bk f' w' ∧ Keep (rowBlock (.slice A l.length c)) f wr f' w' := by
  obtain ⟨b0, b1, t0, t1, s0, n, vs, ws, us, xs, ss, bs, ts, ls, h1⟩ := h.book
  by_cases hf : n ≤ 200000
  · refine (bookTexts_any (h1.relab (relabV_keep hz)) hl relabV_own hlen hf).mono ?_
    rintro e w' ⟨rfl, f', t0', t1', n', v, x, ho, hb⟩
    obtain ⟨g1, g2⟩ := h.zeroOn hn ho (fun _ h => h.inner)
    exact ⟨rfl, f', ⟨⟨_, _, _, _, _, _, _, _, _, _, _, _, _, _, hb⟩, g1, g2⟩, Keep.of_only ho (fun _ h => h.inner) (inner_no (.inr (.inr (.inl rfl))))⟩
  · refine (bookTexts_full (h1.blk.cell 26) (by omega)).mono ?_
    rintro e w' ⟨rfl, rfl⟩
    exact ⟨rfl, f, h, (Keep.refl f wr).mono (fun k hk => by cases hk) (fun k _ hk => by rw [hz k (mem_rowBlock.1 hk)]; exact inner_zero)⟩
end
/-- what changes while a list of steps is taken in, but for its data and keys -/
def OnS1 (l : Lab) : Prop := l = (1, 0) ∨ l = (14, 0)
theorem OnS1.inner {l : Lab} (h : OnS1 l) : Inner l := by
  rcases h with rfl | rfl
  · exact .inl rfl
  · exact .inr (.inr (.inr (.inl rfl)))
theorem onS1_no {a b : Nat} (h1 : a ≠ 1) (h2 : a ≠ 14) : ¬ OnS1 (a, b) := by
  rintro (h | h)
  · exact h1 (congrArg Prod.fst h)
  · exact h2 (congrArg Prod.fst h)
theorem BookAt.onSteps {w w1 : World} {f f1 : Nat → Lab} {bk : Nat} {b0 b1 t0 t1 s0 s0' v : Value} {n : Int} {vs ws us xs ss : List Value} {bs : List Sp.Bs} {ts : List (List Sp.Bs)} {ls : List Nat} {len : Nat} {F : Nat → List Value}
    (h : BookAt w f bk b0 b1 t0 t1 s0 n vs ws us xs ss bs ts ls) (hl : Lot w 16 v len 0 F) (hv : LabV f v (4, ls.length)) (hlen : len ≤ 100000000) (hn : n ≤ 200000) (ho : OnlyL f f1 OnS1 w w1)
    (hblk : Blk w1 bk 32 (bookArr b0 b1 t0 t1 s0' (n + len + 1))) (hr : RowL w1 f1 (14, 0) s0' (ss ++ [v])) :
    BookAt w1 f1 bk b0 b1 t0 t1 s0' (n + len + 1) vs ws us xs (ss ++ [v]) bs ts (ls ++ [len]) :=
  { blk := hblk
    self := by rw [ho.lab bk h.blk.lt]; exact h.self
    row0 := h.row0.apart ho (onS1_no (by decide) (by decide))
    row1 := h.row1.apart ho (onS1_no (by decide) (by decide))
    row2 := h.row2.apart ho (onS1_no (by decide) (by decide))
    row3 := h.row3.apart ho (onS1_no (by decide) (by decide))
    row4 := hr
    len0 := h.len0
    len1 := h.len1
    len2 := h.len2
    len3 := h.len3
    len4 := by rw [List.length_append, List.length_append, h.len4]; rfl
    lots0 := h.lots0.apart ho (fun i => onS1_no (by decide) (by decide))
    lots1 := h.lots1.apart ho (fun i => onS1_no (by decide) (by decide))
    lots2 := h.lots2.apart ho (fun i => onS1_no (by decide) (by decide))
    lots3 := h.lots3.apart ho (fun i => onS1_no (by decide) (by decide))
    lots4 := fun i u hu => by
      rcases Nat.lt_or_ge i ss.length with hi | hi
      · rw [List.getElem?_append_left hi] at hu
        obtain ⟨g1, g2⟩ := h.lots4 i u hu
        refine ⟨?_, g2.on ho g1.lt⟩
        have e : sizeS (ls ++ [len]) i = sizeS ls i := by unfold sizeS; rw [getD_snoc_old _ _ _ (by rw [← h.len4]; exact hi)]
        rw [e]
        exact g1.apart ho g2 (onS1_no (by decide) (by decide))
      · rw [List.getElem?_append_right hi] at hu
        have hi0 : i - ss.length = 0 := by
          have := (List.getElem?_eq_some_iff.1 hu).1
          simp at this; omega
        rw [hi0] at hu
        have hu2 : u = v := by simpa using hu.symm
        subst hu2
        have hiv : i = ls.length := by rw [← h.len4]; omega
        subst hiv
        refine ⟨?_, hv.on ho hl.lt⟩
        have e : sizeS (ls ++ [len]) ls.length = len := by unfold sizeS; rw [getD_snoc_new]
        rw [e]
        exact (hl.apart ho hv (onS1_no (by decide) (by decide))).blank _
    n0 := by have := h.n0; omega
    n1 := by omega
    few := by have := h.few; rw [List.length_append, List.length_singleton]; omega
    cnt := by have := h.few; rw [List.length_append, List.length_singleton]; omega
    big := ⟨h.big.1, h.big.2.1, fun b hb => by
      rcases List.mem_append.1 hb with hb | hb
      · exact h.big.2.2 b hb
      · rw [List.mem_singleton.1 hb]; exact hlen⟩ }
/-- a block that holds no flags -/
def NoFlag (w : World) (k : Nat) : Prop := ∃ cur e, e ≠ 94 ∧ w.heap[k]? = some (.cells cur e (0, 0))
theorem own_noFlag {w : World} {base : Nat} {e : TypeId} {sz n : Nat} {v : Value} {xs : List Value} (h : w.ownsRow base e sz v n xs) (he : e ≠ 94) : ∀ k ∈ rowBlock v, NoFlag w k := fun k hk => by
  have hk := mem_rowBlock.1 hk
  rcases h.2 with ⟨rfl, _⟩ | ⟨g, cap, cur, rfl, _, hg, _⟩
  · cases hk
  · injection hk with hk
    rw [← hk]
    exact ⟨cur, e, he, hg⟩
theorem own_lotB {w : World} {base : Nat} {v : Value} {l : Sp.Bs} (h : w.ownsRow base 5 1 v l.length (bytesV l)) : LotB w v l :=
  Lot.of_own h (byteF_length l) (fun k hk c u hu => by
    have hc : c = 0 := by
      have := (List.getElem?_eq_some_iff.1 hu).1
      rw [byteF_length] at this; omega
    subst hc
    rw [Nat.mul_one, Nat.add_zero, ← hu]
    simp [byteF, bytesV, List.getD_eq_getElem?_getD, List.getElem?_eq_getElem hk])
theorem own_lotT2 {w : World} {base : Nat} {v : Value} {l : List Sp.Bs} (h : w.ownsRow base 9 1 v l.length (l.map str)) : LotT w v l :=
  Lot.of_own h (textF_length l) (fun k hk c u hu => by
    have hc : c = 0 := by
      have := (List.getElem?_eq_some_iff.1 hu).1
      rw [textF_length] at this; omega
    subst hc
    rw [Nat.mul_one, Nat.add_zero, ← hu]
    simp [textF, List.getD_eq_getElem?_getD, List.getElem?_eq_getElem hk])
def blankF (sz : Nat) (_ : Nat) : List Value := List.replicate sz (.bool false)
theorem own_blank {w : World} {base : Nat} {e : TypeId} {sz n : Nat} {v : Value} {xs : List Value} (h : w.ownsRow base e sz v n xs) : Lot w sz v n 0 (blankF sz) := by
  rcases h.2 with ⟨rfl, rfl⟩ | ⟨g, cap, cur, rfl, _, hg, h1, h2, h3, h4⟩
  · exact .inl ⟨rfl, rfl, rfl⟩
  · have hk : Blk w g e cur := hg
    refine .inr ⟨g, cap, rfl, Nat.zero_le _, h1, h2, hk.lt, fun j hj => ⟨?_, hk.frozen j⟩, fun k hk1 => by omega⟩
    rw [hk.cell j]
    rw [← h3] at hj
    simp [hj]

theorem StepsMem.noStep {w : World} {g : Nat} {arr : Array Value} (hb : Blk w g 99 arr) : ∀ {ts : List Sp.StepV} {cs : List Value} {bl : List Nat}, StepsMem w ts cs bl → ∀ k ∈ bl, k ≠ g
  | [], _, _, ⟨_, h⟩, k, hk => by simp [h] at hk
  | _ :: _, _, _, ⟨kv, dv, mv, cs', bl', h1, h2, h3, h4⟩, k, hk => by
    subst h2
    rcases List.mem_append.1 hk with hk | hk
    · exact h3.apart hb k hk
    · exact h4.noStep hb k hk
theorem own_blk {w : World} {base : Nat} {e : TypeId} {sz n : Nat} {v : Value} {xs : List Value} (h : w.ownsRow base e sz v n xs) (hn : 0 < n) : ∃ g cap cur, v = .slice (some ⟨g, 0, none⟩) n cap ∧ Blk w g e cur ∧ ∀ j u, xs[j]? = some u → w.cell? ⟨g, j, none⟩ = some u := by
  rcases h.2 with ⟨_, h0⟩ | ⟨g, cap, cur, h1, _, hg, h2, h3, h4, h5⟩
  · omega
  · have hk : Blk w g e cur := hg
    refine ⟨g, cap, cur, h1, hk, fun j u hu => ?_⟩
    have hj : j < n * sz := by rw [← h.1]; exact (List.getElem?_eq_some_iff.1 hu).1
    rw [hk.cell j]
    rw [← h5, List.getElem?_take_of_lt hj] at hu
    simpa using hu

attribute [-go_sem] storeVar loadVar
attribute [local go_sem] storeVar_intR storeVar_sliceR loadVar_intR loadVar_rowR loadVar_rowsR loadVar_textsR loadVar_textssR loadVar_rowS loadVar_rowsS

set_option maxHeartbeats 4000000 in
set_option maxRecDepth 100000 in
theorem bookSteps_any {w wq : World} {bk : Nat} {f : Nat → Lab} (h : WlE w bk f wq) {A : Option Addr} {c base : Nat} {outs : List Sp.StepV} {tcs : List Value} {bl : List Nat}
    (hown : wq.ownsRow base 99 16 (.slice A outs.length c) outs.length tcs) (hst : StepsMem wq outs tcs bl) (hnd : bl.Nodup) (hlen : outs.length ≤ 100000000) (hsm : ∀ t ∈ outs, t.cmd.keys.length ≤ 1000000000 ∧ t.cmd.data.length ≤ 70368744177664)
    (hz : ∀ k, k ∈ rowBlock (.slice A outs.length c) ∨ k ∈ bl → f k = (0, 0) ∧ w.heap.size ≤ k) :
    Calls Tryz.prog 29 #[.pointer (some ⟨bk, 0, none⟩), .slice A outs.length c] wq fun e w' => e = .returned (.tuple #[]) ∧ ∃ f' X, WlE w bk f' w' ∧ Keep X f wq f' w' ∧ ∀ k ∈ X, (k ∈ rowBlock (.slice A outs.length c) ∨ k ∈ bl) ∧ NoFlag wq k := by
  have hres : ∀ W tm, (results Tryz.f29 tm).run Tryz.prog W = .ok (.tuple #[]) W := fun W tm => by simp [results, Tryz.results29, go_sem]
  obtain ⟨b0, b1, t0, t1, s0, n, vs, ws, us, xs, ss, bs, ts, ls, hb⟩ := h.book
  have z26 : wq.cell? ⟨bk, 26, none⟩ = some (.int .i64 n) := hb.blk.cell 26
  have hfull := full_any z26
  by_cases hn : n ≤ 200000
  · rw [decide_eq_false (by omega)] at hfull
    obtain ⟨S0, cs0, hS0⟩ := hb.row4.form
    subst hS0
    have hss : ss.length ≤ 200001 := by have := hb.cnt; rw [hb.len4]; omega
    have hn0 := hb.n0
    have zf26 := hb.blk.frozen 26
    obtain ⟨v, hvv⟩ : ∃ v : Value, v = .slice A outs.length c := ⟨_, rfl⟩
    rw [← hvv] at hown
    have hzv : LabV f v (0, 0) := fun g hg => (hz g (.inl (by rw [← hvv]; exact mem_rowBlock.2 hg))).1
    have hzn : ∀ g, v.ownBlock = some g → w.heap.size ≤ g := fun g hg => (hz g (.inl (by rw [← hvv]; exact mem_rowBlock.2 hg))).2
    obtain ⟨fr, hfr⟩ : ∃ fr, fr = relabV f v (4, ls.length) := ⟨_, rfl⟩
    have hb' := hb.relab (f' := fr) (by rw [hfr]; exact relabV_keep hzv)
    obtain ⟨W1, hW1⟩ : ∃ W1, W1 = wq.setCell ⟨bk, 26, none⟩ (.int .i64 (n + (outs.length : Int) + 1)) := ⟨_, rfl⟩
    have hq : OnlyL fr fr (· = (1, 0)) wq W1 := by rw [hW1]; exact OnlyL.of_put fr wq _ _ hb'.self
    have hblk1 : Blk W1 bk 32 (bookArr b0 b1 t0 t1 (.slice S0 ss.length cs0) (n + outs.length + 1)) := by
      rw [hW1]
      have := hb'.blk.put 26 (.int .i64 (n + (outs.length : Int) + 1))
      exact this
    have hrow4 := hb'.row4.apart hq (lab_ne (by decide))
    have hw1 : Wrote fr (relab fr W1 (14, 0)) (14, 0) 1 (rowF (ss ++ [v])) W1 (W1.alloc (.cells #[v] 69)) := Wrote.of_below ((Below.refl _ _).alloc (Nat.le_refl _) _) fr (14, 0) 1 _
    have hr1 := (hrow4.more v).conf (rowF_length _) hw1
    have hr2 : LabV (relab fr W1 (14, 0)) (.slice S0 ss.length cs0) (14, 0) := hrow4.lab.on hw1.only hrow4.lot.lt
    have y22 : W1.cell? ⟨bk, 22, none⟩ = some (.slice S0 ss.length cs0) := hblk1.cell 22
    have hself := hb'.self
    have HFULL := Lib.hid hfull
    have HWW := Lib.hid hW1
    have HQ := Lib.hid hq
    have HB1 := Lib.hid hblk1
    have HW1 := Lib.hid hw1
    have HR1 := Lib.hid hr1
    have HR2 := Lib.hid hr2
    have HSELF := Lib.hid hself
    have HBK := Lib.hid hb'
    have HH := Lib.hid h
    have HOWN := Lib.hid hown
    have HST := Lib.hid hst
    have HND := Lib.hid hnd
    have HSM := Lib.hid hsm
    have HZ := Lib.hid hz
    have HZN := Lib.hid hzn
    have HFR := Lib.hid hfr
    have HVV := Lib.hid hvv
    clear hfull hW1 hq hblk1 hrow4 hw1 hr1 hr2 hself hb' h hown hst hnd hsm hz hzn hfr hb hzv
    subst hvv
    obtain ⟨j0, hj0, hy0, hy1, hy2⟩ := info_parts info_stepsB
    go_enter Tryz.func29, Tryz.ntmps29
    go_upto_region 2 with (go_at_call 49; refine HFULL.out.mono ?_; rintro e w2 ⟨rfl, rfl⟩)
    rw [← HWW.out]
    clear z26 zf26
    go_upto_region 3 with (at_builtin; refine wpList_append_lot rfl (.tmp 22) (.tmp 24) 30 30 rfl (relab fr W1 (14, 0)) (14, 0) (rowF (ss ++ [.slice A outs.length c])) 69 j0 _ 1 24 Tryz.underlying30 hj0 hy0 hy1 hy2 rfl (rowF_length _) (.slice S0 ss.length cs0) ss.length rfl HR1.out HR2.out _ 1 _ rfl (src_oneR W1 Tryz.underlying30 (.slice A outs.length c) rfl _) (news_oneR (rowF_last ss _)) (by decide) ?_ ?_ ?_; (unfold maxLen; omega); omega; intro g3 c3 w3 hl5 hb5 hw5; have ho5 := HW1.out.only.trans hw5.only; have hrl := RowL.of_append hl5 hb5; have hblk5 := HB1.out.same (ho5.block bk HB1.out.lt (fun e => lab_ne (by decide) (HSELF.out.symm.trans e))); have x22 : w3.cell? ⟨bk, 22, none⟩ = some (.slice S0 ss.length cs0) := hblk5.cell 22; have x22f := hblk5.frozen 22; have HO5 := Lib.hid ho5; have HRL := Lib.hid hrl; have HB5 := Lib.hid hblk5; clear hl5 hb5 hw5 ho5 hrl hblk5)
    obtain ⟨f2, hf2⟩ : ∃ f2, f2 = relab (relab fr W1 (14, 0)) (W1.alloc (.cells #[.slice A outs.length c] 69)) (14, 0) := ⟨_, rfl⟩
    rw [← hf2] at HO5 HRL
    obtain ⟨W2, hW2⟩ : ∃ W2, W2 = w3.setCell ⟨bk, 22, none⟩ (.slice (some ⟨g3, 0, none⟩) (ss.length + 1) c3) := ⟨_, rfl⟩
    have hself2 : f2 bk = (1, 0) := by rw [HO5.out.lab bk HB1.out.lt]; exact HSELF.out
    have hput : OnlyL f2 f2 (· = (1, 0)) w3 W2 := by rw [hW2]; exact OnlyL.of_put f2 w3 _ _ hself2
    have hblk2 : Blk W2 bk 32 (bookArr b0 b1 t0 t1 (.slice (some ⟨g3, 0, none⟩) (ss.length + 1) c3) (n + outs.length + 1)) := by
      rw [hW2]
      have := HB5.out.put 22 (.slice (some ⟨g3, 0, none⟩) (ss.length + 1) c3)
      exact this
    have hrow2 := HRL.out.apart hput (lab_ne (by decide))
    have hoAll : OnlyL fr f2 OnS1 wq W2 := ((HQ.out.mono fun l hl => by subst hl; exact .inl rfl).trans (HO5.out.mono fun l hl => by subst hl; exact .inr rfl)).trans (hput.mono fun l hl => by subst hl; exact .inl rfl)
    have hoR : OnlyL (relabV f (.slice A outs.length c) (4, ls.length)) f2 OnS1 wq W2 := by rw [← HFR.out]; exact hoAll
    have hbook2 := HBK.out.onSteps (own_blank HOWN.out) (by rw [HFR.out]; exact relabV_own) hlen hn hoAll hblk2 hrow2
    have hzb := HH.out.zeroOn HZN.out hoR (fun _ h => h.inner)
    have hg2 : WlE w bk f2 W2 := ⟨⟨_, _, _, _, _, _, _, _, _, _, _, _, _, _, hbook2⟩, hzb.1, hzb.2⟩
    have hk2 : Keep (rowBlock (.slice A outs.length c)) f wq f2 W2 := Keep.of_only hoR (fun _ h => h.inner) (inner_no (.inr (.inr (.inr (.inl rfl)))))
    have HG2 := Lib.hid hg2
    have HK2 := Lib.hid hk2
    rw [← hW2]
    clear hf2 hW2 hself2 hput hblk2 hrow2 hoAll hoR hbook2 hzb hg2 hk2 x22 x22f y22 HO5 HRL HB5
    go_wp2_with fail
    go_loopw [4] (fun iv wx => ∃ (i : Nat) (f3 : Nat → Lab) (X : List Nat) (rest : List Sp.StepV) (cs' : List Value) (bl' : List Nat), i ≤ outs.length ∧ iv = .int .i64 i ∧ WlE w bk f3 wx ∧ Keep X f wq f3 wx ∧ (∀ k ∈ X, (k ∈ rowBlock (.slice A outs.length c) ∨ k ∈ bl) ∧ NoFlag wq k) ∧ rest = outs.drop i ∧ cs' = tcs.drop (i * 16) ∧ StepsMem wq rest cs' bl' ∧ bl'.Nodup ∧ ∀ k ∈ bl', k ∈ bl ∧ k ∉ X) (fun iv _ => outs.length - (intOf iv).toNat)
    case atStart =>
      refine ⟨0, f2, rowBlock (.slice A outs.length c), outs, tcs, bl, Nat.zero_le _, rfl, HG2.out, HK2.out, fun k hk => ⟨.inl hk, own_noFlag HOWN.out (by decide) k hk⟩, rfl, by simp, HST.out, HND.out, fun k hk => ⟨hk, fun hx => ?_⟩⟩
      have hx := mem_rowBlock.1 hx
      rcases HOWN.out.2 with ⟨h0, _⟩ | ⟨g, cap, cur, h1, _, hg, _⟩
      · rw [h0] at hx; cases hx
      · have e1 : g = k := by rw [h1] at hx; injection hx
        exact HST.out.noStep hg k hk e1.symm
    case round =>
      obtain ⟨i, f3, X, rest, cs', bl', hi, rfl, hm, hkp, hX, hrest, hcs', hst, hnd, hbl⟩ := hrel
      by_cases hlt : i < outs.length
      · have hi1 : (i : Int) < (outs.length : Int) := by omega
        have hdrop : outs.drop i = outs[i] :: outs.drop (i + 1) := List.drop_eq_getElem_cons hlt
        rw [hdrop] at hrest
        subst hrest
        obtain ⟨kv, dv, mv, cs2, bl2, h1, h2, hcm, hst2⟩ := hst
        obtain ⟨t, ht⟩ : ∃ t, t = outs[i] := ⟨_, rfl⟩
        rw [← ht] at h1 hcm
        have hts := HSM.out t (by rw [ht]; exact List.getElem_mem _)
        obtain ⟨gA, cA, cur, hvA, hblkA, hcell⟩ := own_blk HOWN.out (by omega)
        injection hvA with eA _ eC
        subst eA eC
        obtain ⟨K1, kc1, hkv⟩ := own_form hcm.keys
        obtain ⟨D1, dc1, hdv⟩ := own_form hcm.data
        subst hkv hdv
        have hA : gA ∈ rowBlock (.slice (some ⟨gA, 0, none⟩) outs.length c) := mem_rowBlock.2 rfl
        have hAz := (HZ.out gA (.inl hA)).1
        have c6 : tcs[i * 16 + 6]? = some (.slice D1 t.cmd.data.length dc1) := by
          have := congrArg (fun l => l[6]?) (hcs'.symm.trans h1)
          simpa [List.getElem?_drop, stepCells, cmdCells] using this
        have c1 : tcs[i * 16 + 1]? = some (.slice K1 t.cmd.keys.length kc1) := by
          have := congrArg (fun l => l[1]?) (hcs'.symm.trans h1)
          simpa [List.getElem?_drop, stepCells, cmdCells] using this
        have hcs2 : cs2 = tcs.drop ((i + 1) * 16) := by
          have := congrArg (List.drop 16) (hcs'.symm.trans h1)
          rw [List.drop_drop, List.drop_left' (show (stepCells t (.slice K1 t.cmd.keys.length kc1) (.slice D1 t.cmd.data.length dc1) mv).length = 16 from rfl)] at this
          rw [← this, Nat.add_mul, Nat.one_mul]
        have y6 : wr.cell? ⟨gA, i * 16 + 6, none⟩ = some (.slice D1 t.cmd.data.length dc1) := (World.cell?_of_block (a := ⟨gA, i * 16 + 6, none⟩) (hkp.heap gA hblkA.lt (by rw [hAz]; exact inner_zero))).trans (hcell _ _ c6)
        have hsame : ∀ k ∈ bl', f3 k = (0, 0) ∧ w.heap.size ≤ k ∧ wr.heap[k]? = wq.heap[k]? := fun k hk => by
          have hkl := hbl k hk
          have hz := HZ.out k (.inr hkl.1)
          have hlt := HST.out.lt k hkl.1
          exact ⟨(hkp.lab k hlt hkl.2).trans hz.1, hz.2, hkp.heap k hlt (by rw [hz.1]; exact inner_zero)⟩
        subst h2
        have hmd : ∀ k, k ∈ rowBlock (.slice D1 t.cmd.data.length dc1) → k ∈ cmdBlocks (.slice K1 t.cmd.keys.length kc1) (.slice D1 t.cmd.data.length dc1) mv ++ bl2 := fun k hk => List.mem_append_left _ (List.mem_append_right _ (List.mem_append_left _ hk))
        have hmk : ∀ k, k ∈ rowBlock (.slice K1 t.cmd.keys.length kc1) → k ∈ cmdBlocks (.slice K1 t.cmd.keys.length kc1) (.slice D1 t.cmd.data.length dc1) mv ++ bl2 := fun k hk => List.mem_append_left _ (List.mem_append_left _ hk)
        have hm2 : ∀ k, k ∈ bl2 → k ∈ cmdBlocks (.slice K1 t.cmd.keys.length kc1) (.slice D1 t.cmd.data.length dc1) mv ++ bl2 := fun k hk => List.mem_append_right _ hk
        have hnd1 : (rowBlock (.slice K1 t.cmd.keys.length kc1) ++ (rowBlock (.slice D1 t.cmd.data.length dc1) ++ rowBlock mv) ++ bl2).Nodup := hnd
        rw [List.append_assoc, List.nodup_append] at hnd1
        obtain ⟨_, hnd2, hdj1⟩ := hnd1
        rw [List.append_assoc, List.nodup_append] at hnd2
        obtain ⟨_, hnd3, hdj2⟩ := hnd2
        have hnd4 : bl2.Nodup := (List.nodup_append.1 hnd3).2.1
        have hlb : LotB wr (.slice D1 t.cmd.data.length dc1) t.cmd.data := own_lotB (own_same hcm.data fun k hk => (hsame k (hmd k hk)).2.2)
        have hlt2 : LotT wr (.slice K1 t.cmd.keys.length kc1) t.cmd.keys := own_lotT2 (own_same hcm.keys fun k hk => (hsame k (hmk k hk)).2.2)
        have hkz : LabV f3 (.slice K1 t.cmd.keys.length kc1) (0, 0) := fun g hg => (hsame g (hmk g (mem_rowBlock.2 hg))).1
        have hkn : ∀ g, (Value.slice K1 t.cmd.keys.length kc1).ownBlock = some g → w.heap.size ≤ g := fun g hg => (hsame g (hmk g (mem_rowBlock.2 hg))).2.1
        have hby := hm.bytes hlb hts.2 (fun g hg => (hsame g (hmd g (mem_rowBlock.2 hg))).1) (fun g hg => (hsame g (hmd g (mem_rowBlock.2 hg))).2.1)
        have hXn : ∀ k, k ∈ rowBlock (.slice D1 t.cmd.data.length dc1) ++ rowBlock (.slice K1 t.cmd.keys.length kc1) → (k ∈ rowBlock (.slice (some ⟨gA, 0, none⟩) outs.length c) ∨ k ∈ bl) ∧ NoFlag wq k := fun k hk => by
          rcases List.mem_append.1 hk with hk | hk
          · exact ⟨.inr (hbl k (hmd k hk)).1, own_noFlag hcm.data (by decide) k hk⟩
          · exact ⟨.inr (hbl k (hmk k hk)).1, own_noFlag hcm.keys (by decide) k hk⟩
        have hb2 : ∀ k ∈ bl2, k ∈ bl ∧ k ∉ X ++ (rowBlock (.slice D1 t.cmd.data.length dc1) ++ rowBlock (.slice K1 t.cmd.keys.length kc1)) := fun k hk => ⟨(hbl k (hm2 k hk)).1, fun hx => by
          rcases List.mem_append.1 hx with hx | hx
          · exact (hbl k (hm2 k hk)).2 hx
          · rcases List.mem_append.1 hx with hx | hx
            · exact hdj2 k hx k (List.mem_append_right _ hk) rfl
            · exact hdj1 k hx k (by rw [List.append_assoc]; exact List.mem_append_right _ (List.mem_append_right _ hk)) rfl⟩
        have hkd : ∀ k, k ∈ rowBlock (.slice K1 t.cmd.keys.length kc1) → k ∉ rowBlock (.slice D1 t.cmd.data.length dc1) := fun k hk hd => hdj1 k hk k (by rw [List.append_assoc]; exact List.mem_append_left _ hd) rfl
        have HBY := Lib.hid hby
        have HLT2 := Lib.hid hlt2
        have HKZ := Lib.hid hkz
        have HKN := Lib.hid hkn
        have HKD := Lib.hid hkd
        have HKP := Lib.hid hkp
        have HXX := Lib.hid hX
        have HXN := Lib.hid hXn
        have HB2 := Lib.hid hb2
        have HST2 := Lib.hid hst2
        have HND4 := Lib.hid hnd4
        have HTS := Lib.hid hts
        have HCS2 := Lib.hid hcs2
        have HC1 := Lib.hid (hcell _ _ c1)
        have HAZ := Lib.hid hAz
        have HGA := Lib.hid hblkA
        clear hm hkp hX hst2 hnd hbl h1 hcm hcs2 c6 c1 hsame hmd hmk hm2 hdj1 hdj2 hnd3 hnd4 hlb hlt2 hkz hkn hby hXn hb2 hkd hcell hAz hblkA hA hts ht hdrop hlt hcs'
        go_wp2_with (first
          | (go_at_call 14; refine HBY.out.mono ?_; rintro e w4 ⟨rfl, f4, hm4, hk4⟩; have hkp4 := HKP.out.trans hk4; have y1 : w4.cell? ⟨gA, i * 16 + 1, none⟩ = some (.slice K1 t.cmd.keys.length kc1) := (World.cell?_of_block (a := ⟨gA, i * 16 + 1, none⟩) (hkp4.heap gA HGA.out.lt (by rw [HAZ.out]; exact inner_zero))).trans HC1.out; have hkz4 : LabV f4 (.slice K1 t.cmd.keys.length kc1) (0, 0) := (fun g hg => (hk4.lab g (HLT2.out.lt g hg) (HKD.out g (mem_rowBlock.2 hg))).trans (HKZ.out g hg)); have hlt4 := HLT2.out.same (w1 := w4) (fun g hg => hk4.heap g (HLT2.out.lt g hg) (by rw [HKZ.out g hg]; exact inner_zero)) hk4.size; have htx := hm4.texts hlt4 HTS.out.1 hkz4 HKN.out; have HTX := Lib.hid htx; have HKP4 := Lib.hid hkp4; clear hm4 hk4 hkp4 hkz4 hlt4 htx y6)
          | (go_at_call 22; refine HTX.out.mono ?_; rintro e w5 ⟨rfl, f5, hm5, hk5⟩; have hkp5 := HKP4.out.trans hk5; have HM5 := Lib.hid hm5; have HKP5 := Lib.hid hkp5; clear hm5 hk5 hkp5 y1))
        exact ⟨⟨i + 1, f5, X ++ (rowBlock (.slice D1 t.cmd.data.length dc1) ++ rowBlock (.slice K1 t.cmd.keys.length kc1)), _, cs2, bl2, by omega, by go_num, HM5.out, by rw [← List.append_assoc]; exact HKP5.out, fun k hk => (by
          rcases List.mem_append.1 hk with hk | hk
          · exact HXX.out k hk
          · exact HXN.out k hk), rfl, HCS2.out, HST2.out, HND4.out, HB2.out⟩, by show outs.length - ((i : Int) + 1).toNat < outs.length - (i : Int).toNat; omega⟩
      · have hi1 : decide (i < outs.length) = false := decide_eq_false (by omega)
        have HM := Lib.hid hm
        have HKP := Lib.hid hkp
        have HXX := Lib.hid hX
        clear hm hkp hX hst hnd hbl hrest hcs' hlt
        go_wp2_with fail
        exact ⟨rfl, .tuple #[], hres _ _, rfl, f3, X, HM.out, HKP.out, HXX.out⟩
  · rw [decide_eq_true (by omega)] at hfull
    have HF := Lib.hid hfull
    have H := Lib.hid h
    clear hfull h hb hst hown
    go_enter Tryz.func29, Tryz.ntmps29
    go_wp2_with (go_at_call 49; refine HF.out.mono ?_; rintro e w2 ⟨rfl, rfl⟩)
    exact ⟨rfl, .tuple #[], hres _ _, rfl, f, [], H.out, Keep.refl _ _, fun k hk => by cases hk⟩
theorem OnK.c4 {l : Lab} (h : OnK 4 l) : OnC l := by
  rcases h with h | h | h
  · exact .inl h
  · exact .inr (.inr (.inr (.inr (.inr (.inl h)))))
  · exact .inr (.inr (.inr (.inr (.inr (.inr h)))))
theorem sizeS_le {ls : List Nat} (h : ∀ l ∈ ls, l ≤ 100000000) (i : Nat) : sizeS ls i ≤ 100000000 := by
  unfold sizeS
  rw [List.getD_eq_getElem?_getD]
  cases hx : ls[i]? with
  | none => exact Nat.zero_le _
  | some b => exact h b (List.mem_of_getElem? hx)
/-- behind closeBytes and closeTexts -/
theorem closeSteps_book {w w2 : World} {f f2 : Nat → Lab} {P : Lab → Prop} {bk : Nat} {b0 b1 t0 t1 s0 : Value} {n : Int} {vs ws us xs ss : List Value} {bs : List Sp.Bs} {ts : List (List Sp.Bs)} {ls : List Nat} {arr2 : Array Value} (h : BookAt w f bk b0 b1 t0 t1 s0 n vs ws us xs ss bs ts ls)
    (ho : OnlyL f f2 P w w2) (hP : ∀ a b, a = 4 ∨ a = 14 → ¬ P (a, b)) (hk : Blk w2 bk 32 arr2) (hsz : arr2.size = 27) (ha0 : arr2[22]? = some s0) (ha1 : arr2[23]? = some (.slice none 0 0)) (ha2 : arr2[24]? = some (.slice none 0 0)) :
    Calls Tryz.prog 57 #[.pointer (some ⟨bk, 0, none⟩)] w2 fun e w' => e = .returned (.bool true) ∧ ∃ f', OnlyL f2 f' (OnK 4) w2 w' := by
  have hN : ss.length ≤ 300000 := by have := h.cnt; rw [h.len4]; omega
  have hself : f2 bk = (1, 0) := by rw [ho.lab bk h.blk.lt]; exact h.self
  refine (closeSteps_any (f := f2) (arr := arr2) (b0 := s0) (vs := ss) (ns := sizeS ls) hself hN (sizeS_le h.big.2.2) hsz ha0 ha1 ha2 ⟨hk, h.row4.apart ho (hP _ _ (.inr rfl)), (h.lots4.apart ho (fun i => hP _ _ (.inl rfl))).fresh, OnlyL.refl _ _ _⟩).mono ?_
  rintro e w' ⟨rfl, f', arr', os, ms, b2, b3, hs⟩
  exact ⟨rfl, f', hs.only⟩
theorem on23_no : ∀ a b : Nat, a = 4 ∨ a = 14 → ¬ (OnK 2 (a, b) ∨ OnK 3 (a, b)) := fun a b ha h => by
  rcases h with (h | h | h) | (h | h | h)
  · have := congrArg Prod.fst h; dsimp only at this; omega
  · dsimp only at h; omega
  · dsimp only at h; omega
  · have := congrArg Prod.fst h; dsimp only at this; omega
  · dsimp only at h; omega
  · dsimp only at h; omega
theorem sz27 {arr : Array Value} {b0 b1 t0 t1 s0 : Value} {n : Int} (ha : ∀ j, j ≠ 2 → j ≠ 3 → j ≠ 10 → j ≠ 11 → arr[j]? = (bookArr b0 b1 t0 t1 s0 n)[j]?) : arr.size = 27 := by
  have h3 : arr[26]? = some (.int .i64 n) := ha 26 (by decide) (by decide) (by decide) (by decide)
  have h4 : arr[27]? = none := ha 27 (by decide) (by decide) (by decide) (by decide)
  have h5 : 26 < arr.size := by
    rcases Nat.lt_or_ge 26 arr.size with h | h
    · exact h
    · rw [Array.getElem?_eq_none h] at h3; cases h3
  have h6 := Array.getElem?_eq_none_iff.1 h4
  omega

set_option maxHeartbeats 2000000 in
set_option maxRecDepth 100000 in
theorem close_all {w : World} {f : Nat → Lab} {bk : Nat} {b0 b1 t0 t1 s0 : Value} {n : Int} {vs ws us xs ss : List Value} {bs : List Sp.Bs} {ts : List (List Sp.Bs)} {ls : List Nat} (h : BookAt w f bk b0 b1 t0 t1 s0 n vs ws us xs ss bs ts ls) :
    Calls Tryz.prog 15 #[.pointer (some ⟨bk, 0, none⟩)] w fun e w' => e = .returned (.bool true) ∧ ∃ f', OnlyL f f' OnC w w' := by
  have hst := stands_any h
  have H := Lib.hid h
  have HST := Lib.hid hst
  clear hst h
  go_enter Tryz.func15, Tryz.ntmps15
  go_wp2_with (first
    | (go_at_call 50; refine HST.out.mono ?_; rintro e w1 ⟨rfl, hb1⟩; have hbk := H.out.later hb1 (f1 := relab f w (1, 0)) (fun k hk => relab_old hk); have HBK := Lib.hid hbk; have hcl := closeBytes_book hbk; have HCL := Lib.hid hcl; have HB1 := Lib.hid hb1; clear hb1 hbk hcl)
    | (go_at_call 51; refine HCL.out.mono ?_; rintro e w2 ⟨rfl, f2, arr2, ho2, hk2, ha2⟩; have zi := closeInts_nil ((hk2.cell 4).trans (ha2 4 (by decide) (by decide))) ((hk2.cell 6).trans (ha2 6 (by decide) (by decide))) ((hk2.cell 7).trans (ha2 7 (by decide) (by decide))); have zt := closeTexts_book HBK.out ho2 hk2 ha2 rfl rfl; have ZI := Lib.hid zi; have ZT := Lib.hid zt; have HO2 := Lib.hid ho2; have HA2 := Lib.hid ha2; clear zi zt ho2 hk2 ha2)
    | (go_at_call 52; refine ZI.out.mono ?_; rintro e w3 ⟨rfl, rfl⟩)
    | (go_at_call 53; refine ZT.out.mono ?_; rintro e w4 ⟨rfl, f4, arr4, ho4, hk4, ha4⟩; have z : ∀ j, j ≠ 2 → j ≠ 3 → j ≠ 10 → j ≠ 11 → (bookArr b0 b1 t0 t1 s0 n)[j]? = some nilRow → w4.cell? ⟨bk, j, none⟩ = some nilRow := fun j h2 h3 h10 h11 hj => (hk4.cell j).trans ((ha4 j h10 h11).trans ((HA2.out j h2 h3).trans hj)); have zh := closeHandles_nil (z 12 (by decide) (by decide) (by decide) (by decide) rfl) (z 14 (by decide) (by decide) (by decide) (by decide) rfl) (z 15 (by decide) (by decide) (by decide) (by decide) rfl); have ze := closeEntries_nil (z 16 (by decide) (by decide) (by decide) (by decide) rfl) (z 17 (by decide) (by decide) (by decide) (by decide) rfl) (z 18 (by decide) (by decide) (by decide) (by decide) rfl); have za := closeAnswers_nil (z 19 (by decide) (by decide) (by decide) (by decide) rfl) (z 20 (by decide) (by decide) (by decide) (by decide) rfl) (z 21 (by decide) (by decide) (by decide) (by decide) rfl); have hoc : OnlyL _ f4 (fun l => OnK 2 l ∨ OnK 3 l) _ w4 := (HO2.out.mono fun _ h => .inl h).trans (ho4.mono fun _ h => .inr h); have hsz := sz27 (fun j h2 h3 h10 h11 => (ha4 j h10 h11).trans (HA2.out j h2 h3)); have zs := closeSteps_book HBK.out hoc on23_no hk4 hsz ((ha4 22 (by decide) (by decide)).trans (HA2.out 22 (by decide) (by decide))) ((ha4 23 (by decide) (by decide)).trans (HA2.out 23 (by decide) (by decide))) ((ha4 24 (by decide) (by decide)).trans (HA2.out 24 (by decide) (by decide))); have ZH := Lib.hid zh; have ZE := Lib.hid ze; have ZA := Lib.hid za; have ZS := Lib.hid zs; have HO4 := Lib.hid ho4; clear z zh ze za zs ho4 hk4 ha4 hoc hsz)
    | (go_at_call 54; refine ZH.out.mono ?_; rintro e w5 ⟨rfl, rfl⟩)
    | (go_at_call 55; refine ZE.out.mono ?_; rintro e w5 ⟨rfl, rfl⟩)
    | (go_at_call 56; refine ZA.out.mono ?_; rintro e w5 ⟨rfl, rfl⟩)
    | (go_at_call 57; refine ZS.out.mono ?_; rintro e w6 ⟨rfl, f6, ho6⟩; have HO6 := Lib.hid ho6; clear ho6))
  go_ret
  exact ⟨rfl, f6, (((OnlyL.of_below (P := OnC) HB1.out f (1, 0) (.inl rfl)).trans (HO2.out.mono fun _ h => h.c2)).trans (HO4.out.mono fun _ h => h.c3)).trans (HO6.out.mono fun _ h => h.c4)⟩

/-- the Book is closed -/
theorem WlE.close {w wr : World} {bk : Nat} {f : Nat → Lab} (h : WlE w bk f wr) :
    Calls Tryz.prog 15 #[.pointer (some ⟨bk, 0, none⟩)] wr fun e w' => e = .returned (.bool true) ∧ Below w.heap.size w w' := by
  obtain ⟨b0, b1, t0, t1, s0, n, vs, ws, us, xs, ss, bs, ts, ls, h1⟩ := h.book
  refine (close_all h1).mono ?_
  rintro e w' ⟨rfl, f', ho⟩
  have hno : ∀ a b : Nat, a = 0 → ¬ OnC (a, b) := fun a b ha h => by
    rcases h with h | h | h | h | h | h | h
    · have := congrArg Prod.fst h; dsimp only at this; omega
    all_goals (dsimp only at h; omega)
  exact ⟨rfl, h.below.trans (ho.below h.below.size (fun k hk => by rw [h.zero k hk]; exact hno _ _ rfl))⟩
end Go.Proofs.YthgfjafnclklpaaGreatDoor
end
