/- The Book's lists of bytes: written full, grown, looked at. Its memory. The Book's kinds that hold no list: nothing is done. Printed by gen/genBn.py. The Book: what it holds; a list of bytes taken in. The Book's Stands: each list is still what it was. The Book's Close, where it keeps lists of bytes alone. -/
import Derived.Test.YthgfjafnclklpaaGreatDoorBk
import Derived.Test.YthgfjafnclklpaaGreatDoorProg
import Derived.Test.YthgfjafnclklpaaGreatDoorGl
import Derived.Lib.Hide
import Derived.Deep.DrawnRows
import Derived.Deep.QuietTactic
import Derived.BigQuiet
import Derived.StillTailTactics
import Derived.Deep.RegionHeld3
import Derived.Deep.RegionLaw
import Derived.Deep.CutBlock
import Derived.Deep.CutRange
import Derived.Deep.DeepCutAuto
import Derived.Test.YthgfjafnclklpaaGreatDoorFm
import Derived.Test.YthgfjafnclklpaaGreatDoorSm
section
namespace Go.Proofs.YthgfjafnclklpaaGreatDoor
attribute [local go_sem ↓] Go.wp_at_zero Go.wp_at_succ
open Go.RowKit

/-- mark and growth of the i-th list of bytes -/
def markB (n i k : Nat) : List Value := if k < n then [.int .u8 ((i : Int) % 125)] else [.int .u8 (125 + (i : Int) % 125)]
theorem markB_length (n i k : Nat) : (markB n i k).length = 1 := by unfold markB; split <;> rfl
theorem markB_low {n i k : Nat} (h : k < n) : markB n i k = [.int .u8 ((i : Int) % 125)] := if_pos h
theorem markB_high {n i k : Nat} (h : n ≤ k) : markB n i k = [.int .u8 (125 + (i : Int) % 125)] := if_neg (by omega)

def plusB (i : Nat) (_ : Nat) : List Value := [.int .u8 (125 + (i : Int) % 125)]
theorem plusB_length (i k : Nat) : (plusB i k).length = 1 := rfl
theorem plusB_is (i k : Nat) : plusB i k = [.int .u8 (125 + (i : Int) % 125)] := rfl
theorem info_u8B : (Tryz.prog.info? 5).map (fun i => (i.zero, i.size, i.bytes)) = some (some (.int .u8 0), 1, 1) := by kernel_rfl
theorem info_rowB : (Tryz.prog.info? 35).map (fun i => (i.zero, i.size, i.bytes)) = some (some (.slice none 0 0), 1, 24) := by kernel_rfl
/-- an element in a new block, to be appended -/
theorem src_one (w : World) {tx e : TypeId} (ht : Tryz.prog.underlying tx = some (.slice e)) (u : Value) (h1 : u.oneCell' = true) (t : TypeId) : Src Tryz.prog 1 tx (.slice (some ⟨w.heap.size, 0, none⟩) 1 1) 1 [u] (w.alloc (.cells #[u] t)) :=
  Src.ofSlice _ ht _ 1 1 [u] rfl (cells_one w u t) (fun x hx => by rw [List.mem_singleton.1 hx]; exact h1)
theorem news_one {u : Value} {F : Nat → List Value} {n : Nat} (h : F n = [u]) : ∀ k, k < 1 → ∀ c, c < 1 → [u][k * 1 + c]? = (F (n + k))[c]? := fun k hk c hc => by
  obtain rfl : k = 0 := by omega
  obtain rfl : c = 0 := by omega
  show [u][0]? = (F n)[0]?
  rw [h]
attribute [-go_sem] storeVar loadVar
theorem storeVar_intB (t : TypeId) (a : Addr) (k : IntKind) (n : Int) : type_of% (storeVar.eq_1 t a (.int k n)) := storeVar.eq_1 t a (.int k n)
theorem storeVar_sliceB (t : TypeId) (a : Addr) (p : Option Addr) (n c : Nat) : type_of% (storeVar.eq_1 t a (.slice p n c)) := storeVar.eq_1 t a (.slice p n c)
theorem loadVar_rowB (a : Addr) : type_of% (loadVar.eq_1 35 a) := loadVar.eq_1 35 a
theorem loadVar_rowsB (a : Addr) : type_of% (loadVar.eq_1 24 a) := loadVar.eq_1 24 a
theorem loadVar_u8B (a : Addr) : type_of% (loadVar.eq_1 5 a) := loadVar.eq_1 5 a
attribute [local go_sem] storeVar_intB storeVar_sliceB loadVar_rowB loadVar_rowsB loadVar_u8B

set_option maxHeartbeats 4000000 in
set_option maxRecDepth 100000 in
theorem lookBytes_any {w : World} {f : Nat → Lab} {bk : Nat} {b0 X : Value} {vs xs : List Value} {ns : Nat → Nat} {d : Nat} {l0 lx : Lab} (hN : vs.length ≤ 300000) (hns : ∀ i, ns i ≤ 70368744177664) (hd : d ≤ 1000) (hx : xs.length = vs.length)
    (y0 : w.cell? ⟨bk, 0, none⟩ = some b0) (h0 : RowL w f l0 b0 vs) (h1 : LotsAt w f 2 1 vs ns ns (fun i => markB (ns i) i)) (h2 : RowL w f lx X xs) (h3 : LotsAt w f 2 1 xs (fun i => ns i + d) (fun i => ns i + d) (fun i => markB (ns i) i)) :
    Calls Tryz.prog 95 #[.pointer (some ⟨bk, 0, none⟩), X] w fun e w' => e = .returned (.bool true) ∧ w = w' := by
  obtain ⟨AX, cx, hX⟩ := h2.form
  obtain ⟨A0, c0, hA0⟩ := h0.form
  subst hX
  subst hA0
  have H0 := Lib.hid h0
  have H1 := Lib.hid h1
  have H2 := Lib.hid h2
  have H3 := Lib.hid h3
  have HNS := Lib.hid hns
  rw [hx] at H2 ⊢
  have HX := Lib.hid hx
  clear h0 h1 h2 h3 hns hx
  go_enter Tryz.func95, Tryz.ntmps95
  go_wp2_with fail
  go_loop [5, 6, 7] (fun iv _ _ => ∃ i : Nat, i ≤ vs.length ∧ iv = .int .i64 i) (fun iv _ _ => vs.length - (intOf iv).toNat)
  case atStart => exact ⟨0, Nat.zero_le _, rfl⟩
  case round =>
    obtain ⟨i, hi, rfl⟩ := hrel
    by_cases hlt : i < vs.length
    · obtain ⟨u, hu⟩ : ∃ u, vs[i]? = some u := ⟨vs[i], List.getElem?_eq_getElem hlt⟩
      obtain ⟨v, hv⟩ : ∃ v, xs[i]? = some v := ⟨xs[i]'(by rw [HX.out]; exact hlt), List.getElem?_eq_getElem _⟩
      obtain ⟨gr, cr, hb0, hcell, _⟩ := H0.out.at hu
      obtain ⟨gx, cx', hbx, hcellx, _⟩ := H2.out.at hv
      injection hb0 with e1 _ e3
      subst e1 e3
      injection hbx with e1 e2 e3
      subst e1 e3
      clear e2
      have hl1 := (H1.out i u hu).1
      have hl3 := (H3.out i v hv).1
      obtain ⟨U, cu, rfl⟩ := hl1.form
      obtain ⟨V, cv, rfl⟩ := hl3.form
      have hi1 : (i : Int) < (vs.length : Int) := by omega
      have hni := HNS.out i
      obtain ⟨n, hn⟩ : ∃ n, n = ns i := ⟨_, rfl⟩
      dsimp only at hl1 hl3 hcell hcellx
      rw [← hn] at hni hl1 hl3 hcell hcellx
      have HL1 := Lib.hid hl1
      have HL3 := Lib.hid hl3
      clear hu hv hlt hl1 hl3 hn
      go_wp2_with fail
      go_loop [7] (fun kv => ∃ k : Nat, k ≤ n + d ∧ kv = .int .i64 k) (fun kv => n + d - (intOf kv).toNat)
      case atStart => exact ⟨0, Nat.zero_le _, rfl⟩
      case round =>
        obtain ⟨k, hk, rfl⟩ := hrel
        by_cases hlk : k < n + d
        · have hk1 : (k : Int) < (n : Int) + (d : Int) := by omega
          by_cases hkn : k < n
          · obtain ⟨g1, c1, e1, z1⟩ := HL1.out.at (k := k) (c := 0) (u := .int .u8 ((i : Int) % 125)) hkn (by rw [markB_low hkn]; rfl)
            obtain ⟨g3, c3, e3, z3⟩ := HL3.out.at (k := k) (c := 0) (u := .int .u8 ((i : Int) % 125)) hlk (by rw [markB_low hkn]; rfl)
            rw [Nat.mul_one, Nat.add_zero] at z1 z3
            injection e1 with e1 _ _
            injection e3 with e3 _ _
            subst e1 e3
            have hk2 : (k : Int) < (n : Int) := by omega
            have hk3 : decide ((n : Int) ≤ (k : Int)) = false := decide_eq_false (by omega)
            clear hlk hkn
            go_wp2_with fail
            exact ⟨⟨k + 1, by omega, by go_num⟩, by show n + d - ((k : Int) + 1).toNat < n + d - (k : Int).toNat; omega⟩
          · obtain ⟨g3, c3, e3, z3⟩ := HL3.out.at (k := k) (c := 0) (u := .int .u8 (125 + (i : Int) % 125)) hlk (by rw [markB_high (Nat.le_of_not_lt hkn)]; rfl)
            rw [Nat.mul_one, Nat.add_zero] at z3
            injection e3 with e3 _ _
            subst e3
            have hk2 : decide ((k : Int) < (n : Int)) = false := decide_eq_false (by omega)
            have hk3 : (n : Int) ≤ (k : Int) := by omega
            clear hlk hkn
            go_wp2_with fail
            exact ⟨⟨k + 1, by omega, by go_num⟩, by show n + d - ((k : Int) + 1).toNat < n + d - (k : Int).toNat; omega⟩
        · have hk1 : decide (k < n + d) = false := decide_eq_false (by omega)
          have hk2 : decide ((k : Int) < (n : Int) + (d : Int)) = false := decide_eq_false (by omega)
          clear hlk
          go_wp2_with fail
          exact ⟨⟨i + 1, by omega, by go_num⟩, by show vs.length - ((i : Int) + 1).toNat < vs.length - (i : Int).toNat; omega⟩
    · have hi1 : decide (i < vs.length) = false := decide_eq_false (by omega)
      clear hlt
      go_wp2_with fail
      go_ret
      exact ⟨rfl, rfl⟩

theorem Shut.look {w wr : World} {f f1 : Nat → Lab} {bk : Nat} {arr arr' : Array Value} {F : Nat → Nat → List Value} {b0 b1 b2 : Value} {vs os ms : List Value} {ns : Nat → Nat} (h : Shut w f 32 bk arr 2 1 0 2 3 F b0 vs ns arr' b1 os b2 ms f1 wr) (hF : F = fun i => markB (ns i) i) (hN : vs.length ≤ 300000) (hns : ∀ i, ns i ≤ 70368744177664) :
    (os.length = vs.length → Calls Tryz.prog 95 #[.pointer (some ⟨bk, 0, none⟩), b1] wr fun e w' => e = .returned (.bool true) ∧ wr = w') ∧
    (ms.length = vs.length → Calls Tryz.prog 95 #[.pointer (some ⟨bk, 0, none⟩), b2] wr fun e w' => e = .returned (.bool true) ∧ wr = w') := by
  subst hF
  exact ⟨fun ho => lookBytes_any hN hns (by decide) ho ((h.blk.cell 0).trans h.a0) h.row h.lots h.one h.ones, fun ho => lookBytes_any hN hns (by decide) ho ((h.blk.cell 0).trans h.a0) h.row h.lots h.many h.manys⟩

set_option maxHeartbeats 4000000 in
set_option maxRecDepth 100000 in
theorem closeBytes_any {w : World} {f : Nat → Lab} {bk : Nat} {arr : Array Value} {b0 : Value} {vs : List Value} {ns : Nat → Nat} (hbk : f bk = (1, 0)) (hN : vs.length ≤ 300000) (hns : ∀ i, ns i ≤ 70368744177664)
    (hsz : arr.size = 27) (h0 : arr[0]? = some b0) (h2 : arr[2]? = some (.slice none 0 0)) (h3 : arr[3]? = some (.slice none 0 0)) (h : Fill w f 32 bk arr 2 1 (fun i => markB (ns i) i) b0 vs ns 0 0 w) :
    Calls Tryz.prog 51 #[.pointer (some ⟨bk, 0, none⟩)] w fun e w' => e = .returned (.bool true) ∧ ∃ f' arr' os ms b2 b3, Shut w f 32 bk arr 2 1 0 2 3 (fun i => markB (ns i) i) b0 vs ns arr' b2 os b3 ms f' w' := by
  obtain ⟨A0, c0, hA0⟩ : ∃ A c, b0 = .slice A vs.length c := h.row.form
  subst hA0
  obtain ⟨FB, hFB⟩ : ∃ FB : Nat → Nat → List Value, FB = fun i => markB (ns i) i := ⟨_, rfl⟩
  rw [← hFB] at h
  have hFl : ∀ i k, (FB i k).length = 1 := fun i k => by rw [hFB]; exact markB_length _ _ _
  have HFB := Lib.hid hFB
  have HFL := Lib.hid hFl
  clear hFB hFl
  have H := Lib.hid h
  have HNS := Lib.hid hns
  have HBK := Lib.hid hbk
  have HSZ := Lib.hid (show 2 < arr.size by omega)
  have HSZ3 := Lib.hid (show 3 < arr.size by omega)
  have Z0 := Lib.hid h0
  have Z2 := Lib.hid h2
  have Z3 := Lib.hid h3
  clear h hns hbk h0 h2 h3 hsz
  go_enter Tryz.func51, Tryz.ntmps51
  go_upto_block 0 with fail
  go_cut [] (fun wx => Fill w f 32 bk arr 2 1 FB (.slice A0 vs.length c0) vs ns vs.length 0 wx)
  case first =>
    go_wp2_with fail
    go_loopw [3, 4] (fun iv _ wr => ∃ i : Nat, i ≤ vs.length ∧ iv = .int .i64 i ∧ Fill w f 32 bk arr 2 1 FB (.slice A0 vs.length c0) vs ns i 0 wr) (fun iv _ _ => vs.length - (intOf iv).toNat)
    case atStart => exact ⟨0, Nat.zero_le _, rfl, H.out⟩
    case round =>
      obtain ⟨i, hi, rfl, hm⟩ := hrel
      have y0 := (hm.blk.cell 0).trans Z0.out
      by_cases hlt : i < vs.length
      · obtain ⟨u, hu⟩ : ∃ u, vs[i]? = some u := ⟨vs[i], List.getElem?_eq_getElem hlt⟩
        obtain ⟨gr, cr, hb0, hcell, hgr⟩ := hm.row.at hu
        injection hb0 with e1 _ e3
        subst e1 e3
        obtain ⟨U, cu, rfl⟩ := (hm.lots i u hu).1.form
        have hi1 : (i : Int) < (vs.length : Int) := by omega
        have hni := HNS.out i
        have HM := Lib.hid hm
        have HU := Lib.hid hu
        clear hm hu hlt
        go_wp2_with fail
        go_loopw [4] (fun kv wx => ∃ k : Nat, k ≤ ns i ∧ kv = .int .i64 k ∧ Fill w f 32 bk arr 2 1 FB (.slice (some ⟨gr, 0, none⟩) vs.length c0) vs ns i k wx) (fun kv _ => ns i - (intOf kv).toNat)
        case atStart => exact ⟨0, Nat.zero_le _, rfl, HM.out⟩
        case round =>
          obtain ⟨k, hk, rfl, hm⟩ := hrel
          have z0 := (hm.blk.cell 0).trans Z0.out
          obtain ⟨gr', cr', hb0', hcell', hgr'⟩ := hm.row.at HU.out
          injection hb0' with e1 _ e3
          injection e1 with e1; injection e1 with e1
          subst e1 e3
          by_cases hlk : k < ns i
          · have hmk := (hm.lots i _ HU.out).1
            obtain ⟨g, rfl, ⟨uo, hth1⟩, hth2⟩ : ∃ g, U = some ⟨g, 0, none⟩ ∧ (∃ uo, wr.cell? ⟨g, k, none⟩ = some uo) ∧ wr.frozen? ⟨g, k, none⟩ = false := by
              rcases hmk with ⟨_, h0, _⟩ | ⟨g, cap, he, _, ha⟩
              · omega
              · injection he with he1 _ he3
                have := ha.room
                exact ⟨g, he1, Option.isSome_iff_exists.1 (ha.there k (by omega)).1, (ha.there k (by omega)).2⟩
            have hk1 : (k : Int) < (ns i : Int) := by omega
            have hput := hm.put HFL.out HBK.out (by decide) HU.out hlk (news := [.int .u8 ((i : Int) % 125)]) (by rw [HFB.out]; exact (markB_low hlk).symm)
            rw [Nat.mul_one] at hput
            have HP := Lib.hid hput
            clear hm hput hmk hlk
            go_wp2_with fail
            exact ⟨⟨k + 1, by omega, by go_num, HP.out⟩, by show ns i - ((k : Int) + 1).toNat < ns i - (k : Int).toNat; omega⟩
          · have hk1 : decide ((k : Int) < (ns i : Int)) = false := decide_eq_false (by omega)
            obtain rfl : k = ns i := by omega
            have HN := Lib.hid hm.next
            clear hm hlk
            go_wp2_with fail
            exact ⟨⟨i + 1, by omega, by go_num, HN.out⟩, by show vs.length - ((i : Int) + 1).toNat < vs.length - (i : Int).toNat; omega⟩
      · have hi1 : decide ((i : Int) < (vs.length : Int)) = false := decide_eq_false (by omega)
        obtain rfl : i = vs.length := by omega
        have HM := Lib.hid hm
        clear hm hlt
        go_wp2_with fail
        go_meet
        exact HM.out
  case rest =>
    have hm := hcut.shut (j0 := 0) (j1 := 2) (j2 := 3) HBK.out Z0.out Z2.out Z3.out
    have HM := Lib.hid hm
    clear hm hcut
    go_upto_block 4 with fail
    go_cut [] (fun wx => ∃ f1 arr1 b1 os, os.length = vs.length ∧ Shut w f 32 bk arr 2 1 0 2 3 FB (.slice A0 vs.length c0) vs ns arr1 b1 os (.slice none 0 0) [] f1 wx)
    case first =>
      go_wp2_with fail
      go_loopw [5, 6, 7] (fun iv _ _ wr => ∃ (i : Nat) (f1 : Nat → Lab) (arr1 : Array Value) (b1 : Value) (os : List Value), i ≤ vs.length ∧ iv = .int .i64 i ∧ os.length = i ∧ Shut w f 32 bk arr 2 1 0 2 3 FB (.slice A0 vs.length c0) vs ns arr1 b1 os (.slice none 0 0) [] f1 wr) (fun iv _ _ _ => vs.length - (intOf iv).toNat)
      case atStart => exact ⟨0, f, arr, _, [], Nat.zero_le _, rfl, rfl, HM.out⟩
      case round =>
        obtain ⟨i, f1, arr1, b1, os, hi, rfl, hos, hm⟩ := hrel
        have y0 := (hm.blk.cell 0).trans hm.a0
        by_cases hlt : i < vs.length
        · obtain ⟨u, hu⟩ : ∃ u, vs[i]? = some u := ⟨vs[i], List.getElem?_eq_getElem hlt⟩
          obtain ⟨gr, cr, hb0, hcell, hgr⟩ := hm.row.at hu
          injection hb0 with e1 _ e3
          subst e1 e3
          have hlot := hm.lots i u hu
          obtain ⟨U, cu, rfl⟩ := hlot.1.form
          have hi1 : (i : Int) < (vs.length : Int) := by omega
          have hni := HNS.out i
          have HM1 := Lib.hid hm
          have HLOT := Lib.hid hlot
          have HU := Lib.hid hu
          have HOS := Lib.hid hos
          clear hm hu hlt hlot hos
          go_wp2_with fail
          go_loopw [6, 7] (fun lv kv wx => ∃ (k : Nat) (U : Option Addr) (cu : Nat) (f2 : Nat → Lab), k ≤ 16 ∧ kv = .int .i64 k ∧ lv = .slice U (ns i + k) cu ∧ Shut w f 32 bk arr 2 1 0 2 3 FB (.slice (some ⟨gr, 0, none⟩) vs.length c0) vs ns arr1 b1 os (.slice none 0 0) [] f2 wx ∧ Lot wx 1 (.slice U (ns i + k) cu) (ns i + k) (ns i + k) (FB i) ∧ LabV f2 (.slice U (ns i + k) cu) (2, i)) (fun _ kv _ => 16 - (intOf kv).toNat)
          case atStart => exact ⟨0, U, cu, f1, by decide, rfl, rfl, HM1.out, HLOT.out.1, HLOT.out.2⟩
          case round =>
            obtain ⟨k, U2, cu2, f2, hk, rfl, rfl, hm, hl1, hl2⟩ := hrel
            by_cases hlk : k < 16
            · have hk1 : (k : Int) < 16 := by omega
              have hbel : Below wr.heap.size wr (wr.alloc (.cells #[.int .u8 (125 + (i : Int) % 125)] 5)) := (Below.refl _ _).alloc (Nat.le_refl _) _
              have hw1 : Wrote f2 (relab f2 wr (2, i)) (2, i) 1 (FB i) wr (wr.alloc (.cells #[.int .u8 (125 + (i : Int) % 125)] 5)) := Wrote.of_below hbel f2 (2, i) 1 (FB i)
              have hm2 := hm.lot HFL.out (by decide) hw1
              have hl3 := hl1.conf (HFL.out i) hw1
              have hl4 := hl2.on hw1.only hl1.lt
              have hnew : FB i (ns i + k) = [.int .u8 (125 + (i : Int) % 125)] := by rw [HFB.out]; exact markB_high (Nat.le_add_right _ _)
              have HM2 := Lib.hid hm2
              have HL3 := Lib.hid hl3
              have HL4 := Lib.hid hl4
              have HNEW := Lib.hid hnew
              clear hm hbel hw1 hm2 hl1 hl2 hl3 hl4 hlk hnew
              obtain ⟨i0, hi0, hz0, hz1, hz2⟩ := info_parts info_u8B
              go_wp2_with (at_builtin; refine wpList_append_lot rfl (.tmp 64) (.tmp 69) 35 35 rfl (relab f2 wr (2, i)) (2, i) (FB i) 5 i0 _ 1 1 Tryz.underlying35 hi0 hz0 hz1 hz2 rfl (HFL.out i) _ (ns i + k) rfl HL3.out HL4.out _ 1 _ rfl (src_one wr Tryz.underlying35 _ rfl _) (news_one HNEW.out) (by decide) ?_ ?_ ?_; (unfold maxLen; omega); omega; intro g3 c3 w3 hl5 hb5 hw5; have hm5 := HM2.out.lot HFL.out (by decide) hw5; have HM5 := Lib.hid hm5; have HL5 := Lib.hid hl5; have HB5 := Lib.hid hb5; clear hl5 hb5 hw5 hm5)
              exact ⟨⟨k + 1, some ⟨g3, 0, none⟩, c3, _, by omega, by go_num, rfl, HM5.out, HL5.out, fun g hg => (by injection hg with hg; subst hg; exact HB5.out)⟩, by show 16 - ((k : Int) + 1).toNat < 16 - (k : Int).toNat; omega⟩
            · have hk1 : decide ((k : Int) < 16) = false := decide_eq_false (by omega)
              obtain rfl : k = 16 := by omega
              obtain ⟨lv, hlv⟩ : ∃ lv : Value, lv = .slice U2 (ns i + 16) cu2 := ⟨_, rfl⟩
              have hl1' := hl1
              have hl2' := hl2
              rw [← hlv] at hl1' hl2'
              have hbel : Below wr.heap.size wr (wr.alloc (.cells #[lv] 35)) := (Below.refl _ _).alloc (Nat.le_refl _) _
              have hw1 : Wrote f2 (relab f2 wr (12, 2)) (12, 2) 1 (rowF (os ++ [lv])) wr (wr.alloc (.cells #[lv] 35)) := Wrote.of_below hbel f2 (12, 2) 1 _
              have hr0 : Lot wr 1 b1 os.length os.length (rowF (os ++ [lv])) := hm.one.more lv
              have hr1 := hr0.conf (rowF_length _) hw1
              have hr2 : LabV (relab f2 wr (12, 2)) b1 (12, 2) := hm.one.lab.on hw1.only hm.one.lot.lt
              have hnew : rowF (os ++ [lv]) (os.length) = [lv] := rowF_last os lv
              have z2 := (hm.blk.cell 2).trans hm.a1
              have z0 := (hm.blk.cell 0).trans hm.a0
              obtain ⟨B1, cb1, hb1⟩ := hm.one.form
              have hoi := HOS.out
              have HMM := Lib.hid hm
              have HW1 := Lib.hid hw1
              have HR1 := Lib.hid hr1
              have HR2 := Lib.hid hr2
              have HNEW := Lib.hid hnew
              have HL1 := Lib.hid hl1'
              have HL2 := Lib.hid hl2'
              subst hb1
              subst hlv
              clear hm hw1 hr0 hr1 hr2 hl1 hl2 hl1' hl2' hnew hlk hbel hoi
              obtain ⟨i0, hi0, hz0, hz1, hz2⟩ := info_parts info_rowB
              have hos3 : os.length ≤ 300000 := by rw [HOS.out]; omega
              go_wp2_with (at_builtin; (refine wpList_append_lot rfl (.tmp 75) (.tmp 77) 24 24 rfl (relab f2 wr (12, 2)) (12, 2) (rowF (os ++ [.slice U2 (ns i + 16) cu2])) 35 i0 _ 1 24 Tryz.underlying24 hi0 hz0 hz1 hz2 rfl (rowF_length _) (.slice B1 os.length cb1) os.length rfl HR1.out HR2.out _ 1 _ rfl (src_one wr Tryz.underlying24 (.slice U2 (ns i + 16) cu2) rfl _) (news_one HNEW.out) (by decide) ?_ ?_ ?_))
              · (unfold maxLen; omega)
              · omega
              (intro g3 c3 w3 hl5 hb5 hw5; have ho5 := (HW1.out.only.trans hw5.only); have hrl := RowL.of_append hl5 hb5; have hblk5 := HMM.out.blk.same (ho5.block bk HMM.out.lt (fun e => absurd (HMM.out.self.symm.trans e) (by decide))); have x2 := (hblk5.cell 2).trans HMM.out.a1; have x3 := hblk5.frozen 2; have HO5 := Lib.hid ho5; have HRL := Lib.hid hrl; clear hl5 hb5 hw5 ho5 hrl hblk5)
              go_wp2_with fail
              have hon := HMM.out.onOne (by decide) (by decide) (by decide) HSZ.out HO5.out HRL.out (by rw [HOS.out]; exact HL1.out) (by rw [HOS.out]; exact HL2.out)
              exact ⟨⟨i + 1, _, _, _, _, by omega, by go_num, by rw [List.length_append, List.length_singleton, HOS.out], hon⟩, by show vs.length - ((i : Int) + 1).toNat < vs.length - (i : Int).toNat; omega⟩
        · have hi1 : decide ((i : Int) < (vs.length : Int)) = false := decide_eq_false (by omega)
          obtain rfl : i = vs.length := by omega
          have HM1 := Lib.hid hm
          have HOS := Lib.hid hos
          clear hm hlt hos
          go_wp2_with fail
          go_meet
          exact ⟨_, _, _, _, HOS.out, HM1.out⟩
    case rest =>
      obtain ⟨f1, arr1, b1, os, hos, hm⟩ := hcut
      have z0 := (hm.blk.cell 0).trans hm.a0
      have z2 := (hm.blk.cell 2).trans hm.a1
      have hlk := (hm.look HFB.out hN HNS.out).1 hos
      have HLK := Lib.hid hlk
      have HOS := Lib.hid hos
      have HM1 := Lib.hid hm
      clear hlk hos hm
      go_upto_block 8 with (go_at_call 95; refine HLK.out.mono ?_; rintro e w2 ⟨rfl, rfl⟩)
      go_cut [] (fun wx => ∃ f2 arr2 b2 ms, ms.length = vs.length ∧ Shut w f 32 bk arr 2 1 0 2 3 FB (.slice A0 vs.length c0) vs ns arr2 b1 os b2 ms f2 wx)
      case first =>
        go_wp2_with fail
        go_loopw [8, 9, 10] (fun iv _ _ wr => ∃ (i : Nat) (f2 : Nat → Lab) (arr2 : Array Value) (b2 : Value) (ms : List Value), i ≤ vs.length ∧ iv = .int .i64 i ∧ ms.length = i ∧ Shut w f 32 bk arr 2 1 0 2 3 FB (.slice A0 vs.length c0) vs ns arr2 b1 os b2 ms f2 wr) (fun iv _ _ _ => vs.length - (intOf iv).toNat)
        case atStart => exact ⟨0, f1, arr1, _, [], Nat.zero_le _, rfl, rfl, HM1.out⟩
        case round =>
          obtain ⟨i, f2, arr2, b2, ms, hi, rfl, hms, hm⟩ := hrel
          have y0 := (hm.blk.cell 0).trans hm.a0
          by_cases hlt : i < vs.length
          · obtain ⟨u, hu⟩ : ∃ u, vs[i]? = some u := ⟨vs[i], List.getElem?_eq_getElem hlt⟩
            obtain ⟨gr, cr, hb0, hcell, hgr⟩ := hm.row.at hu
            injection hb0 with e1 e2 e3
            subst e1 e3
            clear e2
            have hi1 : (i : Int) < (vs.length : Int) := by omega
            have hni := HNS.out i
            have HM2 := Lib.hid hm
            have HU := Lib.hid hu
            have HMS := Lib.hid hms
            clear hm hu hlt hms
            go_wp2_with fail
            go_loopw [9, 10] (fun mv kv wx => ∃ (k : Nat) (M : Option Addr) (cm : Nat) (f3 : Nat → Lab), k ≤ 700 ∧ kv = .int .i64 k ∧ mv = .slice M k cm ∧ Shut w f 32 bk arr 2 1 0 2 3 FB (.slice (some ⟨gr, 0, none⟩) vs.length c0) vs ns arr2 b1 os b2 ms f3 wx ∧ Lot wx 1 (.slice M k cm) k k (plusB i) ∧ LabV f3 (.slice M k cm) (12, 7)) (fun _ kv _ => 700 - (intOf kv).toNat)
            case atStart => exact ⟨0, none, 0, f2, by decide, rfl, rfl, HM2.out, .inl ⟨rfl, rfl, rfl⟩, fun g hg => by cases hg⟩
            case round =>
              obtain ⟨k, M, cm, f3, hk, rfl, rfl, hm, hl1, hl2⟩ := hrel
              by_cases hlk : k < 700
              · have hk1 : (k : Int) < 700 := by omega
                have hbel : Below wr.heap.size wr (wr.alloc (.cells #[.int .u8 (125 + (i : Int) % 125)] 5)) := (Below.refl _ _).alloc (Nat.le_refl _) _
                have hw1 : Wrote f3 (relab f3 wr (12, 7)) (12, 7) 1 (plusB i) wr (wr.alloc (.cells #[.int .u8 (125 + (i : Int) % 125)] 5)) := Wrote.of_below hbel f3 (12, 7) 1 _
                have hm2 := hm.temp (by decide) (by decide) hw1.only
                have hl3 := hl1.conf (plusB_length i) hw1
                have hl4 := hl2.on hw1.only hl1.lt
                have HM2 := Lib.hid hm2
                have HL3 := Lib.hid hl3
                have HL4 := Lib.hid hl4
                clear hm hbel hw1 hm2 hl1 hl2 hl3 hl4 hlk
                obtain ⟨i0, hi0, hz0, hz1, hz2⟩ := info_parts info_u8B
                go_wp2_with (at_builtin; go_loud (refine wpList_append_lot rfl (.tmp 101) (.tmp 106) 35 35 rfl (relab f3 wr (12, 7)) (12, 7) (plusB i) 5 i0 _ 1 1 Tryz.underlying35 hi0 hz0 hz1 hz2 rfl (plusB_length i) (.slice M k cm) k rfl HL3.out HL4.out _ 1 _ rfl (src_one wr Tryz.underlying35 (.int .u8 (125 + (i : Int) % 125)) rfl _) (news_one (plusB_is i k)) (by decide) ?_ ?_ ?_))
                · (unfold maxLen; omega)
                · omega
                (intro g3 c3 w3 hl5 hb5 hw5; have hm5 := HM2.out.temp (by decide) (by decide) hw5.only; have HM5 := Lib.hid hm5; have HL5 := Lib.hid hl5; have HB5 := Lib.hid hb5; clear hl5 hb5 hw5 hm5)
                go_wp2_with fail
                exact ⟨⟨k + 1, some ⟨g3, 0, none⟩, c3, _, by omega, by go_num, rfl, HM5.out, HL5.out, LabV.of_eq HB5.out⟩, by show 700 - ((k : Int) + 1).toNat < 700 - (k : Int).toNat; omega⟩
              · have hk1 : decide ((k : Int) < 700) = false := decide_eq_false (by omega)
                obtain rfl : k = 700 := by omega
                have z0 := (hm.blk.cell 0).trans hm.a0
                have z3 := (hm.blk.cell 3).trans hm.a2
                obtain ⟨gr', cr', hb0', zi, hgr3⟩ := hm.row.at HU.out
                injection hb0' with e1 e2 e3
                injection e1 with e1; injection e1 with e1
                subst e1 e3
                clear e2
                obtain ⟨hlu, hlu2⟩ := hm.lots i u HU.out
                obtain ⟨U, cu, rfl⟩ := hlu.form
                obtain ⟨B2, cb2, hb2⟩ := hm.many.form
                subst hb2
                have hself := hm.self
                have hnew : ∀ k, k < 700 → ∀ c, c < 1 → ((List.range 700).flatMap (plusB i))[k * 1 + c]? = (FB i (ns i + k))[c]? := fun k hk c hc => by
                  rw [src_news (plusB_length i) hk hc, HFB.out]
                  show (plusB i k)[c]? = (markB (ns i) i (ns i + k))[c]?
                  rw [show markB (ns i) i (ns i + k) = plusB i k from markB_high (Nat.le_add_right _ _)]
                have hsrc : Src Tryz.prog 1 35 (.slice M 700 cm) 700 ((List.range 700).flatMap (plusB i)) wr.drew := hl1.drew.src Tryz.underlying35 (plusB_length i) (fun k u hu => by rw [plusB_is, List.mem_singleton] at hu; rw [hu]; rfl)
                have HMM := Lib.hid hm
                have HLU := Lib.hid hlu.drew
                have HLU2 := Lib.hid hlu2
                have HSELF := Lib.hid hself
                have HGR := Lib.hid hgr3
                have HNEW := Lib.hid hnew
                have HSRC := Lib.hid hsrc
                have hms3 : ms.length ≤ 300000 := by rw [HMS.out]; omega
                clear hlk hm hl1 hl2 hlu hlu2 hself hgr3 hnew hsrc y0 hcell
                obtain ⟨i0, hi0, hz0, hz1, hz2⟩ := info_parts info_u8B
                obtain ⟨j0, hj0, hy0, hy1, hy2⟩ := info_parts info_rowB
                go_wp2_with fail
                go_region_law (first
                    | (refine step_append_lot rfl (.tmp 119) (.tmp 120) 35 35 rfl f3 (2, i) (FB i) 5 i0 _ 1 1 Tryz.underlying35 hi0 hz0 hz1 hz2 rfl (HFL.out i) (.slice U (ns i) cu) (ns i) rfl HLU.out HLU2.out (.slice M 700 cm) 700 _ rfl HSRC.out HNEW.out (by decide) ?_ ?_ ?_; (unfold maxLen; omega); omega; intro g4 c4 w4 hl4 hb4 hw4; have hm4 := HMM.out.lot HFL.out (by decide) hw4.undrew; have z0 := hw4.undrew.only.cell z0 (fun e => lab_ne (by decide) (HSELF.out.symm.trans e)); have z3 := hw4.undrew.only.cell z3 (fun e => lab_ne (by decide) (HSELF.out.symm.trans e)); have zi := hw4.undrew.only.cell zi (fun e => lab_ne (by decide) (HGR.out.symm.trans e)); have hw5 : Wrote _ (relab (relab f3 wr.drew (2, i)) w4 (12, 3)) (12, 3) 1 (rowF (ms ++ [.slice (some ⟨g4, 0, none⟩) (ns i + 700) c4])) w4 (w4.alloc (.cells #[.slice (some ⟨g4, 0, none⟩) (ns i + 700) c4] 35)) := Wrote.of_below ((Below.refl _ _).alloc (Nat.le_refl _) _) _ (12, 3) 1 _; have hr5 := (hm4.many.more (.slice (some ⟨g4, 0, none⟩) (ns i + 700) c4)).conf (rowF_length _) hw5; have hr6 := hm4.many.lab.on hw5.only hm4.many.lot.lt; have HW5 := Lib.hid hw5; have HR5 := Lib.hid hr5; have HR6 := Lib.hid hr6; have z3a := cell_alloc z3 (.cells #[.slice (some ⟨g4, 0, none⟩) (ns i + 700) c4] 35); have HM4 := Lib.hid hm4; have HL4 := Lib.hid hl4; have HB4 := Lib.hid hb4; clear hl4 hb4 hw4 hm4 hw5 hr5 hr6)
                    | (refine step_append_lot rfl (.tmp 112) (.tmp 122) 24 24 rfl _ (12, 3) (rowF (ms ++ [.slice (some ⟨g4, 0, none⟩) (ns i + 700) c4])) 35 j0 _ 1 24 Tryz.underlying24 hj0 hy0 hy1 hy2 rfl (rowF_length _) (.slice B2 ms.length cb2) ms.length rfl HR5.out HR6.out _ 1 _ rfl (src_one w4 Tryz.underlying24 (.slice (some ⟨g4, 0, none⟩) (ns i + 700) c4) rfl _) (news_one (rowF_last ms _)) (by decide) ?_ ?_ ?_; (unfold maxLen; omega); omega; intro g7 c7 w7 hl7 hb7 hw7; have ho7 := HW5.out.only.trans hw7.only; have hrl := RowL.of_append hl7 hb7; have hblk7 := HM4.out.blk.same (ho7.block bk HM4.out.lt (fun e => lab_ne (by decide) (HM4.out.self.symm.trans e))); have z0 := (hblk7.cell 0).trans HM4.out.a0; have z3 := (hblk7.cell 3).trans HM4.out.a2; have z3f := hblk7.frozen 3; have zi := ho7.cell zi (fun e => lab_ne2 (by decide) (((HM4.out.row.lab gr rfl)).symm.trans e)); have HO7 := Lib.hid ho7; have HRL := Lib.hid hrl; clear hl7 hb7 hw7 ho7 hrl hblk7))
                all_goals
                  go_wp2_with fail
                  have hon := HM4.out.onMany (by decide) (by decide) (by decide) HSZ3.out HO7.out HRL.out (by rw [HMS.out]; exact HL4.out) (by rw [HMS.out]; exact LabV.of_eq HB4.out)
                  exact ⟨⟨i + 1, _, _, _, _, by omega, by go_num, by rw [List.length_append, List.length_singleton, HMS.out], hon⟩, by show vs.length - ((i : Int) + 1).toNat < vs.length - (i : Int).toNat; omega⟩
          · have hi1 : decide ((i : Int) < (vs.length : Int)) = false := decide_eq_false (by omega)
            obtain rfl : i = vs.length := by omega
            have HM1 := Lib.hid hm
            have HOS := Lib.hid hms
            clear hm hlt hms
            go_wp2_with fail
            go_meet
            exact ⟨_, _, _, _, HOS.out, HM1.out⟩
      case rest =>
        obtain ⟨f2, arr2, b2, ms, hms, hm⟩ := hcut
        have hos := HOS.out
        have y2 := (hm.blk.cell 2).trans hm.a1
        have y3 := (hm.blk.cell 3).trans hm.a2
        have hlk1 := (hm.look HFB.out hN HNS.out).1 hos
        have hlk2 := (hm.look HFB.out hN HNS.out).2 hms
        have HLK1 := Lib.hid hlk1
        have HLK2 := Lib.hid hlk2
        have HM2 := Lib.hid hm
        clear hlk1 hlk2 hm hms hos
        go_wp2_with (go_at_call 95; (first | (with_reducible refine HLK2.out.mono ?_) | (with_reducible refine HLK1.out.mono ?_)); rintro e w2 ⟨rfl, rfl⟩)
        go_ret
        refine ⟨rfl, f2, arr2, os, ms, b1, b2, ?_⟩
        have := HM2.out
        rw [HFB.out] at this
        exact this
end Go.Proofs.YthgfjafnclklpaaGreatDoor
end
section
namespace Go.Proofs.YthgfjafnclklpaaGreatDoor
attribute [local go_sem ↓] Go.wp_at_zero Go.wp_at_succ
open Go.RowKit
attribute [-go_sem] loadVar
theorem loadVar_lInts (a : Addr) : type_of% (loadVar.eq_1 25 a) := loadVar.eq_1 25 a
theorem loadVar_lTexts (a : Addr) : type_of% (loadVar.eq_1 26 a) := loadVar.eq_1 26 a
theorem loadVar_lHandles (a : Addr) : type_of% (loadVar.eq_1 27 a) := loadVar.eq_1 27 a
theorem loadVar_lEntries (a : Addr) : type_of% (loadVar.eq_1 28 a) := loadVar.eq_1 28 a
theorem loadVar_lAnswers (a : Addr) : type_of% (loadVar.eq_1 29 a) := loadVar.eq_1 29 a
theorem loadVar_lSteps (a : Addr) : type_of% (loadVar.eq_1 30 a) := loadVar.eq_1 30 a
attribute [local go_sem] loadVar_lInts loadVar_lTexts loadVar_lHandles loadVar_lEntries loadVar_lAnswers loadVar_lSteps

set_option maxHeartbeats 1000000 in
set_option maxRecDepth 100000 in
theorem lookInts_nil (w : World) (bk : Nat) : Calls Tryz.prog 96 #[.pointer (some ⟨bk, 0, none⟩), .slice none 0 0] w fun e w' => e = .returned (.bool true) ∧ w = w' := by
  go_enter Tryz.func96, Tryz.ntmps96
  go_wp2_with fail
  go_loop [5, 6, 7] (fun iv _ _ => iv = .int .i64 0) (fun _ _ _ => 0)
  case atStart => exact rfl
  case round =>
    obtain rfl := hrel
    go_wp2_with fail
    go_ret
    exact ⟨rfl, rfl⟩
set_option maxHeartbeats 1000000 in
set_option maxRecDepth 100000 in
theorem closeInts_nil {w : World} {bk : Nat} (y0 : w.cell? ⟨bk, 4, none⟩ = some (.slice none 0 0)) (y1 : w.cell? ⟨bk, 6, none⟩ = some (.slice none 0 0)) (y2 : w.cell? ⟨bk, 7, none⟩ = some (.slice none 0 0)) :
    Calls Tryz.prog 52 #[.pointer (some ⟨bk, 0, none⟩)] w fun e w' => e = .returned (.bool true) ∧ w = w' := by
  go_enter Tryz.func52, Tryz.ntmps52
  go_wp2_with fail
  go_loop [3, 4] (fun iv _ => iv = .int .i64 0) (fun _ _ => 0)
  case atStart => exact rfl
  case round =>
    obtain rfl := hrel
    go_wp2_with fail
    go_loop [5, 6, 7] (fun iv _ _ => iv = .int .i64 0) (fun _ _ _ => 0)
    case atStart => exact rfl
    case round =>
      obtain rfl := hrel
      go_wp2_with (go_at_call 96; (with_reducible refine (lookInts_nil _ bk).mono ?_); rintro e w2 ⟨rfl, rfl⟩)
      go_loop [8, 9, 10] (fun iv _ _ => iv = .int .i64 0) (fun _ _ _ => 0)
      case atStart => exact rfl
      case round =>
        obtain rfl := hrel
        go_wp2_with (go_at_call 96; (with_reducible refine (lookInts_nil _ bk).mono ?_); rintro e w2 ⟨rfl, rfl⟩)
        go_ret
        exact ⟨rfl, rfl⟩

set_option maxHeartbeats 1000000 in
set_option maxRecDepth 100000 in
theorem lookHandles_nil (w : World) (bk : Nat) : Calls Tryz.prog 99 #[.pointer (some ⟨bk, 0, none⟩), .slice none 0 0] w fun e w' => e = .returned (.bool true) ∧ w = w' := by
  go_enter Tryz.func99, Tryz.ntmps99
  go_wp2_with fail
  go_loop [5, 6, 7] (fun iv _ _ => iv = .int .i64 0) (fun _ _ _ => 0)
  case atStart => exact rfl
  case round =>
    obtain rfl := hrel
    go_wp2_with fail
    go_ret
    exact ⟨rfl, rfl⟩
set_option maxHeartbeats 1000000 in
set_option maxRecDepth 100000 in
theorem closeHandles_nil {w : World} {bk : Nat} (y0 : w.cell? ⟨bk, 12, none⟩ = some (.slice none 0 0)) (y1 : w.cell? ⟨bk, 14, none⟩ = some (.slice none 0 0)) (y2 : w.cell? ⟨bk, 15, none⟩ = some (.slice none 0 0)) :
    Calls Tryz.prog 54 #[.pointer (some ⟨bk, 0, none⟩)] w fun e w' => e = .returned (.bool true) ∧ w = w' := by
  go_enter Tryz.func54, Tryz.ntmps54
  go_wp2_with fail
  go_loop [3, 4] (fun iv _ => iv = .int .i64 0) (fun _ _ => 0)
  case atStart => exact rfl
  case round =>
    obtain rfl := hrel
    go_wp2_with fail
    go_loop [5, 6, 7] (fun iv _ _ => iv = .int .i64 0) (fun _ _ _ => 0)
    case atStart => exact rfl
    case round =>
      obtain rfl := hrel
      go_wp2_with (go_at_call 99; (with_reducible refine (lookHandles_nil _ bk).mono ?_); rintro e w2 ⟨rfl, rfl⟩)
      go_loop [8, 9, 10] (fun iv _ _ => iv = .int .i64 0) (fun _ _ _ => 0)
      case atStart => exact rfl
      case round =>
        obtain rfl := hrel
        go_wp2_with (go_at_call 99; (with_reducible refine (lookHandles_nil _ bk).mono ?_); rintro e w2 ⟨rfl, rfl⟩)
        go_ret
        exact ⟨rfl, rfl⟩

set_option maxHeartbeats 1000000 in
set_option maxRecDepth 100000 in
theorem lookEntries_nil (w : World) (bk : Nat) : Calls Tryz.prog 100 #[.pointer (some ⟨bk, 0, none⟩), .slice none 0 0] w fun e w' => e = .returned (.bool true) ∧ w = w' := by
  go_enter Tryz.func100, Tryz.ntmps100
  go_wp2_with fail
  go_loop [5, 6, 7] (fun iv _ _ => iv = .int .i64 0) (fun _ _ _ => 0)
  case atStart => exact rfl
  case round =>
    obtain rfl := hrel
    go_wp2_with fail
    go_ret
    exact ⟨rfl, rfl⟩
set_option maxHeartbeats 1000000 in
set_option maxRecDepth 100000 in
theorem closeEntries_nil {w : World} {bk : Nat} (y0 : w.cell? ⟨bk, 16, none⟩ = some (.slice none 0 0)) (y1 : w.cell? ⟨bk, 17, none⟩ = some (.slice none 0 0)) (y2 : w.cell? ⟨bk, 18, none⟩ = some (.slice none 0 0)) :
    Calls Tryz.prog 55 #[.pointer (some ⟨bk, 0, none⟩)] w fun e w' => e = .returned (.bool true) ∧ w = w' := by
  go_enter Tryz.func55, Tryz.ntmps55
  go_wp2_with fail
  go_loop [3, 4] (fun iv _ => iv = .int .i64 0) (fun _ _ => 0)
  case atStart => exact rfl
  case round =>
    obtain rfl := hrel
    go_wp2_with fail
    go_loop [5, 6, 7] (fun iv _ _ => iv = .int .i64 0) (fun _ _ _ => 0)
    case atStart => exact rfl
    case round =>
      obtain rfl := hrel
      go_wp2_with (go_at_call 100; (with_reducible refine (lookEntries_nil _ bk).mono ?_); rintro e w2 ⟨rfl, rfl⟩)
      go_loop [8, 9, 10] (fun iv _ _ => iv = .int .i64 0) (fun _ _ _ => 0)
      case atStart => exact rfl
      case round =>
        obtain rfl := hrel
        go_wp2_with (go_at_call 100; (with_reducible refine (lookEntries_nil _ bk).mono ?_); rintro e w2 ⟨rfl, rfl⟩)
        go_ret
        exact ⟨rfl, rfl⟩

set_option maxHeartbeats 1000000 in
set_option maxRecDepth 100000 in
theorem lookAnswers_nil (w : World) (bk : Nat) : Calls Tryz.prog 101 #[.pointer (some ⟨bk, 0, none⟩), .slice none 0 0] w fun e w' => e = .returned (.bool true) ∧ w = w' := by
  go_enter Tryz.func101, Tryz.ntmps101
  go_wp2_with fail
  go_loop [5, 6, 7] (fun iv _ _ => iv = .int .i64 0) (fun _ _ _ => 0)
  case atStart => exact rfl
  case round =>
    obtain rfl := hrel
    go_wp2_with fail
    go_ret
    exact ⟨rfl, rfl⟩
set_option maxHeartbeats 1000000 in
set_option maxRecDepth 100000 in
theorem closeAnswers_nil {w : World} {bk : Nat} (y0 : w.cell? ⟨bk, 19, none⟩ = some (.slice none 0 0)) (y1 : w.cell? ⟨bk, 20, none⟩ = some (.slice none 0 0)) (y2 : w.cell? ⟨bk, 21, none⟩ = some (.slice none 0 0)) :
    Calls Tryz.prog 56 #[.pointer (some ⟨bk, 0, none⟩)] w fun e w' => e = .returned (.bool true) ∧ w = w' := by
  go_enter Tryz.func56, Tryz.ntmps56
  go_wp2_with fail
  go_loop [3, 4] (fun iv _ => iv = .int .i64 0) (fun _ _ => 0)
  case atStart => exact rfl
  case round =>
    obtain rfl := hrel
    go_wp2_with fail
    go_loop [5, 6, 7] (fun iv _ _ => iv = .int .i64 0) (fun _ _ _ => 0)
    case atStart => exact rfl
    case round =>
      obtain rfl := hrel
      go_wp2_with (go_at_call 101; (with_reducible refine (lookAnswers_nil _ bk).mono ?_); rintro e w2 ⟨rfl, rfl⟩)
      go_loop [8, 9, 10] (fun iv _ _ => iv = .int .i64 0) (fun _ _ _ => 0)
      case atStart => exact rfl
      case round =>
        obtain rfl := hrel
        go_wp2_with (go_at_call 101; (with_reducible refine (lookAnswers_nil _ bk).mono ?_); rintro e w2 ⟨rfl, rfl⟩)
        go_ret
        exact ⟨rfl, rfl⟩

end Go.Proofs.YthgfjafnclklpaaGreatDoor
end
section
namespace Go.Proofs.YthgfjafnclklpaaGreatDoor
attribute [local go_sem ↓] Go.wp_at_zero Go.wp_at_succ
open Go.RowKit

/-- the elements of bytes, of texts -/
def byteF (l : Sp.Bs) (k : Nat) : List Value := [.int .u8 (l.getD k 0).toNat]
def textF (l : List Sp.Bs) (k : Nat) : List Value := [str (l.getD k [])]
theorem byteF_length (l : Sp.Bs) (k : Nat) : (byteF l k).length = 1 := rfl
theorem textF_length (l : List Sp.Bs) (k : Nat) : (textF l k).length = 1 := rfl
theorem byteF_one (l : Sp.Bs) : ∀ k, ∀ u ∈ byteF l k, u.oneCell' = true := fun k u hu => by unfold byteF at hu; rw [List.mem_singleton] at hu; rw [hu]; rfl
theorem textF_one (l : List Sp.Bs) : ∀ k, ∀ u ∈ textF l k, u.oneCell' = true := fun k u hu => by unfold textF at hu; rw [List.mem_singleton] at hu; rw [hu]; rfl
abbrev LotB (w : World) (v : Value) (l : Sp.Bs) : Prop := Lot w 1 v l.length l.length (byteF l)
abbrev LotT (w : World) (v : Value) (l : List Sp.Bs) : Prop := Lot w 1 v l.length l.length (textF l)
theorem LotB.row {w : World} {A : Option Addr} {n c : Nat} {l : Sp.Bs} (h : LotB w (.slice A n c) l) : RowAt w A (bytesV l) := by
  rcases h with ⟨h1, h2, _⟩ | ⟨g, cap, h1, _, ha⟩
  · injection h1 with h1 _ _
    subst h1
    left
    rw [List.eq_nil_of_length_eq_zero h2]; rfl
  · injection h1 with h1 _ _
    subst h1
    refine .inr ⟨g, 0, rfl, ha.lt, fun j u hu => ?_⟩
    have hj : j < l.length := by have := (List.getElem?_eq_some_iff.1 hu).1; simpa [bytesV] using this
    have := ha.cells j hj 0 (.int .u8 (l.getD j 0).toNat) rfl
    rw [Nat.mul_one, Nat.add_zero] at this
    rw [Nat.zero_add, this]
    rw [← hu]
    simp [bytesV, List.getD_eq_getElem?_getD, List.getElem?_eq_getElem hj]
theorem LotT.row {w : World} {A : Option Addr} {n c : Nat} {l : List Sp.Bs} (h : LotT w (.slice A n c) l) : RowAt w A (l.map str) := by
  rcases h with ⟨h1, h2, _⟩ | ⟨g, cap, h1, _, ha⟩
  · injection h1 with h1 _ _
    subst h1
    left
    rw [List.eq_nil_of_length_eq_zero h2]; rfl
  · injection h1 with h1 _ _
    subst h1
    refine .inr ⟨g, 0, rfl, ha.lt, fun j u hu => ?_⟩
    have hj : j < l.length := by have := (List.getElem?_eq_some_iff.1 hu).1; simpa using this
    have := ha.cells j hj 0 (str (l.getD j [])) rfl
    rw [Nat.mul_one, Nat.add_zero] at this
    rw [Nat.zero_add, this]
    rw [← hu]
    simp [List.getD_eq_getElem?_getD, List.getElem?_eq_getElem hj]

/-- what the i-th kept list holds -/
def keptB (bs : List Sp.Bs) (i : Nat) : Nat → List Value := byteF (bs.getD i [])
def keptT (ts : List (List Sp.Bs)) (i : Nat) : Nat → List Value := textF (ts.getD i [])
def sizeB (bs : List Sp.Bs) (i : Nat) : Nat := (bs.getD i []).length
def sizeT (ts : List (List Sp.Bs)) (i : Nat) : Nat := (ts.getD i []).length
def sizeS (ls : List Nat) (i : Nat) : Nat := ls.getD i 0

def bookArr (b0 b1 t0 t1 s0 : Value) (n : Int) : Array Value :=
  #[b0, b1, nilRow, nilRow, nilRow, nilRow, nilRow, nilRow, t0, t1, nilRow, nilRow, nilRow, nilRow, nilRow, nilRow, nilRow, nilRow, nilRow, nilRow, nilRow, nilRow, s0, nilRow, nilRow, nilRow, .int .i64 n]

/-- the Book in block bk: its rows, and the lists that it keeps -/
structure BookAt (w : World) (f : Nat → Lab) (bk : Nat) (b0 b1 t0 t1 s0 : Value) (n : Int) (vs ws us xs ss : List Value) (bs : List Sp.Bs) (ts : List (List Sp.Bs)) (ls : List Nat) : Prop where
  blk : Blk w bk 32 (bookArr b0 b1 t0 t1 s0 n)
  self : f bk = (1, 0)
  row0 : RowL w f (12, 0) b0 vs
  row1 : RowL w f (12, 1) b1 ws
  row2 : RowL w f (13, 0) t0 us
  row3 : RowL w f (13, 1) t1 xs
  row4 : RowL w f (14, 0) s0 ss
  len0 : vs.length = bs.length
  len1 : ws.length = bs.length
  len2 : us.length = ts.length
  len3 : xs.length = ts.length
  len4 : ss.length = ls.length
  lots0 : LotsAt w f 2 1 vs (sizeB bs) (sizeB bs) (keptB bs)
  lots1 : LotsAt w f 22 1 ws (sizeB bs) (sizeB bs) (keptB bs)
  lots2 : LotsAt w f 3 1 us (sizeT ts) (sizeT ts) (keptT ts)
  lots3 : LotsAt w f 23 1 xs (sizeT ts) (sizeT ts) (keptT ts)
  lots4 : LotsAt w f 4 16 ss (sizeS ls) (fun _ => 0) (fun _ _ => [])
  n0 : 0 ≤ n
  n1 : n ≤ 200000 + 140737488355328
  few : (bs.length : Int) + ts.length + ls.length ≤ n
  cnt : bs.length + ts.length + ls.length ≤ 200001
  big : (∀ b ∈ bs, b.length ≤ 70368744177664) ∧ (∀ t ∈ ts, t.length ≤ 1000000000) ∧ ∀ l ∈ ls, l ≤ 100000000

section
variable {w w1 : World} {f f1 : Nat → Lab} {P : Lab → Prop} {bk : Nat} {b0 b1 t0 t1 s0 : Value} {n : Int} {vs ws us xs ss : List Value} {bs : List Sp.Bs} {ts : List (List Sp.Bs)} {ls : List Nat}
/-- no label of the Book's -/
def NotBook (P : Lab → Prop) : Prop := ¬ P (1, 0) ∧ (∀ i, ¬ P (12, i) ∧ ¬ P (13, i) ∧ ¬ P (14, i)) ∧ ∀ i, ¬ P (2, i) ∧ ¬ P (22, i) ∧ ¬ P (3, i) ∧ ¬ P (23, i) ∧ ¬ P (4, i)
theorem BookAt.apart (h : BookAt w f bk b0 b1 t0 t1 s0 n vs ws us xs ss bs ts ls) (ho : OnlyL f f1 P w w1) (hn : NotBook P) : BookAt w1 f1 bk b0 b1 t0 t1 s0 n vs ws us xs ss bs ts ls :=
  { h with
    blk := h.blk.same (ho.block bk h.blk.lt (by rw [h.self]; exact hn.1))
    self := by rw [ho.lab bk h.blk.lt]; exact h.self
    row0 := h.row0.apart ho (hn.2.1 0).1
    row1 := h.row1.apart ho (hn.2.1 1).1
    row2 := h.row2.apart ho (hn.2.1 0).2.1
    row3 := h.row3.apart ho (hn.2.1 1).2.1
    row4 := h.row4.apart ho (hn.2.1 0).2.2
    lots0 := h.lots0.apart ho (fun i => (hn.2.2 i).1)
    lots1 := h.lots1.apart ho (fun i => (hn.2.2 i).2.1)
    lots2 := h.lots2.apart ho (fun i => (hn.2.2 i).2.2.1)
    lots3 := h.lots3.apart ho (fun i => (hn.2.2 i).2.2.2.1)
    lots4 := h.lots4.apart ho (fun i => (hn.2.2 i).2.2.2.2) }
/-- what makes new memory alone leaves the Book as it was, whatever the new blocks' labels -/
theorem OnlyL.of_new (h : Below w.heap.size w w1) (hf : ∀ k, k < w.heap.size → f1 k = f k) (hP : ∀ k, w.heap.size ≤ k → k < w1.heap.size → P (f1 k)) : OnlyL f f1 P w w1 :=
  ⟨h.os, h.tape, h.output, h.size, fun k hk _ => h.block k hk, hf, hP⟩
theorem BookAt.later (h : BookAt w f bk b0 b1 t0 t1 s0 n vs ws us xs ss bs ts ls) (hb : Below w.heap.size w w1) (hf : ∀ k, k < w.heap.size → f1 k = f k) : BookAt w1 f1 bk b0 b1 t0 t1 s0 n vs ws us xs ss bs ts ls := by
  have ho : OnlyL f f1 (fun _ => True) w w1 := OnlyL.of_new hb hf (fun _ _ _ => trivial)
  have ho2 : OnlyL f (fun k => if k < w.heap.size then f1 k else (0, 0)) (· = (0, 0)) w w1 := OnlyL.of_new hb (fun k hk => by rw [if_pos hk]; exact hf k hk) (fun k hk _ => by rw [if_neg (by omega)])
  have h2 := h.apart ho2 ⟨by decide, fun i => ⟨lab_ne (by decide), lab_ne (by decide), lab_ne (by decide)⟩, fun i => ⟨lab_ne (by decide), lab_ne (by decide), lab_ne (by decide), lab_ne (by decide), lab_ne (by decide)⟩⟩
  have hR : ∀ {l v zs}, RowL w f l v zs → RowL w1 f1 l v zs := fun hr => ⟨hr.lot.later hb, hr.lab.on ho hr.lot.lt⟩
  have hL : ∀ {kd sz zs ns ms} {F : Nat → Nat → List Value}, LotsAt w f kd sz zs ns ms F → LotsAt w1 f1 kd sz zs ns ms F := fun hl i u hu => by
    obtain ⟨g1, g2⟩ := hl i u hu
    exact ⟨g1.later hb, g2.on ho g1.lt⟩
  exact { h with
    blk := h.blk.later hb
    self := by rw [hf bk h.blk.lt]; exact h.self
    row0 := hR h.row0
    row1 := hR h.row1
    row2 := hR h.row2
    row3 := hR h.row3
    row4 := hR h.row4
    lots0 := hL h.lots0
    lots1 := hL h.lots1
    lots2 := hL h.lots2
    lots3 := hL h.lots3
    lots4 := hL h.lots4 }
theorem BookAt.new (w : World) (f : Nat → Lab) (hf : f w.heap.size = (1, 0)) : BookAt (w.alloc (.cells (bookArr nilRow nilRow nilRow nilRow nilRow 0) 32)) f w.heap.size nilRow nilRow nilRow nilRow nilRow 0 [] [] [] [] [] [] [] [] :=
  ⟨Blk.new w _ _, hf, RowL.nil _ _ _, RowL.nil _ _ _, RowL.nil _ _ _, RowL.nil _ _ _, RowL.nil _ _ _, rfl, rfl, rfl, rfl, rfl, LotsAt.nil _ _ _ _ _ _ _, LotsAt.nil _ _ _ _ _ _ _, LotsAt.nil _ _ _ _ _ _ _, LotsAt.nil _ _ _ _ _ _ _, LotsAt.nil _ _ _ _ _ _ _, Int.le_refl _, by decide, by decide, by decide, ⟨by simp, by simp, by simp⟩⟩
end

theorem LotsAt.apart' {w w1 : World} {f f1 : Nat → Lab} {P : Lab → Prop} {vs : List Value} {kd sz : Nat} {ns ms : Nat → Nat} {F : Nat → Nat → List Value} (h : LotsAt w f kd sz vs ns ms F) (ho : OnlyL f f1 P w w1) (hn : ∀ i, i < vs.length → ¬ P (kd, i)) : LotsAt w1 f1 kd sz vs ns ms F := fun i u hu => by
  obtain ⟨h1, h2⟩ := h i u hu
  exact ⟨h1.apart ho h2 (hn i (List.getElem?_eq_some_iff.1 hu).1), h2.on ho h1.lt⟩
theorem LotsAt.eq {w : World} {f : Nat → Lab} {vs : List Value} {kd sz : Nat} {ns ms ns' ms' : Nat → Nat} {F F' : Nat → Nat → List Value} (h : LotsAt w f kd sz vs ns ms F) (hn : ∀ i, i < vs.length → ns' i = ns i ∧ ms' i = ms i ∧ F' i = F i) : LotsAt w f kd sz vs ns' ms' F' := fun i u hu => by
  obtain ⟨h1, h2⟩ := h i u hu
  obtain ⟨e1, e2, e3⟩ := hn i (List.getElem?_eq_some_iff.1 hu).1
  exact ⟨by rw [e1, e2, e3]; exact h1, h2⟩
theorem getD_snoc_old {α : Type} (l : List α) (x d : α) {i : Nat} (h : i < l.length) : (l ++ [x]).getD i d = l.getD i d := by
  rw [List.getD_eq_getElem?_getD, List.getD_eq_getElem?_getD, List.getElem?_append_left h]
theorem getD_snoc_new {α : Type} (l : List α) (x d : α) : (l ++ [x]).getD l.length d = x := by
  rw [List.getD_eq_getElem?_getD, List.getElem?_append_right (Nat.le_refl _), Nat.sub_self]; rfl
theorem LotsAt.takeB {w : World} {f : Nat → Lab} {vs : List Value} {kd : Nat} {bs : List Sp.Bs} {l : Sp.Bs} {v : Value} (h : LotsAt w f kd 1 vs (sizeB bs) (sizeB bs) (keptB bs)) (hl : vs.length = bs.length) (h1 : LotB w v l) (h2 : LabV f v (kd, bs.length)) :
    LotsAt w f kd 1 (vs ++ [v]) (sizeB (bs ++ [l])) (sizeB (bs ++ [l])) (keptB (bs ++ [l])) := by
  refine LotsAt.snoc (h.eq fun i hi => ?_) ?_ (by rw [hl]; exact h2)
  · rw [hl] at hi
    exact ⟨by unfold sizeB; rw [getD_snoc_old _ _ _ hi], by unfold sizeB; rw [getD_snoc_old _ _ _ hi], by unfold keptB; rw [getD_snoc_old _ _ _ hi]⟩
  · rw [hl]
    have e1 : sizeB (bs ++ [l]) bs.length = l.length := by unfold sizeB; rw [getD_snoc_new]
    have e2 : keptB (bs ++ [l]) bs.length = byteF l := by unfold keptB; rw [getD_snoc_new]
    rw [e1, e2]; exact h1
theorem LotsAt.takeT {w : World} {f : Nat → Lab} {vs : List Value} {kd : Nat} {bs : List (List Sp.Bs)} {l : List Sp.Bs} {v : Value} (h : LotsAt w f kd 1 vs (sizeT bs) (sizeT bs) (keptT bs)) (hl : vs.length = bs.length) (h1 : LotT w v l) (h2 : LabV f v (kd, bs.length)) :
    LotsAt w f kd 1 (vs ++ [v]) (sizeT (bs ++ [l])) (sizeT (bs ++ [l])) (keptT (bs ++ [l])) := by
  refine LotsAt.snoc (h.eq fun i hi => ?_) ?_ (by rw [hl]; exact h2)
  · rw [hl] at hi
    exact ⟨by unfold sizeT; rw [getD_snoc_old _ _ _ hi], by unfold sizeT; rw [getD_snoc_old _ _ _ hi], by unfold keptT; rw [getD_snoc_old _ _ _ hi]⟩
  · rw [hl]
    have e1 : sizeT (bs ++ [l]) bs.length = l.length := by unfold sizeT; rw [getD_snoc_new]
    have e2 : keptT (bs ++ [l]) bs.length = textF l := by unfold keptT; rw [getD_snoc_new]
    rw [e1, e2]; exact h1

/-- what changes while a list of bytes is taken in: the Book, two rows, and the copy -/
def OnB1 (k : Nat) (l : Lab) : Prop := l = (1, 0) ∨ l = (12, 0) ∨ l = (12, 1) ∨ l = (22, k)
theorem onB1_not {k : Nat} {a b : Nat} (h1 : a ≠ 1) (h2 : a ≠ 12) (h3 : a = 22 → b ≠ k) : ¬ OnB1 k (a, b) := by
  rintro (h | h | h | h)
  · exact h1 (congrArg Prod.fst h)
  · exact h2 (congrArg Prod.fst h)
  · exact h2 (congrArg Prod.fst h)
  · exact h3 (congrArg Prod.fst h) (congrArg Prod.snd h)
theorem onB1_no {k : Nat} {a b : Nat} (h1 : a ≠ 1) (h2 : a ≠ 12) (h3 : a ≠ 22) : ¬ OnB1 k (a, b) := onB1_not h1 h2 (fun e => absurd e h3)
theorem BookAt.onBytes {w w1 : World} {f f1 : Nat → Lab} {bk : Nat} {b0 b1 t0 t1 s0 b0' b1' v x : Value} {n : Int} {vs ws us xs ss : List Value} {bs : List Sp.Bs} {ts : List (List Sp.Bs)} {ls : List Nat} {l : Sp.Bs}
    (h : BookAt w f bk b0 b1 t0 t1 s0 n vs ws us xs ss bs ts ls) (hl : LotB w v l) (hv : LabV f v (2, bs.length)) (hlen : l.length ≤ 70368744177664) (hn : n ≤ 200000) (ho : OnlyL f f1 (OnB1 bs.length) w w1)
    (hblk : Blk w1 bk 32 (bookArr b0' b1' t0 t1 s0 (n + l.length + 1))) (hr0 : RowL w1 f1 (12, 0) b0' (vs ++ [v])) (hr1 : RowL w1 f1 (12, 1) b1' (ws ++ [x])) (hx : LotB w1 x l) (hxl : LabV f1 x (22, bs.length)) :
    BookAt w1 f1 bk b0' b1' t0 t1 s0 (n + l.length + 1) (vs ++ [v]) (ws ++ [x]) us xs ss (bs ++ [l]) ts ls :=
  { blk := hblk
    self := by rw [ho.lab bk h.blk.lt]; exact h.self
    row0 := hr0
    row1 := hr1
    row2 := h.row2.apart ho (onB1_no (by decide) (by decide) (by decide))
    row3 := h.row3.apart ho (onB1_no (by decide) (by decide) (by decide))
    row4 := h.row4.apart ho (onB1_no (by decide) (by decide) (by decide))
    len0 := by rw [List.length_append, List.length_append, h.len0]; rfl
    len1 := by rw [List.length_append, List.length_append, h.len1]; rfl
    len2 := h.len2
    len3 := h.len3
    len4 := h.len4
    lots0 := (h.lots0.apart ho (fun i => onB1_no (by decide) (by decide) (by decide))).takeB h.len0 (hl.apart ho hv (onB1_no (by decide) (by decide) (by decide))) (hv.on ho hl.lt)
    lots1 := (h.lots1.apart' ho (fun i hi => onB1_not (by decide) (by decide) (fun _ => by rw [h.len1] at hi; omega))).takeB h.len1 hx hxl
    lots2 := h.lots2.apart ho (fun i => onB1_no (by decide) (by decide) (by decide))
    lots3 := h.lots3.apart ho (fun i => onB1_no (by decide) (by decide) (by decide))
    lots4 := h.lots4.apart ho (fun i => onB1_no (by decide) (by decide) (by decide))
    n0 := by have := h.n0; omega
    n1 := by omega
    few := by have := h.few; rw [List.length_append, List.length_singleton]; omega
    cnt := by have := h.few; rw [List.length_append, List.length_singleton]; omega
    big := ⟨fun b hb => by
      rcases List.mem_append.1 hb with hb | hb
      · exact h.big.1 b hb
      · rw [List.mem_singleton.1 hb]; exact hlen, h.big.2⟩ }

attribute [-go_sem] storeVar loadVar
theorem storeVar_intR (t : TypeId) (a : Addr) (k : IntKind) (n : Int) : type_of% (storeVar.eq_1 t a (.int k n)) := storeVar.eq_1 t a (.int k n)
theorem storeVar_sliceR (t : TypeId) (a : Addr) (p : Option Addr) (n c : Nat) : type_of% (storeVar.eq_1 t a (.slice p n c)) := storeVar.eq_1 t a (.slice p n c)
theorem loadVar_intR (a : Addr) : type_of% (loadVar.eq_1 3 a) := loadVar.eq_1 3 a
theorem loadVar_rowR (a : Addr) : type_of% (loadVar.eq_1 35 a) := loadVar.eq_1 35 a
theorem loadVar_rowsR (a : Addr) : type_of% (loadVar.eq_1 24 a) := loadVar.eq_1 24 a
theorem loadVar_textsR (a : Addr) : type_of% (loadVar.eq_1 33 a) := loadVar.eq_1 33 a
theorem loadVar_textssR (a : Addr) : type_of% (loadVar.eq_1 26 a) := loadVar.eq_1 26 a
attribute [local go_sem] storeVar_intR storeVar_sliceR loadVar_intR loadVar_rowR loadVar_rowsR loadVar_textsR loadVar_textssR
theorem info_u8R : (Tryz.prog.info? 5).map (fun i => (i.zero, i.size, i.bytes)) = some (some (.int .u8 0), 1, 1) := by kernel_rfl
theorem info_rowR : (Tryz.prog.info? 35).map (fun i => (i.zero, i.size, i.bytes)) = some (some (.slice none 0 0), 1, 24) := by kernel_rfl
theorem src_oneR (w : World) {tx e : TypeId} (ht : Tryz.prog.underlying tx = some (.slice e)) (u : Value) (h1 : u.oneCell' = true) (t : TypeId) : Src Tryz.prog 1 tx (.slice (some ⟨w.heap.size, 0, none⟩) 1 1) 1 [u] (w.alloc (.cells #[u] t)) :=
  Src.ofSlice _ ht _ 1 1 [u] rfl (cells_one w u t) (fun x hx => by rw [List.mem_singleton.1 hx]; exact h1)
theorem news_oneR {u : Value} {F : Nat → List Value} {n : Nat} (h : F n = [u]) : ∀ k, k < 1 → ∀ c, c < 1 → [u][k * 1 + c]? = (F (n + k))[c]? := fun k hk c hc => by
  obtain rfl : k = 0 := by omega
  obtain rfl : c = 0 := by omega
  show [u][0]? = (F n)[0]?
  rw [h]

theorem full_any {w : World} {bk : Nat} {n : Int} (y : w.cell? ⟨bk, 26, none⟩ = some (.int .i64 n)) : Calls Tryz.prog 49 #[.pointer (some ⟨bk, 0, none⟩)] w fun e w' => e = .returned (.bool (decide (200000 < n))) ∧ w = w' := by
  go_enter Tryz.func49, Tryz.ntmps49
  go_wp2_with fail
  go_ret
  exact ⟨rfl, rfl⟩

set_option maxHeartbeats 4000000 in
set_option maxRecDepth 100000 in
theorem bookBytes_any {w : World} {f : Nat → Lab} {bk : Nat} {b0 b1 t0 t1 s0 : Value} {n : Int} {vs ws us xs ss : List Value} {bs : List Sp.Bs} {ts : List (List Sp.Bs)} {ls : List Nat} {A : Option Addr} {c : Nat} {l : Sp.Bs}
    (h : BookAt w f bk b0 b1 t0 t1 s0 n vs ws us xs ss bs ts ls) (hl : LotB w (.slice A l.length c) l) (hv : LabV f (.slice A l.length c) (2, bs.length)) (hlen : l.length ≤ 70368744177664) (hn : n ≤ 200000) :
    Calls Tryz.prog 14 #[.pointer (some ⟨bk, 0, none⟩), .slice A l.length c] w fun e w' => e = .returned (.tuple #[]) ∧ ∃ f1 b0' b1' n' v x, OnlyL f f1 (OnB1 bs.length) w w' ∧ BookAt w' f1 bk b0' b1' t0 t1 s0 n' (vs ++ [v]) (ws ++ [x]) us xs ss (bs ++ [l]) ts ls := by
  have z26 : w.cell? ⟨bk, 26, none⟩ = some (.int .i64 n) := h.blk.cell 26
  have zf26 := h.blk.frozen 26
  have hfull := full_any z26
  rw [decide_eq_false (by omega)] at hfull
  have hn0 := h.n0
  obtain ⟨B0, cb0, hB0⟩ := h.row0.form
  obtain ⟨B1, cb1, hB1⟩ := h.row1.form
  subst hB0
  subst hB1
  have hvs : vs.length ≤ 200001 := by have := h.cnt; rw [h.len0]; omega
  have hws : ws.length ≤ 200001 := by have := h.cnt; rw [h.len1]; omega
  obtain ⟨v, hvv⟩ : ∃ v : Value, v = .slice A l.length c := ⟨_, rfl⟩
  rw [← hvv] at hl hv
  obtain ⟨W1, hW1⟩ : ∃ W1, W1 = w.setCell ⟨bk, 26, none⟩ (.int .i64 (n + (l.length : Int) + 1)) := ⟨_, rfl⟩
  have hp : OnlyL f f (OnB1 bs.length) w W1 := by rw [hW1]; exact OnlyL.of_put f w _ _ (.inl h.self)
  have hblk1 : Blk W1 bk 32 (bookArr (.slice B0 vs.length cb0) (.slice B1 ws.length cb1) t0 t1 s0 (n + l.length + 1)) := by
    rw [hW1]
    have := h.blk.put 26 (.int .i64 (n + (l.length : Int) + 1))
    exact this
  have hq : OnlyL f f (· = (1, 0)) w W1 := by rw [hW1]; exact OnlyL.of_put f w _ _ h.self
  have hrow0 := h.row0.apart hq (lab_ne (by decide))
  have hrow1 := h.row1.apart hq (lab_ne (by decide))
  have hl1 := hl.apart hq hv (lab_ne (by decide))
  have hw1 : Wrote f (relab f W1 (12, 0)) (12, 0) 1 (rowF (vs ++ [v])) W1 (W1.alloc (.cells #[v] 35)) := Wrote.of_below ((Below.refl _ _).alloc (Nat.le_refl _) _) f (12, 0) 1 _
  have hr1 := (hrow0.more v).conf (rowF_length _) hw1
  have hr2 : LabV (relab f W1 (12, 0)) (.slice B0 vs.length cb0) (12, 0) := hrow0.lab.on hw1.only hrow0.lot.lt
  have y0 : W1.cell? ⟨bk, 0, none⟩ = some (.slice B0 vs.length cb0) := hblk1.cell 0
  have hself := h.self
  have H := Lib.hid h
  have HL := Lib.hid hl
  have HV := Lib.hid hv
  have HVV := Lib.hid hvv
  have HFULL := Lib.hid hfull
  have HP := Lib.hid hp
  have HB1 := Lib.hid hblk1
  have HROW1 := Lib.hid hrow1
  have HL1 := Lib.hid hl1
  have HW1 := Lib.hid hw1
  have HR1 := Lib.hid hr1
  have HR2 := Lib.hid hr2
  have HWW := Lib.hid hW1
  have HSELF := Lib.hid hself
  clear h hl hv hfull hp hblk1 hq hrow0 hrow1 hl1 hw1 hr1 hr2 hW1 hself
  subst hvv
  obtain ⟨i0, hi0, hz0, hz1, hz2⟩ := info_parts info_u8R
  obtain ⟨j0, hj0, hy0, hy1, hy2⟩ := info_parts info_rowR
  go_enter Tryz.func14, Tryz.ntmps14
  go_upto_region 2 with (go_at_call 49; refine HFULL.out.mono ?_; rintro e w2 ⟨rfl, rfl⟩)
  rw [← HWW.out]
  clear z26 zf26
  go_upto_region 3 with (at_builtin; refine wpList_append_lot rfl (.tmp 21) (.tmp 23) 24 24 rfl (relab f W1 (12, 0)) (12, 0) (rowF (vs ++ [.slice A l.length c])) 35 j0 _ 1 24 Tryz.underlying24 hj0 hy0 hy1 hy2 rfl (rowF_length _) (.slice B0 vs.length cb0) vs.length rfl HR1.out HR2.out _ 1 _ rfl (src_oneR W1 Tryz.underlying24 (.slice A l.length c) rfl _) (news_oneR (rowF_last vs _)) (by decide) ?_ ?_ ?_; (unfold maxLen; omega); omega; intro g3 c3 w3 hl5 hb5 hw5; have ho5 := HW1.out.only.trans hw5.only; have hrl := RowL.of_append hl5 hb5; have hblk5 := HB1.out.same (ho5.block bk HB1.out.lt (fun e => lab_ne (by decide) (HSELF.out.symm.trans e))); have x0 : w3.cell? ⟨bk, 0, none⟩ = some (.slice B0 vs.length cb0) := hblk5.cell 0; have x0f := hblk5.frozen 0; have HO5 := Lib.hid ho5; have HRL := Lib.hid hrl; have HB5 := Lib.hid hblk5; clear hl5 hb5 hw5 ho5 hrl hblk5)
  obtain ⟨f2, hf2⟩ : ∃ f2, f2 = relab (relab f W1 (12, 0)) (W1.alloc (.cells #[.slice A l.length c] 35)) (12, 0) := ⟨_, rfl⟩
  rw [← hf2] at HO5 HRL
  obtain ⟨W2, hW2⟩ : ∃ W2, W2 = w3.setCell ⟨bk, 0, none⟩ (.slice (some ⟨g3, 0, none⟩) (vs.length + 1) c3) := ⟨_, rfl⟩
  have hself2 : f2 bk = (1, 0) := by rw [HO5.out.lab bk HB1.out.lt]; exact HSELF.out
  have hput : OnlyL f2 f2 (· = (1, 0)) w3 W2 := by rw [hW2]; exact OnlyL.of_put f2 w3 _ _ hself2
  have hblk2 : Blk W2 bk 32 (bookArr (.slice (some ⟨g3, 0, none⟩) (vs.length + 1) c3) (.slice B1 ws.length cb1) t0 t1 s0 (n + l.length + 1)) := by
    rw [hW2]
    have := HB5.out.put 0 (.slice (some ⟨g3, 0, none⟩) (vs.length + 1) c3)
    exact this
  have hrow0 := HRL.out.apart hput (lab_ne (by decide))
  have hrow1 := (HROW1.out.apart HO5.out (lab_ne2 (by decide))).apart hput (lab_ne (by decide))
  have hl2 := (HL1.out.apart HO5.out HV.out (lab_ne (by decide)))
  have hlv2 := HV.out.on HP.out HL.out.lt
  have hl3 := hl2.apart hput (hlv2.on HO5.out HL1.out.lt) (lab_ne (by decide))
  have hoAll : OnlyL f f2 (OnB1 bs.length) w W2 := (HP.out.trans (HO5.out.mono fun l hl => by subst hl; exact .inr (.inl rfl))).trans (hput.mono fun l hl => by subst hl; exact .inl rfl)
  have hwe : Wrote f2 (relab f2 W2 (22, bs.length)) (22, bs.length) 1 (byteF l) W2 (W2.alloc (.cells #[] 5)) := Wrote.of_below ((Below.refl _ _).alloc (Nat.le_refl _) _) f2 _ 1 _
  have hle : Lot (W2.alloc (.cells #[] 5)) 1 (.slice (some ⟨W2.heap.size, 0, none⟩) 0 0) 0 0 (byteF l) := Lot.empty (by simp)
  have hlel : LabV (relab f2 W2 (22, bs.length)) (.slice (some ⟨W2.heap.size, 0, none⟩) 0 0) (22, bs.length) := LabV.of_eq (relab_new (Nat.le_refl _))
  have hsrc : Src Tryz.prog 1 35 (.slice A l.length c) l.length ((List.range l.length).flatMap (byteF l)) (W2.alloc (.cells #[] 5)).drew := (hl3.later ((Below.refl _ _).alloc (Nat.le_refl _) _)).drew.src Tryz.underlying35 (byteF_length l) (byteF_one l)
  have hnews : ∀ k, k < l.length → ∀ c, c < 1 → ((List.range l.length).flatMap (byteF l))[k * 1 + c]? = (byteF l (0 + k))[c]? := fun k hk c hc => by rw [Nat.zero_add]; exact src_news (byteF_length l) hk hc
  have z1 : W2.cell? ⟨bk, 1, none⟩ = some (.slice B1 ws.length cb1) := hblk2.cell 1
  have hlt2 := hblk2.lt
  have HROW0 := Lib.hid hrow0
  have HROW1' := Lib.hid hrow1
  have HALL := Lib.hid hoAll
  have HWE := Lib.hid hwe
  have HLE := Lib.hid hle.drew
  have HLEL := Lib.hid hlel
  have HSRC := Lib.hid hsrc
  have HNEWS := Lib.hid hnews
  have HBLK2 := Lib.hid hblk2
  have HSELF2 := Lib.hid hself2
  rw [← hW2]
  clear hf2 hW2 hself2 hput hblk2 hrow0 hrow1 hl2 hlv2 hl3 hoAll hwe hle hlel hsrc hnews x0 x0f y0
  go_wp2_with fail
  go_region_law (first
      | (refine step_append_lotv rfl (.tmp 32) (.tmp 33) 35 35 rfl (relab f2 W2 (22, bs.length)) (22, bs.length) (byteF l) 5 i0 _ 1 1 Tryz.underlying35 hi0 hz0 hz1 hz2 rfl (byteF_length l) (.slice (some ⟨W2.heap.size, 0, none⟩) 0 0) 0 rfl HLE.out HLEL.out (.slice A l.length c) l.length _ rfl HSRC.out HNEWS.out ?_ ?_ ?_; (unfold maxLen; omega); omega; intro v4 w4 hl4 hb4 hw4; rw [Nat.zero_add] at hl4; obtain ⟨A4, c4, rfl⟩ := hl4.form; have hw4' := HWE.out.trans hw4.undrew; have hr4 := HROW1'.out.apart hw4'.only (lab_ne (by decide)); have hblk4 := HBLK2.out.same (hw4'.only.block bk HBLK2.out.lt (fun e => lab_ne (by decide) (HSELF2.out.symm.trans e))); have hself4 := (hw4'.only.lab bk HBLK2.out.lt).trans HSELF2.out; have z1 : w4.cell? ⟨bk, 1, none⟩ = some (.slice B1 ws.length cb1) := hblk4.cell 1; have z1a := cell_alloc z1 (.cells #[.slice A4 l.length c4] 35); have hw5 : Wrote _ (relab (relab (relab f2 W2 (22, bs.length)) (W2.alloc (.cells #[] 5)).drew (22, bs.length)) w4 (12, 1)) (12, 1) 1 (rowF (ws ++ [.slice A4 l.length c4])) w4 (w4.alloc (.cells #[.slice A4 l.length c4] 35)) := Wrote.of_below ((Below.refl _ _).alloc (Nat.le_refl _) _) _ (12, 1) 1 _; have hr5 := (hr4.more (.slice A4 l.length c4)).conf (rowF_length _) hw5; have hr6 := hr4.lab.on hw5.only hr4.lot.lt; have HW5 := Lib.hid hw5; have HR5 := Lib.hid hr5; have HR6 := Lib.hid hr6; have HW4 := Lib.hid hw4'; have HL4 := Lib.hid hl4; have HB4 := Lib.hid hb4; have HBLK4 := Lib.hid hblk4; have HSELF4 := Lib.hid hself4; clear hl4 hb4 hw4 hw4' hr4 hblk4 hself4 hw5 hr5 hr6)
      | (refine step_append_lot rfl (.tmp 31) (.tmp 35) 24 24 rfl _ (12, 1) (rowF (ws ++ [.slice A4 l.length c4])) 35 j0 _ 1 24 Tryz.underlying24 hj0 hy0 hy1 hy2 rfl (rowF_length _) (.slice B1 ws.length cb1) ws.length rfl HR5.out HR6.out _ 1 _ rfl (src_oneR w4 Tryz.underlying24 (.slice A4 l.length c4) rfl _) (news_oneR (rowF_last ws _)) (by decide) ?_ ?_ ?_; (unfold maxLen; omega); omega; intro g7 c7 w7 hl7 hb7 hw7; have ho7 := HW5.out.only.trans hw7.only; have hrl := RowL.of_append hl7 hb7; have hblk7 := HBLK4.out.same (ho7.block bk HBLK4.out.lt (fun e => lab_ne (by decide) (HSELF4.out.symm.trans e))); have z1 : w7.cell? ⟨bk, 1, none⟩ = some (.slice B1 ws.length cb1) := hblk7.cell 1; have z1f := hblk7.frozen 1; have HO7 := Lib.hid ho7; have HRL7 := Lib.hid hrl; have HBLK7 := Lib.hid hblk7; clear hl7 hb7 hw7 ho7 hrl hblk7))
  all_goals
    refine ⟨rfl, .tuple #[], by simp [results, Tryz.results14, go_sem], rfl, ?_⟩
    have hself7 := (HO7.out.lab bk HBLK4.out.lt).trans HSELF4.out
    have hp8 := OnlyL.of_put (P := (· = ((1, 0) : Lab))) _ w7 ⟨bk, 1, none⟩ (.slice (some ⟨g7, 0, none⟩) (ws.length + 1) c7) hself7
    have hblk8 := HBLK7.out.put 1 (.slice (some ⟨g7, 0, none⟩) (ws.length + 1) c7)
    have ho8 := ((HALL.out.trans (HW4.out.only.mono (Q := OnB1 bs.length) fun l hl => by subst hl; exact .inr (.inr (.inr rfl)))).trans (HO7.out.mono (Q := OnB1 bs.length) fun l hl => by subst hl; exact .inr (.inr (.inl rfl)))).trans (hp8.mono (Q := OnB1 bs.length) fun l hl => by subst hl; exact .inl rfl)
    have hx7 := HL4.out.apart HO7.out HB4.out (lab_ne (by decide))
    have hxl7 := HB4.out.on HO7.out HL4.out.lt
    have hx8 := hx7.apart hp8 hxl7 (lab_ne (by decide))
    have hxl8 := hxl7.on hp8 hx7.lt
    have hr0 := ((HROW0.out.apart HW4.out.only (lab_ne (by decide))).apart HO7.out (lab_ne2 (by decide))).apart hp8 (lab_ne (by decide))
    have hr1 := HRL7.out.apart hp8 (lab_ne (by decide))
    exact ⟨_, _, _, _, _, _, ho8, H.out.onBytes HL.out HV.out hlen hn ho8 hblk8 hr0 hr1 hx8 hxl8⟩
end Go.Proofs.YthgfjafnclklpaaGreatDoor
end
section
namespace Go.Proofs.YthgfjafnclklpaaGreatDoor
attribute [local go_sem ↓] Go.wp_at_zero Go.wp_at_succ
open Go.RowKit
attribute [-go_sem] storeVar loadVar
theorem loadVar_intsB (a : Addr) : type_of% (loadVar.eq_1 25 a) := loadVar.eq_1 25 a
theorem loadVar_handlesB (a : Addr) : type_of% (loadVar.eq_1 27 a) := loadVar.eq_1 27 a
theorem loadVar_entriesB (a : Addr) : type_of% (loadVar.eq_1 28 a) := loadVar.eq_1 28 a
attribute [local go_sem] storeVar_intR storeVar_sliceR loadVar_intR loadVar_rowR loadVar_rowsR loadVar_textsR loadVar_textssR loadVar_intsB loadVar_handlesB loadVar_entriesB

set_option maxHeartbeats 8000000 in
set_option maxRecDepth 100000 in
theorem stands_any {w : World} {f : Nat → Lab} {bk : Nat} {b0 b1 t0 t1 s0 : Value} {n : Int} {vs ws us xs ss : List Value} {bs : List Sp.Bs} {ts : List (List Sp.Bs)} {ls : List Nat} (h : BookAt w f bk b0 b1 t0 t1 s0 n vs ws us xs ss bs ts ls) :
    Calls Tryz.prog 50 #[.pointer (some ⟨bk, 0, none⟩)] w fun e w' => e = .returned (.bool true) ∧ Below w.heap.size w w' := by
  generalize hR : (fun (e : Ending) (w' : World) => e = .returned (.bool true) ∧ Below w.heap.size w w') = R
  obtain ⟨B0, cb0, hB0⟩ := h.row0.form
  obtain ⟨B1, cb1, hB1⟩ := h.row1.form
  obtain ⟨T0, ct0, hT0⟩ := h.row2.form
  obtain ⟨T1, ct1, hT1⟩ := h.row3.form
  subst hB0 hB1 hT0 hT1
  have hvs : vs.length ≤ 200001 := by have := h.cnt; rw [h.len0]; omega
  have hus : us.length ≤ 200001 := by have := h.cnt; rw [h.len2]; omega
  have HR := Lib.hid hR
  have H := Lib.hid h
  clear hR h
  go_enter Tryz.func50, Tryz.ntmps50
  go_wp2_with fail
  go_loopw [3] (fun iv wr => ∃ i : Nat, i ≤ vs.length ∧ iv = .int .i64 i ∧ Below w.heap.size w wr) (fun iv _ => vs.length - (intOf iv).toNat)
  case atStart => exact ⟨0, Nat.zero_le _, rfl, Below.refl _ _⟩
  case round =>
    obtain ⟨i, hi, rfl, hb⟩ := hrel
    have hbk := H.out.later hb (fun _ _ => rfl)
    have z0 : wr.cell? ⟨bk, 0, none⟩ = some (.slice B0 vs.length cb0) := hbk.blk.cell 0
    have z1 : wr.cell? ⟨bk, 1, none⟩ = some (.slice B1 ws.length cb1) := hbk.blk.cell 1
    by_cases hlt : i < vs.length
    · have hw1 : ws.length = vs.length := by rw [H.out.len1, H.out.len0]
      obtain ⟨u, hu⟩ : ∃ u, vs[i]? = some u := ⟨vs[i], List.getElem?_eq_getElem hlt⟩
      obtain ⟨x, hx⟩ : ∃ x, ws[i]? = some x := ⟨ws[i]'(by omega), List.getElem?_eq_getElem _⟩
      obtain ⟨g0, c0, e0, y0, _⟩ := hbk.row0.at hu
      obtain ⟨g1, c1, e1, y1, _⟩ := hbk.row1.at hx
      injection e0 with e0 e2 e3
      subst e0 e3
      injection e1 with e1 e4 e5
      subst e1 e5
      have hlu := (hbk.lots0 i u hu).1
      have hlx := (hbk.lots1 i x hx).1
      obtain ⟨U, cu, rfl⟩ := hlu.form
      obtain ⟨X, cx, rfl⟩ := hlx.form
      have hru : RowAt wr U (bytesV (bs.getD i [])) := LotB.row hlu
      have hrx : RowAt wr X (bytesV (bs.getD i [])) := LotB.row hlx
      have hcu : ∀ W : World, Below wr.heap.size wr W → (convert 35 9 (.slice U (sizeB bs i) cu)).run Tryz.prog W = .ok (str (bs.getD i [])) W := fun W hW => run_bytes_str (cap := cu) (hru.below hW)
      have hcx : ∀ W : World, Below wr.heap.size wr W → (convert 35 9 (.slice X (sizeB bs i) cx)).run Tryz.prog W = .ok (str (bs.getD i [])) W := fun W hW => run_bytes_str (cap := cx) (hrx.below hW)
      obtain ⟨l, hl⟩ : ∃ l, l = bs.getD i [] := ⟨_, rfl⟩
      obtain ⟨k, hk⟩ : ∃ k, k = sizeB bs i := ⟨_, rfl⟩
      rw [← hl, ← hk] at hcu hcx
      rw [← hk] at y0 y1
      have hd1 := hcu wr.drew ((Below.refl _ _).drew)
      have hd2 := hcx wr.drew ((Below.refl _ _).drew)
      have hd3 := hcu wr (Below.refl _ _)
      have hd4 := hcx wr (Below.refl _ _)
      have hi1 : (i : Int) < (vs.length : Int) := by omega
      have hi2 : (i : Int) < (ws.length : Int) := by omega
      have hll : (l == l) = true := by simp
      have HB := Lib.hid hb
      clear hb hbk hu hx hlu hlx hru hrx hl hk hcu hcx e2 e4 hlt hw1
      go_wp2_with fail
      go_region_law (fail)
      all_goals
        go_wp2_with fail
        exact ⟨⟨i + 1, by omega, by go_num, HB.out.drew⟩, by show vs.length - ((i : Int) + 1).toNat < vs.length - (i : Int).toNat; omega⟩
    · have hi1 : decide (i < vs.length) = false := decide_eq_false (by omega)
      have z4 : wr.cell? ⟨bk, 4, none⟩ = some nilRow := hbk.blk.cell 4
      have HB := Lib.hid hb
      clear hbk hb hlt
      go_wp2_with fail
      go_loopw [4] (fun iv wx => iv = .int .i64 0 ∧ wx = wr) (fun _ _ => 0)
      case atStart => exact ⟨rfl, rfl⟩
      case round =>
        obtain ⟨rfl, rfl⟩ := hrel
        go_wp2_with fail
        go_loopw [5] (fun iv wx => ∃ i : Nat, i ≤ us.length ∧ iv = .int .i64 i ∧ Below w.heap.size w wx) (fun iv _ => us.length - (intOf iv).toNat)
        case atStart => exact ⟨0, Nat.zero_le _, rfl, HB.out⟩
        case round =>
          obtain ⟨i, hi, rfl, hb⟩ := hrel
          have hbk := H.out.later hb (fun _ _ => rfl)
          have z8 : wr.cell? ⟨bk, 8, none⟩ = some (.slice T0 us.length ct0) := hbk.blk.cell 8
          have z9 : wr.cell? ⟨bk, 9, none⟩ = some (.slice T1 xs.length ct1) := hbk.blk.cell 9
          by_cases hlt : i < us.length
          · have hw1 : xs.length = us.length := by rw [H.out.len2, H.out.len3]
            obtain ⟨u, hu⟩ : ∃ u, us[i]? = some u := ⟨us[i], List.getElem?_eq_getElem hlt⟩
            obtain ⟨x, hx⟩ : ∃ x, xs[i]? = some x := ⟨xs[i]'(by omega), List.getElem?_eq_getElem _⟩
            obtain ⟨g0, c0, e0, y0, _⟩ := hbk.row2.at hu
            obtain ⟨g1, c1, e1, y1, _⟩ := hbk.row3.at hx
            injection e0 with e0 e2 e3
            subst e0 e3
            injection e1 with e1 e4 e5
            subst e1 e5
            have hlu := (hbk.lots2 i u hu).1
            have hlx := (hbk.lots3 i x hx).1
            obtain ⟨U, cu, rfl⟩ := hlu.form
            obtain ⟨X, cx, rfl⟩ := hlx.form
            have hru : RowAt wr U ((ts.getD i []).map str) := LotT.row hlu
            have hrx : RowAt wr X ((ts.getD i []).map str) := LotT.row hlx
            have hbig : (ts.getD i []).length ≤ 1000000000 := by
              rw [List.getD_eq_getElem?_getD, List.getElem?_eq_getElem (by rw [← H.out.len2]; exact hlt)]
              exact H.out.big.2.1 _ (List.getElem_mem _)
            have hca : ∀ W : World, Below wr.heap.size wr W → Calls Tryz.prog 48 #[.slice U (sizeT ts i) cu, .slice X (sizeT ts i) cx] W fun e w' => e = .returned (.bool true) ∧ Below W.heap.size W w' := fun W hW => texts_same (l := ts.getD i []) hbig (hru.below hW) (hrx.below hW)
            obtain ⟨k, hk⟩ : ∃ k, k = sizeT ts i := ⟨_, rfl⟩
            rw [← hk] at hca y0 y1
            have hi1 : (i : Int) < (us.length : Int) := by omega
            have hi2 : (i : Int) < (xs.length : Int) := by omega
            have HB := Lib.hid hb
            have HCA := Lib.hid hca
            clear hb hbk hu hx hlu hlx hru hrx hk hca e2 e4 hlt hw1 hbig
            go_wp2_with fail
            go_region_held3 (fun w' => w'.cell? ⟨bk, 8, none⟩ = some (.slice (some ⟨g0, 0, none⟩) us.length ct0) ∧ w'.cell? ⟨bk, 9, none⟩ = some (.slice (some ⟨g1, 0, none⟩) xs.length ct1) ∧ w'.cell? ⟨g0, i, none⟩ = some (.slice U k cu) ∧ w'.cell? ⟨g1, i, none⟩ = some (.slice X k cx)) (first | exact ⟨z8, z9, y0, y1⟩ | go_keep) ((go_at_call 48; refine (HCA.out _ ((Below.refl _ _).drew)).mono ?_; rintro e w2 ⟨rfl, hb2⟩; have hb3 := ((Below.refl wr.heap.size wr).drew).trans hb2; have z8 := (hb3.cell (p := ⟨bk, 8, none⟩) (World.block_lt_of_cell? wr _ z8)).trans z8; have z9 := (hb3.cell (p := ⟨bk, 9, none⟩) (World.block_lt_of_cell? wr _ z9)).trans z9; have y0 := (hb3.cell (p := ⟨g0, i, none⟩) (World.block_lt_of_cell? wr _ y0)).trans y0; have y1 := (hb3.cell (p := ⟨g1, i, none⟩) (World.block_lt_of_cell? wr _ y1)).trans y1; have HB3 := Lib.hid hb3; clear hb2 hb3))
            go_wp2_with fail
            exact ⟨⟨i + 1, by omega, by go_num, HB.out.trans (HB3.out.mono HB.out.size)⟩, by show us.length - ((i : Int) + 1).toNat < us.length - (i : Int).toNat; omega⟩
          · have hi1 : decide (i < us.length) = false := decide_eq_false (by omega)
            have z12 : wr.cell? ⟨bk, 12, none⟩ = some nilRow := hbk.blk.cell 12
            have z16 : wr.cell? ⟨bk, 16, none⟩ = some nilRow := hbk.blk.cell 16
            have HB := Lib.hid hb
            clear hbk hb hlt
            go_wp2_with fail
            go_loopw [6] (fun iv wx => iv = .int .i64 0 ∧ wx = wr) (fun _ _ => 0)
            case atStart => exact ⟨rfl, rfl⟩
            case round =>
              obtain ⟨rfl, rfl⟩ := hrel
              go_wp2_with fail
              go_loopw [7] (fun iv wx => iv = .int .i64 0 ∧ wx = wr) (fun _ _ => 0)
              case atStart => exact ⟨rfl, rfl⟩
              case round =>
                obtain ⟨rfl, rfl⟩ := hrel
                go_wp2_with fail
                rw [← HR.out]
                exact ⟨rfl, HB.out⟩
end Go.Proofs.YthgfjafnclklpaaGreatDoor
end
section
namespace Go.Proofs.YthgfjafnclklpaaGreatDoor
attribute [local go_sem ↓] Go.wp_at_zero Go.wp_at_succ
open Go.RowKit

theorem LotsAt.fresh {w : World} {f : Nat → Lab} {vs : List Value} {kd sz : Nat} {ns ms : Nat → Nat} {F G : Nat → Nat → List Value} (h : LotsAt w f kd sz vs ns ms F) : LotsAt w f kd sz vs ns (fun j => if j < 0 then ns j else if j = 0 then 0 else 0) G := fun i u hu => by
  obtain ⟨h1, h2⟩ := h i u hu
  refine ⟨?_, h2⟩
  have : (if i < 0 then ns i else if i = 0 then 0 else 0) = 0 := by rw [if_neg (Nat.not_lt_zero i)]; split <;> rfl
  dsimp only
  rw [this]
  exact h1.blank _
theorem sizeB_le {bs : List Sp.Bs} (h : ∀ b ∈ bs, b.length ≤ 70368744177664) (i : Nat) : sizeB bs i ≤ 70368744177664 := by
  unfold sizeB
  rw [List.getD_eq_getElem?_getD]
  cases hx : bs[i]? with
  | none => exact Nat.zero_le _
  | some b => exact h b (List.mem_of_getElem? hx)

/-- behind Stands and closeBytes -/
theorem closeBytes_book {w : World} {f : Nat → Lab} {bk : Nat} {b0 b1 t0 t1 s0 : Value} {n : Int} {vs ws us xs ss : List Value} {bs : List Sp.Bs} {ts : List (List Sp.Bs)} {ls : List Nat} (h : BookAt w f bk b0 b1 t0 t1 s0 n vs ws us xs ss bs ts ls) :
    Calls Tryz.prog 51 #[.pointer (some ⟨bk, 0, none⟩)] w fun e w' => e = .returned (.bool true) ∧ ∃ f' arr', OnlyL f f' (OnK 2) w w' ∧ Blk w' bk 32 arr' ∧ ∀ j, j ≠ 2 → j ≠ 3 → arr'[j]? = (bookArr b0 b1 t0 t1 s0 n)[j]? := by
  have hN : vs.length ≤ 300000 := by have := h.cnt; rw [h.len0]; omega
  refine (closeBytes_any (f := f) (arr := bookArr b0 b1 t0 t1 s0 n) (b0 := b0) (vs := vs) (ns := sizeB bs) h.self hN (sizeB_le h.big.1) rfl rfl rfl rfl ⟨h.blk, h.row0, h.lots0.fresh, OnlyL.refl _ _ _⟩).mono ?_
  rintro e w' ⟨rfl, f', arr', os, ms, b2, b3, hs⟩
  exact ⟨rfl, f', arr', hs.only, hs.blk, hs.ars⟩

end Go.Proofs.YthgfjafnclklpaaGreatDoor
end
