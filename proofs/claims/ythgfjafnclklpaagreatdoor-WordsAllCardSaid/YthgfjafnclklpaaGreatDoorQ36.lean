/- Lists of flags that were told: taken in; written full and grown (its parts). Lists of flags that were told: written full, grown, looked at. Bytes that are lent: with marks behind them; looked at; written over. -/
import Derived.Test.YthgfjafnclklpaaGreatDoorBx
import Derived.Test.YthgfjafnclklpaaGreatDoorRE
import Derived.Test.YthgfjafnclklpaaGreatDoorG2
import Derived.Test.YthgfjafnclklpaaGreatDoorL2
import Derived.Test.YthgfjafnclklpaaGreatDoorQ25
import Derived.Test.YthgfjafnclklpaaGreatDoorOc
import Derived.Laws.MakeOwn
section
namespace Go.Proofs.YthgfjafnclklpaaGreatDoor
attribute [local go_sem ↓] Go.wp_at_zero Go.wp_at_succ
open Go.RowKit

/-- the mark of place k of the i-th list of flags -/
def markF (i k : Nat) : List Value := [.int .u8 (IntKind.u8.wrap (k : Int)), str (Lib.decDigits i), .bool false]
theorem markF_length (i k : Nat) : (markF i k).length = 3 := rfl
theorem info_flagB : (Tryz.prog.info? 94).map (fun i => (i.zero, i.size, i.bytes)) = some (some (.agg #[.int .u8 0, .string ⟨#[]⟩, .bool false]), 3, 32) := by kernel_rfl
theorem info_flagsB : (Tryz.prog.info? 36).map (fun i => (i.zero, i.size, i.bytes)) = some (some (.slice none 0 0), 1, 24) := by kernel_rfl
theorem run_store_flag (w : World) (b o : Nat) (l : Int) (s : ByteArray) (h : Bool) (ht : canPut w b o 3 = true) :
    (storeVar 94 ⟨b, o, none⟩ (.agg #[.int .u8 l, .string s, .bool h])).run Tryz.prog w = .ok () (w.setCells b o [.int .u8 l, .string s, .bool h]) :=
  run_storeVar_mid w b o _ _ (canPut_there ht) (by kernel_rfl) (by simp [Value.oneCell'])
theorem canPut_of {w : World} {b o n : Nat} (h : ∀ j, j < n → (w.cell? ⟨b, o + j, none⟩).isSome = true ∧ w.frozen? ⟨b, o + j, none⟩ = false) : canPut w b o n = true := by
  unfold canPut
  rw [List.all_eq_true]
  intro j hj
  have := h j (by simpa using hj)
  simpa using this
/-- a new element of several cells, to be appended -/
theorem src_agg (w : World) {tx e : TypeId} (ht : Tryz.prog.underlying tx = some (.slice e)) (cs : List Value) (h1 : ∀ u ∈ cs, u.oneCell' = true) (t : TypeId) : Src Tryz.prog cs.length tx (.slice (some ⟨w.heap.size, 0, none⟩) 1 1) 1 cs (w.alloc (.cells cs.toArray t)) :=
  Src.ofSlice _ ht _ 1 1 cs (by rw [Nat.one_mul]) (fun j v hv => by
    have hb := (Blk.new w t cs.toArray).cell j
    rw [Addr.add_mid, Nat.zero_add, hb]; simpa using hv) h1

/-- the lists of flags in block mk -/
structure FlagsAt (w : World) (f : Nat → Lab) (mk : Nat) (fv : Value) (vs : List Value) (ns : Nat → Nat) : Prop where
  blk : Blk w mk 57 #[fv]
  self : f mk = (50, 0)
  row : RowL w f (62, 0) fv vs
  lots : LotsAt w f 52 3 vs ns (fun _ => 0) (fun i => markF i)
  few : vs.length ≤ 300
  big : ∀ i, ns i ≤ 1000000
def OnF (l : Lab) : Prop := l = (50, 0) ∨ l = (62, 0)
def NotFlags (P : Lab → Prop) : Prop := ¬ P (50, 0) ∧ ¬ P (62, 0) ∧ ∀ i, ¬ P (52, i)
section
variable {w w1 : World} {f f1 : Nat → Lab} {P : Lab → Prop} {mk : Nat} {fv : Value} {vs : List Value} {ns : Nat → Nat}
theorem FlagsAt.apart (h : FlagsAt w f mk fv vs ns) (ho : OnlyL f f1 P w w1) (hn : NotFlags P) : FlagsAt w1 f1 mk fv vs ns :=
  { h with
    blk := h.blk.same (ho.block mk h.blk.lt (by rw [h.self]; exact hn.1))
    self := by rw [ho.lab mk h.blk.lt]; exact h.self
    row := h.row.apart ho hn.2.1
    lots := h.lots.apart ho hn.2.2 }
theorem FlagsAt.later (h : FlagsAt w f mk fv vs ns) (hb : Below w.heap.size w w1) (hf : ∀ k, k < w.heap.size → f1 k = f k) : FlagsAt w1 f1 mk fv vs ns :=
  { h with
    blk := h.blk.later hb
    self := by rw [hf mk h.blk.lt]; exact h.self
    row := ⟨h.row.lot.later hb, fun g hg => (hf g (h.row.lot.lt g hg)).trans (h.row.lab g hg)⟩
    lots := fun i u hu => ⟨(h.lots i u hu).1.later hb, fun g hg => (hf g ((h.lots i u hu).1.lt g hg)).trans ((h.lots i u hu).2 g hg)⟩ }
theorem FlagsAt.new (w : World) (f : Nat → Lab) (hf : f w.heap.size = (50, 0)) : FlagsAt (w.alloc (.cells #[nilRow] 57)) f w.heap.size nilRow [] (fun _ => 0) :=
  ⟨Blk.new w _ _, hf, RowL.nil _ _ _, LotsAt.nil _ _ _ _ _ _ _, by decide, fun _ => by decide⟩
end

attribute [-go_sem] storeVar loadVar
theorem loadVar_flagsB (a : Addr) : type_of% (loadVar.eq_1 36 a) := loadVar.eq_1 36 a
theorem loadVar_flagssB (a : Addr) : type_of% (loadVar.eq_1 55 a) := loadVar.eq_1 55 a
attribute [local go_sem] storeVar_intB storeVar_sliceB storeVar_strB loadVar_flagsB loadVar_flagssB run_store_flag

set_option maxHeartbeats 2000000 in
set_option maxRecDepth 100000 in
theorem add_any {w : World} {f : Nat → Lab} {mk : Nat} {fv : Value} {vs : List Value} {ns : Nat → Nat} {A : Option Addr} {n c : Nat} {F : Nat → List Value} (h : FlagsAt w f mk fv vs ns) (hl : Lot w 3 (.slice A n c) n 0 F) (hv : LabV f (.slice A n c) (52, vs.length)) (hn : n ≤ 1000000) :
    Calls Tryz.prog 23 #[.pointer (some ⟨mk, 0, none⟩), .slice A n c] w fun e w' => e = .returned (.tuple #[]) ∧ ∃ f' fv' vs' ns', FlagsAt w' f' mk fv' vs' ns' ∧ OnlyL f f' OnF w w' := by
  obtain ⟨B, cb, hB⟩ := h.row.form
  subst hB
  have hres : ∀ W tm, (results Tryz.f23 tm).run Tryz.prog W = .ok (.tuple #[]) W := fun W tm => by simp [results, Tryz.results23, go_sem]
  have z0 : w.cell? ⟨mk, 0, none⟩ = some (.slice B vs.length cb) := h.blk.cell 0
  have hfew := h.few
  by_cases hgo : 0 < n ∧ vs.length < 300
  · have h1 : (0 : Int) < (n : Int) := by omega
    have h2 : (vs.length : Int) < 300 := by omega
    have h3 : decide (0 < n) = true := decide_eq_true hgo.1
    obtain ⟨v, hvv⟩ : ∃ v : Value, v = .slice A n c := ⟨_, rfl⟩
    have hw1 : Wrote f (relab f w (62, 0)) (62, 0) 1 (rowF (vs ++ [v])) w (w.alloc (.cells #[v] 36)) := Wrote.of_below ((Below.refl _ _).alloc (Nat.le_refl _) _) f (62, 0) 1 _
    have hr1 := (h.row.more v).conf (rowF_length _) hw1
    have hr2 : LabV (relab f w (62, 0)) (.slice B vs.length cb) (62, 0) := h.row.lab.on hw1.only h.row.lot.lt
    have H := Lib.hid h
    have HL := Lib.hid hl
    have HV := Lib.hid hv
    have HW1 := Lib.hid hw1
    have HR1 := Lib.hid hr1
    have HR2 := Lib.hid hr2
    subst hvv
    clear h hl hv hw1 hr1 hr2 hgo
    obtain ⟨j0, hj0, hy0, hy1, hy2⟩ := info_parts info_flagsB
    go_enter Tryz.func23, Tryz.ntmps23
    go_wp2_with (at_builtin; refine wpList_append_lot rfl (.tmp 19) (.tmp 21) 55 55 rfl (relab f w (62, 0)) (62, 0) (rowF (vs ++ [.slice A n c])) 36 j0 _ 1 24 Tryz.underlying55 hj0 hy0 hy1 hy2 rfl (rowF_length _) (.slice B vs.length cb) vs.length rfl HR1.out HR2.out _ 1 _ rfl (src_one w Tryz.underlying55 (.slice A n c) rfl _) (news_one (rowF_last vs _)) (by decide) ?_ ?_ ?_; (unfold maxLen; omega); omega; intro g3 c3 w3 hl5 hb5 hw5; have ho5 := HW1.out.only.trans hw5.only; have hrl := RowL.of_append hl5 hb5; have hblk5 := H.out.blk.same (ho5.block mk H.out.blk.lt (by rw [H.out.self]; exact lab_ne (by decide))); have x0 : w3.cell? ⟨mk, 0, none⟩ = some (.slice B vs.length cb) := hblk5.cell 0; have x0f := hblk5.frozen 0; have HO5 := Lib.hid ho5; have HRL := Lib.hid hrl; have HB5 := Lib.hid hblk5; clear hl5 hb5 hw5 ho5 hrl hblk5)
    refine ⟨rfl, .tuple #[], hres _ _, rfl, ?_⟩
    have hself := (HO5.out.lab mk H.out.blk.lt).trans H.out.self
    have hp := OnlyL.of_put (P := (· = ((50, 0) : Lab))) _ w3 ⟨mk, 0, none⟩ (.slice (some ⟨g3, 0, none⟩) (vs.length + 1) c3) hself
    have hl3 := HL.out.apart HO5.out HV.out (lab_ne (by decide))
    have hv3 := HV.out.on HO5.out HL.out.lt
    refine ⟨_, .slice (some ⟨g3, 0, none⟩) (vs.length + 1) c3, vs ++ [.slice A n c], fun i => if i < vs.length then ns i else n, ⟨HB5.out.put 0 _, hself, HRL.out.apart hp (lab_ne (by decide)), fun i u hu => ?_, by rw [List.length_append, List.length_singleton]; omega, fun i => ?_⟩, (HO5.out.mono fun l hl => by subst hl; exact .inr rfl).trans (hp.mono fun l hl => by subst hl; exact .inl rfl)⟩
    · rcases Nat.lt_or_ge i vs.length with hi | hi
      · rw [List.getElem?_append_left hi] at hu
        obtain ⟨g1, g2⟩ := H.out.lots i u hu
        have g3' := g1.apart HO5.out g2 (lab_ne (by decide))
        have g4 := g2.on HO5.out g1.lt
        refine ⟨?_, g4.on hp g3'.lt⟩
        rw [if_pos hi]
        exact g3'.apart hp g4 (lab_ne (by decide))
      · rw [List.getElem?_append_right hi] at hu
        have hi0 : i - vs.length = 0 := by
          have := (List.getElem?_eq_some_iff.1 hu).1
          simp at this; omega
        rw [hi0] at hu
        have hu2 : u = .slice A n c := by simpa using hu.symm
        subst hu2
        have hiv : i = vs.length := by omega
        subst hiv
        refine ⟨?_, hv3.on hp hl3.lt⟩
        rw [if_neg (Nat.lt_irrefl _)]
        exact (hl3.apart hp hv3 (lab_ne (by decide))).blank _
    · split
      · exact H.out.big i
      · exact hn
  · have HK : Hid (FlagsAt w f mk (.slice B vs.length cb) vs ns) := Lib.hid h
    clear h hl hv
    by_cases hn0 : 0 < n
    · have h1 : (0 : Int) < (n : Int) := by omega
      have h2 : decide ((vs.length : Int) < 300) = false := decide_eq_false (by omega)
      have h3 : decide (vs.length < 300) = false := decide_eq_false (by omega)
      clear hgo hn0
      go_enter Tryz.func23, Tryz.ntmps23
      go_wp2_with fail
      all_goals exact ⟨rfl, .tuple #[], hres _ _, rfl, f, _, vs, ns, HK.out, OnlyL.refl _ _ _⟩
    · have h1 : decide ((0 : Int) < (n : Int)) = false := decide_eq_false (by omega)
      have h2 : decide (0 < n) = false := decide_eq_false (by omega)
      clear hgo hn0
      go_enter Tryz.func23, Tryz.ntmps23
      go_wp2_with fail
      all_goals exact ⟨rfl, .tuple #[], hres _ _, rfl, f, _, vs, ns, HK.out, OnlyL.refl _ _ _⟩
end Go.Proofs.YthgfjafnclklpaaGreatDoor
end
section
namespace Go.Proofs.YthgfjafnclklpaaGreatDoor
attribute [local go_sem ↓] Go.wp_at_zero Go.wp_at_succ
open Go.RowKit
attribute [-go_sem] storeVar loadVar
theorem run_store_flagNew (w : World) (z : Array Value) (hz : z.size = 3) (l : Int) (s : ByteArray) (h : Bool) :
    (storeVar 94 ⟨w.heap.size, 0, none⟩ (.agg #[.int .u8 l, .string s, .bool h])).run Tryz.prog (w.alloc (.cells z 94)) = .ok () (w.alloc (.cells #[.int .u8 l, .string s, .bool h] 94)) :=
  run_storeVar_new w _ _ _ (by kernel_rfl) hz (by simp [Value.oneCell'])
attribute [local go_sem] storeVar_intB storeVar_sliceB storeVar_strB loadVar_flagsB loadVar_flagssB run_store_flag run_store_flagNew

theorem FillX.can3 {w wr : World} {f f1 : Nat → Lab} {tb : TypeId} {bk : Nat} {arr : Array Value} {kd : Nat} {F : Nat → Nat → List Value} {b0 : Value} {vs : List Value} {ns : Nat → Nat} {i k g cap : Nat} (h : FillX w f tb bk arr kd 3 F b0 vs ns i k f1 wr) (hu : vs[i]? = some (.slice (some ⟨g, 0, none⟩) (ns i) cap)) (hk : k < ns i) : canPut wr g (k * 3) 3 = true := by
  have hl := h.lots
  rcases (hl i _ hu).1 with ⟨h0, _⟩ | ⟨g', cap', he, _, ha⟩
  · cases h0
  · injection he with he1 _ he3
    injection he1 with he1
    injection he1 with he1
    subst he1
    have := ha.room
    exact canPut_of fun j hj => ha.there (k * 3 + j) (by omega)

theorem range_past {w w' : World} {g o : Nat} {cs : List Value} (h : w.rangeAt g o cs) (hb : Below w.heap.size w w') : w'.rangeAt g o cs := fun j v hv => cell_past (h j v hv) hb

/-- the lists full, and what was grown out of them -/
structure GrowF (w : World) (f : Nat → Lab) (mk : Nat) (fv : Value) (vs : List Value) (ns : Nat → Nat) (lv : Value) (os : List Value) (f1 : Nat → Lab) (wr : World) : Prop where
  blk : Blk wr mk 57 #[fv]
  self : f1 mk = (1, 0)
  row : RowL wr f1 (62, 0) fv vs
  lots : LotsAt wr f1 52 3 vs ns ns markF
  one : RowL wr f1 (62, 2) lv os
  ones : LotsAt wr f1 52 3 os (fun j => ns j + 20) (fun j => ns j + 20) markF
  only : OnlyL f f1 (OnK 52) w wr
section
variable {w wr w2 : World} {f f1 f2 : Nat → Lab} {mk : Nat} {fv lv : Value} {vs os : List Value} {ns : Nat → Nat}
theorem GrowF.lot (h : GrowF w f mk fv vs ns lv os f1 wr) {i : Nat} (hw : Wrote f1 f2 (52, i) 3 (markF i) wr w2) : GrowF w f mk fv vs ns lv os f2 w2 :=
  ⟨h.blk.same (hw.only.block mk h.blk.lt (by rw [h.self]; exact lab_ne (by decide))), by rw [hw.only.lab mk h.blk.lt]; exact h.self, h.row.apart hw.only (lab_ne (by decide)), h.lots.conf markF_length hw,
    h.one.apart hw.only (lab_ne (by decide)), h.ones.conf markF_length hw, h.only.trans (hw.only.mono fun l hl => by subst hl; exact .inr (.inl rfl))⟩
theorem GrowF.temp (h : GrowF w f mk fv vs ns lv os f1 wr) {j : Nat} (hj : 4 ≤ j) (ho : OnlyL f1 f2 (· = (62, j)) wr w2) : GrowF w f mk fv vs ns lv os f2 w2 :=
  ⟨h.blk.same (ho.block mk h.blk.lt (by rw [h.self]; exact lab_ne (by decide))), by rw [ho.lab mk h.blk.lt]; exact h.self, h.row.apart ho (lab_ne2 (by omega)), h.lots.apart ho (fun j => lab_ne (by decide)),
    h.one.apart ho (lab_ne2 (by omega)), h.ones.apart ho (fun j => lab_ne (by decide)), h.only.trans (ho.mono fun l hl => by subst hl; exact .inr (.inr rfl))⟩
theorem GrowF.on (h : GrowF w f mk fv vs ns lv os f1 wr) (ho : OnlyL f1 f2 (· = (62, 2)) wr w2) {lv' v : Value} (hr : RowL w2 f2 (62, 2) lv' (os ++ [v])) (hl : Lot wr 3 v (ns os.length + 20) (ns os.length + 20) (markF os.length)) (hv : LabV f1 v (52, os.length)) :
    GrowF w f mk fv vs ns lv' (os ++ [v]) f2 w2 :=
  ⟨h.blk.same (ho.block mk h.blk.lt (by rw [h.self]; exact lab_ne (by decide))), by rw [ho.lab mk h.blk.lt]; exact h.self, h.row.apart ho (lab_ne2 (by decide)), h.lots.apart ho (fun j => lab_ne (by decide)), hr,
    LotsAt.snoc (ns := fun j => ns j + 20) (h.ones.apart ho (fun j => lab_ne (by decide))) (hl.apart ho hv (lab_ne (by decide))) (hv.on ho hl.lt), h.only.trans (ho.mono fun l hl => by subst hl; exact .inr (.inr rfl))⟩
end

set_option maxHeartbeats 4000000 in
set_option maxRecDepth 100000 in
theorem ownF_any {w : World} {f : Nat → Lab} {mk : Nat} {fv : Value} {vs : List Value} {ns : Nat → Nat} (hN : vs.length ≤ 300) (hns : ∀ i, ns i ≤ 1000000) (h : FillX w f 57 mk #[fv] 52 3 markF fv vs ns 0 0 f w) :
    Calls Tryz.prog 24 #[.pointer (some ⟨mk, 0, none⟩)] w fun e w' => e = .returned (.bool true) ∧ ∃ f', OnlyL f f' (OnK 52) w w' := by
  obtain ⟨A0, c0, hA0⟩ : ∃ A c, fv = .slice A vs.length c := h.row.form
  subst hA0
  have H := Lib.hid h
  have HNS := Lib.hid hns
  clear h hns
  go_enter Tryz.func24, Tryz.ntmps24
  go_upto_block 0 with fail
  go_cut [] (fun wx => ∃ f1, FillX w f 57 mk #[.slice A0 vs.length c0] 52 3 markF (.slice A0 vs.length c0) vs ns vs.length 0 f1 wx)
  case first =>
    go_wp2_with fail
    go_loopw [4, 5] (fun iv _ wr => ∃ (i : Nat) (f1 : Nat → Lab), i ≤ vs.length ∧ iv = .int .i64 i ∧ FillX w f 57 mk #[.slice A0 vs.length c0] 52 3 markF (.slice A0 vs.length c0) vs ns i 0 f1 wr) (fun iv _ _ => vs.length - (intOf iv).toNat)
    case atStart => exact ⟨0, f, Nat.zero_le _, rfl, H.out⟩
    case round =>
      obtain ⟨i, f1, hi, rfl, hm⟩ := hrel
      have y0 : wr.cell? ⟨mk, 0, none⟩ = some (.slice A0 vs.length c0) := hm.blk.cell 0
      by_cases hlt : i < vs.length
      · obtain ⟨u, hu⟩ : ∃ u, vs[i]? = some u := ⟨vs[i], List.getElem?_eq_getElem hlt⟩
        obtain ⟨gr, cr, hb0, hcell, hgr⟩ := hm.row.at hu
        injection hb0 with e1 _ e3
        subst e1 e3
        obtain ⟨U, cu, rfl⟩ := (hm.lots i u hu).1.form
        have hi1 : (i : Int) < (vs.length : Int) := by omega
        have hni := HNS.out i
        have HM := Lib.hid hm
        have HU := Lib.hid hu
        have hwd := fun W : World => refDigits_any i W (by omega)
        have HWD := Lib.hid hwd
        have hwi : IntKind.u64.wrap (i : Int) = (i : Int) := by rw [IntKind.wrap_u64]; omega
        clear hm hu hlt hwd
        go_wp2_with fail
        go_loopw [5] (fun kv wx => ∃ (k : Nat) (f2 : Nat → Lab), k ≤ ns i ∧ kv = .int .i64 k ∧ FillX w f 57 mk #[.slice (some ⟨gr, 0, none⟩) vs.length c0] 52 3 markF (.slice (some ⟨gr, 0, none⟩) vs.length c0) vs ns i k f2 wx) (fun kv _ => ns i - (intOf kv).toNat)
        case atStart => exact ⟨0, f1, Nat.zero_le _, rfl, HM.out⟩
        case round =>
          obtain ⟨k, f2, hk, rfl, hm⟩ := hrel
          have z0 : wr.cell? ⟨mk, 0, none⟩ = some (.slice (some ⟨gr, 0, none⟩) vs.length c0) := hm.blk.cell 0
          obtain ⟨gr', cr', hb0', hcell', hgr'⟩ := hm.row.at HU.out
          injection hb0' with e1 _ e3
          injection e1 with e1; injection e1 with e1
          subst e1 e3
          by_cases hlk : k < ns i
          · have hmk := (hm.lots i _ HU.out).1
            obtain ⟨g, rfl, hca⟩ : ∃ g, U = some ⟨g, 0, none⟩ ∧ canPut wr g (k * 3) 3 = true := by
              rcases hmk with ⟨_, h0, _⟩ | ⟨g, cap, he, _, ha⟩
              · omega
              · injection he with he1 _ he3
                have := ha.room
                exact ⟨g, he1, canPut_of fun j hj => ha.there (k * 3 + j) (by omega)⟩
            have hk1 : (k : Int) < (ns i : Int) := by omega
            have hgl : f2 g = (52, i) := (hm.lots i _ HU.out).2 g rfl
            have hnb : mk ≠ g := fun e => lab_ne (by decide) (hgl.symm.trans ((congrArg f2 e.symm).trans hm.self))
            have hng : gr ≠ g := fun e => lab_ne (by decide) (hgl.symm.trans ((congrArg f2 e.symm).trans (hm.row.lab gr rfl)))
            have HM2 := Lib.hid hm
            have HLK := Lib.hid hlk
            clear hm hmk hlk hgl hca
            go_upto_region 8 with fail
            have z0 : wr.drew.cell? ⟨mk, 0, none⟩ = _ := z0
            have zi : wr.drew.cell? ⟨gr, i, none⟩ = _ := hcell'
            go_region_held3 (fun w' => w'.cell? ⟨mk, 0, none⟩ = some (.slice (some ⟨gr, 0, none⟩) vs.length c0) ∧ w'.cell? ⟨gr, i, none⟩ = some (.slice (some ⟨g, 0, none⟩) (ns i) cu)) (first | with_reducible exact ⟨z0, zi⟩ | exact ⟨(World.cell?_of_block (heap_setCells hnb _ _)).trans z0, (World.cell?_of_block (heap_setCells hng _ _)).trans zi⟩) ((go_at_call 66; with_reducible refine (HWD.out _).mono ?_; rintro e w2 ⟨rfl, hb2⟩; have hm3 := HM2.out.temp (by decide) (j := 9) (by decide) (OnlyL.of_below (P := (· = (62, 9))) hb2 f2 (62, 9) rfl).undrew; have z0 := cell_past z0 hb2; have zi := cell_past zi hb2; have hca : canPut w2 g (k * 3) 3 = true := hm3.can3 HU.out HLK.out; have hput := hm3.put markF_length (by decide) HU.out HLK.out (news := [.int .u8 (IntKind.u8.wrap (k : Int)), str (Lib.decDigits i), .bool false]) rfl; have HP := Lib.hid hput; clear hb2 hm3 hput))
            all_goals go_wp2_with fail
            all_goals exact ⟨⟨k + 1, _, by omega, by go_num, HP.out⟩, by show ns i - ((k : Int) + 1).toNat < ns i - (k : Int).toNat; omega⟩
          · have hk1 : decide ((k : Int) < (ns i : Int)) = false := decide_eq_false (by omega)
            obtain rfl : k = ns i := by omega
            have HN := Lib.hid hm.next
            clear hm hlk
            go_wp2_with fail
            exact ⟨⟨i + 1, f2, by omega, by go_num, HN.out⟩, by show vs.length - ((i : Int) + 1).toNat < vs.length - (i : Int).toNat; omega⟩
      · have hi1 : decide ((i : Int) < (vs.length : Int)) = false := decide_eq_false (by omega)
        obtain rfl : i = vs.length := by omega
        have HM := Lib.hid hm
        clear hm hlt
        go_wp2_with fail
        go_meet
        exact ⟨f1, HM.out⟩
  case rest =>
    obtain ⟨fa, hm⟩ := hcut
    have hg : GrowF w f mk (.slice A0 vs.length c0) vs ns (.slice none 0 0) [] fa wc := ⟨hm.blk, hm.self, hm.row, fun i u hu => by
      obtain ⟨g1, g2⟩ := hm.lots i u hu
      dsimp only at g1
      rw [if_pos (List.getElem?_eq_some_iff.1 hu).1] at g1
      exact ⟨g1, g2⟩, RowL.nil _ _ _, LotsAt.nil _ _ _ _ _ _ _, hm.only⟩
    have HG := Lib.hid hg
    clear hm hg
    go_upto_block 4 with fail
    go_cut [3] (fun lv wx => ∃ f1 os, os.length = vs.length ∧ GrowF w f mk (.slice A0 vs.length c0) vs ns lv os f1 wx)
    case first =>
      go_wp2_with fail
      go_loopw [3, 6, 7, 8] (fun lv iv _ _ wr => ∃ (i : Nat) (f1 : Nat → Lab) (os : List Value), i ≤ vs.length ∧ iv = .int .i64 i ∧ os.length = i ∧ GrowF w f mk (.slice A0 vs.length c0) vs ns lv os f1 wr) (fun _ iv _ _ _ => vs.length - (intOf iv).toNat)
      case atStart => exact ⟨0, fa, [], Nat.zero_le _, rfl, rfl, HG.out⟩
      case round =>
        obtain ⟨i, f1, os, hi, rfl, hos, hm⟩ := hrel
        have y0 : wr.cell? ⟨mk, 0, none⟩ = some (.slice A0 vs.length c0) := hm.blk.cell 0
        by_cases hlt : i < vs.length
        · obtain ⟨u, hu⟩ : ∃ u, vs[i]? = some u := ⟨vs[i], List.getElem?_eq_getElem hlt⟩
          obtain ⟨gr, cr, hb0, hcell, hgr⟩ := hm.row.at hu
          injection hb0 with e1 _ e3
          subst e1 e3
          have hlot := hm.lots i u hu
          obtain ⟨U, cu, rfl⟩ := hlot.1.form
          obtain ⟨L0, cl0, hlv⟩ := hm.one.form
          subst hlv
          have hi1 : (i : Int) < (vs.length : Int) := by omega
          have hni := HNS.out i
          have HM1 := Lib.hid hm
          have HLOT := Lib.hid hlot
          have HU := Lib.hid hu
          have HOS := Lib.hid hos
          have hwd := fun W : World => refDigits_any i W (by omega)
          have HWD := Lib.hid hwd
          have hwi : IntKind.u64.wrap (i : Int) = (i : Int) := by rw [IntKind.wrap_u64]; omega
          clear hm hu hlt hlot hos hwd
          go_wp2_with fail
          go_loopw [7, 8] (fun lv kv wx => ∃ (k : Nat) (U : Option Addr) (cu : Nat) (f2 : Nat → Lab), k ≤ 20 ∧ kv = .int .i64 k ∧ lv = .slice U (ns i + k) cu ∧ GrowF w f mk (.slice (some ⟨gr, 0, none⟩) vs.length c0) vs ns (.slice L0 os.length cl0) os f2 wx ∧ Lot wx 3 (.slice U (ns i + k) cu) (ns i + k) (ns i + k) (markF i) ∧ LabV f2 (.slice U (ns i + k) cu) (52, i)) (fun _ kv _ => 20 - (intOf kv).toNat)
          case atStart => exact ⟨0, U, cu, f1, by decide, rfl, rfl, HM1.out, HLOT.out.1, HLOT.out.2⟩
          case round =>
            obtain ⟨k, U2, cu2, f2, hk, rfl, rfl, hm, hl1, hl2⟩ := hrel
            by_cases hlk : k < 20
            · have hk1 : (k : Int) < 20 := by omega
              obtain ⟨gr', cr', hb0', hcell', hgr'⟩ := hm.row.at HU.out
              injection hb0' with e1 _ e3
              injection e1 with e1; injection e1 with e1
              subst e1 e3
              have z0 : wr.cell? ⟨mk, 0, none⟩ = some (.slice (some ⟨gr, 0, none⟩) vs.length c0) := hm.blk.cell 0
              have hmself := hm.self
              have hrself := hm.row.lab gr rfl
              have hwk : IntKind.i64.wrap ((ns i : Int) + (k : Int)) = (ns i : Int) + (k : Int) := by rw [IntKind.wrap_i64]; omega
              have HMA := Lib.hid hm
              have HLA := Lib.hid hl1
              have HLB := Lib.hid hl2
              have HSF := Lib.hid (And.intro hmself hrself)
              clear hm hl1 hl2 hlk hmself hrself
              obtain ⟨i0, hi0, hz0, hz1, hz2⟩ := info_parts info_flagB
              go_upto_region 16 with fail
              have z0 : wr.drew.cell? ⟨mk, 0, none⟩ = _ := z0
              have zi : wr.drew.cell? ⟨gr, i, none⟩ = _ := hcell'
              go_region_held3 (fun w' => w'.cell? ⟨mk, 0, none⟩ = some (.slice (some ⟨gr, 0, none⟩) vs.length c0) ∧ w'.cell? ⟨gr, i, none⟩ = some (.slice U (ns i) cu)) (first | with_reducible exact ⟨z0, zi⟩ | exact ⟨cell_past z0 ((Below.refl _ _).alloc (Nat.le_refl _) _), cell_past zi ((Below.refl _ _).alloc (Nat.le_refl _) _)⟩) (first
                | (go_at_call 66; with_reducible refine (HWD.out _).mono ?_; rintro e w2 ⟨rfl, hb2⟩; have z0 := cell_past z0 hb2; have zi := cell_past zi hb2; have hbel := hb2.alloc hb2.size (.cells #[.int .u8 (IntKind.u8.wrap ((ns i : Int) + (k : Int))), str (Lib.decDigits i), .bool false] 94); have hw1 := (Wrote.of_below hbel f2 (52, i) 3 (markF i)).undrew; have hm2 := HMA.out.lot hw1; have hl3 := HLA.out.conf (markF_length i) hw1; have hl4 := HLB.out.on hw1.only HLA.out.lt; have HM2 := Lib.hid hm2; have HL3 := Lib.hid hl3; have HL4 := Lib.hid hl4; clear hb2 hbel hw1 hm2 hl3 hl4)
                | (refine step_append_lot rfl (.tmp 68) (.tmp 84) 36 36 rfl (relab f2 wr.drew (52, i)) (52, i) (markF i) 94 i0 _ 3 32 Tryz.underlying36 hi0 hz0 hz1 hz2 rfl (markF_length i) _ (ns i + k) rfl HL3.out HL4.out _ 1 _ rfl (src_agg w2 Tryz.underlying36 [.int .u8 (IntKind.u8.wrap ((ns i : Int) + (k : Int))), str (Lib.decDigits i), .bool false] (by simp [Value.oneCell']) _) (fun k' hk' c hc => by obtain rfl : k' = 0 := (by omega); rw [Nat.zero_mul, Nat.zero_add, Nat.add_zero]; rfl) (by decide) ?_ ?_ ?_; (unfold maxLen; omega); omega; intro g3 c3 w3 hl5 hb5 hw5; have hm5 := HM2.out.lot hw5; have z0 : w3.cell? ⟨mk, 0, none⟩ = some (.slice (some ⟨gr, 0, none⟩) vs.length c0) := hm5.blk.cell 0; have zi : w3.cell? ⟨gr, i, none⟩ = some (.slice U (ns i) cu) := (by obtain ⟨ga, ca, ea, za, _⟩ := hm5.row.at HU.out; injection ea with ea _ _; injection ea with ea; injection ea with ea; subst ea; exact za); have HM5 := Lib.hid hm5; have HL5 := Lib.hid hl5; have HB5 := Lib.hid hb5; clear hl5 hb5 hw5 hm5))
              all_goals go_wp2_with fail
              all_goals exact ⟨⟨k + 1, some ⟨g3, 0, none⟩, c3, _, by omega, by go_num, rfl, HM5.out, HL5.out, LabV.of_eq HB5.out⟩, by show 20 - ((k : Int) + 1).toNat < 20 - (k : Int).toNat; omega⟩
            · have hk1 : decide ((k : Int) < 20) = false := decide_eq_false (by omega)
              obtain rfl : k = 20 := by omega
              obtain ⟨v, hvv⟩ : ∃ v : Value, v = .slice U2 (ns i + 20) cu2 := ⟨_, rfl⟩
              have hl1' := hl1
              have hl2' := hl2
              rw [← hvv] at hl1' hl2'
              have hw1 : Wrote f2 (relab f2 wr (62, 2)) (62, 2) 1 (rowF (os ++ [v])) wr (wr.alloc (.cells #[v] 36)) := Wrote.of_below ((Below.refl _ _).alloc (Nat.le_refl _) _) f2 (62, 2) 1 _
              have hr1 := (hm.one.more v).conf (rowF_length _) hw1
              have hr2 : LabV (relab f2 wr (62, 2)) (.slice L0 os.length cl0) (62, 2) := hm.one.lab.on hw1.only hm.one.lot.lt
              have HMM := Lib.hid hm
              have HW1 := Lib.hid hw1
              have HR1 := Lib.hid hr1
              have HR2 := Lib.hid hr2
              have HL1 := Lib.hid hl1'
              have HL2 := Lib.hid hl2'
              subst hvv
              clear hm hw1 hr1 hr2 hl1 hl2 hl1' hl2' hlk
              obtain ⟨j0, hj0, hy0, hy1, hy2⟩ := info_parts info_flagsB
              have hos3 : os.length ≤ 300 := by rw [HOS.out]; omega
              go_wp2_with (at_builtin; (refine wpList_append_lot rfl (.tmp 86) (.tmp 88) 55 55 rfl (relab f2 wr (62, 2)) (62, 2) (rowF (os ++ [.slice U2 (ns i + 20) cu2])) 36 j0 _ 1 24 Tryz.underlying55 hj0 hy0 hy1 hy2 rfl (rowF_length _) (.slice L0 os.length cl0) os.length rfl HR1.out HR2.out _ 1 _ rfl (src_one wr Tryz.underlying55 (.slice U2 (ns i + 20) cu2) rfl _) (news_one (rowF_last os _)) (by decide) ?_ ?_ ?_); (unfold maxLen; omega); omega; intro g3 c3 w3 hl5 hb5 hw5; have ho5 := (HW1.out.only.trans hw5.only); have hrl := RowL.of_append hl5 hb5; have hon := HMM.out.on ho5 hrl (by rw [HOS.out]; exact HL1.out) (by rw [HOS.out]; exact HL2.out); have HON := Lib.hid hon; clear hl5 hb5 hw5 ho5 hrl hon)
              exact ⟨⟨i + 1, _, _, by omega, by go_num, by rw [List.length_append, List.length_singleton, HOS.out], HON.out⟩, by show vs.length - ((i : Int) + 1).toNat < vs.length - (i : Int).toNat; omega⟩
        · have hi1 : decide ((i : Int) < (vs.length : Int)) = false := decide_eq_false (by omega)
          obtain rfl : i = vs.length := by omega
          have HM1 := Lib.hid hm
          have HOS := Lib.hid hos
          clear hm hlt hos
          go_wp2_with fail
          go_meet
          exact ⟨_, _, HOS.out, HM1.out⟩
    case rest =>
      obtain ⟨f1, os, hos, hm⟩ := hcut
      obtain ⟨L0, cl0, hlv⟩ := hm.one.form
      subst hlv
      have HG2 := Lib.hid hm
      have HOS := Lib.hid hos
      clear hm hos
      go_upto_block 8 with fail
      go_wp2_with fail
      go_loopw [9, 10, 11] (fun iv _ _ wr => ∃ i : Nat, i ≤ vs.length ∧ iv = .int .i64 i ∧ Below wc.heap.size wc wr) (fun iv _ _ _ => vs.length - (intOf iv).toNat)
      case atStart => exact ⟨0, Nat.zero_le _, rfl, Below.refl _ _⟩
      case round =>
        obtain ⟨i, hi, rfl, hbw⟩ := hrel
        have y0 := cell_past (HG2.out.blk.cell 0) hbw
        change _ = some (Value.slice A0 vs.length c0) at y0
        have HBW := Lib.hid hbw
        clear hbw
        by_cases hlt : i < vs.length
        · obtain ⟨u, hu⟩ : ∃ u, vs[i]? = some u := ⟨vs[i], List.getElem?_eq_getElem hlt⟩
          obtain ⟨v, hv⟩ : ∃ v, os[i]? = some v := ⟨os[i]'(by rw [HOS.out]; exact hlt), List.getElem?_eq_getElem _⟩
          obtain ⟨gr, cr, hb0, hcell, _⟩ := HG2.out.row.at hu
          obtain ⟨gx, cx', hbx, hcellx, _⟩ := HG2.out.one.at hv
          injection hb0 with e1 _ e3
          subst e1 e3
          injection hbx with e1 e2 e3
          subst e1 e3
          clear e2
          have hg1 := HG2.out.lots
          have hg3 := HG2.out.ones
          have hl1 := (hg1 i u hu).1
          have hl3 := (hg3 i v hv).1
          obtain ⟨U, cu, rfl⟩ := hl1.form
          obtain ⟨V, cv, rfl⟩ := hl3.form
          have hi1 : (i : Int) < (vs.length : Int) := by omega
          have hi2 : (i : Int) < (os.length : Int) := by rw [HOS.out]; omega
          have hni := HNS.out i
          obtain ⟨n, hn⟩ : ∃ n, n = ns i := ⟨_, rfl⟩
          dsimp only at hl1 hl3 hcell hcellx
          rw [← hn] at hni hl1 hl3 hcell hcellx
          have HL1 := Lib.hid hl1
          have HL3 := Lib.hid hl3
          have HC := Lib.hid hcell
          have HCX := Lib.hid hcellx
          have hcell := cell_past HC.out HBW.out
          have hcellx := cell_past HCX.out HBW.out
          have hwd := fun W : World => refDigits_any i W (by omega)
          have HWD := Lib.hid hwd
          have HY0 := Lib.hid (show wc.cell? ⟨mk, 0, none⟩ = some (.slice (some ⟨gr, 0, none⟩) vs.length c0) from HG2.out.blk.cell 0)
          have hwi : IntKind.u64.wrap (i : Int) = (i : Int) := by rw [IntKind.wrap_u64]; omega
          clear hu hv hlt hl1 hl3 hn hwd hg1 hg3
          go_wp2_with fail
          go_loopw [10, 11] (fun kv _ wr => ∃ k : Nat, k ≤ n + 20 ∧ kv = .int .i64 k ∧ Below wc.heap.size wc wr) (fun kv _ _ => n + 20 - (intOf kv).toNat)
          case atStart => exact ⟨0, Nat.zero_le _, rfl, HBW.out⟩
          case round =>
            obtain ⟨k, hk, rfl, hbw⟩ := hrel
            have z0 := cell_past HY0.out hbw
            have zi := cell_past HC.out hbw
            have zx := cell_past HCX.out hbw
            have HBV := Lib.hid hbw
            clear hbw
            by_cases hlk : k < n + 20
            · have hk1 : (k : Int) < (n : Int) + 20 := by omega
              obtain ⟨dg, hdg⟩ : ∃ dg : Sp.Bs, dg = Lib.decDigits i := ⟨_, rfl⟩
              have hmk : markF i k = [.int .u8 ((k : Int) % 256), str dg, .bool false] := by
                rw [hdg]; unfold markF; rw [IntKind.wrap_u8]
              rw [← hdg] at HWD
              clear hdg
              have r3 : ∃ g3 c3, Value.slice V (n + 20) cv = .slice (some ⟨g3, 0, none⟩) (n + 20) c3 ∧ wc.rangeAt g3 (k * 3) [.int .u8 ((k : Int) % 256), str dg, .bool false] := by
                obtain ⟨g3, c3, e3, _⟩ := HL3.out.at (k := k) (c := 0) (u := .int .u8 ((k : Int) % 256)) hlk (by rw [hmk]; rfl)
                refine ⟨g3, c3, e3, fun j v hv => ?_⟩
                obtain ⟨g4, c4, e4, z4⟩ := HL3.out.at (k := k) (c := j) (u := v) hlk (by rw [hmk]; exact hv)
                rw [e3] at e4
                injection e4 with e4 _ _; injection e4 with e4; injection e4 with e4
                rw [e4]; exact z4
              obtain ⟨g3, c3, e3, r3⟩ := r3
              injection e3 with e3 _ e4
              subst e3 e4
              obtain ⟨cl, hcl⟩ : ∃ cl : List Value, cl = [.int .u8 ((k : Int) % 256), str dg, .bool false] := ⟨_, rfl⟩
              have hld : ∀ (g o : Nat) (W : World), W.rangeAt g o cl → (loadVar 94 ⟨g, o, none⟩).run Tryz.prog W = .ok (.agg #[.int .u8 ((k : Int) % 256), .string ⟨dg.toArray⟩, .bool false]) W := fun g o W hW =>
                run_loadVar_mid (P := Tryz.prog) W g o 94 [.int .u8 ((k : Int) % 256), str dg, .bool false] _ (by rw [← hcl]; exact hW) Tryz.underlying94 rfl (by kernel_rfl)
              have hdd : (dg == dg) = true := by simp
              rw [← hcl] at r3
              by_cases hkn : k < n
              · have r1 : ∃ g1 c1, Value.slice U n cu = .slice (some ⟨g1, 0, none⟩) n c1 ∧ wc.rangeAt g1 (k * 3) cl := by
                  obtain ⟨g3, c3, e3, _⟩ := HL1.out.at (k := k) (c := 0) (u := .int .u8 ((k : Int) % 256)) hkn (by rw [hmk]; rfl)
                  refine ⟨g3, c3, e3, fun j v hv => ?_⟩
                  obtain ⟨g4, c4, e4, z4⟩ := HL1.out.at (k := k) (c := j) (u := v) hkn (by rw [hmk, ← hcl]; exact hv)
                  rw [e3] at e4
                  injection e4 with e4 _ _; injection e4 with e4; injection e4 with e4
                  rw [e4]; exact z4
                obtain ⟨g1, c1, e1, r1⟩ := r1
                injection e1 with e1 _ e4
                subst e1 e4
                have hk2 : (k : Int) < (n : Int) := by omega
                clear hlk hkn hmk
                go_upto_region 25 with (go_at_call 66; with_reducible refine (HWD.out _).mono ?_; rintro e w2 ⟨rfl, hb2⟩; have z0 := cell_past z0 hb2; have zi := cell_past zi hb2; have zx := cell_past zx hb2; have hbv := HBV.out.trans (hb2.mono HBV.out.size); have HBV := Lib.hid hbv; clear hb2 hbv)
                have hba := HBV.out.alloc HBV.out.size (.cells #[.int .u8 ((k : Int) % 256), .string ⟨dg.toArray⟩, .bool false] 94)
                have hbd := hba.drew
                have z0 := cell_past z0 ((Below.refl w2.heap.size w2).alloc (Nat.le_refl _) (.cells #[.int .u8 ((k : Int) % 256), .string ⟨dg.toArray⟩, .bool false] 94)).drew
                have zi := cell_past zi ((Below.refl w2.heap.size w2).alloc (Nat.le_refl _) (.cells #[.int .u8 ((k : Int) % 256), .string ⟨dg.toArray⟩, .bool false] 94)).drew
                have zx := cell_past zx ((Below.refl w2.heap.size w2).alloc (Nat.le_refl _) (.cells #[.int .u8 ((k : Int) % 256), .string ⟨dg.toArray⟩, .bool false] 94)).drew
                have x3 := range_past r3 hbd
                have x1 := range_past r1 hbd
                have xb : (w2.alloc (.cells #[.int .u8 ((k : Int) % 256), .string ⟨dg.toArray⟩, .bool false] 94)).drew.rangeAt w2.heap.size 0 cl := by
                  rw [hcl]
                  intro j v hv
                  rw [Nat.zero_add, ((Blk.new w2 94 #[.int .u8 ((k : Int) % 256), .string ⟨dg.toArray⟩, .bool false]).drew).cell j]
                  simpa using hv
                have HBD := Lib.hid hbd
                clear hba hbd hcl
                have hldb := hld w2.heap.size 0
                have hld3 := hld g3 (k * 3)
                have hld1 := hld g1 (k * 3)
                clear hld
                refine wp_region_held_drew (S := (fun w' => w'.cell? ⟨mk, 0, none⟩ = some (.slice (some ⟨gr, 0, none⟩) vs.length c0) ∧ w'.cell? ⟨gr, i, none⟩ = some (.slice (some ⟨g1, 0, none⟩) n cu) ∧ w'.cell? ⟨gx, i, none⟩ = some (.slice (some ⟨g3, 0, none⟩) (n + 20) cv) ∧ w'.rangeAt g3 (k * 3) cl ∧ w'.rangeAt w2.heap.size 0 cl ∧ w'.rangeAt g1 (k * 3) cl)) (by kernel_rfl) (by exact ⟨z0, zi, zx, x3, xb, x1⟩) (fun hHeld => ?_)
                refine wpAnyH_take (i := 0) (oi := ({ dst := some 114, op := Op.move (Operand.tmp 3), type := 55, pos := "law.go:93", after := #[], guard := none } : Oper)) (v := ?v_1) rfl (by kernel_rfl) (by kernel_rfl) (by kernel_rfl) (fun _ _ _ h => h) (Or.inl ⟨by rfl, ?hy_1⟩) (by assumption) ?rest_1
                case hy_1 => (intro w hSw; (try dsimp only at hSw); go_simp; try with_reducible rfl)
                try simp only [Act.put, List.setIfInBounds_toArray, List.set_cons_zero, List.set_cons_succ]
                refine wpAnyH_take (i := 1) (oi := ({ dst := some 115, op := Op.move (Operand.tmp 9), type := 3, pos := "law.go:93", after := #[], guard := none } : Oper)) (v := ?v_2) rfl (by kernel_rfl) (by kernel_rfl) (by kernel_rfl) (fun _ _ _ h => h) (Or.inl ⟨by rfl, ?hy_2⟩) (by assumption) ?rest_2
                case hy_2 => (intro w hSw; (try dsimp only at hSw); go_simp; try with_reducible rfl)
                try simp only [Act.put, List.setIfInBounds_toArray, List.set_cons_zero, List.set_cons_succ]
                refine wpAnyH_take (i := 2) (oi := ({ dst := some 116, op := Op.indexAddr 55 (Operand.tmp 114) (Operand.tmp 115), type := 0, pos := "law.go:93", after := #[{ on := 0, ground := Ground.data }, { on := 1, ground := Ground.data }], guard := none } : Oper)) (v := ?v_3) rfl (by kernel_rfl) (by kernel_rfl) (by kernel_rfl) (fun _ _ _ h => h) (Or.inl ⟨by rfl, ?hy_3⟩) (by assumption) ?rest_3
                case hy_3 => (intro w hSw; (try dsimp only at hSw); go_simp; try with_reducible rfl)
                try simp only [Act.put, List.setIfInBounds_toArray, List.set_cons_zero, List.set_cons_succ]
                refine wpAnyH_take (i := 3) (oi := ({ dst := some 117, op := Op.load 36 (Operand.tmp 116), type := 36, pos := "law.go:93", after := #[{ on := 2, ground := Ground.data }], guard := none } : Oper)) (v := ?v_4) rfl (by kernel_rfl) (by kernel_rfl) (by kernel_rfl) (fun _ _ _ h => h) (Or.inl ⟨by rfl, ?hy_4⟩) (by assumption) ?rest_4
                case hy_4 => (intro w hSw; (try dsimp only at hSw); go_simp; try with_reducible rfl)
                try simp only [Act.put, List.setIfInBounds_toArray, List.set_cons_zero, List.set_cons_succ]
                refine wpAnyH_take (i := 4) (oi := ({ dst := some 118, op := Op.move (Operand.tmp 10), type := 3, pos := "law.go:93", after := #[], guard := none } : Oper)) (v := ?v_5) rfl (by kernel_rfl) (by kernel_rfl) (by kernel_rfl) (fun _ _ _ h => h) (Or.inl ⟨by rfl, ?hy_5⟩) (by assumption) ?rest_5
                case hy_5 => (intro w hSw; (try dsimp only at hSw); go_simp; try with_reducible rfl)
                try simp only [Act.put, List.setIfInBounds_toArray, List.set_cons_zero, List.set_cons_succ]
                refine wpAnyH_take (i := 5) (oi := ({ dst := some 119, op := Op.indexAddr 36 (Operand.tmp 117) (Operand.tmp 118), type := 0, pos := "law.go:93", after := #[{ on := 3, ground := Ground.data }, { on := 4, ground := Ground.data }], guard := none } : Oper)) (v := ?v_6) rfl (by kernel_rfl) (by kernel_rfl) (by kernel_rfl) (fun _ _ _ h => h) (Or.inl ⟨by rfl, ?hy_6⟩) (by assumption) ?rest_6
                case hy_6 => (intro w hSw; (try dsimp only at hSw); go_simp; try with_reducible rfl)
                try simp only [Act.put, List.setIfInBounds_toArray, List.set_cons_zero, List.set_cons_succ]
                refine wpAnyH_take (i := 6) (oi := ({ dst := some 120, op := Op.load 94 (Operand.tmp 119), type := 94, pos := "law.go:93", after := #[{ on := 5, ground := Ground.data }], guard := none } : Oper)) (v := ?v_7) rfl (by kernel_rfl) (by kernel_rfl) (by kernel_rfl) (fun _ _ _ h => h) (Or.inl ⟨by rfl, ?hy_7⟩) (by assumption) ?rest_7
                case hy_7 => (intro w hSw; (try dsimp only at hSw); go_simp; try with_reducible rfl)
                try simp only [Act.put, List.setIfInBounds_toArray, List.set_cons_zero, List.set_cons_succ]
                refine wpAnyH_take (i := 7) (oi := ({ dst := some 121, op := Op.load 94 (Operand.tmp 11), type := 94, pos := "law.go:93", after := #[], guard := none } : Oper)) (v := ?v_8) rfl (by kernel_rfl) (by kernel_rfl) (by kernel_rfl) (fun _ _ _ h => h) (Or.inl ⟨by rfl, ?hy_8⟩) (by assumption) ?rest_8
                case hy_8 => (intro w hSw; (try dsimp only at hSw); go_simp; try with_reducible rfl)
                try simp only [Act.put, List.setIfInBounds_toArray, List.set_cons_zero, List.set_cons_succ]
                refine wpAnyH_take (i := 8) (oi := ({ dst := some 122, op := Op.binOp BinOp.neq 94 (Operand.tmp 120) (Operand.tmp 121) 94, type := 4, pos := "law.go:93", after := #[{ on := 6, ground := Ground.data }, { on := 7, ground := Ground.data }], guard := none } : Oper)) (v := ?v_9) rfl (by kernel_rfl) (by kernel_rfl) (by kernel_rfl) (fun _ _ _ h => h) (Or.inl ⟨by rfl, ?hy_9⟩) (by assumption) ?rest_9
                case hy_9 => (intro w hSw; (try dsimp only at hSw); go_simp; try with_reducible rfl)
                try simp only [Act.put, List.setIfInBounds_toArray, List.set_cons_zero, List.set_cons_succ]
                refine wpAnyH_take (i := 9) (oi := ({ dst := some 123, op := Op.move (Operand.tmp 122), type := 4, pos := "law.go:93", after := #[{ on := 8, ground := Ground.data }], guard := none } : Oper)) (v := ?v_10) rfl (by kernel_rfl) (by kernel_rfl) (by kernel_rfl) (fun _ _ _ h => h) (Or.inl ⟨by rfl, ?hy_10⟩) (by assumption) ?rest_10
                case hy_10 => (intro w hSw; (try dsimp only at hSw); go_simp; try with_reducible rfl)
                try simp only [Act.put, List.setIfInBounds_toArray, List.set_cons_zero, List.set_cons_succ]
                refine wpAnyH_take (i := 10) (oi := ({ dst := some 124, op := Op.move (Operand.tmp 10), type := 3, pos := "law.go:93", after := #[{ on := 9, ground := Ground.guard }], guard := some (9, false) } : Oper)) (v := ?v_11) rfl (by kernel_rfl) (by kernel_rfl) (by kernel_rfl) (fun _ _ _ h => h) (Or.inl ⟨by rfl, ?hy_11⟩) (by assumption) ?rest_11
                case hy_11 => (intro w hSw; (try dsimp only at hSw); go_simp; try with_reducible rfl)
                try simp only [Act.put, List.setIfInBounds_toArray, List.set_cons_zero, List.set_cons_succ]
                refine wpAnyH_take (i := 11) (oi := ({ dst := some 125, op := Op.move (Operand.tmp 0), type := 54, pos := "law.go:93", after := #[{ on := 9, ground := Ground.guard }], guard := some (9, false) } : Oper)) (v := ?v_12) rfl (by kernel_rfl) (by kernel_rfl) (by kernel_rfl) (fun _ _ _ h => h) (Or.inl ⟨by rfl, ?hy_12⟩) (by assumption) ?rest_12
                case hy_12 => (intro w hSw; (try dsimp only at hSw); go_simp; try with_reducible rfl)
                try simp only [Act.put, List.setIfInBounds_toArray, List.set_cons_zero, List.set_cons_succ]
                refine wpAnyH_take (i := 12) (oi := ({ dst := some 126, op := Op.nilCheck (Operand.tmp 125), type := 0, pos := "law.go:93", after := #[{ on := 11, ground := Ground.data }, { on := 9, ground := Ground.guard }], guard := some (9, false) } : Oper)) (v := ?v_13) rfl (by kernel_rfl) (by kernel_rfl) (by kernel_rfl) (fun _ _ _ h => h) (Or.inl ⟨by rfl, ?hy_13⟩) (by assumption) ?rest_13
                case hy_13 => (intro w hSw; (try dsimp only at hSw); go_simp; try with_reducible rfl)
                try simp only [Act.put, List.setIfInBounds_toArray, List.set_cons_zero, List.set_cons_succ]
                refine wpAnyH_take (i := 13) (oi := ({ dst := some 127, op := Op.fieldAddr 57 (Operand.tmp 126) 0, type := 0, pos := "law.go:93", after := #[{ on := 12, ground := Ground.data }, { on := 9, ground := Ground.guard }], guard := some (9, false) } : Oper)) (v := ?v_14) rfl (by kernel_rfl) (by kernel_rfl) (by kernel_rfl) (fun _ _ _ h => h) (Or.inl ⟨by rfl, ?hy_14⟩) (by assumption) ?rest_14
                case hy_14 => (intro w hSw; (try dsimp only at hSw); go_simp; try with_reducible rfl)
                try simp only [Act.put, List.setIfInBounds_toArray, List.set_cons_zero, List.set_cons_succ]
                refine wpAnyH_take (i := 14) (oi := ({ dst := some 128, op := Op.load 55 (Operand.tmp 127), type := 55, pos := "law.go:93", after := #[{ on := 13, ground := Ground.data }, { on := 9, ground := Ground.guard }], guard := some (9, false) } : Oper)) (v := ?v_15) rfl (by kernel_rfl) (by kernel_rfl) (by kernel_rfl) (fun _ _ _ h => h) (Or.inl ⟨by rfl, ?hy_15⟩) (by assumption) ?rest_15
                case hy_15 => (intro w hSw; (try dsimp only at hSw); go_simp; try with_reducible rfl)
                try simp only [Act.put, List.setIfInBounds_toArray, List.set_cons_zero, List.set_cons_succ]
                refine wpAnyH_take (i := 15) (oi := ({ dst := some 129, op := Op.move (Operand.tmp 9), type := 3, pos := "law.go:93", after := #[{ on := 9, ground := Ground.guard }], guard := some (9, false) } : Oper)) (v := ?v_16) rfl (by kernel_rfl) (by kernel_rfl) (by kernel_rfl) (fun _ _ _ h => h) (Or.inl ⟨by rfl, ?hy_16⟩) (by assumption) ?rest_16
                case hy_16 => (intro w hSw; (try dsimp only at hSw); go_simp; try with_reducible rfl)
                try simp only [Act.put, List.setIfInBounds_toArray, List.set_cons_zero, List.set_cons_succ]
                refine wpAnyH_take (i := 16) (oi := ({ dst := some 130, op := Op.indexAddr 55 (Operand.tmp 128) (Operand.tmp 129), type := 0, pos := "law.go:93", after := #[{ on := 14, ground := Ground.data }, { on := 15, ground := Ground.data }, { on := 9, ground := Ground.guard }], guard := some (9, false) } : Oper)) (v := ?v_17) rfl (by kernel_rfl) (by kernel_rfl) (by kernel_rfl) (fun _ _ _ h => h) (Or.inl ⟨by rfl, ?hy_17⟩) (by assumption) ?rest_17
                case hy_17 => (intro w hSw; (try dsimp only at hSw); go_simp; try with_reducible rfl)
                try simp only [Act.put, List.setIfInBounds_toArray, List.set_cons_zero, List.set_cons_succ]
                refine wpAnyH_take (i := 17) (oi := ({ dst := some 131, op := Op.load 36 (Operand.tmp 130), type := 36, pos := "law.go:93", after := #[{ on := 16, ground := Ground.data }, { on := 9, ground := Ground.guard }], guard := some (9, false) } : Oper)) (v := ?v_18) rfl (by kernel_rfl) (by kernel_rfl) (by kernel_rfl) (fun _ _ _ h => h) (Or.inl ⟨by rfl, ?hy_18⟩) (by assumption) ?rest_18
                case hy_18 => (intro w hSw; (try dsimp only at hSw); go_simp; try with_reducible rfl)
                try simp only [Act.put, List.setIfInBounds_toArray, List.set_cons_zero, List.set_cons_succ]
                refine wpAnyH_take (i := 18) (oi := ({ dst := some 132, op := Op.call { callee := Callee.builtin Builtin.len, args := #[Operand.tmp 131], argTypes := #[36] }, type := 3, pos := "law.go:93", after := #[{ on := 17, ground := Ground.data }, { on := 9, ground := Ground.guard }], guard := some (9, false) } : Oper)) (v := ?v_19) rfl (by kernel_rfl) (by kernel_rfl) (by kernel_rfl) (fun _ _ _ h => h) (Or.inl ⟨by rfl, ?hy_19⟩) (by assumption) ?rest_19
                case hy_19 => (intro w hSw; (try dsimp only at hSw); go_simp; try with_reducible rfl)
                try simp only [Act.put, List.setIfInBounds_toArray, List.set_cons_zero, List.set_cons_succ]
                refine wpAnyH_take (i := 19) (oi := ({ dst := some 133, op := Op.binOp BinOp.lss 3 (Operand.tmp 124) (Operand.tmp 132) 3, type := 4, pos := "law.go:93", after := #[{ on := 10, ground := Ground.data }, { on := 18, ground := Ground.data }, { on := 9, ground := Ground.guard }], guard := some (9, false) } : Oper)) (v := ?v_20) rfl (by kernel_rfl) (by kernel_rfl) (by kernel_rfl) (fun _ _ _ h => h) (Or.inl ⟨by rfl, ?hy_20⟩) (by assumption) ?rest_20
                case hy_20 => (intro w hSw; (try dsimp only at hSw); go_simp; try with_reducible rfl)
                try simp only [Act.put, List.setIfInBounds_toArray, List.set_cons_zero, List.set_cons_succ]
                refine wpAnyH_take (i := 20) (oi := ({ dst := some 134, op := Op.move (Operand.tmp 133), type := 4, pos := "law.go:93", after := #[{ on := 19, ground := Ground.data }, { on := 9, ground := Ground.chain }, { on := 9, ground := Ground.guard }], guard := some (9, false) } : Oper)) (v := ?v_21) rfl (by kernel_rfl) (by kernel_rfl) (by kernel_rfl) (fun _ _ _ h => h) (Or.inl ⟨by rfl, ?hy_21⟩) (by assumption) ?rest_21
                case hy_21 => (intro w hSw; (try dsimp only at hSw); go_simp; try with_reducible rfl)
                try simp only [Act.put, List.setIfInBounds_toArray, List.set_cons_zero, List.set_cons_succ]
                refine wpAnyH_take (i := 21) (oi := ({ dst := some 135, op := Op.move (Operand.tmp 0), type := 54, pos := "law.go:93", after := #[{ on := 20, ground := Ground.guard }], guard := some (20, true) } : Oper)) (v := ?v_22) rfl (by kernel_rfl) (by kernel_rfl) (by kernel_rfl) (fun _ _ _ h => h) (Or.inl ⟨by rfl, ?hy_22⟩) (by assumption) ?rest_22
                case hy_22 => (intro w hSw; (try dsimp only at hSw); go_simp; try with_reducible rfl)
                try simp only [Act.put, List.setIfInBounds_toArray, List.set_cons_zero, List.set_cons_succ]
                refine wpAnyH_take (i := 22) (oi := ({ dst := some 136, op := Op.nilCheck (Operand.tmp 135), type := 0, pos := "law.go:93", after := #[{ on := 21, ground := Ground.data }, { on := 20, ground := Ground.guard }], guard := some (20, true) } : Oper)) (v := ?v_23) rfl (by kernel_rfl) (by kernel_rfl) (by kernel_rfl) (fun _ _ _ h => h) (Or.inl ⟨by rfl, ?hy_23⟩) (by assumption) ?rest_23
                case hy_23 => (intro w hSw; (try dsimp only at hSw); go_simp; try with_reducible rfl)
                try simp only [Act.put, List.setIfInBounds_toArray, List.set_cons_zero, List.set_cons_succ]
                refine wpAnyH_take (i := 23) (oi := ({ dst := some 137, op := Op.fieldAddr 57 (Operand.tmp 136) 0, type := 0, pos := "law.go:93", after := #[{ on := 22, ground := Ground.data }, { on := 20, ground := Ground.guard }], guard := some (20, true) } : Oper)) (v := ?v_24) rfl (by kernel_rfl) (by kernel_rfl) (by kernel_rfl) (fun _ _ _ h => h) (Or.inl ⟨by rfl, ?hy_24⟩) (by assumption) ?rest_24
                case hy_24 => (intro w hSw; (try dsimp only at hSw); go_simp; try with_reducible rfl)
                try simp only [Act.put, List.setIfInBounds_toArray, List.set_cons_zero, List.set_cons_succ]
                refine wpAnyH_take (i := 24) (oi := ({ dst := some 138, op := Op.load 55 (Operand.tmp 137), type := 55, pos := "law.go:93", after := #[{ on := 23, ground := Ground.data }, { on := 20, ground := Ground.guard }], guard := some (20, true) } : Oper)) (v := ?v_25) rfl (by kernel_rfl) (by kernel_rfl) (by kernel_rfl) (fun _ _ _ h => h) (Or.inl ⟨by rfl, ?hy_25⟩) (by assumption) ?rest_25
                case hy_25 => (intro w hSw; (try dsimp only at hSw); go_simp; try with_reducible rfl)
                try simp only [Act.put, List.setIfInBounds_toArray, List.set_cons_zero, List.set_cons_succ]
                refine wpAnyH_take (i := 25) (oi := ({ dst := some 139, op := Op.move (Operand.tmp 9), type := 3, pos := "law.go:93", after := #[{ on := 20, ground := Ground.guard }], guard := some (20, true) } : Oper)) (v := ?v_26) rfl (by kernel_rfl) (by kernel_rfl) (by kernel_rfl) (fun _ _ _ h => h) (Or.inl ⟨by rfl, ?hy_26⟩) (by assumption) ?rest_26
                case hy_26 => (intro w hSw; (try dsimp only at hSw); go_simp; try with_reducible rfl)
                try simp only [Act.put, List.setIfInBounds_toArray, List.set_cons_zero, List.set_cons_succ]
                refine wpAnyH_take (i := 26) (oi := ({ dst := some 140, op := Op.indexAddr 55 (Operand.tmp 138) (Operand.tmp 139), type := 0, pos := "law.go:93", after := #[{ on := 24, ground := Ground.data }, { on := 25, ground := Ground.data }, { on := 20, ground := Ground.guard }], guard := some (20, true) } : Oper)) (v := ?v_27) rfl (by kernel_rfl) (by kernel_rfl) (by kernel_rfl) (fun _ _ _ h => h) (Or.inl ⟨by rfl, ?hy_27⟩) (by assumption) ?rest_27
                case hy_27 => (intro w hSw; (try dsimp only at hSw); go_simp; try with_reducible rfl)
                try simp only [Act.put, List.setIfInBounds_toArray, List.set_cons_zero, List.set_cons_succ]
                refine wpAnyH_take (i := 27) (oi := ({ dst := some 141, op := Op.load 36 (Operand.tmp 140), type := 36, pos := "law.go:93", after := #[{ on := 26, ground := Ground.data }, { on := 20, ground := Ground.guard }], guard := some (20, true) } : Oper)) (v := ?v_28) rfl (by kernel_rfl) (by kernel_rfl) (by kernel_rfl) (fun _ _ _ h => h) (Or.inl ⟨by rfl, ?hy_28⟩) (by assumption) ?rest_28
                case hy_28 => (intro w hSw; (try dsimp only at hSw); go_simp; try with_reducible rfl)
                try simp only [Act.put, List.setIfInBounds_toArray, List.set_cons_zero, List.set_cons_succ]
                refine wpAnyH_take (i := 28) (oi := ({ dst := some 142, op := Op.move (Operand.tmp 10), type := 3, pos := "law.go:93", after := #[{ on := 20, ground := Ground.guard }], guard := some (20, true) } : Oper)) (v := ?v_29) rfl (by kernel_rfl) (by kernel_rfl) (by kernel_rfl) (fun _ _ _ h => h) (Or.inl ⟨by rfl, ?hy_29⟩) (by assumption) ?rest_29
                case hy_29 => (intro w hSw; (try dsimp only at hSw); go_simp; try with_reducible rfl)
                try simp only [Act.put, List.setIfInBounds_toArray, List.set_cons_zero, List.set_cons_succ]
                refine wpAnyH_take (i := 29) (oi := ({ dst := some 143, op := Op.indexAddr 36 (Operand.tmp 141) (Operand.tmp 142), type := 0, pos := "law.go:93", after := #[{ on := 27, ground := Ground.data }, { on := 28, ground := Ground.data }, { on := 20, ground := Ground.guard }], guard := some (20, true) } : Oper)) (v := ?v_30) rfl (by kernel_rfl) (by kernel_rfl) (by kernel_rfl) (fun _ _ _ h => h) (Or.inl ⟨by rfl, ?hy_30⟩) (by assumption) ?rest_30
                case hy_30 => (intro w hSw; (try dsimp only at hSw); go_simp; try with_reducible rfl)
                try simp only [Act.put, List.setIfInBounds_toArray, List.set_cons_zero, List.set_cons_succ]
                refine wpAnyH_take (i := 30) (oi := ({ dst := some 144, op := Op.load 94 (Operand.tmp 143), type := 94, pos := "law.go:93", after := #[{ on := 29, ground := Ground.data }, { on := 20, ground := Ground.guard }], guard := some (20, true) } : Oper)) (v := ?v_31) rfl (by kernel_rfl) (by kernel_rfl) (by kernel_rfl) (fun _ _ _ h => h) (Or.inl ⟨by rfl, ?hy_31⟩) (by assumption) ?rest_31
                case hy_31 => (intro w hSw; (try dsimp only at hSw); go_simp; try with_reducible rfl)
                try simp only [Act.put, List.setIfInBounds_toArray, List.set_cons_zero, List.set_cons_succ]
                refine wpAnyH_take (i := 31) (oi := ({ dst := some 145, op := Op.load 94 (Operand.tmp 11), type := 94, pos := "law.go:93", after := #[{ on := 20, ground := Ground.guard }], guard := some (20, true) } : Oper)) (v := ?v_32) rfl (by kernel_rfl) (by kernel_rfl) (by kernel_rfl) (fun _ _ _ h => h) (Or.inl ⟨by rfl, ?hy_32⟩) (by assumption) ?rest_32
                case hy_32 => (intro w hSw; (try dsimp only at hSw); go_simp; try with_reducible rfl)
                try simp only [Act.put, List.setIfInBounds_toArray, List.set_cons_zero, List.set_cons_succ]
                refine wpAnyH_take (i := 32) (oi := ({ dst := some 146, op := Op.binOp BinOp.neq 94 (Operand.tmp 144) (Operand.tmp 145) 94, type := 4, pos := "law.go:93", after := #[{ on := 30, ground := Ground.data }, { on := 31, ground := Ground.data }, { on := 20, ground := Ground.guard }], guard := some (20, true) } : Oper)) (v := ?v_33) rfl (by kernel_rfl) (by kernel_rfl) (by kernel_rfl) (fun _ _ _ h => h) (Or.inl ⟨by rfl, ?hy_33⟩) (by assumption) ?rest_33
                case hy_33 => (intro w hSw; (try dsimp only at hSw); go_simp; try with_reducible rfl)
                try simp only [Act.put, List.setIfInBounds_toArray, List.set_cons_zero, List.set_cons_succ]
                refine wpAnyH_take (i := 33) (oi := ({ dst := some 147, op := Op.pick (Operand.tmp 134) (Operand.tmp 146) (Operand.const (Value.bool false)), type := 4, pos := "law.go:93", after := #[{ on := 20, ground := Ground.data }, { on := 32, ground := Ground.data }, { on := 9, ground := Ground.guard }], guard := some (9, false) } : Oper)) (v := ?v_34) rfl (by kernel_rfl) (by kernel_rfl) (by kernel_rfl) (fun _ _ _ h => h) (Or.inl ⟨by rfl, ?hy_34⟩) (by assumption) ?rest_34
                case hy_34 => (intro w hSw; (try dsimp only at hSw); go_simp; try with_reducible rfl)
                try simp only [Act.put, List.setIfInBounds_toArray, List.set_cons_zero, List.set_cons_succ]
                refine wpAnyH_take (i := 34) (oi := ({ dst := some 148, op := Op.pick (Operand.tmp 123) (Operand.const (Value.bool true)) (Operand.tmp 147), type := 4, pos := "law.go:93", after := #[{ on := 9, ground := Ground.data }, { on := 33, ground := Ground.data }], guard := none } : Oper)) (v := ?v_35) rfl (by kernel_rfl) (by kernel_rfl) (by kernel_rfl) (fun _ _ _ h => h) (Or.inl ⟨by rfl, ?hy_35⟩) (by assumption) ?rest_35
                case hy_35 => (intro w hSw; (try dsimp only at hSw); go_simp; try with_reducible rfl)
                try simp only [Act.put, List.setIfInBounds_toArray, List.set_cons_zero, List.set_cons_succ]
                refine wpAnyH_done (by kernel_rfl) ?_ _
                go_wp2_with fail
                exact ⟨⟨k + 1, by omega, by go_num, HBD.out⟩, by show n + 20 - ((k : Int) + 1).toNat < n + 20 - (k : Int).toNat; omega⟩
              · have hk2 : decide ((k : Int) < (n : Int)) = false := decide_eq_false (by omega)
                have hk3 : decide (k < n) = false := decide_eq_false hkn
                clear hlk hkn hmk
                go_upto_region 25 with (go_at_call 66; with_reducible refine (HWD.out _).mono ?_; rintro e w2 ⟨rfl, hb2⟩; have z0 := cell_past z0 hb2; have zi := cell_past zi hb2; have zx := cell_past zx hb2; have hbv := HBV.out.trans (hb2.mono HBV.out.size); have HBV := Lib.hid hbv; clear hb2 hbv)
                have hba := HBV.out.alloc HBV.out.size (.cells #[.int .u8 ((k : Int) % 256), .string ⟨dg.toArray⟩, .bool false] 94)
                have hbd := hba.drew
                have z0 := cell_past z0 ((Below.refl w2.heap.size w2).alloc (Nat.le_refl _) (.cells #[.int .u8 ((k : Int) % 256), .string ⟨dg.toArray⟩, .bool false] 94)).drew
                have zi := cell_past zi ((Below.refl w2.heap.size w2).alloc (Nat.le_refl _) (.cells #[.int .u8 ((k : Int) % 256), .string ⟨dg.toArray⟩, .bool false] 94)).drew
                have zx := cell_past zx ((Below.refl w2.heap.size w2).alloc (Nat.le_refl _) (.cells #[.int .u8 ((k : Int) % 256), .string ⟨dg.toArray⟩, .bool false] 94)).drew
                have x3 := range_past r3 hbd
                have xb : (w2.alloc (.cells #[.int .u8 ((k : Int) % 256), .string ⟨dg.toArray⟩, .bool false] 94)).drew.rangeAt w2.heap.size 0 cl := by
                  rw [hcl]
                  intro j v hv
                  rw [Nat.zero_add, ((Blk.new w2 94 #[.int .u8 ((k : Int) % 256), .string ⟨dg.toArray⟩, .bool false]).drew).cell j]
                  simpa using hv
                have HBD := Lib.hid hbd
                clear hba hbd hcl
                have hldb := hld w2.heap.size 0
                have hld3 := hld g3 (k * 3)
                clear hld
                refine wp_region_held_drew (S := (fun w' => w'.cell? ⟨mk, 0, none⟩ = some (.slice (some ⟨gr, 0, none⟩) vs.length c0) ∧ w'.cell? ⟨gr, i, none⟩ = some (.slice U n cu) ∧ w'.cell? ⟨gx, i, none⟩ = some (.slice (some ⟨g3, 0, none⟩) (n + 20) cv) ∧ w'.rangeAt g3 (k * 3) cl ∧ w'.rangeAt w2.heap.size 0 cl)) (by kernel_rfl) (by exact ⟨z0, zi, zx, x3, xb⟩) (fun hHeld => ?_)
                refine wpAnyH_take (i := 0) (oi := ({ dst := some 114, op := Op.move (Operand.tmp 3), type := 55, pos := "law.go:93", after := #[], guard := none } : Oper)) (v := ?v_36) rfl (by kernel_rfl) (by kernel_rfl) (by kernel_rfl) (fun _ _ _ h => h) (Or.inl ⟨by rfl, ?hy_36⟩) (by assumption) ?rest_36
                case hy_36 => (intro w hSw; (try dsimp only at hSw); go_simp; try with_reducible rfl)
                try simp only [Act.put, List.setIfInBounds_toArray, List.set_cons_zero, List.set_cons_succ]
                refine wpAnyH_take (i := 1) (oi := ({ dst := some 115, op := Op.move (Operand.tmp 9), type := 3, pos := "law.go:93", after := #[], guard := none } : Oper)) (v := ?v_37) rfl (by kernel_rfl) (by kernel_rfl) (by kernel_rfl) (fun _ _ _ h => h) (Or.inl ⟨by rfl, ?hy_37⟩) (by assumption) ?rest_37
                case hy_37 => (intro w hSw; (try dsimp only at hSw); go_simp; try with_reducible rfl)
                try simp only [Act.put, List.setIfInBounds_toArray, List.set_cons_zero, List.set_cons_succ]
                refine wpAnyH_take (i := 2) (oi := ({ dst := some 116, op := Op.indexAddr 55 (Operand.tmp 114) (Operand.tmp 115), type := 0, pos := "law.go:93", after := #[{ on := 0, ground := Ground.data }, { on := 1, ground := Ground.data }], guard := none } : Oper)) (v := ?v_38) rfl (by kernel_rfl) (by kernel_rfl) (by kernel_rfl) (fun _ _ _ h => h) (Or.inl ⟨by rfl, ?hy_38⟩) (by assumption) ?rest_38
                case hy_38 => (intro w hSw; (try dsimp only at hSw); go_simp; try with_reducible rfl)
                try simp only [Act.put, List.setIfInBounds_toArray, List.set_cons_zero, List.set_cons_succ]
                refine wpAnyH_take (i := 3) (oi := ({ dst := some 117, op := Op.load 36 (Operand.tmp 116), type := 36, pos := "law.go:93", after := #[{ on := 2, ground := Ground.data }], guard := none } : Oper)) (v := ?v_39) rfl (by kernel_rfl) (by kernel_rfl) (by kernel_rfl) (fun _ _ _ h => h) (Or.inl ⟨by rfl, ?hy_39⟩) (by assumption) ?rest_39
                case hy_39 => (intro w hSw; (try dsimp only at hSw); go_simp; try with_reducible rfl)
                try simp only [Act.put, List.setIfInBounds_toArray, List.set_cons_zero, List.set_cons_succ]
                refine wpAnyH_take (i := 4) (oi := ({ dst := some 118, op := Op.move (Operand.tmp 10), type := 3, pos := "law.go:93", after := #[], guard := none } : Oper)) (v := ?v_40) rfl (by kernel_rfl) (by kernel_rfl) (by kernel_rfl) (fun _ _ _ h => h) (Or.inl ⟨by rfl, ?hy_40⟩) (by assumption) ?rest_40
                case hy_40 => (intro w hSw; (try dsimp only at hSw); go_simp; try with_reducible rfl)
                try simp only [Act.put, List.setIfInBounds_toArray, List.set_cons_zero, List.set_cons_succ]
                refine wpAnyH_take (i := 5) (oi := ({ dst := some 119, op := Op.indexAddr 36 (Operand.tmp 117) (Operand.tmp 118), type := 0, pos := "law.go:93", after := #[{ on := 3, ground := Ground.data }, { on := 4, ground := Ground.data }], guard := none } : Oper)) (v := ?v_41) rfl (by kernel_rfl) (by kernel_rfl) (by kernel_rfl) (fun _ _ _ h => h) (Or.inl ⟨by rfl, ?hy_41⟩) (by assumption) ?rest_41
                case hy_41 => (intro w hSw; (try dsimp only at hSw); go_simp; try with_reducible rfl)
                try simp only [Act.put, List.setIfInBounds_toArray, List.set_cons_zero, List.set_cons_succ]
                refine wpAnyH_take (i := 6) (oi := ({ dst := some 120, op := Op.load 94 (Operand.tmp 119), type := 94, pos := "law.go:93", after := #[{ on := 5, ground := Ground.data }], guard := none } : Oper)) (v := ?v_42) rfl (by kernel_rfl) (by kernel_rfl) (by kernel_rfl) (fun _ _ _ h => h) (Or.inl ⟨by rfl, ?hy_42⟩) (by assumption) ?rest_42
                case hy_42 => (intro w hSw; (try dsimp only at hSw); go_simp; try with_reducible rfl)
                try simp only [Act.put, List.setIfInBounds_toArray, List.set_cons_zero, List.set_cons_succ]
                refine wpAnyH_take (i := 7) (oi := ({ dst := some 121, op := Op.load 94 (Operand.tmp 11), type := 94, pos := "law.go:93", after := #[], guard := none } : Oper)) (v := ?v_43) rfl (by kernel_rfl) (by kernel_rfl) (by kernel_rfl) (fun _ _ _ h => h) (Or.inl ⟨by rfl, ?hy_43⟩) (by assumption) ?rest_43
                case hy_43 => (intro w hSw; (try dsimp only at hSw); go_simp; try with_reducible rfl)
                try simp only [Act.put, List.setIfInBounds_toArray, List.set_cons_zero, List.set_cons_succ]
                refine wpAnyH_take (i := 8) (oi := ({ dst := some 122, op := Op.binOp BinOp.neq 94 (Operand.tmp 120) (Operand.tmp 121) 94, type := 4, pos := "law.go:93", after := #[{ on := 6, ground := Ground.data }, { on := 7, ground := Ground.data }], guard := none } : Oper)) (v := ?v_44) rfl (by kernel_rfl) (by kernel_rfl) (by kernel_rfl) (fun _ _ _ h => h) (Or.inl ⟨by rfl, ?hy_44⟩) (by assumption) ?rest_44
                case hy_44 => (intro w hSw; (try dsimp only at hSw); go_simp; try with_reducible rfl)
                try simp only [Act.put, List.setIfInBounds_toArray, List.set_cons_zero, List.set_cons_succ]
                refine wpAnyH_take (i := 9) (oi := ({ dst := some 123, op := Op.move (Operand.tmp 122), type := 4, pos := "law.go:93", after := #[{ on := 8, ground := Ground.data }], guard := none } : Oper)) (v := ?v_45) rfl (by kernel_rfl) (by kernel_rfl) (by kernel_rfl) (fun _ _ _ h => h) (Or.inl ⟨by rfl, ?hy_45⟩) (by assumption) ?rest_45
                case hy_45 => (intro w hSw; (try dsimp only at hSw); go_simp; try with_reducible rfl)
                try simp only [Act.put, List.setIfInBounds_toArray, List.set_cons_zero, List.set_cons_succ]
                refine wpAnyH_take (i := 10) (oi := ({ dst := some 124, op := Op.move (Operand.tmp 10), type := 3, pos := "law.go:93", after := #[{ on := 9, ground := Ground.guard }], guard := some (9, false) } : Oper)) (v := ?v_46) rfl (by kernel_rfl) (by kernel_rfl) (by kernel_rfl) (fun _ _ _ h => h) (Or.inl ⟨by rfl, ?hy_46⟩) (by assumption) ?rest_46
                case hy_46 => (intro w hSw; (try dsimp only at hSw); go_simp; try with_reducible rfl)
                try simp only [Act.put, List.setIfInBounds_toArray, List.set_cons_zero, List.set_cons_succ]
                refine wpAnyH_take (i := 11) (oi := ({ dst := some 125, op := Op.move (Operand.tmp 0), type := 54, pos := "law.go:93", after := #[{ on := 9, ground := Ground.guard }], guard := some (9, false) } : Oper)) (v := ?v_47) rfl (by kernel_rfl) (by kernel_rfl) (by kernel_rfl) (fun _ _ _ h => h) (Or.inl ⟨by rfl, ?hy_47⟩) (by assumption) ?rest_47
                case hy_47 => (intro w hSw; (try dsimp only at hSw); go_simp; try with_reducible rfl)
                try simp only [Act.put, List.setIfInBounds_toArray, List.set_cons_zero, List.set_cons_succ]
                refine wpAnyH_take (i := 12) (oi := ({ dst := some 126, op := Op.nilCheck (Operand.tmp 125), type := 0, pos := "law.go:93", after := #[{ on := 11, ground := Ground.data }, { on := 9, ground := Ground.guard }], guard := some (9, false) } : Oper)) (v := ?v_48) rfl (by kernel_rfl) (by kernel_rfl) (by kernel_rfl) (fun _ _ _ h => h) (Or.inl ⟨by rfl, ?hy_48⟩) (by assumption) ?rest_48
                case hy_48 => (intro w hSw; (try dsimp only at hSw); go_simp; try with_reducible rfl)
                try simp only [Act.put, List.setIfInBounds_toArray, List.set_cons_zero, List.set_cons_succ]
                refine wpAnyH_take (i := 13) (oi := ({ dst := some 127, op := Op.fieldAddr 57 (Operand.tmp 126) 0, type := 0, pos := "law.go:93", after := #[{ on := 12, ground := Ground.data }, { on := 9, ground := Ground.guard }], guard := some (9, false) } : Oper)) (v := ?v_49) rfl (by kernel_rfl) (by kernel_rfl) (by kernel_rfl) (fun _ _ _ h => h) (Or.inl ⟨by rfl, ?hy_49⟩) (by assumption) ?rest_49
                case hy_49 => (intro w hSw; (try dsimp only at hSw); go_simp; try with_reducible rfl)
                try simp only [Act.put, List.setIfInBounds_toArray, List.set_cons_zero, List.set_cons_succ]
                refine wpAnyH_take (i := 14) (oi := ({ dst := some 128, op := Op.load 55 (Operand.tmp 127), type := 55, pos := "law.go:93", after := #[{ on := 13, ground := Ground.data }, { on := 9, ground := Ground.guard }], guard := some (9, false) } : Oper)) (v := ?v_50) rfl (by kernel_rfl) (by kernel_rfl) (by kernel_rfl) (fun _ _ _ h => h) (Or.inl ⟨by rfl, ?hy_50⟩) (by assumption) ?rest_50
                case hy_50 => (intro w hSw; (try dsimp only at hSw); go_simp; try with_reducible rfl)
                try simp only [Act.put, List.setIfInBounds_toArray, List.set_cons_zero, List.set_cons_succ]
                refine wpAnyH_take (i := 15) (oi := ({ dst := some 129, op := Op.move (Operand.tmp 9), type := 3, pos := "law.go:93", after := #[{ on := 9, ground := Ground.guard }], guard := some (9, false) } : Oper)) (v := ?v_51) rfl (by kernel_rfl) (by kernel_rfl) (by kernel_rfl) (fun _ _ _ h => h) (Or.inl ⟨by rfl, ?hy_51⟩) (by assumption) ?rest_51
                case hy_51 => (intro w hSw; (try dsimp only at hSw); go_simp; try with_reducible rfl)
                try simp only [Act.put, List.setIfInBounds_toArray, List.set_cons_zero, List.set_cons_succ]
                refine wpAnyH_take (i := 16) (oi := ({ dst := some 130, op := Op.indexAddr 55 (Operand.tmp 128) (Operand.tmp 129), type := 0, pos := "law.go:93", after := #[{ on := 14, ground := Ground.data }, { on := 15, ground := Ground.data }, { on := 9, ground := Ground.guard }], guard := some (9, false) } : Oper)) (v := ?v_52) rfl (by kernel_rfl) (by kernel_rfl) (by kernel_rfl) (fun _ _ _ h => h) (Or.inl ⟨by rfl, ?hy_52⟩) (by assumption) ?rest_52
                case hy_52 => (intro w hSw; (try dsimp only at hSw); go_simp; try with_reducible rfl)
                try simp only [Act.put, List.setIfInBounds_toArray, List.set_cons_zero, List.set_cons_succ]
                refine wpAnyH_take (i := 17) (oi := ({ dst := some 131, op := Op.load 36 (Operand.tmp 130), type := 36, pos := "law.go:93", after := #[{ on := 16, ground := Ground.data }, { on := 9, ground := Ground.guard }], guard := some (9, false) } : Oper)) (v := ?v_53) rfl (by kernel_rfl) (by kernel_rfl) (by kernel_rfl) (fun _ _ _ h => h) (Or.inl ⟨by rfl, ?hy_53⟩) (by assumption) ?rest_53
                case hy_53 => (intro w hSw; (try dsimp only at hSw); go_simp; try with_reducible rfl)
                try simp only [Act.put, List.setIfInBounds_toArray, List.set_cons_zero, List.set_cons_succ]
                refine wpAnyH_take (i := 18) (oi := ({ dst := some 132, op := Op.call { callee := Callee.builtin Builtin.len, args := #[Operand.tmp 131], argTypes := #[36] }, type := 3, pos := "law.go:93", after := #[{ on := 17, ground := Ground.data }, { on := 9, ground := Ground.guard }], guard := some (9, false) } : Oper)) (v := ?v_54) rfl (by kernel_rfl) (by kernel_rfl) (by kernel_rfl) (fun _ _ _ h => h) (Or.inl ⟨by rfl, ?hy_54⟩) (by assumption) ?rest_54
                case hy_54 => (intro w hSw; (try dsimp only at hSw); go_simp; try with_reducible rfl)
                try simp only [Act.put, List.setIfInBounds_toArray, List.set_cons_zero, List.set_cons_succ]
                refine wpAnyH_take (i := 19) (oi := ({ dst := some 133, op := Op.binOp BinOp.lss 3 (Operand.tmp 124) (Operand.tmp 132) 3, type := 4, pos := "law.go:93", after := #[{ on := 10, ground := Ground.data }, { on := 18, ground := Ground.data }, { on := 9, ground := Ground.guard }], guard := some (9, false) } : Oper)) (v := ?v_55) rfl (by kernel_rfl) (by kernel_rfl) (by kernel_rfl) (fun _ _ _ h => h) (Or.inl ⟨by rfl, ?hy_55⟩) (by assumption) ?rest_55
                case hy_55 => (intro w hSw; (try dsimp only at hSw); go_simp; try with_reducible rfl)
                try simp only [Act.put, List.setIfInBounds_toArray, List.set_cons_zero, List.set_cons_succ]
                refine wpAnyH_take (i := 20) (oi := ({ dst := some 134, op := Op.move (Operand.tmp 133), type := 4, pos := "law.go:93", after := #[{ on := 19, ground := Ground.data }, { on := 9, ground := Ground.chain }, { on := 9, ground := Ground.guard }], guard := some (9, false) } : Oper)) (v := ?v_56) rfl (by kernel_rfl) (by kernel_rfl) (by kernel_rfl) (fun _ _ _ h => h) (Or.inl ⟨by rfl, ?hy_56⟩) (by assumption) ?rest_56
                case hy_56 => (intro w hSw; (try dsimp only at hSw); go_simp; try with_reducible rfl)
                try simp only [Act.put, List.setIfInBounds_toArray, List.set_cons_zero, List.set_cons_succ]
                refine wpAnyH_take (i := 21) (oi := ({ dst := some 135, op := Op.move (Operand.tmp 0), type := 54, pos := "law.go:93", after := #[{ on := 20, ground := Ground.guard }], guard := some (20, true) } : Oper)) (v := undef) rfl (by kernel_rfl) (by kernel_rfl) (by kernel_rfl) (fun _ _ _ h => h) (Or.inr ⟨by rfl, rfl⟩) (by assumption) ?_
                try simp only [Act.put, List.setIfInBounds_toArray, List.set_cons_zero, List.set_cons_succ]
                refine wpAnyH_take (i := 22) (oi := ({ dst := some 136, op := Op.nilCheck (Operand.tmp 135), type := 0, pos := "law.go:93", after := #[{ on := 21, ground := Ground.data }, { on := 20, ground := Ground.guard }], guard := some (20, true) } : Oper)) (v := undef) rfl (by kernel_rfl) (by kernel_rfl) (by kernel_rfl) (fun _ _ _ h => h) (Or.inr ⟨by rfl, rfl⟩) (by assumption) ?_
                try simp only [Act.put, List.setIfInBounds_toArray, List.set_cons_zero, List.set_cons_succ]
                refine wpAnyH_take (i := 23) (oi := ({ dst := some 137, op := Op.fieldAddr 57 (Operand.tmp 136) 0, type := 0, pos := "law.go:93", after := #[{ on := 22, ground := Ground.data }, { on := 20, ground := Ground.guard }], guard := some (20, true) } : Oper)) (v := undef) rfl (by kernel_rfl) (by kernel_rfl) (by kernel_rfl) (fun _ _ _ h => h) (Or.inr ⟨by rfl, rfl⟩) (by assumption) ?_
                try simp only [Act.put, List.setIfInBounds_toArray, List.set_cons_zero, List.set_cons_succ]
                refine wpAnyH_take (i := 24) (oi := ({ dst := some 138, op := Op.load 55 (Operand.tmp 137), type := 55, pos := "law.go:93", after := #[{ on := 23, ground := Ground.data }, { on := 20, ground := Ground.guard }], guard := some (20, true) } : Oper)) (v := undef) rfl (by kernel_rfl) (by kernel_rfl) (by kernel_rfl) (fun _ _ _ h => h) (Or.inr ⟨by rfl, rfl⟩) (by assumption) ?_
                try simp only [Act.put, List.setIfInBounds_toArray, List.set_cons_zero, List.set_cons_succ]
                refine wpAnyH_take (i := 25) (oi := ({ dst := some 139, op := Op.move (Operand.tmp 9), type := 3, pos := "law.go:93", after := #[{ on := 20, ground := Ground.guard }], guard := some (20, true) } : Oper)) (v := undef) rfl (by kernel_rfl) (by kernel_rfl) (by kernel_rfl) (fun _ _ _ h => h) (Or.inr ⟨by rfl, rfl⟩) (by assumption) ?_
                try simp only [Act.put, List.setIfInBounds_toArray, List.set_cons_zero, List.set_cons_succ]
                refine wpAnyH_take (i := 26) (oi := ({ dst := some 140, op := Op.indexAddr 55 (Operand.tmp 138) (Operand.tmp 139), type := 0, pos := "law.go:93", after := #[{ on := 24, ground := Ground.data }, { on := 25, ground := Ground.data }, { on := 20, ground := Ground.guard }], guard := some (20, true) } : Oper)) (v := undef) rfl (by kernel_rfl) (by kernel_rfl) (by kernel_rfl) (fun _ _ _ h => h) (Or.inr ⟨by rfl, rfl⟩) (by assumption) ?_
                try simp only [Act.put, List.setIfInBounds_toArray, List.set_cons_zero, List.set_cons_succ]
                refine wpAnyH_take (i := 27) (oi := ({ dst := some 141, op := Op.load 36 (Operand.tmp 140), type := 36, pos := "law.go:93", after := #[{ on := 26, ground := Ground.data }, { on := 20, ground := Ground.guard }], guard := some (20, true) } : Oper)) (v := undef) rfl (by kernel_rfl) (by kernel_rfl) (by kernel_rfl) (fun _ _ _ h => h) (Or.inr ⟨by rfl, rfl⟩) (by assumption) ?_
                try simp only [Act.put, List.setIfInBounds_toArray, List.set_cons_zero, List.set_cons_succ]
                refine wpAnyH_take (i := 28) (oi := ({ dst := some 142, op := Op.move (Operand.tmp 10), type := 3, pos := "law.go:93", after := #[{ on := 20, ground := Ground.guard }], guard := some (20, true) } : Oper)) (v := undef) rfl (by kernel_rfl) (by kernel_rfl) (by kernel_rfl) (fun _ _ _ h => h) (Or.inr ⟨by rfl, rfl⟩) (by assumption) ?_
                try simp only [Act.put, List.setIfInBounds_toArray, List.set_cons_zero, List.set_cons_succ]
                refine wpAnyH_take (i := 29) (oi := ({ dst := some 143, op := Op.indexAddr 36 (Operand.tmp 141) (Operand.tmp 142), type := 0, pos := "law.go:93", after := #[{ on := 27, ground := Ground.data }, { on := 28, ground := Ground.data }, { on := 20, ground := Ground.guard }], guard := some (20, true) } : Oper)) (v := undef) rfl (by kernel_rfl) (by kernel_rfl) (by kernel_rfl) (fun _ _ _ h => h) (Or.inr ⟨by rfl, rfl⟩) (by assumption) ?_
                try simp only [Act.put, List.setIfInBounds_toArray, List.set_cons_zero, List.set_cons_succ]
                refine wpAnyH_take (i := 30) (oi := ({ dst := some 144, op := Op.load 94 (Operand.tmp 143), type := 94, pos := "law.go:93", after := #[{ on := 29, ground := Ground.data }, { on := 20, ground := Ground.guard }], guard := some (20, true) } : Oper)) (v := undef) rfl (by kernel_rfl) (by kernel_rfl) (by kernel_rfl) (fun _ _ _ h => h) (Or.inr ⟨by rfl, rfl⟩) (by assumption) ?_
                try simp only [Act.put, List.setIfInBounds_toArray, List.set_cons_zero, List.set_cons_succ]
                refine wpAnyH_take (i := 31) (oi := ({ dst := some 145, op := Op.load 94 (Operand.tmp 11), type := 94, pos := "law.go:93", after := #[{ on := 20, ground := Ground.guard }], guard := some (20, true) } : Oper)) (v := undef) rfl (by kernel_rfl) (by kernel_rfl) (by kernel_rfl) (fun _ _ _ h => h) (Or.inr ⟨by rfl, rfl⟩) (by assumption) ?_
                try simp only [Act.put, List.setIfInBounds_toArray, List.set_cons_zero, List.set_cons_succ]
                refine wpAnyH_take (i := 32) (oi := ({ dst := some 146, op := Op.binOp BinOp.neq 94 (Operand.tmp 144) (Operand.tmp 145) 94, type := 4, pos := "law.go:93", after := #[{ on := 30, ground := Ground.data }, { on := 31, ground := Ground.data }, { on := 20, ground := Ground.guard }], guard := some (20, true) } : Oper)) (v := undef) rfl (by kernel_rfl) (by kernel_rfl) (by kernel_rfl) (fun _ _ _ h => h) (Or.inr ⟨by rfl, rfl⟩) (by assumption) ?_
                try simp only [Act.put, List.setIfInBounds_toArray, List.set_cons_zero, List.set_cons_succ]
                refine wpAnyH_take (i := 33) (oi := ({ dst := some 147, op := Op.pick (Operand.tmp 134) (Operand.tmp 146) (Operand.const (Value.bool false)), type := 4, pos := "law.go:93", after := #[{ on := 20, ground := Ground.data }, { on := 32, ground := Ground.data }, { on := 9, ground := Ground.guard }], guard := some (9, false) } : Oper)) (v := ?v_57) rfl (by kernel_rfl) (by kernel_rfl) (by kernel_rfl) (fun _ _ _ h => h) (Or.inl ⟨by rfl, ?hy_57⟩) (by assumption) ?rest_57
                case hy_57 => (intro w hSw; (try dsimp only at hSw); go_simp; try with_reducible rfl)
                try simp only [Act.put, List.setIfInBounds_toArray, List.set_cons_zero, List.set_cons_succ]
                refine wpAnyH_take (i := 34) (oi := ({ dst := some 148, op := Op.pick (Operand.tmp 123) (Operand.const (Value.bool true)) (Operand.tmp 147), type := 4, pos := "law.go:93", after := #[{ on := 9, ground := Ground.data }, { on := 33, ground := Ground.data }], guard := none } : Oper)) (v := ?v_58) rfl (by kernel_rfl) (by kernel_rfl) (by kernel_rfl) (fun _ _ _ h => h) (Or.inl ⟨by rfl, ?hy_58⟩) (by assumption) ?rest_58
                case hy_58 => (intro w hSw; (try dsimp only at hSw); go_simp; try with_reducible rfl)
                try simp only [Act.put, List.setIfInBounds_toArray, List.set_cons_zero, List.set_cons_succ]
                refine wpAnyH_done (by kernel_rfl) ?_ _
                go_wp2_with fail
                exact ⟨⟨k + 1, by omega, by go_num, HBD.out⟩, by show n + 20 - ((k : Int) + 1).toNat < n + 20 - (k : Int).toNat; omega⟩
            · have hk1 : decide ((k : Int) < (n : Int) + 20) = false := decide_eq_false (by omega)
              clear hlk
              go_wp2_with fail
              exact ⟨⟨i + 1, by omega, by go_num, HBV.out⟩, by show vs.length - ((i : Int) + 1).toNat < vs.length - (i : Int).toNat; omega⟩
        · have hi1 : decide (i < vs.length) = false := decide_eq_false (by omega)
          clear hlt
          go_wp2_with fail
          go_ret
          exact ⟨rfl, _, (HG2.out.only).trans (OnlyL.of_below HBW.out _ (62, 0) (.inr (.inr rfl)))⟩
end Go.Proofs.YthgfjafnclklpaaGreatDoor
end
section
namespace Go.Proofs.YthgfjafnclklpaaGreatDoor
attribute [local go_sem ↓] Go.wp_at_zero Go.wp_at_succ
open Go.RowKit

/-- bytes, and the marks behind them -/
def lentF (l : Sp.Bs) (k : Nat) : List Value := if k < l.length then [.int .u8 (l.getD k 0).toNat] else [.int .u8 (165 - (k - l.length : Nat))]
theorem lentF_length (l : Sp.Bs) (k : Nat) : (lentF l k).length = 1 := by unfold lentF; split <;> rfl
theorem lentF_low {l : Sp.Bs} {k : Nat} (h : k < l.length) : lentF l k = [.int .u8 (l.getD k 0).toNat] := if_pos h
theorem lentF_high (l : Sp.Bs) (j : Nat) : lentF l (l.length + j) = [.int .u8 (165 - (j : Int))] := by
  unfold lentF; rw [if_neg (by omega), Nat.add_sub_cancel_left]
theorem Lot.of_own {w : World} {base : Nat} {e : TypeId} {sz n : Nat} {v : Value} {xs : List Value} {F : Nat → List Value} (h : w.ownsRow base e sz v n xs) (hF : ∀ k, (F k).length = sz) (hx : ∀ k, k < n → ∀ (c : Nat) (u : Value), (F k)[c]? = some u → xs[k * sz + c]? = some u) : Lot w sz v n n F := by
  rcases h.2 with ⟨rfl, rfl⟩ | ⟨g, cap, cur, rfl, _, hg, h1, h2, h3, h4⟩
  · exact .inl ⟨rfl, rfl, rfl⟩
  · have hk : Blk w g e cur := hg
    refine .inr ⟨g, cap, rfl, Nat.le_refl _, h1, h2, hk.lt, fun j hj => ⟨?_, hk.frozen j⟩, fun k hk1 c u hu => ?_⟩
    · rw [hk.cell j]
      rw [← h3] at hj
      simp [hj]
    · rw [hk.cell]
      have hy := hx k hk1 c u hu
      have hc : c < sz := by rw [← hF k]; exact (List.getElem?_eq_some_iff.1 hu).1
      have hlt : k * sz + c < n * sz := (mul_add_cmp hc).2 hk1
      rw [← h4, List.getElem?_take_of_lt hlt] at hy
      simpa using hy
attribute [-go_sem] storeVar loadVar
attribute [local go_sem] storeVar_intB storeVar_sliceB loadVar_u8B

theorem markAt_any (i : Nat) (w : World) (h : i < 70) : Calls Tryz.prog 63 #[.int .i64 i] w fun e w' => e = .returned (.int .u8 (165 - (i : Int))) ∧ w = w' := by
  have h1 : IntKind.i64.wrap (165 - (i : Int)) = 165 - (i : Int) := by rw [IntKind.wrap_i64]; omega
  have h2 : IntKind.u8.wrap (165 - (i : Int)) = 165 - (i : Int) := by rw [IntKind.wrap_u8]; omega
  have h3 : (165 - (i : Int)) % 256 = 165 - (i : Int) := by omega
  go_enter Tryz.func63, Tryz.ntmps63
  go_wp2_with fail
  go_ret
  exact ⟨rfl, rfl⟩

/-- lent bytes lie in block g -/
def LentB (w : World) (g c : Nat) (l : Sp.Bs) : Prop := LotAt w 1 g (l.length + 70) c (l.length + 70) (lentF l)
theorem LentB.later {w w' : World} {g c : Nat} {l : Sp.Bs} (h : LentB w g c l) (hb : Below w.heap.size w w') : LentB w' g c l :=
  ⟨h.room, h.small, Nat.lt_of_lt_of_le h.lt hb.size, fun j hj => by rw [World.cell?_of_block (hb.block g h.lt), World.frozen?_of_block (hb.block g h.lt)]; exact h.there j hj, fun k hk c u hu => by rw [World.cell?_of_block (hb.block g h.lt)]; exact h.cells k hk c u hu⟩
theorem LentB.row {w : World} {g c : Nat} {l : Sp.Bs} (h : LentB w g c l) : RowAt w (some ⟨g, 0, none⟩) (bytesV l) := by
  refine .inr ⟨g, 0, rfl, h.lt, fun j u hu => ?_⟩
  have hj : j < l.length := by have := (List.getElem?_eq_some_iff.1 hu).1; simpa [bytesV] using this
  have := h.cells j (by omega) 0 (.int .u8 (l.getD j 0).toNat) (by rw [lentF_low hj]; rfl)
  rw [Nat.mul_one, Nat.add_zero] at this
  rw [Nat.zero_add, this]
  rw [← hu]
  simp [bytesV, List.getD_eq_getElem?_getD, List.getElem?_eq_getElem hj]

set_option maxHeartbeats 2000000 in
set_option maxRecDepth 100000 in
theorem lend_any {w : World} {A : Option Addr} {c : Nat} {l : Sp.Bs} (hrow : RowAt w A (bytesV l)) (hA : A = none → c = 0) (hl : l.length ≤ 140737488351232) :
    Calls Tryz.prog 18 #[.slice A l.length c] w fun e w' => ∃ g c', e = .returned (.slice (some ⟨g, 0, none⟩) l.length c') ∧ w.heap.size ≤ g ∧ LentB w' g c' l ∧ Below w.heap.size w w' := by
  obtain ⟨i0, hi0, hz0, hz1, hz2⟩ := info_parts info_u8B
  obtain ⟨w1, hmk, hown, hgr⟩ := run_make_own (P := Tryz.prog) w w.heap.size 35 5 i0 _ 1 Tryz.underlying35 hi0 hz0 hz1 .i64 .i64 (l.length + 70) (by rw [hz2]; omega) (by unfold maxLen; omega) (Nat.le_refl _)
  have hw7 : IntKind.i64.wrap ((l.length : Int) + 70) = (l.length : Int) + 70 := by rw [IntKind.wrap_i64]; omega
  rw [show ((l.length + 70 : Nat) : Int) = (l.length : Int) + 70 by omega] at hmk
  have hb1 : Below w.heap.size w w1 := (Below.refl _ w).grown hgr (Nat.le_refl _) (fun k h => by cases h)
  obtain ⟨f, hf⟩ : ∃ f : Nat → Lab, f = fun k => if k < w.heap.size then (0, 0) else (1, 0) := ⟨_, rfl⟩
  have hf0 : ∀ k, k < w.heap.size → f k = (0, 0) := fun k hk => by rw [hf]; exact if_pos hk
  have hl0 : Lot w1 1 (.slice (some ⟨w.heap.size, 0, none⟩) 0 (l.length + 70)) 0 0 (lentF l) := Lot.of_own hown (lentF_length l) (fun k hk => by omega)
  have hv0 : LabV f (.slice (some ⟨w.heap.size, 0, none⟩) 0 (l.length + 70)) (1, 0) := LabV.of_eq (by rw [hf]; exact if_neg (Nat.lt_irrefl _))
  have hsrc : Src Tryz.prog 1 35 (.slice A l.length c) l.length (bytesV l) w1 := src_row (hrow.below hb1) hA
  have hnews : ∀ k, k < l.length → ∀ c, c < 1 → (bytesV l)[k * 1 + c]? = (lentF l (0 + k))[c]? := fun k hk c hc => by
    obtain rfl : c = 0 := by omega
    rw [Nat.zero_add, lentF_low hk, Nat.mul_one, Nat.add_zero]
    simp [bytesV, List.getD_eq_getElem?_getD, List.getElem?_eq_getElem hk]
  have HB1 := Lib.hid hb1
  have HF0 := Lib.hid hf0
  have HL0 := Lib.hid hl0
  have HV0 := Lib.hid hv0
  have HSRC := Lib.hid hsrc
  have HNEWS := Lib.hid hnews
  clear hown hgr hb1 hf hf0 hl0 hv0 hsrc hnews hrow hA
  go_enter Tryz.func18, Tryz.ntmps18
  go_wp2_with (at_builtin; refine wpList_append_lotv rfl (.tmp 9) (.tmp 10) 35 35 rfl f (1, 0) (lentF l) 5 i0 _ 1 1 Tryz.underlying35 hi0 hz0 hz1 hz2 rfl (lentF_length l) (.slice (some ⟨w.heap.size, 0, none⟩) 0 (l.length + 70)) 0 rfl HL0.out HV0.out (.slice A l.length c) l.length (bytesV l) rfl HSRC.out HNEWS.out ?_ ?_ ?_; (unfold maxLen; omega); omega; intro v2 w2 hl2 hv2 hw2; rw [Nat.zero_add] at hl2; obtain ⟨A2, c2, rfl⟩ := hl2.form; have hb2 := HB1.out.trans (hw2.only.below HB1.out.size (fun k hk => by rw [HF0.out k hk]; exact lab_ne (by decide))); have hf2 : ∀ k, k < w.heap.size → relab f w1 (1, 0) k = (0, 0) := (fun k hk => (hw2.only.lab k (Nat.lt_of_lt_of_le hk HB1.out.size)).trans (HF0.out k hk)); have HL2 := Lib.hid hl2; have HV2 := Lib.hid hv2; have HB2 := Lib.hid hb2; have HF2 := Lib.hid hf2; clear hl2 hv2 hw2 hb2 hf2)
  go_loopw [3, 4] (fun sv iv wr => ∃ (i : Nat) (A2 : Option Addr) (c2 : Nat) (f2 : Nat → Lab), i ≤ 70 ∧ iv = .int .i64 i ∧ sv = .slice A2 (l.length + i) c2 ∧ Lot wr 1 (.slice A2 (l.length + i) c2) (l.length + i) (l.length + i) (lentF l) ∧ LabV f2 (.slice A2 (l.length + i) c2) (1, 0) ∧ Below w.heap.size w wr ∧ (∀ k, k < w.heap.size → f2 k = (0, 0)) ∧ ∀ g, (Value.slice A2 (l.length + i) c2).ownBlock = some g → w.heap.size ≤ g) (fun _ iv _ => 70 - (intOf iv).toNat)
  case atStart => exact ⟨0, A2, c2, _, by decide, rfl, rfl, HL2.out, HV2.out, HB2.out, HF2.out, fun g hg => by
    rcases Nat.lt_or_ge g w.heap.size with h | h
    · exact absurd ((HF2.out g h).symm.trans (HV2.out g hg)) (by decide)
    · exact h⟩
  case round =>
    obtain ⟨i, A3, c3, f3, hi, rfl, rfl, hl3, hv3, hb3, hf3, hg3⟩ := hrel
    by_cases hlt : i < 70
    · have hi1 : (i : Int) < 70 := by omega
      have hmk2 := markAt_any i wr hlt
      have hw1 : Wrote f3 (relab f3 wr (1, 0)) (1, 0) 1 (lentF l) wr (wr.alloc (.cells #[.int .u8 (165 - (i : Int))] 5)) := Wrote.of_below ((Below.refl _ _).alloc (Nat.le_refl _) _) f3 (1, 0) 1 _
      have hl4 := hl3.conf (lentF_length l) hw1
      have hv4 := hv3.on hw1.only hl3.lt
      have HMK := Lib.hid hmk2
      have HL4 := Lib.hid hl4
      have HV4 := Lib.hid hv4
      have HW1 := Lib.hid hw1
      have HB3 := Lib.hid hb3
      have HF3 := Lib.hid hf3
      clear hmk2 hl3 hv3 hb3 hf3 hg3 hl4 hv4 hw1 hlt
      go_wp2_with (first
        | (go_at_call 63; with_reducible refine HMK.out.mono ?_; rintro e w2 ⟨rfl, rfl⟩)
        | (at_builtin; refine wpList_append_lot rfl (.tmp 16) (.tmp 19) 35 35 rfl (relab f3 wr (1, 0)) (1, 0) (lentF l) 5 i0 _ 1 1 Tryz.underlying35 hi0 hz0 hz1 hz2 rfl (lentF_length l) _ (l.length + i) rfl HL4.out HV4.out _ 1 _ rfl (src_one wr Tryz.underlying35 _ rfl _) (news_one (lentF_high l i)) (by decide) ?_ ?_ ?_; (unfold maxLen; omega); omega; intro g5 c5 w5 hl5 hv5 hw5; have hw6 := HW1.out.trans hw5; have hb6 := HB3.out.trans (hw6.only.below HB3.out.size (fun k hk => by rw [HF3.out k hk]; exact lab_ne (by decide))); have hf6 := (fun (k : Nat) (hk : k < w.heap.size) => (hw6.only.lab k (Nat.lt_of_lt_of_le hk HB3.out.size)).trans (HF3.out k hk)); have HL5 := Lib.hid hl5; have HV5 := Lib.hid hv5; have HB6 := Lib.hid hb6; have HF6 := Lib.hid hf6; clear hl5 hv5 hw5 hw6 hb6 hf6))
      exact ⟨⟨i + 1, some ⟨g5, 0, none⟩, c5, _, by omega, by go_num, rfl, HL5.out, LabV.of_eq HV5.out, HB6.out, HF6.out, fun g hg => by
        rcases Nat.lt_or_ge g w.heap.size with h | h
        · have e5 : g5 = g := by injection hg
          rw [e5] at HV5
          exact absurd ((HF6.out g h).symm.trans HV5.out) (by decide)
        · exact h⟩, by show 70 - ((i : Int) + 1).toNat < 70 - (i : Int).toNat; omega⟩
    · have hi1 : decide ((i : Int) < 70) = false := decide_eq_false (by omega)
      obtain rfl : i = 70 := by omega
      rcases hl3 with ⟨_, h0, _⟩ | ⟨g, cap, he, _, ha⟩
      · omega
      · injection he with e1 _ e3
        subst e1 e3
        have hge := hg3 g rfl
        have hroom := ha.room
        have hc1 : (l.length : Int) ≤ (c3 : Int) := by omega
        have HA := Lib.hid ha
        have HB3 := Lib.hid hb3
        clear ha hb3 hf3 hv3 hg3 hlt
        go_wp2_with fail
        go_ret
        exact ⟨g, c3, rfl, hge, HA.out, HB3.out⟩

set_option maxHeartbeats 1000000 in
theorem eq_bytes {w : World} {A B : Option Addr} {ca cb : Nat} {l : Sp.Bs} (h1 : RowAt w A (bytesV l)) (h2 : RowAt w B (bytesV l)) :
    Calls Tryz.prog 11 #[.slice A l.length ca, .slice B l.length cb] w fun e w' => e = .returned (.bool true) ∧ w = w' := by
  have hc1 := run_bytes_str (cap := ca) h1
  have hc2 := run_bytes_str (cap := cb) h2
  have hq : (l == l) = true := by simp
  clear h1 h2
  go_enter Tryz.func11, Tryz.ntmps11
  go_wp2_with fail
  go_ret
  exact ⟨rfl, rfl⟩

set_option maxHeartbeats 2000000 in
set_option maxRecDepth 100000 in
theorem intact_any {w : World} {g c cb : Nat} {B : Option Addr} {l : Sp.Bs} (h : LentB w g c l) (hrow : RowAt w B (bytesV l)) (hl : l.length ≤ 140737488351232) :
    Calls Tryz.prog 20 #[.slice (some ⟨g, 0, none⟩) l.length c, .slice B l.length cb] w fun e w' => e = .returned (.bool true) ∧ Below w.heap.size w w' := by
  have heq := eq_bytes (ca := c) (cb := cb) h.row hrow
  have hroom := h.room
  have hw7 : IntKind.i64.wrap ((l.length : Int) + 70) = (l.length : Int) + 70 := by rw [IntKind.wrap_i64]; omega
  have hc1 : (l.length : Int) + 70 ≤ (c : Int) := by omega
  have hc0 : (0 : Int) ≤ (l.length : Int) + 70 := by omega
  have htn : ((l.length : Int) + 70).toNat = l.length + 70 := by omega
  have HEQ := Lib.hid heq
  have H := Lib.hid h
  clear heq h hrow
  go_enter Tryz.func20, Tryz.ntmps20
  go_wp2_with (go_at_call 11; with_reducible refine HEQ.out.mono ?_; rintro e w2 ⟨rfl, rfl⟩)
  go_loopw [6] (fun iv wr => ∃ i : Nat, i ≤ 70 ∧ iv = .int .i64 i ∧ Below w.heap.size w wr) (fun iv _ => 70 - (intOf iv).toNat)
  case atStart => exact ⟨0, by decide, rfl, Below.refl _ _⟩
  case round =>
    obtain ⟨i, hi, rfl, hb⟩ := hrel
    by_cases hlt : i < 70
    · have hi1 : (i : Int) < 70 := by omega
      have hz := (H.out.later hb).cells (l.length + i) (by omega) 0 (.int .u8 (165 - (i : Int))) (by rw [lentF_high]; rfl)
      rw [Nat.mul_one, Nat.add_zero] at hz
      have hmk := fun W : World => markAt_any i W hlt
      have hw8 : IntKind.i64.wrap ((l.length : Int) + (i : Int)) = (l.length : Int) + (i : Int) := by rw [IntKind.wrap_i64]; omega
      have hx0 : (0 : Int) ≤ (l.length : Int) + (i : Int) := by omega
      have hx1 : (l.length : Int) + (i : Int) < (l.length : Int) + 70 := by omega
      have htm : ((l.length : Int) + (i : Int)).toNat = l.length + i := by omega
      have HMK := Lib.hid hmk
      have HB := Lib.hid hb
      clear hb hmk hlt
      go_upto_region 7 with fail
      have hz : wr.drew.cell? ⟨g, l.length + i, none⟩ = _ := hz
      go_region_held3 (fun w' => w'.cell? ⟨g, l.length + i, none⟩ = some (.int .u8 (165 - (i : Int)))) (with_reducible exact hz) ((go_at_call 63; with_reducible refine (HMK.out _).mono ?_; rintro e w2 ⟨rfl, rfl⟩))
      all_goals go_wp2_with fail
      all_goals exact ⟨⟨i + 1, by omega, by go_num, HB.out.drew⟩, by show 70 - ((i : Int) + 1).toNat < 70 - (i : Int).toNat; omega⟩
    · have hi1 : decide ((i : Int) < 70) = false := decide_eq_false (by omega)
      have HB := Lib.hid hb
      clear hb hlt
      go_wp2_with fail
      go_ret
      exact ⟨rfl, HB.out⟩

set_option maxHeartbeats 2000000 in
set_option maxRecDepth 100000 in
theorem over_any {w : World} {f : Nat → Lab} {lb : Lab} {g c : Nat} {l : Sp.Bs} (h : LentB w g c l) (hg : f g = lb) (hl : l.length ≤ 140737488351232) :
    Calls Tryz.prog 21 #[.slice (some ⟨g, 0, none⟩) l.length c] w fun e w' => e = .returned (.tuple #[]) ∧ OnlyL f f (· = lb) w w' := by
  have hres : ∀ W tm, (results Tryz.f21 tm).run Tryz.prog W = .ok (.tuple #[]) W := fun W tm => by simp [results, Tryz.results21, go_sem]
  have H := Lib.hid h
  clear h
  go_enter Tryz.func21, Tryz.ntmps21
  go_wp2_with fail
  go_loopw [2] (fun iv wr => ∃ i : Nat, i ≤ l.length ∧ iv = .int .i64 i ∧ OnlyL f f (· = lb) w wr ∧ ∀ j, j < l.length → (wr.cell? ⟨g, j, none⟩).isSome = true ∧ wr.frozen? ⟨g, j, none⟩ = false) (fun iv _ => l.length - (intOf iv).toNat)
  case atStart => exact ⟨0, Nat.zero_le _, rfl, OnlyL.refl _ _ _, fun j hj => H.out.there j (by have := H.out.room; omega)⟩
  case round =>
    obtain ⟨i, hi, rfl, ho, hc⟩ := hrel
    by_cases hlt : i < l.length
    · have hi1 : (i : Int) < (l.length : Int) := by omega
      obtain ⟨z1, z2⟩ := hc i hlt
      obtain ⟨uo, z1⟩ := Option.isSome_iff_exists.1 z1
      have hput := ho.trans (OnlyL.of_put (P := (· = lb)) f wr ⟨g, i, none⟩ (.int .u8 238) hg)
      have hc2 : ∀ j, j < l.length → ((wr.setCell ⟨g, i, none⟩ (.int .u8 238)).cell? ⟨g, j, none⟩).isSome = true ∧ (wr.setCell ⟨g, i, none⟩ (.int .u8 238)).frozen? ⟨g, j, none⟩ = false := fun j hj => by
        rw [isSome_setCell, World.frozen?_setCell]
        exact hc j hj
      have HP := Lib.hid hput
      have HC := Lib.hid hc2
      clear ho hc hput hc2 hlt
      go_wp2_with fail
      exact ⟨⟨i + 1, by omega, by go_num, HP.out, HC.out⟩, by show l.length - ((i : Int) + 1).toNat < l.length - (i : Int).toNat; omega⟩
    · have hi1 : decide (i < l.length) = false := decide_eq_false (by omega)
      have HO := Lib.hid ho
      clear ho hc hlt
      go_wp2_with fail
      exact ⟨rfl, .tuple #[], hres _ _, rfl, HO.out⟩
end Go.Proofs.YthgfjafnclklpaaGreatDoor
end
