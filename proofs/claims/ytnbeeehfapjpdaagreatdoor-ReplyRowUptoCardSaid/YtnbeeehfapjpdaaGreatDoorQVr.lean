/- Walk of package reply: entries. Walk of package reply: strings.Split at a blank. -/
import Derived.Test.YtnbeeehfapjpdaaGreatDoorVq
import Derived.Test.YtnbeeehfapjpdaaGreatDoorQOc
import Derived.Test.YtnbeeehfapjpdaaGreatDoorQV6
import Derived.Lib.SplitLaws
section
namespace Go.Proofs.YtnbeeehfapjpdaaGreatDoor
attribute [local go_sem ↓] Go.wp_at_zero Go.wp_at_succ
open Go.RowKit

theorem idxText_no {w : World} {T : Option Addr} {c : Nat} {ts : List Sp.Bs} (hrow : RowAt w T (ts.map str)) (hn : ts.length ≤ 9223372036854775807) {x : Sp.Bs} (hx : x ∉ ts) :
    Calls Tryz.prog 74 #[.slice T ts.length c, str x] w fun e w' => e = .returned (.int .i64 (-1)) ∧ w = w' := by
  rcases hrow with h0 | ⟨g, o, rfl, _, h3⟩
  · have : ts = [] := by simpa using h0
    subst this
    exact (Tryz.slices_Index_string_empty T c ⟨x.toArray⟩ w).mono fun e w' ⟨h1, h2⟩ => ⟨by rw [h1]; rfl, h2.symm⟩
  · have := Tryz.slices_Index_string g o ts.length c (ts.map fun l => (⟨l.toArray⟩ : ByteArray)) ⟨x.toArray⟩ w (by rw [List.length_map]; exact Nat.le_refl _) hn (texts_cells h3)
    refine this.mono fun e w' ⟨h1, h2⟩ => ⟨?_, h2.symm⟩
    rw [h1, List.take_of_length_le (by rw [List.length_map]; exact Nat.le_refl _)]
    congr 2
    unfold Lib.idxOfS
    refine Lib.idxFromS_miss _ _ _ (fun j hj e => hx ?_)
    rw [List.length_map] at hj
    have h4 : (ts.map fun l => (⟨l.toArray⟩ : ByteArray)).getD j ByteArray.empty = ⟨ts[j].toArray⟩ := by
      rw [List.getD_eq_getElem?_getD, List.getElem?_map, List.getElem?_eq_getElem hj]; rfl
    rw [h4] at e
    injection e with e
    have h5 : ts[j] = x := by simpa using congrArg Array.toList e
    rw [← h5]
    exact List.getElem_mem hj
/-- entries that came in -/
structure EntsIn (w : World) (E : Option Addr) (xs : List EntX) : Prop where
  row : RowAt w E (xs.flatMap EntX.cells)
  each : ∀ x ∈ xs, RowAt w x.B (bytesV x.e.value) ∧ x.e.value.length ≤ x.c ∧ (x.B = none → x.c = 0) ∧ x.e.key.length ≤ 140737488355328 ∧ x.e.value.length ≤ 140737488355328 ∧ x.e.flags ≤ 18446744073709551615 ∧ x.e.token ≤ 18446744073709551615
theorem EntsIn.below {w w' : World} {E : Option Addr} {xs : List EntX} (h : EntsIn w E xs) (hb : Below w.heap.size w w') : EntsIn w' E xs := ⟨h.row.below hb, fun x hx => ⟨(h.each x hx).1.below hb, (h.each x hx).2⟩⟩
theorem EntX.cells_length (x : EntX) : x.cells.length = 9 := rfl
theorem EntsIn.cell {w : World} {E : Option Addr} {xs : List EntX} (h : EntsIn w E xs) {i : Nat} {x : EntX} (hx : xs[i]? = some x) :
    ∃ g o, E = some ⟨g, o, none⟩ ∧ g < w.heap.size ∧ ∀ (j : Nat) (u : Value), x.cells[j]? = some u → w.cell? ⟨g, o + i * 9 + j, none⟩ = some u := by
  have c0 : (xs.flatMap EntX.cells)[i * 9 + 0]? = x.cells[0]? := flatMap_get (k := 9) (fun _ _ => rfl) hx (by decide)
  rcases h.row with h0 | ⟨g, o, h1, h2, h3⟩
  · rw [h0] at c0; cases c0
  · refine ⟨g, o, h1, h2, fun j u hu => ?_⟩
    have hj : j < 9 := by have := (List.getElem?_eq_some_iff.1 hu).1; rwa [EntX.cells_length] at this
    have := flatMap_get (k := 9) (f := EntX.cells) (fun _ _ => rfl) hx hj
    rw [Nat.add_assoc]
    exact h3 _ _ (by rw [this]; exact hu)
structure EntriesLoop (w : World) (xs : List EntX) (b : Bool) (C : Option Addr) (cc : Nat) (ks : List Sp.Bs) (i : Nat) (wr : World) : Prop where
  le : i ≤ xs.length
  below : Below w.heap.size w wr
  keys : RowAt w C (ks.map str)
  room : ks.length ≤ cc
  few : ks.length ≤ 1000000000
  go : Sp.entriesV ks ((xs.drop i).map EntX.e) = b
set_option maxHeartbeats 8000000 in
set_option maxRecDepth 100000 in
theorem entries_any {w : World} {C : Option Addr} {cc : Nat} {keys : List Sp.Bs} (hC : RowAt w C (keys.map str)) (hcc : keys.length ≤ cc) (hks : keys.length ≤ 1000000000) {E : Option Addr} {ec : Nat} {xs : List EntX} (hE : EntsIn w E xs) (hn : xs.length ≤ 1000000000000) :
    Calls Tryz.prog 39 #[.slice C keys.length cc, .slice E xs.length ec] w fun e w' => e = .returned (.bool (Sp.entriesV keys (xs.map EntX.e))) ∧ Below w.heap.size w w' := by
  obtain ⟨b, hb⟩ : ∃ b, b = Sp.entriesV keys (xs.map EntX.e) := ⟨_, rfl⟩
  rw [← hb]
  generalize hR : (fun (e : Ending) (w' : World) => e = .returned (.bool b) ∧ Below w.heap.size w w') = R
  have hstart : EntriesLoop w xs b C cc keys 0 w := ⟨Nat.zero_le _, Below.refl _ _, hC, hcc, hks, by rw [List.drop_zero]; exact hb.symm⟩
  have HR := Lib.hid hR
  have HE := Lib.hid hE
  have HS := Lib.hid hstart
  clear hR hstart hb hC hcc hks hE
  go_enter Tryz.func39, Tryz.ntmps39
  go_wp2_with fail
  go_loopw [0, 6, 7, 10] (fun kv _ _ iv wr => ∃ (i : Nat) (C : Option Addr) (cc : Nat) (ks : List Sp.Bs), iv = .int .i64 i ∧ kv = .slice C (List.length ks) cc ∧ EntriesLoop w xs b C cc ks i wr) (fun _ _ _ iv _ => xs.length - (intOf iv).toNat)
  case atStart => exact ⟨0, C, cc, keys, rfl, rfl, HS.out⟩
  case round =>
    obtain ⟨i, C, cc, ks, rfl, rfl, hm⟩ := hrel
    have hil := hm.le
    by_cases hlt : i < xs.length
    · obtain ⟨x, hx⟩ : ∃ x, xs[i]? = some x := ⟨xs[i], by simp [hlt]⟩
      have hi1 : (i : Int) < (xs.length : Int) := by omega
      obtain ⟨g, o, hEe, hgl, ycell⟩ := (HE.out.below hm.below).cell hx
      subst hEe
      have y0 : wr.cell? ⟨g, o + i * 9, none⟩ = some (str x.e.key) := ycell 0 _ rfl
      have y1 := ycell 1 _ rfl
      have y2 := ycell 2 _ rfl
      have y3 := ycell 3 _ rfl
      have y4 := ycell 4 _ rfl
      have y5 := ycell 5 _ rfl
      have y6 := ycell 6 _ rfl
      have y7 := ycell 7 _ rfl
      have y8 := ycell 8 _ rfl
      have hdrop : (xs.drop i).map EntX.e = x.e :: (xs.drop (i + 1)).map EntX.e := by
        rw [List.drop_eq_getElem_cons hlt, List.map_cons]
        congr 2
        rw [List.getElem?_eq_getElem hlt] at hx
        injection hx
      have hgo := hm.go
      rw [hdrop, Sp.entriesV] at hgo
      have hxe := HE.out.each x (List.mem_of_getElem? hx)
      obtain ⟨eb, hebe⟩ : ∃ eb, eb = wr.heap.size := ⟨_, rfl⟩
      obtain ⟨W2, hW2⟩ : ∃ W2, W2 = wr.alloc (.cells #[str x.e.key, .slice x.B x.e.value.length x.c, .int .u64 x.e.flags, .int .i64 x.e.expiry, .int .u64 x.e.token, .int .i64 x.e.touched, .bool x.e.stale, .bool x.e.won, .bool x.e.hit] 86) := ⟨_, rfl⟩
      have hbw : Below w.heap.size w W2 := by rw [hW2]; exact hm.below.alloc hm.below.size _
      have heb : Blk W2 eb 86 #[str x.e.key, .slice x.B x.e.value.length x.c, .int .u64 x.e.flags, .int .i64 x.e.expiry, .int .u64 x.e.token, .int .i64 x.e.touched, .bool x.e.stale, .bool x.e.won, .bool x.e.hit] := by rw [hW2, hebe]; exact Blk.new wr _ _
      have hkr := hm.keys.below hbw
      have hfw := hm.few
      have hrm := hm.room
      have hlg := fun W : World => replyLegal_any x.e.key W hxe.2.2.2.1
      have z0 : W2.cell? ⟨eb, 0, none⟩ = some (str x.e.key) := heb.cell 0
      have heb0 := Lib.hid heb
      have HB2 := Lib.hid hbw
      have HW2 := Lib.hid hW2
      have HEB := Lib.hid hebe
      have HM := Lib.hid hm
      clear hW2 hebe hbw heb hdrop hm
      go_upto_region 4 with fail
      rw [← HW2.out, ← HEB.out]
      clear y0 y1 y2 y3 y4 y5 y6 y7 y8 ycell
      by_cases hin : x.e.key ∈ ks
      · rw [if_pos hin] at hgo
        have hix := idxText_any (c := cc) hkr (by omega) hin
        have hidx : ks.idxOf x.e.key < ks.length := List.idxOf_lt_length_iff.2 hin
        obtain ⟨ix, hixe⟩ : ∃ ix, ix = ks.idxOf x.e.key := ⟨_, rfl⟩
        rw [← hixe] at hix hidx hgo
        have HIX := Lib.hid hix
        have i0 : decide ((ix : Int) < 0) = false := decide_eq_false (by omega)
        cases hl : Sp.legalR x.e.key with
        | false =>
          rw [hl] at hgo hlg
          have hbf : b = false := by rw [← hgo]; rfl
          have HLG := Lib.hid hlg
          have HBF := Lib.hid hbf
          clear hgo hlg hix hl hixe hbf hin hkr
          go_wp2_with (first | (go_at_call 74; refine HIX.out.mono ?_; rintro e w3 ⟨rfl, rfl⟩) | (go_at_call 75; refine (HLG.out _).mono ?_; rintro e w4 ⟨rfl, hb4⟩; have hbb := HB2.out.trans (hb4.mono HB2.out.size); have hb5 := heb0.out.later hb4; have z1 := hb5.cell 1; have z2 := hb5.cell 2; simp only [List.getElem?_toArray, List.getElem?_cons_zero, List.getElem?_cons_succ] at z1 z2; have HB4 := Lib.hid hbb; clear hb4 hbb hb5))
          rw [← HR.out, HBF.out]
          exact ⟨rfl, HB4.out⟩
        | true =>
          rw [hl] at hgo hlg
          have HLG := Lib.hid hlg
          rw [Bool.true_and] at hgo
          by_cases hfl : x.e.flags ≤ 4294967295
          · rw [decide_eq_true hfl, Bool.true_and] at hgo
            have j1 : decide ((4294967295 : Int) < (x.e.flags : Int)) = false := decide_eq_false (by omega)
            have j1' : decide (4294967295 < x.e.flags) = false := decide_eq_false (by omega)
            by_cases hvl : x.e.value.length ≤ 1048576
            · rw [decide_eq_true hvl, Bool.true_and] at hgo
              have j2 : decide ((1048576 : Int) < (x.e.value.length : Int)) = false := decide_eq_false (by omega)
              have j2' : decide (1048576 < x.e.value.length) = false := decide_eq_false (by omega)
              obtain ⟨C2, hC2⟩ : ∃ C2, C2 = cutAddr C (ix + 1) cc := ⟨_, rfl⟩
              have hsl : ∀ W : World, (Instr.slice 27 (.slice C ks.length cc) (some (.int .i64 ((ix : Int) + 1))) none none).run Tryz.prog W = .ok (.slice C2 (ks.length - (ix + 1)) (cc - (ix + 1))) W := fun W => by
                rw [hC2]; exact run_slice_texts W C ks.length cc (ix + 1) (by omega)
              have hx1 : (ix : Int) + 1 ≤ (ks.length : Int) := by omega
              have hx2 : (ix : Int) + 1 ≤ (cc : Int) := by omega
              have hx3 : ix ≤ 1000000000 := by omega
              have hrow2 : RowAt w C2 ((ks.drop (ix + 1)).map str) := by rw [hC2, List.map_drop]; exact HM.out.keys.cut (by rw [List.length_map]; exact hrm)
              have hkl2 : (ks.drop (ix + 1)).length = ks.length - (ix + 1) := List.length_drop
              have HG := Lib.hid hgo
              have HROW2 := Lib.hid hrow2
              have HKL2 := Lib.hid hkl2
              clear hgo hlg hix hl hixe hin hkr hC2 hrow2 hkl2 hfl hvl
              go_wp2_with (first | (go_at_call 74; refine HIX.out.mono ?_; rintro e w3 ⟨rfl, rfl⟩) | (go_at_call 75; refine (HLG.out _).mono ?_; rintro e w4 ⟨rfl, hb4⟩; have hbb := HB2.out.trans (hb4.mono HB2.out.size); have hb5 := heb0.out.later hb4; have z1 := hb5.cell 1; have z2 := hb5.cell 2; simp only [List.getElem?_toArray, List.getElem?_cons_zero, List.getElem?_cons_succ] at z1 z2; have HB4 := Lib.hid hbb; clear hb4 hbb hb5))
              refine ⟨⟨i + 1, C2, cc - (ix + 1), ks.drop (ix + 1), by go_num, by rw [HKL2.out], ⟨by omega, HB4.out, HROW2.out, by rw [HKL2.out]; omega, by rw [HKL2.out]; omega, HG.out⟩⟩, by show xs.length - ((i : Int) + 1).toNat < xs.length - (i : Int).toNat; omega⟩
            · rw [decide_eq_false hvl, Bool.false_and] at hgo
              have j2 : (1048576 : Int) < (x.e.value.length : Int) := by omega
              have j2' : 1048576 < x.e.value.length := by omega
              have HBF := Lib.hid hgo.symm
              clear hgo hlg hix hl hixe hin hkr hfl hvl
              go_wp2_with (first | (go_at_call 74; refine HIX.out.mono ?_; rintro e w3 ⟨rfl, rfl⟩) | (go_at_call 75; refine (HLG.out _).mono ?_; rintro e w4 ⟨rfl, hb4⟩; have hbb := HB2.out.trans (hb4.mono HB2.out.size); have hb5 := heb0.out.later hb4; have z1 := hb5.cell 1; have z2 := hb5.cell 2; simp only [List.getElem?_toArray, List.getElem?_cons_zero, List.getElem?_cons_succ] at z1 z2; have HB4 := Lib.hid hbb; clear hb4 hbb hb5))
              rw [← HR.out, HBF.out]
              exact ⟨rfl, HB4.out⟩
          · rw [decide_eq_false hfl, Bool.false_and, Bool.false_and] at hgo
            have j1 : (4294967295 : Int) < (x.e.flags : Int) := by omega
            have j1' : 4294967295 < x.e.flags := by omega
            have HBF := Lib.hid hgo.symm
            clear hgo hlg hix hl hixe hin hkr hfl
            go_wp2_with (first | (go_at_call 74; refine HIX.out.mono ?_; rintro e w3 ⟨rfl, rfl⟩) | (go_at_call 75; refine (HLG.out _).mono ?_; rintro e w4 ⟨rfl, hb4⟩; have hbb := HB2.out.trans (hb4.mono HB2.out.size); have hb5 := heb0.out.later hb4; have z1 := hb5.cell 1; have z2 := hb5.cell 2; simp only [List.getElem?_toArray, List.getElem?_cons_zero, List.getElem?_cons_succ] at z1 z2; have HB4 := Lib.hid hbb; clear hb4 hbb hb5))
            rw [← HR.out, HBF.out]
            exact ⟨rfl, HB4.out⟩
      · rw [if_neg hin] at hgo
        have hix := idxText_no (c := cc) hkr (by omega) hin
        have HIX := Lib.hid hix
        have HBF := Lib.hid hgo.symm
        clear hgo hlg hix hin hkr
        go_wp2_with (go_at_call 74; refine HIX.out.mono ?_; rintro e w3 ⟨rfl, rfl⟩)
        rw [← HR.out, HBF.out]
        exact ⟨rfl, HB2.out⟩
    · have hi1 : decide ((i : Int) < (xs.length : Int)) = false := decide_eq_false (by omega)
      have hi2 : decide (i < xs.length) = false := decide_eq_false hlt
      have hgo := hm.go
      rw [List.drop_eq_nil_of_le (by omega), List.map_nil, Sp.entriesV] at hgo
      have HB := Lib.hid hm.below
      have HG := Lib.hid hgo
      clear hm hgo hlt
      go_wp2_with fail
      rw [← HR.out, ← HG.out]
      exact ⟨rfl, HB.out⟩
end Go.Proofs.YtnbeeehfapjpdaaGreatDoor
end
section
namespace Go.Proofs.YtnbeeehfapjpdaaGreatDoor
open Go.RowKit

theorem split_plain : ∀ (l : Sp.Bs) (k : Nat), l.count 32 = k → Lib.splitK [32] 0 k l = Sp.splitV l
  | [], k, h => by
    have : k = 0 := by rw [← h]; rfl
    subst this; rfl
  | c :: t, k, h => by
    by_cases hc : c = 32
    · subst hc
      rw [List.count_cons_self] at h
      obtain ⟨k', rfl⟩ : ∃ k', k = k' + 1 := ⟨k - 1, by omega⟩
      have hi : Lib.index ((32 : UInt8) :: t) [32] = 0 := by rw [Lib.index]; simp [List.isPrefixOf]
      have ih := split_plain t k' (by omega)
      unfold Lib.splitK
      rw [hi, if_neg (by decide), Sp.splitV, if_pos rfl, ← ih]
      rfl
    · rw [List.count_cons_of_ne (by simpa using hc)] at h
      have ih := split_plain t k h
      have hix : Lib.index (c :: t) [32] = if Lib.index t [32] == -1 then -1 else Lib.index t [32] + 1 := by
        have hp : ([32] : List UInt8).isPrefixOf (c :: t) = false := by simp [List.isPrefixOf, Ne.symm hc]
        rw [Lib.index, hp]; simp
      rw [Sp.splitV, if_neg hc, ← ih]
      cases k with
      | zero => rfl
      | succ k =>
        have hne : Lib.index t [32] ≠ -1 := fun e => by
          have := Lib.count_miss e
          rw [Lib.count_one, h] at this
          omega
        have hge := Lib.index_ge t [32]
        obtain ⟨j, hj⟩ : ∃ j : Nat, Lib.index t [32] = j := ⟨(Lib.index t [32]).toNat, by omega⟩
        have hne2 : (Lib.index t [32] == -1) = false := by simpa using hne
        rw [Lib.splitK, Lib.splitK, hix, hne2]
        have h1 : ((if false = true then (-1 : Int) else Lib.index t [32] + 1) == -1) = false := by rw [if_neg (by decide), hj]; simp; omega
        rw [h1, if_neg (by decide), if_neg (by decide), if_neg (by decide), hj]
        have e1 : ((j : Int) + 1).toNat = j + 1 := by omega
        have e2 : ((j : Int)).toNat = j := by omega
        rw [e1, e2]
        show (c :: t).take (j + 1 + 0) :: Lib.splitK [32] 0 k ((c :: t).drop (j + 1 + 1)) = (c :: t.take (j + 0)) :: Lib.splitK [32] 0 k (t.drop (j + 1))
        rfl
theorem splitV_length (l : Sp.Bs) : (Sp.splitV l).length = l.count 32 + 1 := by
  induction l with
  | nil => rfl
  | cons c t ih =>
    rw [Sp.splitV]
    by_cases hc : c = 32
    · rw [if_pos hc, List.length_cons, ih, hc, List.count_cons_self]
    · rw [if_neg hc, List.count_cons_of_ne (by simpa using hc), ← ih]
      cases e : Sp.splitV t with
      | nil => rw [e] at ih; simp at ih
      | cons w ws => rfl
theorem split_any {w : World} (hg : GlobR w) (l : Sp.Bs) (hl : l.length < 4294967281) :
    Calls Tryz.prog 85 #[str l, .string ⟨#[32]⟩] w fun e w' => e = .returned (.slice (some ⟨w.heap.size, 0, none⟩) (Sp.splitV l).length (Sp.splitV l).length) ∧ w'.ownsRow w.heap.size 9 1 (.slice (some ⟨w.heap.size, 0, none⟩) (Sp.splitV l).length (Sp.splitV l).length) (Sp.splitV l).length ((Sp.splitV l).map str) ∧ Below w.heap.size w w' := by
  obtain ⟨m, hm⟩ := hg.maxLen
  have h := Tryz.strings_Split ⟨l.toArray⟩ ⟨#[32]⟩ m w (by rw [strR_size]; exact hl) hm (by decide)
  have hcnt : Lib.countB ⟨l.toArray⟩ ⟨#[32]⟩ = l.count 32 := by
    show Lib.count (⟨l.toArray⟩ : ByteArray).data.toList [32] = _
    rw [strR_list, Lib.count_one]
  have hcells : (Lib.splitB ⟨#[32]⟩ 0 (l.count 32) ⟨l.toArray⟩).map Value.string = (Sp.splitV l).map str := by
    have h1 := Lib.splitB_data ⟨#[32]⟩ 0 (l.count 32) ⟨l.toArray⟩
    rw [strR_list] at h1
    have h2 : Lib.splitK (⟨#[32]⟩ : ByteArray).data.toList 0 (l.count 32) l = Sp.splitV l := split_plain l _ rfl
    rw [h2] at h1
    rw [← h1, List.map_map]
    exact List.map_congr_left fun x _ => by
      show Value.string x = Value.string ⟨x.data.toList.toArray⟩
      rw [bytes_mk]
  rw [hcnt, hcells, ← splitV_length] at h
  refine h.mono fun e w' ⟨h1, h2⟩ => ⟨h1, ?_, ?_⟩
  · have hlen : (Sp.splitV l).length ≤ 4294967281 := by
      rw [splitV_length]
      have := List.count_le_length (a := (32 : UInt8)) (l := l)
      omega
    have h3 := World.ownsRow_lit (base := w.heap.size) (e := 9) (size := 1) w ((Sp.splitV l).map str).toArray (Sp.splitV l).length (Nat.le_refl _) (by unfold maxLen; omega) (by simp)
    rw [h2]
    simpa using h3
  · rw [h2]; exact (Below.refl _ _).alloc (Nat.le_refl _) _
end Go.Proofs.YtnbeeehfapjpdaaGreatDoor
end
