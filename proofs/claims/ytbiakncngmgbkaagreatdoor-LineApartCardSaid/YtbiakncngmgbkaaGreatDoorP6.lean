/- Walk of the statement LineCuts. -/
import Derived.Test.YtbiakncngmgbkaaGreatDoorP5
import Derived.Test.YtbiakncngmgbkaaGreatDoorK1
namespace Go.Proofs.YtbiakncngmgbkaaGreatDoor
attribute [local go_sem ↓] Go.wp_at_zero Go.wp_at_succ
open Go.RowKit

/-- the box of the parameter -/
def boxRow (A : Option Addr) (n capA : Nat) (limit : Int) (bv cv : Value) : Array Value := #[.slice A n capA, .int .i64 limit, bv, cv]

theorem short_fit {ts : List Sp.StepV} (h : ∀ t ∈ ts, ShortStep t) : StepsFit ts := fun t ht => ⟨Nat.le_trans (h t ht).1 (by decide), Nat.le_trans (h t ht).2 (by decide)⟩

theorem heldAt_pos (lim : Nat) (raw : Sp.Bs) (j : Nat) : 0 ≤ heldAt lim raw j := by unfold heldAt; omega

set_option maxHeartbeats 8000000 in
set_option maxRecDepth 100000 in
theorem lineCuts_any {w : World} (hg : Glob w) {A B C : Option Addr} {capA capB capC : Nat} {raw : Sp.Bs} {one two : List Int} {limit : Int}
    (hcA : raw.length ≤ capA) (hcA2 : capA ≤ 9223372036854775807) (hcB : one.length ≤ 9223372036854775807) (hcC : two.length ≤ 9223372036854775807)
    (hrow : RowAt w A (bytesV raw)) (hA : A = none → capA = 0) (hrowB : RowAt w B (intsV one)) (hrowC : RowAt w C (intsV two)) :
    Calls Tryz.prog 5 #[.agg #[.slice A raw.length capA, .int .i64 limit, .slice B one.length capB, .slice C two.length capC]] w fun e w' => e = .returned (.bool true) ∧ Below w.heap.size w w' := by
  generalize hR : (fun (e : Ending) (w' : World) => e = .returned (.bool true) ∧ Below w.heap.size w w') = R
  have HR := Lib.hid hR
  have HG := Lib.hid hg
  have HROW := Lib.hid hrow
  have HROWB := Lib.hid hrowB
  have HROWC := Lib.hid hrowC
  have HA := Lib.hid hA
  clear hR hg hrow hrowB hrowC hA
  go_enter Tryz.func5, Tryz.ntmps5
  go_upto_if 13 with fail
  go_cut [1] (fun b wx => b = .pointer (some ⟨w.heap.size, 0, none⟩) ∧ Blk wx w.heap.size 66 (boxRow A (raw.take 12000).length capA limit (.slice B one.length capB) (.slice C two.length capC)) ∧ Below w.heap.size w wx)
  case first =>
    have hb0 : Below w.heap.size w (w.alloc (.cells (boxRow A raw.length capA limit (.slice B one.length capB) (.slice C two.length capC)) 66)) := (Below.refl _ _).alloc (Nat.le_refl _) _
    have hbl := Blk.new w 66 (boxRow A raw.length capA limit (.slice B one.length capB) (.slice C two.length capC))
    by_cases hc : (12000 : Int) < (raw.length : Int)
    · have hlen : (raw.take 12000).length = 12000 := by rw [List.length_take]; omega
      have hca : (12000 : Int) ≤ (capA : Int) := by omega
      have hbn := Blk.new w 66 (boxRow A 12000 capA limit (.slice B one.length capB) (.slice C two.length capC))
      have hb1 : Below w.heap.size w (w.alloc (.cells (boxRow A 12000 capA limit (.slice B one.length capB) (.slice C two.length capC)) 66)) := (Below.refl _ _).alloc (Nat.le_refl _) _
      rw [← hlen] at hbn hb1
      have HF := Lib.hid hbn
      have HB := Lib.hid hb1
      clear hbn hb1 hbl hb0
      go_wp2_with fail
      go_meet
      refine ⟨rfl, HF.out.same ?_, ?_⟩
      · rw [hlen]; rfl
      · have := HB.out
        rwa [hlen] at this
    · have hlen : raw.take 12000 = raw := List.take_of_length_le (by omega)
      have hfin : Blk (w.alloc (.cells (boxRow A raw.length capA limit (.slice B one.length capB) (.slice C two.length capC)) 66)) w.heap.size 66 (boxRow A (raw.take 12000).length capA limit (.slice B one.length capB) (.slice C two.length capC)) := by rw [hlen]; exact hbl
      have HF := Lib.hid hfin
      have HB := Lib.hid hb0
      clear hfin hbl hb0 hlen
      go_wp2_with fail
      go_meet
      exact ⟨rfl, HF.out, HB.out⟩
  case rest =>
    obtain ⟨rfl, hbx, hbw⟩ := hcut
    obtain ⟨raw', hraw'⟩ : ∃ raw', raw' = raw.take 12000 := ⟨_, rfl⟩
    have hlen1 : raw'.length ≤ 12000 := by rw [hraw', List.length_take]; omega
    have hlen2 : raw'.length ≤ capA := by rw [hraw', List.length_take]; omega
    have hrow1 : RowAt w A (bytesV raw') := by rw [hraw']; have := HROW.out.take 12000; simpa [bytesV] using this
    rw [← hraw'] at hbx
    have hgc := HG.out.later hbw
    have hltw : w.heap.size < wc.heap.size := hbx.lt
    have hf1 := fed_any hgc (bv := .slice B one.length capB) (cv := .slice C two.length capC) (limit := limit) (capC := capB) hlen1 hlen2 hcA2 hcB (hrow1.below hbw) HA.out (HROWB.out.below hbw)
    have y0 : _ = some (Value.slice A raw'.length capA) := hbx.cell 0
    have y1 : _ = some (Value.int .i64 limit) := hbx.cell 1
    have y2 : _ = some (Value.slice B one.length capB) := hbx.cell 2
    have y3 : _ = some (Value.slice C two.length capC) := hbx.cell 3
    have HROW1 := Lib.hid hrow1
    have HBX := Lib.hid hbx
    have HBW := Lib.hid hbw
    have HF1 := Lib.hid hf1
    clear hraw' hrow1 HROW hbx hbw hgc hf1
    go_wp2_with fail
    refine HF1.out.mono ?_
    rintro e w1 ⟨fb1, hb1, A1, c1, hs1, rfl, hfd1, ⟨tcs1, bl1, ho1, hst1⟩, hbk1, hsl1, hok1, hbe1, hg1⟩
    have hbx1 := HBX.out.later hbe1
    have hbw1 := HBW.out.trans (hbe1.mono HBW.out.size)
    have hf2 := fed_any hg1 (bv := .slice B one.length capB) (cv := .slice C two.length capC) (limit := limit) (capC := capC) hlen1 hlen2 hcA2 hcC (HROW1.out.below hbw1) HA.out (HROWC.out.below hbw1)
    clear y0 y1 y2 y3
    have y0 : _ = some (Value.slice A raw'.length capA) := hbx1.cell 0
    have y1 : _ = some (Value.int .i64 limit) := hbx1.cell 1
    have y2 : _ = some (Value.slice B one.length capB) := hbx1.cell 2
    have y3 : _ = some (Value.slice C two.length capC) := hbx1.cell 3
    have HF2 := Lib.hid hf2
    have HFD1 := Lib.hid hfd1
    have HO1 := Lib.hid ho1
    have HST1 := Lib.hid hst1
    have HBK1 := Lib.hid hbk1
    have HSL1 := Lib.hid hsl1
    have HOK1 := Lib.hid hok1
    have HBW1 := Lib.hid hbw1
    clear hf2 hfd1 ho1 hst1 hbk1 hsl1 hok1 hbx1 hbe1 hbw1 hg1
    go_wp2_with fail
    refine HF2.out.mono ?_
    rintro e w2 ⟨fb2, hb2, A2, c2, hs2, rfl, hfd2, ⟨tcs2, bl2, ho2, hst2⟩, hbk2, hsl2, hok2, hbe2, hg2⟩
    have hbx2 := hbe2
    have hbw2 := HBW1.out.trans (hbe2.mono HBW1.out.size)
    have hst1 := (HST1.out.same fun k hk => hbe2.block k (HST1.out.lt k hk)).at
    have hss := sameSteps_same (ca := c1) (cb := c2) (by have := toldAll_count limit.toNat raw'; omega) (short_fit (toldAll_short limit.toNat raw')) (RowAt.of_own (own_later HO1.out hbe2)) (RowAt.of_own ho2) hst1 hst2.at
    have hbk1 := HBK1.out.later hbe2
    obtain ⟨ln1, dv1, kv1, mv1, hfd1⟩ := HFD1.out
    have hfd1 := hfd1.later hbe2
    obtain ⟨ln2, dv2, kv2, mv2, hfd2⟩ := hfd2
    have he1 := fun (W : World) (hb : Below w2.heap.size w2 W) => (ended_any (hfd1.later hb)).mono (R' := fun e w' => e = .returned (.bool (endAll limit.toNat raw').ended) ∧ W = w') fun e w' ⟨h1, h2⟩ => ⟨h1, h2.symm⟩
    have he2 := fun (W : World) (hb : Below w2.heap.size w2 W) => (ended_any (hfd2.later hb)).mono (R' := fun e w' => e = .returned (.bool (endAll limit.toNat raw').ended) ∧ W = w') fun e w' ⟨h1, h2⟩ => ⟨h1, h2.symm⟩
    generalize (endAll limit.toNat raw').ended = eb at he1 he2
    have HSS := Lib.hid hss
    have HE1 := Lib.hid he1
    have HE2 := Lib.hid he2
    have HBK1' := Lib.hid hbk1
    have HBK2 := Lib.hid hbk2
    have HSL2 := Lib.hid hsl2
    have HOK2 := Lib.hid hok2
    have HBW2 := Lib.hid hbw2
    have HG2 := Lib.hid hg2
    clear hss he1 he2 hbk1 hbk2 hsl2 hok2 hbw2 hg2 hst1 hst2 ho2 hfd1 hfd2 hbx2 hbe2 y0 y1 y2 y3
    go_wp2_with fail
    refine HSS.out.mono ?_
    rintro e w3 ⟨rfl, hb3⟩
    have hc1 := HE1.out w3 hb3
    have hc2 := HE2.out w3 hb3
    have HB3 := Lib.hid hb3
    have HC1 := Lib.hid hc1
    have HC2 := Lib.hid hc2
    clear hb3 hc1 hc2
    cases eb
    all_goals
      go_wp2_with (first | (refine HC1.out.mono ?_; rintro e w' ⟨rfl, rfl⟩) | (refine HC2.out.mono ?_; rintro e w' ⟨rfl, rfl⟩))
      go_loopw [9] (fun i wx => ∃ k : Nat, k ≤ raw'.length + 1 ∧ i = .int .i64 k ∧ Below w3.heap.size w3 wx) (fun i _ => raw'.length + 1 - (intOf i).toNat)
      case atStart => exact ⟨0, by omega, rfl, Below.refl _ _⟩
      case round =>
        obtain ⟨k, hk, rfl, hb⟩ := hrel
        have hb1r := (HBK1'.out.later HB3.out).later hb
        have hb2r := (HBK2.out.later HB3.out).later hb
        have HBX := Lib.hid hb
        clear hb
        by_cases hlt : k < raw'.length + 1
        · obtain ⟨v1, hv1⟩ : ∃ v, hs1[k]? = some v := ⟨hs1[k]'(by rw [HSL1.out]; exact hlt), List.getElem?_eq_getElem _⟩
          obtain ⟨v2, hv2⟩ : ∃ v, hs2[k]? = some v := ⟨hs2[k]'(by rw [HSL2.out]; exact hlt), List.getElem?_eq_getElem _⟩
          have x1 : wr.cell? ⟨hb1, k, none⟩ = some (.int .i64 v1) := by rw [hb1r.cell k]; simp [intsV, hv1]
          have x2 : wr.cell? ⟨hb2, k, none⟩ = some (.int .i64 v2) := by rw [hb2r.cell k]; simp [intsV, hv2]
          have ho1 := HOK1.out k v1 hv1
          have ho2 := HOK2.out k v2 hv2
          have hpos := heldAt_pos limit.toNat raw' k
          generalize heldAt limit.toNat raw' k = h at ho1 ho2 hpos
          have hkk : (k : Int) < (raw'.length : Int) + 1 := by omega
          have hd : decide (0 ≤ h) = true := decide_eq_true hpos
          clear hb1r hb2r hv1 hv2
          rcases ho1 with rfl | rfl
          · clear ho2
            go_wp2_with fail
            go_quiet (fail)
            go_wp2_with fail
            exact ⟨⟨k + 1, by omega, by go_num, below_drewN' HBX.out _⟩, by show raw'.length + 1 - ((k : Int) + 1).toNat < raw'.length + 1 - (k : Int).toNat; omega⟩
          · rcases ho2 with rfl | rfl
            · go_wp2_with fail
              go_quiet (fail)
              go_wp2_with fail
              exact ⟨⟨k + 1, by omega, by go_num, below_drewN' HBX.out _⟩, by show raw'.length + 1 - ((k : Int) + 1).toNat < raw'.length + 1 - (k : Int).toNat; omega⟩
            · go_wp2_with fail
              go_quiet (fail)
              go_wp2_with fail
              exact ⟨⟨k + 1, by omega, by go_num, below_drewN' HBX.out _⟩, by show raw'.length + 1 - ((k : Int) + 1).toNat < raw'.length + 1 - (k : Int).toNat; omega⟩
        · have hbw3 := HBW2.out.trans ((HB3.out.trans (HBX.out.mono HB3.out.size)).mono HBW2.out.size)
          have hwk := wakes_any ((HG2.out.later HB3.out).later HBX.out)
          have HWK := Lib.hid hwk
          have HBF := Lib.hid hbw3
          have hkk : ¬ (k : Int) < (raw'.length : Int) + 1 := by omega
          clear hwk hbw3 hb1r hb2r
          go_wp2_with (refine HWK.out.mono ?_; rintro e w6 ⟨rfl, hb6⟩; have HB6 := Lib.hid hb6; clear hb6)
          rw [← HR.out]
          exact ⟨rfl, HBF.out.trans (HB6.out.mono HBF.out.size)⟩
end Go.Proofs.YtbiakncngmgbkaaGreatDoor
