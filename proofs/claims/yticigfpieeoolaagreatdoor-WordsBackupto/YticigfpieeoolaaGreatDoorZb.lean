/- Walk of the statement WordsBack. -/
import Derived.Test.YticigfpieeoolaaGreatDoorZh
import Derived.Test.YticigfpieeoolaaGreatDoorY6
import Derived.Deep.QuietTactic
import Derived.BigQuiet
import Derived.StillTailTactics
import Derived.Deep.RegionHeld3
import Derived.Deep.CutBlock
namespace Go.Proofs.YticigfpieeoolaaGreatDoor
attribute [local go_sem ↓] Go.wp_at_zero Go.wp_at_succ
open Go.RowKit

theorem info_cmd : (Tryz.prog.info? 41).map (fun i => (i.zero, i.size, i.bytes)) = some (some (cmdV {} nilRow nilRow nilRow), 11, 136) := by kernel_rfl
theorem info_int' : (Tryz.prog.info? 3).map (fun i => (i.zero, i.size, i.bytes)) = some (some (.int .i64 0), 1, 8) := by kernel_rfl

attribute [-go_sem] loadVar
attribute [local go_sem] loadVar_int2 loadVar_bytes2

/-- what the first loop leaves -/
structure BackFin (w : World) (av rv ev lv : Value) (wx : World) (cs : List CmdX) (M : Nat) : Prop where
  mid : BackMid w cs M av rv ev wx
  lim : lv = .int .i64 M
  quit : ∀ (i : Nat) (x : CmdX), cs[i]? = some x → x.c.verb = 18 → i + 1 = cs.length
  few : cs.length ≤ 60

set_option maxHeartbeats 8000000 in
set_option maxRecDepth 100000 in
theorem wordsBack_any {w : World} (hg : Glob w) (ht : TabAt w) {A : Option Addr} {cap : Nat} {xs : List CmdX} (hA : CmdsAt w A xs) (hn : xs.length ≤ 9223372036854775807) :
    Calls Tryz.prog 8 #[.slice A xs.length cap] w fun e w' => e = .returned (.bool true) ∧ Below w.heap.size w w' := by
  obtain ⟨i0, hi, hz0, hz1, hz2⟩ := info_parts info_u8'
  obtain ⟨i1, hi1, hy0, hy1, hy2⟩ := info_parts info_cmd
  obtain ⟨i2, hi2, hx0, hx1, hx2⟩ := info_parts info_int'
  generalize hR : (fun (e : Ending) (w' : World) => e = .returned (.bool true) ∧ Below w.heap.size w w') = R
  have HR := Lib.hid hR
  have HG := Lib.hid hg
  have HT := Lib.hid ht
  have HA := Lib.hid hA
  clear hR hg ht hA
  go_enter Tryz.func8, Tryz.ntmps8
  go_upto_block 0 with fail
  go_cut [3, 4, 5, 6] (fun av rv ev lv wx => ∃ cs M, BackFin w av rv ev lv wx cs M)
  case first =>
    go_wp2_with fail
    go_loopw [3, 4, 5, 6, 7] (fun av rv ev lv iv wr => ∃ (k : Nat) (cs : List CmdX) (M : Nat), k ≤ xs.length ∧ iv = .int .i64 k ∧ cs.length ≤ k ∧ cs.length ≤ 60 ∧ BackMid w cs M av rv ev wr ∧ lv = .int .i64 M ∧ Hid (∀ x ∈ cs, x.c.verb ≠ 18)) (fun _ _ _ _ iv _ => xs.length - (intOf iv).toNat)
    case atStart => exact ⟨0, [], 0, Nat.zero_le _, rfl, Nat.le_refl _, by decide, BackMid.start w, rfl, Lib.hid (fun x hx => by cases hx)⟩
    case round =>
      obtain ⟨k, cs, M, hk, rfl, hck, hc60, hm, rfl, hnq⟩ := hrel
      have HM := Lib.hid hm
      clear hm
      by_cases hlt : k < xs.length ∧ k < 60
      · obtain ⟨x, hx⟩ : ∃ x, xs[k]? = some x := ⟨xs[k]'hlt.1, List.getElem?_eq_getElem _⟩
        have hgood := HA.out.good x (List.mem_of_getElem? hx)
        obtain ⟨g, o, hAe, hglt, hcell⟩ := HA.out.cell hx
        subst hAe
        have hbw := HM.out.rows.below
        have hcr : wr.rangeAt g (o + k * 11) x.cells := fun j u hj => by
          rw [hbw.cell (p := ⟨g, o + k * 11 + j, none⟩) hglt]
          exact hcell j u hj
        have x0 : wr.cell? ⟨g, o + k * 11, none⟩ = some (Value.int .i64 x.v) := hcr 0 _ rfl
        have x6 : wr.cell? ⟨g, o + k * 11 + 6, none⟩ = some (Value.slice x.D x.c.data.length x.dc) := hcr 6 _ rfl
        obtain ⟨ccs, hccs⟩ : ∃ ccs, ccs = x.cells := ⟨_, rfl⟩
        rw [← hccs] at hcr
        have hsz : (Tryz.prog.info? 41).map (·.size) = some ccs.length := by rw [hccs]; kernel_rfl
        have hld := fun (W : World) (h : W.rangeAt g (o + k * 11) ccs) => run_loadVar_mid (P := Tryz.prog) W g (o + k * 11) 41 ccs _ h Tryz.underlying41 rfl hsz
        have hby : Calls Tryz.prog 31 #[.agg ccs.toArray] wr (BytesEndX wr x) := by
          rw [hccs]
          exact bytes_cmd (HG.out.later hbw) (HT.out.later HG.out hbw) (hgood.below hbw)
        have hk1 : (k : Int) < (xs.length : Int) := by omega
        have hk2 : (k : Int) < 60 := by omega
        have HBY := Lib.hid hby
        have HGOOD := Lib.hid hgood
        have HCC := Lib.hid hccs
        have HCELL := Lib.hid hcell
        have HSZ := Lib.hid hsz
        have hnu := fun (n : Int) (W : World) => num_any n W
        have HNU := Lib.hid hnu
        clear hby hgood hccs hcell hx hlt hsz hnu
        cases ho : x.out with
        | none =>
          have hby2 : Calls Tryz.prog 31 #[.agg ccs.toArray] wr fun e w' => e = .returned (.tuple #[nilRow, .int .i64 7]) ∧ Below wr.heap.size wr w' := HBY.out.mono fun e w' h => by unfold BytesEndX at h; rw [ho] at h; exact h
          have HBY2 := Lib.hid hby2
          clear hby2 ho HBY
          go_wp2_with (first | (go_at_call 31; refine HBY2.out.mono ?_; rintro e w2 ⟨rfl, hb2⟩; have HB2 := Lib.hid hb2; clear hb2) | (go_at_call 32; refine (HNU.out _ _).mono ?_; rintro e w7 ⟨rfl, rfl⟩))
          exact ⟨⟨k + 1, cs, M, by omega, by go_num, by omega, hc60, HM.out.later HB2.out, rfl, hnq⟩, by show xs.length - ((k : Int) + 1).toNat < xs.length - (k : Int).toNat; omega⟩
        | some out =>
          obtain ⟨rfl, hag, hv1, hv2, hlg, hvv⟩ := CmdX.out_some HGOOD.out ho
          obtain ⟨L, hL⟩ : ∃ L, L = (Sp.outV x.c).length := ⟨_, rfl⟩
          have hL8 : L ≤ 8000000 := by rw [hL]; exact (HGOOD.out.small hv1 hv2).1
          have hby2 : Calls Tryz.prog 31 #[.agg ccs.toArray] wr fun e w' => ∃ A1 cp, e = .returned (.tuple #[.slice (some A1) L cp, .int .i64 0]) ∧ RowAt w' (some A1) (bytesV (Sp.outV x.c)) ∧ L ≤ cp ∧ Below wr.heap.size wr w' := HBY.out.mono fun e w' h => by
            unfold BytesEndX at h; rw [ho] at h
            obtain ⟨A1, cp, h1, h2, h3, h4⟩ := BytesOwn.post h
            exact ⟨A1, cp, by rw [hL]; exact h1, h2, by rw [hL]; exact h3, h4⟩
          have htl : allOf x.c.data.length (Sp.outV x.c) = ([({ cmd := x.c } : Sp.StepV).span 0 L], 0) := by
            have := back_all (lim := x.c.data.length) [x.c] (fun c hc => by rw [List.mem_singleton.1 hc]; exact ⟨hag, hv1, hlg, Nat.le_refl _⟩) (fun i c hc _ => by
              have := (List.getElem?_eq_some_iff.1 hc).1
              simp at this ⊢; omega)
            simp only [List.flatMap_cons, List.flatMap_nil, List.append_nil, backSteps, Nat.zero_add, ← hL] at this
            exact this
          have hal := fun (W : World) (A1 : Addr) (cp : Nat) (hW : Below w.heap.size w W) (hr : RowAt W (some A1) (bytesV (Sp.outV x.c))) (hcp : L ≤ cp) => by
            have := all_any (HG.out.later hW) (limit := (x.c.data.length : Int)) hr (by rw [← hL]; exact hcp) (fun h => by cases h) (by rw [← hL]; omega) (by have := HGOOD.out.dataL; omega)
            rw [Int.toNat_natCast, ← hL] at this
            change Calls _ _ _ _ (AllPost _ (Sp.allV _ (L + 1) 0 _)) at this
            rw [show Sp.allV x.c.data.length (L + 1) 0 (Sp.outV x.c) = ([({ cmd := x.c } : Sp.StepV).span 0 L], 0) from by rw [← htl, hL]; rfl] at this
            exact this
          have hdl := HGOOD.out.dataL
          have HBY2 := Lib.hid hby2
          have HAG := Lib.hid (And.intro hag (And.intro hv1 (And.intro hv2 (And.intro hlg hvv))))
          have HAL := Lib.hid hal
          have HLL := Lib.hid hL
          clear hby2 ho HBY htl hal hag hlg hL
          by_cases hbig : 65536 < x.c.data.length
          · as_aux_lemma =>
            have hq : decide ((65536 : Int) < (x.c.data.length : Int)) = true := decide_eq_true (by omega)
            clear hbig
            go_wp2_with (first | (go_at_call 31; refine HBY2.out.mono ?_; rintro e w2 ⟨A1, cp, rfl, hr2, hcp, hb2⟩; have x6 : w2.cell? ⟨g, o + k * 11 + 6, none⟩ = some (Value.slice x.D x.c.data.length x.dc) := cell_below2 x6 hb2; have HB2 := Lib.hid hb2; clear hb2 hr2) | (go_at_call 32; refine (HNU.out _ _).mono ?_; rintro e w7 ⟨rfl, rfl⟩))
            exact ⟨⟨k + 1, cs, M, by omega, by go_num, by omega, hc60, HM.out.later HB2.out, rfl, hnq⟩, by show xs.length - ((k : Int) + 1).toNat < xs.length - (k : Int).toNat; omega⟩
          · have hq : decide ((65536 : Int) < (x.c.data.length : Int)) = false := decide_eq_false (by omega)
            go_upto_region 11 with (first | (go_at_call 31; refine HBY2.out.mono ?_; rintro e w2 ⟨A1, cp, rfl, hr2, hcp, hb2⟩; have x6 : w2.cell? ⟨g, o + k * 11 + 6, none⟩ = some (Value.slice x.D x.c.data.length x.dc) := cell_below2 x6 hb2; have HB2 := Lib.hid hb2; have HR2 := Lib.hid hr2; clear hb2 hr2) | (go_at_call 32; refine (HNU.out _ _).mono ?_; rintro e w7 ⟨rfl, rfl⟩) | (go_at_call 25; refine (HAL.out _ A1 cp (HM.out.rows.below.trans (HB2.out.mono HM.out.rows.below.size)) HR2.out hcp).mono ?_; intro e w4 hp; obtain ⟨g4, c4, k4, d4, m4, rfl, hc4, hf4, hg4, hb4⟩ := hp.one; have HC4 := Lib.hid hc4; have HF4 := Lib.hid hf4; have HB4 := Lib.hid hb4; clear hc4 hf4 hb4 hp))
            have hbw4 : Below w.heap.size w w4 := HM.out.rows.below.trans ((HB2.out.trans (HB4.out.mono HB2.out.size)).mono HM.out.rows.below.size)
            have hcr4 : w4.rangeAt g (o + k * 11) ccs := range_below hcr (HB2.out.trans (HB4.out.mono HB2.out.size))
            obtain ⟨cs1, hcs1⟩ : ∃ cs1, cs1 = stepCells (({ cmd := x.c } : Sp.StepV).span 0 L) k4 d4 m4 := ⟨_, rfl⟩
            have hsz1 : (Tryz.prog.info? 86).map (·.size) = some cs1.length := by rw [hcs1]; kernel_rfl
            have r1 : w4.rangeAt g4 0 cs1 := by
              rw [hcs1]
              intro i u hu
              rw [Nat.zero_add]
              exact HF4.out i u hu
            have hld1 := fun (W : World) (h : W.rangeAt g4 0 cs1) => run_loadVar_mid (P := Tryz.prog) W g4 0 86 cs1 _ h Tryz.underlying86 rfl hsz1
            have hldL : ∀ W : World, W.rangeAt g (o + k * 11) ccs → (loadVar 41 ⟨g, o + k * 11, none⟩).run Tryz.prog W = .ok (Value.agg #[Value.int .i64 x.v, Value.slice x.K x.c.keys.length x.kc, Value.int .u64 x.c.flags, Value.int .i64 x.c.exptime, Value.int .u64 x.c.token, Value.int .u64 x.c.delta, Value.slice x.D x.c.data.length x.dc, Value.bool x.c.noreply, Value.bool x.c.large, Value.slice x.M x.c.metas.length x.mc, str x.c.what]) W := fun W h => (hld W h).trans (by rw [HCC.out]; rfl)
            have hcnt := HGOOD.out.counts
            have hsam : ∀ W, Below w4.heap.size w4 W → Calls Tryz.prog 37 #[.agg cs1.toArray, (Value.agg #[Value.int .i64 x.v, Value.slice x.K x.c.keys.length x.kc, Value.int .u64 x.c.flags, Value.int .i64 x.c.exptime, Value.int .u64 x.c.token, Value.int .u64 x.c.delta, Value.slice x.D x.c.data.length x.dc, Value.bool x.c.noreply, Value.bool x.c.large, Value.slice x.M x.c.metas.length x.mc, str x.c.what, .int .i64 0, str [], .int .i64 0, .int .i64 0, .int .i64 L])] W fun e w' => e = .returned (.bool true) ∧ Below W.heap.size W w' := fun W hW => by
              have := sameStep_same (w := W) (t := ({ cmd := x.c } : Sp.StepV).span 0 L) (HC4.out.below hW) ((HGOOD.out.below (hbw4.trans (hW.mono hbw4.size))).mem.at) (by have := hcnt.1; show x.c.keys.length ≤ _; omega) (by have := hcnt.2.1; show x.c.metas.length ≤ _; omega)
              rw [hcs1, HAG.out.2.2.2.2]
              exact this
            have HSAM := Lib.hid hsam
            have HR1 := Lib.hid r1
            have HBW4 := Lib.hid hbw4
            clear hcs1 hsam hld hcr x0 x6 hcnt hbw4 hv1 hv2 hvv
            have r2 := hcr4
            clear hcr4
            go_region_held3 (fun w' => w'.rangeAt g4 0 cs1 ∧ w'.rangeAt g (o + k * 11) ccs) (first | exact ⟨r1, r2⟩ | go_keep) ((go_at_call 37; refine (HSAM.out _ ((Below.refl _ _).drew)).mono ?_; rintro ee w6 ⟨rfl, hb6⟩; have hb7 := ((Below.refl w4.heap.size w4).drew).trans hb6; have r1 := range_below r1 hb7; have r2 := range_below r2 hb7; have HB7 := Lib.hid hb7; clear hb6 hb7))
            have hm6 : BackMid w cs M u3 u4 u5 w6 := HM.out.later ((HB2.out.trans ((HB4.out.trans (HB7.out.mono HB4.out.size)).mono HB2.out.size)))
            have hbr : Below w2.heap.size w2 w6 := HB4.out.trans (HB7.out.mono HB4.out.size)
            have hbow := hm6.rows.below
            have hszw : w.heap.size ≤ w6.heap.size := hbow.size
            have hcs := hm6.small
            obtain ⟨N, hN⟩ : ∃ N, N = (backAll cs).length := ⟨_, rfl⟩
            have hN8 : N ≤ 4200000 := by rw [hN]; omega
            have hrow6 := HR2.out.below hbr
            have HM6 := Lib.hid hm6
            have HROW6 := Lib.hid hrow6
            have HNN := Lib.hid hN
            have hra : w6.ownsRow w.heap.size 5 1 u3 N (bytesV (backAll cs)) := by rw [hN]; exact hm6.rows.all
            have HRA := Lib.hid hra
            have hb1 : ∀ u ∈ bytesV (Sp.outV x.c), u.oneCell' = true := fun u hu => by obtain ⟨b, _, rfl⟩ := List.mem_map.1 hu; rfl
            have hb2 : (bytesV (Sp.outV x.c)).length = L * 1 := by rw [bytesV_length, Nat.mul_one, HLL.out]
            have HONE := Lib.hid hb1
            have HLB := Lib.hid hb2
            clear hm6 hbr hbow hcs hN hrow6 hra hb1 hb2 r1 hbig
            go_upto_region 16 with (first | (at_builtin; refine wpList_append_in rfl (.tmp 78) (.tmp 79) _ rfl w.heap.size 5 i0 _ 1 1 Tryz.underlying38 hi hz0 hz1 hz2 rfl (by decide) u3 N (bytesV (backAll cs)) rfl HRA.out (some A1) L cp (bytesV (Sp.outV x.c)) rfl HROW6.out (fun h => by cases h) HLB.out HONE.out ?_ ?_ ?_ ?_; (unfold maxLen; omega); omega; omega; intro v7 w7 hown7 hg7; have hk7 := HM6.out.rows.onAll (k := Sp.outV x.c) (v' := v7) hg7 (by rw [← HNN.out, ← HLL.out]; exact hown7); have r2 : w7.rangeAt g (o + k * 11) ccs := (fun j u hj => by rw [hk7.below.cell (p := ⟨g, o + k * 11 + j, none⟩) hglt]; exact HCELL.out j u (by rw [← HCC.out]; exact hj)); obtain ⟨p7, c7, rfl⟩ := own_form hown7; have hszw : w.heap.size ≤ w7.heap.size := hk7.below.size; have HK7 := Lib.hid hk7; clear hown7 hg7 hk7) | (at_builtin; refine wpList_append_in rfl (.tmp 81) (.tmp 86) _ rfl w.heap.size 41 i1 _ 11 136 Tryz.underlying63 hi1 hy0 hy1 hy2 rfl (by decide) u4 cs.length (cs.flatMap CmdX.cells) rfl (own_later HK7.out.row ((Below.refl _ _).alloc (Nat.le_refl _) _)) (some ⟨w7.heap.size, 0, none⟩) 1 1 [Value.int .i64 x.v, Value.slice x.K x.c.keys.length x.kc, Value.int .u64 x.c.flags, Value.int .i64 x.c.exptime, Value.int .u64 x.c.token, Value.int .u64 x.c.delta, Value.slice x.D x.c.data.length x.dc, Value.bool x.c.noreply, Value.bool x.c.large, Value.slice x.M x.c.metas.length x.mc, str x.c.what] rfl (row_new w7 rfl 41 [Value.int .i64 x.v, Value.slice x.K x.c.keys.length x.kc, Value.int .u64 x.c.flags, Value.int .i64 x.c.exptime, Value.int .u64 x.c.token, Value.int .u64 x.c.delta, Value.slice x.D x.c.data.length x.dc, Value.bool x.c.noreply, Value.bool x.c.large, Value.slice x.M x.c.metas.length x.mc, str x.c.what]) (fun h => by cases h) rfl ?_ ?_ ?_ ?_ ?_; (intro u hu; simp only [List.mem_cons, List.not_mem_nil, or_false] at hu; rcases hu with rfl | rfl | rfl | rfl | rfl | rfl | rfl | rfl | rfl | rfl | rfl <;> rfl); (unfold maxLen; omega); omega; (simp; omega); intro v8 w8 hown8 hg8; have hk8 := (HK7.out.later ((Below.refl _ _).alloc (Nat.le_refl _) _)).onRow hg8 hown8; have hszw : w.heap.size ≤ w8.heap.size := hk8.below.size; have HK8 := Lib.hid hk8; clear hown8 hg8 hk8) | (at_builtin; refine wpList_append_in rfl (.tmp 88) (.tmp 91) _ rfl w.heap.size 3 i2 _ 1 8 Tryz.underlying83 hi2 hx0 hx1 hx2 rfl (by decide) u5 cs.length (backEnds cs) rfl (own_later HK8.out.ends ((Below.refl _ _).alloc (Nat.le_refl _) _)) (some ⟨w8.heap.size, 0, none⟩) 1 1 [Value.int .i64 ((N + L : Nat) : Int)] rfl (row_new w8 rfl 3 [Value.int .i64 ((N + L : Nat) : Int)]) (fun h => by cases h) rfl ?_ ?_ ?_ ?_ ?_; (intro u hu; simp only [List.mem_cons, List.not_mem_nil, or_false] at hu; subst hu; rfl); (unfold maxLen; omega); omega; (simp; omega); intro v9 w9 hown9 hg9; have hk9 := (HK8.out.later ((Below.refl _ _).alloc (Nat.le_refl _) _)).onEnds hg9 hown9; have HK9 := Lib.hid hk9; clear hown9 hg9 hk9))
            have hb9 := HK9.out.below
            have x0 : w9.cell? ⟨g, o + k * 11, none⟩ = some (Value.int .i64 x.v) := by
              rw [hb9.cell (p := ⟨g, o + k * 11, none⟩) hglt]
              exact HCELL.out 0 _ rfl
            have x6 : w9.cell? ⟨g, o + k * 11 + 6, none⟩ = some (Value.slice x.D x.c.data.length x.dc) := by
              rw [hb9.cell (p := ⟨g, o + k * 11 + 6, none⟩) hglt]
              exact HCELL.out 6 _ rfl
            have hNL : ((N + L : Nat) : Int) = ((backAll cs ++ Sp.outV x.c).length : Int) := by rw [List.length_append, HNN.out, HLL.out]
            have hmid : ∀ M' : Nat, x.c.data.length ≤ M' → M ≤ M' → M' ≤ 65536 → BackMid w (cs ++ [x]) M' (.slice p7 (N + L) c7) v8 v9 w9 := fun M' h1 h2 h3 =>
              HM6.out.on HGOOD.out HAG.out.1 HAG.out.2.1 HAG.out.2.2.1 HAG.out.2.2.2.1 HAG.out.2.2.2.2 h1 h2 h3 (by rw [← hNL]; exact HK9.out)
            have hMM := HM6.out.M
            have hdl2 : x.c.data.length ≤ 65536 := by have := of_decide_eq_false hq; omega
            have HMID := Lib.hid hmid
            have hv18 := HAG.out.2.2.2.2
            clear hb9 hNL hmid hld1 hldL r2
            by_cases hq18 : x.c.verb = 18
            · have hqu : ∀ (i : Nat) (y : CmdX), (cs ++ [x])[i]? = some y → y.c.verb = 18 → i + 1 = (cs ++ [x]).length := fun i y hy hv => by
                rcases Nat.lt_or_ge i cs.length with h | h
                · rw [List.getElem?_append_left h] at hy
                  exact absurd hv (hnq.out y (List.mem_of_getElem? hy))
                · have := (List.getElem?_eq_some_iff.1 hy).1
                  simp at this ⊢; omega
              have hq2 : (x.v == 18) = true := by rw [beq_iff_eq]; omega
              have HQU := Lib.hid hqu
              clear hqu hv18 hq18
              by_cases hML : M < x.c.data.length
              · have hq3 : decide ((M : Int) < (x.c.data.length : Int)) = true := decide_eq_true (by omega)
                go_wp2_with fail
                go_meet
                exact ⟨cs ++ [x], x.c.data.length, HMID.out _ (by omega) (by omega) (by omega), rfl, HQU.out, by simp; omega⟩
              · have hq3 : decide ((M : Int) < (x.c.data.length : Int)) = false := decide_eq_false (by omega)
                go_wp2_with fail
                go_meet
                exact ⟨cs ++ [x], M, HMID.out _ (by omega) (by omega) (by omega), rfl, HQU.out, by simp; omega⟩
            · have hq2 : (x.v == 18) = false := by rw [beq_eq_false_iff_ne]; omega
              have HNQ := Lib.hid hq18
              clear hv18 hq18
              by_cases hML : M < x.c.data.length
              · have hq3 : decide ((M : Int) < (x.c.data.length : Int)) = true := decide_eq_true (by omega)
                go_wp2_with fail
                exact ⟨⟨k + 1, cs ++ [x], x.c.data.length, by omega, by go_num, by simp; omega, by simp; omega, HMID.out _ (by omega) (by omega) (by omega), rfl, Lib.hid (fun y hy => by rcases List.mem_append.1 hy with hy | hy; exact hnq.out y hy; rw [List.mem_singleton.1 hy]; exact HNQ.out)⟩, by show xs.length - ((k : Int) + 1).toNat < xs.length - (k : Int).toNat; omega⟩
              · have hq3 : decide ((M : Int) < (x.c.data.length : Int)) = false := decide_eq_false (by omega)
                go_wp2_with fail
                exact ⟨⟨k + 1, cs ++ [x], M, by omega, by go_num, by simp; omega, by simp; omega, HMID.out _ (by omega) (by omega) (by omega), rfl, Lib.hid (fun y hy => by rcases List.mem_append.1 hy with hy | hy; exact hnq.out y hy; rw [List.mem_singleton.1 hy]; exact HNQ.out)⟩, by show xs.length - ((k : Int) + 1).toNat < xs.length - (k : Int).toNat; omega⟩
      · have hqu : ∀ (i : Nat) (y : CmdX), cs[i]? = some y → y.c.verb = 18 → i + 1 = cs.length := fun i y hy hv => absurd hv (hnq.out y (List.mem_of_getElem? hy))
        have HQU := Lib.hid hqu
        clear hqu
        by_cases hk1 : k < xs.length
        · have h1 : (k : Int) < (xs.length : Int) := by omega
          have h2 : decide ((k : Int) < 60) = false := decide_eq_false (by omega)
          clear hlt
          go_wp2_with fail
          go_meet
          exact ⟨cs, M, HM.out, rfl, HQU.out, hc60⟩
        · have h1 : decide ((k : Int) < (xs.length : Int)) = false := decide_eq_false (by omega)
          clear hlt
          go_wp2_with fail
          go_meet
          exact ⟨cs, M, HM.out, rfl, HQU.out, hc60⟩
  case rest =>
    obtain ⟨cs, M, hmid, rfl, hquit, hfew⟩ := hcut
    have hrows := hmid.rows
    have hM := hmid.M
    have hsm := hmid.small
    have hbw := hrows.below
    obtain ⟨pa, ca, rfl⟩ := own_form hrows.all
    obtain ⟨pr, cr, rfl⟩ := own_form hrows.row
    obtain ⟨pe, ce, rfl⟩ := own_form hrows.ends
    obtain ⟨a1, a2, a3⟩ := own_room3 hrows.all
    have hra := RowAt.of_own hrows.all
    have hrr := RowAt.of_own hrows.row
    have hre := RowAt.of_own hrows.ends
    have htl : allOf M (backAll cs) = (backSteps 0 (cs.map (·.c)), 0) := back_all (lim := M) (cs.map fun x : CmdX => x.c) (fun c hc => by
      obtain ⟨x, hx, rfl⟩ := List.mem_map.1 hc
      obtain ⟨_, h2, h3, h4, h5, h6, _⟩ := hmid.good x hx
      exact ⟨h2, h3, h5, h6⟩) (fun i c hc hv => by
      rw [List.getElem?_map] at hc
      obtain ⟨x, hx, rfl⟩ := Option.map_eq_some_iff.1 hc
      rw [List.length_map]
      exact hquit i x hx hv)
    have hal := all_any (HG.out.later hbw) (limit := (M : Int)) hra a1 a3 (by omega) (by omega)
    rw [Int.toNat_natCast] at hal
    change Calls _ _ _ _ (AllPost _ (allOf M (backAll cs))) at hal
    rw [htl] at hal
    have hln : (backSteps 0 (cs.map (·.c))).length = cs.length := by rw [backSteps_length, List.length_map]
    have HAL := Lib.hid hal
    have HGOOD := Lib.hid hmid.good
    have HRR := Lib.hid hrr
    have HRE := Lib.hid hre
    have HBW := Lib.hid hbw
    have hroomr := (own_room3 hrows.row).1
    have hroome := (own_room3 hrows.ends).1
    clear hmid hquit hrows hbw hra hrr hre htl hal a3 a1 a2
    go_wp2_with (go_at_call 25; refine HAL.out.mono ?_; intro e w4 hp; obtain ⟨A4, c4, tcs, rfl, hc4, hr4, hs4, hb4⟩ := hp.told2 hln; have HR4 := Lib.hid hr4; have HS4 := Lib.hid hs4; have HB4 := Lib.hid hb4; clear hr4 hs4 hb4 hp hln)
    go_loopw [14, 15] (fun fv iv wx => ∃ j : Nat, j ≤ cs.length ∧ iv = .int .i64 j ∧ fv = .int .i64 (backEnd (cs.map (·.c)) j) ∧ Below w4.heap.size w4 wx) (fun _ iv _ => cs.length - (intOf iv).toNat)
    case atStart => exact ⟨0, Nat.zero_le _, rfl, by simp [backEnd], Below.refl _ _⟩
    case round =>
      obtain ⟨j, hj, rfl, rfl, hbr⟩ := hrel
      by_cases hlt : j < cs.length
      · obtain ⟨x, hx⟩ : ∃ x, cs[j]? = some x := ⟨cs[j]'hlt, List.getElem?_eq_getElem _⟩
        obtain ⟨q1, q2, q3, q4, q5, q6, q7⟩ := HGOOD.out x (List.mem_of_getElem? hx)
        obtain ⟨e0, he0⟩ : ∃ e0, e0 = backEnd (cs.map (·.c)) j := ⟨_, rfl⟩
        obtain ⟨e1, he1⟩ : ∃ e1, e1 = backEnd (cs.map (·.c)) (j + 1) := ⟨_, rfl⟩
        have hst : (backSteps 0 (cs.map (·.c)))[j]? = some (({ cmd := x.c } : Sp.StepV).span e0 e1) := by
          have := backSteps_at (cs.map (·.c)) 0 j x.c (by rw [List.getElem?_map, hx]; rfl)
          rw [Nat.zero_add, Nat.zero_add, ← he0, ← he1] at this
          exact this
        obtain ⟨g5, o5, kv, dv, mv, hA5, hcell5⟩ := steps_cell HR4.out HS4.out hst
        subst hA5
        obtain ⟨g6, o6, hA6, hlt6, hcell6⟩ : ∃ g o, pr = some ⟨g, o, none⟩ ∧ g < wc.heap.size ∧ wc.rangeAt g (o + j * 11) x.cells := by
          rcases HRR.out with h0 | ⟨g, o, h1, h2, h3⟩
          · have := flatMap_get (k := 11) (f := CmdX.cells) (fun _ _ => rfl) hx (r := 0) (by decide)
            rw [h0] at this; cases this
          · exact ⟨g, o, h1, h2, fun i u hu => by
              have hi : i < 11 := by have := (List.getElem?_eq_some_iff.1 hu).1; rwa [CmdX.cells_length] at this
              have := flatMap_get (k := 11) (f := CmdX.cells) (fun _ _ => rfl) hx hi
              rw [Nat.add_assoc]
              exact h3 _ _ (by rw [this]; exact hu)⟩
        subst hA6
        obtain ⟨g7, o7, hA7, hlt7, hcell7⟩ : ∃ g o, pe = some ⟨g, o, none⟩ ∧ g < wc.heap.size ∧ wc.cell? ⟨g, o + j, none⟩ = some (.int .i64 e1) := by
          rcases HRE.out with h0 | ⟨g, o, h1, h2, h3⟩
          · have := backEnds_at hlt
            rw [h0] at this; cases this
          · exact ⟨g, o, h1, h2, h3 _ _ (by rw [he1]; exact backEnds_at hlt)⟩
        subst hA7
        have hbx := HB4.out.trans (hbr.mono HB4.out.size)
        obtain ⟨hc5, hf5⟩ := hcell5 wr hbr
        obtain ⟨cs1, hcs1⟩ : ∃ cs1, cs1 = stepCells (({ cmd := x.c } : Sp.StepV).span e0 e1) kv dv mv := ⟨_, rfl⟩
        obtain ⟨ccs, hccs⟩ : ∃ ccs, ccs = x.cells := ⟨_, rfl⟩
        have hsz1 : (Tryz.prog.info? 86).map (·.size) = some cs1.length := by rw [hcs1]; kernel_rfl
        have hsz2 : (Tryz.prog.info? 41).map (·.size) = some ccs.length := by rw [hccs]; kernel_rfl
        have r1 : wr.rangeAt g5 (o5 + j * 16) cs1 := by rw [hcs1]; exact hf5
        have r2 : wr.rangeAt g6 (o6 + j * 11) ccs := by rw [hccs]; exact range_below hcell6 hbx
        have r3 : wr.cell? ⟨g7, o7 + j, none⟩ = some (.int .i64 e1) := cell_below2 hcell7 hbx
        have hld1 := fun (W : World) (h : W.rangeAt g5 (o5 + j * 16) cs1) => run_loadVar_mid (P := Tryz.prog) W g5 (o5 + j * 16) 86 cs1 _ h Tryz.underlying86 rfl hsz1
        have hld := fun (W : World) (h : W.rangeAt g6 (o6 + j * 11) ccs) => run_loadVar_mid (P := Tryz.prog) W g6 (o6 + j * 11) 41 ccs _ h Tryz.underlying41 rfl hsz2
        have hldL : ∀ W : World, W.rangeAt g6 (o6 + j * 11) ccs → (loadVar 41 ⟨g6, o6 + j * 11, none⟩).run Tryz.prog W = .ok (Value.agg #[Value.int .i64 x.v, Value.slice x.K x.c.keys.length x.kc, Value.int .u64 x.c.flags, Value.int .i64 x.c.exptime, Value.int .u64 x.c.token, Value.int .u64 x.c.delta, Value.slice x.D x.c.data.length x.dc, Value.bool x.c.noreply, Value.bool x.c.large, Value.slice x.M x.c.metas.length x.mc, str x.c.what]) W := fun W h => (hld W h).trans (by rw [hccs]; rfl)
        have hcnt := q1.counts
        have hsam : ∀ W, Below wr.heap.size wr W → Calls Tryz.prog 37 #[.agg cs1.toArray, (Value.agg #[Value.int .i64 x.v, Value.slice x.K x.c.keys.length x.kc, Value.int .u64 x.c.flags, Value.int .i64 x.c.exptime, Value.int .u64 x.c.token, Value.int .u64 x.c.delta, Value.slice x.D x.c.data.length x.dc, Value.bool x.c.noreply, Value.bool x.c.large, Value.slice x.M x.c.metas.length x.mc, str x.c.what, .int .i64 0, str [], .int .i64 0, .int .i64 e0, .int .i64 e1])] W fun e w' => e = .returned (.bool true) ∧ Below W.heap.size W w' := fun W hW => by
          have := sameStep_same (w := W) (t := ({ cmd := x.c } : Sp.StepV).span e0 e1) (hc5.below hW) ((q1.below (HBW.out.trans ((hbx.trans (hW.mono hbx.size)).mono HBW.out.size))).mem.at) (by have := hcnt.1; show x.c.keys.length ≤ _; omega) (by have := hcnt.2.1; show x.c.metas.length ≤ _; omega)
          rw [hcs1, q7]
          exact this
        have hj1 : (j : Int) < (cs.length : Int) := by omega
        have hj2 : (j : Int) < (cr : Int) := by omega
        have hj3 : (j : Int) < (ce : Int) := by omega
        have HSAM := Lib.hid hsam
        have HBR := Lib.hid hbr
        have HE := Lib.hid (And.intro he0 he1)
        clear hsam hbr hbx hx hst hcell5 hcell6 hcell7 hc5 hf5 hcs1 hccs hld hcnt q1 q2 q3 q4 q5 q6 q7 he0 he1
        rw [← HE.out.1]
        go_upto_region 26 with (fail)
        go_region_held3 (fun w' => w'.rangeAt g5 (o5 + j * 16) cs1 ∧ w'.rangeAt g6 (o6 + j * 11) ccs ∧ w'.cell? ⟨g7, o7 + j, none⟩ = some (.int .i64 e1)) (first | exact ⟨r1, r2, r3⟩ | go_keep) ((go_at_call 37; refine (HSAM.out _ ((Below.refl _ _).drew)).mono ?_; rintro ee w6 ⟨rfl, hb6⟩; have hb7 := ((Below.refl wr.heap.size wr).drew).trans hb6; have r1 := range_below r1 hb7; have r2 := range_below r2 hb7; have r3 := cell_below2 r3 hb7; have HB7 := Lib.hid hb7; clear hb6 hb7))
        go_wp2_with fail
        exact ⟨⟨j + 1, by omega, by go_num, by rw [HE.out.2], HBR.out.trans (HB7.out.mono HBR.out.size)⟩, by show cs.length - ((j : Int) + 1).toNat < cs.length - (j : Int).toNat; omega⟩
      · have h1 : decide ((j : Int) < (cs.length : Int)) = false := decide_eq_false (by omega)
        have hbf : Below w.heap.size w wr := HBW.out.trans ((HB4.out.trans (hbr.mono HB4.out.size)).mono HBW.out.size)
        have hwk := wakes11_any (HG.out.later hbf) (HT.out.later HG.out hbf)
        have HWK := Lib.hid hwk
        have HBF := Lib.hid hbf
        clear hwk hbf hbr
        go_wp2_with (go_at_call 22; refine HWK.out.mono ?_; rintro e w6 ⟨rfl, hb6⟩; have HB6 := Lib.hid hb6; clear hb6)
        rw [← HR.out]
        exact ⟨rfl, HBF.out.trans (HB6.out.mono HBF.out.size)⟩
end Go.Proofs.YticigfpieeoolaaGreatDoor
