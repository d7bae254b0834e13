/- Walk of the statement LineBack. -/
import Derived.Test.YtbiakncngmgbkaaGreatDoorRH
import Derived.Test.YtbiakncngmgbkaaGreatDoorLc
import Derived.Test.YtbiakncngmgbkaaGreatDoorP4
import Derived.Test.YtbiakncngmgbkaaGreatDoorK1
import Derived.Deep.QuietTactic
import Derived.BigQuiet
import Derived.StillTailTactics
import Derived.Deep.RegionHeld3
import Derived.Deep.CutBlock
import Derived.Deep.CutRange
import Derived.Deep.DeepCutAuto
namespace Go.Proofs.YtbiakncngmgbkaaGreatDoor
attribute [local go_sem ↓] Go.wp_at_zero Go.wp_at_succ
open Go.RowKit

theorem own_cells_same {w : World} {base base' : Nat} {e e' : TypeId} {size n : Nat} {v : Value} {xs ys : List Value} (h1 : w.ownsRow base e size v n xs) (h2 : w.ownsRow base' e' size v n ys) : xs = ys := by
  rcases h1.2 with ⟨hv, hn⟩ | ⟨g, cap, cur, rfl, _, hg, _, _, _, ht⟩
  · have a := h1.1; have b := h2.1
    rw [hn, Nat.zero_mul] at a b
    rw [List.eq_nil_of_length_eq_zero a, List.eq_nil_of_length_eq_zero b]
  · rcases h2.2 with ⟨hv, _⟩ | ⟨g', cap', cur', hv, _, hg', _, _, _, ht'⟩
    · cases hv
    · injection hv with hv; injection hv with hv; injection hv with hv
      subst hv
      rw [hg] at hg'
      injection hg' with hg'; injection hg' with hc _
      rw [← ht, ← ht', hc]

attribute [-go_sem] loadVar
attribute [local go_sem] loadVar_int2 loadVar_bytes2

set_option maxHeartbeats 16000000 in
set_option maxRecDepth 100000 in
theorem lineBack_any {w : World} (hg : Glob w) {A B : Option Addr} {capA capB : Nat} {xs : List CmdX} {cuts : List Int} (hA : CmdsAt w A xs) (hn : xs.length ≤ 9223372036854775807) (hcB : cuts.length ≤ 9223372036854775807) (hrowB : RowAt w B (intsV cuts)) :
    Calls Tryz.prog 4 #[.slice A xs.length capA, .slice B cuts.length capB] w fun e w' => e = .returned (.bool true) ∧ Below w.heap.size w w' := by
  obtain ⟨i0, hi, hz0, hz1, hz2⟩ := info_parts info_u8'
  obtain ⟨i1, hi1, hy0, hy1, hy2⟩ := info_parts info_step
  generalize hR : (fun (e : Ending) (w' : World) => e = .returned (.bool true) ∧ Below w.heap.size w w') = R
  have HR := Lib.hid hR
  have HG := Lib.hid hg
  have HA := Lib.hid hA
  have HRB := Lib.hid hrowB
  clear hR hg hA hrowB
  go_enter Tryz.func4, Tryz.ntmps4
  go_upto_block 0 with fail
  go_cut [5, 6] (fun rv wv wx => ∃ cs, LbMid w cs rv wv wx)
  case first =>
    go_wp2_with fail
    go_loopw [5, 6, 7] (fun rv wv iv wr => ∃ (k : Nat) (cs : List CmdX), k ≤ xs.length ∧ iv = .int .i64 k ∧ cs.length ≤ k ∧ k ≤ 60 ∧ LbMid w cs rv wv wr) (fun _ _ iv _ => xs.length - (intOf iv).toNat)
    case atStart => exact ⟨0, [], Nat.zero_le _, rfl, Nat.le_refl _, by decide, LbMid.start w⟩
    case round =>
      obtain ⟨k, cs, hk, rfl, hck, hk60, hm⟩ := hrel
      obtain ⟨wo, rfl⟩ : ∃ wo, wo = wr := ⟨wr, rfl⟩
      by_cases hlt : k < xs.length ∧ k < 60
      · obtain ⟨x, hx⟩ : ∃ x, xs[k]? = some x := ⟨xs[k]'hlt.1, List.getElem?_eq_getElem _⟩
        have hgood := HA.out.good x (List.mem_of_getElem? hx)
        obtain ⟨g, o, hAe, hglt, hcell⟩ := HA.out.cell hx
        subst hAe
        have hbw := hm.below
        have hcr : wo.rangeAt g (o + k * 11) x.cells := fun j u hj => by
          rw [hbw.cell (p := ⟨g, o + k * 11 + j, none⟩) hglt]
          exact hcell j u hj
        obtain ⟨ccs, hccs⟩ : ∃ ccs, ccs = x.cells := ⟨_, rfl⟩
        rw [← hccs] at hcr
        have hsz : (Tryz.prog.info? 57).map (·.size) = some ccs.length := by rw [hccs]; kernel_rfl
        have hld := fun (W : World) (h : W.rangeAt g (o + k * 11) ccs) => run_loadVar_mid (P := Tryz.prog) W g (o + k * 11) 57 ccs _ h Tryz.underlying57 rfl hsz
        have hby : Calls Tryz.prog 20 #[.agg ccs.toArray] wo (BytesEndX wo x) := by
          rw [hccs]
          exact refBytes_cmd (hgood.below hbw)
        have hk1 : (k : Int) < (xs.length : Int) := by omega
        have hk2 : (k : Int) < 60 := by omega
        have hme : xs.length - ((k : Int) + 1).toNat < xs.length - (k : Int).toNat := by omega
        have hkk : k + 1 ≤ 60 := by omega
        obtain ⟨pr, cr, hrv⟩ := own_form hm.raw
        obtain ⟨N, hN⟩ : ∃ N, N = (backAll cs).length := ⟨_, rfl⟩
        have hsm := hm.small
        have hfew := hm.few
        have hN8 : N ≤ 200000 := by rw [hN]; omega
        rw [← hN] at hrv
        subst hrv
        have HM := Lib.hid hm
        have HBY := Lib.hid hby
        have HGOOD := Lib.hid hgood
        have HCC := Lib.hid hccs
        have HCELL := Lib.hid hcell
        have HNN := Lib.hid hN
        have HME := Lib.hid hme
        clear hm hby hgood hccs hcell hx hlt hsz hN hsm hbw hme
        cases ho : x.out with
        | none =>
          as_aux_lemma =>
            have hby2 : Calls Tryz.prog 20 #[.agg ccs.toArray] wo fun e w' => e = .returned (.tuple #[nilRow, .int .i64 7]) ∧ Below wo.heap.size wo w' := HBY.out.mono fun e w' h => by unfold BytesEndX at h; rw [ho] at h; exact h
            have HBY2 := Lib.hid hby2
            clear hby2 ho HBY
            go_wp2_with (go_at_call 20; refine HBY2.out.mono ?_; rintro e w2 ⟨rfl, hb2⟩; have HB2 := Lib.hid hb2; clear hb2)
            exact ⟨⟨k + 1, cs, by omega, by go_num, by omega, hkk, HM.out.later HB2.out⟩, HME.out⟩
        | some out =>
          obtain ⟨rfl, hag, hv1, hv2, hlg, hvv⟩ := CmdX.out_some HGOOD.out ho
          obtain ⟨L, hL⟩ : ∃ L, L = (Sp.outV x.c).length := ⟨_, rfl⟩
          have hL8 : L ≤ 8000000 := by rw [hL]; exact (HGOOD.out.small hv1 hv2).1
          have hdl := HGOOD.out.dataL
          have hby2 : Calls Tryz.prog 20 #[.agg ccs.toArray] wo fun e w' => ∃ g1 cp, e = .returned (.tuple #[.slice (some ⟨g1, 0, none⟩) L cp, .int .i64 0]) ∧ RowAt w' (some ⟨g1, 0, none⟩) (bytesV (Sp.outV x.c)) ∧ wo.heap.size ≤ g1 ∧ g1 < w'.heap.size ∧ Below wo.heap.size wo w' := HBY.out.mono fun e w' h => by
            unfold BytesEndX at h; rw [ho] at h
            obtain ⟨g1, cp, h1, h2, h3⟩ := h
            exact ⟨g1, cp, by rw [hL]; exact h1, h2.row, h2.ge, h2.lt, h3⟩
          have HBY2 := Lib.hid hby2
          have HLL := Lib.hid hL
          have HKEPT := Lib.hid (fun (h5 : x.c.data.length ≤ 500) (hq : x.c.verb ≠ 18) => (⟨HGOOD.out, hag, hv1, hv2, hlg, h5, hvv, hq⟩ : Kept w x))
          have HVV := Lib.hid hvv
          clear hby2 ho HBY hag hlg hL hvv
          by_cases h500 : 500 < x.c.data.length
          · as_aux_lemma =>
              have e1 : decide ((500 : Int) < (x.c.data.length : Int)) = true := decide_eq_true (by omega)
              go_wp2_with (go_at_call 20; refine HBY2.out.mono ?_; rintro e w2 ⟨g1, cp, rfl, hr2, hg1, hgl1, hb2⟩; have x6 : w2.cell? ⟨g, o + k * 11 + 6, none⟩ = some (Value.slice x.D x.c.data.length x.dc) := (range_below hcr hb2) 6 _ (by rw [HCC.out]; rfl); have HB2 := Lib.hid hb2; clear hb2 hr2)
              exact ⟨⟨k + 1, cs, by omega, by go_num, by omega, hkk, HM.out.later HB2.out⟩, HME.out⟩
          · have e1 : decide ((500 : Int) < (x.c.data.length : Int)) = false := decide_eq_false (by omega)
            by_cases h12 : 12000 < N
            · as_aux_lemma =>
                have e2 : decide ((12000 : Int) < (N : Int)) = true := decide_eq_true (by omega)
                go_wp2_with (go_at_call 20; refine HBY2.out.mono ?_; rintro e w2 ⟨g1, cp, rfl, hr2, hg1, hgl1, hb2⟩; have x6 : w2.cell? ⟨g, o + k * 11 + 6, none⟩ = some (Value.slice x.D x.c.data.length x.dc) := (range_below hcr hb2) 6 _ (by rw [HCC.out]; rfl); have HB2 := Lib.hid hb2; clear hb2 hr2)
                exact ⟨⟨k + 1, cs, by omega, by go_num, by omega, hkk, HM.out.later HB2.out⟩, HME.out⟩
            · have e2 : decide ((12000 : Int) < (N : Int)) = false := decide_eq_false (by omega)
              by_cases h18 : x.c.verb = 18
              · as_aux_lemma =>
                  have e3 : (x.v == 18) = true := by have := HVV.out; rw [beq_iff_eq]; omega
                  clear h18
                  go_wp2_with (go_at_call 20; refine HBY2.out.mono ?_; rintro e w2 ⟨g1, cp, rfl, hr2, hg1, hgl1, hb2⟩; have x6 : w2.cell? ⟨g, o + k * 11 + 6, none⟩ = some (Value.slice x.D x.c.data.length x.dc) := (range_below hcr hb2) 6 _ (by rw [HCC.out]; rfl); have x0 : w2.cell? ⟨g, o + k * 11, none⟩ = some (Value.int .i64 x.v) := (range_below hcr hb2) 0 _ (by rw [HCC.out]; rfl); have HB2 := Lib.hid hb2; clear hb2 hr2)
                  exact ⟨⟨k + 1, cs, by omega, by go_num, by omega, hkk, HM.out.later HB2.out⟩, HME.out⟩
              · have e3 : (x.v == 18) = false := by have := HVV.out; rw [beq_eq_false_iff_ne]; omega
                have hkept := HKEPT.out (by omega) h18
                have HK := Lib.hid hkept
                have hb1 : ∀ u ∈ bytesV (Sp.outV x.c), u.oneCell' = true := fun u hu => by obtain ⟨b, _, rfl⟩ := List.mem_map.1 hu; rfl
                have hb2' : (bytesV (Sp.outV x.c)).length = L * 1 := by rw [bytesV_length, Nat.mul_one, HLL.out]
                have HONE := Lib.hid hb1
                have HLB := Lib.hid hb2'
                have hck60 : cs.length < 60 := by omega
                clear hkept h18 h500 h12 hb1 hb2'
                go_upto_region 8 with (go_at_call 20; refine HBY2.out.mono ?_; rintro e w2 ⟨g1, cp, rfl, hr2, hg1, hgl1, hb2⟩; have x6 : w2.cell? ⟨g, o + k * 11 + 6, none⟩ = some (Value.slice x.D x.c.data.length x.dc) := (range_below hcr hb2) 6 _ (by rw [HCC.out]; rfl); have x0 : w2.cell? ⟨g, o + k * 11, none⟩ = some (Value.int .i64 x.v) := (range_below hcr hb2) 0 _ (by rw [HCC.out]; rfl); have hcr2 := range_below hcr hb2; have HB2 := Lib.hid hb2; have HR2 := Lib.hid hr2; clear hb2 hr2)
                have hldL : ∀ W : World, W.rangeAt g (o + k * 11) ccs → (loadVar 57 ⟨g, o + k * 11, none⟩).run Tryz.prog W = .ok (Value.agg #[Value.int .i64 x.v, Value.slice x.K x.c.keys.length x.kc, Value.int .u64 x.c.flags, Value.int .i64 x.c.exptime, Value.int .u64 x.c.token, Value.int .u64 x.c.delta, Value.slice x.D x.c.data.length x.dc, Value.bool x.c.noreply, Value.bool x.c.large, Value.slice x.M x.c.metas.length x.mc, str x.c.what]) W := fun W h => (hld W h).trans (by rw [HCC.out]; rfl)
                clear hld
                have hm2 := HM.out.later HB2.out
                have hszw : w.heap.size ≤ w2.heap.size := hm2.below.size
                have hnews : [Value.int .i64 x.v, Value.slice x.K x.c.keys.length x.kc, Value.int .u64 x.c.flags, Value.int .i64 x.c.exptime, Value.int .u64 x.c.token, Value.int .u64 x.c.delta, Value.slice x.D x.c.data.length x.dc, Value.bool x.c.noreply, Value.bool x.c.large, Value.slice x.M x.c.metas.length x.mc, str x.c.what, .int .i64 0, str [], .int .i64 0, .int .i64 N, .int .i64 ((N : Int) + (L : Int))] = wantOne x (backAll cs).length ((backAll cs).length + (Sp.outV x.c).length) := by rw [← HNN.out, ← HLL.out]; unfold wantOne; rw [Int.natCast_add]; rfl
                have HNEWS := Lib.hid hnews
                have HM2 := Lib.hid hm2
                have hwl := own_lt HM.out.want
                have HWL := Lib.hid hwl
                clear hm2 x0 x6 hnews hwl
                go_wp2_with (first | (at_builtin; refine wpList_append_in rfl (.tmp 56) (.tmp 69) _ rfl w.heap.size 61 i1 _ 16 184 Tryz.underlying41 hi1 hy0 hy1 hy2 rfl (by decide) u6 cs.length (wantCells 0 cs) rfl (own_later HM2.out.want ((Below.refl _ _).alloc (Nat.le_refl _) _)) (some ⟨w2.heap.size, 0, none⟩) 1 1 [Value.int .i64 x.v, Value.slice x.K x.c.keys.length x.kc, Value.int .u64 x.c.flags, Value.int .i64 x.c.exptime, Value.int .u64 x.c.token, Value.int .u64 x.c.delta, Value.slice x.D x.c.data.length x.dc, Value.bool x.c.noreply, Value.bool x.c.large, Value.slice x.M x.c.metas.length x.mc, str x.c.what, .int .i64 0, str [], .int .i64 0, .int .i64 N, .int .i64 ((N : Int) + (L : Int))] rfl (row_new w2 rfl 61 [Value.int .i64 x.v, Value.slice x.K x.c.keys.length x.kc, Value.int .u64 x.c.flags, Value.int .i64 x.c.exptime, Value.int .u64 x.c.token, Value.int .u64 x.c.delta, Value.slice x.D x.c.data.length x.dc, Value.bool x.c.noreply, Value.bool x.c.large, Value.slice x.M x.c.metas.length x.mc, str x.c.what, .int .i64 0, str [], .int .i64 0, .int .i64 N, .int .i64 ((N : Int) + (L : Int))]) (fun h => by cases h) rfl ?_ ?_ ?_ ?_ ?_; (intro u hu; simp only [List.mem_cons, List.not_mem_nil, or_false] at hu; rcases hu with rfl | rfl | rfl | rfl | rfl | rfl | rfl | rfl | rfl | rfl | rfl | rfl | rfl | rfl | rfl | rfl <;> rfl); (unfold maxLen; omega); omega; (simp; omega); intro v7 w7 hown7 hg7; have hk7 := (HM2.out.later ((Below.refl _ _).alloc (Nat.le_refl _) _)).onWant (x := x) hg7 (by rw [← HNEWS.out]; exact hown7); have hr7 := RowAt.onlyIn (HR2.out.alloc _) (OnlyIn.grown hg7) (fun a ha => by injection ha with ha; subst ha; intro hm; have hlt9 : g1 < wo.heap.size := HWL.out _ hm; omega); have hraw7 : w7.ownsRow w.heap.size 5 1 (.slice pr N cr) N (bytesV (backAll cs)) := (by have := hk7.raw; rwa [← HNN.out] at this); obtain ⟨p7, c7, rfl⟩ := own_form hown7; have hszw7 : w.heap.size ≤ w7.heap.size := hk7.below.size; have HK7 := Lib.hid hk7; have HR7 := Lib.hid hr7; have HRAW7 := Lib.hid hraw7; clear hown7 hg7 hk7 hr7 hraw7) | (at_builtin; refine wpList_append_in rfl (.tmp 71) (.tmp 72) _ rfl w.heap.size 5 i0 _ 1 1 Tryz.underlying43 hi hz0 hz1 hz2 rfl (by decide) (.slice pr N cr) N (bytesV (backAll cs)) rfl HRAW7.out (some ⟨g1, 0, none⟩) L cp (bytesV (Sp.outV x.c)) rfl HR7.out (fun h => by cases h) HLB.out HONE.out ?_ ?_ ?_ ?_; (unfold maxLen; omega); omega; omega; intro v8 w8 hown8 hg8; have hk8 := HK7.out.onRaw hg8 (by rw [← HNN.out, ← HLL.out]; exact hown8) HK.out HM.out.kept HM.out.small hck60; obtain ⟨p8, c8, rfl⟩ := own_form hown8; have HK8 := Lib.hid hk8; clear hown8 hg8 hk8))
                exact ⟨⟨k + 1, cs ++ [x], by omega, by go_num, by simp; omega, hkk, HK8.out⟩, HME.out⟩
      · by_cases hk1 : k < xs.length
        · have h1 : (k : Int) < (xs.length : Int) := by omega
          have h2 : decide ((k : Int) < 60) = false := decide_eq_false (by omega)
          clear hlt
          go_wp2_with fail
          go_meet
          exact ⟨cs, hm⟩
        · have h1 : decide ((k : Int) < (xs.length : Int)) = false := decide_eq_false (by omega)
          clear hlt
          go_wp2_with fail
          go_meet
          exact ⟨cs, hm⟩
  case rest =>
    obtain ⟨cs, hmid⟩ := hcut
    have hbw := hmid.below
    have htold := hmid.told
    have hsm := hmid.small
    have hfew := hmid.few
    have hkept := hmid.kept
    have hown := hmid.raw
    have hwant := hmid.want
    obtain ⟨pr, cr, rfl⟩ := own_form hown
    obtain ⟨pw, cw, rfl⟩ := own_form hwant
    obtain ⟨raw, hraw⟩ : ∃ raw, raw = backAll cs := ⟨_, rfl⟩
    rw [← hraw] at hown htold hsm ⊢
    obtain ⟨a1, a2, a3⟩ := own_room3 hown
    have hrl : raw.length ≤ 200000 := by omega
    have hrr := RowAt.of_own hown
    have hgw := HG.out.later hbw
    have hgc := hgw.size
    have hne : Calls Tryz.prog 8 #[.int .i64 500] wc fun e w' => e = .returned (.pointer (some ⟨wc.heap.size, 0, none⟩)) ∧ FeedAt w' wc.heap.size 500 {} nilRow nilRow nilRow nilRow nilRow [] [] ∧ Below wc.heap.size wc w' := new_any wc (by omega) 500
    have hpi := fun (W : World) (hW : Below wc.heap.size wc W) => pieces_any (w := W) (capB := capB) (by omega) a1 a2 hcB (hrr.below hW) a3 ((HRB.out.below hbw).below hW)
    have HBW := Lib.hid hbw
    have HTOLD := Lib.hid htold
    have HKEPT := Lib.hid hkept
    have HWANT := Lib.hid hwant
    have HGW := Lib.hid hgw
    have HNE := Lib.hid hne
    have HPI := Lib.hid hpi
    clear hmid hbw htold hkept hown hwant hrr hgw hne hpi a1 a2 a3 hraw hsm
    go_upto_region 15 with (first | (go_at_call 8; refine HNE.out.mono ?_; rintro e w1 ⟨rfl, hf1, hb1⟩; have HF1 := Lib.hid hf1; have HB1 := Lib.hid hb1; clear hf1 hb1) | (go_at_call 21; refine (HPI.out _ HB1.out).mono ?_; rintro e w4 ⟨pg, pc, pcs, rfl, hown4, hrm4, hb4⟩; have HOWN4 := Lib.hid hown4; have HRM4 := Lib.hid hrm4; have HB4 := Lib.hid hb4; clear hown4 hrm4 hb4))
    obtain ⟨ps, hps⟩ : ∃ ps, ps = piecesOf raw cuts := ⟨_, rfl⟩
    have hpc := piecesOf_count raw cuts
    have hflat := piecesOf_flat raw cuts
    rw [← hps] at hpc HOWN4 HRM4 hflat ⊢
    have hfl1 : wc.heap.size < w1.heap.size := HF1.out.blk.lt
    have hw4 : w1.heap.size ≤ w4.heap.size := HB4.out.size
    have hb14 : Below wc.heap.size wc w4 := HB1.out.trans (HB4.out.mono (by omega))
    have hmid : FedMid w4 [wc.heap.size] wc.heap.size 500 (fedBy 500 (ps.take 0)) (toldBy 500 (ps.take 0)) nilRow w4 :=
      ⟨[], FedOn.new (HF1.out.later HB4.out) (HGW.out.later hb14) (by simp)⟩
    have HM := Lib.hid hmid
    have HFLAT := Lib.hid hflat
    have HB14 := Lib.hid hb14
    clear hmid hflat hb14 hps HNE HPI
    go_wp2_with fail
    go_loopw [11, 13] (fun v i wx => ∃ k : Nat, k ≤ ps.length ∧ i = .int .i64 k ∧ FedMid w4 [wc.heap.size] wc.heap.size 500 (fedBy 500 (ps.take k)) (toldBy 500 (ps.take k)) v wx) (fun _ i _ => ps.length - (intOf i).toNat)
    case atStart => exact ⟨0, by omega, rfl, HM.out⟩
    case round =>
      obtain ⟨k, hk2, rfl, hmid⟩ := hrel
      by_cases hlt : k < ps.length
      · obtain ⟨hkeep, hfit, hout, htak⟩ := fedBy_ok 500 _ (ps.take k) rfl
        have hle := flat_take_le ps k
        rw [HFLAT.out] at hle
        obtain ⟨p, hp⟩ : ∃ p, ps[k]? = some p := ⟨ps[k], by simp [hlt]⟩
        have hsucc := fedBy_succ 500 hp
        have htsucc := toldBy_succ 500 hp
        have hflat := flat_take_succ hp
        have hle2 := flat_take_le ps (k + 1)
        rw [HFLAT.out, hflat, List.length_append] at hle2
        obtain ⟨gp, cp, hpcs, hpown⟩ := HRM4.out.2 k p hp
        have hpg : w1.heap.size ≤ pg := own_ge HOWN4.out pg (by simp [rowBlock, Value.ownBlock])
        have hpg2 : pg < w4.heap.size := own_lt HOWN4.out pg (by simp [rowBlock, Value.ownBlock])
        have hgp : w1.heap.size ≤ gp := own_ge hpown gp (by simp [rowBlock, Value.ownBlock])
        have hgp2 : gp < w4.heap.size := own_lt hpown gp (by simp [rowBlock, Value.ownBlock])
        have hcell4 : w4.cell? ⟨pg, k, none⟩ = some (.slice (some ⟨gp, 0, none⟩) p.length cp) := by
          have h := RowAt.of_own HOWN4.out
          have := h.cells k _ hpcs
          rwa [Addr.add_mid, Nat.zero_add] at this
        have yr : wr.cell? ⟨pg, k, none⟩ = some (.slice (some ⟨gp, 0, none⟩) p.length cp) :=
          (World.cell?_of_block (hmid.only.block pg hpg2 (by simp; omega))).trans hcell4
        have hrowp : RowAt wr (some ⟨gp, 0, none⟩) (bytesV p) := RowAt.of_own (own_same hpown fun x hx => hmid.only.block x (own_lt hpown x hx) (by have := own_ge hpown x hx; simp; omega))
        have hlow : ∀ x ∈ [wc.heap.size], 8 ≤ x := fun x hx => by simp at hx; omega
        have hc := hmid.fed (cap := cp) hfit (by omega) hrowp (fun a ha => by injection ha with ha; subst ha; exact ⟨hgp2, by show gp ≠ wc.heap.size; omega⟩) hlow (by omega)
        rw [← hsucc] at hc
        have htc : (toldBy 500 (ps.take (k + 1))).length ≤ 200000 := by have := toldBy_count 500 (ps.take (k + 1)); rw [hflat, List.length_append] at this; omega
        have hme : ps.length - ((k : Int) + 1).toNat < ps.length - (k : Int).toNat := by omega
        generalize hs1 : fedBy 500 (ps.take (k + 1)) = s1 at hc
        generalize hs0 : fedBy 500 (ps.take k) = s0 at *
        generalize hts0 : toldBy 500 (ps.take k) = ts0 at *
        generalize hts1 : toldBy 500 (ps.take (k + 1)) = ts1 at *
        generalize s0.told 500 p = tl at *
        have hc2 : Calls Tryz.prog 12 #[.pointer (some ⟨wc.heap.size, 0, none⟩), .slice (some ⟨gp, 0, none⟩) p.length cp] wr fun e w' => ∃ A' c', e = .returned (.slice A' tl.length c') ∧ FedGot w4 [wc.heap.size] wc.heap.size 500 s1 ts0 tl u11 A' c' w' :=
          hc.mono fun e w' ⟨A', c', h1, h2, h3⟩ => ⟨A', c', h1, h2⟩
        obtain ⟨Au, cu, tcsu, blu, hu11, -, -⟩ := hmid.own
        have HC := Lib.hid hc2
        have HS1 := Lib.hid hs1
        have HTS1 := Lib.hid hts1
        have HTSU := Lib.hid htsucc
        have HME := Lib.hid hme
        clear hc hc2 hs1 hs0 hts0 hts1 htsucc hsucc hlow hmid hrowp hcell4 hpown hpcs hp hflat hkeep hfit hout htak hle hle2 hme
        subst hu11
        go_wp2_with fail
        refine HC.out.mono ?_
        rintro e w5 ⟨A', c', rfl, hgot⟩
        obtain ⟨tcs, tc, hr1, hr2, hone⟩ := hgot.row
        have htcl : tc.length = tl.length * 16 := hr2.1
        have hlw : w4.heap.size ≤ w5.heap.size := hgot.only.size
        have htsl : ts0.length + tl.length ≤ 200000 := by have := HTSU.out; rw [this, List.length_append] at htc; exact htc
        have HGOT := Lib.hid hgot
        have HR1 := Lib.hid hr1
        have HR2 := Lib.hid hr2
        have HONE := Lib.hid hone
        have HTCL := Lib.hid htcl
        clear hgot hr1 hr2 hone htcl
        cases A' with
        | none =>
          have hz : tl = [] ∧ c' = 0 := by
            rcases HR2.out.2 with ⟨h1, h2⟩ | ⟨g, cap, cur, h1, _⟩
            · injection h1 with _ _ h3
              exact ⟨List.eq_nil_of_length_eq_zero h2, h3⟩
            · injection h1 with h1; cases h1
          obtain ⟨htl, rfl⟩ := hz
          have hmid : FedMid w4 [wc.heap.size] wc.heap.size 500 s1 ts1 (.slice Au ts0.length cu) w5 := by
            have h := HGOT.out.none htl
            rwa [← HTSU.out] at h
          have HMID := Lib.hid hmid
          have htl0 : tl.length = 0 := by rw [htl]; rfl
          rw [htl0]
          clear hmid htl htl0
          go_wp2_with (at_builtin; refine wpList_append_own_none rfl (.tmp 86) (.tmp 92) _ rfl w4.heap.size 61 i1 16 Tryz.underlying41 hi1 (.slice Au ts0.length cu) ts0.length tcs rfl HR1.out rfl ?_)
          exact ⟨⟨k + 1, by omega, by go_num, by rw [HS1.out, HTS1.out]; exact HMID.out⟩, HME.out⟩
        | some ad =>
          have hnews : ∀ (j : Nat) (u : Value), tc[j]? = some u → w5.cell? (ad.add j) = some u := (RowAt.of_own HR2.out).cells
          have HNEWS := Lib.hid hnews
          clear hnews
          go_wp2_with (at_builtin; refine wpList_append_own_at w5 rfl (.tmp 86) (.tmp 92) _ rfl w4.heap.size 61 i1 _ 16 184 Tryz.underlying41 hi1 hy0 hy1 hy2 rfl (by decide) (.slice Au ts0.length cu) ts0.length tcs rfl HR1.out ad tl.length c' tc rfl HTCL.out HNEWS.out HONE.out ?_ ?_ hlw ?_; (unfold maxLen; omega); omega; intro v' w6 hown6 hg6 hnil6 hat6; have HOWN6 := Lib.hid hown6; have HG6 := Lib.hid hg6; have HAT6 := Lib.hid hat6; clear hown6 hg6 hnil6 hat6)
          refine ⟨⟨k + 1, by omega, by go_num, ?_⟩, HME.out⟩
          rw [HS1.out, HTS1.out]
          have h := HGOT.out.some (w3 := w6) (v' := v') (by omega) (fun tcs' tc' h1 h2 => by
            rw [own_cells_same h1 HR1.out, own_cells_same h2 HR2.out]; exact HOWN6.out) HG6.out HAT6.out
          rwa [← HTSU.out] at h
      · obtain rfl : k = ps.length := by omega
        rw [List.take_length] at hmid
        have hfb := fedBy_flat 500 HFLAT.out
        have htb := toldBy_flat 500 HFLAT.out
        obtain ⟨hto, hheld, hended⟩ := HTOLD.out
        have htaken := (fedBy_ok 500 _ ps rfl).2.2.2
        rw [HFLAT.out] at htaken
        rw [← hfb] at hheld hended
        have hlen : (toldBy 500 ps).length = cs.length := by rw [htb, hto, backSteps_length, List.length_map]
        have hshort := toldAll_short 500 raw
        rw [hto] at hshort
        obtain ⟨Au, cu, tcsu, blu, rfl, hou, hsu⟩ := hmid.own
        obtain ⟨ln1, dv1, kv1, mv1, hfd1⟩ := hmid.at
        have hbr : Below wc.heap.size wc wr := HB14.out.trans (hmid.only.below HB14.out.size (fun x hx => by simp at hx; omega))
        have hbt := HBW.out.trans (hbr.mono HBW.out.size)
        have hw9 : wr.ownsRow w.heap.size 61 16 (.slice pw cs.length cw) cs.length (wantCells 0 cs) := own_later HWANT.out hbr
        have hrB : RowAt wr pw (wantCells 0 cs) := RowAt.of_own hw9
        have hrA : RowAt wr Au tcsu := by rw [htb, hto] at hou; exact RowAt.of_own hou
        have hsA : StepsAt wr (backSteps 0 (cs.map (·.c))) tcsu := by rw [htb, hto] at hsu; exact hsu.at
        have hsB : StepsAt wr (backSteps 0 (cs.map (·.c))) (wantCells 0 cs) := want_at cs 0 (fun x hx => ⟨(HKEPT.out x hx).good.below hbt, (HKEPT.out x hx).v⟩)
        have hbl : (backSteps 0 (cs.map (·.c))).length = cs.length := by rw [backSteps_length, List.length_map]
        generalize backSteps 0 (cs.map (·.c)) = bs at hsA hsB hshort hbl
        have hss := sameSteps_same (ca := cu) (cb := cw) (by omega) (fun t ht => ⟨Nat.le_trans (hshort t ht).1 (by decide), Nat.le_trans (hshort t ht).2 (by decide)⟩) hrA hrB hsA hsB
        rw [hbl] at hss
        have hh1 := fun (W : World) (hb : Below wr.heap.size wr W) => (held_any (hfd1.later hb)).mono (R' := fun e w' => e = .returned (.int .i64 0) ∧ W = w') fun e w' ⟨h1, h2⟩ => ⟨by rw [h1, hheld]; rfl, h2.symm⟩
        have hh2 := fun (W : World) (hb : Below wr.heap.size wr W) => (ended_any (hfd1.later hb)).mono (R' := fun e w' => e = .returned (.bool false) ∧ W = w') fun e w' ⟨h1, h2⟩ => ⟨by rw [h1, hended], h2.symm⟩
        have hh3 := fun (W : World) (hb : Below wr.heap.size wr W) => (taken_any (hfd1.later hb)).mono (R' := fun e w' => e = .returned (.int .i64 raw.length) ∧ W = w') fun e w' ⟨h1, h2⟩ => ⟨by rw [h1, htaken], h2.symm⟩
        have hwk := fun (W : World) (hb : Below wr.heap.size wr W) => wakes_any (hmid.glob.later hb)
        have HSS := Lib.hid hss
        have HH1 := Lib.hid hh1
        have HH2 := Lib.hid hh2
        have HH3 := Lib.hid hh3
        have HWK := Lib.hid hwk
        have HBT := Lib.hid hbt
        rw [hlen]
        clear hss hw9 hrB hrA hsA hsB hbl hh1 hh2 hh3 hwk hbt hbr hou hsu hfd1 hmid hfb htb hto hheld hended htaken hshort hlen
        go_wp2_with (first | (go_at_call 15; refine HSS.out.mono ?_; rintro e w5 ⟨rfl, hb5⟩; have HB5 := Lib.hid hb5; clear hb5) | (go_at_call 22; refine (HH1.out _ HB5.out).mono ?_; rintro e w' ⟨rfl, rfl⟩) | (go_at_call 23; refine (HH2.out _ HB5.out).mono ?_; rintro e w' ⟨rfl, rfl⟩) | (go_at_call 24; refine (HH3.out _ HB5.out).mono ?_; rintro e w' ⟨rfl, rfl⟩) | (go_at_call 19; refine (HWK.out _ HB5.out).mono ?_; rintro e w6 ⟨rfl, hb6⟩; have HB6 := Lib.hid hb6; clear hb6))
        rw [← HR.out]
        exact ⟨rfl, HBT.out.trans ((HB5.out.trans (HB6.out.mono HB5.out.size)).mono HBT.out.size)⟩
end Go.Proofs.YtbiakncngmgbkaaGreatDoor
