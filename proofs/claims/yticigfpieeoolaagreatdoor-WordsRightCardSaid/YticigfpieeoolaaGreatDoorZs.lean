/- Walk of the statement WordsRight. -/
import Derived.Test.YticigfpieeoolaaGreatDoorZr
import Derived.StillTailTactics
import Derived.Deep.RegionHeld3
import Derived.Lib.SlBytesRow
import Derived.IntWalk
namespace Go.Proofs.YticigfpieeoolaaGreatDoor
attribute [local go_sem ↓] Go.wp_at_zero Go.wp_at_succ
open Go.RowKit

/-- the box of the parameter -/
def boxRow (A : Option Addr) (n capA : Nat) (limit : Int) : Array Value := #[.slice A n capA, .int .i64 limit]
theorem loadVar_texts3 (a : Addr) : type_of% (loadVar.eq_1 36 a) := loadVar.eq_1 36 a
theorem loadVar_u643 (a : Addr) : type_of% (loadVar.eq_1 37 a) := loadVar.eq_1 37 a
theorem loadVar_flags3 (a : Addr) : type_of% (loadVar.eq_1 39 a) := loadVar.eq_1 39 a
theorem loadVar_string3 (a : Addr) : type_of% (loadVar.eq_1 9 a) := loadVar.eq_1 9 a
theorem loadVar_bool3 (a : Addr) : type_of% (loadVar.eq_1 4 a) := loadVar.eq_1 4 a
attribute [-go_sem] loadVar storeVar
attribute [local go_sem] loadVar_int2 loadVar_bytes2 loadVar_texts3 loadVar_u643 loadVar_flags3 loadVar_string3 loadVar_bool3 run_store_cmd canPut_new

set_option maxHeartbeats 8000000 in
set_option maxRecDepth 100000 in
theorem wordsRight_any {w : World} (hg : Glob w) (ht : TabAt w) {A : Option Addr} {capA : Nat} {raw : Sp.Bs} {limit : Int} (hl2 : limit ≤ 9223372036854775807)
    (hcA : raw.length ≤ capA) (_hcA2 : capA ≤ 9223372036854775807) (hrow : RowAt w A (bytesV raw)) (hA : A = none → capA = 0) :
    Calls Tryz.prog 10 #[.agg #[.slice A raw.length capA, .int .i64 limit]] w fun e w' => e = .returned (.bool true) ∧ Below w.heap.size w w' := by
  generalize hR : (fun (e : Ending) (w' : World) => e = .returned (.bool true) ∧ Below w.heap.size w w') = R
  obtain ⟨rb, hrb⟩ : ∃ rb, rb = raw.take 65536 := ⟨_, rfl⟩
  have hlen : min raw.length 65536 = rb.length := by rw [hrb, List.length_take]; omega
  have hlen1 : rb.length ≤ 65536 := by omega
  have hlen2 : rb.length ≤ capA := by omega
  have hrow1 : RowAt w A (bytesV rb) := by rw [hrb]; have := hrow.take 65536; simpa [bytesV] using this
  have hcl := clip_any (w := w.alloc (.cells (boxRow A raw.length capA limit) 56)) A raw.length capA hcA
  rw [hlen] at hcl
  have hb0 : Below w.heap.size w (w.alloc (.cells (boxRow A raw.length capA limit) 56)) := (Below.refl _ _).alloc (Nat.le_refl _) _
  have hal := all_any (hg.later hb0) (hrow1.below hb0) hlen2 hA (by omega) hl2
  change Calls _ _ _ _ (AllPost _ (allOf limit.toNat rb)) at hal
  obtain ⟨ts, lf, hx⟩ : ∃ ts lf, allOf limit.toNat rb = (ts, lf) := ⟨_, _, rfl⟩
  have hts : ts = (allOf limit.toNat rb).1 := by rw [hx]
  rw [hx] at hal
  have HR := Lib.hid hR
  have HG := Lib.hid hg
  have HT := Lib.hid ht
  have HROW := Lib.hid hrow1
  have HA := Lib.hid hA
  have HCL := Lib.hid hcl
  have HAL := Lib.hid hal
  have HB0 := Lib.hid hb0
  clear hR hg ht hrow hrow1 hA hl2 hcl hal hb0 hrb hlen hx
  go_enter Tryz.func10, Tryz.ntmps10
  go_wp2_with fail
  refine HCL.out.mono ?_
  rintro e w1 ⟨rfl, rfl⟩
  have y1 : _ = some (Value.int .i64 limit) := (Blk.new w 56 (boxRow A raw.length capA limit)).cell 1
  go_wp2_with fail
  refine HAL.out.mono ?_
  rintro e w2 ⟨A2, c2, cs, bl, rfl, ho2, hs2, -, -, hb2⟩
  clear y1
  have hbw2 : Below w.heap.size w w2 := HB0.out.trans (hb2.mono HB0.out.size)
  have hr2 := RowAt.of_own ho2
  have hs2 := hs2.in
  have hc2 := (own_room3 ho2).1
  dsimp only at hs2 hr2 hc2 ⊢
  have hcnt := allOf_count limit.toNat rb
  have hshort := allOf_short limit.toNat rb
  rw [← hts] at hcnt hshort
  have HTS := Lib.hid hts
  have HBW2 := Lib.hid hbw2
  have HR2 := Lib.hid hr2
  have HS2 := Lib.hid hs2
  have HSH := Lib.hid hshort
  clear hts hbw2 hr2 hs2 hshort ho2 hb2 HCL HAL HB0
  go_wp2_with fail
  go_loopw [6] (fun i wx => ∃ k : Nat, k ≤ ts.length ∧ i = .int .i64 k ∧ Below w2.heap.size w2 wx) (fun i _ => ts.length - (intOf i).toNat)
  case atStart => exact ⟨0, Nat.zero_le _, rfl, Below.refl _ _⟩
  case round =>
    obtain ⟨k, hk, rfl, hb⟩ := hrel
    obtain ⟨wo, rfl⟩ : ∃ wo, wo = wr := ⟨wr, rfl⟩
    by_cases hlt : k < ts.length
    · obtain ⟨t, ht⟩ : ∃ t, ts[k]? = some t := ⟨ts[k]'hlt, List.getElem?_eq_getElem _⟩
      obtain ⟨K, kc, D, dc, M, mc, hlies, hcells⟩ := HS2.out k t ht
      obtain ⟨g, o, hAe, hcell2⟩ : ∃ g o, A2 = some ⟨g, o, none⟩ ∧ w2.rangeAt g (o + k * 16) (stepCells t (.slice K t.cmd.keys.length kc) (.slice D t.cmd.data.length dc) (.slice M t.cmd.metas.length mc)) := by
        rcases HR2.out with h0 | ⟨g, o, h1, _, h3⟩
        · have := hcells 0 _ rfl
          rw [h0] at this; cases this
        · exact ⟨g, o, h1, fun i u hu => by rw [Nat.add_assoc]; exact h3 _ _ (hcells i u hu)⟩
      subst hAe
      have hst := range_below hcell2 hb
      have hshk : t.cmd.keys.length ≤ 2048 ∧ t.cmd.metas.length ≤ 2048 := HSH.out t (List.mem_of_getElem? ht)
      have htk : (allOf limit.toNat rb).1[k]? = some t := by rw [← HTS.out]; exact ht
      have hl3 := hlies.below (hb)
      obtain ⟨c, hc⟩ : ∃ c, c = t.cmd := ⟨_, rfl⟩
      have hwr0 := fun (h : c.verb = 0) => told_wrong htk (by rw [← hc]; exact h)
      have hri0 : c.verb ≠ 0 → RightV rb c t.wrong t.frm t.to := fun h => by rw [hc] at h ⊢; exact told_right htk h
      have r1 : wo.rangeAt g (o + k * 16) (cmdList c (.slice K c.keys.length kc) (.slice D c.data.length dc) (.slice M c.metas.length mc)) := fun i u hu => hst i u (by
        rw [hc] at hu
        have hi : i < 11 := (List.getElem?_eq_some_iff.1 hu).1
        unfold stepCells
        rw [List.getElem?_append_left (by simp [cmdCells, wrongCells]; omega), List.getElem?_append_left (by simpa [cmdCells] using hi)]
        exact hu)
      have rw1 : wo.rangeAt g (o + k * 16 + 11) (wrongList t.wrong) := fun i u hu => by
        have hi : i < 3 := (List.getElem?_eq_some_iff.1 hu).1
        obtain rfl | rfl | rfl : i = 0 ∨ i = 1 ∨ i = 2 := by omega
        · exact hst 11 u hu
        · exact hst 12 u hu
        · exact hst 13 u hu
      have x15 : wo.cell? ⟨g, o + k * 16 + 15, none⟩ = some (.int .i64 t.to) := hst 15 _ rfl
      rw [← hc] at hl3 hshk
      obtain ⟨ccs, hccs⟩ : ∃ ccs, ccs = cmdList c (.slice K c.keys.length kc) (.slice D c.data.length dc) (.slice M c.metas.length mc) := ⟨_, rfl⟩
      have hsz : (Tryz.prog.info? 41).map (·.size) = some ccs.length := by rw [hccs]; kernel_rfl
      have hld : ∀ W : World, W.rangeAt g (o + k * 16) ccs → (loadVar 41 ⟨g, o + k * 16, none⟩).run Tryz.prog W = .ok (.agg #[.int .i64 c.verb, .slice K c.keys.length kc, .int .u64 c.flags, .int .i64 c.exptime, .int .u64 c.token, .int .u64 c.delta, .slice D c.data.length dc, .bool c.noreply, .bool c.large, .slice M c.metas.length mc, str c.what]) W := fun W h =>
        (run_loadVar_mid (P := Tryz.prog) W g (o + k * 16) 41 ccs _ h Tryz.underlying41 rfl hsz).trans (by rw [hccs]; rfl)
      have r1c : wo.rangeAt g (o + k * 16) ccs := by rw [hccs]; exact r1
      have hk1 : (k : Int) < (ts.length : Int) := by omega
      have HCC := Lib.hid hccs
      have HRW := Lib.hid rw1
      have HX15 := Lib.hid x15
      have HL3 := Lib.hid hl3
      have HC := Lib.hid hc
      have HWR0 := Lib.hid hwr0
      have HRI0 := Lib.hid hri0
      have HSZ := Lib.hid hsz
      have HB := Lib.hid hb
      have HSHK := Lib.hid hshk
      clear hst hcell2 hcells hlies ht htk hc r1 rw1 x15 hl3 hccs hwr0 hri0 hsz hb hshk
      go_upto_region 7 with fail
      refine wp_world (X := fun wx => Blk wx wo.heap.size 41 (cmdArr c (.slice K c.keys.length kc) (.slice D c.data.length dc) (.slice M c.metas.length mc)) ∧ Below wo.heap.size wo wx) ⟨Blk.putCmd (Blk.new wo 41 (cmdArr {} nilRow nilRow nilRow)) _ _ _ _, Below.setCells (Nat.le_refl _) _ 0 ((Below.refl _ _).alloc (Nat.le_refl _) _)⟩ ?_
      intro wx hx
      obtain ⟨hbx, hbw⟩ := hx
      obtain ⟨s0, hs0⟩ : ∃ s0, s0 = wo.heap.size := ⟨_, rfl⟩
      rw [← hs0] at hbx ⊢
      have hup : ∀ W, Below wx.heap.size wx W → Below w2.heap.size w2 W := fun W h => HB.out.trans ((hbw.trans (h.mono hbw.size)).mono HB.out.size)
      have hq0 : ∀ W, Below wx.heap.size wx W → W.cell? ⟨s0, 0, none⟩ = some (.int .i64 c.verb) := fun W h => (hbx.later h).cell 0
      have hq1 : ∀ W, Below wx.heap.size wx W → W.cell? ⟨s0, 1, none⟩ = some (.slice K c.keys.length kc) := fun W h => (hbx.later h).cell 1
      have hq2 : ∀ W, Below wx.heap.size wx W → W.cell? ⟨s0, 2, none⟩ = some (.int .u64 c.flags) := fun W h => (hbx.later h).cell 2
      have hq6 : ∀ W, Below wx.heap.size wx W → W.cell? ⟨s0, 6, none⟩ = some (.slice D c.data.length dc) := fun W h => (hbx.later h).cell 6
      have hq8 : ∀ W, Below wx.heap.size wx W → W.cell? ⟨s0, 8, none⟩ = some (.bool c.large) := fun W h => (hbx.later h).cell 8
      have hq9 : ∀ W, Below wx.heap.size wx W → W.cell? ⟨s0, 9, none⟩ = some (.slice M c.metas.length mc) := fun W h => (hbx.later h).cell 9
      have hq10 : ∀ W, Below wx.heap.size wx W → W.cell? ⟨s0, 10, none⟩ = some (str c.what) := fun W h => (hbx.later h).cell 10
      have hrc : ∀ W, Below wx.heap.size wx W → W.rangeAt s0 0 ccs := fun W h i u hu => by
        rw [HCC.out] at hu
        rw [Nat.zero_add]
        have := (hbx.later h).cell i
        rw [this]
        simpa [cmdArr, cmdList] using hu
      have hldC : ∀ W, Below wx.heap.size wx W → (loadVar 41 ⟨s0, 0, none⟩).run Tryz.prog W = .ok (.agg #[.int .i64 c.verb, .slice K c.keys.length kc, .int .u64 c.flags, .int .i64 c.exptime, .int .u64 c.token, .int .u64 c.delta, .slice D c.data.length dc, .bool c.noreply, .bool c.large, .slice M c.metas.length mc, str c.what]) W := fun W h =>
        (run_loadVar_mid (P := Tryz.prog) W s0 0 41 ccs _ (hrc W h) Tryz.underlying41 rfl HSZ.out).trans (by rw [HCC.out]; rfl)
      have hlx := HL3.out.below hbw
      have hrwx : ∀ W, Below wx.heap.size wx W → W.rangeAt g (o + k * 16 + 11) (wrongList t.wrong) := fun W h => range_below HRW.out (hbw.trans (h.mono hbw.size))
      have hszw : (Tryz.prog.info? 43).map (·.size) = some (wrongList t.wrong).length := by kernel_rfl
      have hldW : ∀ W, Below wx.heap.size wx W → (loadVar 43 ⟨g, o + k * 16 + 11, none⟩).run Tryz.prog W = .ok (wrongV t.wrong) W := fun W h =>
        (run_loadVar_mid (P := Tryz.prog) W g (o + k * 16 + 11) 43 (wrongList t.wrong) _ (hrwx W h) Tryz.underlying43 rfl hszw)
      have hbxx : Below wx.heap.size wx wx := Below.refl _ _
      have HLX := Lib.hid hlx
      have HBX := Lib.hid hbx
      have HUP := Lib.hid hup
      have HRC := Lib.hid hrc
      have HBW := Lib.hid hbw
      have HS0 := Lib.hid hs0
      clear hld r1c hlx hbx hup hrc hrwx hszw hs0 hbw
      by_cases hv : c.verb = 0
      · as_aux_lemma =>
        obtain ⟨e0, htx⟩ := HWR0.out hv
        have hvq : ((c.verb : Int) == 0) = true := by rw [hv]; rfl
        have hsm : ∀ W, Below wx.heap.size wx W → Calls Tryz.prog 14 #[cmdV c (.slice K c.keys.length kc) (.slice D c.data.length dc) (.slice M c.metas.length mc), cmdV {} nilRow nilRow nilRow] W fun e w' => e = .returned (.bool true) ∧ Below wx.heap.size wx w' := fun W hW => by
          have h1 := (HLX.out.below hW).mem.at
          have h0 : c = {} := by rw [HC.out]; exact e0
          have := same_same (w := W) (c := c) (k2 := nilRow) (d2 := nilRow) (m2 := nilRow) h1 (by rw [h0]; exact ⟨⟨none, 0, rfl, .inl rfl⟩, ⟨none, 0, rfl, .inl rfl⟩, ⟨none, 0, rfl, .inl rfl⟩⟩) (by rw [h0]; decide) (by rw [h0]; decide)
          have e1 : cmdV c nilRow nilRow nilRow = cmdV {} nilRow nilRow nilRow := by rw [h0]
          rw [e1] at this
          exact this.mono fun e w' ⟨he, hb⟩ => ⟨he, hW.trans (hb.mono hW.size)⟩
        have htxs : ∀ W, Below wx.heap.size wx W → Calls Tryz.prog 39 #[wrongV t.wrong] W fun e w' => e = .returned (.bool true) ∧ Below wx.heap.size wx w' := fun W hW =>
          (texts_any t.wrong W htx).mono fun e w' ⟨he, hb⟩ => ⟨he, hW.trans (hb.mono hW.size)⟩
        have HSM := Lib.hid hsm
        have HTXS := Lib.hid htxs
        clear hsm htxs htx e0 hv
        go_wp2_with (first | (go_at_call 14; refine (HSM.out _ (by assumption)).mono ?_; rintro e w4 ⟨rfl, hb4⟩) | (go_at_call 39; refine (HTXS.out _ (by assumption)).mono ?_; rintro e w5 ⟨rfl, hb5⟩))
        exact ⟨⟨k + 1, by omega, by go_num, HUP.out _ hb5⟩, by show ts.length - ((k : Int) + 1).toNat < ts.length - (k : Int).toNat; omega⟩
      · as_aux_lemma =>
        have hri := HRI0.out hv
        have v1 := hri.v1
        have v2 := hri.v2
        have hvq : ((c.verb : Int) == 0) = false := by rw [beq_eq_false_iff_ne]; omega
        have hldW0 : ∀ W, Below wx.heap.size wx W → (loadVar 43 ⟨g, o + k * 16 + 11, none⟩).run Tryz.prog W = .ok (.agg #[.int .i64 0, str [], .int .i64 0]) W := fun W h => by
          have := hldW W h
          rw [hri.wrong] at this
          exact this
        have hfq : decide ((4294967295 : Int) < (c.flags : Int)) = false := decide_eq_false (by have := hri.flags; omega)
        have hco : ∀ W, Calls Tryz.prog 40 #[.int .i64 c.verb, .int .i64 c.keys.length] W fun e w' => e = .returned (.bool true) ∧ W = w' := fun W => counted_any c.verb c.keys.length W v1 v2 hri.count
        have hlm := HLX.out
        have hfl : ∀ W, Below wx.heap.size wx W → Calls Tryz.prog 35 #[.int .i64 c.verb, .slice M c.metas.length mc] W fun e w' => e = .returned (str []) ∧ Below wx.heap.size wx w' := fun W hW => by
          have := Flags_any c.verb c.metas M mc W (HG.out.later (HBW2.out.trans ((HUP.out W hW).mono HBW2.out.size))) (hlm.mem.metas.below hW) hlm.rm (by have := HSHK.out.2; omega) (fun f hf => by have := hri.args f hf; omega)
          rw [hri.metas] at this
          exact this.mono fun e w' ⟨he, hb⟩ => ⟨he, hW.trans (hb.mono hW.size)⟩
        have hwc : ((c.what == []) = true ∧ (c.what == [115, 108, 97, 98, 115]) = false ∧ (c.what == [114, 101, 115, 101, 116]) = false ∧ ((c.verb : Int) == 19) = decide (c.verb = 19)) ∨
            ((c.what == []) = false ∧ (c.what == [115, 108, 97, 98, 115]) = true ∧ (c.what == [114, 101, 115, 101, 116]) = false ∧ ((c.verb : Int) == 19) = true) ∨
            ((c.what == []) = false ∧ (c.what == [115, 108, 97, 98, 115]) = false ∧ (c.what == [114, 101, 115, 101, 116]) = true ∧ ((c.verb : Int) == 19) = true) := by
          rcases Decidable.em (c.what = []) with h0 | h0
          · refine .inl ⟨by rw [h0]; rfl, by rw [h0]; rfl, by rw [h0]; rfl, ?_⟩
            rw [Bool.eq_iff_iff, beq_iff_eq, decide_eq_true_eq]; omega
          · obtain ⟨h1, h2⟩ := hri.what h0
            have h3 : ((c.verb : Int) == 19) = true := by rw [h1]; rfl
            rcases h2 with h2 | h2
            · exact .inr (.inl ⟨by rw [h2]; decide, by rw [h2]; decide, by rw [h2]; decide, h3⟩)
            · exact .inr (.inr ⟨by rw [h2]; decide, by rw [h2]; decide, by rw [h2]; decide, h3⟩)
        have HCO := Lib.hid hco
        have HFL := Lib.hid hfl
        have HRI := Lib.hid hri
        have HV := Lib.hid hv
        clear hldW hco hfl hri hv v1 v2 hlm
        go_upto_region 10 with fail
        go_cut [98] (fun b wy => b = .bool false ∧ Below wx.heap.size wx wy)
        case first =>
          have hne : ∀ l : Sp.Bs, (c.what != l) = !(c.what == l) := fun l => rfl
          have hvn : ((c.verb : Int) != 19) = !((c.verb : Int) == 19) := rfl
          have n1 := hne []
          have n2 := hne [115, 108, 97, 98, 115]
          have n3 := hne [114, 101, 115, 101, 116]
          clear hne
          rcases hwc with ⟨w1, w2, w3, w4⟩ | ⟨w1, w2, w3, w4⟩ | ⟨w1, w2, w3, w4⟩ <;> rw [w1] at n1 <;> rw [w2] at n2 <;> rw [w3] at n3 <;> rw [w4] at hvn <;> simp only [Bool.not_true, Bool.not_false] at n1 n2 n3 hvn
          · go_wp2_with (first | (go_at_call 40; refine (HCO.out _).mono ?_; rintro e w7 ⟨rfl, rfl⟩) | (go_at_call 35; refine (HFL.out _ (by assumption)).mono ?_; rintro e w5 ⟨rfl, hb5⟩))
            go_meet
            exact ⟨rfl, hb5⟩
          · go_wp2_with (first | (go_at_call 40; refine (HCO.out _).mono ?_; rintro e w7 ⟨rfl, rfl⟩) | (go_at_call 35; refine (HFL.out _ (by assumption)).mono ?_; rintro e w5 ⟨rfl, hb5⟩))
            go_meet
            exact ⟨rfl, hb5⟩
          · go_wp2_with (first | (go_at_call 40; refine (HCO.out _).mono ?_; rintro e w7 ⟨rfl, rfl⟩) | (go_at_call 35; refine (HFL.out _ (by assumption)).mono ?_; rintro e w5 ⟨rfl, hb5⟩))
            go_meet
            exact ⟨rfl, hb5⟩
        case rest =>
          obtain ⟨rfl, hbc⟩ := hcut
          clear hldW0 hfq hwc HCO HFL hvq hq2 hq9 hq10 hbxx
          have hkl := HSHK.out.1
          go_wp2_with fail
          go_loopw [8] (fun mv wy => ∃ m : Nat, m ≤ c.keys.length ∧ mv = .int .i64 m ∧ Below wx.heap.size wx wy) (fun v _ => c.keys.length - (intOf v).toNat)
          case atStart => exact ⟨0, Nat.zero_le _, rfl, hbc⟩
          case round =>
            obtain ⟨m, hm, rfl, hby⟩ := hrel
            clear hbc
            by_cases hlm : m < c.keys.length
            · as_aux_lemma =>
              obtain ⟨y, hy⟩ : ∃ y, c.keys[m]? = some y := ⟨c.keys[m]'hlm, List.getElem?_eq_getElem _⟩
              have hyc : (c.keys.map str)[m]? = some (str y) := by rw [List.getElem?_map, hy]; rfl
              obtain ⟨gk, ok, hKe, hkc⟩ : ∃ gk ok, K = some ⟨gk, ok, none⟩ ∧ ∀ W, Below wx.heap.size wx W → W.cell? ⟨gk, ok + m, none⟩ = some (str y) := by
                rcases HLX.out.mem.keys with h0 | ⟨gk, ok, h1, h2, h3⟩
                · rw [h0] at hyc; cases hyc
                · exact ⟨gk, ok, h1, fun W h => by rw [h.cell (p := ⟨gk, ok + m, none⟩) h2]; exact h3 _ _ hyc⟩
              subst hKe
              have hky : keyV y = true := HRI.out.keys y (List.mem_of_getElem? hy)
              have hyl : y.length ≤ 250 := by
                have h := hky
                unfold keyV Sp.legal at h
                simp only [Bool.and_eq_true, decide_eq_true_eq] at h
                exact h.1.1
              have hkd : ∀ W, Calls Tryz.prog 41 #[str y] W fun e w' => e = .returned (.bool true) ∧ W = w' := fun W => by
                have := keyed_any y W (by omega)
                rw [hky] at this
                exact this
              have hm1 : (m : Int) < (c.keys.length : Int) := by omega
              have HKD := Lib.hid hkd
              clear hy hyc hky hkd hyl
              go_wp2_with (go_at_call 41; refine (HKD.out _).mono ?_; rintro e w7 ⟨rfl, rfl⟩)
              exact ⟨⟨m + 1, by omega, by go_num, hby⟩, by show c.keys.length - ((m : Int) + 1).toNat < c.keys.length - (m : Int).toNat; omega⟩
            · have hm1 : decide ((m : Int) < (c.keys.length : Int)) = false := decide_eq_false (by omega)
              have hm2 : decide (m < c.keys.length) = false := decide_eq_false hlm
              clear hlm
              go_upto_region 17 with fail
              clear hm1 hm2 hm
              cases hlg : c.large with
              | true =>
                as_aux_lemma =>
                obtain ⟨hd0, hvb⟩ := HRI.out.large hlg
                have hdq : ((c.data.length : Int) == 0) = true := by rw [hd0]; rfl
                have hdn : ((c.data.length : Int) != 0) = false := by rw [hd0]; rfl
                rw [hlg] at hq8
                clear hd0
                rcases hvb with hvb | ⟨hv5, hv10⟩
                · have e1 : ((c.verb : Int) == 21) = true := by rw [hvb]; rfl
                  have e2 : ((c.verb : Int) != 21) = false := by rw [hvb]; rfl
                  clear hvb
                  go_wp2_with fail
                  exact ⟨⟨k + 1, by omega, by go_num, HUP.out _ (hby)⟩, by show ts.length - ((k : Int) + 1).toNat < ts.length - (k : Int).toNat; omega⟩
                · have e1 : ((c.verb : Int) == 21) = false := by rw [beq_eq_false_iff_ne]; omega
                  have e2 : ((c.verb : Int) != 21) = true := by simp; omega
                  have e3 : decide ((c.verb : Int) < 5) = false := decide_eq_false (by omega)
                  have e4 : decide ((10 : Int) < (c.verb : Int)) = false := decide_eq_false (by omega)
                  go_wp2_with fail
                  exact ⟨⟨k + 1, by omega, by go_num, HUP.out _ (hby)⟩, by show ts.length - ((k : Int) + 1).toNat < ts.length - (k : Int).toNat; omega⟩
              | false =>
                have hag := HRI.out.again hlg
                obtain ⟨hs1, hs2', hs3⟩ := HRI.out.small hlg hlen1
                obtain ⟨L, hL⟩ : ∃ L, L = (Sp.outV c).length := ⟨_, rfl⟩
                have hL8 : L ≤ 100000000 := by rw [hL]; exact hs1
                have hfit : CmdFit c := by
                  have a1 := HRI.out.flags
                  have a2 := HRI.out.range
                  have a3 := HSHK.out
                  exact ⟨HRI.out.v2, by omega, by have := a2.token; omega, by have := a2.delta; omega, a2.time, by omega, by omega, by omega, fun f hf => by have := HRI.out.args f hf; omega⟩
                have hbyt : ∀ W, Below wx.heap.size wx W → Calls Tryz.prog 31 #[.agg #[.int .i64 c.verb, .slice K c.keys.length kc, .int .u64 c.flags, .int .i64 c.exptime, .int .u64 c.token, .int .u64 c.delta, .slice D c.data.length dc, .bool c.noreply, .bool c.large, .slice M c.metas.length mc, str c.what]] W fun e w' => ∃ A1 cp, e = .returned (.tuple #[.slice (some A1) L cp, .int .i64 0]) ∧ RowAt w' (some A1) (bytesV (Sp.outV c)) ∧ L ≤ cp ∧ Below wx.heap.size wx w' := fun W hW => by
                  have hwW : Below w.heap.size w W := HBW2.out.trans ((HUP.out W hW).mono HBW2.out.size)
                  refine (bytes_some (HG.out.later hwW) (HT.out.later HG.out hwW) (HLX.out.below hW).mem hfit HRI.out.v1 hlg hs1 hs2').mono fun e w' h => ?_
                  unfold BytesEnd Sp.bytesV' at h
                  rw [if_pos ⟨HRI.out.v1, HRI.out.v2, hlg, hag⟩] at h
                  obtain ⟨A1, cp, h1, h2, h3, h4⟩ := BytesOwn.post h
                  exact ⟨A1, cp, by rw [hL]; exact h1, h2, by rw [hL]; exact h3, hW.trans (h4.mono hW.size)⟩
                have htl : allOf c.data.length (Sp.outV c) = ([({ cmd := c } : Sp.StepV).span 0 L], 0) := by
                  have := back_all (lim := c.data.length) [c] (fun d hd => by rw [List.mem_singleton.1 hd]; exact ⟨hag, HRI.out.v1, hlg, Nat.le_refl _⟩) (fun i d hd _ => by
                    have := (List.getElem?_eq_some_iff.1 hd).1
                    simp at this ⊢; omega)
                  simp only [List.flatMap_cons, List.flatMap_nil, List.append_nil, backSteps, Nat.zero_add, ← hL] at this
                  exact this
                have hal : ∀ (W : World) (A1 : Addr) (cp : Nat), Below wx.heap.size wx W → RowAt W (some A1) (bytesV (Sp.outV c)) → L ≤ cp → Calls Tryz.prog 25 #[.slice (some A1) L cp, .int .i64 c.data.length] W (AllPost W ([({ cmd := c } : Sp.StepV).span 0 L], 0)) := fun W A1 cp hW hr hcp => by
                  have hwW : Below w.heap.size w W := HBW2.out.trans ((HUP.out W hW).mono HBW2.out.size)
                  have := all_any (HG.out.later hwW) (limit := (c.data.length : Int)) hr (by rw [← hL]; exact hcp) (fun h => by cases h) (by rw [← hL]; omega) (by omega)
                  rw [Int.toNat_natCast, ← hL] at this
                  change Calls _ _ _ _ (AllPost _ (Sp.allV _ (L + 1) 0 _)) at this
                  rw [show Sp.allV c.data.length (L + 1) 0 (Sp.outV c) = ([({ cmd := c } : Sp.StepV).span 0 L], 0) from by rw [← htl, hL]; rfl] at this
                  exact this
                have hnu := fun (n : Int) (W : World) => num_any n W
                have HBYT := Lib.hid hbyt
                have HALL := Lib.hid hal
                have HNU := Lib.hid hnu
                have HLG := Lib.hid hlg
                rw [hlg] at hq8
                clear hbyt hal hnu hag hs1 hs2' hfit htl hL hlg
                go_upto_region 22 with (first | (go_at_call 31; refine (HBYT.out _ (by assumption)).mono ?_; rintro e w6 ⟨A1, cp, rfl, hr6, hcp, hb6⟩; have HR6 := Lib.hid hr6; clear hr6) | (go_at_call 25; refine (HALL.out _ A1 cp (by assumption) HR6.out hcp).mono ?_; intro e w7 hp; obtain ⟨g7, c7, k7, d7, m7, rfl, hc7, hf7, hg7, hb7'⟩ := hp.one; have hb7 := hb6.trans (hb7'.mono hb6.size); have HC7 := Lib.hid hc7; have HF7 := Lib.hid hf7; clear hc7 hf7 hp hb7'))
                obtain ⟨cc7, hcc7⟩ : ∃ cc7, cc7 = cmdList c k7 d7 m7 := ⟨_, rfl⟩
                have r1 : w7.rangeAt g7 0 cc7 := fun i u hu => by
                  rw [hcc7] at hu
                  have hi : i < 11 := (List.getElem?_eq_some_iff.1 hu).1
                  rw [Nat.zero_add]
                  refine HF7.out i u ?_
                  unfold stepCells
                  rw [List.getElem?_append_left (by simp [cmdCells, wrongCells]; omega), List.getElem?_append_left (by simpa [cmdCells] using hi)]
                  exact hu
                have hsz7 : (Tryz.prog.info? 41).map (·.size) = some cc7.length := by rw [hcc7]; kernel_rfl
                have hld7 : ∀ W : World, W.rangeAt g7 0 cc7 → (loadVar 41 ⟨g7, 0, none⟩).run Tryz.prog W = .ok (.agg cc7.toArray) W := fun W h => run_loadVar_mid (P := Tryz.prog) W g7 0 41 cc7 _ h Tryz.underlying41 rfl hsz7
                have hsm7 : ∀ W, Below w7.heap.size w7 W → Calls Tryz.prog 14 #[.agg cc7.toArray, .agg #[.int .i64 c.verb, .slice K c.keys.length kc, .int .u64 c.flags, .int .i64 c.exptime, .int .u64 c.token, .int .u64 c.delta, .slice D c.data.length dc, .bool c.noreply, .bool c.large, .slice M c.metas.length mc, str c.what]] W fun e w' => e = .returned (.bool true) ∧ Below W.heap.size W w' := fun W hW => by
                  rw [hcc7]
                  exact same_same (w := W) (c := c) (HC7.out.below hW) (HLX.out.below (hb7.trans (hW.mono hb7.size))).mem.at (by have := HSHK.out.1; omega) (by have := HSHK.out.2; omega)
                have HSM7 := Lib.hid hsm7
                clear hsm7 hcc7 hsz7
                go_region_held3 (fun w' => w'.rangeAt g7 0 cc7 ∧ Below wx.heap.size wx w') (first | exact ⟨r1, hb7.drew⟩ | exact ⟨r9, hb9⟩ | go_keep) (first | (go_at_call 32; refine (HNU.out _ _).mono ?_; rintro ee w8 ⟨rfl, rfl⟩) | (go_at_call 14; refine (HSM7.out _ ((Below.refl _ _).drew)).mono ?_; rintro ee w9 ⟨rfl, hb8⟩; have hb9' := ((Below.refl w7.heap.size w7).drew).trans hb8; have r9 := range_below r1 hb9'; have hb9 := hb7.trans (hb9'.mono hb7.size); clear hb8 hb9'))
                go_upto_region 24 with fail
                clear hld7 r1 hldC hby hb6 hb7
                by_cases hdn : c.data = []
                · as_aux_lemma =>
                  have hdz : decide ((0 : Int) < (c.data.length : Int)) = false := by rw [hdn]; rfl
                  have hdz2 : decide (0 < c.data.length) = false := by rw [hdn]; rfl
                  clear hdn
                  go_quiet (fail)
                  go_wp2_with fail
                  all_goals exact ⟨⟨k + 1, by omega, by go_num, HUP.out _ (below_drewN' hb9 _)⟩, by show ts.length - ((k : Int) + 1).toNat < ts.length - (k : Int).toNat; omega⟩
                · as_aux_lemma =>
                  obtain ⟨hd1, hd2, hd3⟩ := HRI.out.data hdn
                  have hdp : 0 < c.data.length := by
                    rcases Nat.eq_zero_or_pos c.data.length with h0 | h0
                    · exact absurd (List.length_eq_zero_iff.1 h0) hdn
                    · exact h0
                  obtain ⟨b, o1, hAb, hblt⟩ : ∃ b o1, A = some ⟨b, o1, none⟩ ∧ b < w.heap.size := by
                    rcases HROW.out with h0 | ⟨b, o1, h1, h2, _⟩
                    · have : rb = [] := by simpa [bytesV] using h0
                      rw [this] at hd2; simp at hd2; omega
                    · exact ⟨b, o1, h1, h2⟩
                  subst hAb
                  obtain ⟨n, hn⟩ : ∃ n, n = c.data.length := ⟨_, rfl⟩
                  obtain ⟨T, hT⟩ : ∃ T, T = t.to := ⟨_, rfl⟩
                  obtain ⟨e, he⟩ : ∃ e, e = T - 2 := ⟨_, rfl⟩
                  obtain ⟨a, ha⟩ : ∃ a, a = e - n := ⟨_, rfl⟩
                  rw [← hT] at hd1 hd2 hd3
                  have hstr : (rb.drop a).take n = c.data := by rw [ha, he, hn]; exact hd3.symm
                  have heq : ∀ W, Below wx.heap.size wx W → Calls Tryz.prog 33 #[.slice D n dc, .slice (some ⟨b, o1 + a, none⟩) (e - a) (capA - a)] W fun e w' => e = .returned (.bool true) ∧ Below wx.heap.size wx w' := fun W hW => by
                    have hwW : Below w.heap.size w W := HBW2.out.trans ((HUP.out W hW).mono HBW2.out.size)
                    have hr : RowAt W (some ⟨b, o1 + a, none⟩) (bytesV c.data) := by
                      rw [← hstr, bytesV_stretch]
                      exact (HROW.out.below hwW).stretch a n
                    exact (eq_any (ca := dc) (cb := capA - a) hn (by rw [← hn]; omega) (HLX.out.below hW).mem.data hr).mono fun e w' ⟨h1, h2⟩ => ⟨h1, hW.trans (h2.mono hW.size)⟩
                  have hx15 : ∀ W, Below wx.heap.size wx W → W.cell? ⟨g, o + k * 16 + 15, none⟩ = some (.int .i64 T) := fun W hW => by
                    rw [hT]
                    exact cell_below2 HX15.out (HBW.out.trans (hW.mono HBW.out.size))
                  have hq6' : ∀ W, Below wx.heap.size wx W → W.cell? ⟨s0, 6, none⟩ = some (.slice D n dc) := fun W hW => by rw [hn]; exact hq6 W hW
                  obtain ⟨i8, hi8, _, hz8, _⟩ := info_parts info_u8
                  have hsl := fun W : World => Lib.run_slice_window (P := Tryz.prog) W 38 5 Tryz.underlying38 (fun w => by simp [Go.sizeOf, typeInfo, hi8, hz8]) b o1 rb.length capA a e (by omega) (by omega)
                  have g1 : IntKind.i64.wrap ((T : Int) - 2) = (e : Int) := by rw [IntWalk.i64_in _ (by omega)]; omega
                  have g2 : IntKind.i64.wrap ((e : Int) - (n : Int)) = (a : Int) := by rw [IntWalk.i64_in _ (by omega)]; omega
                  have hdz : decide ((0 : Int) < (n : Int)) = true := decide_eq_true (by omega)
                  have hdz2 : decide (0 < n) = true := decide_eq_true (by omega)
                  have p1 : (a : Int) ≤ (e : Int) := by omega
                  have p2 : (e : Int) ≤ (rb.length : Int) := by omega
                  have p3 : (e : Int) ≤ (capA : Int) := by omega
                  have p4 : (0 : Int) ≤ (a : Int) := by omega
                  have p5 : (0 : Int) ≤ (e : Int) := by omega
                  have HEQ := Lib.hid heq
                  have HG12 := Lib.hid (And.intro g1 g2)
                  clear hd1 hd2 hd3 hdp hdn hstr hT he ha hn hq6 heq
                  go_region_held3 (fun w' => Below wx.heap.size wx w') (first | exact hb9.drew | exact hb10 | go_keep) ((go_at_call 33; refine (HEQ.out _ hb9.drew).mono ?_; rintro ee w10 ⟨rfl, hb10⟩))
                  clear g1 g2
                  go_wp2_with fail
                  all_goals exact ⟨⟨k + 1, by omega, by go_num, HUP.out _ (hb10)⟩, by show ts.length - ((k : Int) + 1).toNat < ts.length - (k : Int).toNat; omega⟩
    · have h1 : decide ((k : Int) < (ts.length : Int)) = false := decide_eq_false (by omega)
      have hbf : Below w.heap.size w wo := HBW2.out.trans (hb.mono HBW2.out.size)
      have hwk := wakes11_any (HG.out.later hbf) (HT.out.later HG.out hbf)
      have HWK := Lib.hid hwk
      have HBF := Lib.hid hbf
      clear hwk hbf hb
      go_wp2_with (go_at_call 22; refine HWK.out.mono ?_; rintro e w6 ⟨rfl, hb6⟩; have HB6 := Lib.hid hb6; clear hb6)
      rw [← HR.out]
      exact ⟨rfl, HBF.out.trans (HB6.out.mono HBF.out.size)⟩
end Go.Proofs.YticigfpieeoolaaGreatDoor
