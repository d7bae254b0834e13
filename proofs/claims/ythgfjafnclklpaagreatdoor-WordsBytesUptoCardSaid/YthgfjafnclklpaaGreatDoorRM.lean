/- Walk of the document's May of a command that came in. -/
import Derived.Test.YthgfjafnclklpaaGreatDoorQ48
import Derived.Test.YthgfjafnclklpaaGreatDoorR4
namespace Go.Proofs.YthgfjafnclklpaaGreatDoor
attribute [local go_sem ↓] Go.wp_at_zero Go.wp_at_succ
open Go.RowKit Go.Lib Sp



theorem keys_step {l : List Sp.Bs} {k : Nat} {y : Sp.Bs} (h : l[k]? = some y) (b : Bool) (hk : keyV y = b) : (l.drop k).all keyV = (b && (l.drop (k + 1)).all keyV) := by
  obtain ⟨h1, h2⟩ := List.getElem?_eq_some_iff.1 h
  rw [List.drop_eq_getElem_cons h1, List.all_cons, h2, hk]

set_option maxHeartbeats 16000000 in
set_option maxRecDepth 100000 in
theorem refMay_any {w : World} {x : CmdX} (h : CmdGood w x) (h1 : 1 ≤ x.c.verb) (h2 : x.c.verb ≤ 24) (hl : x.c.large = false) :
    Calls Tryz.prog 39 #[.agg (lineCell x)] w fun e w' => e = .returned (.bool (mayB x.c)) ∧ Below w.heap.size w w' := by
  generalize hR : (fun (e : Ending) (w' : World) => e = .returned (.bool (mayB x.c)) ∧ Below w.heap.size w w') = R
  have hbx := Blk.new w 38 (lineCell x)
  have hb0 : Below w.heap.size w (w.alloc (.cells (lineCell x) 38)) := (Below.refl _ _).alloc (Nat.le_refl _) _
  obtain ⟨v, hv⟩ : ∃ v, v = x.c.verb := ⟨_, rfl⟩
  obtain ⟨r, hr⟩ : ∃ r, r = rowBy v := ⟨_, rfl⟩
  have hro := fun W : World => refRowOf_any v W (by omega) (by omega)
  rw [← hr] at hro
  have hps0 : r.places.length ≤ 5 := by rw [hr, hv]; exact (rowOf_ok (rowOf_word h1 h2)).1
  have hfi := fun W : World => refFields_any (ps := r.places) (fun k hk => by
    obtain ⟨i, hi⟩ := List.getElem?_of_mem hk
    rw [hr, hv] at hi
    exact row_letter h1 h2 hi) hps0 W
  obtain ⟨zs, hz⟩ : ∃ zs, zs = zeds r.places := ⟨_, rfl⟩
  have hrv : refRow v r = .agg #[.int .i64 v, str zs, .int .i64 r.least, .bool r.more, .bool r.noreply, .bool r.block] := by rw [hz]
  simp only [hrv] at hro
  rw [← hz] at hfi
  obtain ⟨b0, hb0'⟩ : ∃ b, b = r.places.contains 75 := ⟨_, rfl⟩
  obtain ⟨b1, hb1'⟩ : ∃ b, b = r.places.contains 70 := ⟨_, rfl⟩
  obtain ⟨b2, hb2'⟩ : ∃ b, b = (r.places.contains 84 || r.places.contains 83) := ⟨_, rfl⟩
  obtain ⟨b3, hb3'⟩ : ∃ b, b = r.places.contains 67 := ⟨_, rfl⟩
  obtain ⟨b4, hb4'⟩ : ∃ b, b = r.places.contains 68 := ⟨_, rfl⟩
  obtain ⟨b5, hb5'⟩ : ∃ b, b = r.places.contains 71 := ⟨_, rfl⟩
  obtain ⟨rr, hrr⟩ : ∃ b, b = r.noreply := ⟨_, rfl⟩
  obtain ⟨rb, hrb⟩ : ∃ b, b = r.block := ⟨_, rfl⟩
  obtain ⟨nr, hnr⟩ : ∃ b, b = x.c.noreply := ⟨_, rfl⟩
  obtain ⟨fv, hfv⟩ : ∃ fv, fv = flagsOf v x.c.metas := ⟨_, rfl⟩
  have c1 : chk1 x.c = ((decide (1 < x.c.keys.length) && decide (4 < v)) || (decide (0 < x.c.keys.length) != b0)) := by rw [hb0', hr, hv]; rfl
  have c2 : chk2 x.c = ((((decide (4294967295 < x.c.flags) || (decide (0 < x.c.flags) && !b1)) || (decide (x.c.exptime ≠ 0) && !b2)) || (decide (0 < x.c.token) && !b3)) || (decide (0 < x.c.delta) && !b4)) := by rw [hb1', hb2', hb3', hb4', hr, hv]; rfl
  have c3 : chk3 x.c = ((decide (0 < x.c.metas.length) && !b5) || decide (fv ≠ [])) := by rw [hb5', hfv, hr, hv]; rfl
  have c4 : chk4 x.c = (decide (x.c.what ≠ []) && (decide (v ≠ 19) || (decide (x.c.what ≠ slabsW) && decide (x.c.what ≠ resetW)))) := by rw [hv]; rfl
  have c5 : chk5 x.c = ((((decide (v = 15) && decide (x.c.exptime < 0)) || (nr && !rr)) || (decide (0 < x.c.data.length) && !rb)) || decide (2147483647 < x.c.data.length)) := by rw [hrr, hrb, hnr, hr, hv]; rfl
  have hfi2 : ∀ W : World, Calls Tryz.prog 77 #[str zs] W fun e w' => e = .returned (.agg #[.bool b0, .bool b1, .bool b2, .bool b3, .bool b4, .bool b5]) ∧ Below W.heap.size W w' := fun W => by
    rw [hb0', hb1', hb2', hb3', hb4', hb5']; exact hfi W
  rw [← hrr, ← hrb] at hro
  have hcnt := h.counts
  have hkl : ∀ y ∈ x.c.keys, y.length ≤ 4611686018427387904 := fun y hy => by
    have := tails_mem hy
    have := h.keysT
    omega
  have hlc : lineCell x = #[.int .i64 v, .slice x.K x.c.keys.length x.kc, .int .u64 x.c.flags, .int .i64 x.c.exptime, .int .u64 x.c.token, .int .u64 x.c.delta, .slice x.D x.c.data.length x.dc, .bool nr, .bool false, .slice x.M x.c.metas.length x.mc, str x.c.what] := by
    unfold lineCell; rw [hv, hnr, hl]
  rw [hlc] at hbx hb0
  have hli := fun (W : World) (hW : Below w.heap.size w W) => refLine_any (h.below hW) h1 h2
  have hfl := fun (W : World) (hW : Below w.heap.size w W) => refFlags_any v x.c.metas x.M x.mc W ((h.below hW).mem.metas) (by have := hcnt.2.1; omega) (fun f hf => by have := hcnt.2.2 f hf; omega)
  rw [← hfv] at hfl
  have hlen := h.line h1 h2
  obtain ⟨L, hL⟩ : ∃ L, L = lineV x.c := ⟨_, rfl⟩
  have hmb : mayB x.c = (!chk1 x.c && x.c.keys.all keyV && !chk2 x.c && !chk3 x.c && !chk4 x.c && !chk5 x.c && decide (L.length ≤ 2048)) := by rw [hL]; rfl
  rw [← hL] at hli hlen
  have HR := Lib.hid hR
  have HX := Lib.hid h
  have HBX := Lib.hid hbx
  have HB0 := Lib.hid hb0
  have HRO := Lib.hid hro
  have HFI := Lib.hid hfi2
  have HLI := Lib.hid hli
  have HFLA := Lib.hid hfl
  have HLEN := Lib.hid hlen
  have HLC := Lib.hid hlc
  have HC1 := Lib.hid c1
  have HC2 := Lib.hid c2
  have HC3 := Lib.hid c3
  have HC4 := Lib.hid c4
  have HC5 := Lib.hid c5
  have HMB := Lib.hid hmb
  have HKL := Lib.hid hkl
  have h1v : 1 ≤ v := by omega
  have h2v : v ≤ 24 := by omega
  have hkc := hcnt.1
  have hmc := hcnt.2.1
  have hdc := h.dataL
  clear hR h hbx hb0 hro hfi hfi2 hli hfl hlen c1 c2 c3 c4 c5 hmb hkl hcnt h1 h2 hl hrv hz hb0' hb1' hb2' hb3' hb4' hb5' hrr hrb hnr hfv hL hps0 hr hv
  rw [hlc]
  clear hlc
  go_enter Tryz.func39, Tryz.ntmps39
  go_upto_region 5 with (first | (go_at_call 41; refine (HRO.out _).mono ?_; rintro e w1 ⟨rfl, hb1⟩; have HB1 := Lib.hid hb1; clear hb1) | (go_at_call 77; refine (HFI.out _).mono ?_; rintro e w2 ⟨rfl, hb2⟩; have HB2 := Lib.hid hb2; clear hb2))
  have hxa := (((HBX.out.later HB1.out).alloc (.cells #[.int .i64 v, str zs, .int .i64 r.least, .bool r.more, .bool rr, .bool rb] 86)).later HB2.out).alloc (.cells #[.bool b0, .bool b1, .bool b2, .bool b3, .bool b4, .bool b5] 124)
  have hra := ((Blk.new w1 86 #[.int .i64 v, str zs, .int .i64 r.least, .bool r.more, .bool rr, .bool rb]).later HB2.out).alloc (.cells #[.bool b0, .bool b1, .bool b2, .bool b3, .bool b4, .bool b5] 124)
  have hha := Blk.new w2 124 #[.bool b0, .bool b1, .bool b2, .bool b3, .bool b4, .bool b5]
  have hbw1 : Below w.heap.size w w1 := HB0.out.trans (HB1.out.mono HB0.out.size)
  have hbw2 := hbw1.alloc hbw1.size (.cells #[.int .i64 v, str zs, .int .i64 r.least, .bool r.more, .bool rr, .bool rb] 86)
  have hbw3 : Below w.heap.size w w2 := hbw2.trans (HB2.out.mono hbw2.size)
  have hbw := hbw3.alloc hbw3.size (.cells #[.bool b0, .bool b1, .bool b2, .bool b3, .bool b4, .bool b5] 124)
  obtain ⟨g1, hg1⟩ : ∃ g1, g1 = w1.heap.size := ⟨_, rfl⟩
  obtain ⟨g2, hg2⟩ : ∃ g2, g2 = w2.heap.size := ⟨_, rfl⟩
  obtain ⟨wc, hwc⟩ : ∃ wc, wc = w2.alloc (.cells #[.bool b0, .bool b1, .bool b2, .bool b3, .bool b4, .bool b5] 124) := ⟨_, rfl⟩
  rw [← hg1, ← hwc] at hra
  rw [← hg2, ← hwc] at hha
  rw [← hwc] at hxa hbw
  rw [← hg1, ← hg2, ← hwc]
  have HXA := Lib.hid hxa
  have HRA := Lib.hid hra
  have HHA := Lib.hid hha
  have HBW := Lib.hid hbw
  clear hbw hbw1 hbw2 hbw3 hg1 hg2 hwc HBX HB0 HB1 HB2 HRO HFI
  have z0 : wc.cell? ⟨w.heap.size, 0, none⟩ = some (.int .i64 v) := hxa.cell 0
  have z1 : wc.cell? ⟨w.heap.size, 1, none⟩ = some (.slice x.K x.c.keys.length x.kc) := hxa.cell 1
  have z2 : wc.cell? ⟨w.heap.size, 2, none⟩ = some (.int .u64 x.c.flags) := hxa.cell 2
  have z3 : wc.cell? ⟨w.heap.size, 3, none⟩ = some (.int .i64 x.c.exptime) := hxa.cell 3
  have z4 : wc.cell? ⟨w.heap.size, 4, none⟩ = some (.int .u64 x.c.token) := hxa.cell 4
  have z5 : wc.cell? ⟨w.heap.size, 5, none⟩ = some (.int .u64 x.c.delta) := hxa.cell 5
  have z9 : wc.cell? ⟨w.heap.size, 9, none⟩ = some (.slice x.M x.c.metas.length x.mc) := hxa.cell 9
  have h0 : wc.cell? ⟨g2, 0, none⟩ = some (.bool b0) := hha.cell 0
  have h1 : wc.cell? ⟨g2, 1, none⟩ = some (.bool b1) := hha.cell 1
  have h2 : wc.cell? ⟨g2, 2, none⟩ = some (.bool b2) := hha.cell 2
  have h3 : wc.cell? ⟨g2, 3, none⟩ = some (.bool b3) := hha.cell 3
  have h4 : wc.cell? ⟨g2, 4, none⟩ = some (.bool b4) := hha.cell 4
  have h5 : wc.cell? ⟨g2, 5, none⟩ = some (.bool b5) := hha.cell 5
  clear hxa hra hha
  go_cut [41] (fun rv wx => rv = .bool (chk1 x.c) ∧ wx = wc)
  case first =>
    have HC := HC1
    clear HC1 HC2 HC3 HC4 HC5 HMB
    by_cases h_k1 : 1 < x.c.keys.length
    · have i_k1 := decide_eq_true h_k1
      have j_k10 : decide ((1 : Int) < (x.c.keys.length : Int)) = true := decide_eq_true (by omega)
      by_cases h_v4 : 4 < v
      · have i_v4 := decide_eq_true h_v4
        have j_v40 : decide ((4 : Int) < (v : Int)) = true := decide_eq_true (by omega)
        as_aux_lemma =>
          have hq : chk1 x.c = true := by rw [HC.out]; simp only [i_k1, i_v4]; rfl
          have HQ := Lib.hid hq
          clear hq
          go_wp2_with fail
          go_meet
          exact ⟨congrArg Value.bool HQ.out.symm, rfl⟩
      · have i_v4 := decide_eq_false h_v4
        have j_v40 : decide ((4 : Int) < (v : Int)) = false := decide_eq_false (by omega)
        have h_k0 : 0 < x.c.keys.length := by omega
        have i_k0 := decide_eq_true h_k0
        have j_k00 : decide ((0 : Int) < (x.c.keys.length : Int)) = true := decide_eq_true (by omega)
        cases b0 with
        | true =>
          as_aux_lemma =>
            have hq : chk1 x.c = false := by rw [HC.out]; simp only [i_k1, i_v4, i_k0]; rfl
            have HQ := Lib.hid hq
            clear hq
            go_wp2_with fail
            go_meet
            exact ⟨congrArg Value.bool HQ.out.symm, rfl⟩
        | false =>
          as_aux_lemma =>
            have hq : chk1 x.c = true := by rw [HC.out]; simp only [i_k1, i_v4, i_k0]; rfl
            have HQ := Lib.hid hq
            clear hq
            go_wp2_with fail
            go_meet
            exact ⟨congrArg Value.bool HQ.out.symm, rfl⟩
    · have i_k1 := decide_eq_false h_k1
      have j_k10 : decide ((1 : Int) < (x.c.keys.length : Int)) = false := decide_eq_false (by omega)
      by_cases h_k0 : 0 < x.c.keys.length
      · have i_k0 := decide_eq_true h_k0
        have j_k00 : decide ((0 : Int) < (x.c.keys.length : Int)) = true := decide_eq_true (by omega)
        cases b0 with
        | true =>
          as_aux_lemma =>
            have hq : chk1 x.c = false := by rw [HC.out]; simp only [i_k1, i_k0]; rfl
            have HQ := Lib.hid hq
            clear hq
            go_wp2_with fail
            go_meet
            exact ⟨congrArg Value.bool HQ.out.symm, rfl⟩
        | false =>
          as_aux_lemma =>
            have hq : chk1 x.c = true := by rw [HC.out]; simp only [i_k1, i_k0]; rfl
            have HQ := Lib.hid hq
            clear hq
            go_wp2_with fail
            go_meet
            exact ⟨congrArg Value.bool HQ.out.symm, rfl⟩
      · have i_k0 := decide_eq_false h_k0
        have j_k00 : decide ((0 : Int) < (x.c.keys.length : Int)) = false := decide_eq_false (by omega)
        cases b0 with
        | true =>
          as_aux_lemma =>
            have hq : chk1 x.c = true := by rw [HC.out]; simp only [i_k1, i_k0]; rfl
            have HQ := Lib.hid hq
            clear hq
            go_wp2_with fail
            go_meet
            exact ⟨congrArg Value.bool HQ.out.symm, rfl⟩
        | false =>
          as_aux_lemma =>
            have hq : chk1 x.c = false := by rw [HC.out]; simp only [i_k1, i_k0]; rfl
            have HQ := Lib.hid hq
            clear hq
            go_wp2_with fail
            go_meet
            exact ⟨congrArg Value.bool HQ.out.symm, rfl⟩
  case rest =>
    obtain ⟨rfl, hw⟩ := hcut
    subst hw
    cases hc1 : chk1 x.c with
    | true =>
      as_aux_lemma =>
        have hm : mayB x.c = false := by rw [HMB.out, hc1]; rfl
        have HM := Lib.hid hm
        clear hm
        go_wp2_with fail
        rw [← HR.out]
        exact ⟨by rw [HM.out]; rfl, HBW.out⟩
    | false =>
      go_wp2_with fail
      go_loopw [5] (fun iv wx => ∃ k : Nat, k ≤ x.c.keys.length ∧ iv = .int .i64 k ∧ wx = wc ∧ Hid (x.c.keys.all keyV = (x.c.keys.drop k).all keyV)) (fun iv _ => x.c.keys.length - (intOf iv).toNat)
      case atStart => exact ⟨0, Nat.zero_le _, rfl, rfl, Lib.hid (by rw [List.drop_zero])⟩
      case round =>
        obtain ⟨k, hk, rfl, hw, hka⟩ := hrel
        subst hw
        obtain ⟨wc, rfl⟩ : ∃ wc, wc = wr := ⟨wr, rfl⟩
        by_cases hlt : k < x.c.keys.length
        · obtain ⟨y, hy⟩ : ∃ y, x.c.keys[k]? = some y := ⟨x.c.keys[k]'hlt, List.getElem?_eq_getElem _⟩
          obtain ⟨ga, oa, hAe, ya⟩ := RowAt.text (HX.out.mem.keys.below HBW.out) hy
          have hkey := fun W : World => refKey_any y W (HKL.out y (List.mem_of_getElem? hy))
          rw [hAe] at z1
          have hme : x.c.keys.length - ((k : Int) + 1).toNat < x.c.keys.length - (k : Int).toNat := by omega
          cases hkb : keyV y with
          | true =>
            rw [hkb] at hkey
            have hst := keys_step hy true hkb
            have HKEY := Lib.hid hkey
            have HST := Lib.hid hst
            have HME := Lib.hid hme
            clear hkey hst hme hy hAe hkb
            go_wp2_with (go_at_call 78; refine (HKEY.out _).mono ?_; rintro e w' ⟨rfl, rfl⟩)
            exact ⟨⟨k + 1, by omega, by go_num, by trivial, Lib.hid (by rw [hka.out, HST.out]; rfl)⟩, HME.out⟩
          | false =>
            rw [hkb] at hkey
            have hst := keys_step hy false hkb
            have hm : mayB x.c = false := by rw [HMB.out, hc1, hka.out, hst]; rfl
            have HKEY := Lib.hid hkey
            have HM := Lib.hid hm
            clear hkey hst hme hy hAe hkb hm
            go_wp2_with (go_at_call 78; refine (HKEY.out _).mono ?_; rintro e w' ⟨rfl, rfl⟩)
            rw [← HR.out]
            exact ⟨by rw [HM.out]; rfl, HBW.out⟩
        · obtain rfl : k = x.c.keys.length := by omega
          have hkall : x.c.keys.all keyV = true := by rw [hka.out, List.drop_length]; rfl
          have hc1k : (!chk1 x.c && x.c.keys.all keyV) = true := by rw [hc1, hkall]; rfl
          have HC1K := Lib.hid hc1k
          clear hkall hc1k hka hc1 hlt
          rw [HC1K.out] at HMB
          go_upto_region 12 with fail
          go_cut [98] (fun rv wx => rv = .bool (chk2 x.c) ∧ wx = wc)
          case first =>
            have HC := HC2
            clear HC1 HC2 HC3 HC4 HC5 HMB z0 z1 z9 h0 h5
            by_cases h_f4 : 4294967295 < x.c.flags
            · have i_f4 := decide_eq_true h_f4
              have j_f40 : decide ((4294967295 : Int) < (x.c.flags : Int)) = true := decide_eq_true (by omega)
              as_aux_lemma =>
                have hq : chk2 x.c = true := by rw [HC.out]; simp only [i_f4]; rfl
                have HQ := Lib.hid hq
                clear hq
                go_wp2_with fail
                go_meet
                exact ⟨congrArg Value.bool HQ.out.symm, rfl⟩
            · have i_f4 := decide_eq_false h_f4
              have j_f40 : decide ((4294967295 : Int) < (x.c.flags : Int)) = false := decide_eq_false (by omega)
              by_cases h_f0 : 0 < x.c.flags
              · have i_f0 := decide_eq_true h_f0
                have j_f00 : decide ((0 : Int) < (x.c.flags : Int)) = true := decide_eq_true (by omega)
                cases b1 with
                | true =>
                  by_cases h_e0 : x.c.exptime ≠ 0
                  · have i_e0 := decide_eq_true h_e0
                    have j_e00 : (x.c.exptime != 0) = true := bne_iff_ne.2 h_e0
                    have j_e01 : (x.c.exptime == 0) = false := beq_eq_false_iff_ne.2 h_e0
                    cases b2 with
                    | true =>
                      by_cases h_t0 : 0 < x.c.token
                      · have i_t0 := decide_eq_true h_t0
                        have j_t00 : decide ((0 : Int) < (x.c.token : Int)) = true := decide_eq_true (by omega)
                        cases b3 with
                        | true =>
                          by_cases h_d0 : 0 < x.c.delta
                          · have i_d0 := decide_eq_true h_d0
                            have j_d00 : decide ((0 : Int) < (x.c.delta : Int)) = true := decide_eq_true (by omega)
                            cases b4 with
                            | true =>
                              as_aux_lemma =>
                                have hq : chk2 x.c = false := by rw [HC.out]; simp only [i_f4, i_f0, i_e0, i_t0, i_d0]; rfl
                                have HQ := Lib.hid hq
                                clear hq
                                go_wp2_with fail
                                go_meet
                                exact ⟨congrArg Value.bool HQ.out.symm, rfl⟩
                            | false =>
                              as_aux_lemma =>
                                have hq : chk2 x.c = true := by rw [HC.out]; simp only [i_f4, i_f0, i_e0, i_t0, i_d0]; rfl
                                have HQ := Lib.hid hq
                                clear hq
                                go_wp2_with fail
                                go_meet
                                exact ⟨congrArg Value.bool HQ.out.symm, rfl⟩
                          · have i_d0 := decide_eq_false h_d0
                            have j_d00 : decide ((0 : Int) < (x.c.delta : Int)) = false := decide_eq_false (by omega)
                            as_aux_lemma =>
                              have hq : chk2 x.c = false := by rw [HC.out]; simp only [i_f4, i_f0, i_e0, i_t0, i_d0]; rfl
                              have HQ := Lib.hid hq
                              clear hq
                              go_wp2_with fail
                              go_meet
                              exact ⟨congrArg Value.bool HQ.out.symm, rfl⟩
                        | false =>
                          as_aux_lemma =>
                            have hq : chk2 x.c = true := by rw [HC.out]; simp only [i_f4, i_f0, i_e0, i_t0]; rfl
                            have HQ := Lib.hid hq
                            clear hq
                            go_wp2_with fail
                            go_meet
                            exact ⟨congrArg Value.bool HQ.out.symm, rfl⟩
                      · have i_t0 := decide_eq_false h_t0
                        have j_t00 : decide ((0 : Int) < (x.c.token : Int)) = false := decide_eq_false (by omega)
                        by_cases h_d0 : 0 < x.c.delta
                        · have i_d0 := decide_eq_true h_d0
                          have j_d00 : decide ((0 : Int) < (x.c.delta : Int)) = true := decide_eq_true (by omega)
                          cases b4 with
                          | true =>
                            as_aux_lemma =>
                              have hq : chk2 x.c = false := by rw [HC.out]; simp only [i_f4, i_f0, i_e0, i_t0, i_d0]; rfl
                              have HQ := Lib.hid hq
                              clear hq
                              go_wp2_with fail
                              go_meet
                              exact ⟨congrArg Value.bool HQ.out.symm, rfl⟩
                          | false =>
                            as_aux_lemma =>
                              have hq : chk2 x.c = true := by rw [HC.out]; simp only [i_f4, i_f0, i_e0, i_t0, i_d0]; rfl
                              have HQ := Lib.hid hq
                              clear hq
                              go_wp2_with fail
                              go_meet
                              exact ⟨congrArg Value.bool HQ.out.symm, rfl⟩
                        · have i_d0 := decide_eq_false h_d0
                          have j_d00 : decide ((0 : Int) < (x.c.delta : Int)) = false := decide_eq_false (by omega)
                          as_aux_lemma =>
                            have hq : chk2 x.c = false := by rw [HC.out]; simp only [i_f4, i_f0, i_e0, i_t0, i_d0]; rfl
                            have HQ := Lib.hid hq
                            clear hq
                            go_wp2_with fail
                            go_meet
                            exact ⟨congrArg Value.bool HQ.out.symm, rfl⟩
                    | false =>
                      as_aux_lemma =>
                        have hq : chk2 x.c = true := by rw [HC.out]; simp only [i_f4, i_f0, i_e0]; rfl
                        have HQ := Lib.hid hq
                        clear hq
                        go_wp2_with fail
                        go_meet
                        exact ⟨congrArg Value.bool HQ.out.symm, rfl⟩
                  · have i_e0 := decide_eq_false h_e0
                    have j_e00 : (x.c.exptime != 0) = false := by rw [Classical.not_not.1 h_e0]; rfl
                    have j_e01 : (x.c.exptime == 0) = true := by rw [Classical.not_not.1 h_e0]; rfl
                    by_cases h_t0 : 0 < x.c.token
                    · have i_t0 := decide_eq_true h_t0
                      have j_t00 : decide ((0 : Int) < (x.c.token : Int)) = true := decide_eq_true (by omega)
                      cases b3 with
                      | true =>
                        by_cases h_d0 : 0 < x.c.delta
                        · have i_d0 := decide_eq_true h_d0
                          have j_d00 : decide ((0 : Int) < (x.c.delta : Int)) = true := decide_eq_true (by omega)
                          cases b4 with
                          | true =>
                            as_aux_lemma =>
                              have hq : chk2 x.c = false := by rw [HC.out]; simp only [i_f4, i_f0, i_e0, i_t0, i_d0]; rfl
                              have HQ := Lib.hid hq
                              clear hq
                              go_wp2_with fail
                              go_meet
                              exact ⟨congrArg Value.bool HQ.out.symm, rfl⟩
                          | false =>
                            as_aux_lemma =>
                              have hq : chk2 x.c = true := by rw [HC.out]; simp only [i_f4, i_f0, i_e0, i_t0, i_d0]; rfl
                              have HQ := Lib.hid hq
                              clear hq
                              go_wp2_with fail
                              go_meet
                              exact ⟨congrArg Value.bool HQ.out.symm, rfl⟩
                        · have i_d0 := decide_eq_false h_d0
                          have j_d00 : decide ((0 : Int) < (x.c.delta : Int)) = false := decide_eq_false (by omega)
                          as_aux_lemma =>
                            have hq : chk2 x.c = false := by rw [HC.out]; simp only [i_f4, i_f0, i_e0, i_t0, i_d0]; rfl
                            have HQ := Lib.hid hq
                            clear hq
                            go_wp2_with fail
                            go_meet
                            exact ⟨congrArg Value.bool HQ.out.symm, rfl⟩
                      | false =>
                        as_aux_lemma =>
                          have hq : chk2 x.c = true := by rw [HC.out]; simp only [i_f4, i_f0, i_e0, i_t0]; rfl
                          have HQ := Lib.hid hq
                          clear hq
                          go_wp2_with fail
                          go_meet
                          exact ⟨congrArg Value.bool HQ.out.symm, rfl⟩
                    · have i_t0 := decide_eq_false h_t0
                      have j_t00 : decide ((0 : Int) < (x.c.token : Int)) = false := decide_eq_false (by omega)
                      by_cases h_d0 : 0 < x.c.delta
                      · have i_d0 := decide_eq_true h_d0
                        have j_d00 : decide ((0 : Int) < (x.c.delta : Int)) = true := decide_eq_true (by omega)
                        cases b4 with
                        | true =>
                          as_aux_lemma =>
                            have hq : chk2 x.c = false := by rw [HC.out]; simp only [i_f4, i_f0, i_e0, i_t0, i_d0]; rfl
                            have HQ := Lib.hid hq
                            clear hq
                            go_wp2_with fail
                            go_meet
                            exact ⟨congrArg Value.bool HQ.out.symm, rfl⟩
                        | false =>
                          as_aux_lemma =>
                            have hq : chk2 x.c = true := by rw [HC.out]; simp only [i_f4, i_f0, i_e0, i_t0, i_d0]; rfl
                            have HQ := Lib.hid hq
                            clear hq
                            go_wp2_with fail
                            go_meet
                            exact ⟨congrArg Value.bool HQ.out.symm, rfl⟩
                      · have i_d0 := decide_eq_false h_d0
                        have j_d00 : decide ((0 : Int) < (x.c.delta : Int)) = false := decide_eq_false (by omega)
                        as_aux_lemma =>
                          have hq : chk2 x.c = false := by rw [HC.out]; simp only [i_f4, i_f0, i_e0, i_t0, i_d0]; rfl
                          have HQ := Lib.hid hq
                          clear hq
                          go_wp2_with fail
                          go_meet
                          exact ⟨congrArg Value.bool HQ.out.symm, rfl⟩
                | false =>
                  as_aux_lemma =>
                    have hq : chk2 x.c = true := by rw [HC.out]; simp only [i_f4, i_f0]; rfl
                    have HQ := Lib.hid hq
                    clear hq
                    go_wp2_with fail
                    go_meet
                    exact ⟨congrArg Value.bool HQ.out.symm, rfl⟩
              · have i_f0 := decide_eq_false h_f0
                have j_f00 : decide ((0 : Int) < (x.c.flags : Int)) = false := decide_eq_false (by omega)
                by_cases h_e0 : x.c.exptime ≠ 0
                · have i_e0 := decide_eq_true h_e0
                  have j_e00 : (x.c.exptime != 0) = true := bne_iff_ne.2 h_e0
                  have j_e01 : (x.c.exptime == 0) = false := beq_eq_false_iff_ne.2 h_e0
                  cases b2 with
                  | true =>
                    by_cases h_t0 : 0 < x.c.token
                    · have i_t0 := decide_eq_true h_t0
                      have j_t00 : decide ((0 : Int) < (x.c.token : Int)) = true := decide_eq_true (by omega)
                      cases b3 with
                      | true =>
                        by_cases h_d0 : 0 < x.c.delta
                        · have i_d0 := decide_eq_true h_d0
                          have j_d00 : decide ((0 : Int) < (x.c.delta : Int)) = true := decide_eq_true (by omega)
                          cases b4 with
                          | true =>
                            as_aux_lemma =>
                              have hq : chk2 x.c = false := by rw [HC.out]; simp only [i_f4, i_f0, i_e0, i_t0, i_d0]; rfl
                              have HQ := Lib.hid hq
                              clear hq
                              go_wp2_with fail
                              go_meet
                              exact ⟨congrArg Value.bool HQ.out.symm, rfl⟩
                          | false =>
                            as_aux_lemma =>
                              have hq : chk2 x.c = true := by rw [HC.out]; simp only [i_f4, i_f0, i_e0, i_t0, i_d0]; rfl
                              have HQ := Lib.hid hq
                              clear hq
                              go_wp2_with fail
                              go_meet
                              exact ⟨congrArg Value.bool HQ.out.symm, rfl⟩
                        · have i_d0 := decide_eq_false h_d0
                          have j_d00 : decide ((0 : Int) < (x.c.delta : Int)) = false := decide_eq_false (by omega)
                          as_aux_lemma =>
                            have hq : chk2 x.c = false := by rw [HC.out]; simp only [i_f4, i_f0, i_e0, i_t0, i_d0]; rfl
                            have HQ := Lib.hid hq
                            clear hq
                            go_wp2_with fail
                            go_meet
                            exact ⟨congrArg Value.bool HQ.out.symm, rfl⟩
                      | false =>
                        as_aux_lemma =>
                          have hq : chk2 x.c = true := by rw [HC.out]; simp only [i_f4, i_f0, i_e0, i_t0]; rfl
                          have HQ := Lib.hid hq
                          clear hq
                          go_wp2_with fail
                          go_meet
                          exact ⟨congrArg Value.bool HQ.out.symm, rfl⟩
                    · have i_t0 := decide_eq_false h_t0
                      have j_t00 : decide ((0 : Int) < (x.c.token : Int)) = false := decide_eq_false (by omega)
                      by_cases h_d0 : 0 < x.c.delta
                      · have i_d0 := decide_eq_true h_d0
                        have j_d00 : decide ((0 : Int) < (x.c.delta : Int)) = true := decide_eq_true (by omega)
                        cases b4 with
                        | true =>
                          as_aux_lemma =>
                            have hq : chk2 x.c = false := by rw [HC.out]; simp only [i_f4, i_f0, i_e0, i_t0, i_d0]; rfl
                            have HQ := Lib.hid hq
                            clear hq
                            go_wp2_with fail
                            go_meet
                            exact ⟨congrArg Value.bool HQ.out.symm, rfl⟩
                        | false =>
                          as_aux_lemma =>
                            have hq : chk2 x.c = true := by rw [HC.out]; simp only [i_f4, i_f0, i_e0, i_t0, i_d0]; rfl
                            have HQ := Lib.hid hq
                            clear hq
                            go_wp2_with fail
                            go_meet
                            exact ⟨congrArg Value.bool HQ.out.symm, rfl⟩
                      · have i_d0 := decide_eq_false h_d0
                        have j_d00 : decide ((0 : Int) < (x.c.delta : Int)) = false := decide_eq_false (by omega)
                        as_aux_lemma =>
                          have hq : chk2 x.c = false := by rw [HC.out]; simp only [i_f4, i_f0, i_e0, i_t0, i_d0]; rfl
                          have HQ := Lib.hid hq
                          clear hq
                          go_wp2_with fail
                          go_meet
                          exact ⟨congrArg Value.bool HQ.out.symm, rfl⟩
                  | false =>
                    as_aux_lemma =>
                      have hq : chk2 x.c = true := by rw [HC.out]; simp only [i_f4, i_f0, i_e0]; rfl
                      have HQ := Lib.hid hq
                      clear hq
                      go_wp2_with fail
                      go_meet
                      exact ⟨congrArg Value.bool HQ.out.symm, rfl⟩
                · have i_e0 := decide_eq_false h_e0
                  have j_e00 : (x.c.exptime != 0) = false := by rw [Classical.not_not.1 h_e0]; rfl
                  have j_e01 : (x.c.exptime == 0) = true := by rw [Classical.not_not.1 h_e0]; rfl
                  by_cases h_t0 : 0 < x.c.token
                  · have i_t0 := decide_eq_true h_t0
                    have j_t00 : decide ((0 : Int) < (x.c.token : Int)) = true := decide_eq_true (by omega)
                    cases b3 with
                    | true =>
                      by_cases h_d0 : 0 < x.c.delta
                      · have i_d0 := decide_eq_true h_d0
                        have j_d00 : decide ((0 : Int) < (x.c.delta : Int)) = true := decide_eq_true (by omega)
                        cases b4 with
                        | true =>
                          as_aux_lemma =>
                            have hq : chk2 x.c = false := by rw [HC.out]; simp only [i_f4, i_f0, i_e0, i_t0, i_d0]; rfl
                            have HQ := Lib.hid hq
                            clear hq
                            go_wp2_with fail
                            go_meet
                            exact ⟨congrArg Value.bool HQ.out.symm, rfl⟩
                        | false =>
                          as_aux_lemma =>
                            have hq : chk2 x.c = true := by rw [HC.out]; simp only [i_f4, i_f0, i_e0, i_t0, i_d0]; rfl
                            have HQ := Lib.hid hq
                            clear hq
                            go_wp2_with fail
                            go_meet
                            exact ⟨congrArg Value.bool HQ.out.symm, rfl⟩
                      · have i_d0 := decide_eq_false h_d0
                        have j_d00 : decide ((0 : Int) < (x.c.delta : Int)) = false := decide_eq_false (by omega)
                        as_aux_lemma =>
                          have hq : chk2 x.c = false := by rw [HC.out]; simp only [i_f4, i_f0, i_e0, i_t0, i_d0]; rfl
                          have HQ := Lib.hid hq
                          clear hq
                          go_wp2_with fail
                          go_meet
                          exact ⟨congrArg Value.bool HQ.out.symm, rfl⟩
                    | false =>
                      as_aux_lemma =>
                        have hq : chk2 x.c = true := by rw [HC.out]; simp only [i_f4, i_f0, i_e0, i_t0]; rfl
                        have HQ := Lib.hid hq
                        clear hq
                        go_wp2_with fail
                        go_meet
                        exact ⟨congrArg Value.bool HQ.out.symm, rfl⟩
                  · have i_t0 := decide_eq_false h_t0
                    have j_t00 : decide ((0 : Int) < (x.c.token : Int)) = false := decide_eq_false (by omega)
                    by_cases h_d0 : 0 < x.c.delta
                    · have i_d0 := decide_eq_true h_d0
                      have j_d00 : decide ((0 : Int) < (x.c.delta : Int)) = true := decide_eq_true (by omega)
                      cases b4 with
                      | true =>
                        as_aux_lemma =>
                          have hq : chk2 x.c = false := by rw [HC.out]; simp only [i_f4, i_f0, i_e0, i_t0, i_d0]; rfl
                          have HQ := Lib.hid hq
                          clear hq
                          go_wp2_with fail
                          go_meet
                          exact ⟨congrArg Value.bool HQ.out.symm, rfl⟩
                      | false =>
                        as_aux_lemma =>
                          have hq : chk2 x.c = true := by rw [HC.out]; simp only [i_f4, i_f0, i_e0, i_t0, i_d0]; rfl
                          have HQ := Lib.hid hq
                          clear hq
                          go_wp2_with fail
                          go_meet
                          exact ⟨congrArg Value.bool HQ.out.symm, rfl⟩
                    · have i_d0 := decide_eq_false h_d0
                      have j_d00 : decide ((0 : Int) < (x.c.delta : Int)) = false := decide_eq_false (by omega)
                      as_aux_lemma =>
                        have hq : chk2 x.c = false := by rw [HC.out]; simp only [i_f4, i_f0, i_e0, i_t0, i_d0]; rfl
                        have HQ := Lib.hid hq
                        clear hq
                        go_wp2_with fail
                        go_meet
                        exact ⟨congrArg Value.bool HQ.out.symm, rfl⟩
          case rest =>
            obtain ⟨rfl, hw⟩ := hcut
            subst hw
            cases hc2 : chk2 x.c with
            | true =>
              as_aux_lemma =>
                have hm : mayB x.c = false := by rw [HMB.out, hc2]; rfl
                have HM := Lib.hid hm
                clear hm
                go_wp2_with fail
                rw [← HR.out]
                exact ⟨by rw [HM.out]; rfl, HBW.out⟩
            | false =>
              rw [hc2] at HMB
              obtain ⟨wb, rfl⟩ : ∃ wb, wb = wc := ⟨wc, rfl⟩
              have hfl2 := fun (W' : World) (hW : Below wb.heap.size wb W') => HFLA.out W' (HBW.out.trans (hW.mono HBW.out.size))
              have HFL := Lib.hid hfl2
              clear hfl2 hc2
              go_upto_region 14 with fail
              go_cut [115] (fun rv wx => rv = .bool (chk3 x.c) ∧ Below wb.heap.size wb wx)
              case first =>
                have HC := HC3
                clear HC1 HC2 HC3 HC4 HC5 HMB z1 z2 z3 z4 z5 h0 h1 h2 h3 h4
                by_cases h_m0 : 0 < x.c.metas.length
                · have i_m0 := decide_eq_true h_m0
                  have j_m00 : decide ((0 : Int) < (x.c.metas.length : Int)) = true := decide_eq_true (by omega)
                  cases b5 with
                  | true =>
                    by_cases h_fl : fv ≠ []
                    · have i_fl := decide_eq_true h_fl
                      have j_fl0 : (fv).isEmpty = false := List.isEmpty_eq_false_iff.2 h_fl
                      as_aux_lemma =>
                        have hq : chk3 x.c = true := by rw [HC.out]; simp only [i_m0, i_fl]; rfl
                        have HQ := Lib.hid hq
                        clear hq
                        go_wp2_with (go_at_call 79; refine (HFL.out _ (Below.refl _ _)).mono ?_; rintro e w5 ⟨rfl, hb5⟩; have HB5 := Lib.hid hb5; clear hb5)
                        go_meet
                        first
                        | exact ⟨congrArg Value.bool HQ.out.symm, HB5.out⟩
                        | exact ⟨congrArg Value.bool HQ.out.symm, Below.refl _ _⟩
                    · have i_fl := decide_eq_false h_fl
                      have j_fl0 : (fv).isEmpty = true := List.isEmpty_iff.2 (Classical.not_not.1 h_fl)
                      as_aux_lemma =>
                        have hq : chk3 x.c = false := by rw [HC.out]; simp only [i_m0, i_fl]; rfl
                        have HQ := Lib.hid hq
                        clear hq
                        go_wp2_with (go_at_call 79; refine (HFL.out _ (Below.refl _ _)).mono ?_; rintro e w5 ⟨rfl, hb5⟩; have HB5 := Lib.hid hb5; clear hb5)
                        go_meet
                        first
                        | exact ⟨congrArg Value.bool HQ.out.symm, HB5.out⟩
                        | exact ⟨congrArg Value.bool HQ.out.symm, Below.refl _ _⟩
                  | false =>
                    as_aux_lemma =>
                      have hq : chk3 x.c = true := by rw [HC.out]; simp only [i_m0]; rfl
                      have HQ := Lib.hid hq
                      clear hq
                      go_wp2_with (go_at_call 79; refine (HFL.out _ (Below.refl _ _)).mono ?_; rintro e w5 ⟨rfl, hb5⟩; have HB5 := Lib.hid hb5; clear hb5)
                      go_meet
                      first
                      | exact ⟨congrArg Value.bool HQ.out.symm, HB5.out⟩
                      | exact ⟨congrArg Value.bool HQ.out.symm, Below.refl _ _⟩
                · have i_m0 := decide_eq_false h_m0
                  have j_m00 : decide ((0 : Int) < (x.c.metas.length : Int)) = false := decide_eq_false (by omega)
                  by_cases h_fl : fv ≠ []
                  · have i_fl := decide_eq_true h_fl
                    have j_fl0 : (fv).isEmpty = false := List.isEmpty_eq_false_iff.2 h_fl
                    as_aux_lemma =>
                      have hq : chk3 x.c = true := by rw [HC.out]; simp only [i_m0, i_fl]; rfl
                      have HQ := Lib.hid hq
                      clear hq
                      go_wp2_with (go_at_call 79; refine (HFL.out _ (Below.refl _ _)).mono ?_; rintro e w5 ⟨rfl, hb5⟩; have HB5 := Lib.hid hb5; clear hb5)
                      go_meet
                      first
                      | exact ⟨congrArg Value.bool HQ.out.symm, HB5.out⟩
                      | exact ⟨congrArg Value.bool HQ.out.symm, Below.refl _ _⟩
                  · have i_fl := decide_eq_false h_fl
                    have j_fl0 : (fv).isEmpty = true := List.isEmpty_iff.2 (Classical.not_not.1 h_fl)
                    as_aux_lemma =>
                      have hq : chk3 x.c = false := by rw [HC.out]; simp only [i_m0, i_fl]; rfl
                      have HQ := Lib.hid hq
                      clear hq
                      go_wp2_with (go_at_call 79; refine (HFL.out _ (Below.refl _ _)).mono ?_; rintro e w5 ⟨rfl, hb5⟩; have HB5 := Lib.hid hb5; clear hb5)
                      go_meet
                      first
                      | exact ⟨congrArg Value.bool HQ.out.symm, HB5.out⟩
                      | exact ⟨congrArg Value.bool HQ.out.symm, Below.refl _ _⟩
              case rest =>
                obtain ⟨rfl, hb5⟩ := hcut
                have hxa := HXA.out.later hb5
                have hra := HRA.out.later hb5
                have hbw : Below w.heap.size w wc := HBW.out.trans (hb5.mono HBW.out.size)
                have HBC := Lib.hid hbw
                clear z0 z1 z2 z3 z4 z5 z9 h0 h1 h2 h3 h4 h5
                have z0 : wc.cell? ⟨w.heap.size, 0, none⟩ = some (.int .i64 v) := hxa.cell 0
                have z1 : wc.cell? ⟨w.heap.size, 1, none⟩ = some (.slice x.K x.c.keys.length x.kc) := hxa.cell 1
                have z2 : wc.cell? ⟨w.heap.size, 2, none⟩ = some (.int .u64 x.c.flags) := hxa.cell 2
                have z3 : wc.cell? ⟨w.heap.size, 3, none⟩ = some (.int .i64 x.c.exptime) := hxa.cell 3
                have z4 : wc.cell? ⟨w.heap.size, 4, none⟩ = some (.int .u64 x.c.token) := hxa.cell 4
                have z5 : wc.cell? ⟨w.heap.size, 5, none⟩ = some (.int .u64 x.c.delta) := hxa.cell 5
                have z6 : wc.cell? ⟨w.heap.size, 6, none⟩ = some (.slice x.D x.c.data.length x.dc) := hxa.cell 6
                have z7 : wc.cell? ⟨w.heap.size, 7, none⟩ = some (.bool nr) := hxa.cell 7
                have z8 : wc.cell? ⟨w.heap.size, 8, none⟩ = some (.bool false) := hxa.cell 8
                have z9 : wc.cell? ⟨w.heap.size, 9, none⟩ = some (.slice x.M x.c.metas.length x.mc) := hxa.cell 9
                have z10 : wc.cell? ⟨w.heap.size, 10, none⟩ = some (str x.c.what) := hxa.cell 10
                have r4 : wc.cell? ⟨g1, 4, none⟩ = some (.bool rr) := hra.cell 4
                have r5 : wc.cell? ⟨g1, 5, none⟩ = some (.bool rb) := hra.cell 5
                clear hxa hra hbw hb5 HXA HRA HHA
                cases hc3 : chk3 x.c with
                | true =>
                  as_aux_lemma =>
                    have hm : mayB x.c = false := by rw [HMB.out, hc3]; rfl
                    have HM := Lib.hid hm
                    clear hm
                    go_wp2_with fail
                    rw [← HR.out]
                    exact ⟨by rw [HM.out]; rfl, HBC.out⟩
                | false =>
                  rw [hc3] at HMB
                  clear hc3
                  go_upto_region 16 with fail
                  go_cut [133] (fun rv wx => rv = .bool (chk4 x.c) ∧ wx = wc)
                  case first =>
                    have HC := HC4
                    clear HC1 HC2 HC3 HC4 HC5 HMB z1 z2 z3 z4 z5 z6 z7 z8 z9 r4 r5
                    by_cases h_w0 : x.c.what ≠ []
                    · have i_w0 := decide_eq_true h_w0
                      have j_w00 : (x.c.what).isEmpty = false := List.isEmpty_eq_false_iff.2 h_w0
                      by_cases h_v19 : v ≠ 19
                      · have i_v19 := decide_eq_true h_v19
                        have j_v190 : ((v : Int) == 19) = false := by rw [beq_eq_false_iff_ne]; omega
                        have j_v191 : ((v : Int) != 19) = true := by rw [bne_iff_ne]; omega
                        as_aux_lemma =>
                          have hq : chk4 x.c = true := by rw [HC.out]; simp only [i_w0, i_v19]; rfl
                          have HQ := Lib.hid hq
                          clear hq
                          go_wp2_with fail
                          go_meet
                          exact ⟨congrArg Value.bool HQ.out.symm, rfl⟩
                      · have i_v19 := decide_eq_false h_v19
                        have j_v190 : ((v : Int) == 19) = true := by rw [beq_iff_eq]; omega
                        have j_v191 : ((v : Int) != 19) = false := by rw [bne_eq_false_iff_eq]; omega
                        by_cases h_ws : x.c.what ≠ slabsW
                        · have i_ws := decide_eq_true h_ws
                          have j_ws0 : (x.c.what == ([115, 108, 97, 98, 115] : Sp.Bs)) = false := beq_eq_false_iff_ne.2 h_ws
                          by_cases h_wr : x.c.what ≠ resetW
                          · have i_wr := decide_eq_true h_wr
                            have j_wr0 : (x.c.what == ([114, 101, 115, 101, 116] : Sp.Bs)) = false := beq_eq_false_iff_ne.2 h_wr
                            as_aux_lemma =>
                              have hq : chk4 x.c = true := by rw [HC.out]; simp only [i_w0, i_v19, i_ws, i_wr]; rfl
                              have HQ := Lib.hid hq
                              clear hq
                              go_wp2_with fail
                              go_meet
                              exact ⟨congrArg Value.bool HQ.out.symm, rfl⟩
                          · have i_wr := decide_eq_false h_wr
                            have j_wr0 : (x.c.what == ([114, 101, 115, 101, 116] : Sp.Bs)) = true := beq_iff_eq.2 (Classical.not_not.1 h_wr)
                            as_aux_lemma =>
                              have hq : chk4 x.c = false := by rw [HC.out]; simp only [i_w0, i_v19, i_ws, i_wr]; rfl
                              have HQ := Lib.hid hq
                              clear hq
                              go_wp2_with fail
                              go_meet
                              exact ⟨congrArg Value.bool HQ.out.symm, rfl⟩
                        · have i_ws := decide_eq_false h_ws
                          have j_ws0 : (x.c.what == ([115, 108, 97, 98, 115] : Sp.Bs)) = true := beq_iff_eq.2 (Classical.not_not.1 h_ws)
                          as_aux_lemma =>
                            have hq : chk4 x.c = false := by rw [HC.out]; simp only [i_w0, i_v19, i_ws]; rfl
                            have HQ := Lib.hid hq
                            clear hq
                            go_wp2_with fail
                            go_meet
                            exact ⟨congrArg Value.bool HQ.out.symm, rfl⟩
                    · have i_w0 := decide_eq_false h_w0
                      have j_w00 : (x.c.what).isEmpty = true := List.isEmpty_iff.2 (Classical.not_not.1 h_w0)
                      as_aux_lemma =>
                        have hq : chk4 x.c = false := by rw [HC.out]; simp only [i_w0]; rfl
                        have HQ := Lib.hid hq
                        clear hq
                        go_wp2_with fail
                        go_meet
                        exact ⟨congrArg Value.bool HQ.out.symm, rfl⟩
                  case rest =>
                    obtain ⟨rfl, hw⟩ := hcut
                    subst hw
                    cases hc4 : chk4 x.c with
                    | true =>
                      as_aux_lemma =>
                        have hm : mayB x.c = false := by rw [HMB.out, hc4]; rfl
                        have HM := Lib.hid hm
                        clear hm
                        go_wp2_with fail
                        rw [← HR.out]
                        exact ⟨by rw [HM.out]; rfl, HBC.out⟩
                    | false =>
                      rw [hc4] at HMB
                      clear hc4
                      go_upto_region 18 with fail
                      go_cut [167] (fun rv wx => rv = .bool (chk5 x.c) ∧ wx = wc)
                      case first =>
                        have HC := HC5
                        clear HC1 HC2 HC3 HC4 HC5 HMB z1 z2 z4 z5 z8 z9 z10
                        by_cases h_v15 : v = 15
                        · have i_v15 := decide_eq_true h_v15
                          have j_v150 : ((v : Int) == 15) = true := by rw [beq_iff_eq]; omega
                          by_cases h_en : x.c.exptime < 0
                          · have i_en := decide_eq_true h_en
                            have j_en0 : decide (x.c.exptime < 0) = true := decide_eq_true h_en
                            as_aux_lemma =>
                              have hq : chk5 x.c = true := by rw [HC.out]; simp only [i_v15, i_en]; rfl
                              have HQ := Lib.hid hq
                              clear hq h_v15 i_v15
                              go_wp2_with fail
                              go_meet
                              exact ⟨congrArg Value.bool HQ.out.symm, rfl⟩
                          · have i_en := decide_eq_false h_en
                            have j_en0 : decide (x.c.exptime < 0) = false := decide_eq_false h_en
                            cases nr with
                            | true =>
                              cases rr with
                              | true =>
                                by_cases h_dl : 0 < x.c.data.length
                                · have i_dl := decide_eq_true h_dl
                                  have j_dl0 : decide ((0 : Int) < (x.c.data.length : Int)) = true := decide_eq_true (by omega)
                                  cases rb with
                                  | true =>
                                    have h_db : ¬ 2147483647 < x.c.data.length := by omega
                                    have i_db := decide_eq_false h_db
                                    have j_db0 : decide ((2147483647 : Int) < (x.c.data.length : Int)) = false := decide_eq_false (by omega)
                                    as_aux_lemma =>
                                      have hq : chk5 x.c = false := by rw [HC.out]; simp only [i_v15, i_en, i_dl, i_db]; rfl
                                      have HQ := Lib.hid hq
                                      clear hq h_v15 i_v15
                                      go_wp2_with fail
                                      go_meet
                                      exact ⟨congrArg Value.bool HQ.out.symm, rfl⟩
                                  | false =>
                                    as_aux_lemma =>
                                      have hq : chk5 x.c = true := by rw [HC.out]; simp only [i_v15, i_en, i_dl]; rfl
                                      have HQ := Lib.hid hq
                                      clear hq h_v15 i_v15
                                      go_wp2_with fail
                                      go_meet
                                      exact ⟨congrArg Value.bool HQ.out.symm, rfl⟩
                                · have i_dl := decide_eq_false h_dl
                                  have j_dl0 : decide ((0 : Int) < (x.c.data.length : Int)) = false := decide_eq_false (by omega)
                                  have h_db : ¬ 2147483647 < x.c.data.length := by omega
                                  have i_db := decide_eq_false h_db
                                  have j_db0 : decide ((2147483647 : Int) < (x.c.data.length : Int)) = false := decide_eq_false (by omega)
                                  as_aux_lemma =>
                                    have hq : chk5 x.c = false := by rw [HC.out]; simp only [i_v15, i_en, i_dl, i_db]; rfl
                                    have HQ := Lib.hid hq
                                    clear hq h_v15 i_v15
                                    go_wp2_with fail
                                    go_meet
                                    exact ⟨congrArg Value.bool HQ.out.symm, rfl⟩
                              | false =>
                                as_aux_lemma =>
                                  have hq : chk5 x.c = true := by rw [HC.out]; simp only [i_v15, i_en]; rfl
                                  have HQ := Lib.hid hq
                                  clear hq h_v15 i_v15
                                  go_wp2_with fail
                                  go_meet
                                  exact ⟨congrArg Value.bool HQ.out.symm, rfl⟩
                            | false =>
                              by_cases h_dl : 0 < x.c.data.length
                              · have i_dl := decide_eq_true h_dl
                                have j_dl0 : decide ((0 : Int) < (x.c.data.length : Int)) = true := decide_eq_true (by omega)
                                cases rb with
                                | true =>
                                  have h_db : ¬ 2147483647 < x.c.data.length := by omega
                                  have i_db := decide_eq_false h_db
                                  have j_db0 : decide ((2147483647 : Int) < (x.c.data.length : Int)) = false := decide_eq_false (by omega)
                                  as_aux_lemma =>
                                    have hq : chk5 x.c = false := by rw [HC.out]; simp only [i_v15, i_en, i_dl, i_db]; rfl
                                    have HQ := Lib.hid hq
                                    clear hq h_v15 i_v15
                                    go_wp2_with fail
                                    go_meet
                                    exact ⟨congrArg Value.bool HQ.out.symm, rfl⟩
                                | false =>
                                  as_aux_lemma =>
                                    have hq : chk5 x.c = true := by rw [HC.out]; simp only [i_v15, i_en, i_dl]; rfl
                                    have HQ := Lib.hid hq
                                    clear hq h_v15 i_v15
                                    go_wp2_with fail
                                    go_meet
                                    exact ⟨congrArg Value.bool HQ.out.symm, rfl⟩
                              · have i_dl := decide_eq_false h_dl
                                have j_dl0 : decide ((0 : Int) < (x.c.data.length : Int)) = false := decide_eq_false (by omega)
                                have h_db : ¬ 2147483647 < x.c.data.length := by omega
                                have i_db := decide_eq_false h_db
                                have j_db0 : decide ((2147483647 : Int) < (x.c.data.length : Int)) = false := decide_eq_false (by omega)
                                as_aux_lemma =>
                                  have hq : chk5 x.c = false := by rw [HC.out]; simp only [i_v15, i_en, i_dl, i_db]; rfl
                                  have HQ := Lib.hid hq
                                  clear hq h_v15 i_v15
                                  go_wp2_with fail
                                  go_meet
                                  exact ⟨congrArg Value.bool HQ.out.symm, rfl⟩
                        · have i_v15 := decide_eq_false h_v15
                          have j_v150 : ((v : Int) == 15) = false := by rw [beq_eq_false_iff_ne]; omega
                          cases nr with
                          | true =>
                            cases rr with
                            | true =>
                              by_cases h_dl : 0 < x.c.data.length
                              · have i_dl := decide_eq_true h_dl
                                have j_dl0 : decide ((0 : Int) < (x.c.data.length : Int)) = true := decide_eq_true (by omega)
                                cases rb with
                                | true =>
                                  have h_db : ¬ 2147483647 < x.c.data.length := by omega
                                  have i_db := decide_eq_false h_db
                                  have j_db0 : decide ((2147483647 : Int) < (x.c.data.length : Int)) = false := decide_eq_false (by omega)
                                  as_aux_lemma =>
                                    have hq : chk5 x.c = false := by rw [HC.out]; simp only [i_v15, i_dl, i_db]; rfl
                                    have HQ := Lib.hid hq
                                    clear hq h_v15 i_v15
                                    go_wp2_with fail
                                    go_meet
                                    exact ⟨congrArg Value.bool HQ.out.symm, rfl⟩
                                | false =>
                                  as_aux_lemma =>
                                    have hq : chk5 x.c = true := by rw [HC.out]; simp only [i_v15, i_dl]; rfl
                                    have HQ := Lib.hid hq
                                    clear hq h_v15 i_v15
                                    go_wp2_with fail
                                    go_meet
                                    exact ⟨congrArg Value.bool HQ.out.symm, rfl⟩
                              · have i_dl := decide_eq_false h_dl
                                have j_dl0 : decide ((0 : Int) < (x.c.data.length : Int)) = false := decide_eq_false (by omega)
                                have h_db : ¬ 2147483647 < x.c.data.length := by omega
                                have i_db := decide_eq_false h_db
                                have j_db0 : decide ((2147483647 : Int) < (x.c.data.length : Int)) = false := decide_eq_false (by omega)
                                as_aux_lemma =>
                                  have hq : chk5 x.c = false := by rw [HC.out]; simp only [i_v15, i_dl, i_db]; rfl
                                  have HQ := Lib.hid hq
                                  clear hq h_v15 i_v15
                                  go_wp2_with fail
                                  go_meet
                                  exact ⟨congrArg Value.bool HQ.out.symm, rfl⟩
                            | false =>
                              as_aux_lemma =>
                                have hq : chk5 x.c = true := by rw [HC.out]; simp only [i_v15]; rfl
                                have HQ := Lib.hid hq
                                clear hq h_v15 i_v15
                                go_wp2_with fail
                                go_meet
                                exact ⟨congrArg Value.bool HQ.out.symm, rfl⟩
                          | false =>
                            by_cases h_dl : 0 < x.c.data.length
                            · have i_dl := decide_eq_true h_dl
                              have j_dl0 : decide ((0 : Int) < (x.c.data.length : Int)) = true := decide_eq_true (by omega)
                              cases rb with
                              | true =>
                                have h_db : ¬ 2147483647 < x.c.data.length := by omega
                                have i_db := decide_eq_false h_db
                                have j_db0 : decide ((2147483647 : Int) < (x.c.data.length : Int)) = false := decide_eq_false (by omega)
                                as_aux_lemma =>
                                  have hq : chk5 x.c = false := by rw [HC.out]; simp only [i_v15, i_dl, i_db]; rfl
                                  have HQ := Lib.hid hq
                                  clear hq h_v15 i_v15
                                  go_wp2_with fail
                                  go_meet
                                  exact ⟨congrArg Value.bool HQ.out.symm, rfl⟩
                              | false =>
                                as_aux_lemma =>
                                  have hq : chk5 x.c = true := by rw [HC.out]; simp only [i_v15, i_dl]; rfl
                                  have HQ := Lib.hid hq
                                  clear hq h_v15 i_v15
                                  go_wp2_with fail
                                  go_meet
                                  exact ⟨congrArg Value.bool HQ.out.symm, rfl⟩
                            · have i_dl := decide_eq_false h_dl
                              have j_dl0 : decide ((0 : Int) < (x.c.data.length : Int)) = false := decide_eq_false (by omega)
                              have h_db : ¬ 2147483647 < x.c.data.length := by omega
                              have i_db := decide_eq_false h_db
                              have j_db0 : decide ((2147483647 : Int) < (x.c.data.length : Int)) = false := decide_eq_false (by omega)
                              as_aux_lemma =>
                                have hq : chk5 x.c = false := by rw [HC.out]; simp only [i_v15, i_dl, i_db]; rfl
                                have HQ := Lib.hid hq
                                clear hq h_v15 i_v15
                                go_wp2_with fail
                                go_meet
                                exact ⟨congrArg Value.bool HQ.out.symm, rfl⟩
                      case rest =>
                        obtain ⟨rfl, hw⟩ := hcut
                        subst hw
                        cases hc5 : chk5 x.c with
                        | true =>
                          as_aux_lemma =>
                            have hm : mayB x.c = false := by rw [HMB.out, hc5]; rfl
                            have HM := Lib.hid hm
                            clear hm
                            go_wp2_with fail
                            rw [← HR.out]
                            exact ⟨by rw [HM.out]; rfl, HBC.out⟩
                        | false =>
                          have hm : mayB x.c = decide (L.length ≤ 2048) := by rw [HMB.out, hc5]; rfl
                          have hli := HLI.out wc HBC.out
                          rw [HLC.out] at hli
                          have hll := HLEN.out
                          have HM := Lib.hid hm
                          have HLN := Lib.hid hli
                          clear hm hli hc5 r4 r5
                          by_cases hL : L.length ≤ 2048
                          · have e1 : decide ((L.length : Int) ≤ 2048) = true := decide_eq_true (by omega)
                            have e2 : mayB x.c = true := by rw [HM.out]; exact decide_eq_true hL
                            have HE := Lib.hid e2
                            clear e2
                            go_wp2_with (go_at_call 40; refine HLN.out.mono ?_; rintro e w6 ⟨rfl, hb6⟩; have HB6 := Lib.hid hb6; clear hb6)
                            rw [← HR.out]
                            exact ⟨by rw [HE.out]; rfl, HBC.out.trans (HB6.out.mono HBC.out.size)⟩
                          · have e1 : decide ((L.length : Int) ≤ 2048) = false := decide_eq_false (by omega)
                            have e2 : mayB x.c = false := by rw [HM.out]; exact decide_eq_false hL
                            have HE := Lib.hid e2
                            clear e2
                            go_wp2_with (go_at_call 40; refine HLN.out.mono ?_; rintro e w6 ⟨rfl, hb6⟩; have HB6 := Lib.hid hb6; clear hb6)
                            rw [← HR.out]
                            exact ⟨by rw [HE.out]; rfl, HBC.out.trans (HB6.out.mono HBC.out.size)⟩
end Go.Proofs.YthgfjafnclklpaaGreatDoor
