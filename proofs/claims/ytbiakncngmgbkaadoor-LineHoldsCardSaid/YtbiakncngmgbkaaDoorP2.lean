/- Walk of the statement LineHolds. -/
import Derived.Test.YtbiakncngmgbkaaDoorK1
import Derived.Test.YtbiakncngmgbkaaDoorP1
import Derived.Deep.QuietTactic
import Derived.BigQuiet
import Derived.IntWalk
namespace Go.Proofs.YtbiakncngmgbkaaDoor
attribute [local go_sem ↓] Go.wp_at_zero Go.wp_at_succ
open Go.RowKit

/-- a Feeder behind some pieces -/
def fedBy (lim : Nat) (ps : List Sp.Bs) : Sp.FeedV := ps.foldl (fun s p => s.feed lim p) {}

theorem fedBy_succ (lim : Nat) {ps : List Sp.Bs} {k : Nat} {p : Sp.Bs} (h : ps[k]? = some p) : fedBy lim (ps.take (k + 1)) = (fedBy lim (ps.take k)).feed lim p := by
  unfold fedBy
  rw [List.take_add_one, h, List.foldl_append]
  rfl
theorem fedBy_snoc (lim : Nat) (ps : List Sp.Bs) (p : Sp.Bs) : fedBy lim (ps ++ [p]) = (fedBy lim ps).feed lim p := by
  unfold fedBy
  rw [List.foldl_append]
  rfl
theorem feed_nil (lim : Nat) (s : Sp.FeedV) (p : Sp.Bs) : (s.feed lim p).feed lim [] = s.feed lim p := rfl

theorem fedBy_ok (lim : Nat) : ∀ (n : Nat) (ps : List Sp.Bs), ps.length = n → Keeps lim (fedBy lim ps) ∧ (fedBy lim ps).Fits (3 * ps.flatten.length) ∧ (fedBy lim ps).out = [] ∧ (fedBy lim ps).taken = ps.flatten.length
  | 0, ps, h => by
    obtain rfl : ps = [] := List.eq_nil_of_length_eq_zero h
    exact ⟨keeps_new lim, fits_new, rfl, rfl⟩
  | n + 1, ps, h => by
    obtain ⟨l, p, rfl⟩ : ∃ l p, ps = l ++ [p] := ⟨ps.dropLast, ps.getLast (by intro e; subst e; cases h), (List.dropLast_concat_getLast _).symm⟩
    have ih := fedBy_ok lim n l (by simpa using h)
    rw [fedBy_snoc]
    refine ⟨keeps_feed ih.1 p, ?_, rfl, ?_⟩
    · have := fits_feed (lim := lim) ih.2.1 p
      have e : 3 * l.flatten.length + 3 * p.length = 3 * (l ++ [p]).flatten.length := by simp; omega
      rw [← e]; exact this
    · rw [feed_taken, ih.2.2.2]; simp

theorem feed_none {lim : Nat} {s : Sp.FeedV} (h : s.out = []) : s.feed lim [] = s := by
  cases s
  simp only at h
  subst h
  rfl
theorem told_none {lim : Nat} {s : Sp.FeedV} (h : s.out = []) : s.told lim [] = [] := h
theorem below_drewN {B : Nat} {a w : World} (h : Below B a w) (n : Nat) : Below B a (w.drewN n) := ⟨h.os, h.tape, h.output, h.size, h.block⟩

/-- the bound of LineHolds -/
def holdBound (limit : Int) : Int := if 0 < limit ∧ limit ≤ 12000 then 2051 + limit else if 12000 < limit then 14051 else 2051

theorem holdBound_ge {limit : Int} {s : Sp.FeedV} (h : Keeps limit.toNat s) (ht : s.taken ≤ 12000) : (s.held : Int) ≤ holdBound limit := by
  have := held_bound h
  unfold holdBound
  split
  · omega
  · split <;> omega

theorem StepsMem.to {w : World} : ∀ {ts : List Sp.StepV} {cs : List Value} {bl : List Nat} (_ : StepsMem w ts cs bl) (j : Nat) (t : Sp.StepV), ts[j]? = some t → cs[j * 16 + 15]? = some (.int .i64 t.to)
  | [], _, _, _, j, t, h => by simp at h
  | t0 :: ts, _, _, ⟨kv, dv, mv, cs', bl', h1, h2, h3, h4⟩, 0, t, h => by
    simp at h; subst h
    rw [h1]
    simp [stepCells, cmdCells, wrongCells]
  | t0 :: ts, _, _, ⟨kv, dv, mv, cs', bl', h1, h2, h3, h4⟩, j + 1, t, h => by
    have ih := h4.to j t (by simpa using h)
    have e : (j + 1) * 16 + 15 = (stepCells t0 kv dv mv).length + (j * 16 + 15) := by simp [stepCells, cmdCells, wrongCells]; omega
    rw [h1, e, List.getElem?_append_right (by omega)]
    simpa using ih

/-- the box of the parameter -/
def boxCells (A : Option Addr) (n capA : Nat) (limit : Int) (bv cv : Value) : Array Value := #[.slice A n capA, .int .i64 limit, bv, cv]

set_option maxHeartbeats 8000000 in
set_option maxRecDepth 100000 in
theorem lineHolds_any {w : World} (hg : Glob w) {A B C : Option Addr} {capA capB capC : Nat} {raw : Sp.Bs} {one two : List Int} {limit : Int} (hl1 : -9223372036854775808 ≤ limit) (hl2 : limit ≤ 9223372036854775807)
    (hcA : raw.length ≤ capA) (hcA2 : capA ≤ 9223372036854775807) (hcC : two.length ≤ 9223372036854775807)
    (hrow : RowAt w A (bytesV raw)) (hA : A = none → capA = 0) (hrowC : RowAt w C (intsV two)) :
    Calls Tryd.prog 4 #[.agg #[.slice A raw.length capA, .int .i64 limit, .slice B one.length capB, .slice C two.length capC]] w fun e w' => e = .returned (.bool true) ∧ Below w.heap.size w w' := by
  generalize hR : (fun (e : Ending) (w' : World) => e = .returned (.bool true) ∧ Below w.heap.size w w') = R
  have HR := Lib.hid hR
  have HG := Lib.hid hg
  have HROW := Lib.hid hrow
  have HROWC := Lib.hid hrowC
  have HA := Lib.hid hA
  clear hR hg hrow hrowC hA
  go_enter Tryd.func4, Tryd.ntmps4
  go_upto_if 14 with fail
  go_cut [1] (fun b wx => b = .pointer (some ⟨w.heap.size, 0, none⟩) ∧ Blk wx w.heap.size 26 (boxCells A (raw.take 12000).length capA limit (.slice B one.length capB) (.slice C two.length capC)) ∧ Below w.heap.size w wx)
  case first =>
    have hb0 : Below w.heap.size w (w.alloc (.cells (boxCells A raw.length capA limit (.slice B one.length capB) (.slice C two.length capC)) 26)) := (Below.refl _ _).alloc (Nat.le_refl _) _
    have hbl := Blk.new w 26 (boxCells A raw.length capA limit (.slice B one.length capB) (.slice C two.length capC))
    by_cases hc : (12000 : Int) < (raw.length : Int)
    · have hlen : (raw.take 12000).length = 12000 := by rw [List.length_take]; omega
      have hca : (12000 : Int) ≤ (capA : Int) := by omega
      have hbn := Blk.new w 26 (boxCells A 12000 capA limit (.slice B one.length capB) (.slice C two.length capC))
      have hb1 : Below w.heap.size w (w.alloc (.cells (boxCells A 12000 capA limit (.slice B one.length capB) (.slice C two.length capC)) 26)) := (Below.refl _ _).alloc (Nat.le_refl _) _
      rw [← hlen] at hbn hb1
      have HF := Lib.hid hbn
      have HB := Lib.hid hb1
      clear hbn hb1 hbl hb0
      go_wp2_with fail
      go_meet
      refine ⟨rfl, HF.out.same ?_, ?_⟩
      · rw [hlen]; rfl
      · have := HB.out
        rwa [hlen] at this
    · have hlen : raw.take 12000 = raw := List.take_of_length_le (by omega)
      have hfin : Blk (w.alloc (.cells (boxCells A raw.length capA limit (.slice B one.length capB) (.slice C two.length capC)) 26)) w.heap.size 26 (boxCells A (raw.take 12000).length capA limit (.slice B one.length capB) (.slice C two.length capC)) := by rw [hlen]; exact hbl
      have HF := Lib.hid hfin
      have HB := Lib.hid hb0
      clear hfin hbl hb0 hlen
      go_wp2_with fail
      go_meet
      exact ⟨rfl, HF.out, HB.out⟩
  case rest =>
    obtain ⟨rfl, hbx, hbw⟩ := hcut
    obtain ⟨raw', hraw'⟩ : ∃ raw', raw' = raw.take 12000 := ⟨_, rfl⟩
    have hlen1 : raw'.length ≤ 12000 := by rw [hraw', List.length_take]; omega
    have hlen2 : raw'.length ≤ capA := by rw [hraw', List.length_take]; omega
    have hrow1 : RowAt w A (bytesV raw') := by rw [hraw']; have := HROW.out.take 12000; simpa [bytesV] using this
    rw [← hraw'] at hbx
    have HROW1 := Lib.hid hrow1
    clear hraw' hrow1 HROW
    have hgc := HG.out.later hbw
    have hltw : w.heap.size < wc.heap.size := hbx.lt
    have hn := new_any wc hgc.size limit
    have y0 : _ = some (Value.slice A raw'.length capA) := hbx.cell 0
    have y1 : _ = some (Value.int .i64 limit) := hbx.cell 1
    have y3 : _ = some (Value.slice C two.length capC) := hbx.cell 3
    have HBX := Lib.hid hbx
    have HBW := Lib.hid hbw
    have HGC := Lib.hid hgc
    have HN := Lib.hid hn
    clear hbx hbw hgc hn
    go_upto_region 7 with (refine HN.out.mono ?_; rintro e w1 ⟨rfl, hf, hb1⟩; have z0 : _ = some (Value.slice A raw'.length capA) := (HBX.out.later hb1).cell 0; have z1 : _ = some (Value.int .i64 limit) := (HBX.out.later hb1).cell 1; have z3 : _ = some (Value.slice C two.length capC) := (HBX.out.later hb1).cell 3; clear y0 y1 y3; have HFD := Lib.hid hf; have HB1 := Lib.hid hb1; clear hf hb1)
    go_cut [31] (fun q wx => q = .bool (decide (0 < limit ∧ limit ≤ 12000)) ∧ w1 = wx)
    case first =>
      by_cases h1 : 0 < limit
      · by_cases h2 : limit ≤ 12000
        · go_wp2_with fail
          go_meet
          exact ⟨by simp [h1, h2], rfl⟩
        · go_wp2_with fail
          go_meet
          exact ⟨by simp [h1, h2], rfl⟩
      · go_wp2_with fail
        go_meet
        exact ⟨by rw [decide_eq_false (by omega)], rfl⟩
    case rest =>
      obtain ⟨rfl, rfl⟩ := hcut
      go_upto_if 31 with fail
      go_cut [4] (fun q wx => q = .int .i64 (if 0 < limit ∧ limit ≤ 12000 then 2051 + limit else 2051) ∧ w1 = wx)
      case first =>
        by_cases h1 : 0 < limit ∧ limit ≤ 12000
        · go_wp2_with fail
          go_meet
          exact ⟨by rw [if_pos h1], rfl⟩
        · go_wp2_with fail
          go_meet
          exact ⟨by rw [if_neg h1], rfl⟩
      case rest =>
        obtain ⟨rfl, rfl⟩ := hcut
        obtain ⟨b1, hb1e⟩ : ∃ b1, b1 = (if 0 < limit ∧ limit ≤ 12000 then 2051 + limit else 2051) := ⟨_, rfl⟩
        have hb1x : 2051 ≤ b1 ∧ b1 ≤ 14051 := by rw [hb1e]; split <;> omega
        have hb2e : holdBound limit = if 12000 < limit then b1 + 12000 else b1 := by
          unfold holdBound; rw [hb1e]; split
          · rw [if_neg (by omega)]
          · split <;> omega
        have HB2E := Lib.hid hb2e
        rw [← hb1e]
        clear hb1e hb2e
        go_upto_if 38 with fail
        go_cut [4] (fun q wx => q = .int .i64 (holdBound limit) ∧ w1 = wx)
        case first =>
          by_cases h1 : 12000 < limit
          · go_wp2_with fail
            go_meet
            exact ⟨by rw [HB2E.out, if_pos (by omega)], rfl⟩
          · go_wp2_with fail
            go_meet
            exact ⟨by rw [HB2E.out, if_neg (by omega)], rfl⟩
        case rest =>
          obtain ⟨rfl, rfl⟩ := hcut
          have hg1 := HGC.out.later HB1.out
          have hbw1 := HBW.out.trans (HB1.out.mono HBW.out.size)
          have hp := pieces_any (w := w1) (capB := capC) (by omega) hlen2 hcA2 hcC (HROW1.out.below hbw1) HA.out (HROWC.out.below hbw1)
          have HP := Lib.hid hp
          have HG1 := Lib.hid hg1
          have HBW1 := Lib.hid hbw1
          clear hp hg1 hbw1
          have hpc := piecesOf_count raw' two
          have hpf := piecesOf_flat raw' two
          go_wp2_with (refine HP.out.mono ?_; rintro e w2 ⟨pg, pc, pcs, rfl, hown2, hrm2, hb2⟩; have HOWN2 := Lib.hid hown2; have HRM2 := Lib.hid hrm2; have HB2 := Lib.hid hb2; clear hown2 hrm2 hb2)
          obtain ⟨ps, hps⟩ : ∃ ps, ps = piecesOf raw' two := ⟨_, rfl⟩
          rw [← hps] at HOWN2 HRM2 hpc hpf ⊢
          have HPF := Lib.hid hpf
          have hfeed2 : FeedAt w2 wc.heap.size limit.toNat {} nilRow nilRow nilRow nilRow nilRow [] [] := HFD.out.later HB2.out
          have hlo : wc.heap.size < w2.heap.size := by have := HFD.out.blk.lt; have := HB2.out.size; omega
          have hmade : MadeAt w2 w2.heap.size wc.heap.size limit.toNat (fedBy limit.toNat (ps.take 0)) w2 := ⟨⟨_, _, _, _, hfeed2, by simp [ownList, rowBlock_nil]⟩, Nat.le_refl _, Only.refl _ _ _⟩
          have hg2 := HG1.out.later HB2.out
          have HM := Lib.hid hmade
          have HG2 := Lib.hid hg2
          clear hps hpf hfeed2 hmade hg2 HP
          go_loopw [5, 6, 8, 9, 10] (fun a q i _ _ wr => ∃ k : Nat, k ≤ ps.length ∧ i = .int .i64 k ∧ a = .int .i64 (ps.take k).flatten.length ∧ q = .bool (fedBy limit.toNat (ps.take k)).ended ∧ MadeAt w2 w2.heap.size wc.heap.size limit.toNat (fedBy limit.toNat (ps.take k)) wr ∧ Glob wr) (fun _ _ i _ _ _ => ps.length - (intOf i).toNat)
          case atStart => exact ⟨0, by omega, rfl, rfl, rfl, HM.out, HG2.out⟩
          case round =>
            obtain ⟨k, hk, rfl, rfl, rfl, hm, hgr⟩ := hrel
            obtain ⟨hkeep, hfit, hout, htak⟩ := fedBy_ok limit.toNat _ (ps.take k) rfl
            have hle := flat_take_le ps k
            rw [HPF.out] at hle
            by_cases hlt : k < ps.length
            · obtain ⟨p, hp⟩ : ∃ p, ps[k]? = some p := ⟨ps[k], by simp [hlt]⟩
              have hsucc := fedBy_succ limit.toNat hp
              have hflat := flat_take_succ hp
              have hle2 := flat_take_le ps (k + 1)
              rw [HPF.out, hflat, List.length_append] at hle2
              obtain ⟨gp, cp, hpcs, hpown⟩ := HRM2.out.2 k p hp
              have hpg : w1.heap.size ≤ pg := own_ge HOWN2.out pg (by simp [rowBlock, Value.ownBlock])
              have hpg2 : pg < w2.heap.size := own_lt HOWN2.out pg (by simp [rowBlock, Value.ownBlock])
              have hgp : w1.heap.size ≤ gp := own_ge hpown gp (by simp [rowBlock, Value.ownBlock])
              have hgp2 : gp < w2.heap.size := own_lt hpown gp (by simp [rowBlock, Value.ownBlock])
              have hfb : wc.heap.size < w1.heap.size := HFD.out.blk.lt
              have hcell2 : w2.cell? ⟨pg, k, none⟩ = some (.slice (some ⟨gp, 0, none⟩) p.length cp) := by
                have h := RowAt.of_own HOWN2.out
                have := h.cells k _ hpcs
                rwa [Addr.add_mid, Nat.zero_add] at this
              have hcellr : ∀ W, Only wc.heap.size w2.heap.size w2 W → W.cell? ⟨pg, k, none⟩ = some (.slice (some ⟨gp, 0, none⟩) p.length cp) := fun W ho =>
                (World.cell?_of_block (ho.block pg hpg2 (by omega))).trans hcell2
              have hrowp : RowAt wr (some ⟨gp, 0, none⟩) (bytesV p) := RowAt.of_own (own_same hpown fun x hx => hm.only.block x (own_lt hpown x hx) (by have := own_ge hpown x hx; omega))
              have hc := made_feed (cap := cp) hm (Below.refl _ _) hgr hfit (by omega) hrowp (fun a ha => by injection ha with ha; subst ha; exact .inl ⟨hgp2, by show gp ≠ wc.heap.size; omega⟩)
              have hte := told_ends limit.toNat _ hout p
              have htl := fun he => ended_tells hkeep he hout p
              have htll : (fedBy limit.toNat (ps.take k)).told limit.toNat p = [] ∨ ((fedBy limit.toNat (ps.take k)).told limit.toNat p).length ≤ 100000 := .inr (by have := (fits_bytes (lim := limit.toNat) p hfit).out; unfold Sp.FeedV.told; omega)
              have yr := hcellr wr hm.only
              rw [← hsucc] at hc
              have hkeep1 := (fedBy_ok limit.toNat _ (ps.take (k + 1)) rfl)
              rw [hflat, List.length_append] at hkeep1
              rw [htak] at hte
              have hfl : (ps.take (k + 1)).flatten.length = (ps.take k).flatten.length + p.length := by rw [hflat, List.length_append]
              generalize hs1 : fedBy limit.toNat (ps.take (k + 1)) = s1 at hc hkeep1 ⊢
              generalize hs0 : fedBy limit.toNat (ps.take k) = s0 at *
              generalize (ps.take k).flatten.length = at0 at *
              generalize s0.told limit.toNat p = tl at *
              have htll2 : tl.length ≤ 100000 := by rcases htll with h | h <;> simp_all
              have HTE := Lib.hid hte
              have HTL := Lib.hid htl
              have HC := Lib.hid hc
              have HK1 := Lib.hid hkeep1
              have HFL := Lib.hid hfl
              have HS1 := Lib.hid hs1
              have HSU := Lib.hid hsucc
              have HCR := Lib.hid hcellr
              clear hte htl htll hc hkeep1 hfl hs1 hs0 hsucc hcellr hrowp hcell2 hm hgr hkeep hfit hout htak hp hflat hpcs hpown
              go_wp2_with (refine HC.out.mono ?_; rintro e w3 ⟨p3, c3, tc, T, rfl, hm3, hown3, hst3, hsz3, hg3⟩; have HM3 := Lib.hid hm3; have HO3 := Lib.hid hown3; have HS3 := Lib.hid hst3; have HG3 := Lib.hid hg3; clear hm3 hown3 hst3 hg3)
              have hy3 : w3.cell? ⟨pg, k, none⟩ = some (.slice (some ⟨gp, 0, none⟩) p.length cp) := HCR.out w3 HM3.out.only
              have hpg3 : pg < w3.heap.size := by have := HM3.out.high; omega
              have HY3 := Lib.hid hy3
              clear hy3 yr
              go_loopw [10] (fun i wx => ∃ j : Nat, j ≤ tl.length ∧ i = .int .i64 j ∧ Below w3.heap.size w3 wx) (fun i _ => tl.length - (intOf i).toNat)
              case atStart => exact ⟨0, by omega, rfl, Below.refl _ _⟩
              case round =>
                obtain ⟨j, hj, rfl, hbx⟩ := hrel
                by_cases hjl : j < tl.length
                · obtain ⟨t, ht⟩ : ∃ t, tl[j]? = some t := ⟨tl[j], by simp [hjl]⟩
                  have hne : s0.ended = false := by
                    cases he : s0.ended with
                    | false => rfl
                    | true => have := HTL.out he; rw [this] at hjl; simp at hjl
                  have hto := HTE.out t (List.mem_of_getElem? ht)
                  obtain ⟨tg, ot, hp3, hto15⟩ : ∃ g o, p3 = some ⟨g, o, none⟩ ∧ wr.cell? ⟨g, o + j * 16 + 15, none⟩ = some (.int .i64 t.to) := by
                    have hrw := (RowAt.of_own HO3.out).below hbx
                    have hct := HS3.out.to j t ht
                    rcases hrw with h0 | ⟨g, o, h1, h2, h3⟩
                    · rw [h0] at hct; simp at hct
                    · exact ⟨g, o, h1, by rw [Nat.add_assoc]; exact h3 _ _ hct⟩
                  subst hp3
                  have hyx : _ = some (Value.slice (some ⟨gp, 0, none⟩) p.length cp) := (hbx.cell (p := ⟨pg, k, none⟩) hpg3).trans HY3.out
                  have hto1 := hto.1
                  have hto2 := hto.2
                  have HBX3 := Lib.hid hbx
                  rw [hne]
                  clear hto ht hbx
                  have hq1 : IntKind.i64.wrap ((at0 : Int) + (p.length : Int)) = (at0 : Int) + (p.length : Int) := IntWalk.i64_in _ (by omega)
                  have hd1 : decide (t.to ≤ at0) = false := decide_eq_false (by omega)
                  have hd2 : decide ((at0 : Int) + (p.length : Int) < (t.to : Int)) = false := decide_eq_false (by omega)
                  go_wp2_with fail
                  go_quiet (fail)
                  go_wp2_with fail
                  exact ⟨⟨j + 1, by omega, by go_num, below_drewN HBX3.out _⟩, by show tl.length - ((j : Int) + 1).toNat < tl.length - (j : Int).toNat; omega⟩
                · have hm4 := HM3.out.later hbx
                  have hg4 := HG3.out.later hbx
                  have hy4 : _ = some (Value.slice (some ⟨gp, 0, none⟩) p.length cp) := (hbx.cell (p := ⟨pg, k, none⟩) hpg3).trans HY3.out
                  have hk1 := HK1.out
                  have hb1 := holdBound_ge hk1.1 (by rw [hk1.2.2.2]; omega)
                  have hb2 : (s1.held : Int) ≤ (at0 : Int) + p.length := by have := (held_bound hk1.1).2; rw [hk1.2.2.2] at this; omega
                  have hb3 : (0 : Int) ≤ (s1.held : Int) := by omega
                  obtain ⟨⟨ln4, dv4, kv4, mv4, hfeed4, -⟩, -, -⟩ := hm4
                  have hce : Calls Tryd.prog 9 #[.pointer (some ⟨wc.heap.size, 0, none⟩)] wr fun e w' => e = .returned (.bool s1.ended) ∧ wr = w' := (ended_any hfeed4).mono fun e w' ⟨h1, h2⟩ => ⟨h1, h2.symm⟩
                  have hch : Calls Tryd.prog 10 #[.pointer (some ⟨wc.heap.size, 0, none⟩)] wr fun e w' => e = .returned (.int .i64 s1.held) ∧ wr = w' := (held_any hfeed4).mono fun e w' ⟨h1, h2⟩ => ⟨h1, h2.symm⟩
                  have hcf := made_feed (A := none) (cap := 0) (l := []) (HM3.out.later hbx) (Below.refl _ _) hg4 hk1.2.1 (by simp; omega) (.inl rfl) (fun a ha => by cases ha)
                  rw [feed_none hk1.2.2.1, told_none hk1.2.2.1] at hcf
                  have HCE := Lib.hid hce
                  have HCH := Lib.hid hch
                  have HCF := Lib.hid hcf
                  clear hce hch hcf hk1 hg4 hfeed4 hbx
                  go_wp2_with (first | (go_at_call 9; refine HCE.out.mono ?_; rintro e w' ⟨rfl, rfl⟩) | (go_at_call 10; refine HCH.out.mono ?_; rintro e w' ⟨rfl, rfl⟩) | (go_at_call 8; refine HCF.out.mono ?_; rintro e w5 ⟨p5, c5, tc5, T5, rfl, hm5, -, -, -, hg5⟩; have HM5 := Lib.hid hm5; have HG5 := Lib.hid hg5; clear hm5 hg5))
                  exact ⟨⟨k + 1, by omega, by go_num, by rw [HFL.out]; go_num, by rw [HS1.out], by rw [HS1.out]; exact HM5.out, HG5.out⟩, by show ps.length - ((k : Int) + 1).toNat < ps.length - (k : Int).toNat; omega⟩
            · have hwk := wakes_any hgr
              have hbf : Below w.heap.size w wr := HBW1.out.trans ((HB2.out.mono HBW1.out.size).trans (hm.only.below (by have := HBW1.out.size; have := HB2.out.size; omega) (by omega)))
              have HWK := Lib.hid hwk
              have HBF := Lib.hid hbf
              clear hwk hbf hm hgr hkeep hfit hout htak hle
              go_wp2_with (refine HWK.out.mono ?_; rintro e w6 ⟨rfl, hb6⟩; have HB6 := Lib.hid hb6; clear hb6)
              rw [← HR.out]
              exact ⟨rfl, HBF.out.trans (HB6.out.mono HBF.out.size)⟩
end Go.Proofs.YtbiakncngmgbkaaDoor
