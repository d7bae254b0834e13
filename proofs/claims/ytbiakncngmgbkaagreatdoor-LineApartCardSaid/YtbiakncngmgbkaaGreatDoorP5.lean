/- Walk of the statements' helper fed. -/
import Derived.Test.YtbiakncngmgbkaaGreatDoorP4
import Derived.Laws.AppendOwnNone
import Derived.Laws.MakeOwn
import Derived.Deep.CutRange
import Derived.Deep.DeepCutAuto
namespace Go.Proofs.YtbiakncngmgbkaaGreatDoor
attribute [local go_sem ↓] Go.wp_at_zero Go.wp_at_succ
open Go.RowKit

theorem info_i64 : (Tryz.prog.info? 3).map (fun i => (i.zero, i.size, i.bytes)) = some (some (.int .i64 0), 1, 8) := by kernel_rfl

/-- what is held at the pieces' ends; -1 elsewhere -/
def HeldOk (lim : Nat) (raw : Sp.Bs) (hs : List Int) : Prop := ∀ (j : Nat) (v : Int), hs[j]? = some v → v = -1 ∨ v = heldAt lim raw j

/-- what fed leaves and tells -/
def FedPost (w : World) (lim : Nat) (raw : Sp.Bs) (e : Ending) (w' : World) : Prop :=
  ∃ fb hb A c hs, e = .returned (.tuple #[.pointer (some ⟨fb, 0, none⟩), .slice A (toldAll lim raw).length c, .slice (some ⟨hb, 0, none⟩) (raw.length + 1) (raw.length + 1)]) ∧
    (∃ ln dv kv mv, FeedAt w' fb lim (endAll lim raw) nilRow ln dv kv mv [] []) ∧
    (∃ tcs bl, w'.ownsRow w.heap.size 61 16 (.slice A (toldAll lim raw).length c) (toldAll lim raw).length tcs ∧ StepsMem w' (toldAll lim raw) tcs bl) ∧
    Blk w' hb 3 (intsV hs).toArray ∧ hs.length = raw.length + 1 ∧ HeldOk lim raw hs ∧ Below w.heap.size w w' ∧ Glob w'

theorem intsV_set (hs : List Int) (k : Nat) (v : Int) : (intsV hs).toArray.setIfInBounds k (.int .i64 v) = (intsV (hs.set k v)).toArray := by
  simp [intsV, List.map_set]

theorem intsV_made (n : Nat) : madeCells #[.int .i64 0] n = (intsV (List.replicate n 0)).toArray := by
  apply Array.ext'
  rw [toList_madeCells_one]
  simp [intsV]

theorem own_cells_eq {w : World} {base base' : Nat} {e e' : TypeId} {size n : Nat} {v : Value} {xs ys : List Value} (h1 : w.ownsRow base e size v n xs) (h2 : w.ownsRow base' e' size v n ys) : xs = ys := by
  rcases h1.2 with ⟨hv, hn⟩ | ⟨g, cap, cur, rfl, _, hg, _, _, _, ht⟩
  · have a := h1.1; have b := h2.1
    rw [hn, Nat.zero_mul] at a b
    rw [List.eq_nil_of_length_eq_zero a, List.eq_nil_of_length_eq_zero b]
  · rcases h2.2 with ⟨hv, _⟩ | ⟨g', cap', cur', hv, _, hg', _, _, _, ht'⟩
    · cases hv
    · injection hv with hv; injection hv with hv; injection hv with hv
      subst hv
      rw [hg] at hg'
      injection hg' with hg'; injection hg' with hc _
      rw [← ht, ← ht', hc]

set_option maxHeartbeats 8000000 in
set_option maxRecDepth 100000 in
theorem fed_any {w : World} (hg : Glob w) {A C : Option Addr} {capA capC : Nat} {bv cv : Value} {raw : Sp.Bs} {cuts : List Int} {limit : Int} (hn : raw.length ≤ 12000) (hcA : raw.length ≤ capA) (hcA2 : capA ≤ 9223372036854775807) (hcC : cuts.length ≤ 9223372036854775807)
    (hrow : RowAt w A (bytesV raw)) (hA : A = none → capA = 0) (hrowC : RowAt w C (intsV cuts)) :
    Calls Tryz.prog 25 #[.agg #[.slice A raw.length capA, .int .i64 limit, bv, cv], .slice C cuts.length capC] w (FedPost w limit.toNat raw) := by
  generalize hR : FedPost w limit.toNat raw = R
  have hb0 : Below w.heap.size w (w.alloc (.cells #[.slice A raw.length capA, .int .i64 limit, bv, cv] 66)) := (Below.refl _ _).alloc (Nat.le_refl _) _
  have hbx := Blk.new w 66 #[.slice A raw.length capA, .int .i64 limit, bv, cv]
  have hne := new_any (w.alloc (.cells #[.slice A raw.length capA, .int .i64 limit, bv, cv] 66)) (by have := hg.size; simp; omega) limit
  have hsz : (w.alloc (.cells #[.slice A raw.length capA, .int .i64 limit, bv, cv] 66)).heap.size = w.heap.size + 1 := by simp
  rw [hsz] at hne
  have hmk : ∀ W : World, (Instr.makeSlice 50 (.int .i64 ((raw.length : Int) + 1)) (.int .i64 ((raw.length : Int) + 1))).run Tryz.prog W = .ok (.slice (some ⟨W.heap.size, 0, none⟩) (raw.length + 1) (raw.length + 1)) (W.alloc (.cells (intsV (List.replicate (raw.length + 1) 0)).toArray 3)) := fun W => by
    obtain ⟨i0, hi, hz0, hz1, hz2⟩ := info_parts info_i64
    rw [run_make (P := Tryz.prog) W 50 3 i0 (.int .i64 0) Tryz.underlying50 hi hz0 .i64 .i64 ((raw.length : Int) + 1) ((raw.length : Int) + 1) (by omega) (by omega) (by rw [hz2]; omega) (by omega)]
    have e : ((raw.length : Int) + 1).toNat = raw.length + 1 := by omega
    rw [hz1, e, Nat.mul_one]
    show Result.ok _ (W.alloc (.cells (madeCells #[.int .i64 0] (raw.length + 1)) 3)) = _
    rw [intsV_made]
  have HR := Lib.hid hR
  have HG := Lib.hid hg
  have HROW := Lib.hid hrow
  have HROWC := Lib.hid hrowC
  have HA := Lib.hid hA
  have HB0 := Lib.hid hb0
  have HBX := Lib.hid hbx
  have HN := Lib.hid hne
  clear hR hg hrow hrowC hA hb0 hbx hne hsz
  go_enter Tryz.func25, Tryz.ntmps25
  go_upto_region 4 with (refine HN.out.mono ?_; rintro e w1 ⟨rfl, hf, hb1⟩; have HF := Lib.hid hf; have HB1 := Lib.hid hb1; clear hf hb1)
  have hx1 := HBX.out.later (HB1.out.mono (by simp))
  have y0 : _ = some (Value.slice A raw.length capA) := hx1.cell 0
  have hs1 : w.heap.size + 1 < w1.heap.size := HF.out.blk.lt
  have hbl := Blk.new w1 3 (intsV (List.replicate (raw.length + 1) 0)).toArray
  have hb2 : Below w1.heap.size w1 (w1.alloc (.cells (intsV (List.replicate (raw.length + 1) 0)).toArray 3)) := (Below.refl _ _).alloc (Nat.le_refl _) _
  have HBL := Lib.hid hbl
  have HB2 := Lib.hid hb2
  have HX1 := Lib.hid hx1
  have hsz2 : (w1.alloc (.cells (intsV (List.replicate (raw.length + 1) 0)).toArray 3)).heap.size = w1.heap.size + 1 := by simp
  have HSZ2 := Lib.hid hsz2
  clear hbl hb2 hx1 hsz2
  go_wp2_with fail
  go_loopw [9] (fun i wr => ∃ (k : Nat) (hs : List Int), k ≤ raw.length + 1 ∧ i = .int .i64 k ∧ Blk wr w1.heap.size 3 (intsV hs).toArray ∧ hs.length = raw.length + 1 ∧ (∀ j v, j < k → hs[j]? = some v → v = -1) ∧ OnlyIn [w1.heap.size] w1 wr ∧ w1.heap.size < wr.heap.size) (fun i _ => raw.length + 1 - (intOf i).toNat)
  case atStart => exact ⟨0, _, by omega, rfl, HBL.out, by simp, fun j v hj => by omega, OnlyIn.of HB2.out _, by rw [HSZ2.out]; omega⟩
  case round =>
    obtain ⟨k, hs, hk, rfl, hbk, hlen, hfill, ho, hlt1⟩ := hrel
    by_cases hlt : k < raw.length + 1
    · obtain ⟨v0, hv0⟩ : ∃ v, hs[k]? = some v := ⟨hs[k]'(by omega), List.getElem?_eq_getElem _⟩
      have x0 : wr.cell? ⟨w1.heap.size, k, none⟩ = some (.int .i64 v0) := by rw [hbk.cell k]; simp [intsV, hv0]
      have f0 := hbk.frozen k
      have hbn := hbk.put k (.int .i64 (-1))
      rw [intsV_set] at hbn
      have hfin : OnlyIn [w1.heap.size] w1 (wr.setCell ⟨w1.heap.size, k, none⟩ (.int .i64 (-1))) := ho.setCell (.inl (by simp)) k _
      have hfl : ∀ j v, j < k + 1 → (hs.set k (-1))[j]? = some v → v = -1 := fun j v hj hv => by
        rw [List.getElem?_set] at hv
        split at hv
        · split at hv
          · injection hv with hv; exact hv.symm
          · cases hv
        · exact hfill j v (by omega) hv
      have hl2 : w1.heap.size < (wr.setCell ⟨w1.heap.size, k, none⟩ (.int .i64 (-1))).heap.size := by simpa [World.setCell] using hlt1
      have hl3 : (hs.set k (-1)).length = raw.length + 1 := by rw [List.length_set]; exact hlen
      have hkk : (k : Int) < (raw.length : Int) + 1 := by omega
      have HBN := Lib.hid hbn
      have HFIN := Lib.hid hfin
      have HFL := Lib.hid hfl
      have HL2 := Lib.hid hl2
      have HL3 := Lib.hid hl3
      clear hbn hfin hfl hl2 hl3 hbk hfill ho hv0 hlen
      go_wp2_with fail
      exact ⟨⟨k + 1, hs.set k (-1), by omega, by go_num, HBN.out, HL3.out, HFL.out, HFIN.out, HL2.out⟩, by show raw.length + 1 - ((k : Int) + 1).toNat < raw.length + 1 - (k : Int).toNat; omega⟩
    · obtain rfl : k = raw.length + 1 := by omega
      obtain ⟨w3, rfl⟩ : ∃ x, x = wr := ⟨_, rfl⟩
      have hx2 := HX1.out.same (ho.block _ (by omega) (by simp; omega))
      have hf2 := HF.out.only ho (fun x hx => by simp [ownList, rowBlock_nil] at hx ⊢; omega)
      have hb0r : Below w.heap.size w w3 := ((HB0.out.trans (HB1.out.mono (by omega))).trans ((ho.below (Nat.le_refl _) (by simp)).mono (by omega)))
      have hgr := HG.out.later hb0r
      have z0 : _ = some (Value.slice A raw.length capA) := hx2.cell 0
      have hp := pieces_any (w := w3) (capB := capC) (by omega) hcA hcA2 hcC (HROW.out.below hb0r) HA.out (HROWC.out.below hb0r)
      have hpc := piecesOf_count raw cuts
      have hpf := piecesOf_flat raw cuts
      have hok : HeldOk limit.toNat raw hs := fun j v hv => .inl (hfill j v (by have := (List.getElem?_eq_some_iff.1 hv).1; omega) hv)
      have HP := Lib.hid hp
      have HF2 := Lib.hid hf2
      have HB0R := Lib.hid hb0r
      have HGR := Lib.hid hgr
      have HBK := Lib.hid hbk
      have HOK := Lib.hid hok
      have HPF := Lib.hid hpf
      have HHL := Lib.hid hlen
      clear hp hf2 hb0r hgr hbk hok hpf hlen hfill hx2 ho y0
      go_wp2_with (refine HP.out.mono ?_; rintro e w4 ⟨pg, pc, pcs, rfl, hown4, hrm4, hb4⟩; have HOWN4 := Lib.hid hown4; have HRM4 := Lib.hid hrm4; have HB4 := Lib.hid hb4; clear hown4 hrm4 hb4)
      obtain ⟨ps, hps⟩ : ∃ ps, ps = piecesOf raw cuts := ⟨_, rfl⟩
      have hflat := HPF.out
      rw [← hps] at hpc HOWN4 HRM4 hflat ⊢
      have HPS := Lib.hid hps
      have HFLAT := Lib.hid hflat
      have hfeed4 := HF2.out.later HB4.out
      have hfbl : w.heap.size + 1 < w3.heap.size := HF2.out.blk.lt
      have hgc := HG.out.size
      have hmid : FedMid w4 [w.heap.size + 1, w1.heap.size] (w.heap.size + 1) limit.toNat (fedBy limit.toNat (ps.take 0)) (toldBy limit.toNat (ps.take 0)) nilRow w4 :=
        ⟨[], FedOn.new hfeed4 (HGR.out.later HB4.out) (by simp)⟩
      have hbk4 := HBK.out.later HB4.out
      have hw4 : w3.heap.size ≤ w4.heap.size := HB4.out.size
      have HM := Lib.hid hmid
      have HBK4 := Lib.hid hbk4
      clear hps hflat hfeed4 hmid hbk4 HP
      go_loopw [10, 11, 13] (fun v a i wx => ∃ (k : Nat) (hs : List Int), k ≤ ps.length ∧ i = .int .i64 k ∧ a = .int .i64 (ps.take k).flatten.length ∧ FedMid w4 [w.heap.size + 1, w1.heap.size] (w.heap.size + 1) limit.toNat (fedBy limit.toNat (ps.take k)) (toldBy limit.toNat (ps.take k)) v wx ∧
        Blk wx w1.heap.size 3 (intsV hs).toArray ∧ hs.length = raw.length + 1 ∧ HeldOk limit.toNat raw hs) (fun _ _ i _ => ps.length - (intOf i).toNat)
      case atStart => exact ⟨0, hs, by omega, rfl, rfl, HM.out, HBK4.out, HHL.out, HOK.out⟩
      case round =>
        obtain ⟨k, hs2, hk2, rfl, rfl, hmid, hbk2, hlen2, hok2⟩ := hrel
        obtain ⟨hkeep, hfit, hout, htak⟩ := fedBy_ok limit.toNat _ (ps.take k) rfl
        have hle := flat_take_le ps k
        rw [HFLAT.out] at hle
        by_cases hlt : k < ps.length
        · obtain ⟨p, hp⟩ : ∃ p, ps[k]? = some p := ⟨ps[k], by simp [hlt]⟩
          have hsucc := fedBy_succ limit.toNat hp
          have htsucc := toldBy_succ limit.toNat hp
          have hflat := flat_take_succ hp
          have hle2 := flat_take_le ps (k + 1)
          rw [HFLAT.out, hflat, List.length_append] at hle2
          obtain ⟨gp, cp, hpcs, hpown⟩ := HRM4.out.2 k p hp
          have hpg : w3.heap.size ≤ pg := own_ge HOWN4.out pg (by simp [rowBlock, Value.ownBlock])
          have hpg2 : pg < w4.heap.size := own_lt HOWN4.out pg (by simp [rowBlock, Value.ownBlock])
          have hgp : w3.heap.size ≤ gp := own_ge hpown gp (by simp [rowBlock, Value.ownBlock])
          have hgp2 : gp < w4.heap.size := own_lt hpown gp (by simp [rowBlock, Value.ownBlock])
          have hcell4 : w4.cell? ⟨pg, k, none⟩ = some (.slice (some ⟨gp, 0, none⟩) p.length cp) := by
            have h := RowAt.of_own HOWN4.out
            have := h.cells k _ hpcs
            rwa [Addr.add_mid, Nat.zero_add] at this
          have hcellr : ∀ W, OnlyIn [w.heap.size + 1, w1.heap.size] w4 W → W.cell? ⟨pg, k, none⟩ = some (.slice (some ⟨gp, 0, none⟩) p.length cp) := fun W ho =>
            (World.cell?_of_block (ho.block pg hpg2 (by simp; omega))).trans hcell4
          have hrowp : RowAt wr (some ⟨gp, 0, none⟩) (bytesV p) := RowAt.of_own (own_same hpown fun x hx => hmid.only.block x (own_lt hpown x hx) (by have := own_ge hpown x hx; simp; omega))
          have hlow : ∀ x ∈ [w.heap.size + 1, w1.heap.size], 8 ≤ x := fun x hx => by simp at hx; omega
          have hc := hmid.fed (cap := cp) hfit (by omega) hrowp (fun a ha => by injection ha with ha; subst ha; exact ⟨hgp2, by show gp ≠ w.heap.size + 1; omega⟩) hlow (by omega)
          have yr := hcellr wr hmid.only
          rw [← hsucc] at hc
          have htc : (toldBy limit.toNat (ps.take (k + 1))).length ≤ 12000 := by have := toldBy_count limit.toNat (ps.take (k + 1)); rw [hflat, List.length_append] at this; omega
          have htk1 := (fedBy_ok limit.toNat _ (ps.take (k + 1)) rfl).2.2.2
          have hheld := fedBy_held limit.toNat HFLAT.out (k + 1)
          have hfl : (ps.take (k + 1)).flatten.length = (ps.take k).flatten.length + p.length := by rw [hflat, List.length_append]
          rw [hfl] at htk1 hheld
          generalize hs1 : fedBy limit.toNat (ps.take (k + 1)) = s1 at hc htk1 hheld ⊢
          generalize hs0 : fedBy limit.toNat (ps.take k) = s0 at *
          generalize (ps.take k).flatten.length = at0 at *
          generalize hts0 : toldBy limit.toNat (ps.take k) = ts0 at *
          generalize hts1 : toldBy limit.toNat (ps.take (k + 1)) = ts1 at *
          generalize s0.told limit.toNat p = tl at *
          have hc2 : Calls Tryz.prog 12 #[.pointer (some ⟨w.heap.size + 1, 0, none⟩), .slice (some ⟨gp, 0, none⟩) p.length cp] wr fun e w' => ∃ A' c', e = .returned (.slice A' tl.length c') ∧ FedGot w4 [w.heap.size + 1, w1.heap.size] (w.heap.size + 1) limit.toNat s1 ts0 tl u10 A' c' w' ∧ Blk w' w1.heap.size 3 (intsV hs2).toArray :=
            hc.mono fun e w' ⟨A', c', h1, h2, h3⟩ => ⟨A', c', h1, h2, hbk2.same (h3.block _ (by omega) (by omega))⟩
          obtain ⟨Au, cu, tcsu, blu, hu10, -, -⟩ := hmid.own
          have HC := Lib.hid hc2
          have HTK1 := Lib.hid htk1
          have HHELD := Lib.hid hheld
          have HFL := Lib.hid hfl
          have HS1 := Lib.hid hs1
          have HTS1 := Lib.hid hts1
          have HTSU := Lib.hid htsucc
          have HCR := Lib.hid hcellr
          have HOK2 := Lib.hid hok2
          have HLEN2 := Lib.hid hlen2
          have HLOW := Lib.hid hlow
          clear hc hc2 htk1 hheld hfl hs1 hs0 hts0 hts1 htsucc hsucc hcellr hok2 hlen2 hlow hmid hbk2 hrowp hcell4 hpown hpcs hp hflat hkeep hfit hout htak
          subst hu10
          go_upto_region 15 with fail
          go_cut [10] (fun v wx => FedMid w4 [w.heap.size + 1, w1.heap.size] (w.heap.size + 1) limit.toNat s1 ts1 v wx ∧ Blk wx w1.heap.size 3 (intsV hs2).toArray)
          case first =>
            obtain ⟨i0, hi, hz0, hz1, hz2⟩ := info_parts info_step
            go_wp2_with fail
            refine HC.out.mono ?_
            rintro e w5 ⟨A', c', rfl, hgot, hbk5⟩
            obtain ⟨tcs, tc, hr1, hr2, hone⟩ := hgot.row
            have htcl : tc.length = tl.length * 16 := hr2.1
            have hlw : w4.heap.size ≤ w5.heap.size := hgot.only.size
            have htsl : ts0.length + tl.length ≤ 12000 := by have := HTSU.out; rw [this, List.length_append] at htc; exact htc
            have HGOT := Lib.hid hgot
            have HBK5 := Lib.hid hbk5
            have HR1 := Lib.hid hr1
            have HR2 := Lib.hid hr2
            have HONE := Lib.hid hone
            have HTCL := Lib.hid htcl
            clear hgot hbk5 hr1 hr2 hone htcl
            cases A' with
            | none =>
              have hz : tl = [] ∧ c' = 0 := by
                rcases HR2.out.2 with ⟨h1, h2⟩ | ⟨g, cap, cur, h1, _⟩
                · injection h1 with _ _ h3
                  exact ⟨List.eq_nil_of_length_eq_zero h2, h3⟩
                · injection h1 with h1; cases h1
              obtain ⟨htl, rfl⟩ := hz
              have hmid : FedMid w4 [w.heap.size + 1, w1.heap.size] (w.heap.size + 1) limit.toNat s1 ts1 (.slice Au ts0.length cu) w5 := by
                have h := HGOT.out.none htl
                rwa [← HTSU.out] at h
              have HMID := Lib.hid hmid
              have htl0 : tl.length = 0 := by rw [htl]; rfl
              rw [htl0]
              clear hmid htl htl0
              go_wp2_with (at_builtin; refine wpList_append_own_none rfl (.tmp 43) (.tmp 49) _ rfl w4.heap.size 61 i0 16 Tryz.underlying41 hi (.slice Au ts0.length cu) ts0.length tcs rfl HR1.out rfl ?_)
              go_meet
              exact ⟨HMID.out, HBK5.out⟩
            | some ad =>
              have hnews : ∀ (j : Nat) (u : Value), tc[j]? = some u → w5.cell? (ad.add j) = some u := (RowAt.of_own HR2.out).cells
              have HNEWS := Lib.hid hnews
              clear hnews
              go_wp2_with (at_builtin; refine wpList_append_own_at w5 rfl (.tmp 43) (.tmp 49) _ rfl w4.heap.size 61 i0 _ 16 184 Tryz.underlying41 hi hz0 hz1 hz2 rfl (by decide) (.slice Au ts0.length cu) ts0.length tcs rfl HR1.out ad tl.length c' tc rfl HTCL.out HNEWS.out HONE.out ?_ ?_ hlw ?_; (unfold maxLen; omega); omega; intro v' w6 hown6 hg6 hnil6 hat6; have HOWN6 := Lib.hid hown6; have HG6 := Lib.hid hg6; have HAT6 := Lib.hid hat6; clear hown6 hg6 hnil6 hat6)
              go_meet
              refine ⟨?_, ?_⟩
              · have h := HGOT.out.some (w3 := w6) (v' := v') (by omega) (fun tcs' tc' h1 h2 => by
                  rw [own_cells_eq h1 HR1.out, own_cells_eq h2 HR2.out]; exact HOWN6.out) HG6.out HAT6.out
                rwa [← HTSU.out] at h
              · refine HBK5.out.grown HG6.out (fun e => ?_)
                have := own_ge HR1.out w1.heap.size (mem_rowBlock.2 e.symm)
                omega
          case rest =>
            obtain ⟨hmid1, hbk1⟩ := hcut
            have yc := HCR.out wc hmid1.only
            obtain ⟨ln1, dv1, kv1, mv1, hfd1⟩ := hmid1.at
            have hch : Calls Tryz.prog 22 #[.pointer (some ⟨w.heap.size + 1, 0, none⟩)] wc fun e w' => e = .returned (.int .i64 s1.held) ∧ wc = w' := (held_any hfd1).mono fun e w' ⟨h1, h2⟩ => ⟨h1, h2.symm⟩
            have hal : at0 + p.length < hs2.length := by rw [HLEN2.out]; omega
            obtain ⟨v0, hv0⟩ : ∃ v, hs2[at0 + p.length]? = some v := ⟨hs2[at0 + p.length], List.getElem?_eq_getElem _⟩
            have x0 : wc.cell? ⟨w1.heap.size, at0 + p.length, none⟩ = some (.int .i64 v0) := by rw [hbk1.cell]; simp [intsV, hv0]
            have f0 := hbk1.frozen (at0 + p.length)
            have hbn := hbk1.put (at0 + p.length) (.int .i64 s1.held)
            rw [intsV_set] at hbn
            have hmid2 := hmid1.put (g := w1.heap.size) (by simp) (by omega) (by omega) (by omega) (at0 + p.length) (.int .i64 s1.held)
            obtain ⟨ln2, dv2, kv2, mv2, hfd2⟩ := hmid2.at
            have hct : Calls Tryz.prog 24 #[.pointer (some ⟨w.heap.size + 1, 0, none⟩)] (wc.setCell ⟨w1.heap.size, at0 + p.length, none⟩ (.int .i64 s1.held)) fun e w' => e = .returned (.int .i64 s1.taken) ∧ (wc.setCell ⟨w1.heap.size, at0 + p.length, none⟩ (.int .i64 s1.held)) = w' := (taken_any hfd2).mono fun e w' ⟨h1, h2⟩ => ⟨h1, h2.symm⟩
            rw [HTK1.out] at hct
            have hok3 : HeldOk limit.toNat raw (hs2.set (at0 + p.length) s1.held) := fun j v hv => by
              rw [List.getElem?_set] at hv
              split at hv
              · rename_i hj
                injection hv with hv
                right; rw [← hv, ← hj]; exact HHELD.out
              · exact HOK2.out j v hv
            have hlen3 : (hs2.set (at0 + p.length) s1.held).length = raw.length + 1 := by rw [List.length_set]; exact HLEN2.out
            have hix : (at0 : Int) + (p.length : Int) < (raw.length : Int) + 1 := by omega
            have hcast : ((at0 + p.length : Nat) : Int) = (at0 : Int) + (p.length : Int) := by omega
            rw [hcast] at hct
            have HCH := Lib.hid hch
            have HCT := Lib.hid hct
            have HMID2 := Lib.hid hmid2
            have HBN := Lib.hid hbn
            have HOK3 := Lib.hid hok3
            have HLEN3 := Lib.hid hlen3
            clear hch hct hmid2 hmid1 hbn hok3 hlen3 hfd1 hfd2 hbk1 hv0 hal hcast
            go_wp2_with (first | (go_at_call 22; refine HCH.out.mono ?_; rintro e w' ⟨rfl, rfl⟩) | (go_at_call 24; refine HCT.out.mono ?_; rintro e w' ⟨rfl, rfl⟩))
            refine ⟨⟨k + 1, hs2.set (at0 + p.length) s1.held, by omega, by go_num, by rw [HFL.out]; go_num, ?_, HBN.out, HLEN3.out, HOK3.out⟩, by show ps.length - ((k : Int) + 1).toNat < ps.length - (k : Int).toNat; omega⟩
            rw [HS1.out, HTS1.out]
            exact HMID2.out
        · obtain rfl : k = ps.length := by omega
          rw [List.take_length] at hmid
          obtain ⟨Au, cu, tcsu, blu, rfl, hou, hsu⟩ := hmid.own
          obtain ⟨ln1, dv1, kv1, mv1, hfd1⟩ := hmid.at
          have hbw : Below w.heap.size w wr := HB0R.out.trans ((HB4.out.mono HB0R.out.size).trans (hmid.only.below (by have := HB0R.out.size; omega) (fun x hx => by simp at hx; omega)))
          have hfin : R (.returned (.tuple #[.pointer (some ⟨w.heap.size + 1, 0, none⟩), .slice Au (toldBy limit.toNat ps).length cu, .slice (some ⟨w1.heap.size, 0, none⟩) (raw.length + 1) (raw.length + 1)])) wr := by
            rw [← HR.out]
            unfold FedPost
            rw [← toldBy_flat limit.toNat HFLAT.out, ← fedBy_flat limit.toNat HFLAT.out]
            exact ⟨_, _, Au, cu, hs2, rfl, ⟨ln1, dv1, kv1, mv1, hfd1⟩, ⟨tcsu, blu, World.ownsRow.mono hou (by have := HB0R.out.size; omega), hsu⟩, hbk2, hlen2, hok2, hbw, hmid.glob⟩
          have HFIN := Lib.hid hfin
          clear hfin hbw hfd1 hou hsu hmid hbk2 hlen2 hok2 hkeep hfit hout htak hle
          go_wp2_with fail
          exact bodyPost_ret (v := .tuple #[.pointer (some ⟨w.heap.size + 1, 0, none⟩), .slice Au (toldBy limit.toNat ps).length cu, .slice (some ⟨w1.heap.size, 0, none⟩) (raw.length + 1) (raw.length + 1)]) (by simp [results, Tryz.results25, go_sem]) rfl HFIN.out
end Go.Proofs.YtbiakncngmgbkaaGreatDoor
