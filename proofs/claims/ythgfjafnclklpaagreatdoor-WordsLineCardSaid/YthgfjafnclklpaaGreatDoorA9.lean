/- Walk of package words: one, joined. Walk of package words: All. -/
import Derived.Test.YthgfjafnclklpaaGreatDoorA4
import Derived.Test.YthgfjafnclklpaaGreatDoorA5
import Derived.Test.YthgfjafnclklpaaGreatDoorA6
import Derived.Test.YthgfjafnclklpaaGreatDoorA7
import Derived.Test.YthgfjafnclklpaaGreatDoorAp
import Derived.Test.YthgfjafnclklpaaGreatDoorG2
import Derived.Deep.CutRange
import Derived.Deep.DeepCutAuto
section
namespace Go.Proofs.YthgfjafnclklpaaGreatDoor

/-- words.one tells the step at the head of the bytes -/
theorem one_any {w : World} (hg : Glob w) {A : Option Addr} {cap : Nat} {l : Sp.Bs} (h : RowAt w A (bytesV l)) (hc : l.length ≤ cap) (hA : A = none → cap = 0) (hl : l.length ≤ 1000000000) {at' lim : Nat} (hat : at' ≤ l.length) (hlim : lim ≤ 9223372036854775807) :
    Calls Tryz.prog 68 #[.slice A l.length cap, .int .i64 at', .int .i64 lim] w (OnePost w at' (Sp.oneV lim (l.drop at'))) := by
  cases hi : Sp.indexOf (l.drop at') 10 with
  | none =>
    have e : Sp.oneV lim (l.drop at') = none := by unfold Sp.oneV; rw [hi]
    rw [e]
    exact one_none h hc hA hat hi
  | some i =>
    cases hr : Sp.lineOf (Sp.chop ((l.drop at').take i)) with
    | bad x => exact one_bad hg h hc hA hl hat hlim hi hr
    | ok c n =>
      by_cases hn : n < 0
      · exact one_no hg h hc hA hl hat hi hr hn
      · by_cases hln : (lim : Int) < n
        · exact one_large hg h hc hA hl hat hi hr hn hln
        · exact one_blk hg h hc hA hl hat hi hr hn hln
end Go.Proofs.YthgfjafnclklpaaGreatDoor
end
section
namespace Go.Proofs.YthgfjafnclklpaaGreatDoor
attribute [local go_sem ↓] Go.wp_at_zero Go.wp_at_succ
open Go.RowKit

/-- where the loop of All stands -/
structure AllMid (w : World) (l : Sp.Bs) (lim : Nat) (at' : Nat) (outs : List Sp.StepV) (ov : Value) (wr : World) : Prop where
  le : at' ≤ l.length
  count : outs.length ≤ at'
  go : ∃ r, l.length - at' < r ∧ Sp.allV lim (l.length + 1) 0 l = (outs ++ (Sp.allV lim r at' (l.drop at')).1, (Sp.allV lim r at' (l.drop at')).2)
  mem : ∃ tcs bl, wr.ownsRow w.heap.size 99 16 ov outs.length tcs ∧ StepsMem wr outs tcs bl ∧ bl.Nodup ∧ ∀ k ∈ bl, w.heap.size ≤ k
  below : Below w.heap.size w wr

/-- what All leaves and tells -/
def AllPost (w : World) (x : List Sp.StepV × Nat) (e : Ending) (w' : World) : Prop :=
  ∃ A c tcs bl, e = .returned (.tuple #[.slice A x.1.length c, .int .i64 x.2]) ∧ w'.ownsRow w.heap.size 99 16 (.slice A x.1.length c) x.1.length tcs ∧ StepsMem w' x.1 tcs bl ∧ bl.Nodup ∧ (∀ k ∈ bl, w.heap.size ≤ k) ∧ Below w.heap.size w w'

theorem AllMid.stop {w wr W : World} {l : Sp.Bs} {lim at' : Nat} {outs : List Sp.StepV} {ov : Value} (h : AllMid w l lim at' outs ov wr) (hv : Sp.oneV lim (l.drop at') = none) (hb : Below wr.heap.size wr W) :
    AllPost w (Sp.allV lim (l.length + 1) 0 l) (.returned (.tuple #[ov, .int .i64 ((l.length : Int) - (at' : Int))])) W := by
  obtain ⟨r, hr, hgo⟩ := h.go
  obtain ⟨tcs, bl, ho, hs, hnd, hlo⟩ := h.mem
  have hle := h.le
  cases r with
  | zero => omega
  | succ r =>
    have e : Sp.allV lim (r + 1) at' (l.drop at') = ([], (l.drop at').length) := by unfold Sp.allV; rw [hv]
    rw [e, List.append_nil, List.length_drop] at hgo
    rw [hgo]
    obtain ⟨p, c, rfl⟩ := own_form ho
    refine ⟨p, c, tcs, bl, ?_, own_later ho hb, hs.same fun k hk => hb.block k (hs.lt k hk), hnd, hlo, h.below.trans (hb.mono h.below.size)⟩
    have e2 : (l.length : Int) - (at' : Int) = ((l.length - at' : Nat) : Int) := by omega
    rw [e2]

theorem cmdBlocks_nodup {w : World} {c : Sp.CmdV} {kv dv mv : Value} (h : CmdMem w c kv dv mv) : (cmdBlocks kv dv mv).Nodup := by
  have hone : ∀ v : Value, (rowBlock v).Nodup := fun v => by unfold rowBlock; cases v.ownBlock <;> simp
  have hap : ∀ {e e' : TypeId} {s s' m m' : Nat} {u u' : Value} {ys ys' : List Value}, w.ownsRow 0 e s u m ys → w.ownsRow 0 e' s' u' m' ys' → e ≠ e' → ∀ a ∈ rowBlock u, ∀ b ∈ rowBlock u', a ≠ b := by
    intro e e' s s' m m' u u' ys ys' h1 h2 hne a ha b hb e3
    subst e3
    rw [mem_rowBlock] at ha hb
    rcases own_own_apart h1 h2 hne with h0 | h0
    · rw [h0] at ha; cases ha
    · exact h0 (ha.trans hb.symm)
  unfold cmdBlocks
  refine List.nodup_append.2 ⟨hone _, List.nodup_append.2 ⟨hone _, hone _, hap h.data h.metas (by decide)⟩, fun a ha b hb => ?_⟩
  rcases List.mem_append.1 hb with hb | hb
  · exact hap h.keys h.data (by decide) a ha b hb
  · exact hap h.keys h.metas (by decide) a ha b hb

section
variable {w wr w1 W2 w3 : World} {l : Sp.Bs} {lim at' n : Nat} {outs : List Sp.StepV} {ov kv dv mv v3 : Value} {t t' : Sp.StepV} {tcs : List Value} {bl : List Nat}

/-- the memory behind the append -/
theorem AllMid.grown (h : AllMid w l lim at' outs ov wr) (hown : wr.ownsRow w.heap.size 99 16 ov outs.length tcs) (hst : StepsMem wr outs tcs bl) (hnd : bl.Nodup) (hlo : ∀ k ∈ bl, w.heap.size ≤ k)
    (hcm : CmdMem w1 t.cmd kv dv mv) (hge : ∀ k ∈ cmdBlocks kv dv mv, wr.heap.size ≤ k) (hb1 : Below wr.heap.size wr w1) (hb2 : Below w1.heap.size w1 W2) (hg : W2.grownBy w3 ov.ownBlock)
    (ho3 : w3.ownsRow w.heap.size 99 16 v3 (outs.length + 1) (tcs ++ (stepArr t kv dv mv).toList)) :
    (∃ tcs bl, w3.ownsRow w.heap.size 99 16 v3 (outs ++ [t]).length tcs ∧ StepsMem w3 (outs ++ [t]) tcs bl ∧ bl.Nodup ∧ ∀ k ∈ bl, w.heap.size ≤ k) ∧ Below w.heap.size w w3 := by
  have hb12 : Below wr.heap.size wr W2 := hb1.trans (hb2.mono hb1.size)
  have hap := stepsBlocks_apart hst hown
  have hsz := h.below.size
  have s1 : ∀ k ∈ bl, w3.heap[k]? = wr.heap[k]? := fun k hk =>
    (hg.block k (Nat.lt_of_lt_of_le (hst.lt k hk) hb12.size) (fun e => hap k hk e.symm)).trans (hb12.block k (hst.lt k hk))
  have s2 : ∀ k ∈ cmdBlocks kv dv mv, w3.heap[k]? = w1.heap[k]? := fun k hk =>
    (hg.block k (Nat.lt_of_lt_of_le (hcm.lt k hk) hb2.size) (fun e => by have := own_lt hown k (mem_rowBlock.2 e.symm); have := hge k hk; omega)).trans (hb2.block k (hcm.lt k hk))
  refine ⟨⟨_, bl ++ cmdBlocks kv dv mv, ?_, (hst.same s1).snoc (hcm.same s2), List.nodup_append.2 ⟨hnd, cmdBlocks_nodup hcm, fun a ha b hb => ?_⟩, fun k hk => ?_⟩, ?_⟩
  · rw [List.length_append, ← stepArr_list]
    exact ho3
  · have := hst.lt a ha
    have := hge b hb
    omega
  · rcases List.mem_append.1 hk with hk | hk
    · exact hlo k hk
    · exact Nat.le_trans hsz (hge k hk)
  · exact (h.below.trans (hb12.mono hsz)).grown hg (Nat.le_trans hsz hb12.size) (fun k hk => own_ge hown k (mem_rowBlock.2 hk))

theorem AllMid.on (h : AllMid w l lim at' outs ov wr) (hv : Sp.oneV lim (l.drop at') = some (t', n)) (ht : t = t'.span at' (at' + n)) (hq : t.cmd.verb ≠ 18)
    (hm : (∃ tcs bl, w3.ownsRow w.heap.size 99 16 v3 (outs ++ [t]).length tcs ∧ StepsMem w3 (outs ++ [t]) tcs bl ∧ bl.Nodup ∧ ∀ k ∈ bl, w.heap.size ≤ k) ∧ Below w.heap.size w w3) :
    AllMid w l lim (at' + n) (outs ++ [t]) v3 w3 := by
  subst ht
  obtain ⟨r, hr, hgo⟩ := h.go
  have hn := oneV_in hv
  rw [List.length_drop] at hn
  have hc := h.count
  have hle := h.le
  refine ⟨by omega, by simp; omega, ?_, hm.1, hm.2⟩
  cases r with
  | zero => omega
  | succ r =>
    refine ⟨r, by omega, ?_⟩
    have hq' : t'.cmd.verb ≠ 18 := hq
    have e : Sp.allV lim (r + 1) at' (l.drop at') = (t'.span at' (at' + n) :: (Sp.allV lim r (at' + n) (l.drop (at' + n))).1, (Sp.allV lim r (at' + n) (l.drop (at' + n))).2) := by
      conv => lhs; unfold Sp.allV
      rw [hv]
      dsimp only
      rw [if_neg hq', List.drop_drop]
    rw [hgo, e]
    simp

theorem AllMid.quit (h : AllMid w l lim at' outs ov wr) (hv : Sp.oneV lim (l.drop at') = some (t', n)) (ht : t = t'.span at' (at' + n)) (hq : t.cmd.verb = 18)
    (hm : (∃ tcs bl, w3.ownsRow w.heap.size 99 16 v3 (outs ++ [t]).length tcs ∧ StepsMem w3 (outs ++ [t]) tcs bl ∧ bl.Nodup ∧ ∀ k ∈ bl, w.heap.size ≤ k) ∧ Below w.heap.size w w3) :
    AllPost w (Sp.allV lim (l.length + 1) 0 l) (.returned (.tuple #[v3, .int .i64 0])) w3 := by
  subst ht
  obtain ⟨r, hr, hgo⟩ := h.go
  have hn := oneV_in hv
  rw [List.length_drop] at hn
  cases r with
  | zero => omega
  | succ r =>
    have hq' : t'.cmd.verb = 18 := hq
    have e : Sp.allV lim (r + 1) at' (l.drop at') = ([t'.span at' (at' + n)], 0) := by
      unfold Sp.allV
      rw [hv]
      dsimp only
      rw [if_pos hq']
    rw [hgo, e]
    obtain ⟨⟨tcs, bl, ho, hs, hnd, hlo⟩, hb⟩ := hm
    obtain ⟨p, c, rfl⟩ := own_form ho
    exact ⟨p, c, tcs, bl, rfl, ho, hs, hnd, hlo, hb⟩
end

attribute [-go_sem] storeVar
attribute [local go_sem] run_store_cmd run_store_wrong run_store_step storeVar_int' storeVar_bool' storeVar_slice' storeVar_func' canPut_new canPut_setCell canPut_drew canPut_alloc canPut_setCells cell_setCells_far World.frozen?_setCells

set_option maxHeartbeats 8000000 in
set_option maxRecDepth 100000 in
theorem all_any {w : World} (hg : Glob w) {A : Option Addr} {cap : Nat} {l : Sp.Bs} (h : RowAt w A (bytesV l)) (hc : l.length ≤ cap) (hA : A = none → cap = 0) (hl : l.length ≤ 100000000) {limit : Int} (hlim : limit ≤ 9223372036854775807) :
    Calls Tryz.prog 27 #[.slice A l.length cap, .int .i64 limit] w (AllPost w (Sp.allV limit.toNat (l.length + 1) 0 l)) := by
  obtain ⟨i0, hi, hz0, hz1, hz2⟩ := info_parts info_step
  generalize hR : AllPost w (Sp.allV limit.toNat (l.length + 1) 0 l) = R
  have hstart : AllMid w l limit.toNat 0 [] nilRow w := ⟨Nat.zero_le _, Nat.le_refl _, ⟨l.length + 1, by omega, by simp⟩, ⟨[], [], World.ownsRow_nil _ _ _ 16, ⟨rfl, rfl⟩, List.nodup_nil, by simp⟩, Below.refl _ _⟩
  have hmx : (limit.toNat : Int) = max limit 0 := by omega
  have hone := fun (W : World) (a : Nat) (hW : Glob W) (hb : Below w.heap.size w W) (ha : a ≤ l.length) => one_any hW (h.below hb) hc hA (by omega) ha (lim := limit.toNat) (by omega)
  have HONE := Lib.hid hone
  have HS := Lib.hid hstart
  have HR := Lib.hid hR
  have HG := Lib.hid hg
  have HMX := Lib.hid hmx
  clear hR hstart hone hg h hA hmx
  go_enter Tryz.func27, Tryz.ntmps27
  go_wp2_with fail
  go_loopw [6, 7] (fun o a wr => ∃ (at' : Nat) (outs : List Sp.StepV), a = .int .i64 at' ∧ AllMid w l limit.toNat at' outs o wr) (fun _ a _ => l.length - (intOf a).toNat)
  case atStart => exact ⟨0, [], rfl, HS.out⟩
  case round =>
    obtain ⟨at', outs, rfl, hm⟩ := hrel
    have hgr := HG.out.later hm.below
    have ho := HONE.out wr at' hgr hm.below hm.le
    rw [HMX.out] at ho
    have HM := Lib.hid hm
    have HO := Lib.hid ho
    have hle := hm.le
    clear hm hgr ho
    go_wp2_with fail
    refine HO.out.mono ?_
    rintro e w1 ⟨t, kv, dv, mv, rfl, hcm, hge, hsp, hb1⟩
    obtain ⟨k1, k2, k3, rfl⟩ := own_slice hcm.keys
    obtain ⟨d1, d2, d3, rfl⟩ := own_slice hcm.data
    obtain ⟨m1, m2, m3, rfl⟩ := own_slice hcm.metas
    cases hv : Sp.oneV limit.toNat (l.drop at') with
    | none =>
      rw [hv] at hsp
      have HB1 := Lib.hid hb1
      have HV := Lib.hid hv
      clear hcm hge hsp hb1 hv
      dsimp only [Option.isSome]
      go_wp2_with fail
      have hfin := HM.out.stop HV.out (Below.setCells (Nat.le_trans HB1.out.size (Nat.le_refl _)) (stepArr t (.slice k1 k2 k3) (.slice d1 d2 d3) (.slice m1 m2 m3)).toList 0 (HB1.out.alloc HB1.out.size (.cells (stepArr {} nilRow nilRow nilRow) 99)))
      rw [HR.out] at hfin
      exact hfin
    | some y =>
      obtain ⟨t', n⟩ := y
      have ht := hsp t' n hv
      have hn := oneV_in hv
      rw [List.length_drop] at hn
      rw [hv] at hsp
      have HB1 := Lib.hid hb1
      have HV := Lib.hid hv
      have HCM := Lib.hid hcm
      have HGE := Lib.hid hge
      have HT := Lib.hid ht
      clear hcm hge hsp hb1 hv ht
      dsimp only [Option.isSome]
      go_upto_region 4 with (fail)
      refine wp_world (X := fun wx => Blk wx w1.heap.size 99 (stepArr t (.slice k1 k2 k3) (.slice d1 d2 d3) (.slice m1 m2 m3)) ∧ Below w1.heap.size w1 wx) ⟨Blk.putStep (Blk.new w1 99 (stepArr {} nilRow nilRow nilRow)) _ _ _ _, Below.setCells (Nat.le_refl _) _ 0 ((Below.refl _ _).alloc (Nat.le_refl _) _)⟩ ?_
      intro wx hx
      obtain ⟨hbx, hbw⟩ := hx
      have q0 : _ = some (Value.int .i64 t.cmd.verb) := (hbx).cell 0
      have q1 : _ = some (Value.slice k1 k2 k3) := (hbx).cell 1
      have q2 : _ = some (Value.int .u64 t.cmd.flags) := (hbx).cell 2
      have q3 : _ = some (Value.int .i64 t.cmd.exptime) := (hbx).cell 3
      have q4 : _ = some (Value.int .u64 t.cmd.token) := (hbx).cell 4
      have q5 : _ = some (Value.int .u64 t.cmd.delta) := (hbx).cell 5
      have q6 : _ = some (Value.slice d1 d2 d3) := (hbx).cell 6
      have q7 : _ = some (Value.bool t.cmd.noreply) := (hbx).cell 7
      have q8 : _ = some (Value.bool t.cmd.large) := (hbx).cell 8
      have q9 : _ = some (Value.slice m1 m2 m3) := (hbx).cell 9
      have q10 : _ = some (str t.cmd.what) := (hbx).cell 10
      have q11 : _ = some (Value.int .i64 t.wrong.kind) := (hbx).cell 11
      have q12 : _ = some (str t.wrong.text) := (hbx).cell 12
      have q13 : _ = some (Value.int .i64 t.wrong.pass) := (hbx).cell 13
      have q14 : _ = some (Value.int .i64 t.frm) := (hbx).cell 14
      have q15 : _ = some (Value.int .i64 t.to) := (hbx).cell 15
      have HBX := Lib.hid hbx
      have HBW := Lib.hid hbw
      clear hbx hbw
      obtain ⟨tcs, bl, hown, hst, hnd, hlo⟩ := HM.out.mem
      have hbx1 : Below wr.heap.size wr wx := HB1.out.trans (HBW.out.mono HB1.out.size)
      have ho2 := own_later hown (hbx1.alloc hbx1.size (.cells (stepArr t (.slice k1 k2 k3) (.slice d1 d2 d3) (.slice m1 m2 m3)) 99))
      have hsw : w.heap.size ≤ wx.heap.size := Nat.le_trans HM.out.below.size hbx1.size
      have hcnt := HM.out.count
      have HO2 := Lib.hid ho2
      have HST := Lib.hid hst
      have HBX1 := Lib.hid hbx1
      have HOWN := Lib.hid hown
      have HND := Lib.hid hnd
      have HLO := Lib.hid hlo
      have hovlt : ∀ k, u6.ownBlock = some k → k < wr.heap.size := fun k hk => own_lt HOWN.out k (mem_rowBlock.2 hk)
      have hne : some w1.heap.size ≠ u6.ownBlock := fun e => by have := hovlt _ e.symm; have := HB1.out.size; omega
      have HNE := Lib.hid hne
      obtain ⟨vb, hvb⟩ : ∃ vb : Nat, vb = t.cmd.verb := ⟨_, rfl⟩
      have HVB := Lib.hid hvb
      clear ho2 hst hbx1 hown hnd hlo hovlt hne hvb
      by_cases hq : vb = 18
      · subst hq
        go_upto_region 6 with (fail)
        go_wp2_with (at_builtin; refine wpList_append_put rfl (.tmp 25) (.tmp 27) _ rfl w.heap.size 99 i0 _ 16 184 Tryz.underlying69 hi hz0 hz1 hz2 rfl (by decide) u6 outs.length tcs rfl HO2.out ⟨wx.heap.size, 0, none⟩ 1 1 (stepArr t (.slice k1 k2 k3) (.slice d1 d2 d3) (.slice m1 m2 m3)).toList rfl rfl ?_ ?_ ?_ ?_ ?_ ?_ ?_; exact cells_new _ _ _; (intro u hu; simp [stepArr] at hu; rcases hu with rfl | rfl | rfl | rfl | rfl | rfl | rfl | rfl | rfl | rfl | rfl | rfl | rfl | rfl | rfl | rfl <;> rfl); decide; (unfold maxLen; omega); omega; (simp; omega); intro g3 cap3 w3 hown3 hg3 hat3; have hm3 := AllMid.grown HM.out HOWN.out HST.out HND.out HLO.out HCM.out HGE.out HB1.out (HBW.out.alloc HBW.out.size _) hg3 hown3; have hbx3 := (HBX.out.alloc _).grown hg3 HNE.out; have q15 : w3.cell? ⟨w1.heap.size, 15, none⟩ = some (Value.int .i64 t.to) := hbx3.cell 15; have q0 : w3.cell? ⟨w1.heap.size, 0, none⟩ = some (Value.int .i64 18) := (hbx3.cell 0).trans (congrArg (fun x : Nat => some (Value.int .i64 x)) HVB.out.symm); have Hm3 := Lib.hid hm3; clear hown3 hg3 hat3 hm3 hbx3)
        have hfin := HM.out.quit HV.out HT.out HVB.out.symm Hm3.out
        rw [HR.out] at hfin
        exact hfin
      · have hq2 : ((vb : Int) == 18) = false := by simp; omega
        have HQ := Lib.hid hq
        clear hq
        go_upto_region 6 with (fail)
        go_wp2_with (at_builtin; refine wpList_append_put rfl (.tmp 25) (.tmp 27) _ rfl w.heap.size 99 i0 _ 16 184 Tryz.underlying69 hi hz0 hz1 hz2 rfl (by decide) u6 outs.length tcs rfl HO2.out ⟨wx.heap.size, 0, none⟩ 1 1 (stepArr t (.slice k1 k2 k3) (.slice d1 d2 d3) (.slice m1 m2 m3)).toList rfl rfl ?_ ?_ ?_ ?_ ?_ ?_ ?_; exact cells_new _ _ _; (intro u hu; simp [stepArr] at hu; rcases hu with rfl | rfl | rfl | rfl | rfl | rfl | rfl | rfl | rfl | rfl | rfl | rfl | rfl | rfl | rfl | rfl <;> rfl); decide; (unfold maxLen; omega); omega; (simp; omega); intro g3 cap3 w3 hown3 hg3 hat3; have hm3 := AllMid.grown HM.out HOWN.out HST.out HND.out HLO.out HCM.out HGE.out HB1.out (HBW.out.alloc HBW.out.size _) hg3 hown3; have hbx3 := (HBX.out.alloc _).grown hg3 HNE.out; have q15 : w3.cell? ⟨w1.heap.size, 15, none⟩ = some (Value.int .i64 t.to) := hbx3.cell 15; have q0 : w3.cell? ⟨w1.heap.size, 0, none⟩ = some (Value.int .i64 vb) := (hbx3.cell 0).trans (congrArg (fun x : Nat => some (Value.int .i64 x)) HVB.out.symm); have Hm3 := Lib.hid hm3; clear hown3 hg3 hat3 hm3 hbx3)
        have hto : t.to = at' + n := by rw [HT.out]; rfl
        exact ⟨⟨at' + n, outs ++ [t], by rw [hto], HM.out.on HV.out HT.out (by rw [← HVB.out]; exact HQ.out) Hm3.out⟩, by show l.length - (t.to : Int).toNat < l.length - (at' : Int).toNat; omega⟩
end Go.Proofs.YthgfjafnclklpaaGreatDoor
end
