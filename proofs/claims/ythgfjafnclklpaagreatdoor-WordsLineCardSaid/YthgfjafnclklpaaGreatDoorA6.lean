/- Walk of package words: one, where a line is whole: a block too large. -/
import Derived.Test.YthgfjafnclklpaaGreatDoorA3
namespace Go.Proofs.YthgfjafnclklpaaGreatDoor
attribute [local go_sem ↓] Go.wp_at_zero Go.wp_at_succ
open Go.RowKit
attribute [-go_sem] storeVar
attribute [local go_sem] run_store_cmd run_store_wrong run_store_step storeVar_int' storeVar_bool' storeVar_slice' storeVar_func' canPut_new canPut_setCell canPut_drew canPut_alloc canPut_setCells cell_setCells_far World.frozen?_setCells

set_option maxHeartbeats 8000000 in
set_option maxRecDepth 100000 in
theorem one_large {w : World} (hg : Glob w) {A : Option Addr} {cap : Nat} {l : Sp.Bs} (h : RowAt w A (bytesV l)) (hc : l.length ≤ cap) (hA : A = none → cap = 0) (hl : l.length ≤ 1000000000) {at' lim i : Nat} (hat : at' ≤ l.length)
    (hi : Sp.indexOf (l.drop at') 10 = some i) {c : Sp.CmdV} {n : Int} (hr0 : Sp.lineOf (Sp.chop ((l.drop at').take i)) = .ok c n) (hn : ¬ n < 0) (hln : (lim : Int) < n) :
    Calls Tryz.prog 68 #[.slice A l.length cap, .int .i64 at', .int .i64 lim] w (OnePost w at' (Sp.oneV lim (l.drop at'))) := by
  have hbl : (l.drop at').length = l.length - at' := by simp
  have hil := indexOf_in hi
  rw [hbl] at hil
  obtain ⟨b, o, hAe, hbw, hcells⟩ : ∃ b o, A = some ⟨b, o, none⟩ ∧ b < w.heap.size ∧ ∀ j u, (bytesV l)[j]? = some u → w.cell? ⟨b, o + j, none⟩ = some u := by
    rcases h with h0 | h0
    · have : l = [] := by simpa [bytesV] using h0
      rw [this] at hil; simp at hil
    · exact h0
  subst hAe
  have hrowD : RowAt w (some ⟨b, o + at', none⟩) (bytesV (l.drop at')) := by
    have := RowAt.stretch h at' l.length
    rwa [← bytesV_stretch, List.take_of_length_le (by simp)] at this
  have hrowL : RowAt w (some ⟨b, o + at', none⟩) (bytesV ((l.drop at').take i)) := by
    rw [bytesV_stretch]
    exact RowAt.stretch h at' i
  have hlen : ((l.drop at').take i).length = i := by rw [List.length_take, hbl]; omega
  have hidx : ∀ W : World, RowAt W (some ⟨b, o + at', none⟩) (bytesV (l.drop at')) → Calls Tryz.prog 114 #[.slice (some ⟨b, o + at', none⟩) (l.length - at') (cap - at'), .int .u8 10] W fun e w' => e = .returned (.int .i64 i) ∧ W = w' := fun W h1 => by
    have := index_any (cap := cap - at') h1 (fun h => by cases h) 10
    rwa [hbl, indexByte_of, hi] at this
  have hch : ∀ (W : World) (B : Option Addr) (d : Nat), RowAt W (some ⟨b, o + at', none⟩) (bytesV ((l.drop at').take i)) → RowAt W B (bytesV [13]) → Calls Tryz.prog 115 #[.slice (some ⟨b, o + at', none⟩) i (cap - at'), .slice B 1 d] W fun e w' =>
      e = .returned (.slice (some ⟨b, o + at', none⟩) (Sp.chop ((l.drop at').take i)).length (cap - at')) ∧ W = w' := fun W B d h1 h2 => by
    have := chop_any (cap := cap - at') (d := d) h1 h2 (by omega) (by omega) (fun h => by cases h)
    rwa [hlen] at this
  have hrowC : RowAt w (some ⟨b, o + at', none⟩) (bytesV (Sp.chop ((l.drop at').take i))) := by
    have e := (chop_take ((l.drop at').take i)).2
    have := hrowL.take (Sp.chop ((l.drop at').take i)).length
    rw [e]
    simpa [bytesV] using this
  obtain ⟨r, hr⟩ : ∃ r, r = Sp.lineOf (Sp.chop ((l.drop at').take i)) := ⟨_, rfl⟩
  have hrx := hr.trans hr0
  have HRX := Lib.hid hrx
  clear hrx hr0
  have hlf : ∀ W : World, Glob W → RowAt W (some ⟨b, o + at', none⟩) (bytesV (Sp.chop ((l.drop at').take i))) → Calls Tryz.prog 19 #[.slice (some ⟨b, o + at', none⟩) (Sp.chop ((l.drop at').take i)).length (cap - at')] W _ := fun W h1 h2 => line_flat h1 h2
  rw [← hr] at hlf
  have hskip : ∀ (W : World) (k : Nat), Below w.heap.size w W → k ≤ 9223372036854775807 → Calls Tryz.prog 116 #[.slice (some ⟨b, o, none⟩) l.length cap, .int .i64 ((at' + i + 1 : Nat) : Int), .int .i64 k] W (SkipPost W (at' + i + 1) (Sp.skipV (l.drop (at' + i + 1)) k)) := fun W k hb hk =>
    skip_any (h.below hb) hc (fun h => by cases h) hl (by omega) hk
  have hclone : ∀ (W : World) (k : Nat), Below w.heap.size w W → k ≤ l.length - (at' + i + 1) → Calls Tryz.prog 117 #[.slice (some ⟨b, o + (at' + i + 1), none⟩) k (cap - (at' + i + 1))] W fun e w' =>
      ∃ d1 d2 d3, e = .returned (.slice d1 d2 d3) ∧ w'.ownsRow w.heap.size 5 1 (.slice d1 d2 d3) ((l.drop (at' + i + 1)).take k).length (bytesV ((l.drop (at' + i + 1)).take k)) ∧ Below W.heap.size W w' := fun W k hb hk => by
    have e : ((l.drop (at' + i + 1)).take k).length = k := by rw [List.length_take, List.length_drop]; omega
    have hr : RowAt W (some ⟨b, o + (at' + i + 1), none⟩) (bytesV ((l.drop (at' + i + 1)).take k)) := by
      rw [bytesV_stretch]
      exact (h.below hb).stretch (at' + i + 1) k
    have := clone_any (cap := cap - (at' + i + 1)) hr (by omega)
    rw [e] at this ⊢
    refine this.mono ?_
    rintro e' w' ⟨v, rfl, h1, h2⟩
    obtain ⟨d1, d2, d3, rfl⟩ := own_slice h1
    exact ⟨d1, d2, d3, rfl, World.ownsRow.mono h1 hb.size, h2⟩
  have HCL := Lib.hid hclone
  clear hclone
  have kc := fun (w : World) (C : Array Value) (n c : Nat) => Lib.run_convert_bytes_const (P := Tryz.prog) w 35 5 C n c Tryz.underlying35 Tryz.underlying5
  have hone : Sp.oneV lim (l.drop at') = oneTail lim at' i l r := by
    have hd : (l.drop at').drop (i + 1) = l.drop (at' + i + 1) := by rw [List.drop_drop, Nat.add_assoc]
    rw [hr]
    unfold Sp.oneV oneTail
    rw [hi]
    dsimp only
    rw [hd]
    generalize Sp.lineOf (Sp.chop ((l.drop at').take i)) = q
    cases q <;> rfl
  rw [hone]
  have hsz0 : Below w.heap.size w (w.alloc (.cells (stepArr {} nilRow nilRow nilRow) 99)) := (Below.refl _ _).alloc (Nat.le_refl _) _
  have hs0 := Blk.new w 99 (stepArr {} nilRow nilRow nilRow)
  generalize Sp.chop ((l.drop at').take i) = L at hch hrowC hlf hr
  have HROWD := Lib.hid hrowD
  have HROWL := Lib.hid hrowL
  have HROWC := Lib.hid hrowC
  have HI := Lib.hid hidx
  have HCH := Lib.hid hch
  have HLF := Lib.hid hlf
  have HSK := Lib.hid hskip
  have HG := Lib.hid hg
  have HC := Lib.hid hcells
  have HS0 := Lib.hid hs0
  have HB0 := Lib.hid hsz0
  have HRR := Lib.hid hr
  clear h hrowD hrowL hrowC hidx hch hlf hskip hg hcells hs0 hsz0 hA hbl hlen hi hone hr
  generalize hR : OnePost w at' _ = R
  have HR := Lib.hid hR
  clear hR
  go_enter Tryz.func68, Tryz.ntmps68
  go_upto_region 4 with (refine (HI.out _ (HROWD.out.alloc _)).mono ?_; rintro e w1 ⟨rfl, hw1⟩; change (w.alloc (.cells (stepArr {} nilRow nilRow nilRow) 99)) = w1 at hw1; have hs1 := HS0.out; rw [hw1] at hs1; have hb1 := HB0.out; rw [hw1] at hb1; have HS1 := Lib.hid hs1; have HB1 := Lib.hid hb1; clear hs1 hb1 hw1)
  go_cut [9, 10, 11] (fun cb bn wb wx => OneMid w r cb bn wb wx)
  case first =>
    go_wp2_with fail
    rw [Nat.add_sub_cancel_left]
    refine (HCH.out _ _ _ (HROWL.out.below (HB1.out.alloc HB1.out.size _)) (const_row _ _ _ _)).mono ?_
    rintro e w2 ⟨rfl, hw2⟩
    have hb2 : Below w.heap.size w w2 := by rw [← hw2]; exact HB1.out.alloc HB1.out.size _
    have hs2 : Blk w2 w.heap.size 99 (stepArr {} nilRow nilRow nilRow) := by rw [← hw2]; exact Blk.alloc HS1.out _
    have HB2 := Lib.hid hb2
    have HS2 := Lib.hid hs2
    clear hw2 hb2 hs2
    go_wp2_with fail
    refine (HLF.out _ (HG.out.later HB2.out) (HROWC.out.below HB2.out)).mono ?_
    rintro e w9 ⟨k1, k2, k3, m1, m2, m3, rfl, hk, hm, hb⟩
    have hb9 := HB2.out.trans (hb.mono HB2.out.size)
    have hs9 := Blk.later HS2.out hb
    have hk9 := World.ownsRow.mono hk HB2.out.size
    have hm9 := World.ownsRow.mono hm HB2.out.size
    have HK := Lib.hid hk9
    have HM := Lib.hid hm9
    have HB9 := Lib.hid hb9
    have HS9 := Lib.hid hs9
    clear hk hm hb hb9 hs9 hk9 hm9
    go_wp2_with fail
    go_meet
    exact oneMid_new HB9.out HS9.out HK.out HM.out
  case rest =>
    obtain ⟨c0, x0, k1, k2, k3, m1, m2, m3, rfl, rfl, rfl, hv, hk, hm, hb⟩ := hcut
    have y0 : _ = some (Value.int .i64 (lineStep r).cmd.verb) := (hv.c).cell 0
    have y1 : _ = some (Value.slice k1 k2 k3) := (hv.c).cell 1
    have y2 : _ = some (Value.int .u64 (lineStep r).cmd.flags) := (hv.c).cell 2
    have y3 : _ = some (Value.int .i64 (lineStep r).cmd.exptime) := (hv.c).cell 3
    have y4 : _ = some (Value.int .u64 (lineStep r).cmd.token) := (hv.c).cell 4
    have y5 : _ = some (Value.int .u64 (lineStep r).cmd.delta) := (hv.c).cell 5
    have y6 : _ = some (nilRow) := (hv.c).cell 6
    have y7 : _ = some (Value.bool (lineStep r).cmd.noreply) := (hv.c).cell 7
    have y8 : _ = some (Value.bool (lineStep r).cmd.large) := (hv.c).cell 8
    have y9 : _ = some (Value.slice m1 m2 m3) := (hv.c).cell 9
    have y10 : _ = some (str (lineStep r).cmd.what) := (hv.c).cell 10
    have v0 : _ = some (Value.int .i64 (lineStep r).wrong.kind) := hv.x.cell 0
    have v1 : _ = some (str (lineStep r).wrong.text) := hv.x.cell 1
    have v2 : _ = some (Value.int .i64 (lineStep r).wrong.pass) := hv.x.cell 2
    have HV := Lib.hid hv
    have HK := Lib.hid hk
    have HM := Lib.hid hm
    have HB := Lib.hid hb
    clear hv hk hm hb
    go_upto_region 5 with (fail)
    have hse : ((at' : Int) + (i : Int) + 1) = ((at' + i + 1 : Nat) : Int) := by omega
    have HSE := Lib.hid hse
    clear hse
    go_cut [12] (fun sb wx => ∃ s0, sb = .pointer (some ⟨s0, 0, none⟩) ∧ OneAt w wc r at' (at' + i + 1) c0 x0 s0 k1 k2 k3 m1 m2 m3 wx)
    case first =>
      go_wp2_with fail
      go_meet
      rw [HSE.out]
      exact oneAt_new HV.out HK.out HM.out HB.out
    case rest =>
      obtain ⟨s0, rfl, ha⟩ := hcut
      obtain ⟨t, ht⟩ : ∃ t, t = (lineStep r).span at' (at' + i + 1) := ⟨_, rfl⟩
      have hnow : OneNow w wc s0 t (.slice k1 k2 k3) nilRow (.slice m1 m2 m3) := by
        rw [ht]; exact ha.now (by rw [HRR.out]; exact lineStep_data L)
      have hto : t.to = at' + i + 1 := by rw [ht]; rfl
      have v0 : _ = some (Value.int .i64 (lineStep r).wrong.kind) := ha.x.cell 0
      have v1 : _ = some (str (lineStep r).wrong.text) := ha.x.cell 1
      have v2 : _ = some (Value.int .i64 (lineStep r).wrong.pass) := ha.x.cell 2
      have q0 : _ = some (Value.int .i64 t.cmd.verb) := (hnow.step).cell 0
      have q1 : _ = some (Value.slice k1 k2 k3) := (hnow.step).cell 1
      have q2 : _ = some (Value.int .u64 t.cmd.flags) := (hnow.step).cell 2
      have q3 : _ = some (Value.int .i64 t.cmd.exptime) := (hnow.step).cell 3
      have q4 : _ = some (Value.int .u64 t.cmd.token) := (hnow.step).cell 4
      have q5 : _ = some (Value.int .u64 t.cmd.delta) := (hnow.step).cell 5
      have q6 : _ = some (nilRow) := (hnow.step).cell 6
      have q7 : _ = some (Value.bool t.cmd.noreply) := (hnow.step).cell 7
      have q8 : _ = some (Value.bool t.cmd.large) := (hnow.step).cell 8
      have q9 : _ = some (Value.slice m1 m2 m3) := (hnow.step).cell 9
      have q10 : _ = some (str t.cmd.what) := (hnow.step).cell 10
      have q11 : _ = some (Value.int .i64 t.wrong.kind) := (hnow.step).cell 11
      have q12 : _ = some (str t.wrong.text) := (hnow.step).cell 12
      have q13 : _ = some (Value.int .i64 t.wrong.pass) := (hnow.step).cell 13
      have q14 : _ = some (Value.int .i64 t.frm) := (hnow.step).cell 14
      have q15 : _ = some (Value.int .i64 t.to) := hnow.step.cell 15
      have hto1 : t.to ≤ at' + i + 1 := by omega
      have hto2 : at' + i + 1 ≤ t.to := by omega
      have hcp := hnow.res.can 0 16 (by simp [stepArr])
      have f15 := hnow.step.frozen 15
      have HNOW := Lib.hid hnow
      have HT := Lib.hid ht
      have HTO := Lib.hid hto
      clear ha hnow hto ht
      obtain rfl := HRX.out
      have hok := lineOf_ok HRR.out.symm
      have u0 : wc.cell? ⟨x0, 0, none⟩ = some (Value.int .i64 0) := v0
      clear v0 v1 v2
      rw [show lineN (.ok c n) = n from rfl]
      obtain ⟨k, rfl⟩ := Int.eq_ofNat_of_zero_le (by omega : 0 ≤ n)
      have hk31 : k ≤ 2147483647 := by omega
      clear hok hn
      go_wp2_with fail
      rw [HTO.out]
      refine (HSK.out _ k HNOW.out.below (by omega)).mono ?_
      rintro e w5 ⟨v, gd, rfl, hv, hgn, hb5⟩
      obtain ⟨th, hth⟩ : ∃ th, th = (Sp.skipV (l.drop (at' + i + 1)) k).isSome := ⟨_, rfl⟩
      rw [← hth]
      have hn5 := HNOW.out.later hb5
      have hn6 : OneNow w (w5.setCell ⟨s0, 15, none⟩ (.int .i64 v)) s0 (t.span t.frm v) (.slice k1 k2 k3) nilRow (.slice m1 m2 m3) := hn5.put 15 _ (by kernel_rfl) rfl rfl rfl
      have hs5 : Below w.heap.size w w5 := hn5.below
      clear q0 q1 q2 q3 q4 q5 q6 q7 q8 q9 q10 q11 q12 q13 q14 q15 hcp f15 u0
      have q0 : _ = some (Value.int .i64 t.cmd.verb) := (hn5.step).cell 0
      have q1 : _ = some (Value.slice k1 k2 k3) := (hn5.step).cell 1
      have q2 : _ = some (Value.int .u64 t.cmd.flags) := (hn5.step).cell 2
      have q3 : _ = some (Value.int .i64 t.cmd.exptime) := (hn5.step).cell 3
      have q4 : _ = some (Value.int .u64 t.cmd.token) := (hn5.step).cell 4
      have q5 : _ = some (Value.int .u64 t.cmd.delta) := (hn5.step).cell 5
      have q6 : _ = some (nilRow) := (hn5.step).cell 6
      have q7 : _ = some (Value.bool t.cmd.noreply) := (hn5.step).cell 7
      have q8 : _ = some (Value.bool t.cmd.large) := (hn5.step).cell 8
      have q9 : _ = some (Value.slice m1 m2 m3) := (hn5.step).cell 9
      have q10 : _ = some (str t.cmd.what) := (hn5.step).cell 10
      have q11 : _ = some (Value.int .i64 t.wrong.kind) := (hn5.step).cell 11
      have q12 : _ = some (str t.wrong.text) := (hn5.step).cell 12
      have q13 : _ = some (Value.int .i64 t.wrong.pass) := (hn5.step).cell 13
      have q14 : _ = some (Value.int .i64 t.frm) := (hn5.step).cell 14
      have q15 : _ = some (Value.int .i64 t.to) := hn5.step.cell 15
      have hcp := hn5.res.can 0 16 (by simp [stepArr])
      have hcs1 := hn5.step.can 0 11 (by simp [stepArr])
      have hcs2 := hn5.step.can 11 3 (by simp [stepArr])
      have f15 := hn5.step.frozen 15
      have f8 := hn5.step.frozen 8
      have f6 := hn5.step.frozen 6
      have hne5 : w.heap.size ≠ s0 := by have := hn5.ne; omega
      have HN6 := Lib.hid hn6
      have HV5 := Lib.hid hv
      have HTH := Lib.hid hth
      have HGN := Lib.hid hgn
      have HB5 := Lib.hid hs5
      clear hn5 hn6 hv hth hgn hb5 hs5
      have hlk := hln
      have hn7 : OneNow w ((w5.setCell ⟨s0, 15, none⟩ (.int .i64 v)).setCell ⟨s0, 8, none⟩ (.bool true)) s0 { (t.span t.frm v) with cmd := { t.cmd with large := true } } (.slice k1 k2 k3) nilRow (.slice m1 m2 m3) := HN6.out.put 8 _ (by kernel_rfl) rfl rfl rfl
      have HN7 := Lib.hid hn7
      clear hn7
      go_wp2_with fail
      refine bodyPost_ret (one_results HN7.out.close.1 _ rfl rfl) rfl ?_
      rw [← HR.out]
      have hth := HTH.out
      cases hs : Sp.skipV (l.drop (at' + i + 1)) k with
      | none =>
        rw [hs] at hth; subst hth
        exact OnePost.no HN7.out (by rw [oneTail_blk, hs]; rfl)
      | some y =>
        rw [hs] at hth; subst hth
        refine OnePost.one HN7.out (t' := { cmd := { c with large := true } }) (n := i + 1 + y.1) (by rw [oneTail_blk, hs, Option.map_some, if_pos hlk]) ?_
        rw [HT.out, (HV5.out y.1 y.2 hs).1, show at' + i + 1 + y.1 = at' + (i + 1 + y.1) by omega]
        rfl
end Go.Proofs.YthgfjafnclklpaaGreatDoor
