/- Walk of the document's One: the step at the head of these bytes. Printed by gen/genRY.py. Walk of the document's All: any bytes, any limit. -/
import Derived.Test.YthgfjafnclklpaaGreatDoorQ34
import Derived.Test.YthgfjafnclklpaaGreatDoorQ35
import Derived.Test.YthgfjafnclklpaaGreatDoorQ32
import Derived.Test.YthgfjafnclklpaaGreatDoorPc
section
namespace Go.Proofs.YthgfjafnclklpaaGreatDoor
attribute [local go_sem ↓] Go.wp_at_zero Go.wp_at_succ
open Go.RowKit

theorem refLine_flat {w : World} {A : Option Addr} {cap : Nat} {l : Sp.Bs} (h : RowAt w A (bytesV l)) :
    Calls Tryz.prog 17 #[.slice A l.length cap] w fun e w' => ∃ k1 k2 k3 m1 m2 m3, e = .returned (.tuple #[cmdV (lineStep (Sp.lineOf l)).cmd (.slice k1 k2 k3) nilRow (.slice m1 m2 m3), .int .i64 (lineN (Sp.lineOf l)), wrongV (lineStep (Sp.lineOf l)).wrong]) ∧
      w'.ownsRow w.heap.size 9 1 (.slice k1 k2 k3) (lineStep (Sp.lineOf l)).cmd.keys.length ((lineStep (Sp.lineOf l)).cmd.keys.map str) ∧
      w'.ownsRow w.heap.size 94 3 (.slice m1 m2 m3) (lineStep (Sp.lineOf l)).cmd.metas.length (flagsCells (lineStep (Sp.lineOf l)).cmd.metas) ∧ Below w.heap.size w w' := by
  refine (refLine11_any h).mono ?_
  rintro e w' ⟨c, kv, mv, n, x, rfl, hb, hm⟩
  cases hr : Sp.lineOf l with
  | ok c2 n2 =>
    rw [hr] at hm
    obtain ⟨rfl, rfl, rfl, ho⟩ := hm
    obtain ⟨k1, k2, k3, rfl⟩ := own_slice ho.keys
    obtain ⟨m1, m2, m3, rfl⟩ := own_slice ho.metas
    exact ⟨k1, k2, k3, m1, m2, m3, rfl, ho.keys, ho.metas, hb⟩
  | bad y =>
    rw [hr] at hm
    obtain ⟨rfl, rfl, rfl, rfl, rfl⟩ := hm
    exact ⟨none, 0, 0, none, 0, 0, rfl, World.ownsRow_nil _ _ _ 1, World.ownsRow_nil _ _ _ 3, hb⟩
/-- what the document's One tells -/
def RefOne (w : World) (at' : Nat) (r : Option (Sp.StepV × Nat)) (e : Ending) (w' : World) : Prop :=
  match r with
  | some _ => OnePost w at' r e w'
  | none => (∃ cs : Array Value, cs.size = 16 ∧ cs.all (·.oneCell') = true ∧ e = .returned (.tuple #[.agg cs, .bool false])) ∧ Below w.heap.size w w'
theorem RefOne.one {w : World} {at' : Nat} {r : Option (Sp.StepV × Nat)} {y : Sp.StepV × Nat} {e : Ending} {w' : World} (hr : r = some y) (h : OnePost w at' r e w') : RefOne w at' r e w' := by
  subst hr; exact h
section
attribute [-go_sem] loadVar
theorem refOne_results {W : World} {rb : Nat} {cs : Array Value} {th : Bool} (hs : cs.size = 16) (hb : Blk W rb 99 cs) (tm : Array Value) (h6 : tm[6]?.getD undef = .pointer (some ⟨rb, 0, none⟩)) (h7 : tm[7]?.getD undef = .bool th) :
    (results Tryz.f67 tm).run Tryz.prog W = .ok (.tuple #[.agg cs, .bool th]) W := by
  have hsz : (Tryz.prog.info? 99).map (·.size) = some cs.toList.length := by rw [Array.length_toList, hs]; kernel_rfl
  have hld := run_loadVar_mid (P := Tryz.prog) W rb 0 99 cs.toList _ (fun j v hv => by rw [Nat.zero_add, hb.cell j]; simpa using hv) Tryz.underlying99 rfl hsz
  simp [results, Tryz.results67, go_sem, h6, h7, hld]
end
theorem blockV_form (l : Sp.Bs) (a k : Nat) : ∃ (v : Int) (gd : Bool), blockV l a k = .tuple #[.int .i64 v, .bool gd] ∧ ((Sp.skipV (l.drop a) k = none ∧ v = -1) ∨ ∃ m, Sp.skipV (l.drop a) k = some (m, gd) ∧ v = ((a + m : Nat) : Int)) := by
  unfold blockV
  cases h : Sp.skipV (l.drop a) k with
  | none => exact ⟨_, _, rfl, .inl ⟨rfl, rfl⟩⟩
  | some y => exact ⟨_, _, rfl, .inr ⟨y.1, rfl, by simp⟩⟩
theorem loadVar_intY (a : Addr) : type_of% (loadVar.eq_1 3 a) := loadVar.eq_1 3 a
theorem loadVar_u8Y (a : Addr) : type_of% (loadVar.eq_1 5 a) := loadVar.eq_1 5 a
theorem ld_cmd {W : World} {b : Nat} {c : Sp.CmdV} {k1 m1 : Option Addr} {k2 k3 m2 m3 : Nat} (h : Blk W b 38 (cmdArr c (.slice k1 k2 k3) nilRow (.slice m1 m2 m3))) :
    (loadVar 38 ⟨b, 0, none⟩).run Tryz.prog W = .ok (.agg #[.int .i64 c.verb, .slice k1 k2 k3, .int .u64 c.flags, .int .i64 c.exptime, .int .u64 c.token, .int .u64 c.delta, .slice none 0 0, .bool c.noreply, .bool c.large, .slice m1 m2 m3, .string ⟨c.what.toArray⟩]) W :=
  run_loadVar_mid (P := Tryz.prog) W b 0 38 (cmdList c (.slice k1 k2 k3) nilRow (.slice m1 m2 m3)) _ (fun j v hv => by rw [Nat.zero_add, h.cell j]; simpa [cmdList, cmdArr] using hv) Tryz.underlying38 rfl (by kernel_rfl)
theorem ld_wrong {W : World} {b : Nat} {x : Sp.WrongV} (h : Blk W b 59 (wrongArr x)) : (loadVar 59 ⟨b, 0, none⟩).run Tryz.prog W = .ok (.agg #[.int .i64 x.kind, .string ⟨x.text.toArray⟩, .int .i64 x.pass]) W :=
  run_loadVar_mid (P := Tryz.prog) W b 0 59 (wrongList x) _ (fun j v hv => by rw [Nat.zero_add, h.cell j]; simpa [wrongList, wrongArr] using hv) Tryz.underlying59 rfl (by kernel_rfl)
/-- a step whose end is any number -/
def stepArrI (t : Sp.StepV) (kv dv mv : Value) (v : Int) : Array Value := #[.int .i64 t.cmd.verb, kv, .int .u64 t.cmd.flags, .int .i64 t.cmd.exptime, .int .u64 t.cmd.token, .int .u64 t.cmd.delta, dv, .bool t.cmd.noreply, .bool t.cmd.large, mv, str t.cmd.what, .int .i64 t.wrong.kind, str t.wrong.text, .int .i64 t.wrong.pass, .int .i64 t.frm, .int .i64 v]
theorem ld_step {W : World} {b : Nat} {t : Sp.StepV} {k1 d1 m1 : Option Addr} {k2 k3 d2 d3 m2 m3 : Nat} {v : Int} (h : Blk W b 99 (stepArrI t (.slice k1 k2 k3) (.slice d1 d2 d3) (.slice m1 m2 m3) v)) :
    (loadVar 99 ⟨b, 0, none⟩).run Tryz.prog W = .ok (.agg #[.int .i64 t.cmd.verb, .slice k1 k2 k3, .int .u64 t.cmd.flags, .int .i64 t.cmd.exptime, .int .u64 t.cmd.token, .int .u64 t.cmd.delta, .slice d1 d2 d3, .bool t.cmd.noreply, .bool t.cmd.large, .slice m1 m2 m3, .string ⟨t.cmd.what.toArray⟩, .int .i64 t.wrong.kind, .string ⟨t.wrong.text.toArray⟩, .int .i64 t.wrong.pass, .int .i64 t.frm, .int .i64 v]) W :=
  run_loadVar_mid (P := Tryz.prog) W b 0 99 (stepArrI t (.slice k1 k2 k3) (.slice d1 d2 d3) (.slice m1 m2 m3) v).toList _ (fun j u hu => by rw [Nat.zero_add, h.cell j]; simpa [stepArrI] using hu) Tryz.underlying99 rfl (by kernel_rfl)
theorem Blk.putStepI {w : World} {g : Nat} {ty : TypeId} {t0 : Sp.StepV} {k0 d0 m0 : Value} (h : Blk w g ty (stepArr t0 k0 d0 m0)) (t : Sp.StepV) (kv dv mv : Value) (v : Int) : Blk (w.setCells g 0 (stepArrI t kv dv mv v).toList) g ty (stepArrI t kv dv mv v) := by
  have := Blk.puts (stepArrI t kv dv mv v).toList 0 h
  rwa [show ((stepArrI t kv dv mv v).toList.zipIdx 0).foldl (fun cs x => cs.setIfInBounds x.2 x.1) (stepArr t0 k0 d0 m0) = stepArrI t kv dv mv v from by kernel_rfl] at this
attribute [-go_sem] storeVar loadVar
attribute [local go_sem] loadVar_intY loadVar_u8Y run_store_cmd run_store_wrong run_store_step storeVar_int' storeVar_bool' storeVar_slice' storeVar_func' canPut_new canPut_setCell canPut_drew canPut_alloc canPut_setCells cell_setCells_far World.frozen?_setCells

set_option maxHeartbeats 8000000 in
set_option maxRecDepth 100000 in
theorem refOne_line {w : World} {A : Option Addr} {cap : Nat} {l : Sp.Bs} (h : RowAt w A (bytesV l)) (hc : l.length ≤ cap) (hl : l.length ≤ 100000000) {at' lim i : Nat} (hat : at' ≤ l.length)
    (hi : Sp.indexOf (l.drop at') 10 = some i) :
    Calls Tryz.prog 67 #[.slice A l.length cap, .int .i64 at', .int .i64 lim] w (RefOne w at' (Sp.oneV lim (l.drop at'))) := by
  have hbl : (l.drop at').length = l.length - at' := by simp
  have hil := indexOf_in hi
  rw [hbl] at hil
  obtain ⟨b, o, hAe, hbw, hcells⟩ : ∃ b o, A = some ⟨b, o, none⟩ ∧ b < w.heap.size ∧ ∀ j u, (bytesV l)[j]? = some u → w.cell? ⟨b, o + j, none⟩ = some u := by
    rcases h with h0 | h0
    · have : l = [] := by simpa [bytesV] using h0
      rw [this] at hil; simp at hil
    · exact h0
  subst hAe
  have hrowL : RowAt w (some ⟨b, o + at', none⟩) (bytesV ((l.drop at').take i)) := by
    rw [bytesV_stretch]
    exact RowAt.stretch h at' i
  have hlen : ((l.drop at').take i).length = i := by rw [List.length_take, hbl]; omega
  have hnx : ∀ W : World, Below w.heap.size w W → Calls Tryz.prog 111 #[.slice (some ⟨b, o, none⟩) l.length cap, .int .i64 at'] W fun e w' => e = .returned (.int .i64 ((at' + i : Nat) : Int)) ∧ W = w' := fun W hb => by
    have := refNext_any (cap := cap) (h.below hb) (by omega) hat
    rwa [show nextV l at' = ((at' + i : Nat) : Int) by unfold nextV; rw [hi]] at this
  have hrowC : RowAt w (some ⟨b, o + at', none⟩) (bytesV (Sp.chop ((l.drop at').take i))) := by
    have e := (chop_take ((l.drop at').take i)).2
    have := hrowL.take (Sp.chop ((l.drop at').take i)).length
    rw [e]
    simpa [bytesV] using this
  obtain ⟨r, hr⟩ : ∃ r, r = Sp.lineOf (Sp.chop ((l.drop at').take i)) := ⟨_, rfl⟩
  have hlf : ∀ (W : World) (n : Nat), n = (Sp.chop ((l.drop at').take i)).length → RowAt W (some ⟨b, o + at', none⟩) (bytesV (Sp.chop ((l.drop at').take i))) → Calls Tryz.prog 17 #[.slice (some ⟨b, o + at', none⟩) n (cap - at')] W _ := fun W n hn h2 => by rw [hn]; exact refLine_flat h2
  rw [← hr] at hlf
  have hblk : ∀ (W : World) (k : Nat), Below w.heap.size w W → k ≤ 2147483647 → Calls Tryz.prog 112 #[.slice (some ⟨b, o, none⟩) l.length cap, .int .i64 ((at' + i + 1 : Nat) : Int), .int .i64 k] W fun e w' => e = .returned (blockV l (at' + i + 1) k) ∧ W = w' := fun W k hb hk =>
    refBlock_any (h.below hb) (by omega) (by omega) hk
  have hclone : ∀ (W : World) (k : Nat), Below w.heap.size w W → k ≤ l.length - (at' + i + 1) → Calls Tryz.prog 113 #[.slice (some ⟨b, o + (at' + i + 1), none⟩) k (cap - (at' + i + 1))] W fun e w' =>
      ∃ d1 d2 d3, e = .returned (.slice d1 d2 d3) ∧ w'.ownsRow w.heap.size 5 1 (.slice d1 d2 d3) ((l.drop (at' + i + 1)).take k).length (bytesV ((l.drop (at' + i + 1)).take k)) ∧ Below W.heap.size W w' := fun W k hb hk => by
    have e : ((l.drop (at' + i + 1)).take k).length = k := by rw [List.length_take, List.length_drop]; omega
    have hr : RowAt W (some ⟨b, o + (at' + i + 1), none⟩) (bytesV ((l.drop (at' + i + 1)).take k)) := by
      rw [bytesV_stretch]
      exact (h.below hb).stretch (at' + i + 1) k
    have := copy_any (cap := cap - (at' + i + 1)) (by omega) hr (fun h => by cases h)
    rw [e] at this ⊢
    refine this.mono ?_
    rintro e' w' ⟨g, c, rfl, h1, h2⟩
    exact ⟨_, _, _, rfl, World.ownsRow.mono h1 hb.size, h2⟩
  have HCL := Lib.hid hclone
  clear hclone
  have hone : Sp.oneV lim (l.drop at') = oneTail lim at' i l r := by
    have hd : (l.drop at').drop (i + 1) = l.drop (at' + i + 1) := by rw [List.drop_drop, Nat.add_assoc]
    rw [hr]
    unfold Sp.oneV oneTail
    rw [hi]
    dsimp only
    rw [hd]
    generalize Sp.lineOf (Sp.chop ((l.drop at').take i)) = q
    cases q <;> rfl
  rw [hone]
  have hsz0 : Below w.heap.size w (w.alloc (.cells (stepArr {} nilRow nilRow nilRow) 99)) := (Below.refl _ _).alloc (Nat.le_refl _) _
  have hs0 := Blk.new w 99 (stepArr {} nilRow nilRow nilRow)
  obtain ⟨T, hT⟩ : ∃ T, T = (l.drop at').take i := ⟨_, rfl⟩
  have hTi : T.length = i := by rw [hT]; exact hlen
  rw [← hT] at hrowC hlf hr
  have hlast : ∀ j x, T[j]? = some x → w.cell? ⟨b, o + (at' + j), none⟩ = some (.int .u8 x.toNat) := fun j x hx => by
    refine hcells (at' + j) _ ?_
    rw [hT, List.getElem?_take] at hx
    split at hx
    · rw [List.getElem?_drop] at hx
      simp [bytesV, hx]
    · cases hx
  have HROWC := Lib.hid hrowC
  have HNX := Lib.hid hnx
  have HLF := Lib.hid hlf
  have HSK := Lib.hid hblk
  have HLAST := Lib.hid hlast
  have HS0 := Lib.hid hs0
  have HB0 := Lib.hid hsz0
  have HRR := Lib.hid hr
  clear h hrowL hrowC hnx hlf hblk hcells hs0 hsz0 hbl hlen hi hone hr hT hlast
  generalize hR : RefOne w at' _ = R
  have HR := Lib.hid hR
  clear hR
  go_enter Tryz.func67, Tryz.ntmps67
  go_upto_region 4 with (go_at_call 111; refine (HNX.out _ HB0.out).mono ?_; rintro e w1 ⟨rfl, hw1⟩; change (w.alloc (.cells (stepArr {} nilRow nilRow nilRow) 99)) = w1 at hw1; have hs1 := HS0.out; rw [hw1] at hs1; have hb1 := HB0.out; rw [hw1] at hb1; have HS1 := Lib.hid hs1; have HB1 := Lib.hid hb1; clear hs1 hb1 hw1)
  go_upto_region 5 with fail
  rw [show at' + i - at' = i from Nat.add_sub_cancel_left at' i]
  obtain ⟨bz, hbz⟩ : ∃ bz, bz = decide (T.getLast? = some 13) := ⟨_, rfl⟩
  have HBZ := Lib.hid hbz
  clear hbz
  go_cut [39] (fun v wx => v = .bool bz ∧ wx = w1)
  case first =>
    rcases Nat.eq_zero_or_pos i with h0 | h0
    · subst h0
      have hb0 : bz = false := by
        rw [HBZ.out, List.eq_nil_of_length_eq_zero hTi]; rfl
      subst hb0
      go_wp2_with fail
      go_meet
      exact ⟨rfl, rfl⟩
    · obtain ⟨x, hx⟩ : ∃ x, T[i - 1]? = some x := ⟨T[i - 1]'(by omega), List.getElem?_eq_getElem _⟩
      have hgl : T.getLast? = some x := by rw [List.getLast?_eq_getElem?, hTi]; exact hx
      have z13 := (HB1.out.cell (p := ⟨b, o + (at' + (i - 1)), none⟩) hbw).trans (HLAST.out _ _ hx)
      have hi0 : (0 : Int) < (i : Int) := by omega
      obtain ⟨j, hj⟩ : ∃ j, i = j + 1 := ⟨i - 1, by omega⟩
      subst hj
      have hz : w1.cell? ⟨b, o + at' + j, none⟩ = some (.int .u8 x.toNat) := by
        rw [Nat.add_assoc]; exact z13
      have hj1 : IntKind.i64.wrap ((j : Int) + 1 - 1) = (j : Int) := by rw [IntKind.wrap_i64]; omega
      have hj2 : (j : Int) < (j : Int) + 1 := by omega
      clear z13
      by_cases h13 : x = 13
      · subst h13
        have hb0 : bz = true := by rw [HBZ.out, hgl]; rfl
        subst hb0
        go_wp2_with fail
        go_meet
        exact ⟨rfl, rfl⟩
      · have hb0 : bz = false := by rw [HBZ.out, hgl]; exact decide_eq_false (fun e => h13 (Option.some.inj e))
        subst hb0
        have hne : ((x.toNat : Int) == 13) = false := byte_ne (c := 13) rfl h13
        go_wp2_with fail
        go_meet
        exact ⟨rfl, rfl⟩
  case rest =>
    obtain ⟨rfl, hwx⟩ := hcut
    replace hwx := hwx.symm
    subst hwx
    obtain ⟨n9, hn9⟩ : ∃ n9, n9 = (Sp.chop T).length := ⟨_, rfl⟩
    go_upto_if 39 with fail
    go_cut [9] (fun v wx => v = .slice (some ⟨b, o + at', none⟩) n9 (cap - at') ∧ wx = w1)
    case first =>
      cases bz with
      | false =>
        have hn : n9 = i := by
          rw [hn9, ← hTi]; unfold Sp.chop; rw [if_neg (of_decide_eq_false HBZ.out.symm)]
        subst hn
        go_wp2_with fail
        go_meet
        exact ⟨rfl, rfl⟩
      | true =>
        have hlst : T.getLast? = some 13 := of_decide_eq_true HBZ.out.symm
        have hn : n9 + 1 = i := by
          have hpos : 0 < T.length := by
            cases T with
            | nil => cases hlst
            | cons _ _ => exact Nat.succ_pos _
          rw [hn9]; unfold Sp.chop; rw [if_pos hlst, List.length_dropLast]; omega
        subst hn
        have hj1 : IntKind.i64.wrap ((n9 : Int) + 1 - 1) = (n9 : Int) := by rw [IntKind.wrap_i64]; omega
        have hj2 : (n9 : Int) ≤ ((cap - at' : Nat) : Int) := by omega
        clear hlst hn9
        go_wp2_with fail
        go_meet
        exact ⟨rfl, rfl⟩
    case rest =>
      obtain ⟨rfl, hwx⟩ := hcut
      replace hwx := hwx.symm
      subst hwx
      have HN9 := Lib.hid hn9
      clear hn9
      go_upto_region 7 with fail
      go_cut [10, 11, 12] (fun cb bn wb wx => OneMid w r cb bn wb wx)
      case first =>
        go_wp2_with (go_at_call 17; refine (HLF.out _ _ HN9.out (HROWC.out.below HB1.out)).mono ?_; rintro e w9 ⟨k1, k2, k3, m1, m2, m3, rfl, hk, hm, hb⟩; have hb9 := HB1.out.trans (hb.mono HB1.out.size); have hs9 := Blk.later HS1.out hb; have hk9 := World.ownsRow.mono hk HB1.out.size; have hm9 := World.ownsRow.mono hm HB1.out.size; have HK := Lib.hid hk9; have HM := Lib.hid hm9; have HB9 := Lib.hid hb9; have HS9 := Lib.hid hs9; clear hk hm hb hb9 hs9 hk9 hm9)
        go_meet
        exact oneMid_new HB9.out HS9.out HK.out HM.out
      case rest =>
        obtain ⟨c0, x0, k1, k2, k3, m1, m2, m3, rfl, rfl, rfl, hv, hk, hm, hb⟩ := hcut
        have hlc := ld_cmd hv.c
        have hlw := ld_wrong hv.x
        have HV := Lib.hid hv
        have HK := Lib.hid hk
        have HM := Lib.hid hm
        have HB := Lib.hid hb
        clear hv hk hm hb
        go_upto_region 8 with (fail)
        have hse : (((at' + i : Nat) : Int) + 1) = ((at' + i + 1 : Nat) : Int) := by omega
        have hse2 : ((at' : Int) + (i : Int) + 1) = ((at' + i + 1 : Nat) : Int) := by omega
        have HSE := Lib.hid hse
        have HSE2 := Lib.hid hse2
        clear hse hse2
        go_cut [13] (fun sb wx => ∃ s0, sb = .pointer (some ⟨s0, 0, none⟩) ∧ OneAt w wc r at' (at' + i + 1) c0 x0 s0 k1 k2 k3 m1 m2 m3 wx)
        case first =>
          go_wp2_with fail
          go_meet
          first | rw [HSE.out] | rw [HSE2.out]
          exact oneAt_new HV.out HK.out HM.out HB.out
        case rest =>
          obtain ⟨s0, rfl, ha⟩ := hcut
          obtain ⟨t, ht⟩ : ∃ t, t = (lineStep r).span at' (at' + i + 1) := ⟨_, rfl⟩
          have hnow : OneNow w wc s0 t (.slice k1 k2 k3) nilRow (.slice m1 m2 m3) := by
            rw [ht]; exact ha.now (by rw [HRR.out]; exact lineStep_data _)
          have hto : t.to = at' + i + 1 := by rw [ht]; rfl
          have v0 : _ = some (Value.int .i64 (lineStep r).wrong.kind) := ha.x.cell 0
          have v2 : _ = some (Value.int .i64 (lineStep r).wrong.pass) := ha.x.cell 2
          have hls := ld_step (v := t.to) hnow.step
          have q15 : _ = some (Value.int .i64 t.to) := hnow.step.cell 15
          clear hlc hlw
          have hto1 : t.to ≤ at' + i + 1 := by omega
          have hto2 : at' + i + 1 ≤ t.to := by omega
          have hto3 : (0 : Int) ≤ (t.to : Int) := by omega
          have hcp := hnow.res.can 0 16 (by simp [stepArr])
          have f15 := hnow.step.frozen 15
          have HNOW := Lib.hid hnow
          have HT := Lib.hid ht
          have HTO := Lib.hid hto
          clear ha hnow hto ht
          rcases r with ⟨c, n⟩ | x
          · by_cases hn : n < 0
            · have hok := lineOf_ok HRR.out.symm
              have u0 : wc.cell? ⟨x0, 0, none⟩ = some (Value.int .i64 0) := v0
              clear v0 v2
              rw [show lineN (.ok c n) = n from rfl]
              have hn1 : decide (n < 0) = true := decide_eq_true hn
              go_wp2_with fail
              exact bodyPost_ret (refOne_results rfl HNOW.out.close.1 _ rfl rfl) rfl (by
                rw [← HR.out]
                exact RefOne.one (oneTail_no hn) (OnePost.one HNOW.out (t' := { cmd := c }) (n := i + 1) (oneTail_no hn) (by rw [HT.out]; rfl)))
            · cases hs0 : Sp.skipV (l.drop (at' + i + 1)) n.toNat with
              | none =>
                have hok := lineOf_ok HRR.out.symm
                have u0 : wc.cell? ⟨x0, 0, none⟩ = some (Value.int .i64 0) := v0
                clear v0 v2
                rw [show lineN (.ok c n) = n from rfl]
                obtain ⟨k, rfl⟩ := Int.eq_ofNat_of_zero_le (by omega : 0 ≤ n)
                have hk31 : k ≤ 2147483647 := by omega
                have hn1 : decide ((k : Int) < 0) = false := decide_eq_false (by omega)
                have hne6 : s0 ≠ w.heap.size := by have := HNOW.out.ne; omega
                have hne5 : w.heap.size ≠ s0 := fun e => hne6 e.symm
                clear hok hn

                rw [Int.toNat_natCast] at hs0
                have hbv : blockV l (at' + i + 1) k = .tuple #[.int .i64 (-1), .bool false] := by unfold blockV; rw [hs0]
                have hblk := HSK.out wc k HNOW.out.below hk31
                rw [hbv] at hblk
                have HBLK := Lib.hid hblk
                have HS0N := Lib.hid hs0
                clear hblk hbv hls hs0
                have hkn : Blk (wc.setCell ⟨s0, 15, none⟩ (.int .i64 (-1))) s0 99 (stepArrI t (.slice k1 k2 k3) nilRow (.slice m1 m2 m3) (-1)) := HNOW.out.step.put 15 _
                have hbw5 : Below w.heap.size w (wc.setCell ⟨s0, 15, none⟩ (.int .i64 (-1))) := HNOW.out.below.setCell (p := ⟨s0, 15, none⟩) (by show w.heap.size ≤ s0; have := HNOW.out.ne; omega) _
                have hkr : Blk (wc.setCell ⟨s0, 15, none⟩ (.int .i64 (-1))) w.heap.size 99 (stepArr {} nilRow nilRow nilRow) := Blk.far HNOW.out.res (by show w.heap.size ≠ s0; exact hne5) _
                have hls := ld_step hkn
                have HBW := Lib.hid hbw5
                have HKR := Lib.hid hkr
                clear hkn hbw5 hkr
                go_wp2_with (go_at_call 112; (first | rw [HSE.out] | rw [HSE2.out]); refine HBLK.out.mono ?_; rintro e w5 ⟨rfl, rfl⟩)
                refine bodyPost_ret (refOne_results rfl (HKR.out.putStepI t (.slice k1 k2 k3) nilRow (.slice m1 m2 m3) (-1)) _ rfl rfl) rfl ?_
                rw [← HR.out]
                have hnone : oneTail lim at' i l (.ok c k) = none := by rw [oneTail_blk, HS0N.out]; rfl
                rw [hnone]
                exact ⟨⟨_, rfl, by simp [stepArrI, Value.oneCell'], rfl⟩, Below.setCells (Nat.le_refl _) _ 0 HBW.out⟩
              | some y =>
                obtain ⟨m, gd⟩ := y
                by_cases hln : (lim : Int) < n
                · have hok := lineOf_ok HRR.out.symm
                  have u0 : wc.cell? ⟨x0, 0, none⟩ = some (Value.int .i64 0) := v0
                  clear v0 v2
                  rw [show lineN (.ok c n) = n from rfl]
                  obtain ⟨k, rfl⟩ := Int.eq_ofNat_of_zero_le (by omega : 0 ≤ n)
                  have hk31 : k ≤ 2147483647 := by omega
                  have hn1 : decide ((k : Int) < 0) = false := decide_eq_false (by omega)
                  have hne6 : s0 ≠ w.heap.size := by have := HNOW.out.ne; omega
                  have hne5 : w.heap.size ≠ s0 := fun e => hne6 e.symm
                  clear hok hn

                  rw [Int.toNat_natCast] at hs0
                  have hbv : blockV l (at' + i + 1) k = .tuple #[.int .i64 ((at' + i + 1 + m : Nat) : Int), .bool gd] := by unfold blockV; rw [hs0]
                  have hblk := HSK.out wc k HNOW.out.below hk31
                  rw [hbv] at hblk
                  have HBLK := Lib.hid hblk
                  have HS0N := Lib.hid hs0
                  obtain ⟨v, hv⟩ : ∃ v : Nat, v = at' + i + 1 + m := ⟨_, rfl⟩
                  rw [← hv] at HBLK
                  have HVV := Lib.hid hv
                  have hv0 : decide ((v : Int) < 0) = false := decide_eq_false (by omega)
                  clear hblk hbv hs0 hv
                  have hn6 : OneNow w (wc.setCell ⟨s0, 15, none⟩ (.int .i64 v)) s0 (t.span t.frm v) (.slice k1 k2 k3) nilRow (.slice m1 m2 m3) := HNOW.out.put 15 _ (by kernel_rfl) rfl rfl rfl
                  have HN6 := Lib.hid hn6
                  clear hn6 hls

                  have hn7 : OneNow w ((wc.setCell ⟨s0, 15, none⟩ (.int .i64 v)).setCell ⟨s0, 8, none⟩ (.bool true)) s0 { (t.span t.frm v) with cmd := { t.cmd with large := true } } (.slice k1 k2 k3) nilRow (.slice m1 m2 m3) := HN6.out.put 8 _ (by kernel_rfl) rfl rfl rfl
                  have HN7 := Lib.hid hn7
                  have hls7 := ld_step (v := v) hn7.step
                  have f8 : (wc.setCell ⟨s0, 15, none⟩ (.int .i64 v)).frozen? ⟨s0, 8, none⟩ = false := HN6.out.step.frozen 8
                  have f8b := HNOW.out.step.frozen 8
                  have y8 : wc.cell? ⟨s0, 8, none⟩ = some (Value.bool t.cmd.large) := HNOW.out.step.cell 8
                  have hcp7 := hn7.res.can 0 16 (by simp [stepArr])
                  clear hn7
                  go_wp2_with (go_at_call 112; (first | rw [HSE.out] | rw [HSE2.out]); refine HBLK.out.mono ?_; rintro e w5 ⟨rfl, rfl⟩)
                  refine bodyPost_ret (refOne_results rfl HN7.out.close.1 _ rfl rfl) rfl ?_
                  rw [← HR.out]
                  have hsome : oneTail lim at' i l (.ok c k) = some ({ cmd := { c with large := true } }, i + 1 + m) := by rw [oneTail_blk, HS0N.out, Option.map_some, if_pos hln]
                  refine RefOne.one hsome (OnePost.one HN7.out hsome ?_)
                  rw [HT.out, HVV.out, show at' + i + 1 + m = at' + (i + 1 + m) by omega]
                  rfl
                · cases gd with
                  | true =>
                    have hok := lineOf_ok HRR.out.symm
                    have u0 : wc.cell? ⟨x0, 0, none⟩ = some (Value.int .i64 0) := v0
                    clear v0 v2
                    rw [show lineN (.ok c n) = n from rfl]
                    obtain ⟨k, rfl⟩ := Int.eq_ofNat_of_zero_le (by omega : 0 ≤ n)
                    have hk31 : k ≤ 2147483647 := by omega
                    have hn1 : decide ((k : Int) < 0) = false := decide_eq_false (by omega)
                    have hne6 : s0 ≠ w.heap.size := by have := HNOW.out.ne; omega
                    have hne5 : w.heap.size ≠ s0 := fun e => hne6 e.symm
                    clear hok hn

                    rw [Int.toNat_natCast] at hs0
                    have hbv : blockV l (at' + i + 1) k = .tuple #[.int .i64 ((at' + i + 1 + m : Nat) : Int), .bool true] := by unfold blockV; rw [hs0]
                    have hblk := HSK.out wc k HNOW.out.below hk31
                    rw [hbv] at hblk
                    have HBLK := Lib.hid hblk
                    have HS0N := Lib.hid hs0
                    obtain ⟨v, hv⟩ : ∃ v : Nat, v = at' + i + 1 + m := ⟨_, rfl⟩
                    rw [← hv] at HBLK
                    have HVV := Lib.hid hv
                    have hv0 : decide ((v : Int) < 0) = false := decide_eq_false (by omega)
                    clear hblk hbv hs0 hv
                    have hn6 : OneNow w (wc.setCell ⟨s0, 15, none⟩ (.int .i64 v)) s0 (t.span t.frm v) (.slice k1 k2 k3) nilRow (.slice m1 m2 m3) := HNOW.out.put 15 _ (by kernel_rfl) rfl rfl rfl
                    have HN6 := Lib.hid hn6
                    clear hn6 hls

                    have hkl := (skipV_some HS0N.out).1
                    rw [List.length_drop] at hkl
                    have hcl := HCL.out (wc.setCell ⟨s0, 15, none⟩ (.int .i64 v)) k HN6.out.below (by omega)
                    have HCL2 := Lib.hid hcl
                    have hsl1 : IntKind.i64.wrap ((at' : Int) + (i : Int) + 1 + (k : Int)) = ((at' + i + 1 + k : Nat) : Int) := by rw [IntKind.wrap_i64]; omega
                    have hsl2 : ((at' + i + 1 : Nat) : Int) ≤ ((at' + i + 1 + k : Nat) : Int) := by omega
                    have hsl3 : ((at' + i + 1 + k : Nat) : Int) ≤ (cap : Int) := by omega
                    clear hcl
                    go_upto_region 26 with (first
                      | (go_at_call 112; (first | rw [HSE.out] | rw [HSE2.out]); refine HBLK.out.mono ?_; rintro e w5 ⟨rfl, rfl⟩)
                      | (go_at_call 113; refine HCL2.out.mono ?_; rintro e w6 ⟨d1, d2, d3, rfl, hd, hb6⟩; have hn7 := HN6.out.later hb6; have hn8 := hn7.putData hd rfl; have q6 : w6.cell? ⟨s0, 6, none⟩ = some nilRow := hn7.step.cell 6; have f6 := hn7.step.frozen 6; have HN8 := Lib.hid hn8; clear hn7 hn8 hd hb6))
                    clear q15 hcp f15 u0 q6 f6
                    refine wp_world (X := fun wx => OneNow w wx s0 { (t.span t.frm v) with cmd := { t.cmd with data := (l.drop (at' + i + 1)).take k } } (.slice k1 k2 k3) (.slice d1 d2 d3) (.slice m1 m2 m3)) HN8.out ?_
                    intro wy hn9
                    have hls9 := ld_step (v := v) hn9.step
                    have hcp9 := hn9.res.can 0 16 (by simp [stepArr])
                    have HN9 := Lib.hid hn9
                    clear hn9
                    go_wp2_with fail
                    refine bodyPost_ret (refOne_results rfl HN9.out.close.1 _ rfl rfl) rfl ?_
                    rw [← HR.out]
                    have hsome : oneTail lim at' i l (.ok c k) = some ({ cmd := { c with data := (l.drop (at' + i + 1)).take k } }, i + 1 + m) := by rw [oneTail_blk, HS0N.out, Option.map_some, if_neg (show ¬ (lim : Int) < (k : Int) by omega), if_pos rfl]
                    refine RefOne.one hsome (OnePost.one HN9.out hsome ?_)
                    rw [HT.out, HVV.out, show at' + i + 1 + m = at' + (i + 1 + m) by omega]
                    rfl
                  | false =>
                    have hok := lineOf_ok HRR.out.symm
                    have u0 : wc.cell? ⟨x0, 0, none⟩ = some (Value.int .i64 0) := v0
                    clear v0 v2
                    rw [show lineN (.ok c n) = n from rfl]
                    obtain ⟨k, rfl⟩ := Int.eq_ofNat_of_zero_le (by omega : 0 ≤ n)
                    have hk31 : k ≤ 2147483647 := by omega
                    have hn1 : decide ((k : Int) < 0) = false := decide_eq_false (by omega)
                    have hne6 : s0 ≠ w.heap.size := by have := HNOW.out.ne; omega
                    have hne5 : w.heap.size ≠ s0 := fun e => hne6 e.symm
                    clear hok hn

                    rw [Int.toNat_natCast] at hs0
                    have hbv : blockV l (at' + i + 1) k = .tuple #[.int .i64 ((at' + i + 1 + m : Nat) : Int), .bool false] := by unfold blockV; rw [hs0]
                    have hblk := HSK.out wc k HNOW.out.below hk31
                    rw [hbv] at hblk
                    have HBLK := Lib.hid hblk
                    have HS0N := Lib.hid hs0
                    obtain ⟨v, hv⟩ : ∃ v : Nat, v = at' + i + 1 + m := ⟨_, rfl⟩
                    rw [← hv] at HBLK
                    have HVV := Lib.hid hv
                    have hv0 : decide ((v : Int) < 0) = false := decide_eq_false (by omega)
                    clear hblk hbv hs0 hv
                    have hn6 : OneNow w (wc.setCell ⟨s0, 15, none⟩ (.int .i64 v)) s0 (t.span t.frm v) (.slice k1 k2 k3) nilRow (.slice m1 m2 m3) := HNOW.out.put 15 _ (by kernel_rfl) rfl rfl rfl
                    have HN6 := Lib.hid hn6
                    clear hn6 hls

                    have hcs1 := HNOW.out.step.can 0 11 (by simp [stepArr])
                    have hcs2 := HNOW.out.step.can 11 3 (by simp [stepArr])
                    go_upto_region 26 with (go_at_call 112; (first | rw [HSE.out] | rw [HSE2.out]); refine HBLK.out.mono ?_; rintro e w5 ⟨rfl, rfl⟩)
                    clear q15 hcp f15 u0 hcs1 hcs2
                    refine wp_world (X := fun wx => OneNow w wx s0 (({ wrong := ⟨2, Sp.badChunk, -1⟩ } : Sp.StepV).span t.frm v) nilRow nilRow nilRow) HN6.out.toBad ?_
                    intro wy hn7
                    have hls7 := ld_step (v := v) hn7.step
                    have hcp7 := hn7.res.can 0 16 (by simp [stepArr])
                    have HN7 := Lib.hid hn7
                    clear hn7
                    go_wp2_with fail
                    refine bodyPost_ret (refOne_results rfl HN7.out.close.1 _ rfl rfl) rfl ?_
                    rw [← HR.out]
                    have hsome : oneTail lim at' i l (.ok c k) = some ({ wrong := ⟨2, Sp.badChunk, -1⟩ }, i + 1 + m) := by rw [oneTail_blk, HS0N.out, Option.map_some, if_neg (show ¬ (lim : Int) < (k : Int) by omega), if_neg (fun h => Bool.noConfusion h)]
                    refine RefOne.one hsome (OnePost.one HN7.out hsome ?_)
                    rw [HT.out, HVV.out, show at' + i + 1 + m = at' + (i + 1 + m) by omega]
                    rfl
          · have hbad := lineOf_bad HRR.out.symm
            have hk0 : ¬ (x.kind : Int) = 0 := by omega
            have hk1 : ((x.kind : Int) == 0) = false := by rw [beq_eq_false_iff_ne]; exact hk0
            have hne6 : s0 ≠ w.heap.size := by have := HNOW.out.ne; omega
            have hne5 : w.heap.size ≠ s0 := fun e => hne6 e.symm
            dsimp only [lineStep, lineN] at v0 v2
            by_cases hcnd : 0 ≤ x.pass ∧ x.pass ≤ (lim : Int)
            · obtain ⟨k, hk⟩ := Int.eq_ofNat_of_zero_le hcnd.1
              have hp2 := hcnd.2
              rw [hk] at v2 hp2
              have hk31 : k ≤ 2147483647 := by omega
              have hpn : x.pass.toNat = k := by rw [hk]; rfl
              have HCND := Lib.hid hcnd
              have HPN := Lib.hid hpn
              have hkk : (0 : Int) ≤ (k : Int) := by omega
              clear hk hbad hcnd hpn
              obtain ⟨v, gd, hbv, hcase⟩ := blockV_form l (at' + i + 1) k
              have HCASE := Lib.hid hcase
              have hblk := HSK.out wc k HNOW.out.below hk31
              rw [hbv] at hblk
              have HBLK := Lib.hid hblk
              clear hcase hblk hbv hls
              have hkn : Blk (wc.setCell ⟨s0, 15, none⟩ (.int .i64 v)) s0 99 (stepArrI t (.slice k1 k2 k3) nilRow (.slice m1 m2 m3) v) := HNOW.out.step.put 15 _
              have hbw5 : Below w.heap.size w (wc.setCell ⟨s0, 15, none⟩ (.int .i64 v)).drew := (HNOW.out.below.setCell (p := ⟨s0, 15, none⟩) (by show w.heap.size ≤ s0; have := HNOW.out.ne; omega) _).drew
              have HKN := Lib.hid hkn
              have HBW5 := Lib.hid hbw5
              clear hkn hbw5
              go_upto_region 13 with (go_at_call 112; (first | rw [HSE.out] | rw [HSE2.out]); refine HBLK.out.mono ?_; rintro e w5 ⟨rfl, rfl⟩)
              obtain ⟨W6, hW6⟩ : ∃ W6, W6 = wc.setCell ⟨s0, 15, none⟩ (.int .i64 v) := ⟨_, rfl⟩
              rw [← hW6]
              have hkn : Blk W6.drew s0 99 (stepArrI t (.slice k1 k2 k3) nilRow (.slice m1 m2 m3) v) := by rw [hW6]; exact HKN.out.drew
              have hkr : Blk W6.drew w.heap.size 99 (stepArr {} nilRow nilRow nilRow) := by rw [hW6]; exact (Blk.far HNOW.out.res (by show w.heap.size ≠ s0; exact hne5) _).drew
              have hbw : Below w.heap.size w W6.drew := by rw [hW6]; exact HBW5.out
              have hn6 : ∀ m : Nat, v = (m : Int) → OneNow w W6.drew s0 (t.span t.frm m) (.slice k1 k2 k3) nilRow (.slice m1 m2 m3) := fun m hm => by
                rw [hW6, hm]; exact (HNOW.out.put (t' := t.span t.frm m) 15 _ (by kernel_rfl) rfl rfl rfl).later ((Below.refl _ _).drew)
              have hls := fun (W : World) (hW : Blk W s0 99 (stepArrI t (.slice k1 k2 k3) nilRow (.slice m1 m2 m3) v)) => ld_step hW
              obtain ⟨cs, hcs⟩ : ∃ cs, cs = (stepArrI t (.slice k1 k2 k3) nilRow (.slice m1 m2 m3) v) := ⟨_, rfl⟩
              rw [← hcs] at hls hkn
              have x15 : W6.drew.cell? ⟨s0, 15, none⟩ = some (.int .i64 v) := by rw [hkn.cell 15, hcs]; rfl
              have hcp := hkr.can 0 16 (by simp [stepArr])
              have HN6 := Lib.hid hn6
              have HKR6 := Lib.hid hkr
              have HBW6 := Lib.hid hbw
              have HCS := Lib.hid hcs
              clear hkr hbw hn6 hW6 q15 f15 v0 v2 hcs HKN
              go_region_held3 (fun w' => Blk w' s0 99 cs ∧ w'.cell? ⟨s0, 15, none⟩ = some (.int .i64 v)) (first | with_reducible exact ⟨hkn, x15⟩ | exact ⟨hkn.farCells _ hne6 _ 0, (World.cell?_of_block (heap_setCells hne6 _ _)).trans x15⟩) (fail)
              all_goals go_wp2_with fail
              all_goals refine bodyPost_ret (refOne_results rfl (HKR6.out.putStepI t (.slice k1 k2 k3) nilRow (.slice m1 m2 m3) v) _ rfl rfl) rfl ?_
              all_goals rw [← HR.out]
              all_goals rcases HCASE.out with ⟨h1, h2⟩ | ⟨m, h1, h2⟩
              · subst h2
                have hnone : oneTail lim at' i l (.bad x) = none := by rw [oneTail_in HCND.out, HPN.out, h1]; rfl
                rw [hnone]
                exact ⟨⟨_, rfl, by simp [stepArrI, Value.oneCell'], rfl⟩, Below.setCells (Nat.le_refl _) _ 0 HBW6.out⟩
              · subst h2
                have hsome : oneTail lim at' i l (.bad x) = some ({ wrong := x }, i + 1 + m) := by rw [oneTail_in HCND.out, HPN.out, h1]; rfl
                have hdec : decide ((0 : Int) ≤ ((at' + i + 1 + m : Nat) : Int)) = true := decide_eq_true (by omega)
                rw [hdec]
                refine RefOne.one hsome (OnePost.one (HN6.out _ rfl) hsome ?_)
                rw [HT.out, show at' + i + 1 + m = at' + (i + 1 + m) by omega]
                rfl
            · have hout := oneTail_out (lim := lim) (at' := at') (i := i) (l := l) hcnd
              have HOUT := Lib.hid hout
              have hp4 : ¬ (0 ≤ x.pass) ∨ (0 ≤ x.pass ∧ ¬ x.pass ≤ (lim : Int)) := by omega
              clear hcnd hout
              have hkd := HNOW.out.later ((Below.refl wc.heap.size wc).drew)
              have HKD := Lib.hid hkd
              have hls := fun (W : World) (hW : Blk W s0 99 (stepArrI t (.slice k1 k2 k3) nilRow (.slice m1 m2 m3) t.to)) => ld_step hW
              obtain ⟨cs, hcs⟩ : ∃ cs, cs = (stepArrI t (.slice k1 k2 k3) nilRow (.slice m1 m2 m3) t.to) := ⟨_, rfl⟩
              have hkn : Blk wc.drew s0 99 cs := by rw [hcs]; exact hkd.step
              rw [← hcs] at hls
              have HLS := Lib.hid hls
              have HKN := Lib.hid hkn
              have x15 : wc.drew.cell? ⟨s0, 15, none⟩ = some (.int .i64 (t.to : Int)) := hkd.step.cell 15
              have hcp := hkd.res.can 0 16 (by simp [stepArr])
              clear hkd hls hkn hcs
              rcases hp4 with hp4 | hp4
              · have hp3 : decide (0 ≤ x.pass) = false := decide_eq_false hp4
                go_upto_region 13 with fail
                have hls := HLS.out
                have hkn := HKN.out
                clear q15 f15 v0 v2
                go_region_held3 (fun w' => Blk w' s0 99 cs ∧ w'.cell? ⟨s0, 15, none⟩ = some (.int .i64 (t.to : Int))) (first | with_reducible exact ⟨hkn, x15⟩ | exact ⟨hkn.farCells _ hne6 _ 0, (World.cell?_of_block (heap_setCells hne6 _ _)).trans x15⟩) (fail)
                all_goals go_wp2_with fail
                all_goals exact bodyPost_ret (refOne_results rfl HKD.out.close.1 _ rfl rfl) rfl (by
                  rw [← HR.out]
                  exact RefOne.one HOUT.out (OnePost.one HKD.out (t' := { wrong := x }) (n := i + 1) HOUT.out (by rw [HT.out]; rfl)))
              · have hp3 : decide (x.pass ≤ (lim : Int)) = false := decide_eq_false hp4.2
                have hp5 := hp4.1
                clear hp4
                go_upto_region 13 with fail
                have hls := HLS.out
                have hkn := HKN.out
                clear q15 f15 v0 v2
                go_region_held3 (fun w' => Blk w' s0 99 cs ∧ w'.cell? ⟨s0, 15, none⟩ = some (.int .i64 (t.to : Int))) (first | with_reducible exact ⟨hkn, x15⟩ | exact ⟨hkn.farCells _ hne6 _ 0, (World.cell?_of_block (heap_setCells hne6 _ _)).trans x15⟩) (fail)
                all_goals go_wp2_with fail
                all_goals exact bodyPost_ret (refOne_results rfl HKD.out.close.1 _ rfl rfl) rfl (by
                  rw [← HR.out]
                  exact RefOne.one HOUT.out (OnePost.one HKD.out (t' := { wrong := x }) (n := i + 1) HOUT.out (by rw [HT.out]; rfl)))

set_option maxHeartbeats 8000000 in
set_option maxRecDepth 100000 in
theorem refOne_none {w : World} {A : Option Addr} {cap : Nat} {l : Sp.Bs} (h : RowAt w A (bytesV l)) (hl : l.length ≤ 100000000) {at' lim : Nat} (hat : at' ≤ l.length) (hi : Sp.indexOf (l.drop at') 10 = none) :
    Calls Tryz.prog 67 #[.slice A l.length cap, .int .i64 at', .int .i64 lim] w (RefOne w at' (Sp.oneV lim (l.drop at'))) := by
  have hv : Sp.oneV lim (l.drop at') = none := by unfold Sp.oneV; rw [hi]
  rw [hv]
  generalize hR : RefOne w at' none = R
  have HR := Lib.hid hR
  have hb0 : Below w.heap.size w (w.alloc (.cells (stepArr {} nilRow nilRow nilRow) 99)) := (Below.refl _ _).alloc (Nat.le_refl _) _
  have hs0 := Blk.new w 99 (stepArr {} nilRow nilRow nilRow)
  have hnx : Calls Tryz.prog 111 #[.slice A l.length cap, .int .i64 at'] (w.alloc (.cells (stepArr {} nilRow nilRow nilRow) 99)) fun e w' => e = .returned (.int .i64 (-1)) ∧ (w.alloc (.cells (stepArr {} nilRow nilRow nilRow) 99)) = w' := by
    have := refNext_any (cap := cap) (h.below hb0) (by omega) hat
    rwa [show nextV l at' = -1 by unfold nextV; rw [hi]] at this
  have HNX := Lib.hid hnx
  have HB0 := Lib.hid hb0
  have HS0 := Lib.hid hs0
  clear hR hb0 hs0 hnx h hi hv
  go_enter Tryz.func67, Tryz.ntmps67
  go_upto_region 3 with (go_at_call 111; refine HNX.out.mono ?_; rintro e w1 ⟨rfl, hw1⟩; have hs1 := HS0.out; rw [hw1] at hs1; have hb1 := HB0.out; rw [hw1] at hb1; have hcp := hs1.can 0 16 (by simp [stepArr]); have HS1 := Lib.hid hs1; have HB1 := Lib.hid hb1; clear hs1 hb1 hw1)
  go_wp2_with fail
  refine bodyPost_ret (refOne_results rfl (HS1.out.putStep {} nilRow nilRow nilRow) _ rfl rfl) rfl ?_
  rw [← HR.out]
  exact ⟨⟨_, rfl, by simp [stepArr, Value.oneCell'], rfl⟩, Below.setCells (Nat.le_refl _) _ 0 HB1.out⟩

theorem refOne_any {w : World} {A : Option Addr} {cap : Nat} {l : Sp.Bs} (h : RowAt w A (bytesV l)) (hc : l.length ≤ cap) (hl : l.length ≤ 100000000) {at' lim : Nat} (hat : at' ≤ l.length) :
    Calls Tryz.prog 67 #[.slice A l.length cap, .int .i64 at', .int .i64 lim] w (RefOne w at' (Sp.oneV lim (l.drop at'))) := by
  cases hi : Sp.indexOf (l.drop at') 10 with
  | none => exact refOne_none h hl hat hi
  | some i =>
    exact refOne_line h hc hl hat hi
end Go.Proofs.YthgfjafnclklpaaGreatDoor
end
section
namespace Go.Proofs.YthgfjafnclklpaaGreatDoor
attribute [local go_sem ↓] Go.wp_at_zero Go.wp_at_succ
open Go.RowKit
attribute [-go_sem] storeVar
attribute [local go_sem] run_store_cmd run_store_wrong run_store_step storeVar_int' storeVar_bool' storeVar_slice' storeVar_func' canPut_new canPut_setCell canPut_drew canPut_alloc canPut_setCells cell_setCells_far World.frozen?_setCells

set_option maxHeartbeats 8000000 in
set_option maxRecDepth 100000 in
theorem refAll_any {w : World} {A : Option Addr} {cap : Nat} {l : Sp.Bs} (h : RowAt w A (bytesV l)) (hc : l.length ≤ cap) (hl : l.length ≤ 100000000) {limit : Int} (hlim : limit ≤ 9223372036854775807) :
    Calls Tryz.prog 26 #[.slice A l.length cap, .int .i64 limit] w (AllPost w (Sp.allV limit.toNat (l.length + 1) 0 l)) := by
  obtain ⟨i0, hi, hz0, hz1, hz2⟩ := info_parts info_step
  obtain ⟨lim, hlm⟩ : ∃ lim, lim = limit.toNat := ⟨_, rfl⟩
  rw [← hlm]
  generalize hR : AllPost w (Sp.allV lim (l.length + 1) 0 l) = R
  have hstart : AllMid w l lim 0 [] nilRow w := ⟨Nat.zero_le _, Nat.le_refl _, ⟨l.length + 1, by omega, by simp⟩, ⟨[], [], World.ownsRow_nil _ _ _ 16, ⟨rfl, rfl⟩, List.nodup_nil, by simp⟩, Below.refl _ _⟩
  have hone := fun (W : World) (a : Nat) (hb : Below w.heap.size w W) (ha : a ≤ l.length) => refOne_any (h.below hb) hc hl ha (lim := lim)
  have HONE := Lib.hid hone
  have HS := Lib.hid hstart
  have HR := Lib.hid hR
  have HLM := Lib.hid hlm
  clear hR hstart hone h hlm
  go_enter Tryz.func26, Tryz.ntmps26
  go_upto_if 11 with fail
  go_cut [1] (fun v wx => v = .int .i64 (lim : Nat) ∧ wx = w)
  case first =>
    by_cases hneg : limit < 0
    · have h1 : (lim : Int) = 0 := by have := HLM.out; omega
      have H1 := Lib.hid h1
      clear h1
      go_wp2_with fail
      go_meet
      rw [H1.out]
      exact ⟨rfl, rfl⟩
    · have h1 : (lim : Int) = limit := by have := HLM.out; omega
      have h2 : 0 ≤ limit := by omega
      have H1 := Lib.hid h1
      clear h1 hneg
      go_wp2_with fail
      go_meet
      rw [H1.out]
      exact ⟨rfl, rfl⟩
  case rest =>
  obtain ⟨rfl, hwx⟩ := hcut
  replace hwx := hwx.symm
  subst hwx
  go_wp2_with fail
  go_loopw [6, 7] (fun o a wr => ∃ (at' : Nat) (outs : List Sp.StepV), a = .int .i64 at' ∧ AllMid w l lim at' outs o wr) (fun _ a _ => l.length - (intOf a).toNat)
  case atStart => exact ⟨0, [], rfl, HS.out⟩
  case round =>
    obtain ⟨at', outs, rfl, hm⟩ := hrel
    have ho := HONE.out wr at' hm.below hm.le
    have HM := Lib.hid hm
    have HO := Lib.hid ho
    have hle := hm.le
    clear hm ho
    cases hv : Sp.oneV lim (l.drop at') with
    | none =>
      rw [hv] at HO
      have HV := Lib.hid hv
      clear hv
      go_upto_region 6 with (go_at_call 67; refine HO.out.mono ?_; rintro e w1 ⟨⟨cs, hcs, hca, rfl⟩, hb1⟩; have hsto : ∀ z : Array Value, z.size = 16 → (storeVar 99 ⟨w1.heap.size, 0, none⟩ (.agg cs)).run Tryz.prog (w1.alloc (.cells z 99)) = .ok () (w1.alloc (.cells cs 99)) := (fun z hz => run_storeVar_new w1 _ z cs (by rw [hcs]; kernel_rfl) (by rw [hz, hcs]) hca); have HB1 := Lib.hid hb1; clear hb1)
      clear hsto
      have HCA := Lib.hid hca
      clear hca
      go_wp2_with fail
      have hfin := HM.out.stop HV.out (HB1.out.alloc HB1.out.size (.cells cs 99))
      rw [HR.out] at hfin
      exact hfin
    | some y =>
      obtain ⟨t', n⟩ := y
      rw [hv] at HO
      have hn := oneV_in hv
      rw [List.length_drop] at hn
      go_wp2_with fail
      refine HO.out.mono ?_
      rintro e w1 ⟨t, kv, dv, mv, rfl, hcm, hge, hsp, hb1⟩
      obtain ⟨k1, k2, k3, rfl⟩ := own_slice hcm.keys
      obtain ⟨d1, d2, d3, rfl⟩ := own_slice hcm.data
      obtain ⟨m1, m2, m3, rfl⟩ := own_slice hcm.metas
      have ht := hsp t' n rfl
      have HB1 := Lib.hid hb1
      have HV := Lib.hid hv
      have HCM := Lib.hid hcm
      have HGE := Lib.hid hge
      have HT := Lib.hid ht
      clear hcm hge hsp hb1 hv ht
      dsimp only [Option.isSome]
      go_upto_region 6 with (fail)
      refine wp_world (X := fun wx => Blk wx w1.heap.size 99 (stepArr t (.slice k1 k2 k3) (.slice d1 d2 d3) (.slice m1 m2 m3)) ∧ Below w1.heap.size w1 wx) ⟨Blk.putStep (Blk.new w1 99 (stepArr {} nilRow nilRow nilRow)) _ _ _ _, Below.setCells (Nat.le_refl _) _ 0 ((Below.refl _ _).alloc (Nat.le_refl _) _)⟩ ?_
      intro wx hx
      obtain ⟨hbx, hbw⟩ := hx
      have q0 : _ = some (Value.int .i64 t.cmd.verb) := (hbx).cell 0
      have q1 : _ = some (Value.slice k1 k2 k3) := (hbx).cell 1
      have q2 : _ = some (Value.int .u64 t.cmd.flags) := (hbx).cell 2
      have q3 : _ = some (Value.int .i64 t.cmd.exptime) := (hbx).cell 3
      have q4 : _ = some (Value.int .u64 t.cmd.token) := (hbx).cell 4
      have q5 : _ = some (Value.int .u64 t.cmd.delta) := (hbx).cell 5
      have q6 : _ = some (Value.slice d1 d2 d3) := (hbx).cell 6
      have q7 : _ = some (Value.bool t.cmd.noreply) := (hbx).cell 7
      have q8 : _ = some (Value.bool t.cmd.large) := (hbx).cell 8
      have q9 : _ = some (Value.slice m1 m2 m3) := (hbx).cell 9
      have q10 : _ = some (str t.cmd.what) := (hbx).cell 10
      have q11 : _ = some (Value.int .i64 t.wrong.kind) := (hbx).cell 11
      have q12 : _ = some (str t.wrong.text) := (hbx).cell 12
      have q13 : _ = some (Value.int .i64 t.wrong.pass) := (hbx).cell 13
      have q14 : _ = some (Value.int .i64 t.frm) := (hbx).cell 14
      have q15 : _ = some (Value.int .i64 t.to) := (hbx).cell 15
      have HBX := Lib.hid hbx
      have HBW := Lib.hid hbw
      clear hbx hbw
      obtain ⟨tcs, bl, hown, hst, hnd, hlo⟩ := HM.out.mem
      have hbx1 : Below wr.heap.size wr wx := HB1.out.trans (HBW.out.mono HB1.out.size)
      have ho2 := own_later hown (hbx1.alloc hbx1.size (.cells (stepArr t (.slice k1 k2 k3) (.slice d1 d2 d3) (.slice m1 m2 m3)) 99))
      have hsw : w.heap.size ≤ wx.heap.size := Nat.le_trans HM.out.below.size hbx1.size
      have hcnt := HM.out.count
      have HO2 := Lib.hid ho2
      have HST := Lib.hid hst
      have HBX1 := Lib.hid hbx1
      have HOWN := Lib.hid hown
      have HND := Lib.hid hnd
      have HLO := Lib.hid hlo
      have hovlt : ∀ k, u6.ownBlock = some k → k < wr.heap.size := fun k hk => own_lt HOWN.out k (mem_rowBlock.2 hk)
      have hne : some w1.heap.size ≠ u6.ownBlock := fun e => by have := hovlt _ e.symm; have := HB1.out.size; omega
      have HNE := Lib.hid hne
      obtain ⟨vb, hvb⟩ : ∃ vb : Nat, vb = t.cmd.verb := ⟨_, rfl⟩
      have HVB := Lib.hid hvb
      clear ho2 hst hbx1 hown hnd hlo hovlt hne hvb
      by_cases hq : vb = 18
      · subst hq
        go_upto_region 8 with (fail)
        go_wp2_with (at_builtin; refine wpList_append_put rfl (.tmp 26) (.tmp 28) _ rfl w.heap.size 99 i0 _ 16 184 Tryz.underlying69 hi hz0 hz1 hz2 rfl (by decide) u6 outs.length tcs rfl HO2.out ⟨wx.heap.size, 0, none⟩ 1 1 (stepArr t (.slice k1 k2 k3) (.slice d1 d2 d3) (.slice m1 m2 m3)).toList rfl rfl ?_ ?_ ?_ ?_ ?_ ?_ ?_; exact cells_new _ _ _; (intro u hu; simp [stepArr] at hu; rcases hu with rfl | rfl | rfl | rfl | rfl | rfl | rfl | rfl | rfl | rfl | rfl | rfl | rfl | rfl | rfl | rfl <;> rfl); decide; (unfold maxLen; omega); omega; (simp; omega); intro g3 cap3 w3 hown3 hg3 hat3; have hm3 := AllMid.grown HM.out HOWN.out HST.out HND.out HLO.out HCM.out HGE.out HB1.out (HBW.out.alloc HBW.out.size _) hg3 hown3; have hbx3 := (HBX.out.alloc _).grown hg3 HNE.out; have q15 : w3.cell? ⟨w1.heap.size, 15, none⟩ = some (Value.int .i64 t.to) := hbx3.cell 15; have q0 : w3.cell? ⟨w1.heap.size, 0, none⟩ = some (Value.int .i64 18) := (hbx3.cell 0).trans (congrArg (fun x : Nat => some (Value.int .i64 x)) HVB.out.symm); have Hm3 := Lib.hid hm3; clear hown3 hg3 hat3 hm3 hbx3)
        have hfin := HM.out.quit HV.out HT.out HVB.out.symm Hm3.out
        rw [HR.out] at hfin
        exact hfin
      · have hq2 : ((vb : Int) == 18) = false := by simp; omega
        have HQ := Lib.hid hq
        clear hq
        go_upto_region 8 with (fail)
        go_wp2_with (at_builtin; refine wpList_append_put rfl (.tmp 26) (.tmp 28) _ rfl w.heap.size 99 i0 _ 16 184 Tryz.underlying69 hi hz0 hz1 hz2 rfl (by decide) u6 outs.length tcs rfl HO2.out ⟨wx.heap.size, 0, none⟩ 1 1 (stepArr t (.slice k1 k2 k3) (.slice d1 d2 d3) (.slice m1 m2 m3)).toList rfl rfl ?_ ?_ ?_ ?_ ?_ ?_ ?_; exact cells_new _ _ _; (intro u hu; simp [stepArr] at hu; rcases hu with rfl | rfl | rfl | rfl | rfl | rfl | rfl | rfl | rfl | rfl | rfl | rfl | rfl | rfl | rfl | rfl <;> rfl); decide; (unfold maxLen; omega); omega; (simp; omega); intro g3 cap3 w3 hown3 hg3 hat3; have hm3 := AllMid.grown HM.out HOWN.out HST.out HND.out HLO.out HCM.out HGE.out HB1.out (HBW.out.alloc HBW.out.size _) hg3 hown3; have hbx3 := (HBX.out.alloc _).grown hg3 HNE.out; have q15 : w3.cell? ⟨w1.heap.size, 15, none⟩ = some (Value.int .i64 t.to) := hbx3.cell 15; have q0 : w3.cell? ⟨w1.heap.size, 0, none⟩ = some (Value.int .i64 vb) := (hbx3.cell 0).trans (congrArg (fun x : Nat => some (Value.int .i64 x)) HVB.out.symm); have Hm3 := Lib.hid hm3; clear hown3 hg3 hat3 hm3 hbx3)
        have hto : t.to = at' + n := by rw [HT.out]; rfl
        exact ⟨⟨at' + n, outs ++ [t], by rw [hto], HM.out.on HV.out HT.out (by rw [← HVB.out]; exact HQ.out) Hm3.out⟩, by show l.length - (t.to : Int).toNat < l.length - (at' : Int).toNat; omega⟩
end Go.Proofs.YthgfjafnclklpaaGreatDoor
end
