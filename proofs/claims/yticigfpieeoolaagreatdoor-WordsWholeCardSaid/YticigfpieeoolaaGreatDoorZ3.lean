/- Walk of the statement WordsWhole. -/
import Derived.Test.YticigfpieeoolaaGreatDoorZ2
import Derived.Test.YticigfpieeoolaaGreatDoorY6
import Derived.Deep.QuietTactic
import Derived.BigQuiet
import Derived.StillTailTactics
import Derived.Deep.RegionHeld3
import Derived.Lib.SlBytesRow
namespace Go.Proofs.YticigfpieeoolaaGreatDoor
attribute [local go_sem ↓] Go.wp_at_zero Go.wp_at_succ
open Go.RowKit

/-- the box of the parameter -/
def boxCut (A : Option Addr) (n capA : Nat) (limit : Int) (cv : Value) : Array Value := #[.slice A n capA, .int .i64 limit, cv]

theorem own_room2 {w : World} {base : Nat} {e : TypeId} {size n c : Nat} {A : Option Addr} {xs : List Value} (h : w.ownsRow base e size (.slice A n c) n xs) : n ≤ c := by
  rcases h.2 with ⟨h1, h2⟩ | ⟨g', cap, cur, h1, _, _, h2, _⟩
  · injection h1 with _ h3 h4
    omega
  · injection h1 with _ _ h3
    subst h3
    exact h2

/-- where the loop over the steps stands -/
def TileMid (lim : Nat) (l : Sp.Bs) (en qu i : Value) : Prop := ∃ (k a : Nat) (q : Bool), en = .int .i64 a ∧ qu = .bool q ∧ i = .int .i64 k ∧ k ≤ (allOf lim l).1.length ∧ AllAt lim l k a q

theorem beq_quit (v : Nat) : ((v : Int) == 18) = decide (v = 18) := by
  by_cases h : v = 18
  · simp [h]
  · have : ¬ (v : Int) = 18 := by omega
    simp [h, this]

/-- what All tells, in the words of the comparisons -/
theorem AllPost.told {W : World} {ts : List Sp.StepV} {lp n : Nat} (hn : ts.length = n) {e : Ending} {w' : World} (h : AllPost W (ts, lp) e w') :
    ∃ A c tcs, e = .returned (.tuple #[.slice A n c, .int .i64 lp]) ∧ RowAt w' A tcs ∧ StepsAt w' ts tcs ∧ Below W.heap.size W w' := by
  subst hn
  obtain ⟨A, c, tcs, bl, rfl, ho, hs, _, _, hb⟩ := h
  exact ⟨A, c, tcs, rfl, RowAt.of_own ho, hs.at, hb⟩
/-- a place within the bytes, out of any number -/
theorem cut_place (z : Int) (n : Nat) (hn : n ≤ 65536) : ∃ K : Nat, K ≤ n ∧ (wrap64 (wrap64 (z.tmod ((n : Int) + 1) + n) + 1)).tmod ((n : Int) + 1) = (K : Int) := by
  have hp : (0 : Int) < (n : Int) + 1 := by omega
  have h1 := Int.lt_tmod_of_pos z hp
  have h2 := Int.tmod_lt_of_pos z hp
  have hw : ∀ x : Int, -9223372036854775808 ≤ x → x ≤ 9223372036854775807 → wrap64 x = x := fun x _ _ => by unfold wrap64; omega
  rw [hw (z.tmod ((n : Int) + 1) + n) (by omega) (by omega), hw _ (by omega) (by omega)]
  have h3 := Int.tmod_lt_of_pos (z.tmod ((n : Int) + 1) + n + 1) hp
  have h4 := Int.tmod_nonneg ((n : Int) + 1) (a := z.tmod ((n : Int) + 1) + n + 1) (by omega)
  obtain ⟨K, hK⟩ := Int.eq_ofNat_of_zero_le h4
  exact ⟨K, by omega, hK⟩
theorem rangeAt_below {w w' : World} {b o : Nat} {cs : List Value} (h : w.rangeAt b o cs) (hb : Below w.heap.size w w') : w'.rangeAt b o cs := fun j v hv => by
  have := h j v hv
  rw [hb.cell (p := ⟨b, o + j, none⟩) (World.block_lt_of_cell? w _ this)]
  exact this
theorem cell_below {w w' : World} {p : Addr} {u : Value} (h : w.cell? p = some u) (hb : Below w.heap.size w w') : w'.cell? p = some u := by
  rw [hb.cell (World.block_lt_of_cell? w _ h)]
  exact h
theorem loadVar_int' (a : Addr) : type_of% (loadVar.eq_1 3 a) := loadVar.eq_1 3 a
theorem loadVar_bytes' (a : Addr) : type_of% (loadVar.eq_1 38 a) := loadVar.eq_1 38 a
theorem loadVar_ints' (a : Addr) : type_of% (loadVar.eq_1 83 a) := loadVar.eq_1 83 a
attribute [-go_sem] loadVar
attribute [local go_sem] loadVar_int' loadVar_bytes' loadVar_ints'

set_option maxHeartbeats 8000000 in
set_option maxRecDepth 100000 in
theorem wordsWhole_any {w : World} (hg : Glob w) (ht : TabAt w) {A C : Option Addr} {capA capC : Nat} {raw : Sp.Bs} {zs : List Int} {limit : Int} (hl2 : limit ≤ 9223372036854775807)
    (hcA : raw.length ≤ capA) (hcA2 : capA ≤ 9223372036854775807) (hcC : zs.length ≤ 9223372036854775807)
    (hrow : RowAt w A (bytesV raw)) (hA : A = none → capA = 0) (hrowC : RowAt w C (zs.map (Value.int .i64))) :
    Calls Tryz.prog 9 #[.agg #[.slice A raw.length capA, .int .i64 limit, .slice C zs.length capC]] w fun e w' => e = .returned (.bool true) ∧ Below w.heap.size w w' := by
  generalize hR : (fun (e : Ending) (w' : World) => e = .returned (.bool true) ∧ Below w.heap.size w w') = R
  obtain ⟨rb, hrb⟩ : ∃ rb, rb = raw.take 65536 := ⟨_, rfl⟩
  have hlen : min raw.length 65536 = rb.length := by rw [hrb, List.length_take]; omega
  have hlen1 : rb.length ≤ 65536 := by omega
  have hlen2 : rb.length ≤ capA := by omega
  have hrow1 : RowAt w A (bytesV rb) := by rw [hrb]; have := hrow.take 65536; simpa [bytesV] using this
  have hcl := clip_any (w := w.alloc (.cells (boxCut A raw.length capA limit (.slice C zs.length capC)) 88)) A raw.length capA hcA
  rw [hlen] at hcl
  have hb0 : Below w.heap.size w (w.alloc (.cells (boxCut A raw.length capA limit (.slice C zs.length capC)) 88)) := (Below.refl _ _).alloc (Nat.le_refl _) _
  have hal := all_any (hg.later hb0) (hrow1.below hb0) hlen2 hA (by omega) hl2
  change Calls _ _ _ _ (AllPost _ (allOf limit.toNat rb)) at hal
  obtain ⟨ts, lf, hx⟩ : ∃ ts lf, allOf limit.toNat rb = (ts, lf) := ⟨_, _, rfl⟩
  have hts : ts = (allOf limit.toNat rb).1 := by rw [hx]
  have hlf : lf = (allOf limit.toNat rb).2 := by rw [hx]
  rw [hx] at hal
  have HR := Lib.hid hR
  have HG := Lib.hid hg
  have HT := Lib.hid ht
  have HROW := Lib.hid hrow1
  have HROWC := Lib.hid hrowC
  have HA := Lib.hid hA
  have HL2 := Lib.hid hl2
  have HCL := Lib.hid hcl
  have HAL := Lib.hid hal
  have HB0 := Lib.hid hb0
  clear hR hg ht hrow hrow1 hrowC hA hl2 hcl hal hb0 hrb hlen hx
  go_enter Tryz.func9, Tryz.ntmps9
  go_wp2_with fail
  refine HCL.out.mono ?_
  rintro e w1 ⟨rfl, rfl⟩
  have y1 : _ = some (Value.int .i64 limit) := (Blk.new w 88 (boxCut A raw.length capA limit (.slice C zs.length capC))).cell 1
  go_wp2_with fail
  refine HAL.out.mono ?_
  rintro e w2 ⟨A2, c2, cs, bl, rfl, ho2, hs2, -, -, hb2⟩
  clear y1
  have hbw : Below w.heap.size w w2 := HB0.out.trans (hb2.mono HB0.out.size)
  have hbx := (Blk.new w 88 (boxCut A raw.length capA limit (.slice C zs.length capC))).later hb2
  have hr2 := RowAt.of_own ho2
  have hs2 := hs2.at
  have hc2 := own_room2 ho2
  dsimp only at hs2 hr2 hc2 ⊢
  have hcnt := allOf_count limit.toNat rb
  have hshort := allOf_short limit.toNat rb
  rw [← hts] at hcnt hshort
  have hg2 := HG.out.later hbw
  have ht2 := HT.out.later HG.out hbw
  have hrow2 := HROW.out.below hbw
  have hrowC2 := HROWC.out.below hbw
  have HTS := Lib.hid hts
  have HLF := Lib.hid hlf
  have HBW := Lib.hid hbw
  have HBX := Lib.hid hbx
  have HR2 := Lib.hid hr2
  have HS2 := Lib.hid hs2
  have HSH := Lib.hid hshort
  have HG2 := Lib.hid hg2
  have HT2 := Lib.hid ht2
  have HROW2 := Lib.hid hrow2
  have HROWC2 := Lib.hid hrowC2
  clear hts hlf hbw hbx hr2 hs2 hshort hg2 ht2 hrow2 hrowC2 ho2 hb2 HG HT HROW HROWC HCL HAL HB0
  go_wp2_with fail
  go_loopw [6, 7, 8] (fun en qu i wx => TileMid limit.toNat rb en qu i ∧ Below w2.heap.size w2 wx) (fun _ _ i _ => ts.length - (intOf i).toNat)
  case atStart => exact ⟨⟨0, 0, false, rfl, rfl, rfl, Nat.zero_le _, AllAt.start _ _⟩, Below.refl _ _⟩
  case round =>
    obtain ⟨⟨k, a, q, rfl, rfl, rfl, hk, hat⟩, hb⟩ := hrel
    by_cases hlt : k < ts.length
    · as_aux_lemma =>
      obtain ⟨t, n, rfl, ho, hget, hn0, hn1, hat'⟩ := hat.on (by rw [← HTS.out]; exact hlt)
      obtain ⟨g, o, kv, dv, mv, hAe, hcell⟩ := steps_cell HR2.out HS2.out (j := k) (t := t.span a (a + n)) (by rw [HTS.out]; exact hget)
      subst hAe
      obtain ⟨b, o1, hAe, hblt⟩ : ∃ b o1, A = some ⟨b, o1, none⟩ ∧ b < w2.heap.size := by
        rcases HROW2.out with h0 | ⟨b, o1, h1, h2, _⟩
        · have : rb = [] := by simpa [bytesV] using h0
          rw [this] at hn1; simp at hn1; omega
        · exact ⟨b, o1, h1, h2⟩
      subst hAe
      obtain ⟨e, he⟩ : ∃ e, e = a + n := ⟨_, rfl⟩
      have hone := allOf_one ho
      have hlo : ((rb.drop a).take n).length = e - a := by rw [List.length_take, List.length_drop]; omega
      have hal : ∀ W, Below w2.heap.size w2 W → Calls Tryz.prog 25 #[.slice (some ⟨b, o1 + a, none⟩) (e - a) (capA - a), .int .i64 limit] W (AllPost W ([t.span 0 n], 0)) := fun W hW => by
        have hr : RowAt W (some ⟨b, o1 + a, none⟩) (bytesV ((rb.drop a).take n)) := by
          rw [bytesV_stretch]
          exact (HROW2.out.below hW).stretch a n
        have := all_any (HG2.out.later hW) (cap := capA - a) hr (by omega) (fun h => by cases h) (by omega) HL2.out
        change Calls _ _ _ _ (AllPost _ (allOf limit.toNat _)) at this
        rwa [hone, hlo] at this
      have hcw := (hcell wr hb).2
      have x0 : wr.cell? ⟨g, o + k * 16, none⟩ = some (Value.int .i64 t.cmd.verb) := by have := hcw 0 _ rfl; rwa [Nat.add_zero] at this
      have x14 : wr.cell? ⟨g, o + k * 16 + 14, none⟩ = some (Value.int .i64 a) := hcw 14 _ rfl
      have x15 : wr.cell? ⟨g, o + k * 16 + 15, none⟩ = some (Value.int .i64 e) := by rw [he]; exact hcw 15 _ rfl
      have yl : _ = some (Value.int .i64 limit) := (HBX.out.later hb).cell 1
      have q1 : decide (e ≤ a) = false := decide_eq_false (by omega)
      have q2 : decide (rb.length < e) = false := decide_eq_false (by omega)
      have hq := beq_quit t.cmd.verb
      obtain ⟨i8, hi8, _, hz8, _⟩ := info_parts info_u8
      have hsl := fun W : World => Lib.run_slice_window (P := Tryz.prog) W 38 5 Tryz.underlying38 (fun w => by simp [Go.sizeOf, typeInfo, hi8, hz8]) b o1 rb.length capA a e (by omega) (by omega)
      have hae : a < e := by omega
      have hel : e ≤ rb.length := by omega
      have hec : e ≤ capA := by omega
      have HE := Lib.hid he
      clear he hn0 hn1
      have HCELL := Lib.hid hcell
      have HAL := Lib.hid hal
      have HB := Lib.hid hb
      have HAT := Lib.hid hat'
      have HMEM := Lib.hid (List.mem_of_getElem? hget)
      clear hcell hal hb hat hat' hget ho hcw hone hlo
      go_wp2_with fail
      go_region_held3 (fun w' => w'.cell? ⟨w.heap.size, 1, none⟩ = some (Value.int .i64 limit) ∧ w'.cell? ⟨g, o + k * 16 + 14, none⟩ = some (Value.int .i64 a)) (first | exact ⟨yl, x14⟩ | go_keep) ((go_at_call 25; refine (HAL.out _ HB.out.drew).mono ?_; rintro ee w4 hp; obtain ⟨g4, c4, k4, d4, m4, rfl, hc4, hf4, hg4, hb4⟩ := hp.one; have hb5 := HB.out.drew.trans (hb4.mono HB.out.drew.size); have yl : w4.cell? ⟨w.heap.size, 1, none⟩ = some (Value.int .i64 limit) := (HBX.out.later hb5).cell 1; have x14 : w4.cell? ⟨g, o + k * 16 + 14, none⟩ = some (Value.int .i64 a) := (HCELL.out w4 hb5).2 14 _ rfl; have HC4 := Lib.hid hc4; have HF4 := Lib.hid hf4; have HB5 := Lib.hid hb5; clear hc4 hf4 hg4 hb4 hb5 hp))
      have hcw := HCELL.out w4 HB5.out
      have hsp : StepV.shifted (t.span 0 n) a = t.span a e := by rw [HE.out]; show t.span (0 + a) (n + a) = t.span a (a + n); rw [Nat.zero_add, Nat.add_comm n a]
      obtain ⟨cs1, hcs1⟩ : ∃ cs1, cs1 = stepCells (t.span 0 n) k4 d4 m4 := ⟨_, rfl⟩
      obtain ⟨cs2, hcs2⟩ : ∃ cs2, cs2 = stepCells (t.span a e) kv dv mv := ⟨_, rfl⟩
      obtain ⟨cs3, hcs3⟩ : ∃ cs3, cs3 = stepCells (t.span a e) k4 d4 m4 := ⟨_, rfl⟩
      have hsz1 : (Tryz.prog.info? 86).map (·.size) = some cs1.length := by rw [hcs1]; kernel_rfl
      have hsz2 : (Tryz.prog.info? 86).map (·.size) = some cs2.length := by rw [hcs2]; kernel_rfl
      have r1 : w4.rangeAt g4 0 cs1 := by
        rw [hcs1]
        intro i u hu
        rw [Nat.zero_add]
        exact HF4.out i u hu
      have r2 : w4.rangeAt g (o + k * 16) cs2 := by
        rw [hcs2, HE.out]
        exact hcw.2
      have hshf : ∀ W, Calls Tryz.prog 38 #[.agg cs1.toArray, .int .i64 a] W fun e w' => e = .returned (.agg cs3.toArray) ∧ Below W.heap.size W w' := fun W => by
        have := shifted_any (w := W) (t.span 0 n) (kv := k4) (dv := d4) (mv := m4) HC4.out.form (d := a) (by show ((0 : Nat) : Int) + a ≤ _; omega) (by show ((n : Nat) : Int) + a ≤ _; have := HE.out; omega)
        rw [hsp] at this
        rw [hcs1, hcs3]
        exact this
      have hst := HSH.out (t.span a e) (by rw [HE.out, HTS.out]; exact HMEM.out)
      have hsam : ∀ W, Below w4.heap.size w4 W → Calls Tryz.prog 37 #[.agg cs3.toArray, .agg cs2.toArray] W fun e w' => e = .returned (.bool true) ∧ Below W.heap.size W w' := fun W hW => by
        rw [hcs2, hcs3]
        exact sameStep_same (t := t.span a e) (HC4.out.below hW) (hcw.1.below hW) (by have := hst.1; omega) (by have := hst.2; omega)
      have hld1 := fun (W : World) (h : W.rangeAt g4 0 cs1) => run_loadVar_mid (P := Tryz.prog) W g4 0 86 cs1 _ h Tryz.underlying86 rfl hsz1
      have hld2 := fun (W : World) (h : W.rangeAt g (o + k * 16) cs2) => run_loadVar_mid (P := Tryz.prog) W g (o + k * 16) 86 cs2 _ h Tryz.underlying86 rfl hsz2
      have HSHF := Lib.hid hshf
      have HSAM := Lib.hid hsam
      have HR1 := Lib.hid r1
      have HR2' := Lib.hid r2
      clear hcw hsp hcs1 hcs2 hcs3 hshf hsam hst yl
      go_wp2_with fail
      go_region_held3 (fun w' => w'.rangeAt g4 0 cs1 ∧ w'.rangeAt g (o + k * 16) cs2 ∧ w'.cell? ⟨g, o + k * 16 + 14, none⟩ = some (Value.int .i64 a)) (first | exact ⟨r1, r2, x14⟩ | go_keep) (first | (go_at_call 38; refine (HSHF.out _).mono ?_; rintro ee w5 ⟨rfl, hb6⟩; have hb7 := ((Below.refl w4.heap.size w4).drew).trans hb6; have r1 := rangeAt_below r1 hb7; have r2 := rangeAt_below r2 hb7; have x14 := cell_below x14 hb7; have HB7 := Lib.hid hb7; clear hb6 hb7) | (go_at_call 37; refine (HSAM.out _ HB7.out).mono ?_; rintro ee w6 ⟨rfl, hb8⟩; have r1 := rangeAt_below r1 hb8; have r2 := rangeAt_below r2 hb8; have x14 := cell_below x14 hb8; have HB8 := Lib.hid (HB7.out.trans (hb8.mono HB7.out.size)); clear hb8))
      go_wp2_with fail
      have hbf := HB5.out.trans (HB8.out.mono HB5.out.size)
      refine ⟨⟨⟨k + 1, e, decide (t.cmd.verb = 18), rfl, rfl, by go_num, by rw [← HTS.out]; omega, by rw [HE.out]; exact HAT.out⟩, hbf⟩, by show ts.length - ((k : Int) + 1).toNat < ts.length - (k : Int).toNat; omega⟩
    · have hfin := hat.fin (by rw [← HTS.out]; omega)
      rw [← HLF.out] at hfin
      have hab := hat.le
      have HB := Lib.hid hb
      have HFIN := Lib.hid hfin
      clear hb hat hfin
      go_upto_region 15 with fail
      go_cut [130] (fun v wx => v = .bool false ∧ wx = wr)
      case first =>
        cases q with
        | true =>
          obtain rfl : lf = 0 := HFIN.out
          go_wp2_with fail
          go_meet
          exact ⟨rfl, rfl⟩
        | false =>
          have hfi : lf = rb.length - a := HFIN.out
          have hq : ((lf : Int) != (rb.length : Int) - (a : Int)) = false := by simp; omega
          clear hfi
          go_wp2_with fail
          go_meet
          exact ⟨rfl, rfl⟩
      case rest =>
        obtain ⟨rfl, rfl⟩ := hcut
        clear HFIN hab
        go_wp2_with fail
        go_loopw [11] (fun i wx => (∃ j : Nat, j ≤ zs.length ∧ i = .int .i64 j) ∧ Below w2.heap.size w2 wx) (fun i _ => zs.length - (intOf i).toNat)
        case atStart => exact ⟨⟨0, Nat.zero_le _, rfl⟩, HB.out⟩
        case round =>
          obtain ⟨⟨j, hj, rfl⟩, hb⟩ := hrel
          have ya : _ = some (Value.slice C zs.length capC) := (HBX.out.later hb).cell 2
          have yl : _ = some (Value.int .i64 limit) := (HBX.out.later hb).cell 1
          by_cases hlt2 : j < zs.length ∧ j < 12
          · as_aux_lemma =>
            obtain ⟨z, hz⟩ : ∃ z, zs[j]? = some z := ⟨zs[j]'hlt2.1, by simp [hlt2.1]⟩
            obtain ⟨gc, oc, hCe, zc⟩ : ∃ g o, C = some ⟨g, o, none⟩ ∧ wr.cell? ⟨g, o + j, none⟩ = some (.int .i64 z) := by
              rcases HROWC2.out.below hb with h0 | ⟨g, o, h1, _, h3⟩
              · have : zs = [] := by simpa using h0
                rw [this] at hz; simp at hz
              · exact ⟨g, o, h1, h3 j _ (by simp [hz])⟩
            subst hCe
            have hj1 : (j : Int) < (zs.length : Int) := by omega
            have hj2 : (j : Int) < 12 := by omega
            have HB := Lib.hid hb
            clear hb hz hlt2
            obtain ⟨K, hK, hKe⟩ := cut_place z rb.length hlen1
            have hKi : (K : Int) ≤ (capA : Int) := by omega
            obtain ⟨N, hN1, hN2, hN3, hN4, hN5, hN6⟩ := allOf_take limit.toNat rb.length rb (Nat.le_refl _) K hK
            rw [← HTS.out] at hN1 hN2 hN3 hN4 hN6
            obtain ⟨ps, lp, hpx⟩ : ∃ ps lp, allOf limit.toNat (rb.take K) = (ps, lp) := ⟨_, _, rfl⟩
            rw [hpx] at hN4 hN5 hN6
            dsimp only at hN4 hN5 hN6
            subst hN4
            have hpl : (ts.take N).length = N := by rw [List.length_take]; omega
            have hal : ∀ W, Below w2.heap.size w2 W → Calls Tryz.prog 25 #[.slice A K capA, .int .i64 limit] W fun e w' => ∃ A c tcs, e = .returned (.tuple #[.slice A N c, .int .i64 lp]) ∧ RowAt w' A tcs ∧ StepsAt w' (ts.take N) tcs ∧ Below W.heap.size W w' := fun W hW => by
              have hr : RowAt W A (bytesV (rb.take K)) := by
                have := (HROW2.out.below hW).take K
                simpa [bytesV] using this
              have hlk : (rb.take K).length = K := by rw [List.length_take]; omega
              have := all_any (HG2.out.later hW) (cap := capA) hr (by omega) HA.out (by omega) HL2.out
              change Calls _ _ _ _ (AllPost _ (allOf limit.toNat _)) at this
              rw [hpx, hlk] at this
              exact this.mono fun e w' h => h.told hpl
            obtain ⟨a, q, hat⟩ := AllAt.upto (lim := limit.toNat) (l := rb) N (by rw [← HTS.out]; exact hN1)
            have HALK := Lib.hid hal
            have HN := Lib.hid (And.intro hN2 (And.intro hN3 (And.intro hN5 hN6)))
            have HKE := Lib.hid hKe
            have HPL := Lib.hid hpl
            have HAT := Lib.hid hat
            clear hN2 hN3 hN5 hN6 hpx hal hKe hpl hat
            go_upto_region 21 with fail
            rw [HKE.out]
            go_region_held3 (fun w' => w'.cell? ⟨w.heap.size, 1, none⟩ = some (Value.int .i64 limit)) (first | exact yl | go_keep) ((go_at_call 25; refine (HALK.out _ HB.out.drew).mono ?_; rintro ee w4 ⟨A4, c4, cs4, rfl, hr4, hs4, hb4⟩; have hb5 := HB.out.drew.trans (hb4.mono HB.out.drew.size); have yl : w4.cell? ⟨w.heap.size, 1, none⟩ = some (Value.int .i64 limit) := (HBX.out.later hb5).cell 1; have HR4 := Lib.hid hr4; have HS4 := Lib.hid hs4; have HB5 := Lib.hid hb5; clear hr4 hs4 hb4 hb5))
            go_upto_block 4 with fail
            go_cut [15] (fun nv wx => nv = .int .i64 N ∧ wx = w4)
            case first =>
              go_wp2_with fail
              go_loopw [15] (fun nv wx => (∃ n : Nat, n ≤ N ∧ nv = .int .i64 n) ∧ wx = w4) (fun nv _ => N - (intOf nv).toNat)
              case atStart => exact ⟨⟨0, Nat.zero_le _, rfl⟩, rfl⟩
              case round =>
                obtain ⟨⟨n, hn, rfl⟩, rfl⟩ := hrel
                by_cases hlt3 : n < N
                · obtain ⟨t, ht⟩ : ∃ t, ts[n]? = some t := ⟨ts[n]'(by omega), List.getElem?_eq_getElem _⟩
                  obtain ⟨g, o, kv, dv, mv, hAe, hcell⟩ := steps_cell HR2.out HS2.out ht
                  subst hAe
                  obtain ⟨tt, htt⟩ : ∃ tt, tt = t.to := ⟨_, rfl⟩
                  have hle := HN.out.1 n t hlt3 ht
                  have x15 : wr.cell? ⟨g, o + n * 16 + 15, none⟩ = some (Value.int .i64 tt) := by rw [htt]; exact (hcell _ HB5.out).2 15 _ rfl
                  rw [← htt] at hle
                  have hlt4 : (n : Int) < (ts.length : Int) := by omega
                  have hle2 : decide ((tt : Int) ≤ (K : Int)) = true := decide_eq_true (by omega)
                  clear ht hcell htt
                  go_wp2_with fail
                  exact ⟨⟨⟨n + 1, by omega, by go_num⟩, trivial⟩, by show N - ((n : Int) + 1).toNat < N - (n : Int).toNat; omega⟩
                · obtain rfl : n = N := by omega
                  by_cases hlt4 : n < ts.length
                  · obtain ⟨t, ht⟩ : ∃ t, ts[n]? = some t := ⟨ts[n]'(by omega), List.getElem?_eq_getElem _⟩
                    obtain ⟨g, o, kv, dv, mv, hAe, hcell⟩ := steps_cell HR2.out HS2.out ht
                    subst hAe
                    obtain ⟨tt, htt⟩ : ∃ tt, tt = t.to := ⟨_, rfl⟩
                    have hle := HN.out.2.1 t ht
                    have x15 : wr.cell? ⟨g, o + n * 16 + 15, none⟩ = some (Value.int .i64 tt) := by rw [htt]; exact (hcell _ HB5.out).2 15 _ rfl
                    rw [← htt] at hle
                    have hlt5 : (n : Int) < (ts.length : Int) := by omega
                    have hle2 : decide ((tt : Int) ≤ (K : Int)) = false := decide_eq_false (by omega)
                    clear ht hcell htt
                    go_wp2_with fail
                    go_meet
                    exact ⟨rfl, rfl⟩
                  · have hlt5 : decide ((n : Int) < (ts.length : Int)) = false := decide_eq_false (by omega)
                    go_wp2_with fail
                    go_meet
                    exact ⟨rfl, rfl⟩
            case rest =>
              obtain ⟨rfl, rfl⟩ := hcut
              have hNc : (N : Int) ≤ (c2 : Int) := by omega
              have hss := sameSteps_same (w := wc) (A := A4) (B := A2) (ca := c4) (cb := c2) (ts := ts.take N) (by rw [HPL.out]; omega) (fun t ht => by have := HSH.out t (List.mem_of_mem_take ht); exact ⟨by have := this.1; omega, by have := this.2; omega⟩) HR4.out ((HR2.out.below HB5.out).take (N * 16)) HS4.out ((HS2.out.below HB5.out).take N)
              rw [HPL.out] at hss
              have HSS := Lib.hid hss
              clear hss yl ya
              go_wp2_with fail
              refine HSS.out.mono ?_
              rintro e w6 ⟨rfl, hb6⟩
              have hb7 := HB5.out.trans (hb6.mono HB5.out.size)
              have HB7 := Lib.hid hb7
              clear hb6 hb7
              have hjj : j < zs.length := by omega
              rcases Nat.eq_zero_or_pos N with hN0 | hN0
              · subst hN0
                obtain rfl : lp = K := HN.out.2.2.1 rfl
                go_wp2_with fail
                exact ⟨⟨⟨j + 1, by omega, by go_num⟩, HB7.out⟩, by show zs.length - ((j : Int) + 1).toNat < zs.length - (j : Int).toNat; omega⟩
              · obtain ⟨i, hi⟩ : ∃ i, N = i + 1 := ⟨N - 1, by omega⟩
                have hi1 : (N : Int) - 1 = (i : Int) := by omega
                have hz0 : ((N : Int) == 0) = false := by simp; omega
                have hz1 : (0 : Int) < (N : Int) := by omega
                have hz2 : decide ((0 : Int) < (N : Int)) = true := decide_eq_true hz1
                have hil : (i : Int) < (ts.length : Int) := by omega
                obtain ⟨t, ht, hta, htq⟩ := HAT.out.prev i hi
                rw [← HTS.out] at ht
                obtain ⟨g, o, kv, dv, mv, hAe, hcell⟩ := steps_cell HR2.out HS2.out ht
                subst hAe
                have hcw := (hcell _ HB7.out).2
                obtain ⟨v, hv⟩ : ∃ v, v = t.cmd.verb := ⟨_, rfl⟩
                have x0 : w6.cell? ⟨g, o + i * 16, none⟩ = some (Value.int .i64 v) := by rw [hv]; have := hcw 0 _ rfl; rwa [Nat.add_zero] at this
                have x15 : w6.cell? ⟨g, o + i * 16 + 15, none⟩ = some (Value.int .i64 a) := by rw [← hta]; exact hcw 15 _ rfl
                have haK : a ≤ K := by rw [← hta]; exact HN.out.1 i t (by omega) ht
                have hw1 : IntKind.i64.wrap ((N : Int) - 1) = (i : Int) := by rw [hi1]; exact IntWalk.i64_in _ (by omega)
                have hw0 : IntKind.i64.wrap (i : Int) = (i : Int) := IntWalk.i64_in _ (by omega)
                have hlp : v ≠ 18 → lp = K - a := fun h => by have := HN.out.2.2.2 i t hi ht (by rwa [← hv]); rwa [hta] at this
                rw [← hv] at htq
                have HI := Lib.hid hi
                have HCELL := Lib.hid hcell
                clear hcw hcell ht hta hv hi
                by_cases hv18 : v = 18
                · subst hv18
                  clear hlp
                  go_wp2_with fail
                  exact ⟨⟨⟨j + 1, by omega, by go_num⟩, HB7.out⟩, by show zs.length - ((j : Int) + 1).toNat < zs.length - (j : Int).toNat; omega⟩
                · as_aux_lemma =>
                  have hv1 : ((v : Int) != 18) = true := by simp; omega
                  have hlp := hlp hv18
                  have hq : ((lp : Int) != (K : Int) - (a : Int)) = false := by simp; omega
                  obtain rfl : q = false := by rw [htq]; exact decide_eq_false hv18
                  obtain ⟨b1, b2, b3⟩ := HAT.out.behind
                  have hale := HAT.out.le
                  obtain ⟨ms, lm, hmx⟩ : ∃ ms lm, allOf limit.toNat (rb.drop a) = (ms, lm) := ⟨_, _, rfl⟩
                  rw [← HLF.out] at b1
                  rw [← HTS.out] at b2
                  rw [hmx] at b1 b2 b3
                  dsimp only at b1 b2 b3
                  subst b1
                  have hms := allOf_short limit.toNat (rb.drop a)
                  rw [hmx] at hms
                  have hin : ∀ (m : Nat) (u : Sp.StepV), ms[m]? = some u → u.frm ≤ u.to ∧ u.to ≤ (rb.drop a).length := fun m u h => allOf_in (lim := limit.toNat) (l := rb.drop a) (k := m) (by rw [hmx]; exact h)
                  rw [List.length_drop] at hin
                  have HIN := Lib.hid hin
                  clear hin
                  have hsl := fun W : World => run_slice_from W A rb.length capA a hale
                  have hal : ∀ W, Below w2.heap.size w2 W → Calls Tryz.prog 25 #[.slice (cutAddr A a capA) (rb.length - a) (capA - a), .int .i64 limit] W fun e w' => ∃ A c tcs, e = .returned (.tuple #[.slice A ms.length c, .int .i64 lf]) ∧ RowAt w' A tcs ∧ StepsAt w' ms tcs ∧ Below W.heap.size W w' := fun W hW => by
                    have hr : RowAt W (cutAddr A a capA) (bytesV (rb.drop a)) := by
                      rw [bytesV_drop]
                      exact (HROW2.out.below hW).cut (by rw [bytesV_length]; exact hlen2)
                    have hlk : (rb.drop a).length = rb.length - a := by rw [List.length_drop]
                    have := all_any (HG2.out.later hW) (cap := capA - a) hr (by omega) (cutAddr_none HA.out) (by omega) HL2.out
                    change Calls _ _ _ _ (AllPost _ (allOf limit.toNat _)) at this
                    rw [hmx, hlk] at this
                    exact this.mono fun e w' h => h.told rfl
                  have hM : ((ms.length : Int) != (ts.length : Int) - (N : Int)) = false := by simp; omega
                  have yl : w6.cell? ⟨w.heap.size, 1, none⟩ = some (Value.int .i64 limit) := (HBX.out.later HB7.out).cell 1
                  have HALA := Lib.hid hal
                  have HB3 := Lib.hid b3
                  have HMS := Lib.hid hms
                  have HSL := Lib.hid b2
                  clear hal b3 hms hmx hlp htq b2
                  go_upto_region 30 with fail
                  go_region_held3 (fun w' => w'.cell? ⟨w.heap.size, 1, none⟩ = some (Value.int .i64 limit) ∧ w'.cell? ⟨g, o + i * 16 + 15, none⟩ = some (Value.int .i64 a)) (first | exact ⟨yl, x15⟩ | go_keep) ((go_at_call 25; refine (HALA.out _ HB7.out.drew).mono ?_; rintro ee w8 ⟨A8, c8, cs8, rfl, hr8, hs8, hb8⟩; have hb9 := HB7.out.drew.trans (hb8.mono HB7.out.drew.size); have yl : w8.cell? ⟨w.heap.size, 1, none⟩ = some (Value.int .i64 limit) := (HBX.out.later hb9).cell 1; have x15 : w8.cell? ⟨g, o + i * 16 + 15, none⟩ = some (Value.int .i64 a) := cell_below x15 (((Below.refl _ _).drew).trans hb8); have HR8 := Lib.hid hr8; have HS8 := Lib.hid hs8; have HB9 := Lib.hid hb9; clear hr8 hs8 hb8 hb9))
                  go_wp2_with fail
                  go_loopw [18] (fun mv wx => (∃ m : Nat, m ≤ ms.length ∧ mv = .int .i64 m) ∧ Below w8.heap.size w8 wx) (fun mv _ => ms.length - (intOf mv).toNat)
                  case atStart => exact ⟨⟨0, Nat.zero_le _, rfl⟩, Below.refl _ _⟩
                  case round =>
                    obtain ⟨⟨m, hm, rfl⟩, hb⟩ := hrel
                    have hB := HB9.out.trans (hb.mono HB9.out.size)
                    by_cases hlt5 : m < ms.length
                    · as_aux_lemma =>
                      obtain ⟨u, hu⟩ : ∃ u, ms[m]? = some u := ⟨ms[m]'hlt5, List.getElem?_eq_getElem _⟩
                      obtain ⟨P, hP⟩ : ∃ P, P = N + m := ⟨_, rfl⟩
                      have hsu := HB3.out m u hu
                      rw [← HTS.out, ← hP] at hsu
                      have hPi : (N : Int) + (m : Int) = (P : Int) := by omega
                      have hPl : (P : Int) < (ts.length : Int) := by have := (List.getElem?_eq_some_iff.1 hsu).1; omega
                      have hml : (m : Int) < (ms.length : Int) := by omega
                      have hw2 : IntKind.i64.wrap (P : Int) = (P : Int) := IntWalk.i64_in _ (by omega)
                      obtain ⟨g6, o6, k6, d6, m6, hAe6, hcell6⟩ := steps_cell HR8.out HS8.out hu
                      subst hAe6
                      obtain ⟨g', o', k2, d2, m2, hAe2, hcell2⟩ := steps_cell HR2.out HS2.out hsu
                      injection hAe2 with hAe2
                      injection hAe2 with hAe3 hAe4
                      subst hAe3
                      subst hAe4
                      have hcw1 := hcell6 wr hb
                      have hcw2 := hcell2 wr hB
                      have hb1 := HMS.out u (List.mem_of_getElem? hu)
                      have hto := HIN.out m u hu
                      obtain ⟨cs1, hcs1⟩ : ∃ cs1, cs1 = stepCells u k6 d6 m6 := ⟨_, rfl⟩
                      obtain ⟨cs2, hcs2⟩ : ∃ cs2, cs2 = stepCells (StepV.shifted u a) k2 d2 m2 := ⟨_, rfl⟩
                      obtain ⟨cs3, hcs3⟩ : ∃ cs3, cs3 = stepCells (StepV.shifted u a) k6 d6 m6 := ⟨_, rfl⟩
                      have hsz1 : (Tryz.prog.info? 86).map (·.size) = some cs1.length := by rw [hcs1]; kernel_rfl
                      have hsz2 : (Tryz.prog.info? 86).map (·.size) = some cs2.length := by rw [hcs2]; kernel_rfl
                      have r1 : wr.rangeAt g6 (o6 + m * 16) cs1 := by rw [hcs1]; exact hcw1.2
                      have r2 : wr.rangeAt g (o + P * 16) cs2 := by rw [hcs2]; exact hcw2.2
                      have x15 := cell_below x15 hb
                      have hshf : ∀ W, Calls Tryz.prog 38 #[.agg cs1.toArray, .int .i64 a] W fun e w' => e = .returned (.agg cs3.toArray) ∧ Below W.heap.size W w' := fun W => by
                        have := shifted_any (w := W) u (kv := k6) (dv := d6) (mv := m6) hcw1.1.form (d := a) (by omega) (by omega)
                        rw [hcs1, hcs3]
                        exact this
                      have hsam : ∀ W, Below wr.heap.size wr W → Calls Tryz.prog 37 #[.agg cs3.toArray, .agg cs2.toArray] W fun e w' => e = .returned (.bool true) ∧ Below W.heap.size W w' := fun W hW => by
                        rw [hcs2, hcs3]
                        exact sameStep_same (t := StepV.shifted u a) (hcw1.1.below hW) (hcw2.1.below hW) (by have := hb1.1; show u.cmd.keys.length ≤ _; omega) (by have := hb1.2; show u.cmd.metas.length ≤ _; omega)
                      have hld1 := fun (W : World) (h : W.rangeAt g6 (o6 + m * 16) cs1) => run_loadVar_mid (P := Tryz.prog) W g6 (o6 + m * 16) 86 cs1 _ h Tryz.underlying86 rfl hsz1
                      have hld2 := fun (W : World) (h : W.rangeAt g (o + P * 16) cs2) => run_loadVar_mid (P := Tryz.prog) W g (o + P * 16) 86 cs2 _ h Tryz.underlying86 rfl hsz2
                      have HSHF := Lib.hid hshf
                      have HSAM := Lib.hid hsam
                      have HBR := Lib.hid hb
                      clear hcell6 hcell2 hcw1 hcw2 hcs1 hcs2 hcs3 hshf hsam hb hu hsu hP hb1 hto hB
                      go_wp2_with fail
                      go_region_held3 (fun w' => w'.rangeAt g6 (o6 + m * 16) cs1 ∧ w'.rangeAt g (o + P * 16) cs2 ∧ w'.cell? ⟨g, o + i * 16 + 15, none⟩ = some (Value.int .i64 a)) (first | exact ⟨r1, r2, x15⟩ | go_keep) (first | (go_at_call 38; refine (HSHF.out _).mono ?_; rintro ee w10 ⟨rfl, hb10⟩; have hb11 := ((Below.refl wr.heap.size wr).drew).trans hb10; have r1 := rangeAt_below r1 hb11; have r2 := rangeAt_below r2 hb11; have x15 := cell_below x15 hb11; have HB11 := Lib.hid hb11; clear hb10 hb11) | (go_at_call 37; refine (HSAM.out _ HB11.out).mono ?_; rintro ee w12 ⟨rfl, hb12⟩; have r1 := rangeAt_below r1 hb12; have r2 := rangeAt_below r2 hb12; have x15 := cell_below x15 hb12; have HB12 := Lib.hid (HB11.out.trans (hb12.mono HB11.out.size)); clear hb12))
                      go_wp2_with fail
                      exact ⟨⟨⟨m + 1, by omega, by go_num⟩, HBR.out.trans (HB12.out.mono HBR.out.size)⟩, by show ms.length - ((m : Int) + 1).toNat < ms.length - (m : Int).toNat; omega⟩
                    · have hml : decide ((m : Int) < (ms.length : Int)) = false := decide_eq_false (by omega)
                      have HBR := Lib.hid hB
                      clear hb hB
                      go_wp2_with fail
                      exact ⟨⟨⟨j + 1, by omega, by go_num⟩, HBR.out⟩, by show zs.length - ((j : Int) + 1).toNat < zs.length - (j : Int).toNat; omega⟩
          · as_aux_lemma =>
            have hwk := wakes11_any (HG2.out.later hb) (HT2.out.later HG2.out hb)
            have hbw := HBW.out.trans (hb.mono HBW.out.size)
            have HWK := Lib.hid hwk
            have HBF := Lib.hid hbw
            clear hwk hbw hb
            rcases Nat.lt_or_ge j zs.length with h1 | h1
            · have h2 : decide ((j : Int) < 12) = false := decide_eq_false (by omega)
              have h3 : (j : Int) < (zs.length : Int) := by omega
              go_wp2_with (refine HWK.out.mono ?_; rintro e w6 ⟨rfl, hb6⟩; have HB6 := Lib.hid hb6; clear hb6)
              rw [← HR.out]
              exact ⟨rfl, HBF.out.trans (HB6.out.mono HBF.out.size)⟩
            · have h3 : decide ((j : Int) < (zs.length : Int)) = false := decide_eq_false (by omega)
              go_wp2_with (refine HWK.out.mono ?_; rintro e w6 ⟨rfl, hb6⟩; have HB6 := Lib.hid hb6; clear hb6)
              rw [← HR.out]
              exact ⟨rfl, HBF.out.trans (HB6.out.mono HBF.out.size)⟩
end Go.Proofs.YticigfpieeoolaaGreatDoor
