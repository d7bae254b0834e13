/- Walks of package words: Bytes, of any command. -/
import Derived.Test.YthgfjafnclklpaaGreatDoorY5
import Derived.Test.YthgfjafnclklpaaGreatDoorYb
import Derived.Test.YthgfjafnclklpaaGreatDoorOc
import Derived.Deep.QuietTactic
import Derived.BigQuiet
namespace Go.Proofs.YthgfjafnclklpaaGreatDoor
attribute [local go_sem ↓] Go.wp_at_zero Go.wp_at_succ
open Go.RowKit

/-- is it read again as it was? -/
def againB (c : Sp.CmdV) (L : Nat) : List Sp.StepV × Nat → Bool
  | ([t], left) => decide (left = 0) && decide (t.cmd = c) && decide (t.to = L)
  | _ => false
theorem again_b (c : Sp.CmdV) : Sp.againV c = againB c (Sp.outV c).length (Sp.allV c.data.length ((Sp.outV c).length + 1) 0 (Sp.outV c)) := by
  unfold Sp.againV againB
  rfl

theorem BytesOwn.post {w w' : World} {out : Sp.Bs} {e : Ending} (h : BytesOwn w out e w') : BytesPost w out e w' := by
  obtain ⟨g, cap, h1, h2, h3⟩ := h
  exact ⟨_, cap, h1, h2.row, h2.room, h3⟩
/-- what Bytes tells of any command -/
def BytesEnd (w : World) (c : Sp.CmdV) (e : Ending) (w' : World) : Prop := match Sp.bytesV' c with
  | some out => BytesOwn w out e w'
  | none => e = .returned (.tuple #[nilRow, .int .i64 7]) ∧ Below w.heap.size w w'

set_option maxHeartbeats 40000000 in
set_option maxRecDepth 100000 in
theorem bytes_some {w : World} (hg : Glob w) (ht : TabAt w) {c : Sp.CmdV} {K D M : Option Addr} {kc dc mc : Nat} (hm : CmdIn w c K kc D dc M mc) (hf0 : CmdFit c) (hv : 1 ≤ c.verb) (hl : c.large = false) (hlen : (Sp.outV c).length ≤ 100000000) (hparts : (Sp.partsV (rowBy c.verb) (wordBy c.verb) c).length ≤ 100000000) :
    Calls Tryz.prog 9 #[cmdV c (.slice K c.keys.length kc) (.slice D c.data.length dc) (.slice M c.metas.length mc)] w (BytesEnd w c) := by
  have hv24 := hf0.verb
  have hyes : Sp.againV c = true → ∀ e w', BytesOwn w (Sp.outV c) e w' → BytesEnd w c e w' := fun h e w' hp => by unfold BytesEnd Sp.bytesV'; rw [if_pos ⟨hv, hv24, hl, h⟩]; exact hp
  have hno : Sp.againV c = false → ∀ w', Below w.heap.size w w' → BytesEnd w c (.returned (.tuple #[nilRow, .int .i64 7])) w' := fun h w' hp => by unfold BytesEnd Sp.bytesV'; rw [if_neg (fun hx => by rw [h] at hx; exact absurd hx.2.2.2 (by decide))]; exact ⟨rfl, hp⟩
  clear hv24
  generalize BytesEnd w c = R at hyes hno ⊢
  have HYES := Lib.hid hyes
  have HNO := Lib.hid hno
  have hf : CmdOk c := ⟨hf0, hv, hf0.verb⟩
  have hv2 := hf.verb
  have hw0 : Below w.heap.size w (w.alloc (.cells (cmdArr c (.slice K c.keys.length kc) (.slice D c.data.length dc) (.slice M c.metas.length mc)) 38)) := (Below.refl _ _).alloc (Nat.le_refl _) _
  have hbl := Blk.new w 38 (cmdArr c (.slice K c.keys.length kc) (.slice D c.data.length dc) (.slice M c.metas.length mc))
  have hn := name_yes c.verb hv hv2 (w.alloc (.cells (cmdArr c (.slice K c.keys.length kc) (.slice D c.data.length dc) (.slice M c.metas.length mc)) 38))
  simp only [rowVal] at hn
  obtain ⟨r, hr⟩ : ∃ r, r = rowBy c.verb := ⟨_, rfl⟩
  obtain ⟨wd, hwd⟩ : ∃ wd, wd = wordBy c.verb := ⟨_, rfl⟩
  rw [← hr, ← hwd] at hn
  have HG := Lib.hid hg
  have HT := Lib.hid ht
  have HM := Lib.hid hm
  have HF := Lib.hid hf
  have HN := Lib.hid hn
  have HW0 := Lib.hid hw0
  have HBL := Lib.hid hbl
  have HRW := Lib.hid hr
  have HWD := Lib.hid hwd
  have HL := Lib.hid hl
  have HP := Lib.hid hparts
  clear hyes hno hg ht hm hf hn hw0 hbl hr hwd hl hv hv2 hparts hf0
  go_enter Tryz.func9, Tryz.ntmps9
  go_upto_region 4 with (refine HN.out.mono ?_; rintro e w1 ⟨rfl, hb1⟩; have hx1 := HBL.out.later hb1; have x8 : _ = some (Value.bool c.large) := hx1.cell 8; rw [HL.out] at x8; have hlt1 : w.heap.size < w1.heap.size := hx1.lt; have HX1 := Lib.hid hx1; have HB1 := Lib.hid hb1; clear hb1 hx1)
  go_cut [7] (fun ov wx => BytesMid w c (.slice K c.keys.length kc) (.slice D c.data.length dc) (.slice M c.metas.length mc) r w1.heap.size [wd] ov wx)
  case first =>
    go_wp2_with fail
    go_meet
    exact BytesMid.start HX1.out (HW0.out.trans (HB1.out.mono HW0.out.size)) r wd
  case rest =>
    have hrow := hcut.row
    have z1 : _ = some (str r.places) := hrow.cell 1
    obtain ⟨i0, hi, hz0, hz1, hz2⟩ := info_parts info_string
    have hpl : r.places.length ≤ 5 ∧ (∀ k ∈ r.places, k ∈ ([75, 70, 84, 78, 67, 48, 68, 83, 86, 87, 71] : Sp.Bs)) := by
      have := rowOf_ok (rowOf_word (v := c.verb) HF.out.verb1 HF.out.verb)
      rw [← HRW.out] at this
      exact ⟨this.1, this.2.2.2.2.2⟩
    have hpl5 := hpl.1
    have hst : BytesMid w c (.slice K c.keys.length kc) (.slice D c.data.length dc) (.slice M c.metas.length mc) r w1.heap.size ([wd] ++ (r.places.take 0).flatMap (Sp.putV c)) u7 wc := by simpa using hcut
    have HPL := Lib.hid hpl
    have HST := Lib.hid hst
    clear hcut hrow hpl hst x8
    go_wp2_with fail
    go_loopw [7, 34] (fun ov i wr => ∃ k : Nat, k ≤ r.places.length ∧ i = .int .i64 k ∧ BytesMid w c (.slice K c.keys.length kc) (.slice D c.data.length dc) (.slice M c.metas.length mc) r w1.heap.size ([wd] ++ (r.places.take k).flatMap (Sp.putV c)) ov wr) (fun _ i _ => r.places.length - (intOf i).toNat)
    case atStart => exact ⟨0, Nat.zero_le _, rfl, HST.out⟩
    case round =>
      obtain ⟨k, hk, rfl, hm⟩ := hrel
      clear z1
      have hcmd := hm.cmd
      have hrow := hm.row
      have z1 : _ = some (str r.places) := hrow.cell 1
      have hltc := hcmd.lt
      have hltr := hrow.lt
      have HCMD := Lib.hid hcmd
      have HROW := Lib.hid hrow
      have HMID := Lib.hid hm
      clear hcmd hrow hm
      by_cases hlt : k < r.places.length
      · obtain ⟨x, hx⟩ : ∃ x, r.places[k]? = some x := ⟨r.places[k], List.getElem?_eq_getElem hlt⟩
        have hfs := flat_snoc (Sp.putV c) hx
        have hxin := HPL.out.2 x (List.mem_of_getElem? hx)
        have hby : ∀ h : k < (⟨r.places.toArray⟩ : ByteArray).size, (⟨r.places.toArray⟩ : ByteArray)[k]'h = x := fun h => by
          show r.places.toArray[k] = x
          rw [List.getElem?_eq_getElem hlt] at hx
          have := Option.some.inj hx
          simpa using this
        have hby' := hby (by rw [str_size]; exact hlt)
        have HFS := Lib.hid hfs
        have HXIN := Lib.hid hxin
        clear hx hfs hxin hby
        have hnb : ([wd] ++ (r.places.take k).flatMap (Sp.putV c)).length + (Sp.putV c x).length ≤ 100000000 := by
          have h1 := HP.out
          rw [← HRW.out, ← HWD.out] at h1
          unfold Sp.partsV at h1
          have h2 : ([wd] ++ (r.places.take (k + 1)).flatMap (Sp.putV c)).length ≤ (wd :: r.places.flatMap (Sp.putV c) ++ (if c.noreply then [Sp.noreplyW] else [])).length := by
            have h3 : (r.places.take (k + 1)).flatMap (Sp.putV c) ++ (r.places.drop (k + 1)).flatMap (Sp.putV c) = r.places.flatMap (Sp.putV c) := by rw [← List.flatMap_append, List.take_append_drop]
            rw [← h3]
            simp <;> omega
          rw [HFS.out, ← List.append_assoc, List.length_append] at h2
          omega
        have hon : ∀ (v : Value) (W : World), BytesMid w c (.slice K c.keys.length kc) (.slice D c.data.length dc) (.slice M c.metas.length mc) r w1.heap.size (([wd] ++ (r.places.take k).flatMap (Sp.putV c)) ++ Sp.putV c x) v W → BytesMid w c (.slice K c.keys.length kc) (.slice D c.data.length dc) (.slice M c.metas.length mc) r w1.heap.size ([wd] ++ (r.places.take (k + 1)).flatMap (Sp.putV c)) v W := fun v W h => by
          rw [HFS.out, ← List.append_assoc]; exact h
        have HON := Lib.hid hon
        have HNB := Lib.hid hnb
        clear hnb hon
        by_cases h75 : x = 75
        · have q75 : ((x.toNat : Int) == 75) = true := by rw [h75]; rfl
          have hpv : Sp.putV c x = c.keys := by rw [h75]; rfl
          have hnb := HNB.out
          rw [hpv] at hnb
          have hks := HM.out.keys.below HMID.out.below
          have y1 : _ = some (Value.slice K c.keys.length kc) := HCMD.out.cell 1
          have hszw : w.heap.size ≤ wr.heap.size := HMID.out.below.size
          have HPV := Lib.hid hpv
          have HKS := Lib.hid hks
          clear hpv hks h75
          go_wp2_with (at_builtin; refine wpList_append_in rfl (.tmp 57) (.tmp 59) _ rfl w.heap.size 9 i0 _ 1 16 Tryz.underlying33 hi hz0 hz1 hz2 rfl (by decide) u7 _ _ rfl HMID.out.words K c.keys.length kc (c.keys.map str) rfl HKS.out HM.out.nk ?_ ?_ ?_ ?_ ?_ ?_; simp; (intro u hu; obtain ⟨_, _, rfl⟩ := List.mem_map.1 hu; rfl); (unfold maxLen; omega); omega; omega; intro v3 w3 hown3 hg3; have hm3 := HMID.out.more (ps := c.keys) rfl (Below.refl _ _) hg3 hown3; have Hm3 := Lib.hid hm3; clear hown3 hg3 hm3)
          exact ⟨⟨k + 1, by omega, by go_num, HON.out _ _ (by rw [HPV.out]; exact Hm3.out)⟩, by show r.places.length - ((k : Int) + 1).toNat < r.places.length - (k : Int).toNat; omega⟩
        · have q75 : ((x.toNat : Int) == 75) = false := u8_ne (k := 75) h75
          by_cases h71 : x = 71
          · have q71 : ((x.toNat : Int) == 71) = true := by rw [h71]; rfl
            have hpv : Sp.putV c x = c.metas.map fun f => f.letter :: f.arg := by rw [h71]; rfl
            have hnb := HNB.out
            rw [hpv, List.length_map] at hnb
            have y9 : _ = some (Value.slice M c.metas.length mc) := HCMD.out.cell 9
            have hst2 : BytesMid w c (.slice K c.keys.length kc) (.slice D c.data.length dc) (.slice M c.metas.length mc) r w1.heap.size (([wd] ++ (r.places.take k).flatMap (Sp.putV c)) ++ (c.metas.take 0).map fun f => f.letter :: f.arg) u7 wr := by simpa using HMID.out
            have hml := HF.out.fit.metas
            have HPV := Lib.hid hpv
            have HST2 := Lib.hid hst2
            clear hpv hst2 h75 h71
            obtain ⟨wo, hwo⟩ : ∃ wo : World, wo = wr := ⟨_, rfl⟩
            rw [← hwo] at HST2 y9 z1 hltc hltr HCMD HROW HMID ⊢
            clear hwo
            go_wp2_with fail
            go_loopw [7, 70] (fun ov i wx => ∃ j : Nat, j ≤ c.metas.length ∧ i = .int .i64 j ∧ BytesMid w c (.slice K c.keys.length kc) (.slice D c.data.length dc) (.slice M c.metas.length mc) r w1.heap.size (([wd] ++ (r.places.take k).flatMap (Sp.putV c)) ++ (c.metas.take j).map fun f => f.letter :: f.arg) ov wx) (fun _ i _ => c.metas.length - (intOf i).toNat)
            case atStart => exact ⟨0, Nat.zero_le _, rfl, HST2.out⟩
            case round =>
              obtain ⟨j, hj, rfl, hm2⟩ := hrel
              have HM2 := Lib.hid hm2
              by_cases hjl : j < c.metas.length
              · obtain ⟨f, hfj⟩ : ∃ f, c.metas[j]? = some f := ⟨c.metas[j], by simp [hjl]⟩
                have htk : (c.metas.take (j + 1)).map (fun f => f.letter :: f.arg) = (c.metas.take j).map (fun f => f.letter :: f.arg) ++ [f.letter :: f.arg] := by rw [List.take_add_one, hfj, List.map_append]; rfl
                obtain ⟨ga, oa, hAe, _, ya0, ya1, ya2⟩ := (HM.out.metas.below hm2.below).flag hfj
                have hfa := HF.out.fit.args f (List.mem_of_getElem? hfj)
                have HTK := Lib.hid htk
                clear hm2 hfj htk
                subst hAe
                have hs1 : (wr.alloc (.cells #[.int .u8 f.letter.toNat, str f.arg, .bool f.has] 94)).heap.size = wr.heap.size + 1 := by simp
                have hs2 : ((wr.alloc (.cells #[.int .u8 f.letter.toNat, str f.arg, .bool f.has] 94)).alloc (.cells #[.int .u8 f.letter.toNat] 5)).heap.size = wr.heap.size + 2 := by simp
                have hcv : (convert 35 9 (.slice (some ⟨wr.heap.size + 1, 0, none⟩) 1 1)).run Tryz.prog ((wr.alloc (.cells #[.int .u8 f.letter.toNat, str f.arg, .bool f.has] 94)).alloc (.cells #[.int .u8 f.letter.toNat] 5)) = .ok (str [f.letter]) ((wr.alloc (.cells #[.int .u8 f.letter.toNat, str f.arg, .bool f.has] 94)).alloc (.cells #[.int .u8 f.letter.toNat] 5)) := by
                  have hb := Blk.new (wr.alloc (.cells #[.int .u8 f.letter.toNat, str f.arg, .bool f.has] 94)) 5 #[.int .u8 f.letter.toNat]
                  rw [hs1] at hb
                  exact run_convert_bytes_back (P := Tryz.prog) ((wr.alloc (.cells #[.int .u8 f.letter.toNat, str f.arg, .bool f.has] 94)).alloc (.cells #[.int .u8 f.letter.toNat] 5)) 35 9 5 ⟨wr.heap.size + 1, 0, none⟩ 1 [f.letter] Tryz.underlying35 Tryz.underlying5 Tryz.underlying9 (fun i hi => by
                    obtain rfl : i = 0 := by simpa using hi
                    exact hb.cell 0)
                obtain ⟨fx, hfx⟩ : ∃ fx : ByteArray, fx = ⟨(f.letter :: f.arg).toArray⟩ := ⟨_, rfl⟩
                have hap : (({ data := #[f.letter] } : ByteArray) ++ { data := f.arg.toArray }) = fx := by
                  rw [hfx]
                  apply ByteArray.ext
                  simp
                have HFX := Lib.hid hfx
                clear hfx
                have hbW : Below wr.heap.size wr (((wr.alloc (.cells #[.int .u8 f.letter.toNat, str f.arg, .bool f.has] 94)).alloc (.cells #[.int .u8 f.letter.toNat] 5)).alloc (.cells #[.string fx] 9)) := (((Below.refl _ _).alloc (Nat.le_refl _) _).alloc (by simp) _).alloc (by simp; omega) _
                have ho3 := own_later HM2.out.words hbW
                obtain ⟨n0, hn0⟩ : ∃ n0 : Nat, n0 = (([wd] ++ (r.places.take k).flatMap (Sp.putV c)) ++ (c.metas.take j).map fun f => f.letter :: f.arg).length := ⟨_, rfl⟩
                rw [← hn0] at ho3
                have hn0b : n0 + 1 ≤ 100000000 := by
                  rw [hn0, List.length_append, List.length_map, List.length_take, Nat.min_eq_left (by omega)]
                  omega
                have hnw : ∀ (i : Nat) (u : Value), [Value.string fx][i]? = some u → (((wr.alloc (.cells #[.int .u8 f.letter.toNat, str f.arg, .bool f.has] 94)).alloc (.cells #[.int .u8 f.letter.toNat] 5)).alloc (.cells #[.string fx] 9)).cell? ((⟨wr.heap.size + 1 + 1, 0, none⟩ : Addr).add i) = some u := by
                  have h := cells_one ((wr.alloc (.cells #[.int .u8 f.letter.toNat, str f.arg, .bool f.has] 94)).alloc (.cells #[.int .u8 f.letter.toNat] 5)) (.string fx) 9
                  rwa [hs2] at h
                have hszw : w.heap.size ≤ wr.heap.size := HM2.out.below.size
                have HO3 := Lib.hid ho3
                have HN0 := Lib.hid hn0
                have HBW := Lib.hid hbW
                have HNW := Lib.hid hnw
                clear hs1 hs2 hbW ho3 hn0 hnw hnb
                go_wp2_with (at_builtin; refine wpList_append_put rfl (.tmp 74) (.tmp 82) _ rfl w.heap.size 9 i0 _ 1 16 Tryz.underlying33 hi hz0 hz1 hz2 rfl (by decide) u7 n0 _ rfl HO3.out ⟨wr.heap.size + 1 + 1, 0, none⟩ 1 1 [.string fx] rfl rfl ?_ ?_ ?_ ?_ ?_ ?_ ?_; exact HNW.out; (intro u hu; simp at hu; subst hu; rfl); decide; (unfold maxLen; omega); omega; (simp; omega); intro g3 cap3 w3 hown3 hg3 hat3; have hm3 := HM2.out.more (ps := [f.letter :: f.arg]) HN0.out HBW.out hg3 (by have h := hown3; rw [HFX.out] at h; exact h); have Hm3 := Lib.hid hm3; clear hown3 hg3 hat3 hm3)
                exact ⟨⟨j + 1, by omega, by go_num, by rw [HTK.out, ← List.append_assoc]; exact Hm3.out⟩, by show c.metas.length - ((j : Int) + 1).toNat < c.metas.length - (j : Int).toNat; omega⟩
              · have hjj : c.metas.take j = c.metas := List.take_of_length_le (by omega)
                have hfin : BytesMid w c (.slice K c.keys.length kc) (.slice D c.data.length dc) (.slice M c.metas.length mc) r w1.heap.size (([wd] ++ (r.places.take k).flatMap (Sp.putV c)) ++ Sp.putV c x) u7 wr := by rw [HPV.out]; rw [hjj] at hm2; exact hm2
                have HFIN := Lib.hid hfin
                clear hm2 hjj hfin
                go_wp2_with fail
                exact ⟨⟨k + 1, by omega, by go_num, HON.out _ _ HFIN.out⟩, by show r.places.length - ((k : Int) + 1).toNat < r.places.length - (k : Int).toNat; omega⟩
          · have q71 : ((x.toNat : Int) == 71) = false := u8_ne (k := 71) h71
            have hin : x ∈ ([70, 84, 78, 67, 48, 68, 83, 86, 87] : Sp.Bs) := by
              have := HXIN.out
              simp only [List.mem_cons, List.not_mem_nil, or_false] at this ⊢
              rcases this with h | h | h | h | h | h | h | h | h | h | h <;> simp_all
            have hput := fun (W : World) (hb : Below wr.heap.size wr W) => put_any (w := W) (K := K) (D := D) (M := M) (kn := c.keys.length) (kc := kc) (dc := dc) (mn := c.metas.length) (mc := mc) HF.out.fit (HT.out.later HG.out (HMID.out.below.trans (hb.mono HMID.out.below.size))) (HG.out.later (HMID.out.below.trans (hb.mono HMID.out.below.size))) hin
            have HPUT := Lib.hid hput
            clear hput hin h75 h71
            go_upto_region 8 with (fail)
            go_cut [11, 12] (fun tv bv wx => ∃ tx b, tv = str tx ∧ bv = .bool b ∧ Sp.putV c x = (if b = true then [tx] else []) ∧ BytesMid w c (.slice K c.keys.length kc) (.slice D c.data.length dc) (.slice M c.metas.length mc) r w1.heap.size ([wd] ++ (r.places.take k).flatMap (Sp.putV c)) u7 wx)
            case first =>
              have y0 : _ = some (Value.int .i64 c.verb) := (HCMD.out).cell 0
              have y1 : _ = some (Value.slice K c.keys.length kc) := (HCMD.out).cell 1
              have y2 : _ = some (Value.int .u64 c.flags) := (HCMD.out).cell 2
              have y3 : _ = some (Value.int .i64 c.exptime) := (HCMD.out).cell 3
              have y4 : _ = some (Value.int .u64 c.token) := (HCMD.out).cell 4
              have y5 : _ = some (Value.int .u64 c.delta) := (HCMD.out).cell 5
              have y6 : _ = some (Value.slice D c.data.length dc) := (HCMD.out).cell 6
              have y7 : _ = some (Value.bool c.noreply) := (HCMD.out).cell 7
              have y8 : _ = some (Value.bool c.large) := (HCMD.out).cell 8
              have y9 : _ = some (Value.slice M c.metas.length mc) := (HCMD.out).cell 9
              have y10 : _ = some (str c.what) := (HCMD.out).cell 10
              go_region_held3 (fun w' => w'.cell? ⟨w.heap.size, 0, none⟩ = some (Value.int .i64 c.verb) ∧ w'.cell? ⟨w.heap.size, 1, none⟩ = some (Value.slice K c.keys.length kc) ∧ w'.cell? ⟨w.heap.size, 2, none⟩ = some (Value.int .u64 c.flags) ∧ w'.cell? ⟨w.heap.size, 3, none⟩ = some (Value.int .i64 c.exptime) ∧ w'.cell? ⟨w.heap.size, 4, none⟩ = some (Value.int .u64 c.token) ∧ w'.cell? ⟨w.heap.size, 5, none⟩ = some (Value.int .u64 c.delta) ∧ w'.cell? ⟨w.heap.size, 6, none⟩ = some (Value.slice D c.data.length dc) ∧ w'.cell? ⟨w.heap.size, 7, none⟩ = some (Value.bool c.noreply) ∧ w'.cell? ⟨w.heap.size, 8, none⟩ = some (Value.bool c.large) ∧ w'.cell? ⟨w.heap.size, 9, none⟩ = some (Value.slice M c.metas.length mc) ∧ w'.cell? ⟨w.heap.size, 10, none⟩ = some (str c.what) ∧ w'.cell? ⟨w1.heap.size, 1, none⟩ = some (str r.places)) (first | exact ⟨y0, y1, y2, y3, y4, y5, y6, y7, y8, y9, y10, z1⟩ | exact ⟨v0, v1, v2, v3, v4, v5, v6, v7, v8, v9, v10, v11⟩ | go_keep) ((go_at_call 44; refine (HPUT.out _ ((Below.refl _ _).drew)).mono ?_; rintro e w4 ⟨tx, b, rfl, hp, hb4⟩; have hm4 := HMID.out.later (((Below.refl wr.heap.size wr).drew).trans hb4); have hc4 := hm4.cmd; have hr4 := hm4.row; have v0 : _ = some (Value.int .i64 c.verb) := (hc4).cell 0; have v1 : _ = some (Value.slice K c.keys.length kc) := (hc4).cell 1; have v2 : _ = some (Value.int .u64 c.flags) := (hc4).cell 2; have v3 : _ = some (Value.int .i64 c.exptime) := (hc4).cell 3; have v4 : _ = some (Value.int .u64 c.token) := (hc4).cell 4; have v5 : _ = some (Value.int .u64 c.delta) := (hc4).cell 5; have v6 : _ = some (Value.slice D c.data.length dc) := (hc4).cell 6; have v7 : _ = some (Value.bool c.noreply) := (hc4).cell 7; have v8 : _ = some (Value.bool c.large) := (hc4).cell 8; have v9 : _ = some (Value.slice M c.metas.length mc) := (hc4).cell 9; have v10 : _ = some (str c.what) := (hc4).cell 10; have v11 : _ = some (str r.places) := hr4.cell 1; have HM4 := Lib.hid hm4; have HP4 := Lib.hid hp; clear hm4 hc4 hr4 hp hb4))
              all_goals
                go_wp2_with fail
                go_meet
                exact ⟨_, _, rfl, rfl, HP4.out, HM4.out⟩
            case rest =>
              obtain ⟨tx, b, rfl, rfl, hp, hm⟩ := hcut
              have HM5 := Lib.hid hm
              have HP5 := Lib.hid hp
              clear hm hp
              cases b with
              | false =>
                go_wp2_with fail
                exact ⟨⟨k + 1, by omega, by go_num, HON.out _ _ (by rw [HP5.out]; simpa using HM5.out)⟩, by show r.places.length - ((k : Int) + 1).toNat < r.places.length - (k : Int).toNat; omega⟩
              | true =>
                have hnb := HNB.out
                rw [HP5.out, if_pos rfl] at hnb
                have hnb2 : ([wd] ++ (r.places.take k).flatMap (Sp.putV c)).length + 1 ≤ 100000000 := hnb
                have hszw : w.heap.size ≤ wc.heap.size := HM5.out.below.size
                have ho2 := own_later HM5.out.words ((Below.refl wc.heap.size wc).alloc (Nat.le_refl _) (.cells #[str tx] 9))
                obtain ⟨n0, hn0⟩ : ∃ n0 : Nat, n0 = ([wd] ++ (r.places.take k).flatMap (Sp.putV c)).length := ⟨_, rfl⟩
                rw [← hn0] at ho2 hnb2
                have HO2 := Lib.hid ho2
                have HN0 := Lib.hid hn0
                clear hnb ho2 hn0
                go_wp2_with (at_builtin; refine wpList_append_put rfl (.tmp 47) (.tmp 49) _ rfl w.heap.size 9 i0 _ 1 16 Tryz.underlying33 hi hz0 hz1 hz2 rfl (by decide) u7 n0 _ rfl HO2.out ⟨wc.heap.size, 0, none⟩ 1 1 [str tx] rfl rfl ?_ ?_ ?_ ?_ ?_ ?_ ?_; exact cells_one _ _ _; (intro u hu; simp at hu; subst hu; rfl); decide; (unfold maxLen; omega); omega; (simp; omega); intro g3 cap3 w3 hown3 hg3 hat3; have hm3 := HM5.out.more (ps := [tx]) HN0.out ((Below.refl _ _).alloc (Nat.le_refl _) _) hg3 hown3; have Hm3 := Lib.hid hm3; clear hown3 hg3 hat3 hm3)
                exact ⟨⟨k + 1, by omega, by go_num, HON.out _ _ (by rw [HP5.out, if_pos rfl]; exact Hm3.out)⟩, by show r.places.length - ((k : Int) + 1).toNat < r.places.length - (k : Int).toNat; omega⟩
      · have hkk : r.places.take k = r.places := List.take_of_length_le (by omega)
        have hmid : BytesMid w c (.slice K c.keys.length kc) (.slice D c.data.length dc) (.slice M c.metas.length mc) r w1.heap.size ([wd] ++ r.places.flatMap (Sp.putV c)) u7 wr := by have := HMID.out; rwa [hkk] at this
        have y7 : _ = some (Value.bool c.noreply) := HCMD.out.cell 7
        have HMI := Lib.hid hmid
        clear hkk hmid
        go_upto_if 87 with (fail)
        go_cut [7] (fun ov wx => BytesMid w c (.slice K c.keys.length kc) (.slice D c.data.length dc) (.slice M c.metas.length mc) r w1.heap.size (Sp.partsV r wd c) ov wx)
        case first =>
          have hnb : ([wd] ++ r.places.flatMap (Sp.putV c)).length ≤ 100000000 := by
            have h1 := HP.out
            rw [← HRW.out, ← HWD.out] at h1
            unfold Sp.partsV at h1
            simp at h1 ⊢
            omega
          cases hnr : c.noreply with
          | false =>
            have hfin : BytesMid w c (.slice K c.keys.length kc) (.slice D c.data.length dc) (.slice M c.metas.length mc) r w1.heap.size (Sp.partsV r wd c) u7 wr := by
              have := HMI.out
              unfold Sp.partsV
              rw [hnr]
              simpa using this
            have HFI := Lib.hid hfin
            clear hnr hfin
            go_wp2_with fail
            go_meet
            exact HFI.out
          | true =>
            have hszw : w.heap.size ≤ wr.heap.size := HMI.out.below.size
            have ho2 := own_later HMI.out.words ((Below.refl wr.heap.size wr).alloc (Nat.le_refl _) (.cells #[str Sp.noreplyW] 9))
            obtain ⟨n0, hn0⟩ : ∃ n0 : Nat, n0 = ([wd] ++ r.places.flatMap (Sp.putV c)).length := ⟨_, rfl⟩
            rw [← hn0] at ho2 hnb
            have HO2 := Lib.hid ho2
            have HN0 := Lib.hid hn0
            have HNR := Lib.hid hnr
            clear ho2 hn0 hnr
            go_wp2_with (at_builtin; refine wpList_append_put rfl (.tmp 88) (.tmp 89) _ rfl w.heap.size 9 i0 _ 1 16 Tryz.underlying33 hi hz0 hz1 hz2 rfl (by decide) u7 n0 _ rfl HO2.out ⟨wr.heap.size, 0, none⟩ 1 1 [str Sp.noreplyW] rfl rfl ?_ ?_ ?_ ?_ ?_ ?_ ?_; exact cells_one _ _ _; (intro u hu; simp at hu; subst hu; rfl); decide; (unfold maxLen; omega); omega; (simp; omega); intro g3 cap3 w3 hown3 hg3 hat3; have hm3 := HMI.out.more (ps := [Sp.noreplyW]) HN0.out ((Below.refl _ _).alloc (Nat.le_refl _) _) hg3 hown3; have Hm3 := Lib.hid hm3; clear hown3 hg3 hat3 hm3)
            go_meet
            have := Hm3.out
            unfold Sp.partsV
            rw [HNR.out]
            exact this
        case rest =>
          clear y7 z1 HCMD HROW HMID HMI HST HX1 hltc hltr hlt hk
          obtain ⟨ps, hps⟩ : ∃ ps, ps = Sp.partsV r wd c := ⟨_, rfl⟩
          rw [← hps] at hcut
          obtain ⟨g, cp, rfl, hgc⟩ := own_there hcut.words (by rw [hps]; simp [Sp.partsV])
          have hpn : ps.length ≤ 100000000 := by have := HP.out; rwa [← HRW.out, ← HWD.out, ← hps] at this
          have hout : Sp.outV c = (Lib.join ps [32] ++ [13, 10]) ++ (if r.block then c.data ++ [13, 10] else []) := by
            unfold Sp.outV
            rw [← HRW.out, ← HWD.out, ← hps]
          have hjl : (Lib.join ps [32]).length + 2 ≤ 100000000 := by
            have h := hlen
            rw [hout, List.length_append, List.length_append] at h
            simp at h
            omega
          have hjn := join_any hcut.words hgc hpn (by omega)
          obtain ⟨jn, hjne⟩ : ∃ jn, jn = Lib.join ps [32] := ⟨_, rfl⟩
          rw [← hjne] at hjn hout hjl
          obtain ⟨fx, hfx⟩ : ∃ fx : ByteArray, fx = ⟨(jn ++ [13, 10]).toArray⟩ := ⟨_, rfl⟩
          have hap : (({ data := jn.toArray } : ByteArray) ++ { data := #[13, 10] }) = fx := by
            rw [hfx]
            apply ByteArray.ext
            simp
          have hjs : jn.length + 2 ≤ 100000000 := hjl
          have HMID := Lib.hid hcut
          have HJN := Lib.hid hjn
          have HFX := Lib.hid hfx
          have HOUT := Lib.hid hout
          have HLEN := Lib.hid hlen
          clear hcut hjn hfx hout hjl hps hjne hlen hpl5
          go_wp2_with fail
          refine HJN.out.mono ?_
          rintro e w2 ⟨rfl, hb2⟩
          have hsz2 : w.heap.size ≤ w2.heap.size := Nat.le_trans HMID.out.below.size hb2.size
          have hlt2 : w.heap.size < w2.heap.size := (HMID.out.later hb2).cmd.lt
          obtain ⟨W3, cp2, hcv, hfr, hb3⟩ := convert_free w2 (jn ++ [13, 10]) (base := w.heap.size + 1) (by omega) (by unfold maxLen; simp; omega)
          rw [← HFX.out] at hcv
          have hln : (jn ++ [13, 10] : Sp.Bs).length = jn.length + 2 := by simp
          rw [hln] at hcv hfr
          have hm3 := HMID.out.later (hb2.trans (hb3.mono hb2.size))
          have z5 : _ = some (Value.bool r.block) := hm3.row.cell 5
          have y6 : _ = some (Value.slice D c.data.length dc) := hm3.cmd.cell 6
          have hcm3 := hm3.cmd
          have hbw3 := hm3.below
          have hltw : w.heap.size < W3.heap.size := hcm3.lt
          have hlt3 : w2.heap.size < W3.heap.size := hfr.lt
          have HFR := Lib.hid hfr
          have HCM3 := Lib.hid hcm3
          have HBW3 := Lib.hid hbw3
          clear hm3 hfr hcm3 hbw3 hln hb2 hb3 HMID HJN HFX
          go_upto_if 96 with (fail)
          go_cut [13] (fun v wx => ∃ g cp, v = .slice (some ⟨g, 0, none⟩) (Sp.outV c).length cp ∧ Free wx (w.heap.size + 1) g (Sp.outV c).length cp (Sp.outV c) ∧ Blk wx w.heap.size 38 (cmdArr c (.slice K c.keys.length kc) (.slice D c.data.length dc) (.slice M c.metas.length mc)) ∧ Below w.heap.size w wx)
          case first =>
            cases hbk : r.block with
            | false =>
              rw [hbk] at z5
              have hov : Sp.outV c = jn ++ [13, 10] := by rw [HOUT.out, hbk]; simp
              have HOV := Lib.hid hov
              clear hov hbk
              go_wp2_with fail
              go_meet
              have hf := HFR.out
              have hl2 : jn.length + 2 = (Sp.outV c).length := by rw [HOV.out]; simp
              rw [← HOV.out, hl2] at hf
              exact ⟨_, _, by rw [hl2], hf, HCM3.out, HBW3.out⟩
            | true =>
              rw [hbk] at z5
              have hov : Sp.outV c = (jn ++ [13, 10] ++ c.data) ++ [13, 10] := by rw [HOUT.out, hbk]; simp
              have hdr : RowAt W3 D (bytesV c.data) := HM.out.data.below HBW3.out
              have hdl := HF.out.fit.data
              have HOV := Lib.hid hov
              have HDR := Lib.hid hdr
              clear hov hbk hdr
              go_wp2_with (first | (at_builtin; refine wpList_append_free rfl (.tmp 97) (.tmp 99) 35 rfl rfl HFR.out rfl c.data c.data.length (src_row HDR.out HM.out.nd) rfl ?_ ?_ ?_; omega; omega; intro g4 cp4 w4 hf4 hg4; have hcm4 := HCM3.out.grown hg4 (fun e => by injection e with e; omega); have hbw4 := HBW3.out.grown hg4 HBW3.out.size (fun k hk => by injection hk with hk; omega); have hsz4 : w.heap.size + 1 ≤ w4.heap.size := (by have := hf4.ge; have := hf4.lt; omega); have HF4 := Lib.hid hf4; have HCM4 := Lib.hid hcm4; have HBW4 := Lib.hid hbw4; clear hf4 hg4 hcm4 hbw4) | (at_builtin; refine wpList_append_free rfl (.tmp 100) _ 9 rfl rfl HF4.out rfl [13, 10] 2 (src_text _ [13, 10]) rfl ?_ ?_ ?_; omega; omega; intro g5 cp5 w5 hf5 hg5; have HF5 := Lib.hid hf5; have HG5 := Lib.hid hg5; clear hf5 hg5))
              go_meet
              have hf := HF5.out
              have hl2 : jn.length + 2 + c.data.length + 2 = (Sp.outV c).length := by rw [HOV.out]; simp; omega
              rw [← HOV.out, hl2] at hf
              have hge4 := HF4.out.ge
              exact ⟨_, _, by rw [hl2], hf, HCM4.out.grown HG5.out (fun e => by injection e with e; omega), HBW4.out.grown HG5.out HBW4.out.size (fun k hk => by injection hk with hk; have := HF4.out.ge; omega)⟩
          case rest =>
            obtain ⟨g3, cp3, rfl, hf3, hc3, hb3⟩ := hcut
            clear z5 y6 HFR HCM3 HBW3 hltw hlt3 hlt2 hsz2 hcv
            have y6 : _ = some (Value.slice D c.data.length dc) := hc3.cell 6
            obtain ⟨ts, lp, htl⟩ : ∃ ts lp, Sp.allV c.data.length ((Sp.outV c).length + 1) 0 (Sp.outV c) = (ts, lp) := ⟨_, _, rfl⟩
            have hal := all_any (HG.out.later hb3) (limit := (c.data.length : Int)) hf3.row hf3.room (fun h => by cases h) HLEN.out (by have := HF.out.fit.data; omega)
            rw [Int.toNat_natCast, htl] at hal
            have hshort : ∀ t ∈ ts, ShortStep t := fun t ht => by have := allV_short c.data.length ((Sp.outV c).length + 1) 0 (Sp.outV c) t; rw [htl] at this; exact this ht
            have hag : Sp.againV c = againB c (Sp.outV c).length (ts, lp) := by rw [again_b, htl]
            have hfin0 : ∀ W, Below wc.heap.size wc W → Sp.againV c = true → R (.returned (.tuple #[.slice (some ⟨g3, 0, none⟩) (Sp.outV c).length cp3, .int .i64 0])) W := fun W hb h => HYES.out h _ _ ⟨g3, cp3, rfl, (hf3.later hb).le (Nat.le_succ _), hb3.trans (hb.mono hb3.size)⟩
            have hfin1 : ∀ W, Below wc.heap.size wc W → Sp.againV c = false → R (.returned (.tuple #[nilRow, .int .i64 7])) W := fun W hb h => HNO.out h _ (hb3.trans (hb.mono hb3.size))
            obtain ⟨L, hL⟩ : ∃ L, L = (Sp.outV c).length := ⟨_, rfl⟩
            rw [← hL] at hag hfin0 hal
            have hL8 : L ≤ 100000000 := by rw [hL]; exact HLEN.out
            have HAL := Lib.hid hal
            have HAG := Lib.hid hag
            have HFIN0 := Lib.hid hfin0
            have HFIN1 := Lib.hid hfin1
            have HSH := Lib.hid hshort
            have HC3 := Lib.hid hc3
            have HB3 := Lib.hid hb3
            rw [← hL]
            clear hal hag hfin0 hfin1 hshort htl hf3 hc3 hb3 hL
            go_wp2_with fail
            refine HAL.out.mono ?_
            intro e w4 hpost
            clear y6
            by_cases h1 : ts.length = 1
            · obtain ⟨t, rfl⟩ : ∃ t, ts = [t] := by
                match ts, h1 with
                | [t], _ => exact ⟨t, rfl⟩
              by_cases h0 : lp = 0
              · as_aux_lemma =>
                subst h0
                obtain ⟨gt, c2, kv2, dv2, mv2, rfl, hct, hft, hgt, hb4⟩ := AllPost.one hpost
                unfold stepCells at hft
                obtain ⟨⟨K2, kc2, rfl, -⟩, ⟨D2, dc2, rfl, -⟩, ⟨M2, mc2, rfl, -⟩⟩ := id hct
                have hmc := HC3.out.later hb4
                have p0 : _ = some (Value.int .i64 c.verb) := hmc.cell 0
                have p1 : _ = some (Value.slice K c.keys.length kc) := hmc.cell 1
                have p2 : _ = some (Value.int .u64 c.flags) := hmc.cell 2
                have p3 : _ = some (Value.int .i64 c.exptime) := hmc.cell 3
                have p4 : _ = some (Value.int .u64 c.token) := hmc.cell 4
                have p5 : _ = some (Value.int .u64 c.delta) := hmc.cell 5
                have p6 : _ = some (Value.slice D c.data.length dc) := hmc.cell 6
                have p7 : _ = some (Value.bool c.noreply) := hmc.cell 7
                have p8 : _ = some (Value.bool c.large) := hmc.cell 8
                have p9 : _ = some (Value.slice M c.metas.length mc) := hmc.cell 9
                have p10 : _ = some (str c.what) := hmc.cell 10
                have q0 : w4.cell? ⟨gt, 0, none⟩ = some (Value.int .i64 t.cmd.verb) := hft 0 _ rfl
                have q1 : w4.cell? ⟨gt, 1, none⟩ = some (Value.slice K2 t.cmd.keys.length kc2) := hft 1 _ rfl
                have q2 : w4.cell? ⟨gt, 2, none⟩ = some (Value.int .u64 t.cmd.flags) := hft 2 _ rfl
                have q3 : w4.cell? ⟨gt, 3, none⟩ = some (Value.int .i64 t.cmd.exptime) := hft 3 _ rfl
                have q4 : w4.cell? ⟨gt, 4, none⟩ = some (Value.int .u64 t.cmd.token) := hft 4 _ rfl
                have q5 : w4.cell? ⟨gt, 5, none⟩ = some (Value.int .u64 t.cmd.delta) := hft 5 _ rfl
                have q6 : w4.cell? ⟨gt, 6, none⟩ = some (Value.slice D2 t.cmd.data.length dc2) := hft 6 _ rfl
                have q7 : w4.cell? ⟨gt, 7, none⟩ = some (Value.bool t.cmd.noreply) := hft 7 _ rfl
                have q8 : w4.cell? ⟨gt, 8, none⟩ = some (Value.bool t.cmd.large) := hft 8 _ rfl
                have q9 : w4.cell? ⟨gt, 9, none⟩ = some (Value.slice M2 t.cmd.metas.length mc2) := hft 9 _ rfl
                have q10 : w4.cell? ⟨gt, 10, none⟩ = some (str t.cmd.what) := hft 10 _ rfl
                have q15 : w4.cell? ⟨gt, 15, none⟩ = some (Value.int .i64 t.to) := hft 15 _ rfl
                have hss := HSH.out t (by simp)
                have hkl := HF.out.fit.keys
                have hml := HF.out.fit.metas
                have hsm := fun (W : World) (hb : Below w4.heap.size w4 W) => same_any (w := W) (hct.below hb) ((HM.out.below (HB3.out.trans ((hb4.trans (hb.mono hb4.size)).mono HB3.out.size))).at) (by have := hss.1; omega) (by have := hss.2; omega) (by omega) (by omega) HF.out.fit
                have hag := HAG.out
                replace hag : Sp.againV c = (decide ((0 : Nat) = 0) && decide (t.cmd = c) && decide (t.to = L)) := hag
                rw [decide_eq_true rfl, Bool.true_and] at hag
                generalize decide (t.cmd = c) = bb at hsm hag
                have HSM := Lib.hid hsm
                have HAG2 := Lib.hid hag
                have HB4 := Lib.hid hb4
                have hltw4 : w.heap.size < w4.heap.size := hmc.lt
                clear hpost hct hft hmc hsm hb4 hag HAG hss hkl hml h1
                go_upto_region 26 with (fail)
                by_cases hto : t.to = L
                · have HTO := Lib.hid hto
                  have hq : ((t.to : Int) == (L : Int)) = true := by rw [beq_iff_eq]; omega
                  cases bb with
                  | true =>
                    have ha : Sp.againV c = true := by rw [HAG2.out, decide_eq_true hto]; rfl
                    have HA := Lib.hid ha
                    clear ha hto
                    go_region_held3 (fun w' => w'.cell? ⟨w.heap.size, 0, none⟩ = some (Value.int .i64 c.verb) ∧ w'.cell? ⟨w.heap.size, 1, none⟩ = some (Value.slice K c.keys.length kc) ∧ w'.cell? ⟨w.heap.size, 2, none⟩ = some (Value.int .u64 c.flags) ∧ w'.cell? ⟨w.heap.size, 3, none⟩ = some (Value.int .i64 c.exptime) ∧ w'.cell? ⟨w.heap.size, 4, none⟩ = some (Value.int .u64 c.token) ∧ w'.cell? ⟨w.heap.size, 5, none⟩ = some (Value.int .u64 c.delta) ∧ w'.cell? ⟨w.heap.size, 6, none⟩ = some (Value.slice D c.data.length dc) ∧ w'.cell? ⟨w.heap.size, 7, none⟩ = some (Value.bool c.noreply) ∧ w'.cell? ⟨w.heap.size, 8, none⟩ = some (Value.bool c.large) ∧ w'.cell? ⟨w.heap.size, 9, none⟩ = some (Value.slice M c.metas.length mc) ∧ w'.cell? ⟨w.heap.size, 10, none⟩ = some (str c.what) ∧ w'.cell? ⟨gt, 0, none⟩ = some (Value.int .i64 t.cmd.verb) ∧ w'.cell? ⟨gt, 1, none⟩ = some (Value.slice K2 t.cmd.keys.length kc2) ∧ w'.cell? ⟨gt, 2, none⟩ = some (Value.int .u64 t.cmd.flags) ∧ w'.cell? ⟨gt, 3, none⟩ = some (Value.int .i64 t.cmd.exptime) ∧ w'.cell? ⟨gt, 4, none⟩ = some (Value.int .u64 t.cmd.token) ∧ w'.cell? ⟨gt, 5, none⟩ = some (Value.int .u64 t.cmd.delta) ∧ w'.cell? ⟨gt, 6, none⟩ = some (Value.slice D2 t.cmd.data.length dc2) ∧ w'.cell? ⟨gt, 7, none⟩ = some (Value.bool t.cmd.noreply) ∧ w'.cell? ⟨gt, 8, none⟩ = some (Value.bool t.cmd.large) ∧ w'.cell? ⟨gt, 9, none⟩ = some (Value.slice M2 t.cmd.metas.length mc2) ∧ w'.cell? ⟨gt, 10, none⟩ = some (str t.cmd.what) ∧ w'.cell? ⟨gt, 15, none⟩ = some (Value.int .i64 t.to)) (first | exact ⟨p0, p1, p2, p3, p4, p5, p6, p7, p8, p9, p10, q0, q1, q2, q3, q4, q5, q6, q7, q8, q9, q10, q15⟩ | exact ⟨r0, r1, r2, r3, r4, r5, r6, r7, r8, r9, r10, s0, s1, s2, s3, s4, s5, s6, s7, s8, s9, s10, s15⟩ | go_keep) ((go_at_call 46; refine (HSM.out _ ((Below.refl _ _).drew)).mono ?_; rintro e w5 ⟨rfl, hb5⟩; have r0 := (hb5.cell (p := ⟨w.heap.size, 0, none⟩) hltw4).trans p0; have r1 := (hb5.cell (p := ⟨w.heap.size, 1, none⟩) hltw4).trans p1; have r2 := (hb5.cell (p := ⟨w.heap.size, 2, none⟩) hltw4).trans p2; have r3 := (hb5.cell (p := ⟨w.heap.size, 3, none⟩) hltw4).trans p3; have r4 := (hb5.cell (p := ⟨w.heap.size, 4, none⟩) hltw4).trans p4; have r5 := (hb5.cell (p := ⟨w.heap.size, 5, none⟩) hltw4).trans p5; have r6 := (hb5.cell (p := ⟨w.heap.size, 6, none⟩) hltw4).trans p6; have r7 := (hb5.cell (p := ⟨w.heap.size, 7, none⟩) hltw4).trans p7; have r8 := (hb5.cell (p := ⟨w.heap.size, 8, none⟩) hltw4).trans p8; have r9 := (hb5.cell (p := ⟨w.heap.size, 9, none⟩) hltw4).trans p9; have r10 := (hb5.cell (p := ⟨w.heap.size, 10, none⟩) hltw4).trans p10; have s0 := (hb5.cell (p := ⟨gt, 0, none⟩) hgt).trans q0; have s1 := (hb5.cell (p := ⟨gt, 1, none⟩) hgt).trans q1; have s2 := (hb5.cell (p := ⟨gt, 2, none⟩) hgt).trans q2; have s3 := (hb5.cell (p := ⟨gt, 3, none⟩) hgt).trans q3; have s4 := (hb5.cell (p := ⟨gt, 4, none⟩) hgt).trans q4; have s5 := (hb5.cell (p := ⟨gt, 5, none⟩) hgt).trans q5; have s6 := (hb5.cell (p := ⟨gt, 6, none⟩) hgt).trans q6; have s7 := (hb5.cell (p := ⟨gt, 7, none⟩) hgt).trans q7; have s8 := (hb5.cell (p := ⟨gt, 8, none⟩) hgt).trans q8; have s9 := (hb5.cell (p := ⟨gt, 9, none⟩) hgt).trans q9; have s10 := (hb5.cell (p := ⟨gt, 10, none⟩) hgt).trans q10; have s15 := (hb5.cell (p := ⟨gt, 15, none⟩) hgt).trans q15; have HB5 := Lib.hid hb5; clear hb5))
                    all_goals
                      go_wp2_with fail
                      exact HFIN0.out _ (HB4.out.trans ((((Below.refl _ _).drew).trans HB5.out).mono HB4.out.size)) HA.out
                  | false =>
                    have ha : Sp.againV c = false := by rw [HAG2.out]; rfl
                    have HA := Lib.hid ha
                    clear ha hto
                    refine wp_region_noPanic ?_
                    refine wp_region_held_drew (S := (fun w' => w'.cell? ⟨w.heap.size, 0, none⟩ = some (Value.int .i64 c.verb) ∧ w'.cell? ⟨w.heap.size, 1, none⟩ = some (Value.slice K c.keys.length kc) ∧ w'.cell? ⟨w.heap.size, 2, none⟩ = some (Value.int .u64 c.flags) ∧ w'.cell? ⟨w.heap.size, 3, none⟩ = some (Value.int .i64 c.exptime) ∧ w'.cell? ⟨w.heap.size, 4, none⟩ = some (Value.int .u64 c.token) ∧ w'.cell? ⟨w.heap.size, 5, none⟩ = some (Value.int .u64 c.delta) ∧ w'.cell? ⟨w.heap.size, 6, none⟩ = some (Value.slice D c.data.length dc) ∧ w'.cell? ⟨w.heap.size, 7, none⟩ = some (Value.bool c.noreply) ∧ w'.cell? ⟨w.heap.size, 8, none⟩ = some (Value.bool c.large) ∧ w'.cell? ⟨w.heap.size, 9, none⟩ = some (Value.slice M c.metas.length mc) ∧ w'.cell? ⟨w.heap.size, 10, none⟩ = some (str c.what) ∧ w'.cell? ⟨gt, 0, none⟩ = some (Value.int .i64 t.cmd.verb) ∧ w'.cell? ⟨gt, 1, none⟩ = some (Value.slice K2 t.cmd.keys.length kc2) ∧ w'.cell? ⟨gt, 2, none⟩ = some (Value.int .u64 t.cmd.flags) ∧ w'.cell? ⟨gt, 3, none⟩ = some (Value.int .i64 t.cmd.exptime) ∧ w'.cell? ⟨gt, 4, none⟩ = some (Value.int .u64 t.cmd.token) ∧ w'.cell? ⟨gt, 5, none⟩ = some (Value.int .u64 t.cmd.delta) ∧ w'.cell? ⟨gt, 6, none⟩ = some (Value.slice D2 t.cmd.data.length dc2) ∧ w'.cell? ⟨gt, 7, none⟩ = some (Value.bool t.cmd.noreply) ∧ w'.cell? ⟨gt, 8, none⟩ = some (Value.bool t.cmd.large) ∧ w'.cell? ⟨gt, 9, none⟩ = some (Value.slice M2 t.cmd.metas.length mc2) ∧ w'.cell? ⟨gt, 10, none⟩ = some (str t.cmd.what) ∧ w'.cell? ⟨gt, 15, none⟩ = some (Value.int .i64 t.to))) (by kernel_rfl) (by exact ⟨p0, p1, p2, p3, p4, p5, p6, p7, p8, p9, p10, q0, q1, q2, q3, q4, q5, q6, q7, q8, q9, q10, q15⟩) (fun hHeld => ?_)
                    refine wpAnyH_take (i := 0) (oi := ({ dst := some 110, op := Op.move (Operand.tmp 14), type := 69, pos := "words.go:321", after := #[], guard := none } : Oper)) (v := ?v_1) rfl (by kernel_rfl) (by kernel_rfl) (by kernel_rfl) (fun _ _ _ h => h) (Or.inl ⟨by rfl, ?hy_1⟩) (by assumption) ?rest_1
                    case hy_1 => (intro w hSw; (try dsimp only at hSw); go_simp; try with_reducible rfl)
                    try simp only [Act.put, List.setIfInBounds_toArray, List.set_cons_zero, List.set_cons_succ]
                    refine wpAnyH_take (i := 1) (oi := ({ dst := some 111, op := Op.call { callee := Callee.builtin Builtin.len, args := #[Operand.tmp 110], argTypes := #[69] }, type := 3, pos := "words.go:321", after := #[{ on := 0, ground := Ground.data }], guard := none } : Oper)) (v := ?v_2) rfl (by kernel_rfl) (by kernel_rfl) (by kernel_rfl) (fun _ _ _ h => h) (Or.inl ⟨by rfl, ?hy_2⟩) (by assumption) ?rest_2
                    case hy_2 => (intro w hSw; (try dsimp only at hSw); go_simp; try with_reducible rfl)
                    try simp only [Act.put, List.setIfInBounds_toArray, List.set_cons_zero, List.set_cons_succ]
                    refine wpAnyH_take (i := 2) (oi := ({ dst := some 112, op := Op.binOp BinOp.neq 3 (Operand.tmp 111) (Operand.const (Value.int IntKind.i64 1)) 3, type := 4, pos := "words.go:321", after := #[{ on := 1, ground := Ground.data }], guard := none } : Oper)) (v := ?v_3) rfl (by kernel_rfl) (by kernel_rfl) (by kernel_rfl) (fun _ _ _ h => h) (Or.inl ⟨by rfl, ?hy_3⟩) (by assumption) ?rest_3
                    case hy_3 => (intro w hSw; (try dsimp only at hSw); go_simp; try with_reducible rfl)
                    try simp only [Act.put, List.setIfInBounds_toArray, List.set_cons_zero, List.set_cons_succ]
                    refine wpAnyH_take (i := 3) (oi := ({ dst := some 113, op := Op.move (Operand.tmp 112), type := 4, pos := "words.go:321", after := #[{ on := 2, ground := Ground.data }], guard := none } : Oper)) (v := ?v_4) rfl (by kernel_rfl) (by kernel_rfl) (by kernel_rfl) (fun _ _ _ h => h) (Or.inl ⟨by rfl, ?hy_4⟩) (by assumption) ?rest_4
                    case hy_4 => (intro w hSw; (try dsimp only at hSw); go_simp; try with_reducible rfl)
                    try simp only [Act.put, List.setIfInBounds_toArray, List.set_cons_zero, List.set_cons_succ]
                    refine wpAnyH_take (i := 4) (oi := ({ dst := some 114, op := Op.move (Operand.tmp 15), type := 3, pos := "words.go:321", after := #[{ on := 3, ground := Ground.guard }], guard := some (3, false) } : Oper)) (v := ?v_5) rfl (by kernel_rfl) (by kernel_rfl) (by kernel_rfl) (fun _ _ _ h => h) (Or.inl ⟨by rfl, ?hy_5⟩) (by assumption) ?rest_5
                    case hy_5 => (intro w hSw; (try dsimp only at hSw); go_simp; try with_reducible rfl)
                    try simp only [Act.put, List.setIfInBounds_toArray, List.set_cons_zero, List.set_cons_succ]
                    refine wpAnyH_take (i := 5) (oi := ({ dst := some 115, op := Op.binOp BinOp.neq 3 (Operand.tmp 114) (Operand.const (Value.int IntKind.i64 0)) 3, type := 4, pos := "words.go:321", after := #[{ on := 4, ground := Ground.data }, { on := 3, ground := Ground.guard }], guard := some (3, false) } : Oper)) (v := ?v_6) rfl (by kernel_rfl) (by kernel_rfl) (by kernel_rfl) (fun _ _ _ h => h) (Or.inl ⟨by rfl, ?hy_6⟩) (by assumption) ?rest_6
                    case hy_6 => (intro w hSw; (try dsimp only at hSw); go_simp; try with_reducible rfl)
                    try simp only [Act.put, List.setIfInBounds_toArray, List.set_cons_zero, List.set_cons_succ]
                    refine wpAnyH_take (i := 6) (oi := ({ dst := some 116, op := Op.pick (Operand.tmp 113) (Operand.const (Value.bool true)) (Operand.tmp 115), type := 4, pos := "words.go:321", after := #[{ on := 3, ground := Ground.data }, { on := 5, ground := Ground.data }], guard := none } : Oper)) (v := ?v_7) rfl (by kernel_rfl) (by kernel_rfl) (by kernel_rfl) (fun _ _ _ h => h) (Or.inl ⟨by rfl, ?hy_7⟩) (by assumption) ?rest_7
                    case hy_7 => (intro w hSw; (try dsimp only at hSw); go_simp; try with_reducible rfl)
                    try simp only [Act.put, List.setIfInBounds_toArray, List.set_cons_zero, List.set_cons_succ]
                    refine wpAnyH_take (i := 7) (oi := ({ dst := some 117, op := Op.move (Operand.tmp 116), type := 4, pos := "words.go:321", after := #[{ on := 6, ground := Ground.data }, { on := 3, ground := Ground.chain }], guard := none } : Oper)) (v := ?v_8) rfl (by kernel_rfl) (by kernel_rfl) (by kernel_rfl) (fun _ _ _ h => h) (Or.inl ⟨by rfl, ?hy_8⟩) (by assumption) ?rest_8
                    case hy_8 => (intro w hSw; (try dsimp only at hSw); go_simp; try with_reducible rfl)
                    try simp only [Act.put, List.setIfInBounds_toArray, List.set_cons_zero, List.set_cons_succ]
                    refine wpAnyH_take (i := 8) (oi := ({ dst := some 118, op := Op.move (Operand.tmp 14), type := 69, pos := "words.go:321", after := #[{ on := 7, ground := Ground.guard }], guard := some (7, false) } : Oper)) (v := ?v_9) rfl (by kernel_rfl) (by kernel_rfl) (by kernel_rfl) (fun _ _ _ h => h) (Or.inl ⟨by rfl, ?hy_9⟩) (by assumption) ?rest_9
                    case hy_9 => (intro w hSw; (try dsimp only at hSw); go_simp; try with_reducible rfl)
                    try simp only [Act.put, List.setIfInBounds_toArray, List.set_cons_zero, List.set_cons_succ]
                    refine wpAnyH_take (i := 9) (oi := ({ dst := some 119, op := Op.indexAddr 69 (Operand.tmp 118) (Operand.const (Value.int IntKind.i64 0)), type := 0, pos := "words.go:321", after := #[{ on := 8, ground := Ground.data }, { on := 7, ground := Ground.guard }], guard := some (7, false) } : Oper)) (v := ?v_10) rfl (by kernel_rfl) (by kernel_rfl) (by kernel_rfl) (fun _ _ _ h => h) (Or.inl ⟨by rfl, ?hy_10⟩) (by assumption) ?rest_10
                    case hy_10 => (intro w hSw; (try dsimp only at hSw); go_simp; try with_reducible rfl)
                    try simp only [Act.put, List.setIfInBounds_toArray, List.set_cons_zero, List.set_cons_succ]
                    refine wpAnyH_take (i := 10) (oi := ({ dst := some 120, op := Op.fieldAddr 99 (Operand.tmp 119) 0, type := 0, pos := "words.go:321", after := #[{ on := 9, ground := Ground.data }, { on := 7, ground := Ground.guard }], guard := some (7, false) } : Oper)) (v := ?v_11) rfl (by kernel_rfl) (by kernel_rfl) (by kernel_rfl) (fun _ _ _ h => h) (Or.inl ⟨by rfl, ?hy_11⟩) (by assumption) ?rest_11
                    case hy_11 => (intro w hSw; (try dsimp only at hSw); go_simp; try with_reducible rfl)
                    try simp only [Act.put, List.setIfInBounds_toArray, List.set_cons_zero, List.set_cons_succ]
                    refine wpAnyH_take (i := 11) (oi := ({ dst := some 121, op := Op.load 38 (Operand.tmp 120), type := 38, pos := "words.go:321", after := #[{ on := 10, ground := Ground.data }, { on := 7, ground := Ground.guard }], guard := some (7, false) } : Oper)) (v := ?v_12) rfl (by kernel_rfl) (by kernel_rfl) (by kernel_rfl) (fun _ _ _ h => h) (Or.inl ⟨by rfl, ?hy_12⟩) (by assumption) ?rest_12
                    case hy_12 => (intro w hSw; (try dsimp only at hSw); go_simp; try with_reducible rfl)
                    try simp only [Act.put, List.setIfInBounds_toArray, List.set_cons_zero, List.set_cons_succ]
                    refine wpAnyH_take (i := 12) (oi := ({ dst := some 122, op := Op.load 38 (Operand.tmp 1), type := 38, pos := "words.go:321", after := #[{ on := 7, ground := Ground.guard }], guard := some (7, false) } : Oper)) (v := ?v_13) rfl (by kernel_rfl) (by kernel_rfl) (by kernel_rfl) (fun _ _ _ h => h) (Or.inl ⟨by rfl, ?hy_13⟩) (by assumption) ?rest_13
                    case hy_13 => (intro w hSw; (try dsimp only at hSw); go_simp; try with_reducible rfl)
                    try simp only [Act.put, List.setIfInBounds_toArray, List.set_cons_zero, List.set_cons_succ]
                    refine wpAnyH_ready (rs := [13]) (by kernel_rfl) (by simp) ?_
                    refine AllReadyH.cons (o := ({ dst := some 123, op := Op.call { callee := Callee.value (Operand.func 46), args := #[Operand.tmp 121, Operand.tmp 122], argTypes := #[38, 38] }, type := 4, pos := "words.go:321", after := #[{ on := 11, ground := Ground.data }, { on := 12, ground := Ground.data }, { on := 7, ground := Ground.chain }, { on := 7, ground := Ground.guard }], guard := some (7, false) } : Oper)) rfl (fun K' hK' => ?_) AllReadyH.nil
                    go_simp
                    go_at_call 46
                    refine (HSM.out _ ((Below.refl _ _).drew)).mono ?_
                    rintro e w5 ⟨rfl, hb5⟩
                    have r0 := (hb5.cell (p := ⟨w.heap.size, 0, none⟩) hltw4).trans p0
                    have r1 := (hb5.cell (p := ⟨w.heap.size, 1, none⟩) hltw4).trans p1
                    have r2 := (hb5.cell (p := ⟨w.heap.size, 2, none⟩) hltw4).trans p2
                    have r3 := (hb5.cell (p := ⟨w.heap.size, 3, none⟩) hltw4).trans p3
                    have r4 := (hb5.cell (p := ⟨w.heap.size, 4, none⟩) hltw4).trans p4
                    have r5 := (hb5.cell (p := ⟨w.heap.size, 5, none⟩) hltw4).trans p5
                    have r6 := (hb5.cell (p := ⟨w.heap.size, 6, none⟩) hltw4).trans p6
                    have r7 := (hb5.cell (p := ⟨w.heap.size, 7, none⟩) hltw4).trans p7
                    have r8 := (hb5.cell (p := ⟨w.heap.size, 8, none⟩) hltw4).trans p8
                    have r9 := (hb5.cell (p := ⟨w.heap.size, 9, none⟩) hltw4).trans p9
                    have r10 := (hb5.cell (p := ⟨w.heap.size, 10, none⟩) hltw4).trans p10
                    have s0 := (hb5.cell (p := ⟨gt, 0, none⟩) hgt).trans q0
                    have s1 := (hb5.cell (p := ⟨gt, 1, none⟩) hgt).trans q1
                    have s2 := (hb5.cell (p := ⟨gt, 2, none⟩) hgt).trans q2
                    have s3 := (hb5.cell (p := ⟨gt, 3, none⟩) hgt).trans q3
                    have s4 := (hb5.cell (p := ⟨gt, 4, none⟩) hgt).trans q4
                    have s5 := (hb5.cell (p := ⟨gt, 5, none⟩) hgt).trans q5
                    have s6 := (hb5.cell (p := ⟨gt, 6, none⟩) hgt).trans q6
                    have s7 := (hb5.cell (p := ⟨gt, 7, none⟩) hgt).trans q7
                    have s8 := (hb5.cell (p := ⟨gt, 8, none⟩) hgt).trans q8
                    have s9 := (hb5.cell (p := ⟨gt, 9, none⟩) hgt).trans q9
                    have s10 := (hb5.cell (p := ⟨gt, 10, none⟩) hgt).trans q10
                    have s15 := (hb5.cell (p := ⟨gt, 15, none⟩) hgt).trans q15
                    have HB5 := Lib.hid hb5
                    clear hb5
                    refine hK'.out _ _ (by exact ⟨r0, r1, r2, r3, r4, r5, r6, r7, r8, r9, r10, s0, s1, s2, s3, s4, s5, s6, s7, s8, s9, s10, s15⟩) (fun hHeld2 => ?_)
                    clear hK' K' hHeld
                    try simp only [Act.put, List.setIfInBounds_toArray, List.set_cons_zero, List.set_cons_succ]
                    refine wpAnyH_take (i := 14) (oi := ({ dst := some 124, op := Op.unOp UnOp.not 4 (Operand.tmp 123), type := 4, pos := "words.go:321", after := #[{ on := 13, ground := Ground.data }, { on := 7, ground := Ground.guard }], guard := some (7, false) } : Oper)) (v := ?v_14) rfl (by kernel_rfl) (by kernel_rfl) (by kernel_rfl) (fun _ _ _ h => h) (Or.inl ⟨by rfl, ?hy_14⟩) (by assumption) ?rest_14
                    case hy_14 => (intro w hSw; (try dsimp only at hSw); go_simp; try with_reducible rfl)
                    try simp only [Act.put, List.setIfInBounds_toArray, List.set_cons_zero, List.set_cons_succ]
                    refine wpAnyH_take (i := 15) (oi := ({ dst := some 125, op := Op.pick (Operand.tmp 117) (Operand.const (Value.bool true)) (Operand.tmp 124), type := 4, pos := "words.go:321", after := #[{ on := 7, ground := Ground.data }, { on := 14, ground := Ground.data }], guard := none } : Oper)) (v := ?v_15) rfl (by kernel_rfl) (by kernel_rfl) (by kernel_rfl) (fun _ _ _ h => h) (Or.inl ⟨by rfl, ?hy_15⟩) (by assumption) ?rest_15
                    case hy_15 => (intro w hSw; (try dsimp only at hSw); go_simp; try with_reducible rfl)
                    try simp only [Act.put, List.setIfInBounds_toArray, List.set_cons_zero, List.set_cons_succ]
                    refine wpAnyH_take (i := 16) (oi := ({ dst := some 126, op := Op.move (Operand.tmp 125), type := 4, pos := "words.go:321", after := #[{ on := 15, ground := Ground.data }, { on := 13, ground := Ground.chain }], guard := none } : Oper)) (v := ?v_16) rfl (by kernel_rfl) (by kernel_rfl) (by kernel_rfl) (fun _ _ _ h => h) (Or.inl ⟨by rfl, ?hy_16⟩) (by assumption) ?rest_16
                    case hy_16 => (intro w hSw; (try dsimp only at hSw); go_simp; try with_reducible rfl)
                    try simp only [Act.put, List.setIfInBounds_toArray, List.set_cons_zero, List.set_cons_succ]
                    refine wpAnyH_take (i := 17) (oi := ({ dst := some 127, op := Op.move (Operand.tmp 14), type := 69, pos := "words.go:321", after := #[{ on := 16, ground := Ground.guard }], guard := some (16, false) } : Oper)) (v := undef) rfl (by kernel_rfl) (by kernel_rfl) (by kernel_rfl) (fun _ _ _ h => h) (Or.inr ⟨by rfl, rfl⟩) (by assumption) ?_
                    try simp only [Act.put, List.setIfInBounds_toArray, List.set_cons_zero, List.set_cons_succ]
                    refine wpAnyH_take (i := 18) (oi := ({ dst := some 128, op := Op.indexAddr 69 (Operand.tmp 127) (Operand.const (Value.int IntKind.i64 0)), type := 0, pos := "words.go:321", after := #[{ on := 17, ground := Ground.data }, { on := 16, ground := Ground.guard }], guard := some (16, false) } : Oper)) (v := undef) rfl (by kernel_rfl) (by kernel_rfl) (by kernel_rfl) (fun _ _ _ h => h) (Or.inr ⟨by rfl, rfl⟩) (by assumption) ?_
                    try simp only [Act.put, List.setIfInBounds_toArray, List.set_cons_zero, List.set_cons_succ]
                    refine wpAnyH_take (i := 19) (oi := ({ dst := some 129, op := Op.fieldAddr 99 (Operand.tmp 128) 3, type := 0, pos := "words.go:321", after := #[{ on := 18, ground := Ground.data }, { on := 16, ground := Ground.guard }], guard := some (16, false) } : Oper)) (v := undef) rfl (by kernel_rfl) (by kernel_rfl) (by kernel_rfl) (fun _ _ _ h => h) (Or.inr ⟨by rfl, rfl⟩) (by assumption) ?_
                    try simp only [Act.put, List.setIfInBounds_toArray, List.set_cons_zero, List.set_cons_succ]
                    refine wpAnyH_take (i := 20) (oi := ({ dst := some 130, op := Op.load 3 (Operand.tmp 129), type := 3, pos := "words.go:321", after := #[{ on := 19, ground := Ground.data }, { on := 16, ground := Ground.guard }], guard := some (16, false) } : Oper)) (v := undef) rfl (by kernel_rfl) (by kernel_rfl) (by kernel_rfl) (fun _ _ _ h => h) (Or.inr ⟨by rfl, rfl⟩) (by assumption) ?_
                    try simp only [Act.put, List.setIfInBounds_toArray, List.set_cons_zero, List.set_cons_succ]
                    refine wpAnyH_take (i := 21) (oi := ({ dst := some 131, op := Op.move (Operand.tmp 13), type := 35, pos := "words.go:321", after := #[{ on := 16, ground := Ground.guard }], guard := some (16, false) } : Oper)) (v := undef) rfl (by kernel_rfl) (by kernel_rfl) (by kernel_rfl) (fun _ _ _ h => h) (Or.inr ⟨by rfl, rfl⟩) (by assumption) ?_
                    try simp only [Act.put, List.setIfInBounds_toArray, List.set_cons_zero, List.set_cons_succ]
                    refine wpAnyH_take (i := 22) (oi := ({ dst := some 132, op := Op.call { callee := Callee.builtin Builtin.len, args := #[Operand.tmp 131], argTypes := #[35] }, type := 3, pos := "words.go:321", after := #[{ on := 21, ground := Ground.data }, { on := 16, ground := Ground.guard }], guard := some (16, false) } : Oper)) (v := undef) rfl (by kernel_rfl) (by kernel_rfl) (by kernel_rfl) (fun _ _ _ h => h) (Or.inr ⟨by rfl, rfl⟩) (by assumption) ?_
                    try simp only [Act.put, List.setIfInBounds_toArray, List.set_cons_zero, List.set_cons_succ]
                    refine wpAnyH_take (i := 23) (oi := ({ dst := some 133, op := Op.binOp BinOp.neq 3 (Operand.tmp 130) (Operand.tmp 132) 3, type := 4, pos := "words.go:321", after := #[{ on := 20, ground := Ground.data }, { on := 22, ground := Ground.data }, { on := 16, ground := Ground.guard }], guard := some (16, false) } : Oper)) (v := undef) rfl (by kernel_rfl) (by kernel_rfl) (by kernel_rfl) (fun _ _ _ h => h) (Or.inr ⟨by rfl, rfl⟩) (by assumption) ?_
                    try simp only [Act.put, List.setIfInBounds_toArray, List.set_cons_zero, List.set_cons_succ]
                    refine wpAnyH_take (i := 24) (oi := ({ dst := some 134, op := Op.pick (Operand.tmp 126) (Operand.const (Value.bool true)) (Operand.tmp 133), type := 4, pos := "words.go:321", after := #[{ on := 16, ground := Ground.data }, { on := 23, ground := Ground.data }], guard := none } : Oper)) (v := ?v_17) rfl (by kernel_rfl) (by kernel_rfl) (by kernel_rfl) (fun _ _ _ h => h) (Or.inl ⟨by rfl, ?hy_17⟩) (by assumption) ?rest_17
                    case hy_17 => (intro w hSw; (try dsimp only at hSw); go_simp; try with_reducible rfl)
                    try simp only [Act.put, List.setIfInBounds_toArray, List.set_cons_zero, List.set_cons_succ]
                    refine wpAnyH_done (by kernel_rfl) ?_ _
                    refine NoPanic.normal ?_
                    all_goals
                      go_wp2_with fail
                      exact HFIN1.out _ (HB4.out.trans ((((Below.refl _ _).drew).trans HB5.out).mono HB4.out.size)) HA.out
                · have hq : ((t.to : Int) == (L : Int)) = false := by rw [beq_eq_false_iff_ne]; omega
                  have ha : Sp.againV c = false := by rw [HAG2.out, decide_eq_false hto, Bool.and_false]
                  have HA := Lib.hid ha
                  clear ha hto
                  cases bb with
                  | true =>
                    go_region_held3 (fun w' => w'.cell? ⟨w.heap.size, 0, none⟩ = some (Value.int .i64 c.verb) ∧ w'.cell? ⟨w.heap.size, 1, none⟩ = some (Value.slice K c.keys.length kc) ∧ w'.cell? ⟨w.heap.size, 2, none⟩ = some (Value.int .u64 c.flags) ∧ w'.cell? ⟨w.heap.size, 3, none⟩ = some (Value.int .i64 c.exptime) ∧ w'.cell? ⟨w.heap.size, 4, none⟩ = some (Value.int .u64 c.token) ∧ w'.cell? ⟨w.heap.size, 5, none⟩ = some (Value.int .u64 c.delta) ∧ w'.cell? ⟨w.heap.size, 6, none⟩ = some (Value.slice D c.data.length dc) ∧ w'.cell? ⟨w.heap.size, 7, none⟩ = some (Value.bool c.noreply) ∧ w'.cell? ⟨w.heap.size, 8, none⟩ = some (Value.bool c.large) ∧ w'.cell? ⟨w.heap.size, 9, none⟩ = some (Value.slice M c.metas.length mc) ∧ w'.cell? ⟨w.heap.size, 10, none⟩ = some (str c.what) ∧ w'.cell? ⟨gt, 0, none⟩ = some (Value.int .i64 t.cmd.verb) ∧ w'.cell? ⟨gt, 1, none⟩ = some (Value.slice K2 t.cmd.keys.length kc2) ∧ w'.cell? ⟨gt, 2, none⟩ = some (Value.int .u64 t.cmd.flags) ∧ w'.cell? ⟨gt, 3, none⟩ = some (Value.int .i64 t.cmd.exptime) ∧ w'.cell? ⟨gt, 4, none⟩ = some (Value.int .u64 t.cmd.token) ∧ w'.cell? ⟨gt, 5, none⟩ = some (Value.int .u64 t.cmd.delta) ∧ w'.cell? ⟨gt, 6, none⟩ = some (Value.slice D2 t.cmd.data.length dc2) ∧ w'.cell? ⟨gt, 7, none⟩ = some (Value.bool t.cmd.noreply) ∧ w'.cell? ⟨gt, 8, none⟩ = some (Value.bool t.cmd.large) ∧ w'.cell? ⟨gt, 9, none⟩ = some (Value.slice M2 t.cmd.metas.length mc2) ∧ w'.cell? ⟨gt, 10, none⟩ = some (str t.cmd.what) ∧ w'.cell? ⟨gt, 15, none⟩ = some (Value.int .i64 t.to)) (first | exact ⟨p0, p1, p2, p3, p4, p5, p6, p7, p8, p9, p10, q0, q1, q2, q3, q4, q5, q6, q7, q8, q9, q10, q15⟩ | exact ⟨r0, r1, r2, r3, r4, r5, r6, r7, r8, r9, r10, s0, s1, s2, s3, s4, s5, s6, s7, s8, s9, s10, s15⟩ | go_keep) ((go_at_call 46; refine (HSM.out _ ((Below.refl _ _).drew)).mono ?_; rintro e w5 ⟨rfl, hb5⟩; have r0 := (hb5.cell (p := ⟨w.heap.size, 0, none⟩) hltw4).trans p0; have r1 := (hb5.cell (p := ⟨w.heap.size, 1, none⟩) hltw4).trans p1; have r2 := (hb5.cell (p := ⟨w.heap.size, 2, none⟩) hltw4).trans p2; have r3 := (hb5.cell (p := ⟨w.heap.size, 3, none⟩) hltw4).trans p3; have r4 := (hb5.cell (p := ⟨w.heap.size, 4, none⟩) hltw4).trans p4; have r5 := (hb5.cell (p := ⟨w.heap.size, 5, none⟩) hltw4).trans p5; have r6 := (hb5.cell (p := ⟨w.heap.size, 6, none⟩) hltw4).trans p6; have r7 := (hb5.cell (p := ⟨w.heap.size, 7, none⟩) hltw4).trans p7; have r8 := (hb5.cell (p := ⟨w.heap.size, 8, none⟩) hltw4).trans p8; have r9 := (hb5.cell (p := ⟨w.heap.size, 9, none⟩) hltw4).trans p9; have r10 := (hb5.cell (p := ⟨w.heap.size, 10, none⟩) hltw4).trans p10; have s0 := (hb5.cell (p := ⟨gt, 0, none⟩) hgt).trans q0; have s1 := (hb5.cell (p := ⟨gt, 1, none⟩) hgt).trans q1; have s2 := (hb5.cell (p := ⟨gt, 2, none⟩) hgt).trans q2; have s3 := (hb5.cell (p := ⟨gt, 3, none⟩) hgt).trans q3; have s4 := (hb5.cell (p := ⟨gt, 4, none⟩) hgt).trans q4; have s5 := (hb5.cell (p := ⟨gt, 5, none⟩) hgt).trans q5; have s6 := (hb5.cell (p := ⟨gt, 6, none⟩) hgt).trans q6; have s7 := (hb5.cell (p := ⟨gt, 7, none⟩) hgt).trans q7; have s8 := (hb5.cell (p := ⟨gt, 8, none⟩) hgt).trans q8; have s9 := (hb5.cell (p := ⟨gt, 9, none⟩) hgt).trans q9; have s10 := (hb5.cell (p := ⟨gt, 10, none⟩) hgt).trans q10; have s15 := (hb5.cell (p := ⟨gt, 15, none⟩) hgt).trans q15; have HB5 := Lib.hid hb5; clear hb5))
                    all_goals
                      go_wp2_with fail
                      exact HFIN1.out _ (HB4.out.trans ((((Below.refl _ _).drew).trans HB5.out).mono HB4.out.size)) HA.out
                  | false =>
                    refine wp_region_noPanic ?_
                    refine wp_region_held_drew (S := (fun w' => w'.cell? ⟨w.heap.size, 0, none⟩ = some (Value.int .i64 c.verb) ∧ w'.cell? ⟨w.heap.size, 1, none⟩ = some (Value.slice K c.keys.length kc) ∧ w'.cell? ⟨w.heap.size, 2, none⟩ = some (Value.int .u64 c.flags) ∧ w'.cell? ⟨w.heap.size, 3, none⟩ = some (Value.int .i64 c.exptime) ∧ w'.cell? ⟨w.heap.size, 4, none⟩ = some (Value.int .u64 c.token) ∧ w'.cell? ⟨w.heap.size, 5, none⟩ = some (Value.int .u64 c.delta) ∧ w'.cell? ⟨w.heap.size, 6, none⟩ = some (Value.slice D c.data.length dc) ∧ w'.cell? ⟨w.heap.size, 7, none⟩ = some (Value.bool c.noreply) ∧ w'.cell? ⟨w.heap.size, 8, none⟩ = some (Value.bool c.large) ∧ w'.cell? ⟨w.heap.size, 9, none⟩ = some (Value.slice M c.metas.length mc) ∧ w'.cell? ⟨w.heap.size, 10, none⟩ = some (str c.what) ∧ w'.cell? ⟨gt, 0, none⟩ = some (Value.int .i64 t.cmd.verb) ∧ w'.cell? ⟨gt, 1, none⟩ = some (Value.slice K2 t.cmd.keys.length kc2) ∧ w'.cell? ⟨gt, 2, none⟩ = some (Value.int .u64 t.cmd.flags) ∧ w'.cell? ⟨gt, 3, none⟩ = some (Value.int .i64 t.cmd.exptime) ∧ w'.cell? ⟨gt, 4, none⟩ = some (Value.int .u64 t.cmd.token) ∧ w'.cell? ⟨gt, 5, none⟩ = some (Value.int .u64 t.cmd.delta) ∧ w'.cell? ⟨gt, 6, none⟩ = some (Value.slice D2 t.cmd.data.length dc2) ∧ w'.cell? ⟨gt, 7, none⟩ = some (Value.bool t.cmd.noreply) ∧ w'.cell? ⟨gt, 8, none⟩ = some (Value.bool t.cmd.large) ∧ w'.cell? ⟨gt, 9, none⟩ = some (Value.slice M2 t.cmd.metas.length mc2) ∧ w'.cell? ⟨gt, 10, none⟩ = some (str t.cmd.what) ∧ w'.cell? ⟨gt, 15, none⟩ = some (Value.int .i64 t.to))) (by kernel_rfl) (by exact ⟨p0, p1, p2, p3, p4, p5, p6, p7, p8, p9, p10, q0, q1, q2, q3, q4, q5, q6, q7, q8, q9, q10, q15⟩) (fun hHeld => ?_)
                    refine wpAnyH_take (i := 0) (oi := ({ dst := some 110, op := Op.move (Operand.tmp 14), type := 69, pos := "words.go:321", after := #[], guard := none } : Oper)) (v := ?v_18) rfl (by kernel_rfl) (by kernel_rfl) (by kernel_rfl) (fun _ _ _ h => h) (Or.inl ⟨by rfl, ?hy_18⟩) (by assumption) ?rest_18
                    case hy_18 => (intro w hSw; (try dsimp only at hSw); go_simp; try with_reducible rfl)
                    try simp only [Act.put, List.setIfInBounds_toArray, List.set_cons_zero, List.set_cons_succ]
                    refine wpAnyH_take (i := 1) (oi := ({ dst := some 111, op := Op.call { callee := Callee.builtin Builtin.len, args := #[Operand.tmp 110], argTypes := #[69] }, type := 3, pos := "words.go:321", after := #[{ on := 0, ground := Ground.data }], guard := none } : Oper)) (v := ?v_19) rfl (by kernel_rfl) (by kernel_rfl) (by kernel_rfl) (fun _ _ _ h => h) (Or.inl ⟨by rfl, ?hy_19⟩) (by assumption) ?rest_19
                    case hy_19 => (intro w hSw; (try dsimp only at hSw); go_simp; try with_reducible rfl)
                    try simp only [Act.put, List.setIfInBounds_toArray, List.set_cons_zero, List.set_cons_succ]
                    refine wpAnyH_take (i := 2) (oi := ({ dst := some 112, op := Op.binOp BinOp.neq 3 (Operand.tmp 111) (Operand.const (Value.int IntKind.i64 1)) 3, type := 4, pos := "words.go:321", after := #[{ on := 1, ground := Ground.data }], guard := none } : Oper)) (v := ?v_20) rfl (by kernel_rfl) (by kernel_rfl) (by kernel_rfl) (fun _ _ _ h => h) (Or.inl ⟨by rfl, ?hy_20⟩) (by assumption) ?rest_20
                    case hy_20 => (intro w hSw; (try dsimp only at hSw); go_simp; try with_reducible rfl)
                    try simp only [Act.put, List.setIfInBounds_toArray, List.set_cons_zero, List.set_cons_succ]
                    refine wpAnyH_take (i := 3) (oi := ({ dst := some 113, op := Op.move (Operand.tmp 112), type := 4, pos := "words.go:321", after := #[{ on := 2, ground := Ground.data }], guard := none } : Oper)) (v := ?v_21) rfl (by kernel_rfl) (by kernel_rfl) (by kernel_rfl) (fun _ _ _ h => h) (Or.inl ⟨by rfl, ?hy_21⟩) (by assumption) ?rest_21
                    case hy_21 => (intro w hSw; (try dsimp only at hSw); go_simp; try with_reducible rfl)
                    try simp only [Act.put, List.setIfInBounds_toArray, List.set_cons_zero, List.set_cons_succ]
                    refine wpAnyH_take (i := 4) (oi := ({ dst := some 114, op := Op.move (Operand.tmp 15), type := 3, pos := "words.go:321", after := #[{ on := 3, ground := Ground.guard }], guard := some (3, false) } : Oper)) (v := ?v_22) rfl (by kernel_rfl) (by kernel_rfl) (by kernel_rfl) (fun _ _ _ h => h) (Or.inl ⟨by rfl, ?hy_22⟩) (by assumption) ?rest_22
                    case hy_22 => (intro w hSw; (try dsimp only at hSw); go_simp; try with_reducible rfl)
                    try simp only [Act.put, List.setIfInBounds_toArray, List.set_cons_zero, List.set_cons_succ]
                    refine wpAnyH_take (i := 5) (oi := ({ dst := some 115, op := Op.binOp BinOp.neq 3 (Operand.tmp 114) (Operand.const (Value.int IntKind.i64 0)) 3, type := 4, pos := "words.go:321", after := #[{ on := 4, ground := Ground.data }, { on := 3, ground := Ground.guard }], guard := some (3, false) } : Oper)) (v := ?v_23) rfl (by kernel_rfl) (by kernel_rfl) (by kernel_rfl) (fun _ _ _ h => h) (Or.inl ⟨by rfl, ?hy_23⟩) (by assumption) ?rest_23
                    case hy_23 => (intro w hSw; (try dsimp only at hSw); go_simp; try with_reducible rfl)
                    try simp only [Act.put, List.setIfInBounds_toArray, List.set_cons_zero, List.set_cons_succ]
                    refine wpAnyH_take (i := 6) (oi := ({ dst := some 116, op := Op.pick (Operand.tmp 113) (Operand.const (Value.bool true)) (Operand.tmp 115), type := 4, pos := "words.go:321", after := #[{ on := 3, ground := Ground.data }, { on := 5, ground := Ground.data }], guard := none } : Oper)) (v := ?v_24) rfl (by kernel_rfl) (by kernel_rfl) (by kernel_rfl) (fun _ _ _ h => h) (Or.inl ⟨by rfl, ?hy_24⟩) (by assumption) ?rest_24
                    case hy_24 => (intro w hSw; (try dsimp only at hSw); go_simp; try with_reducible rfl)
                    try simp only [Act.put, List.setIfInBounds_toArray, List.set_cons_zero, List.set_cons_succ]
                    refine wpAnyH_take (i := 7) (oi := ({ dst := some 117, op := Op.move (Operand.tmp 116), type := 4, pos := "words.go:321", after := #[{ on := 6, ground := Ground.data }, { on := 3, ground := Ground.chain }], guard := none } : Oper)) (v := ?v_25) rfl (by kernel_rfl) (by kernel_rfl) (by kernel_rfl) (fun _ _ _ h => h) (Or.inl ⟨by rfl, ?hy_25⟩) (by assumption) ?rest_25
                    case hy_25 => (intro w hSw; (try dsimp only at hSw); go_simp; try with_reducible rfl)
                    try simp only [Act.put, List.setIfInBounds_toArray, List.set_cons_zero, List.set_cons_succ]
                    refine wpAnyH_take (i := 8) (oi := ({ dst := some 118, op := Op.move (Operand.tmp 14), type := 69, pos := "words.go:321", after := #[{ on := 7, ground := Ground.guard }], guard := some (7, false) } : Oper)) (v := ?v_26) rfl (by kernel_rfl) (by kernel_rfl) (by kernel_rfl) (fun _ _ _ h => h) (Or.inl ⟨by rfl, ?hy_26⟩) (by assumption) ?rest_26
                    case hy_26 => (intro w hSw; (try dsimp only at hSw); go_simp; try with_reducible rfl)
                    try simp only [Act.put, List.setIfInBounds_toArray, List.set_cons_zero, List.set_cons_succ]
                    refine wpAnyH_take (i := 9) (oi := ({ dst := some 119, op := Op.indexAddr 69 (Operand.tmp 118) (Operand.const (Value.int IntKind.i64 0)), type := 0, pos := "words.go:321", after := #[{ on := 8, ground := Ground.data }, { on := 7, ground := Ground.guard }], guard := some (7, false) } : Oper)) (v := ?v_27) rfl (by kernel_rfl) (by kernel_rfl) (by kernel_rfl) (fun _ _ _ h => h) (Or.inl ⟨by rfl, ?hy_27⟩) (by assumption) ?rest_27
                    case hy_27 => (intro w hSw; (try dsimp only at hSw); go_simp; try with_reducible rfl)
                    try simp only [Act.put, List.setIfInBounds_toArray, List.set_cons_zero, List.set_cons_succ]
                    refine wpAnyH_take (i := 10) (oi := ({ dst := some 120, op := Op.fieldAddr 99 (Operand.tmp 119) 0, type := 0, pos := "words.go:321", after := #[{ on := 9, ground := Ground.data }, { on := 7, ground := Ground.guard }], guard := some (7, false) } : Oper)) (v := ?v_28) rfl (by kernel_rfl) (by kernel_rfl) (by kernel_rfl) (fun _ _ _ h => h) (Or.inl ⟨by rfl, ?hy_28⟩) (by assumption) ?rest_28
                    case hy_28 => (intro w hSw; (try dsimp only at hSw); go_simp; try with_reducible rfl)
                    try simp only [Act.put, List.setIfInBounds_toArray, List.set_cons_zero, List.set_cons_succ]
                    refine wpAnyH_take (i := 11) (oi := ({ dst := some 121, op := Op.load 38 (Operand.tmp 120), type := 38, pos := "words.go:321", after := #[{ on := 10, ground := Ground.data }, { on := 7, ground := Ground.guard }], guard := some (7, false) } : Oper)) (v := ?v_29) rfl (by kernel_rfl) (by kernel_rfl) (by kernel_rfl) (fun _ _ _ h => h) (Or.inl ⟨by rfl, ?hy_29⟩) (by assumption) ?rest_29
                    case hy_29 => (intro w hSw; (try dsimp only at hSw); go_simp; try with_reducible rfl)
                    try simp only [Act.put, List.setIfInBounds_toArray, List.set_cons_zero, List.set_cons_succ]
                    refine wpAnyH_take (i := 12) (oi := ({ dst := some 122, op := Op.load 38 (Operand.tmp 1), type := 38, pos := "words.go:321", after := #[{ on := 7, ground := Ground.guard }], guard := some (7, false) } : Oper)) (v := ?v_30) rfl (by kernel_rfl) (by kernel_rfl) (by kernel_rfl) (fun _ _ _ h => h) (Or.inl ⟨by rfl, ?hy_30⟩) (by assumption) ?rest_30
                    case hy_30 => (intro w hSw; (try dsimp only at hSw); go_simp; try with_reducible rfl)
                    try simp only [Act.put, List.setIfInBounds_toArray, List.set_cons_zero, List.set_cons_succ]
                    refine wpAnyH_ready (rs := [13]) (by kernel_rfl) (by simp) ?_
                    refine AllReadyH.cons (o := ({ dst := some 123, op := Op.call { callee := Callee.value (Operand.func 46), args := #[Operand.tmp 121, Operand.tmp 122], argTypes := #[38, 38] }, type := 4, pos := "words.go:321", after := #[{ on := 11, ground := Ground.data }, { on := 12, ground := Ground.data }, { on := 7, ground := Ground.chain }, { on := 7, ground := Ground.guard }], guard := some (7, false) } : Oper)) rfl (fun K' hK' => ?_) AllReadyH.nil
                    go_simp
                    go_at_call 46
                    refine (HSM.out _ ((Below.refl _ _).drew)).mono ?_
                    rintro e w5 ⟨rfl, hb5⟩
                    have r0 := (hb5.cell (p := ⟨w.heap.size, 0, none⟩) hltw4).trans p0
                    have r1 := (hb5.cell (p := ⟨w.heap.size, 1, none⟩) hltw4).trans p1
                    have r2 := (hb5.cell (p := ⟨w.heap.size, 2, none⟩) hltw4).trans p2
                    have r3 := (hb5.cell (p := ⟨w.heap.size, 3, none⟩) hltw4).trans p3
                    have r4 := (hb5.cell (p := ⟨w.heap.size, 4, none⟩) hltw4).trans p4
                    have r5 := (hb5.cell (p := ⟨w.heap.size, 5, none⟩) hltw4).trans p5
                    have r6 := (hb5.cell (p := ⟨w.heap.size, 6, none⟩) hltw4).trans p6
                    have r7 := (hb5.cell (p := ⟨w.heap.size, 7, none⟩) hltw4).trans p7
                    have r8 := (hb5.cell (p := ⟨w.heap.size, 8, none⟩) hltw4).trans p8
                    have r9 := (hb5.cell (p := ⟨w.heap.size, 9, none⟩) hltw4).trans p9
                    have r10 := (hb5.cell (p := ⟨w.heap.size, 10, none⟩) hltw4).trans p10
                    have s0 := (hb5.cell (p := ⟨gt, 0, none⟩) hgt).trans q0
                    have s1 := (hb5.cell (p := ⟨gt, 1, none⟩) hgt).trans q1
                    have s2 := (hb5.cell (p := ⟨gt, 2, none⟩) hgt).trans q2
                    have s3 := (hb5.cell (p := ⟨gt, 3, none⟩) hgt).trans q3
                    have s4 := (hb5.cell (p := ⟨gt, 4, none⟩) hgt).trans q4
                    have s5 := (hb5.cell (p := ⟨gt, 5, none⟩) hgt).trans q5
                    have s6 := (hb5.cell (p := ⟨gt, 6, none⟩) hgt).trans q6
                    have s7 := (hb5.cell (p := ⟨gt, 7, none⟩) hgt).trans q7
                    have s8 := (hb5.cell (p := ⟨gt, 8, none⟩) hgt).trans q8
                    have s9 := (hb5.cell (p := ⟨gt, 9, none⟩) hgt).trans q9
                    have s10 := (hb5.cell (p := ⟨gt, 10, none⟩) hgt).trans q10
                    have s15 := (hb5.cell (p := ⟨gt, 15, none⟩) hgt).trans q15
                    have HB5 := Lib.hid hb5
                    clear hb5
                    refine hK'.out _ _ (by exact ⟨r0, r1, r2, r3, r4, r5, r6, r7, r8, r9, r10, s0, s1, s2, s3, s4, s5, s6, s7, s8, s9, s10, s15⟩) (fun hHeld2 => ?_)
                    clear hK' K' hHeld
                    try simp only [Act.put, List.setIfInBounds_toArray, List.set_cons_zero, List.set_cons_succ]
                    refine wpAnyH_take (i := 14) (oi := ({ dst := some 124, op := Op.unOp UnOp.not 4 (Operand.tmp 123), type := 4, pos := "words.go:321", after := #[{ on := 13, ground := Ground.data }, { on := 7, ground := Ground.guard }], guard := some (7, false) } : Oper)) (v := ?v_31) rfl (by kernel_rfl) (by kernel_rfl) (by kernel_rfl) (fun _ _ _ h => h) (Or.inl ⟨by rfl, ?hy_31⟩) (by assumption) ?rest_31
                    case hy_31 => (intro w hSw; (try dsimp only at hSw); go_simp; try with_reducible rfl)
                    try simp only [Act.put, List.setIfInBounds_toArray, List.set_cons_zero, List.set_cons_succ]
                    refine wpAnyH_take (i := 15) (oi := ({ dst := some 125, op := Op.pick (Operand.tmp 117) (Operand.const (Value.bool true)) (Operand.tmp 124), type := 4, pos := "words.go:321", after := #[{ on := 7, ground := Ground.data }, { on := 14, ground := Ground.data }], guard := none } : Oper)) (v := ?v_32) rfl (by kernel_rfl) (by kernel_rfl) (by kernel_rfl) (fun _ _ _ h => h) (Or.inl ⟨by rfl, ?hy_32⟩) (by assumption) ?rest_32
                    case hy_32 => (intro w hSw; (try dsimp only at hSw); go_simp; try with_reducible rfl)
                    try simp only [Act.put, List.setIfInBounds_toArray, List.set_cons_zero, List.set_cons_succ]
                    refine wpAnyH_take (i := 16) (oi := ({ dst := some 126, op := Op.move (Operand.tmp 125), type := 4, pos := "words.go:321", after := #[{ on := 15, ground := Ground.data }, { on := 13, ground := Ground.chain }], guard := none } : Oper)) (v := ?v_33) rfl (by kernel_rfl) (by kernel_rfl) (by kernel_rfl) (fun _ _ _ h => h) (Or.inl ⟨by rfl, ?hy_33⟩) (by assumption) ?rest_33
                    case hy_33 => (intro w hSw; (try dsimp only at hSw); go_simp; try with_reducible rfl)
                    try simp only [Act.put, List.setIfInBounds_toArray, List.set_cons_zero, List.set_cons_succ]
                    refine wpAnyH_take (i := 17) (oi := ({ dst := some 127, op := Op.move (Operand.tmp 14), type := 69, pos := "words.go:321", after := #[{ on := 16, ground := Ground.guard }], guard := some (16, false) } : Oper)) (v := undef) rfl (by kernel_rfl) (by kernel_rfl) (by kernel_rfl) (fun _ _ _ h => h) (Or.inr ⟨by rfl, rfl⟩) (by assumption) ?_
                    try simp only [Act.put, List.setIfInBounds_toArray, List.set_cons_zero, List.set_cons_succ]
                    refine wpAnyH_take (i := 18) (oi := ({ dst := some 128, op := Op.indexAddr 69 (Operand.tmp 127) (Operand.const (Value.int IntKind.i64 0)), type := 0, pos := "words.go:321", after := #[{ on := 17, ground := Ground.data }, { on := 16, ground := Ground.guard }], guard := some (16, false) } : Oper)) (v := undef) rfl (by kernel_rfl) (by kernel_rfl) (by kernel_rfl) (fun _ _ _ h => h) (Or.inr ⟨by rfl, rfl⟩) (by assumption) ?_
                    try simp only [Act.put, List.setIfInBounds_toArray, List.set_cons_zero, List.set_cons_succ]
                    refine wpAnyH_take (i := 19) (oi := ({ dst := some 129, op := Op.fieldAddr 99 (Operand.tmp 128) 3, type := 0, pos := "words.go:321", after := #[{ on := 18, ground := Ground.data }, { on := 16, ground := Ground.guard }], guard := some (16, false) } : Oper)) (v := undef) rfl (by kernel_rfl) (by kernel_rfl) (by kernel_rfl) (fun _ _ _ h => h) (Or.inr ⟨by rfl, rfl⟩) (by assumption) ?_
                    try simp only [Act.put, List.setIfInBounds_toArray, List.set_cons_zero, List.set_cons_succ]
                    refine wpAnyH_take (i := 20) (oi := ({ dst := some 130, op := Op.load 3 (Operand.tmp 129), type := 3, pos := "words.go:321", after := #[{ on := 19, ground := Ground.data }, { on := 16, ground := Ground.guard }], guard := some (16, false) } : Oper)) (v := undef) rfl (by kernel_rfl) (by kernel_rfl) (by kernel_rfl) (fun _ _ _ h => h) (Or.inr ⟨by rfl, rfl⟩) (by assumption) ?_
                    try simp only [Act.put, List.setIfInBounds_toArray, List.set_cons_zero, List.set_cons_succ]
                    refine wpAnyH_take (i := 21) (oi := ({ dst := some 131, op := Op.move (Operand.tmp 13), type := 35, pos := "words.go:321", after := #[{ on := 16, ground := Ground.guard }], guard := some (16, false) } : Oper)) (v := undef) rfl (by kernel_rfl) (by kernel_rfl) (by kernel_rfl) (fun _ _ _ h => h) (Or.inr ⟨by rfl, rfl⟩) (by assumption) ?_
                    try simp only [Act.put, List.setIfInBounds_toArray, List.set_cons_zero, List.set_cons_succ]
                    refine wpAnyH_take (i := 22) (oi := ({ dst := some 132, op := Op.call { callee := Callee.builtin Builtin.len, args := #[Operand.tmp 131], argTypes := #[35] }, type := 3, pos := "words.go:321", after := #[{ on := 21, ground := Ground.data }, { on := 16, ground := Ground.guard }], guard := some (16, false) } : Oper)) (v := undef) rfl (by kernel_rfl) (by kernel_rfl) (by kernel_rfl) (fun _ _ _ h => h) (Or.inr ⟨by rfl, rfl⟩) (by assumption) ?_
                    try simp only [Act.put, List.setIfInBounds_toArray, List.set_cons_zero, List.set_cons_succ]
                    refine wpAnyH_take (i := 23) (oi := ({ dst := some 133, op := Op.binOp BinOp.neq 3 (Operand.tmp 130) (Operand.tmp 132) 3, type := 4, pos := "words.go:321", after := #[{ on := 20, ground := Ground.data }, { on := 22, ground := Ground.data }, { on := 16, ground := Ground.guard }], guard := some (16, false) } : Oper)) (v := undef) rfl (by kernel_rfl) (by kernel_rfl) (by kernel_rfl) (fun _ _ _ h => h) (Or.inr ⟨by rfl, rfl⟩) (by assumption) ?_
                    try simp only [Act.put, List.setIfInBounds_toArray, List.set_cons_zero, List.set_cons_succ]
                    refine wpAnyH_take (i := 24) (oi := ({ dst := some 134, op := Op.pick (Operand.tmp 126) (Operand.const (Value.bool true)) (Operand.tmp 133), type := 4, pos := "words.go:321", after := #[{ on := 16, ground := Ground.data }, { on := 23, ground := Ground.data }], guard := none } : Oper)) (v := ?v_34) rfl (by kernel_rfl) (by kernel_rfl) (by kernel_rfl) (fun _ _ _ h => h) (Or.inl ⟨by rfl, ?hy_34⟩) (by assumption) ?rest_34
                    case hy_34 => (intro w hSw; (try dsimp only at hSw); go_simp; try with_reducible rfl)
                    try simp only [Act.put, List.setIfInBounds_toArray, List.set_cons_zero, List.set_cons_succ]
                    refine wpAnyH_done (by kernel_rfl) ?_ _
                    refine NoPanic.normal ?_
                    all_goals
                      go_wp2_with fail
                      exact HFIN1.out _ (HB4.out.trans ((((Below.refl _ _).drew).trans HB5.out).mono HB4.out.size)) HA.out
              · as_aux_lemma =>
                obtain ⟨A4, c4, tcs, bl, rfl, -, -, -, -, hb4⟩ := hpost
                have ha : Sp.againV c = false := by rw [HAG.out]; show (decide (lp = 0) && decide (t.cmd = c) && decide (t.to = L)) = false; rw [decide_eq_false h0]; rfl
                have hq : ((lp : Int) == 0) = false := by rw [beq_eq_false_iff_ne]; omega
                have hq2 : ((lp : Int) != 0) = true := by simp; omega
                have hfin := HFIN1.out
                have HA := Lib.hid ha
                have HB4 := Lib.hid hb4
                clear hb4 ha h0 h1 hfin
                go_upto_region 26 with (fail)
                go_quiet (fail)
                go_wp2_with fail
                all_goals exact HFIN1.out _ (below_drewN' HB4.out _) HA.out
            · as_aux_lemma =>
              obtain ⟨A4, c4, tcs, bl, rfl, -, -, -, -, hb4⟩ := hpost
              have ha : Sp.againV c = false := by
                rw [HAG.out]
                match ts, h1 with
                | [], _ => rfl
                | [t], h => exact absurd rfl h
                | _ :: _ :: _, _ => rfl
              have hq : ((ts.length : Int) == 1) = false := by rw [beq_eq_false_iff_ne]; omega
              have hq2 : ((ts.length : Int) != 1) = true := by simp; omega
              have HA := Lib.hid ha
              have HB4 := Lib.hid hb4
              clear hb4 ha h1
              go_upto_region 26 with (fail)
              go_quiet (fail)
              go_wp2_with fail
              all_goals exact HFIN1.out _ (below_drewN' HB4.out _) HA.out
end Go.Proofs.YthgfjafnclklpaaGreatDoor
