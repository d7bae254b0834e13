/- Walk of package reply: Bytes of values. Printed by gen/genU3.py. -/
import Derived.Test.YtnbeeehfapjpdaaGreatDoorQU1
import Derived.Deep.RegionHeld3
import Derived.Deep.RegionLaw
namespace Go.Proofs.YtnbeeehfapjpdaaGreatDoor
attribute [local go_sem ↓] Go.wp_at_zero Go.wp_at_succ
open Go.RowKit

def entW (v : Int) (x : EntX) : Sp.Bs := Sp.entryW v x.e
theorem entries_legal : ∀ (l : List Sp.EntryV) {ks : List Sp.Bs}, Sp.entriesV ks l = true → ∀ e ∈ l, Sp.legalR e.key = true
  | [], _, _, e, h => by cases h
  | a :: l, ks, h, e, he => by
    rw [Sp.entriesV] at h
    by_cases hm : a.key ∈ ks
    · rw [if_pos hm] at h
      simp only [Bool.and_eq_true] at h
      rcases List.mem_cons.1 he with h1 | h1
      · rw [h1]; exact h.1.1.1
      · exact entries_legal l h.2 e h1
    · rw [if_neg hm] at h; cases h
theorem ent_flat (v : Int) (xs : List EntX) : (xs.map EntX.e).flatMap (Sp.entryW v) = xs.flatMap (entW v) := by rw [List.flatMap_map]; rfl
set_option maxHeartbeats 16000000 in
set_option maxRecDepth 100000 in
theorem bytes_9 {w : World} (hg : GlobR w) (v : Int) {K : Option Addr} {keys : List Sp.Bs} {kc : Nat} (fl ex tk dl : Int) (D : Option Addr) (dn dc : Nat) (nr lg : Bool) (M : Option Addr) (mn mc : Nat) (what : Sp.Bs) (hK : RowAt w K (keys.map str)) (hkc : keys.length ≤ kc) (hks : keys.length ≤ 1000000000) {x : AnsX} (hx : AnsIn w x) (hf : Sp.fitsV v keys what x.v = true) (hn : nr = false) (hk : x.kind = 9) (hbig : (Sp.answerW v x.v).length ≤ 1000000000000) :
    Calls Tryz.prog 15 #[cmdA v K keys.length kc fl ex tk dl D dn dc nr lg M mn mc what, x.val] w (WroteK w (Sp.wroteV v keys what nr x.v)) := by
  obtain ⟨r, hr⟩ : ∃ r, r = Sp.wroteV v keys what nr x.v := ⟨_, rfl⟩
  rw [← hr]
  unfold Sp.wroteV at hr
  generalize hR : WroteK w r = R
  have hal : Below w.heap.size w ((w.alloc (.cells #[.int .i64 v, .slice K keys.length kc, .int .u64 fl, .int .i64 ex, .int .u64 tk, .int .u64 dl, .slice D dn dc, .bool nr, .bool lg, .slice M mn mc, str what] 32)).alloc (.cells x.cells 36)) := ((Below.refl _ _).alloc (Nat.le_refl _) _).alloc (by simp) _
  have hbx : Blk ((w.alloc (.cells #[.int .i64 v, .slice K keys.length kc, .int .u64 fl, .int .i64 ex, .int .u64 tk, .int .u64 dl, .slice D dn dc, .bool nr, .bool lg, .slice M mn mc, str what] 32)).alloc (.cells x.cells 36)) w.heap.size 32 #[.int .i64 v, .slice K keys.length kc, .int .u64 fl, .int .i64 ex, .int .u64 tk, .int .u64 dl, .slice D dn dc, .bool nr, .bool lg, .slice M mn mc, str what] := (Blk.new w _ _).alloc _
  have hab : Blk ((w.alloc (.cells #[.int .i64 v, .slice K keys.length kc, .int .u64 fl, .int .i64 ex, .int .u64 tk, .int .u64 dl, .slice D dn dc, .bool nr, .bool lg, .slice M mn mc, str what] 32)).alloc (.cells x.cells 36)) (w.heap.size + 1) 36 x.cells := by
    have := Blk.new (w.alloc (.cells #[.int .i64 v, .slice K keys.length kc, .int .u64 fl, .int .i64 ex, .int .u64 tk, .int .u64 dl, .slice D dn dc, .bool nr, .bool lg, .slice M mn mc, str what] 32)) 36 x.cells
    rwa [show (w.alloc (.cells #[.int .i64 v, .slice K keys.length kc, .int .u64 fl, .int .i64 ex, .int .u64 tk, .int .u64 dl, .slice D dn dc, .bool nr, .bool lg, .slice M mn mc, str what] 32)).heap.size = w.heap.size + 1 by simp] at this
  obtain ⟨W1, hW1⟩ : ∃ W1, W1 = (w.alloc (.cells #[.int .i64 v, .slice K keys.length kc, .int .u64 fl, .int .i64 ex, .int .u64 tk, .int .u64 dl, .slice D dn dc, .bool nr, .bool lg, .slice M mn mc, str what] 32)).alloc (.cells x.cells 36) := ⟨_, rfl⟩
  rw [← hW1] at hal hbx hab
  have hft := fitsOf_any (hg.later hal) v fl ex tk dl D dn dc nr lg M mn mc what (hK.below hal) hkc hks (hx.below hal)
  rw [hf] at hft
  rw [if_neg (by rw [hf]; decide), if_neg (by rintro (e | e); rw [hn] at e; cases e; exact absurd (hk.symm.trans e) (by decide))] at hr
  have haw : Sp.answerW v x.v = x.xs.flatMap (entW v) ++ Sp.lineR [Sp.endV] := by
    unfold Sp.answerW
    rw [if_pos (show x.v.kind = 9 from hk), ← ent_flat]
    rfl
  rw [haw] at hr hbig
  have hleg : ∀ y ∈ x.xs, y.e.key.length ≤ 250 := fun y hy => legal_short (entries_legal _ ((Sp.fits_form hf).2.2.2.2.2.2.1 hk) y.e (List.mem_map_of_mem hy))
  clear hf haw
  obtain ⟨kind, E, ec, xs, number, text, S, sc, stats⟩ := x
  dsimp only [AnsX.val, AnsX.cells] at hW1 hab hft ⊢
  dsimp only at hk hr hbig hleg
  subst hn
  subst hk
  obtain ⟨bx, hbe⟩ : ∃ bx, bx = w.heap.size := ⟨_, rfl⟩
  obtain ⟨ab, hae⟩ : ∃ ab, ab = w.heap.size + 1 := ⟨_, rfl⟩
  rw [← hbe] at hbx
  rw [← hae] at hab
  have y0 := hbx.cell 0
  have y1 := hbx.cell 1
  have y2 := hbx.cell 2
  have y3 := hbx.cell 3
  have y4 := hbx.cell 4
  have y5 := hbx.cell 5
  have y6 := hbx.cell 6
  have y7 := hbx.cell 7
  have y8 := hbx.cell 8
  have y9 := hbx.cell 9
  have y10 := hbx.cell 10
  have q0 := hab.cell 0
  have q1 := hab.cell 1
  have q2 := hab.cell 2
  have q3 := hab.cell 3
  have q4 := hab.cell 4
  simp only [List.getElem?_toArray, List.getElem?_cons_zero, List.getElem?_cons_succ] at y0 y1 y2 y3 y4 y5 y6 y7 y8 y9 y10 q0 q1 q2 q3 q4
  have HR := Lib.hid hR
  have HIN := Lib.hid hx
  have HG := Lib.hid hg
  have HFT := Lib.hid hft
  have HAL := Lib.hid hal
  have HBX := Lib.hid hbx
  have HAB := Lib.hid hab
  have HW1 := Lib.hid hW1
  have HBE := Lib.hid hbe
  have HAE := Lib.hid hae
  have HRR := Lib.hid hr
  clear hR hx hg hft hal hbx hab hW1 hbe hae hr hK hkc hks
  have hdg := fun (W : World) (hW : Below w.heap.size w W) (u : Nat) (hu : u ≤ 18446744073709551615) => replyDigits_any u hu (HG.out.later hW)
  have hit := fun (W : World) (hW : Below w.heap.size w W) (n : Nat) (hn : n ≤ 9223372036854775807) => itoa_any (n : Int) (by omega) (by omega) W (HG.out.later hW).tab
  have HDG := Lib.hid hdg
  have HIT := Lib.hid hit
  have htk := fun W : World => tokens_any v W
  have HTK := Lib.hid htk
  have HLEG := Lib.hid hleg
  clear hleg
  have hbl : (xs.flatMap (entW v)).length ≤ 1000000000000 := by rw [List.length_append] at hbig; omega
  have hsl9 : xs.length ≤ 1000000000 := HIN.out.few.1
  obtain ⟨i1, hi1, hv0, hv1, hv2⟩ := info_parts (show (Tryz.prog.info? 9).map (fun i => (i.zero, i.size, i.bytes)) = some (some (.string ⟨#[]⟩), 1, 16) by kernel_rfl)
  clear hbig hdg hit htk
  go_enter Tryz.func15, Tryz.ntmps15
  go_upto_region 1 with fail
  rw [← HW1.out, ← HAE.out, ← HBE.out]
  go_wp2_with (go_at_call 14; refine HFT.out.mono ?_; rintro e w1 ⟨rfl, hb1⟩; have hbx1 := HBX.out.later hb1; have hab1 := HAB.out.later hb1; have b0 := hbx1.cell 0; have b7 := hbx1.cell 7; have a0 := hab1.cell 0; have a1 := hab1.cell 1; have a2 := hab1.cell 2; have a3 := hab1.cell 3; have a4 := hab1.cell 4; simp only [List.getElem?_toArray, List.getElem?_cons_zero, List.getElem?_cons_succ] at b0 b7 a0 a1 a2 a3 a4; have HB1 := Lib.hid (HAL.out.trans (hb1.mono HAL.out.size)); have hs1 := (HAL.out.trans (hb1.mono HAL.out.size)).size; have HAB1 := Lib.hid hab1; have HBX1 := Lib.hid hbx1; clear hb1 hbx1 hab1)
  have hst : WriteLoop w nilRow [] w1 := ⟨World.ownsRow_nil _ _ _ 1, HB1.out⟩
  have HST := Lib.hid hst
  clear hst b0 b7 a0 a1 a2 a3 a4
  go_loopw [6, 8, 9, 32] (fun ov _ _ iv wr => ∃ (j : Nat) (O : Option Addr) (oc : Nat), iv = .int .i64 j ∧ ov = .slice O ((xs.take j).flatMap (entW v)).length oc ∧ j ≤ xs.length ∧ WriteLoop w (.slice O ((xs.take j).flatMap (entW v)).length oc) ((xs.take j).flatMap (entW v)) wr ∧ Blk wr bx 32 #[.int .i64 v, .slice K keys.length kc, .int .u64 fl, .int .i64 ex, .int .u64 tk, .int .u64 dl, .slice D dn dc, .bool false, .bool lg, .slice M mn mc, str what]) (fun _ _ _ iv _ => xs.length - (intOf iv).toNat)
  case atStart => exact ⟨0, none, 0, rfl, rfl, Nat.zero_le _, HST.out, HBX1.out⟩
  case round =>
    obtain ⟨j, O, oc, rfl, rfl, hj, hm, hbxr⟩ := hrel
    have hol := take_flat (entW v) xs j
    obtain ⟨out, hout⟩ : ∃ out, out = (xs.take j).flatMap (entW v) := ⟨_, rfl⟩
    rw [← hout] at hm hol ⊢
    have hol2 : out.length ≤ 1000000000000 := by omega
    have HM := Lib.hid hm
    have HOUT := Lib.hid hout
    have HBXR := Lib.hid hbxr
    have hsw := hm.below.size
    by_cases hjl : j < xs.length
    · obtain ⟨y, hy⟩ : ∃ y, xs[j]? = some y := ⟨xs[j], by simp [hjl]⟩
      obtain ⟨g, o, hEe, hgl, ycell⟩ := (HIN.out.ents.below hm.below).cell hy
      subst hEe
      have k0 : wr.cell? ⟨g, o + j * 9, none⟩ = some (str y.e.key) := ycell 0 _ rfl
      have k1 := ycell 1 _ rfl
      have k2 := ycell 2 _ rfl
      have k3 := ycell 3 _ rfl
      have k4 := ycell 4 _ rfl
      have k5 := ycell 5 _ rfl
      have k6 := ycell 6 _ rfl
      have k7 := ycell 7 _ rfl
      have k8 := ycell 8 _ rfl
      have hj1 : (j : Int) < (xs.length : Int) := by omega
      have hye := HIN.out.ents.each y (List.mem_of_getElem? hy)
      have hkey := HLEG.out y (List.mem_of_getElem? hy)
      have hnext : (xs.take (j + 1)).flatMap (entW v) = out ++ Sp.entryW v y.e := by
        rw [List.take_add_one, hy, List.flatMap_append, ← hout]
        show out ++ ([y].flatMap (entW v)) = _
        rw [List.flatMap_singleton]; rfl
      have hol3 := take_flat (entW v) xs (j + 1)
      have hentl : (Sp.entryW v y.e).length ≤ 1000000000000 := by
        rw [hnext, List.length_append] at hol3
        omega
      have hvlen : y.e.value.length ≤ 1000000000000 := by
        unfold Sp.entryW at hentl
        rw [List.length_append, List.length_append] at hentl
        omega
      obtain ⟨W2, hW2⟩ : ∃ W2, W2 = wr.alloc (.cells #[str y.e.key, .slice y.B y.e.value.length y.c, .int .u64 y.e.flags, .int .i64 y.e.expiry, .int .u64 y.e.token, .int .i64 y.e.touched, .bool y.e.stale, .bool y.e.won, .bool y.e.hit] 86) := ⟨_, rfl⟩
      obtain ⟨eb, heb⟩ : ∃ eb, eb = wr.heap.size := ⟨_, rfl⟩
      have hb2 : Below wr.heap.size wr W2 := by rw [hW2]; exact (Below.refl _ _).alloc (Nat.le_refl _) _
      have hebk : Blk W2 eb 86 #[str y.e.key, .slice y.B y.e.value.length y.c, .int .u64 y.e.flags, .int .i64 y.e.expiry, .int .u64 y.e.token, .int .i64 y.e.touched, .bool y.e.stale, .bool y.e.won, .bool y.e.hit] := by rw [hW2, heb]; exact Blk.new wr _ _
      have hbw2 : Below w.heap.size w W2 := hm.below.trans (hb2.mono hsw)
      have hks : ∀ W : World, Below W2.heap.size W2 W → W.cell? ⟨eb, 0, none⟩ = some (str y.e.key) ∧ W.cell? ⟨eb, 1, none⟩ = some (.slice y.B y.e.value.length y.c) ∧ W.cell? ⟨eb, 2, none⟩ = some (.int .u64 y.e.flags) := fun W hW => ⟨(hebk.later hW).cell 0, (hebk.later hW).cell 1, (hebk.later hW).cell 2⟩
      have hd2 := HDG.out W2.drew hbw2.drew y.e.flags hye.2.2.2.2.2.1
      obtain ⟨fd, hfd⟩ : ∃ fd, fd = Sp.digitsV y.e.flags := ⟨_, rfl⟩
      obtain ⟨vl, hvl⟩ : ∃ vl, vl = Lib.itoa (y.e.value.length : Int) := ⟨_, rfl⟩
      have hvl2 : Sp.digitsV y.e.value.length = vl := by
        rw [hvl, Sp.digits_dec (by have := hye.2.2.2.2.1; omega)]
        unfold Lib.itoa
        rw [if_neg (by omega)]
        rfl
      have hi2 := fun (W : World) (hW : Below w.heap.size w W) => HIT.out W hW y.e.value.length (by have := hye.2.2.2.2.1; omega)
      have hfdl : fd.length ≤ 20 := by
        rw [hfd, Sp.digits_dec hye.2.2.2.2.2.1]
        exact dec_len (by have := hye.2.2.2.2.2.1; omega)
      have hvll : vl.length ≤ 20 := by
        rw [← hvl2, Sp.digits_dec (by have := hye.2.2.2.2.1; omega)]
        exact dec_len (by have := hye.2.2.2.2.1; omega)
      rw [← hfd] at hd2
      rw [← hvl] at hi2
      have HKS := Lib.hid hks
      have HD2 := Lib.hid hd2
      have HI2 := Lib.hid hi2
      have HFD := Lib.hid hfd
      have HVL := Lib.hid hvl2
      have HBW2 := Lib.hid hbw2
      have HB2 := Lib.hid hb2
      have HEBK := Lib.hid hebk
      have HW2 := Lib.hid hW2
      have HEB := Lib.hid heb
      have HYE := Lib.hid hye
      have HYR := Lib.hid hye.1
      have HYN := Lib.hid hye.2.2.1
      have HNEXT := Lib.hid hnext
      have HENTL := Lib.hid hentl
      clear hb2 hebk hbw2 hks hd2 hfd hvl hvl2 hi2 hW2 heb hye hnext hentl hm hout hy hol hol3 ycell hbxr
      go_upto_region 11 with fail
      rw [← HW2.out, ← HEB.out]
      clear k0 k1 k2 k3 k4 k5 k6 k7 k8
      go_region_held3 (fun w' => w'.cell? ⟨eb, 0, none⟩ = some (str y.e.key) ∧ w'.cell? ⟨eb, 1, none⟩ = some (.slice y.B y.e.value.length y.c) ∧ w'.cell? ⟨eb, 2, none⟩ = some (.int .u64 y.e.flags)) (first | exact HKS.out _ (Below.refl _ _) | exact HKS.out _ (Below.refl _ _).drew | exact HKS.out _ HB3.out | exact HKS.out _ HB4.out | exact HKS.out _ (HB4.out.alloc HB4.out.size _)) ((first
        | (go_at_call 46; refine HD2.out.mono ?_; rintro e w3 ⟨rfl, hb3⟩; have HB3 := Lib.hid ((Below.refl W2.heap.size W2).drew.trans hb3); clear hb3)
        | (go_at_call 47; refine (HI2.out _ (HBW2.out.trans (HB3.out.mono HBW2.out.size))).mono ?_; rintro e w4 ⟨rfl, hb4⟩; have HB4 := Lib.hid (HB3.out.trans (hb4.mono HB3.out.size)); clear hb4)))
      have hb4 : Below w.heap.size w w4 := HBW2.out.trans (HB4.out.mono HBW2.out.size)
      have hbr4 : Below wr.heap.size wr w4 := HB2.out.trans (HB4.out.mono HB2.out.size)
      have ho4 := own_later HM.out.own hbr4
      have heb4 := HEBK.out.later HB4.out
      have hbx4 := HBXR.out.later hbr4
      have hapw : (Value.slice O out.length oc).ownBlock ≠ some eb := own_apart ho4 heb4 (by decide)
      have hapx : (Value.slice O out.length oc).ownBlock ≠ some bx := own_apart ho4 hbx4 (by decide)
      have HO4 := Lib.hid ho4
      have HBW4 := Lib.hid hb4
      have HEB4 := Lib.hid heb4
      have HBX4 := Lib.hid hbx4
      have HAPW := Lib.hid hapw
      have HAPX := Lib.hid hapx
      clear hb4 hbr4 ho4 heb4 hbx4 hapw hapx
      have hbt := built_texts w4 [Sp.valueV, y.e.key, fd, vl] #[.string ⟨#[86, 65, 76, 85, 69]⟩, str y.e.key, str fd, str vl] rfl 4 rfl (by decide)
      obtain ⟨W5, hW5⟩ : ∃ W5, W5 = w4.alloc (.cells #[.string ⟨#[86, 65, 76, 85, 69]⟩, str y.e.key, str fd, str vl] 9) := ⟨_, rfl⟩
      have hbW : Below w4.heap.size w4 W5 := by rw [hW5]; exact (Below.refl _ _).alloc (Nat.le_refl _) _
      rw [← hW5] at hbt
      obtain ⟨h4, hh4⟩ : ∃ h4, h4 = w4.heap.size := ⟨_, rfl⟩
      have b0 : W5.cell? ⟨bx, 0, none⟩ = some (.int .i64 v) := (HBX4.out.later hbW).cell 0
      have HBT := Lib.hid hbt
      have HBW45 := Lib.hid hbW
      have HW5 := Lib.hid hW5
      have HH4 := Lib.hid hh4
      clear hbt hbW hW5
      rw [← HW5.out, ← hh4]
      clear hh4
      have htk := HTK.out
      cases htv : Sp.tokensV v with
      | false =>
        rw [htv] at htk
        have HTV := Lib.hid htv
        have HT := Lib.hid htk
        clear htk htv
        go_upto_region 14 with (go_at_call 48; refine (HT.out _).mono ?_; rintro e w8 ⟨rfl, rfl⟩)
        clear b0
        have HOW := Lib.hid (own_later HO4.out HBW45.out)
        have HBW := Lib.hid (HBW4.out.trans (HBW45.out.mono HBW4.out.size))
        have HEBW := Lib.hid (HEB4.out.later HBW45.out)
        have HBXW := Lib.hid (HBX4.out.later HBW45.out)
        have e1 : W5.cell? ⟨eb, 1, none⟩ = some (.slice y.B y.e.value.length y.c) := HEBW.out.cell 1
        have HPW := Lib.hid (show RowAt W5 (some ⟨h4, 0, none⟩) ([Sp.valueV, y.e.key, fd, vl].map str) by rw [HH4.out]; exact RowAt.of_own HBT.out)
        have hps : ([32].intercalate [Sp.valueV, y.e.key, fd, vl] : Sp.Bs).length ≤ 100000000 := by simp [List.intercalate, List.intersperse, Sp.valueV]; omega
        have hptl : (Sp.lineR [Sp.valueV, y.e.key, fd, vl]).length ≤ 100000002 := by unfold Sp.lineR; rw [List.length_append]; simp only [List.length_cons, List.length_nil]; omega
        have HPC := Lib.hid (Nat.le_refl 4)
        have HPS := Lib.hid hps
        have HPTL := Lib.hid hptl
        clear hps hptl
        obtain ⟨pt, hpt⟩ : ∃ pt, pt = Sp.lineR [Sp.valueV, y.e.key, fd, vl] := ⟨_, rfl⟩
        have hline : Calls Tryz.prog 49 #[.slice O out.length oc, .slice (some ⟨h4, 0, none⟩) 4 4] W5.drew (LineK W5.drew w.heap.size (.slice O out.length oc) (out ++ pt)) := by
          rw [hpt]
          exact line_reply (own_later HOW.out (Below.refl _ _).drew) (by have := HBW.out.size; exact this) (HPW.out.below (Below.refl _ _).drew) (by have := HPC.out; exact this) (by simp) HPS.out (by omega)
        have hptl : pt.length ≤ 1000000000000 := by have := HPTL.out; rw [hpt]; omega
        have hfull : Sp.entryW v y.e = pt ++ y.e.value ++ Sp.lineR [] := by
          rw [hpt]
          unfold Sp.entryW
          rw [HTV.out, HVL.out, ← HFD.out, if_neg (by decide)]; rfl
        have HFULL := Lib.hid hfull
        have HPT := Lib.hid hpt
        have HLINE := Lib.hid hline
        have e1d : W5.drew.cell? ⟨eb, 1, none⟩ = some (.slice y.B y.e.value.length y.c) := e1
        clear hline hpt hfull
        go_region_law (first
          | (refine step_append_bytes (v := .slice O9 (out.length + pt.length) oc9) rfl (.tmp 57) (.tmp 59) rfl rfl HOWN9.out (k := y.e.value) rfl HRV9.out HYN.out ?_ ?_ ?_; omega; omega; intro v10 w10 hown10 hg10; have hown10' : w10.ownsRow w.heap.size 5 1 v10 ((out ++ pt) ++ y.e.value).length (bytesV ((out ++ pt) ++ y.e.value)) := (by rw [List.length_append, List.length_append, bytesV_append (out ++ pt)]; exact hown10); have hb10 : Below w.heap.size w w10 := HB9.out.grown hg10 HB9.out.size (fun k hk => (HOWN9.out.lt k hk).1); have hs10 := hb10.size; have hl10 := line_reply (P := none) (pc := 0) (ps := []) hown10' (by omega) (.inl rfl) (Nat.le_refl _) (by simp) (by simp [List.intercalate, List.intersperse]) (by rw [List.length_append, List.length_append]; omega); have hbx10 := HBX9.out.grown hg10 (fun e => own_apart HOWN9.out HBX9.out (by decide) e.symm); have HL10 := Lib.hid hl10; have HOWN10 := Lib.hid hown10'; have HG10 := Lib.hid hg10; have HB10 := Lib.hid hb10; have HBX10 := Lib.hid hbx10; clear hown10 hown10' hg10 hb10 hl10 hbx10)
          | (go_simp; go_at_call 49; refine HLINE.out.mono ?_; rintro e w9 ⟨O9, oc9, rfl, hown9, hg9⟩; have hb9 : Below w.heap.size w w9 := HBW.out.drew.grown hg9 HBW.out.drew.size (fun k hk => (HOW.out.lt k hk).1); have e19 : w9.cell? ⟨eb, 1, none⟩ = some (.slice y.B y.e.value.length y.c) := (HEBW.out.drew.grown hg9 (fun e => HAPW.out e.symm)).cell 1; have hs9 := hb9.size; have HRV9 := Lib.hid (HYR.out.below hb9); rw [List.length_append] at hown9; have HOWN9 := Lib.hid hown9; have HG9 := Lib.hid hg9; have HB9 := Lib.hid hb9; have hbx9 := HBXW.out.drew.grown hg9 (fun e => HAPX.out e.symm); have HBX9 := Lib.hid hbx9; clear hown9 hg9 hb9 hbx9))
        all_goals go_wp2_with (go_at_call 49; refine HL10.out.mono ?_; rintro e w11 ⟨O11, oc11, rfl, hown11, hg11⟩; have HOWN11 := Lib.hid hown11; have HG11 := Lib.hid hg11; clear hown11 hg11)
        all_goals
          have hb11 : Below w.heap.size w w11 := HB10.out.grown HG11.out HB10.out.size (fun k hk => (HOWN10.out.lt k hk).1)
          have hbx11 := HBX10.out.grown HG11.out (fun e => own_apart HOWN10.out HBX10.out (by decide) e.symm)
          have hnx2 : (xs.take (j + 1)).flatMap (entW v) = ((out ++ pt) ++ y.e.value) ++ Sp.lineR [] := by rw [HNEXT.out, HFULL.out]; simp only [List.append_assoc]
          refine ⟨⟨j + 1, O11, oc11, by go_num, by rw [hnx2]; simp only [List.length_append, Nat.add_assoc], by omega, by rw [hnx2]; exact ⟨HOWN11.out, hb11⟩, hbx11⟩, by show xs.length - ((j : Int) + 1).toNat < xs.length - (j : Int).toNat; omega⟩
      | true =>
        rw [htv] at htk
        have HTV := Lib.hid htv
        have HT := Lib.hid htk
        have htok := HYE.out.2.2.2.2.2.2
        obtain ⟨td, htd⟩ : ∃ td, td = Sp.digitsV y.e.token := ⟨_, rfl⟩
        have htdl : td.length ≤ 20 := by
          rw [htd, Sp.digits_dec htok]
          exact dec_len (by omega)
        have hdt := HDG.out W5 (HBW4.out.trans (HBW45.out.mono HBW4.out.size)) y.e.token htok
        rw [← htd] at hdt
        have HDT := Lib.hid hdt
        have HTD := Lib.hid htd
        have e4 : W5.cell? ⟨eb, 4, none⟩ = some (.int .u64 y.e.token) := (HEB4.out.later HBW45.out).cell 4
        have HBTH := Lib.hid (show W5.ownsRow h4 9 1 (.slice (some ⟨h4, 0, none⟩) 4 4) 4 ([Sp.valueV, y.e.key, fd, vl].map str) by rw [HH4.out]; exact HBT.out)
        have hh5 : h4 ≤ W5.heap.size := by rw [HH4.out]; exact HBW45.out.size
        clear htk htv hdt htd
        go_upto_region 14 with (first
          | (go_at_call 48; refine (HT.out _).mono ?_; rintro e w7 ⟨rfl, rfl⟩)
          | (go_at_call 46; refine HDT.out.mono ?_; rintro e w6 ⟨rfl, hb6⟩; have hs6 := hb6.size; have HB6 := Lib.hid hb6; clear hb6)
          | (at_builtin; refine wpList_append_put rfl (.tmp 49) (.tmp 53) _ rfl h4 9 i1 _ 1 16 Tryz.underlying27 hi1 hv0 hv1 hv2 rfl (by decide) (.slice (some ⟨h4, 0, none⟩) 4 4) 4 ([Sp.valueV, y.e.key, fd, vl].map str) rfl (own_later HBTH.out (HB6.out.alloc HB6.out.size _)) ⟨w6.heap.size, 0, none⟩ 1 1 [str td] rfl rfl (cells_one w6 _ _) ?_ ?_ ?_ ?_ ?_ ?_; (intro u hu; simp only [List.mem_cons, List.not_mem_nil, or_false] at hu; subst hu; rfl); decide; (unfold maxLen; omega); omega; (simp; omega); intro g8 cap8 w8 hown8 hg8 hat8; have HOWN8 := Lib.hid hown8; have HG8 := Lib.hid hg8; clear hown8 hg8 hat8))
        clear b0 e4
        have hbW : Below w4.heap.size w4 w8 := by
          have h1 : Below w4.heap.size w4 (w6.alloc (.cells #[str td] 9)) := (HBW45.out.trans (HB6.out.mono HBW45.out.size)).alloc (by have h2 := HBW45.out.size; omega) _
          exact h1.grown HG8.out h1.size (fun k hk => by
            have h2 : h4 = k := by simpa [Value.ownBlock] using hk
            rw [← h2, HH4.out]; exact Nat.le_refl _)
        have HOW := Lib.hid (own_later HO4.out hbW)
        have HBW := Lib.hid (HBW4.out.trans (hbW.mono HBW4.out.size))
        have HEBW := Lib.hid (HEB4.out.later hbW)
        have HBXW := Lib.hid (HBX4.out.later hbW)
        have e1 : w8.cell? ⟨eb, 1, none⟩ = some (.slice y.B y.e.value.length y.c) := HEBW.out.cell 1
        have HPW := Lib.hid (show RowAt w8 (some ⟨g8, 0, none⟩) ([Sp.valueV, y.e.key, fd, vl, td].map str) from RowAt.of_own HOWN8.out)
        have hps : ([32].intercalate [Sp.valueV, y.e.key, fd, vl, td] : Sp.Bs).length ≤ 100000000 := by simp [List.intercalate, List.intersperse, Sp.valueV]; omega
        have hptl : (Sp.lineR [Sp.valueV, y.e.key, fd, vl, td]).length ≤ 100000002 := by unfold Sp.lineR; rw [List.length_append]; simp only [List.length_cons, List.length_nil]; omega
        have HPC := Lib.hid (own_room3 HOWN8.out).1
        have HPS := Lib.hid hps
        have HPTL := Lib.hid hptl
        clear hps hptl hbW
        obtain ⟨pt, hpt⟩ : ∃ pt, pt = Sp.lineR [Sp.valueV, y.e.key, fd, vl, td] := ⟨_, rfl⟩
        have hline : Calls Tryz.prog 49 #[.slice O out.length oc, .slice (some ⟨g8, 0, none⟩) 5 cap8] w8.drew (LineK w8.drew w.heap.size (.slice O out.length oc) (out ++ pt)) := by
          rw [hpt]
          exact line_reply (own_later HOW.out (Below.refl _ _).drew) (by have := HBW.out.size; exact this) (HPW.out.below (Below.refl _ _).drew) (by have := HPC.out; exact this) (by simp) HPS.out (by omega)
        have hptl : pt.length ≤ 1000000000000 := by have := HPTL.out; rw [hpt]; omega
        have hfull : Sp.entryW v y.e = pt ++ y.e.value ++ Sp.lineR [] := by
          rw [hpt]
          unfold Sp.entryW
          rw [HTV.out, HVL.out, ← HFD.out, ← HTD.out, if_pos rfl]; rfl
        have HFULL := Lib.hid hfull
        have HPT := Lib.hid hpt
        have HLINE := Lib.hid hline
        have e1d : w8.drew.cell? ⟨eb, 1, none⟩ = some (.slice y.B y.e.value.length y.c) := e1
        clear hline hpt hfull
        go_region_law (first
          | (refine step_append_bytes (v := .slice O9 (out.length + pt.length) oc9) rfl (.tmp 57) (.tmp 59) rfl rfl HOWN9.out (k := y.e.value) rfl HRV9.out HYN.out ?_ ?_ ?_; omega; omega; intro v10 w10 hown10 hg10; have hown10' : w10.ownsRow w.heap.size 5 1 v10 ((out ++ pt) ++ y.e.value).length (bytesV ((out ++ pt) ++ y.e.value)) := (by rw [List.length_append, List.length_append, bytesV_append (out ++ pt)]; exact hown10); have hb10 : Below w.heap.size w w10 := HB9.out.grown hg10 HB9.out.size (fun k hk => (HOWN9.out.lt k hk).1); have hs10 := hb10.size; have hl10 := line_reply (P := none) (pc := 0) (ps := []) hown10' (by omega) (.inl rfl) (Nat.le_refl _) (by simp) (by simp [List.intercalate, List.intersperse]) (by rw [List.length_append, List.length_append]; omega); have hbx10 := HBX9.out.grown hg10 (fun e => own_apart HOWN9.out HBX9.out (by decide) e.symm); have HL10 := Lib.hid hl10; have HOWN10 := Lib.hid hown10'; have HG10 := Lib.hid hg10; have HB10 := Lib.hid hb10; have HBX10 := Lib.hid hbx10; clear hown10 hown10' hg10 hb10 hl10 hbx10)
          | (go_simp; go_at_call 49; refine HLINE.out.mono ?_; rintro e w9 ⟨O9, oc9, rfl, hown9, hg9⟩; have hb9 : Below w.heap.size w w9 := HBW.out.drew.grown hg9 HBW.out.drew.size (fun k hk => (HOW.out.lt k hk).1); have e19 : w9.cell? ⟨eb, 1, none⟩ = some (.slice y.B y.e.value.length y.c) := (HEBW.out.drew.grown hg9 (fun e => HAPW.out e.symm)).cell 1; have hs9 := hb9.size; have HRV9 := Lib.hid (HYR.out.below hb9); rw [List.length_append] at hown9; have HOWN9 := Lib.hid hown9; have HG9 := Lib.hid hg9; have HB9 := Lib.hid hb9; have hbx9 := HBXW.out.drew.grown hg9 (fun e => HAPX.out e.symm); have HBX9 := Lib.hid hbx9; clear hown9 hg9 hb9 hbx9))
        all_goals go_wp2_with (go_at_call 49; refine HL10.out.mono ?_; rintro e w11 ⟨O11, oc11, rfl, hown11, hg11⟩; have HOWN11 := Lib.hid hown11; have HG11 := Lib.hid hg11; clear hown11 hg11)
        all_goals
          have hb11 : Below w.heap.size w w11 := HB10.out.grown HG11.out HB10.out.size (fun k hk => (HOWN10.out.lt k hk).1)
          have hbx11 := HBX10.out.grown HG11.out (fun e => own_apart HOWN10.out HBX10.out (by decide) e.symm)
          have hnx2 : (xs.take (j + 1)).flatMap (entW v) = ((out ++ pt) ++ y.e.value) ++ Sp.lineR [] := by rw [HNEXT.out, HFULL.out]; simp only [List.append_assoc]
          refine ⟨⟨j + 1, O11, oc11, by go_num, by rw [hnx2]; simp only [List.length_append, Nat.add_assoc], by omega, by rw [hnx2]; exact ⟨HOWN11.out, hb11⟩, hbx11⟩, by show xs.length - ((j : Int) + 1).toNat < xs.length - (j : Int).toNat; omega⟩
    · have hje : j = xs.length := by omega
      have i1' : decide ((j : Int) < (xs.length : Int)) = false := decide_eq_false (by omega)
      have i2' : decide (j < xs.length) = false := decide_eq_false hjl
      have hlast : xs.flatMap (entW v) = out := by rw [hout, hje, List.take_length]
      have hrr := HRR.out
      rw [hlast] at hrr
      have hline : Calls Tryz.prog 49 #[.slice O out.length oc, .slice (some ⟨wr.heap.size, 0, none⟩) 1 1] (wr.alloc (.cells #[str Sp.endV] 9)) (LineK (wr.alloc (.cells #[str Sp.endV] 9)) w.heap.size (.slice O out.length oc) (out ++ Sp.lineR [Sp.endV])) := by
        have hal3 : Below wr.heap.size wr (wr.alloc (.cells #[str Sp.endV] 9)) := (Below.refl _ _).alloc (Nat.le_refl _) _
        have hs3 := hal3.size
        exact line_reply (own_later hm.own hal3) (by omega) (row_new wr rfl 9 [str Sp.endV]) (Nat.le_refl _) (by decide) (by decide) (by omega)
      have HLINE := Lib.hid hline
      have HRR2 := Lib.hid hrr
      clear hline hrr hlast hje hm hout hol hjl hbxr
      go_wp2_with (go_at_call 49; refine HLINE.out.mono ?_; rintro e w4 ⟨O4, oc4, rfl, hown4, hg4⟩; have HOWN4 := Lib.hid hown4; have HG4 := Lib.hid hg4; clear hown4 hg4)
      have hfin := HM.out.on ((Below.refl _ _).alloc (Nat.le_refl _) (.cells #[str Sp.endV] 9)) HOWN4.out HG4.out
      rw [← HR.out, HRR2.out]
      exact ⟨O4, oc4, by rw [List.length_append]; rfl, hfin.own, hfin.below⟩
end Go.Proofs.YtnbeeehfapjpdaaGreatDoor
