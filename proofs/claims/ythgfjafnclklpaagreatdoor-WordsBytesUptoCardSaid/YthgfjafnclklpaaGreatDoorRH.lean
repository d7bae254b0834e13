/- Walk of the document's Bytes of a command that came in. -/
import Derived.Test.YthgfjafnclklpaaGreatDoorRM
import Derived.Test.YthgfjafnclklpaaGreatDoorOc
namespace Go.Proofs.YthgfjafnclklpaaGreatDoor
attribute [local go_sem ↓] Go.wp_at_zero Go.wp_at_succ
open Go.RowKit Go.Lib Sp

set_option maxHeartbeats 4000000 in
set_option maxRecDepth 100000 in
theorem refMay_no {w : World} {x : CmdX} (hn : ¬ (1 ≤ x.v ∧ x.v ≤ 24) ∨ x.c.large = true) :
    Calls Tryz.prog 39 #[.agg x.cells.toArray] w fun e w' => e = .returned (.bool false) ∧ Below w.heap.size w w' := by
  have hb0 : Below w.heap.size w (w.alloc (.cells x.cells.toArray 38)) := (Below.refl _ _).alloc (Nat.le_refl _) _
  unfold CmdX.cells at hb0 ⊢
  have HB := Lib.hid hb0
  clear hb0
  by_cases h1 : x.v < 1
  · have e1 : decide (x.v < 1) = true := decide_eq_true h1
    clear hn
    go_enter Tryz.func39, Tryz.ntmps39
    go_wp2_with fail
    go_ret
    exact ⟨rfl, HB.out⟩
  · have e1 : decide (x.v < 1) = false := decide_eq_false h1
    by_cases h2 : 24 < x.v
    · have e2 : decide (24 < x.v) = true := decide_eq_true h2
      clear hn
      go_enter Tryz.func39, Tryz.ntmps39
      go_wp2_with fail
      go_ret
      exact ⟨rfl, HB.out⟩
    · have e2 : decide (24 < x.v) = false := decide_eq_false h2
      have hl : x.c.large = true := by
        rcases hn with h | h
        · exact absurd (by omega) h
        · exact h
      rw [hl] at HB ⊢
      clear hn
      go_enter Tryz.func39, Tryz.ntmps39
      go_wp2_with fail
      go_ret
      exact ⟨rfl, HB.out⟩
/-- May of any command that came in -/
theorem refMay_cmd {w : World} {x : CmdX} (h : CmdGood w x) :
    Calls Tryz.prog 39 #[.agg x.cells.toArray] w fun e w' => e = .returned (.bool x.out.isSome) ∧ Below w.heap.size w w' := by
  unfold CmdX.out
  by_cases hv : 1 ≤ x.v ∧ x.v ≤ 24
  · rw [if_pos hv]
    have hvb := h.verb
    have h1 : 1 ≤ x.c.verb := by omega
    have h2 : x.c.verb ≤ 24 := by omega
    cases hl : x.c.large with
    | true =>
      unfold bytesV'
      rw [if_neg (fun hx => by rw [hl] at hx; exact absurd hx.2.2.1 (by decide))]
      exact refMay_no (.inr hl)
    | false =>
      rw [lineCell_cells (by omega)]
      refine (refMay_any h h1 h2 hl).mono fun e w' hp => ?_
      rw [mayB_again h1 h2 hl h.range] at hp
      unfold bytesV'
      cases ha : againV x.c with
      | true => rw [if_pos ⟨h1, h2, hl, rfl⟩]; rw [ha] at hp; exact hp
      | false => rw [if_neg (fun hx => absurd hx.2.2.2 (by decide))]; rw [ha] at hp; exact hp
  · rw [if_neg hv]
    exact refMay_no (.inl hv)

set_option maxHeartbeats 16000000 in
set_option maxRecDepth 100000 in
theorem refBytes_cmd {w : World} {x : CmdX} (h : CmdGood w x) : Calls Tryz.prog 7 #[.agg x.cells.toArray] w (BytesEndX w x) := by
  have hb0 : Below w.heap.size w (w.alloc (.cells #[.int .i64 x.v, .slice x.K x.c.keys.length x.kc, .int .u64 x.c.flags, .int .i64 x.c.exptime, .int .u64 x.c.token, .int .u64 x.c.delta, .slice x.D x.c.data.length x.dc, .bool x.c.noreply, .bool x.c.large, .slice x.M x.c.metas.length x.mc, str x.c.what] 38)) := (Below.refl _ _).alloc (Nat.le_refl _) _
  have hbx := Blk.new w 38 #[.int .i64 x.v, .slice x.K x.c.keys.length x.kc, .int .u64 x.c.flags, .int .i64 x.c.exptime, .int .u64 x.c.token, .int .u64 x.c.delta, .slice x.D x.c.data.length x.dc, .bool x.c.noreply, .bool x.c.large, .slice x.M x.c.metas.length x.mc, str x.c.what]
  have hm := refMay_cmd (h.below hb0)
  have hc : x.cells.toArray = #[.int .i64 x.v, .slice x.K x.c.keys.length x.kc, .int .u64 x.c.flags, .int .i64 x.c.exptime, .int .u64 x.c.token, .int .u64 x.c.delta, .slice x.D x.c.data.length x.dc, .bool x.c.noreply, .bool x.c.large, .slice x.M x.c.metas.length x.mc, str x.c.what] := rfl
  rw [hc] at hm ⊢
  cases ho : x.out with
  | none =>
    have hno : ∀ w', Below w.heap.size w w' → BytesEndX w x (.returned (.tuple #[nilRow, .int .i64 7])) w' := fun w' hb => by unfold BytesEndX; rw [ho]; exact ⟨rfl, hb⟩
    rw [ho] at hm
    generalize BytesEndX w x = R at hno ⊢
    have HNO := Lib.hid hno
    have HM := Lib.hid hm
    have HB0 := Lib.hid hb0
    clear hno hm hb0 hbx hc ho
    go_enter Tryz.func7, Tryz.ntmps7
    go_wp2_with (go_at_call 39; refine HM.out.mono ?_; rintro e w1 ⟨rfl, hb1⟩; have HB1 := Lib.hid hb1; clear hb1)
    exact HNO.out _ (HB0.out.trans (HB1.out.mono HB0.out.size))
  | some out =>
    obtain ⟨rfl, hag, hv1, hv2, hlg, hvv⟩ := CmdX.out_some h ho
    have hyes : ∀ g n cap w', Free w' w.heap.size g n cap (outV x.c) → Below w.heap.size w w' → BytesEndX w x (.returned (.tuple #[.slice (some ⟨g, 0, none⟩) n cap, .int .i64 0])) w' := fun g n cap w' hf hb => by
      unfold BytesEndX
      rw [ho]
      obtain rfl : (outV x.c).length = n := hf.len
      exact ⟨g, cap, rfl, hf, hb⟩
    rw [ho] at hm
    have hout := outV_line x.c
    have hsm := (h.small hv1 hv2).1
    rw [hout] at hyes
    obtain ⟨bk, hbk⟩ : ∃ bk, bk = (rowBy x.c.verb).block := ⟨_, rfl⟩
    have hro := fun W : World => refRowOf_any x.c.verb W hv1 hv2
    simp only [refRow, ← hbk] at hro
    rw [← hbk] at hyes hout
    rw [hout] at hsm
    have hli := fun (W : World) (hW : Below w.heap.size w W) => refLine_any (h.below hW) hv1 hv2
    unfold lineCell at hli
    rw [← hvv] at hli hro
    obtain ⟨L, hL⟩ : ∃ L, L = lineV x.c := ⟨_, rfl⟩
    rw [← hL] at hli hyes hsm
    obtain ⟨n, hn⟩ : ∃ n, n = L.length := ⟨_, rfl⟩
    have hn8 : n ≤ 8000000 := by simp only [List.length_append] at hsm; omega
    have hd8 := h.dataL
    have hsrc : ∀ W : World, Src Tryz.prog 1 35 (.slice (some ⟨W.heap.size, 0, none⟩) 2 2) 2 (bytesV [13, 10]) (W.alloc (.cells #[.int .u8 13, .int .u8 10] 5)) := fun W => src_row (k := [13, 10]) (c := 2) (row_new W rfl 5 (bytesV [13, 10])) (fun h => by cases h)
    generalize BytesEndX w x = R at hyes ⊢
    obtain ⟨r, hr⟩ : ∃ r, r = rowBy x.c.verb := ⟨_, rfl⟩
    rw [← hr] at hro
    have HYES := Lib.hid hyes
    have HM := Lib.hid hm
    have HX := Lib.hid h
    have HB0 := Lib.hid hb0
    have HBX := Lib.hid hbx
    have HRO := Lib.hid hro
    have HLI := Lib.hid hli
    have HN := Lib.hid hn
    have HSRC := Lib.hid hsrc
    clear hyes hm h hb0 hbx hc ho hag hv1 hv2 hlg hvv hout hsm hro hli hn hsrc hL hbk hr
    go_enter Tryz.func7, Tryz.ntmps7
    go_upto_region 3 with (go_at_call 39; refine HM.out.mono ?_; rintro e w1 ⟨rfl, hb1⟩; have HB1 := Lib.hid hb1; clear hb1)
    have hx1 := HBX.out.later HB1.out
    have hw1 : Below w.heap.size w w1 := HB0.out.trans (HB1.out.mono HB0.out.size)
    have hli1 := HLI.out w1 hw1
    have z0 : w1.cell? ⟨w.heap.size, 0, none⟩ = some (.int .i64 x.v) := hx1.cell 0
    have z1 : w1.cell? ⟨w.heap.size, 1, none⟩ = some (.slice x.K x.c.keys.length x.kc) := hx1.cell 1
    have z2 : w1.cell? ⟨w.heap.size, 2, none⟩ = some (.int .u64 x.c.flags) := hx1.cell 2
    have z3 : w1.cell? ⟨w.heap.size, 3, none⟩ = some (.int .i64 x.c.exptime) := hx1.cell 3
    have z4 : w1.cell? ⟨w.heap.size, 4, none⟩ = some (.int .u64 x.c.token) := hx1.cell 4
    have z5 : w1.cell? ⟨w.heap.size, 5, none⟩ = some (.int .u64 x.c.delta) := hx1.cell 5
    have z6 : w1.cell? ⟨w.heap.size, 6, none⟩ = some (.slice x.D x.c.data.length x.dc) := hx1.cell 6
    have z7 : w1.cell? ⟨w.heap.size, 7, none⟩ = some (.bool x.c.noreply) := hx1.cell 7
    have z8 : w1.cell? ⟨w.heap.size, 8, none⟩ = some (.bool x.c.large) := hx1.cell 8
    have z9 : w1.cell? ⟨w.heap.size, 9, none⟩ = some (.slice x.M x.c.metas.length x.mc) := hx1.cell 9
    have z10 : w1.cell? ⟨w.heap.size, 10, none⟩ = some (str x.c.what) := hx1.cell 10
    have HX1 := Lib.hid hx1
    have HW1 := Lib.hid hw1
    have HLI1 := Lib.hid hli1
    clear hx1 hw1 hli1 HM HB0 HBX HB1 HLI
    go_upto_region 4 with (first | (go_at_call 40; refine HLI1.out.mono ?_; rintro e w2 ⟨rfl, hb2⟩; obtain ⟨W3, cp3, hcv, hfr3, hb3⟩ := convert_free w2 L (base := w.heap.size) (Nat.le_trans HW1.out.size hb2.size) (by rw [← HN.out]; unfold maxLen; omega); rw [← HN.out] at hcv hfr3; have hx3 := (HX1.out.later hb2).later hb3; have hw3 := (HW1.out.trans (hb2.mono HW1.out.size)).trans (hb3.mono (Nat.le_trans HW1.out.size hb2.size)); have hg3 : w.heap.size < w2.heap.size := (HX1.out.later hb2).lt; have HX3 := Lib.hid (hx3.alloc (.cells #[.int .u8 13, .int .u8 10] 5)); have HW3 := Lib.hid (hw3.alloc hw3.size (.cells #[.int .u8 13, .int .u8 10] 5)); have HF3 := Lib.hid (hfr3.later ((Below.refl _ _).alloc (Nat.le_refl _) (.cells #[.int .u8 13, .int .u8 10] 5))); clear hb2 hb3 hfr3 hx3 hw3 z0 z1 z2 z3 z4 z5 z6 z7 z8 z9 z10) | (at_builtin; refine wpList_append_free rfl (.tmp 10) (.tmp 11) 35 rfl rfl HF3.out rfl [13, 10] 2 (HSRC.out W3) rfl ?_ HW3.out.size ?_; omega; intro g4 cp4 w4 hf4 hg4; have HX4 := Lib.hid (HX3.out.grown hg4 (fun e => by injection e with e; omega)); have HW4 := Lib.hid (HW3.out.grown hg4 HW3.out.size (fun k hk => by injection hk with hk; omega)); have HF4 := Lib.hid hf4; clear hf4 hg4))
    have z0 : w4.cell? ⟨w.heap.size, 0, none⟩ = some (.int .i64 x.v) := HX4.out.cell 0
    have hge4 := HF4.out.ge
    have hlt4 := HF4.out.lt
    clear hcv
    have hfd : ∀ (b : Bool) (W : World), (Instr.field 86 (.agg #[.int .i64 x.v, str (zeds r.places), .int .i64 r.least, .bool r.more, .bool r.noreply, .bool b]) 5).run Tryz.prog W = .ok (.bool b) W := fun _ _ => by kernel_rfl
    have hfd2 := hfd bk
    clear hfd
    cases bk with
    | false =>
      go_wp2_with (go_at_call 41; refine (HRO.out _).mono ?_; rintro e w5 ⟨rfl, hb5⟩; have HB5 := Lib.hid hb5; clear hb5)
      refine HYES.out _ _ _ _ ?_ (HW4.out.trans (HB5.out.mono HW4.out.size))
      have e : L ++ [13] ++ 10 :: (if false = true then x.c.data ++ [13, 10] else []) = L ++ [13, 10] := by simp
      rw [e]
      exact HF4.out.later HB5.out
    | true =>
      go_wp2_with (first | (go_at_call 41; refine (HRO.out _).mono ?_; rintro e w5 ⟨rfl, hb5⟩; have z6 : w5.cell? ⟨w.heap.size, 6, none⟩ = some (.slice x.D x.c.data.length x.dc) := (HX4.out.later hb5).cell 6; have hw5 := HW4.out.trans (hb5.mono HW4.out.size); have HF5 := Lib.hid (HF4.out.later hb5); have HDR := Lib.hid (HX.out.mem.data.below hw5); have HW5 := Lib.hid hw5; clear hb5 hw5 z0) | (at_builtin; refine wpList_append_free rfl (.tmp 17) (.tmp 19) 35 rfl rfl HF5.out rfl x.c.data x.c.data.length (src_row HDR.out HX.out.mem.nd) rfl ?_ HW5.out.size ?_; omega; intro g6 cp6 w6 hf6 hg6; have hw6 := HW5.out.grown hg6 HW5.out.size (fun k hk => by injection hk with hk; omega); have HF6 := Lib.hid (hf6.later ((Below.refl _ _).alloc (Nat.le_refl _) (.cells #[.int .u8 13, .int .u8 10] 5))); have HW6 := Lib.hid (hw6.alloc hw6.size (.cells #[.int .u8 13, .int .u8 10] 5)); clear hf6 hg6 hw6 z6) | (at_builtin; refine wpList_append_free rfl (.tmp 21) (.tmp 22) 35 rfl rfl HF6.out rfl [13, 10] 2 (HSRC.out w6) rfl ?_ HW6.out.size ?_; omega; intro g7 cp7 w7 hf7 hg7; have HW7 := Lib.hid (HW6.out.grown hg7 HW6.out.size (fun k hk => by injection hk with hk; have := HF6.out.ge; omega)); have HF7 := Lib.hid hf7; clear hf7 hg7))
      exact HYES.out _ _ _ _ (by simpa using HF7.out) HW7.out
end Go.Proofs.YthgfjafnclklpaaGreatDoor
