/- Walk of package reply's reader: refused. -/
import Derived.Test.YtnbeeehfapjpdaaGreatDoorVj
import Derived.Deep.RegionHeld3
namespace Go.Proofs.YtnbeeehfapjpdaaGreatDoor
attribute [local go_sem ↓] Go.wp_at_zero Go.wp_at_succ
open Go.RowKit

theorem refused_results {W : World} {b : Nat} {x : AnsX} (h : Blk W b 36 x.cells) (tm : Array Value) (t2 : tm[2]?.getD undef = .pointer (some ⟨b, 0, none⟩)) : (results Tryz.f67 tm).run Tryz.prog W = .ok x.val W := by
  have z0 := h.cell 0
  have z1 := h.cell 1
  have z2 := h.cell 2
  have z3 := h.cell 3
  have z4 := h.cell 4
  change _ = some _ at z0 z1 z2 z3 z4
  clear h
  simp [results, Tryz.results67, go_sem, t2, z0, z1, z2, z3, z4]
theorem cat_two (a b : Sp.Bs) : (({ data := a.toArray } : ByteArray) ++ { data := b.toArray }) = ⟨(a ++ b).toArray⟩ := by
  rw [← bytes_mk (({ data := a.toArray } : ByteArray) ++ { data := b.toArray })]
  congr 2
set_option maxHeartbeats 8000000 in
set_option maxRecDepth 100000 in
theorem refused_any {w : World} {rb : Nat} {A : Option Addr} {cap : Nat} {raw : Sp.Bs} {p : Nat} (h : RdAt w rb A cap raw p) :
    Calls Tryz.prog 67 #[.pointer (some ⟨rb, 0, none⟩)] w (ReadsTo w rb A cap raw (AnsK w.heap.size) (Sp.refusedR raw p)) := by
  obtain ⟨r, hr⟩ : ∃ r, r = Sp.refusedR raw p := ⟨_, rfl⟩
  rw [← hr]
  unfold Sp.refusedR at hr
  generalize hR : ReadsTo w rb A cap raw (AnsK w.heap.size) r = R
  have hlt := h.lt
  have hrf := fun W : World => refusals_any W
  obtain ⟨i1, hi1, hy0, hy1, hy2⟩ := info_parts (show (Tryz.prog.info? 9).map (fun i => (i.zero, i.size, i.bytes)) = some (some (.string ⟨#[]⟩), 1, 16) by kernel_rfl)
  have hal : Below w.heap.size w ((w.alloc (.cells #[.int .i64 0, .slice none 0 0, .int .u64 0, .string ⟨#[]⟩, .slice none 0 0] 36)).alloc (.cells #[.string ⟨#[69, 82, 82, 79, 82, 13, 10]⟩] 9)) := ((Below.refl _ _).alloc (Nat.le_refl _) _).alloc (by simp) _
  have hcb : Blk ((w.alloc (.cells #[.int .i64 0, .slice none 0 0, .int .u64 0, .string ⟨#[]⟩, .slice none 0 0] 36)).alloc (.cells #[.string ⟨#[69, 82, 82, 79, 82, 13, 10]⟩] 9)) w.heap.size 36 #[.int .i64 0, .slice none 0 0, .int .u64 0, .string ⟨#[]⟩, .slice none 0 0] := (Blk.new w _ _).alloc _
  have hbt := built_texts (w.alloc (.cells #[.int .i64 0, .slice none 0 0, .int .u64 0, .string ⟨#[]⟩, .slice none 0 0] 36)) [Sp.errorV ++ Sp.crlf] #[.string ⟨#[69, 82, 82, 79, 82, 13, 10]⟩] rfl 1 rfl (by decide)
  obtain ⟨W1, hW1⟩ : ∃ W1, W1 = (w.alloc (.cells #[.int .i64 0, .slice none 0 0, .int .u64 0, .string ⟨#[]⟩, .slice none 0 0] 36)).alloc (.cells #[.string ⟨#[69, 82, 82, 79, 82, 13, 10]⟩] 9) := ⟨_, rfl⟩
  rw [← hW1] at hal hcb hbt
  have hsz : (w.alloc (.cells #[.int .i64 0, .slice none 0 0, .int .u64 0, .string ⟨#[]⟩, .slice none 0 0] 36)).heap.size = w.heap.size + 1 := by simp
  rw [hsz] at hbt
  replace hbt := own_base (base' := w.heap.size) hbt (fun k hk => by have := own_ge hbt k (mem_rowBlock.2 hk); omega)
  have hrf1 := refusals_any W1
  have HR := Lib.hid hR
  have HH := Lib.hid h
  have HRF := Lib.hid hrf1
  have HAL := Lib.hid hal
  have HCB := Lib.hid hcb
  have HBT := Lib.hid hbt
  have HW1 := Lib.hid hW1
  have HRR := Lib.hid hr
  clear hR hr h hrf hrf1 hal hcb hbt hW1 hsz
  go_enter Tryz.func67, Tryz.ntmps67
  go_wp2_with fail
  rw [← HW1.out]
  refine HRF.out.mono ?_
  rintro e w2 ⟨g2, c2, rfl, hown2, hb2⟩
  have HOWN2 := Lib.hid hown2
  have HB2 := Lib.hid hb2
  have hs2 := hb2.size
  have hs1 := HAL.out.size
  clear hown2 hb2
  go_upto_region 2 with (at_builtin; refine wpList_append_row rfl (.tmp 6) (.tmp 7) _ rfl w.heap.size 9 i1 _ 1 16 Tryz.underlying27 hi1 hy0 hy1 hy2 rfl (by decide) (.slice (some ⟨w.heap.size + 1, 0, none⟩) 1 1) 1 ([Sp.errorV ++ Sp.crlf].map str) rfl (own_later HBT.out HB2.out) (some ⟨g2, 0, none⟩) 2 c2 ([Sp.clientErr, Sp.serverErr].map str) rfl W1.heap.size HOWN2.out ?_ ?_ ?_ ?_ ?_; (intro u hu; simp only [List.map_cons, List.map_nil, List.mem_cons, List.not_mem_nil, or_false] at hu; rcases hu with rfl | rfl <;> rfl); (unfold maxLen; omega); omega; omega; intro v3 w3 hown3 hg3 hat3; have HOWN3 := Lib.hid hown3; have HG3 := Lib.hid hg3; have HAT3 := Lib.hid hat3; clear hown3 hg3 hat3)
  have hge3 : ∀ k ∈ rowBlock v3, w.heap.size ≤ k := own_ge HOWN3.out
  have hog : OnlyIn (rowBlock (.slice (some ⟨w.heap.size + 1, 0, none⟩) 1 1)) w2 w3 := OnlyIn.grown HG3.out
  have hb3 : OnlyIn [rb] w w3 := ((OnlyIn.of HAL.out [rb]).later HB2.out).trans hog (fun k hk => by simp [rowBlock, Value.ownBlock] at hk; omega)
  have hcb3 : Blk w3 w.heap.size 36 #[.int .i64 0, .slice none 0 0, .int .u64 0, .string ⟨#[]⟩, .slice none 0 0] := (HCB.out.later HB2.out).same (hog.block _ (HCB.out.later HB2.out).lt (by simp [rowBlock, Value.ownBlock]))
  have hrd3 : RdAt w3 rb A cap raw p := ((HH.out.later HAL.out).later HB2.out).only hog (fun k hk => by simp [rowBlock, Value.ownBlock] at hk; omega)
  obtain ⟨gt, tc, hv3⟩ : ∃ gt tc, v3 = .slice (some ⟨gt, 0, none⟩) 3 tc := by
    obtain ⟨T, tc, hv⟩ := own_form HOWN3.out
    have h3 := HOWN3.out
    rw [hv] at h3
    obtain ⟨g, hg⟩ := own_some h3 (by decide)
    exact ⟨g, tc, by rw [hv, hg]⟩
  subst hv3
  have hown3 : w3.ownsRow w.heap.size 9 1 (.slice (some ⟨gt, 0, none⟩) 3 tc) 3 (Sp.refusals.map str) := HOWN3.out
  have hch := choose_any (tc := tc) (ts := Sp.refusals) hrd3 (RowAt.of_own hown3) (by decide) (by decide)
  have hrr := HRR.out
  have HO3 := Lib.hid hb3
  have HCB3 := Lib.hid hcb3
  have HX3 := Lib.hid hrd3
  have HTS3 := Lib.hid hown3
  clear hge3 hog hb3 hcb3 hrd3 hown3 HOWN3 HG3 HAT3 HRR
  cases hcv : Sp.chooseV raw p Sp.refusals with
  | more =>
    rw [hcv] at hrr hch
    have HQ := Lib.hid hch
    have HG := Lib.hid hrr
    clear hch hrr hcv
    go_wp2_with (go_at_call 112; refine HQ.out.mono ?_; rintro e wz ⟨hoz, rfl, _⟩; have HOZ := Lib.hid hoz; clear hoz)
    refine ⟨rfl, ?_⟩
    rw [← HR.out, HG.out]
    exact ⟨HO3.out.rd HOZ.out, rfl⟩
  | fail =>
    rw [hcv] at hrr hch
    have HQ := Lib.hid hch
    have HG := Lib.hid hrr
    clear hch hrr hcv
    go_wp2_with (go_at_call 112; refine HQ.out.mono ?_; rintro e wz ⟨hoz, rfl, _⟩; have HOZ := Lib.hid hoz; clear hoz)
    refine ⟨rfl, ?_⟩
    rw [← HR.out, HG.out]
    exact ⟨HO3.out.rd HOZ.out, rfl⟩
  | got i q =>
    obtain ⟨s0, hs0, _, hq⟩ := Sp.choose_reads hcv
    rw [hcv] at hrr hch
    change r = (if i = 0 then Sp.RdV.got ({ kind := 11, text := Sp.errorV } : Sp.AnswerV) q else _) at hrr
    by_cases h0 : i = 0
    · rw [if_pos h0] at hrr
      have g1 : ((i : Int) == 0) = true := by rw [h0]; rfl
      have HQ := Lib.hid hch
      have HG := Lib.hid hrr
      clear hch hrr hcv h0 hs0 hq
      go_wp2_with (go_at_call 112; refine HQ.out.mono ?_; rintro e w4 ⟨ho4, rfl, hx4⟩; have hcb4 := HCB3.out.same (ho4.block _ HCB3.out.lt (by simp; omega)); have HCB4 := Lib.hid hcb4; have z0 := hcb4.cell 0; have z1 := hcb4.cell 1; have z2 := hcb4.cell 2; have z3 := hcb4.cell 3; have z4 := hcb4.cell 4; have f0 := hcb4.frozen 0; have f1 := hcb4.frozen 1; have f2 := hcb4.frozen 2; have f3 := hcb4.frozen 3; have f4 := hcb4.frozen 4; simp only [List.getElem?_toArray, List.getElem?_cons_zero, List.getElem?_cons_succ] at z0 z1 z2 z3 z4; have HO4 := Lib.hid (HO3.out.rd ho4); have HX4 := Lib.hid hx4; clear ho4 hx4 hcb4)
      change bodyPost _ _ _ _ _ (ansPut w4 w.heap.size { kind := 11, text := Sp.errorV })
      refine bodyPost_ret (refused_results (ansPut_blk HCB4.out _) _ rfl) rfl ?_
      rw [← HR.out, HG.out]
      exact ⟨HO4.out.trans (ansPut_only _ _ _) (by simp), ⟨{ kind := 11, text := Sp.errorV }, rfl, rfl, AnsOwn.bare _ _ rfl rfl rfl rfl rfl rfl⟩, HX4.out.only (ansPut_only _ _ _) (by simpa using hlt)⟩
    · rw [if_neg h0] at hrr
      change r = (Sp.textR raw q).next _ at hrr
      have hgd : Sp.refusals.getD i [] = s0 := by rw [List.getD_eq_getElem?_getD, hs0]; rfl
      rw [hgd] at hrr
      have g1 : ((i : Int) == 0) = false := by simp; omega
      have hil : i < 3 := (List.getElem?_eq_some_iff.1 hs0).1
      have hil2 : (i : Int) < 3 := by omega
      have hs0l : s0.length ≤ 100 := by
        have : ∀ s ∈ Sp.refusals, s.length ≤ 100 := by decide
        exact this s0 (List.mem_of_getElem? hs0)
      have HQ := Lib.hid hch
      have HG := Lib.hid hrr
      have HS0 := Lib.hid hs0
      clear hch hrr hcv h0 hs0 hq hgd
      go_upto_region 5 with (go_at_call 112; refine HQ.out.mono ?_; rintro e w4 ⟨ho4, rfl, hx4⟩; have hcb4 := HCB3.out.same (ho4.block _ HCB3.out.lt (by simp; omega)); have hcell := own_textCell (own_only HTS3.out ho4 (by simpa using hlt)) HS0.out; have HCB4 := Lib.hid hcb4; have HO4 := Lib.hid (HO3.out.rd ho4); have HX4 := Lib.hid hx4; have HTS4 := Lib.hid (own_only HTS3.out ho4 (by simpa using hlt)); clear ho4 hx4 hcb4)
      have hkeep : ∀ W : World, OnlyIn [rb] w4 W → W.cell? ⟨gt, i, none⟩ = some (str s0) := fun W hW => own_textCell (own_only HTS4.out hW (by simpa using hlt)) HS0.out
      have htx := fun (W : World) (hW : Below w4.heap.size w4 W) => text_any (HX4.out.later hW)
      have HKEEP := Lib.hid hkeep
      have hrr := HG.out
      clear hkeep HQ HG hcell
      cases htv : Sp.textR raw q with
      | more =>
        rw [htv] at hrr htx
        have HTX := Lib.hid htx
        have HG := Lib.hid hrr
        clear hrr htx htv
        have hcd : w4.drew.cell? ⟨gt, i, none⟩ = some (str s0) := HKEEP.out _ (OnlyIn.of (Below.refl _ _).drew _)
        refine wp_region_held_drew (S := (fun w' => w'.cell? ⟨gt, i, none⟩ = some (str s0))) (by kernel_rfl) (by first | exact hk5 | exact HKEEP.out _ (OnlyIn.of (Below.refl _ _).drew _) | exact HKEEP.out _ (OnlyIn.refl _ _)) (fun hHeld => ?_)
        refine wpAnyH_take (i := 0) (oi := ({ dst := some 15, op := Op.move (Operand.tmp 3), type := 27, pos := "read.go:147", after := #[], guard := none } : Oper)) (v := ?v_1) rfl (by kernel_rfl) (by kernel_rfl) (by kernel_rfl) (fun _ _ _ h => h) (Or.inl ⟨by rfl, ?hy_1⟩) (by assumption) ?rest_1
        case hy_1 => (intro w hSw; (try dsimp only at hSw); go_simp; try with_reducible rfl)
        try simp only [Act.put, List.setIfInBounds_toArray, List.set_cons_zero, List.set_cons_succ]
        refine wpAnyH_take (i := 1) (oi := ({ dst := some 16, op := Op.move (Operand.tmp 4), type := 3, pos := "read.go:147", after := #[], guard := none } : Oper)) (v := ?v_2) rfl (by kernel_rfl) (by kernel_rfl) (by kernel_rfl) (fun _ _ _ h => h) (Or.inl ⟨by rfl, ?hy_2⟩) (by assumption) ?rest_2
        case hy_2 => (intro w hSw; (try dsimp only at hSw); go_simp; try with_reducible rfl)
        try simp only [Act.put, List.setIfInBounds_toArray, List.set_cons_zero, List.set_cons_succ]
        refine wpAnyH_take (i := 2) (oi := ({ dst := some 17, op := Op.indexAddr 27 (Operand.tmp 15) (Operand.tmp 16), type := 0, pos := "read.go:147", after := #[{ on := 0, ground := Ground.data }, { on := 1, ground := Ground.data }], guard := none } : Oper)) (v := ?v_3) rfl (by kernel_rfl) (by kernel_rfl) (by kernel_rfl) (fun _ _ _ h => h) (Or.inl ⟨by rfl, ?hy_3⟩) (by assumption) ?rest_3
        case hy_3 => (intro w hSw; (try dsimp only at hSw); go_simp; try with_reducible rfl)
        try simp only [Act.put, List.setIfInBounds_toArray, List.set_cons_zero, List.set_cons_succ]
        refine wpAnyH_take (i := 3) (oi := ({ dst := some 18, op := Op.load 9 (Operand.tmp 17), type := 9, pos := "read.go:147", after := #[{ on := 2, ground := Ground.data }], guard := none } : Oper)) (v := ?v_4) rfl (by kernel_rfl) (by kernel_rfl) (by kernel_rfl) (fun _ _ _ h => h) (Or.inl ⟨by rfl, ?hy_4⟩) (by assumption) ?rest_4
        case hy_4 => (intro w hSw; (try dsimp only at hSw); go_simp; try with_reducible rfl)
        try simp only [Act.put, List.setIfInBounds_toArray, List.set_cons_zero, List.set_cons_succ]
        refine wpAnyH_take (i := 4) (oi := ({ dst := some 19, op := Op.move (Operand.tmp 0), type := 114, pos := "read.go:147", after := #[], guard := none } : Oper)) (v := ?v_5) rfl (by kernel_rfl) (by kernel_rfl) (by kernel_rfl) (fun _ _ _ h => h) (Or.inl ⟨by rfl, ?hy_5⟩) (by assumption) ?rest_5
        case hy_5 => (intro w hSw; (try dsimp only at hSw); go_simp; try with_reducible rfl)
        try simp only [Act.put, List.setIfInBounds_toArray, List.set_cons_zero, List.set_cons_succ]
        refine wpAnyH_ready (rs := [5]) (by kernel_rfl) (by simp) ?_
        refine AllReadyH.cons (o := ({ dst := some 20, op := Op.call { callee := Callee.value (Operand.func 110), args := #[Operand.tmp 19], argTypes := #[114] }, type := 9, pos := "read.go:147", after := #[{ on := 4, ground := Ground.data }], guard := none } : Oper)) rfl (fun K' hK' => ?_) AllReadyH.nil
        go_simp
        (go_at_call 110; refine (HTX.out _ (by exact (Below.refl _ _).drew)).mono ?_; rintro e w5 ⟨ho5, rfl, _⟩; have HO5 := Lib.hid (((HO4.out.later (Below.refl _ _).drew)).rd ho5); clear ho5)
        refine ⟨rfl, ?_⟩
        rw [← HR.out, HG.out]
        exact ⟨HO5.out, rfl⟩
      | fail =>
        rw [htv] at hrr htx
        have HTX := Lib.hid htx
        have HG := Lib.hid hrr
        clear hrr htx htv
        have hcd : w4.drew.cell? ⟨gt, i, none⟩ = some (str s0) := HKEEP.out _ (OnlyIn.of (Below.refl _ _).drew _)
        refine wp_region_held_drew (S := (fun w' => w'.cell? ⟨gt, i, none⟩ = some (str s0))) (by kernel_rfl) (by first | exact hk5 | exact HKEEP.out _ (OnlyIn.of (Below.refl _ _).drew _) | exact HKEEP.out _ (OnlyIn.refl _ _)) (fun hHeld => ?_)
        refine wpAnyH_take (i := 0) (oi := ({ dst := some 15, op := Op.move (Operand.tmp 3), type := 27, pos := "read.go:147", after := #[], guard := none } : Oper)) (v := ?v_6) rfl (by kernel_rfl) (by kernel_rfl) (by kernel_rfl) (fun _ _ _ h => h) (Or.inl ⟨by rfl, ?hy_6⟩) (by assumption) ?rest_6
        case hy_6 => (intro w hSw; (try dsimp only at hSw); go_simp; try with_reducible rfl)
        try simp only [Act.put, List.setIfInBounds_toArray, List.set_cons_zero, List.set_cons_succ]
        refine wpAnyH_take (i := 1) (oi := ({ dst := some 16, op := Op.move (Operand.tmp 4), type := 3, pos := "read.go:147", after := #[], guard := none } : Oper)) (v := ?v_7) rfl (by kernel_rfl) (by kernel_rfl) (by kernel_rfl) (fun _ _ _ h => h) (Or.inl ⟨by rfl, ?hy_7⟩) (by assumption) ?rest_7
        case hy_7 => (intro w hSw; (try dsimp only at hSw); go_simp; try with_reducible rfl)
        try simp only [Act.put, List.setIfInBounds_toArray, List.set_cons_zero, List.set_cons_succ]
        refine wpAnyH_take (i := 2) (oi := ({ dst := some 17, op := Op.indexAddr 27 (Operand.tmp 15) (Operand.tmp 16), type := 0, pos := "read.go:147", after := #[{ on := 0, ground := Ground.data }, { on := 1, ground := Ground.data }], guard := none } : Oper)) (v := ?v_8) rfl (by kernel_rfl) (by kernel_rfl) (by kernel_rfl) (fun _ _ _ h => h) (Or.inl ⟨by rfl, ?hy_8⟩) (by assumption) ?rest_8
        case hy_8 => (intro w hSw; (try dsimp only at hSw); go_simp; try with_reducible rfl)
        try simp only [Act.put, List.setIfInBounds_toArray, List.set_cons_zero, List.set_cons_succ]
        refine wpAnyH_take (i := 3) (oi := ({ dst := some 18, op := Op.load 9 (Operand.tmp 17), type := 9, pos := "read.go:147", after := #[{ on := 2, ground := Ground.data }], guard := none } : Oper)) (v := ?v_9) rfl (by kernel_rfl) (by kernel_rfl) (by kernel_rfl) (fun _ _ _ h => h) (Or.inl ⟨by rfl, ?hy_9⟩) (by assumption) ?rest_9
        case hy_9 => (intro w hSw; (try dsimp only at hSw); go_simp; try with_reducible rfl)
        try simp only [Act.put, List.setIfInBounds_toArray, List.set_cons_zero, List.set_cons_succ]
        refine wpAnyH_take (i := 4) (oi := ({ dst := some 19, op := Op.move (Operand.tmp 0), type := 114, pos := "read.go:147", after := #[], guard := none } : Oper)) (v := ?v_10) rfl (by kernel_rfl) (by kernel_rfl) (by kernel_rfl) (fun _ _ _ h => h) (Or.inl ⟨by rfl, ?hy_10⟩) (by assumption) ?rest_10
        case hy_10 => (intro w hSw; (try dsimp only at hSw); go_simp; try with_reducible rfl)
        try simp only [Act.put, List.setIfInBounds_toArray, List.set_cons_zero, List.set_cons_succ]
        refine wpAnyH_ready (rs := [5]) (by kernel_rfl) (by simp) ?_
        refine AllReadyH.cons (o := ({ dst := some 20, op := Op.call { callee := Callee.value (Operand.func 110), args := #[Operand.tmp 19], argTypes := #[114] }, type := 9, pos := "read.go:147", after := #[{ on := 4, ground := Ground.data }], guard := none } : Oper)) rfl (fun K' hK' => ?_) AllReadyH.nil
        go_simp
        (go_at_call 110; refine (HTX.out _ (by exact (Below.refl _ _).drew)).mono ?_; rintro e w5 ⟨ho5, rfl, _⟩; have HO5 := Lib.hid (((HO4.out.later (Below.refl _ _).drew)).rd ho5); clear ho5)
        refine ⟨rfl, ?_⟩
        rw [← HR.out, HG.out]
        exact ⟨HO5.out, rfl⟩
      | got s q2 =>
        obtain ⟨_, _, hpl⟩ := Sp.text_reads htv
        have hsl := (Sp.plain_last hpl).1
        rw [htv] at hrr htx
        change r = (Sp.wantV raw q2 Sp.crlf).next _ at hrr
        obtain ⟨zb, hzb⟩ : ∃ zb : ByteArray, zb = ({ data := s0.toArray } : ByteArray) ++ { data := s.toArray } := ⟨_, rfl⟩
        have hzs : zb = ⟨(s0 ++ s).toArray⟩ := by rw [hzb]; exact cat_two s0 s
        have hcat := hzb.symm
        have hnb : ¬ (9223372036854775807 < s0.length + s.length) := by omega
        have HZS := Lib.hid hzs
        have HTX := Lib.hid htx
        have HG := Lib.hid hrr
        clear hrr htx htv hzb hzs hpl
        have hcd : w4.drew.cell? ⟨gt, i, none⟩ = some (str s0) := HKEEP.out _ (OnlyIn.of (Below.refl _ _).drew _)
        refine wp_region_held_drew (S := (fun w' => w'.cell? ⟨gt, i, none⟩ = some (str s0))) (by kernel_rfl) (by first | exact hk5 | exact HKEEP.out _ (OnlyIn.of (Below.refl _ _).drew _) | exact HKEEP.out _ (OnlyIn.refl _ _)) (fun hHeld => ?_)
        refine wpAnyH_take (i := 0) (oi := ({ dst := some 15, op := Op.move (Operand.tmp 3), type := 27, pos := "read.go:147", after := #[], guard := none } : Oper)) (v := ?v_11) rfl (by kernel_rfl) (by kernel_rfl) (by kernel_rfl) (fun _ _ _ h => h) (Or.inl ⟨by rfl, ?hy_11⟩) (by assumption) ?rest_11
        case hy_11 => (intro w hSw; (try dsimp only at hSw); go_simp; try with_reducible rfl)
        try simp only [Act.put, List.setIfInBounds_toArray, List.set_cons_zero, List.set_cons_succ]
        refine wpAnyH_take (i := 1) (oi := ({ dst := some 16, op := Op.move (Operand.tmp 4), type := 3, pos := "read.go:147", after := #[], guard := none } : Oper)) (v := ?v_12) rfl (by kernel_rfl) (by kernel_rfl) (by kernel_rfl) (fun _ _ _ h => h) (Or.inl ⟨by rfl, ?hy_12⟩) (by assumption) ?rest_12
        case hy_12 => (intro w hSw; (try dsimp only at hSw); go_simp; try with_reducible rfl)
        try simp only [Act.put, List.setIfInBounds_toArray, List.set_cons_zero, List.set_cons_succ]
        refine wpAnyH_take (i := 2) (oi := ({ dst := some 17, op := Op.indexAddr 27 (Operand.tmp 15) (Operand.tmp 16), type := 0, pos := "read.go:147", after := #[{ on := 0, ground := Ground.data }, { on := 1, ground := Ground.data }], guard := none } : Oper)) (v := ?v_13) rfl (by kernel_rfl) (by kernel_rfl) (by kernel_rfl) (fun _ _ _ h => h) (Or.inl ⟨by rfl, ?hy_13⟩) (by assumption) ?rest_13
        case hy_13 => (intro w hSw; (try dsimp only at hSw); go_simp; try with_reducible rfl)
        try simp only [Act.put, List.setIfInBounds_toArray, List.set_cons_zero, List.set_cons_succ]
        refine wpAnyH_take (i := 3) (oi := ({ dst := some 18, op := Op.load 9 (Operand.tmp 17), type := 9, pos := "read.go:147", after := #[{ on := 2, ground := Ground.data }], guard := none } : Oper)) (v := ?v_14) rfl (by kernel_rfl) (by kernel_rfl) (by kernel_rfl) (fun _ _ _ h => h) (Or.inl ⟨by rfl, ?hy_14⟩) (by assumption) ?rest_14
        case hy_14 => (intro w hSw; (try dsimp only at hSw); go_simp; try with_reducible rfl)
        try simp only [Act.put, List.setIfInBounds_toArray, List.set_cons_zero, List.set_cons_succ]
        refine wpAnyH_take (i := 4) (oi := ({ dst := some 19, op := Op.move (Operand.tmp 0), type := 114, pos := "read.go:147", after := #[], guard := none } : Oper)) (v := ?v_15) rfl (by kernel_rfl) (by kernel_rfl) (by kernel_rfl) (fun _ _ _ h => h) (Or.inl ⟨by rfl, ?hy_15⟩) (by assumption) ?rest_15
        case hy_15 => (intro w hSw; (try dsimp only at hSw); go_simp; try with_reducible rfl)
        try simp only [Act.put, List.setIfInBounds_toArray, List.set_cons_zero, List.set_cons_succ]
        refine wpAnyH_ready (rs := [5]) (by kernel_rfl) (by simp) ?_
        refine AllReadyH.cons (o := ({ dst := some 20, op := Op.call { callee := Callee.value (Operand.func 110), args := #[Operand.tmp 19], argTypes := #[114] }, type := 9, pos := "read.go:147", after := #[{ on := 4, ground := Ground.data }], guard := none } : Oper)) rfl (fun K' hK' => ?_) AllReadyH.nil
        go_simp
        (go_at_call 110; refine (HTX.out _ (by exact (Below.refl _ _).drew)).mono ?_; rintro e w5 ⟨ho5, rfl, hx5⟩; have hk5 := HKEEP.out _ ((OnlyIn.of (Below.refl _ _).drew _).rd ho5); have HO5 := Lib.hid (((HO4.out.later (Below.refl _ _).drew)).rd ho5); have HX5 := Lib.hid hx5; have HOK := Lib.hid ((OnlyIn.of (Below.refl w4.heap.size w4).drew [rb]).rd ho5); clear ho5 hx5)
        refine hK'.out _ _ (by first | exact hk5 | exact HKEEP.out _ (OnlyIn.of (Below.refl _ _).drew _) | exact HKEEP.out _ (OnlyIn.refl _ _)) (fun hHeld1 => ?_)
        clear hK' K' hHeld
        try simp only [Act.put, List.setIfInBounds_toArray, List.set_cons_zero, List.set_cons_succ]
        refine wpAnyH_take (i := 6) (oi := ({ dst := some 21, op := Op.binOp BinOp.add 9 (Operand.tmp 18) (Operand.tmp 20) 9, type := 9, pos := "read.go:147", after := #[{ on := 3, ground := Ground.data }, { on := 5, ground := Ground.data }], guard := none } : Oper)) (v := ?v_16) rfl (by kernel_rfl) (by kernel_rfl) (by kernel_rfl) (fun _ _ _ h => h) (Or.inl ⟨by rfl, ?hy_16⟩) (by assumption) ?rest_16
        case hy_16 => (intro w hSw; (try dsimp only at hSw); go_simp; try with_reducible rfl)
        try simp only [Act.put, List.setIfInBounds_toArray, List.set_cons_zero, List.set_cons_succ]
        refine wpAnyH_take (i := 7) (oi := ({ dst := some 5, op := Op.assign (Operand.tmp 21), type := 9, pos := "read.go:147", after := #[{ on := 6, ground := Ground.data }, { on := 5, ground := Ground.chain }, { on := 0, ground := Ground.phase }, { on := 1, ground := Ground.phase }, { on := 2, ground := Ground.phase }, { on := 3, ground := Ground.phase }, { on := 4, ground := Ground.phase }, { on := 5, ground := Ground.phase }, { on := 6, ground := Ground.phase }], guard := none } : Oper)) (v := ?v_17) rfl (by kernel_rfl) (by kernel_rfl) (by kernel_rfl) (fun _ _ _ h => h) (Or.inl ⟨by rfl, ?hy_17⟩) (by assumption) ?rest_17
        case hy_17 => (intro w hSw; (try dsimp only at hSw); go_simp; try with_reducible rfl)
        try simp only [Act.put, List.setIfInBounds_toArray, List.set_cons_zero, List.set_cons_succ]
        refine wpAnyH_done (by kernel_rfl) ?_ _
        have hw := readerWant_any HX5.out Sp.crlf (by decide)
        have hcb5 : Blk w5 w.heap.size 36 #[.int .i64 0, .slice none 0 0, .int .u64 0, .string ⟨#[]⟩, .slice none 0 0] := HCB4.out.same (HOK.out.block _ HCB4.out.lt (by simp; omega))
        have HCB5 := Lib.hid hcb5
        have hrr := HG.out
        clear hcb5 hk5 hcat hnb hcd HTX HG
        cases hcv : Sp.wantV raw q2 Sp.crlf with
        | more =>
          rw [hcv] at hrr hw
          have HQ := Lib.hid hw
          have HG := Lib.hid hrr
          clear hw hrr hcv
          go_wp2_with (go_at_call 109; refine HQ.out.mono ?_; rintro e wz ⟨hoz, rfl, _⟩; have HOZ := Lib.hid hoz; clear hoz)
          refine ⟨rfl, ?_⟩
          rw [← HR.out, HG.out]
          exact ⟨HO5.out.rd HOZ.out, rfl⟩
        | fail =>
          rw [hcv] at hrr hw
          have HQ := Lib.hid hw
          have HG := Lib.hid hrr
          clear hw hrr hcv
          go_wp2_with (go_at_call 109; refine HQ.out.mono ?_; rintro e wz ⟨hoz, rfl, _⟩; have HOZ := Lib.hid hoz; clear hoz)
          refine ⟨rfl, ?_⟩
          rw [← HR.out, HG.out]
          exact ⟨HO5.out.rd HOZ.out, rfl⟩
        | got u q3 =>
          rw [hcv] at hrr hw
          have HQ := Lib.hid hw
          have HG := Lib.hid hrr
          clear hw hrr hcv
          go_wp2_with (go_at_call 109; refine HQ.out.mono ?_; rintro e w6 ⟨ho6, rfl, hx6⟩; have hcb6 := HCB5.out.same (ho6.block _ HCB5.out.lt (by simp; omega)); have HCB6 := Lib.hid hcb6; have z0 := hcb6.cell 0; have z1 := hcb6.cell 1; have z2 := hcb6.cell 2; have z3 := hcb6.cell 3; have z4 := hcb6.cell 4; have f0 := hcb6.frozen 0; have f1 := hcb6.frozen 1; have f2 := hcb6.frozen 2; have f3 := hcb6.frozen 3; have f4 := hcb6.frozen 4; simp only [List.getElem?_toArray, List.getElem?_cons_zero, List.getElem?_cons_succ] at z0 z1 z2 z3 z4; have HO6 := Lib.hid (HO5.out.rd ho6); have HX6 := Lib.hid hx6; clear ho6 hx6 hcb6)
          rw [HZS.out]
          change bodyPost _ _ _ _ _ (ansPut w6 w.heap.size { kind := 11, text := s0 ++ s })
          refine bodyPost_ret (refused_results (ansPut_blk HCB6.out _) _ rfl) rfl ?_
          rw [← HR.out, HG.out]
          exact ⟨HO6.out.trans (ansPut_only _ _ _) (by simp), ⟨{ kind := 11, text := s0 ++ s }, rfl, rfl, AnsOwn.bare _ _ rfl rfl rfl rfl rfl rfl⟩, HX6.out.only (ansPut_only _ _ _) (by simpa using hlt)⟩
end Go.Proofs.YtnbeeehfapjpdaaGreatDoor
