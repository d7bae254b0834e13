/- Walk of package reply's reader: coded. -/
import Derived.Test.YtnbeeehfapjpdaaGreatDoorVh
namespace Go.Proofs.YtnbeeehfapjpdaaGreatDoor
attribute [local go_sem ↓] Go.wp_at_zero Go.wp_at_succ
open Go.RowKit

/-- an answer that was read: of the call's own -/
def AnsK (base : Nat) (a : Sp.AnswerV) (e : Ending) (w' : World) : Prop := ∃ x : AnsX, x.v = a ∧ e = .returned x.val ∧ AnsOwn w' base x
theorem RdAt.put {w : World} {rb : Nat} {A : Option Addr} {cap : Nat} {raw : Sp.Bs} {p : Nat} (h : RdAt w rb A cap raw p) {g : Nat} (hg : rb < g) (i : Nat) (u : Value) : RdAt (w.setCell ⟨g, i, none⟩ u) rb A cap raw p :=
  h.only (OnlyIn.put w g i u) (by simpa using hg)
/-- an answer, stored into a box -/
abbrev ansPut (W : World) (b : Nat) (x : AnsX) : World := ((((W.setCell ⟨b, 0, none⟩ (.int .i64 x.kind)).setCell ⟨b, 1, none⟩ (.slice x.E x.xs.length x.ec)).setCell ⟨b, 2, none⟩ (.int .u64 x.number)).setCell ⟨b, 3, none⟩ (str x.text)).setCell ⟨b, 4, none⟩ (.slice x.S x.stats.length x.sc)
theorem ansPut_blk {W : World} {b : Nat} {t : TypeId} {c0 c1 c2 c3 c4 : Value} (h : Blk W b t #[c0, c1, c2, c3, c4]) (x : AnsX) : Blk (ansPut W b x) b t x.cells := ((((h.put 0 _).put 1 _).put 2 _).put 3 _).put 4 _
theorem ansPut_only (W : World) (b : Nat) (x : AnsX) : OnlyIn [b] W (ansPut W b x) := by
  have hm : b ∈ [b] ∨ W.heap.size ≤ b := .inl (List.mem_singleton.2 rfl)
  exact ((((OnlyIn.put W b 0 _).setCell hm 1 _).setCell hm 2 _).setCell hm 3 _).setCell hm 4 _
theorem coded_results {W : World} {b : Nat} {x : AnsX} (h : Blk W b 36 x.cells) (tm : Array Value) (t4 : tm[4]?.getD undef = .pointer (some ⟨b, 0, none⟩)) : (results Tryz.f107 tm).run Tryz.prog W = .ok x.val W := by
  have z0 := h.cell 0
  have z1 := h.cell 1
  have z2 := h.cell 2
  have z3 := h.cell 3
  have z4 := h.cell 4
  change _ = some _ at z0 z1 z2 z3 z4
  clear h
  simp [results, Tryz.results107, go_sem, t4, z0, z1, z2, z3, z4]
/-- entries of the call's own, when another box is stored into -/
theorem ents_far {W W' : World} {base : Nat} {v : Value} {xs : List EntX} (h : EntsOwn W base v xs) {b : Nat} {cs : Array Value} (hb : Blk W b 36 cs) (ho : OnlyIn [b] W W') : EntsOwn W' base v xs := by
  refine ⟨own_same h.row fun k hk => ho.block k (own_lt h.row k hk) fun hm => ?_, fun x hx => own_same (h.each x hx) fun k hk => ho.block k (own_lt (h.each x hx) k hk) fun hm => ?_, h.apart⟩
  · have h1 : k = b := by simpa using hm
    exact own_apart h.row hb (by decide) (by rw [← h1]; exact mem_rowBlock.1 hk)
  · have h1 : k = b := by simpa using hm
    exact own_apart (h.each x hx) hb (by decide) (by rw [← h1]; exact mem_rowBlock.1 hk)
theorem own_textCell {w : World} {base g n c : Nat} {l : List Sp.Bs} (h : w.ownsRow base 9 1 (.slice (some ⟨g, 0, none⟩) n c) n (l.map str)) {i : Nat} {s : Sp.Bs} (hs : l[i]? = some s) : w.cell? ⟨g, i, none⟩ = some (str s) := by
  have hm : (l.map str)[i]? = some (str s) := by rw [List.getElem?_map, hs]; rfl
  rcases RowAt.of_own h with h0 | ⟨b, o, h1, h2, h3⟩
  · rw [h0] at hm; cases hm
  · injection h1 with h1
    injection h1 with h1 h4
    have := h3 i (str s) hm
    rwa [← h1, ← h4, Nat.zero_add] at this
set_option maxHeartbeats 8000000 in
set_option maxRecDepth 100000 in
theorem coded_any {w : World} {rb : Nat} {A : Option Addr} {cap : Nat} {raw : Sp.Bs} {p : Nat} (h : RdAt w rb A cap raw p) (v : Int) :
    Calls Tryz.prog 107 #[.pointer (some ⟨rb, 0, none⟩), .int .i64 v] w (ReadsTo w rb A cap raw (AnsK w.heap.size) (Sp.codedR raw v p)) := by
  obtain ⟨r, hr⟩ : ∃ r, r = Sp.codedR raw v p := ⟨_, rfl⟩
  rw [← hr]
  unfold Sp.codedR at hr
  generalize hR : ReadsTo w rb A cap raw (AnsK w.heap.size) r = R
  have hlt := h.lt
  have hsm := h.small
  have hroom := h.room
  have hf := fun W : World => readerFail_any W rb
  have hc := fun W : World => codes_any v W
  have hshort : ∀ s ∈ Sp.codesV v, s.length ≤ 100000 := by
    intro s hs
    unfold Sp.codesV at hs
    repeat' split at hs
    all_goals simp only [List.mem_cons, List.not_mem_nil, or_false] at hs
    all_goals (first | (rcases hs with rfl | rfl | rfl | rfl | rfl <;> decide) | (rcases hs with rfl | rfl | rfl | rfl <;> decide) | (rcases hs with rfl | rfl | rfl <;> decide) | (rcases hs with rfl | rfl <;> decide) | (subst hs; decide))
  have hfew : (Sp.codesV v).length ≤ 10 := by
    unfold Sp.codesV
    repeat' split
    all_goals decide
  obtain ⟨cs, hcs⟩ : ∃ cs, cs = Sp.codesV v := ⟨_, rfl⟩
  have hrest2 : ∀ i q, Sp.codedRest raw v p i q = Sp.codedRest raw v p i q := fun _ _ => rfl
  rw [← hcs] at hc hshort hfew hr
  have HR := Lib.hid hR
  have HF := Lib.hid hf
  have HC := Lib.hid hc
  have HSH := Lib.hid hshort
  have HH := Lib.hid h
  have HRR := Lib.hid hr
  have HCS := Lib.hid hcs
  clear hR hr h hf hc hshort hrest2 hcs
  go_enter Tryz.func107, Tryz.ntmps107
  go_upto_region 2 with (go_at_call 87; refine (HC.out _).mono ?_; rintro e w1 ⟨g, c, rfl, hown1, hb1⟩; have HOWN1 := Lib.hid hown1; have HB1 := Lib.hid hb1; clear hown1 hb1)
  have hbl0 : Below w.heap.size w (w.alloc (.cells #[.int .i64 0, .slice none 0 0, .int .u64 0, .string ⟨#[]⟩, .slice none 0 0] 36)) := (Below.refl _ _).alloc (Nat.le_refl _) _
  have hb1 : Below w.heap.size w w1 := hbl0.trans (HB1.out.mono hbl0.size)
  have hcb1 : Blk w1 w.heap.size 36 #[.int .i64 0, .slice none 0 0, .int .u64 0, .string ⟨#[]⟩, .slice none 0 0] := (Blk.new w _ _).later HB1.out
  have hown1 := own_base (base' := w.heap.size) HOWN1.out (fun k hk => by have := own_ge HOWN1.out k (by rw [mem_rowBlock]; exact hk); have := hbl0.size; omega)
  have hge1 : w.heap.size + 1 ≤ g := by
    have := own_ge HOWN1.out g (by simp [rowBlock, Value.ownBlock])
    simpa using this
  have hx1 := HH.out.later hb1
  have x1 : w1.cell? ⟨rb, 1, none⟩ = some (.int .i64 p) := hx1.blk.cell 1
  have x1f := hx1.blk.frozen 1
  have hch := choose_any (tc := c) hx1 (RowAt.of_own hown1) (by omega) HSH.out
  have hrr := HRR.out
  have HX1 := Lib.hid hx1
  have HCB1 := Lib.hid hcb1
  have HOWN1' := Lib.hid hown1
  have HB1' := Lib.hid hb1
  clear hbl0 hb1 hcb1 hown1 hx1 HOWN1 HB1 HRR
  cases hcv : Sp.chooseV raw p cs with
  | more =>
    rw [hcv] at hrr hch
    have HCH := Lib.hid hch
    have HG := Lib.hid hrr
    clear hch hrr hcv
    go_wp2_with (go_at_call 112; refine HCH.out.mono ?_; rintro e w2 ⟨ho2, rfl, _⟩; have HO2 := Lib.hid ho2; clear ho2)
    refine ⟨rfl, ?_⟩
    rw [← HR.out, HG.out]
    exact ⟨(OnlyIn.of HB1'.out [rb]).rd HO2.out, rfl⟩
  | fail =>
    rw [hcv] at hrr hch
    have HCH := Lib.hid hch
    have HG := Lib.hid hrr
    clear hch hrr hcv
    go_wp2_with (go_at_call 112; refine HCH.out.mono ?_; rintro e w2 ⟨ho2, rfl, _⟩; have HO2 := Lib.hid ho2; clear ho2)
    refine ⟨rfl, ?_⟩
    rw [← HR.out, HG.out]
    exact ⟨(OnlyIn.of HB1'.out [rb]).rd HO2.out, rfl⟩
  | got i q =>
    obtain ⟨s, hs, _, hq⟩ := Sp.choose_reads hcv
    rw [hcv] at hrr hch
    have hpq : p ≤ q := by omega
    change r = Sp.codedRest raw v p i q at hrr
    have hgd : (Sp.codesV v).getD i [] = s := by rw [← HCS.out, List.getD_eq_getElem?_getD, hs]; rfl
    unfold Sp.codedRest at hrr
    rw [hgd] at hrr
    have hil : i < cs.length := (List.getElem?_eq_some_iff.1 hs).1
    have hil2 : (i : Int) < (cs.length : Int) := by omega
    have HCH := Lib.hid hch
    have HG := Lib.hid hrr
    have HS := Lib.hid hs
    have HGD := Lib.hid hgd
    clear hch hrr hcv hs hq hgd
    go_upto_region 4 with (go_at_call 112; refine HCH.out.mono ?_; rintro e w2 ⟨ho2, rfl, hx2⟩; have hcell := own_textCell (own_only HOWN1'.out ho2 (by simpa using hlt)) HS.out; have HO2 := Lib.hid ho2; have HX2 := Lib.hid hx2; clear ho2 hx2)
    have hcb2 := HCB1.out.same (HO2.out.block _ HCB1.out.lt (by simp; omega))
    have ho2 := (OnlyIn.of HB1'.out [rb]).rd HO2.out
    have hx2 := HX2.out
    have hgo := HG.out
    have HCB2 := Lib.hid hcb2
    have HO2' := Lib.hid ho2
    clear hcb2 ho2 hcell x1 x1f HG HCH HO2 HOWN1' HB1' HX1
    by_cases hEM : s = [69, 78] ∨ s = [77, 78]
    · rw [if_pos hEM] at hgo
      have hw := readerWant_any hx2 Sp.crlf (by decide)
      have hsplit : (s == [69, 78]) = true ∨ ((s == [69, 78]) = false ∧ (s == [77, 78]) = true) := by
        rcases hEM with rfl | rfl
        · exact .inl rfl
        · exact .inr ⟨rfl, rfl⟩
      clear hEM hx2
      cases hwv : Sp.wantV raw q Sp.crlf with
      | more =>
        rw [hwv] at hgo hw
        have HW := Lib.hid hw
        have HG2 := Lib.hid hgo
        clear hgo hw hwv
        rcases hsplit with g1 | ⟨g1, g2⟩
        all_goals go_wp2_with (go_at_call 109; refine HW.out.mono ?_; rintro e w3 ⟨ho3, rfl, _⟩; have HO3 := Lib.hid ho3; clear ho3)
        all_goals refine ⟨rfl, ?_⟩
        all_goals rw [← HR.out, HG2.out]
        all_goals exact ⟨HO2'.out.rd HO3.out, rfl⟩
      | fail =>
        rw [hwv] at hgo hw
        have HW := Lib.hid hw
        have HG2 := Lib.hid hgo
        clear hgo hw hwv
        rcases hsplit with g1 | ⟨g1, g2⟩
        all_goals go_wp2_with (go_at_call 109; refine HW.out.mono ?_; rintro e w3 ⟨ho3, rfl, _⟩; have HO3 := Lib.hid ho3; clear ho3)
        all_goals refine ⟨rfl, ?_⟩
        all_goals rw [← HR.out, HG2.out]
        all_goals exact ⟨HO2'.out.rd HO3.out, rfl⟩
      | got u q2 =>
        rw [hwv] at hgo hw
        have HW := Lib.hid hw
        have HG2 := Lib.hid hgo
        clear hgo hw hwv
        rcases hsplit with g1 | ⟨g1, g2⟩
        all_goals go_wp2_with (go_at_call 109; refine HW.out.mono ?_; rintro e w3 ⟨ho3, rfl, hx3⟩; have hcb3 := HCB2.out.same (ho3.block _ HCB2.out.lt (by simp; omega)); have HCB3 := Lib.hid hcb3; have z0 := hcb3.cell 0; have z1 := hcb3.cell 1; have z2 := hcb3.cell 2; have z3 := hcb3.cell 3; have z4 := hcb3.cell 4; have f0 := hcb3.frozen 0; have f1 := hcb3.frozen 1; have f2 := hcb3.frozen 2; have f3 := hcb3.frozen 3; have f4 := hcb3.frozen 4; simp only [List.getElem?_toArray, List.getElem?_cons_zero, List.getElem?_cons_succ] at z0 z1 z2 z3 z4; have HO3 := Lib.hid (HO2'.out.rd ho3); have HX3 := Lib.hid hx3; clear ho3 hx3 hcb3)
        all_goals change bodyPost _ _ _ _ _ (ansPut w3 w.heap.size { kind := 15, text := s })
        all_goals refine bodyPost_ret (coded_results (ansPut_blk HCB3.out _) _ rfl) rfl ?_
        all_goals rw [← HR.out, HG2.out]
        all_goals exact ⟨HO3.out.trans (ansPut_only _ _ _) (by simp), ⟨{ kind := 15, text := s }, rfl, rfl, AnsOwn.bare _ _ rfl rfl rfl rfl rfl rfl⟩, HX3.out.only (ansPut_only _ _ _) (by simpa using hlt)⟩
    · rw [if_neg hEM] at hgo
      have g1 : (s == [69, 78]) = false := by rw [beq_eq_false_iff_ne]; exact fun e => hEM (.inl e)
      have g2 : (s == [77, 78]) = false := by rw [beq_eq_false_iff_ne]; exact fun e => hEM (.inr e)
      clear hEM hx2
      by_cases hVA : s = [86, 65]
      · rw [if_pos hVA] at hgo
        have g3 : (s == [86, 65]) = true := by rw [hVA]; rfl
        have hw := readerWant_any HX2.out [32] (by decide)
        cases hcv : Sp.wantV raw q [32] with
        | more =>
          rw [hcv] at hgo hw
          have HQ := Lib.hid hw
          have HGQ := Lib.hid hgo
          clear hgo hw hcv
          go_wp2_with (go_at_call 109; refine HQ.out.mono ?_; rintro e wz ⟨hoz, rfl, _⟩; have HOZ := Lib.hid hoz; clear hoz)
          refine ⟨rfl, ?_⟩
          rw [← HR.out, HGQ.out]
          exact ⟨HO2'.out.rd HOZ.out, rfl⟩
        | fail =>
          rw [hcv] at hgo hw
          have HQ := Lib.hid hw
          have HGQ := Lib.hid hgo
          clear hgo hw hcv
          go_wp2_with (go_at_call 109; refine HQ.out.mono ?_; rintro e wz ⟨hoz, rfl, _⟩; have HOZ := Lib.hid hoz; clear hoz)
          refine ⟨rfl, ?_⟩
          rw [← HR.out, HGQ.out]
          exact ⟨HO2'.out.rd HOZ.out, rfl⟩
        | got u q1 =>
          rw [hcv] at hgo hw
          have hq12 := (Sp.want_reads hcv).2
          have hq12' : q ≤ q1 := by omega
          change r = ((Sp.numberR raw 1048576 q1)).next _ at hgo
          have HQ := Lib.hid hw
          have HG2 := Lib.hid hgo
          clear hgo hw hcv hq12
          go_upto_region 12 with (go_at_call 109; refine HQ.out.mono ?_; rintro e w3 ⟨ho3, rfl, hx3⟩; have hcb3 := HCB2.out.same (ho3.block _ HCB2.out.lt (by simp; omega)); have HCB3 := Lib.hid hcb3; have HO3 := Lib.hid (HO2'.out.rd ho3); have HX3 := Lib.hid hx3; clear ho3 hx3 hcb3)
          have hnum := number_any (most := 1048576) HX3.out (by decide) (by decide)
          have hgo := HG2.out
          clear HG2 HQ
          cases hcv : Sp.numberR raw 1048576 q1 with
          | more =>
            rw [hcv] at hgo hnum
            have HQ := Lib.hid hnum
            have HGQ := Lib.hid hgo
            clear hgo hnum hcv
            go_wp2_with (go_at_call 111; refine HQ.out.mono ?_; rintro e wz ⟨hoz, rfl, _⟩; have HOZ := Lib.hid hoz; clear hoz)
            refine ⟨rfl, ?_⟩
            rw [← HR.out, HGQ.out]
            exact ⟨HO3.out.rd HOZ.out, rfl⟩
          | fail =>
            rw [hcv] at hgo hnum
            have HQ := Lib.hid hnum
            have HGQ := Lib.hid hgo
            clear hgo hnum hcv
            go_wp2_with (go_at_call 111; refine HQ.out.mono ?_; rintro e wz ⟨hoz, rfl, _⟩; have HOZ := Lib.hid hoz; clear hoz)
            refine ⟨rfl, ?_⟩
            rw [← HR.out, HGQ.out]
            exact ⟨HO3.out.rd HOZ.out, rfl⟩
          | got n q2 =>
            rw [hcv] at hgo hnum
            obtain ⟨_, hq2a, hn1⟩ := Sp.number_reads (by decide) hcv
            have hq2b : q1 ≤ q2 := by omega
            change r = (Sp.flagsFrom raw p (raw.length + 1) q2).next _ at hgo
            have HQ := Lib.hid hnum
            have HG2 := Lib.hid hgo
            clear hgo hnum hcv hq2a
            go_upto_region 13 with (go_at_call 111; refine HQ.out.mono ?_; rintro e w5 ⟨ho5, rfl, hx5⟩; have hcb5 := HCB3.out.same (ho5.block _ HCB3.out.lt (by simp; omega)); have HCB5 := Lib.hid hcb5; have HO5 := Lib.hid (HO3.out.rd ho5); have HX5 := Lib.hid hx5; clear ho5 hx5 hcb5)
            have hgo := HG2.out
            clear HG2 HQ
            have hfl := flags_any (b := p) HX5.out (by omega)
            cases hcv : Sp.flagsFrom raw p (raw.length + 1) q2 with
            | more =>
              rw [hcv] at hgo hfl
              have HQ := Lib.hid hfl
              have HGQ := Lib.hid hgo
              clear hgo hfl hcv
              go_wp2_with (go_at_call 138; refine HQ.out.mono ?_; rintro e wz ⟨hoz, rfl⟩; have HOZ := Lib.hid hoz; clear hoz)
              refine ⟨rfl, ?_⟩
              rw [← HR.out, HGQ.out]
              exact ⟨HO5.out.rd HOZ.out, rfl⟩
            | fail =>
              rw [hcv] at hgo hfl
              have HQ := Lib.hid hfl
              have HGQ := Lib.hid hgo
              clear hgo hfl hcv
              go_wp2_with (go_at_call 138; refine HQ.out.mono ?_; rintro e wz ⟨hoz, rfl⟩; have HOZ := Lib.hid hoz; clear hoz)
              refine ⟨rfl, ?_⟩
              rw [← HR.out, HGQ.out]
              exact ⟨HO5.out.rd HOZ.out, rfl⟩
            | got u q3 =>
              rw [hcv] at hgo hfl
              have hpq3 : p ≤ q3 := by have := (Sp.SteadyAt.got (Sp.steady_flagsAll p raw q2 (by have := HX5.out.le; omega)) hcv).1; omega
              change r = Sp.codedEnd raw v p i n q3 at hgo
              unfold Sp.codedEnd Sp.codedLast at hgo
              rw [HGD.out] at hgo
              have HQ := Lib.hid hfl
              have HG3 := Lib.hid hgo
              clear hgo hfl hcv
              go_upto_region 14 with (go_at_call 138; refine HQ.out.mono ?_; rintro e w4 ⟨ho4, rfl, hx4⟩; have hcb4 := HCB5.out.same (ho4.block _ HCB5.out.lt (by simp; omega)); have HCB4 := Lib.hid hcb4; have HO4 := Lib.hid (HO5.out.rd ho4); have HX4 := Lib.hid hx4; clear ho4 hx4 hcb4)
              have hx4 := HX4.out
              have hq3l := hx4.le
              have x0 : w4.cell? ⟨rb, 0, none⟩ = some (.slice A raw.length cap) := hx4.blk.cell 0
              have x1 : w4.cell? ⟨rb, 1, none⟩ = some (.int .i64 q3) := hx4.blk.cell 1
              obtain ⟨tx, htx⟩ : ∃ tx, tx = (raw.drop p).take (q3 - p) := ⟨_, rfl⟩
              have htl : tx.length = q3 - p := by rw [htx, List.length_take, List.length_drop]; omega
              have hsl := fun W : World => run_slice_part W A raw.length cap p q3 hpq3 (by omega)
              have hcs : ∀ W : World, Below w4.heap.size w4 W → W.cell? ⟨rb, 0, none⟩ = some (.slice A raw.length cap) ∧ W.cell? ⟨rb, 1, none⟩ = some (.int .i64 q3) ∧ (convert 29 9 (.slice (cutAddr A p cap) (q3 - p) (cap - p))).run Tryz.prog W = .ok (.string ⟨tx.toArray⟩) W := fun W hW => by
                have hrow : RowAt W (cutAddr A p cap) (bytesV tx) := by
                  have h1 : RowAt W A (bytesV raw) := hx4.row.below hW
                  have h2 := (h1.cut (a := p) (cap := cap) (by rw [bytesV_length]; exact hroom)).take (q3 - p)
                  rw [← bytesV_drop] at h2
                  rw [htx]
                  simpa [bytesV, List.map_take] using h2
                have := run_bytes_str (cap := cap - p) hrow
                rw [htl] at this
                exact ⟨(hx4.later hW).blk.cell 0, (hx4.later hW).blk.cell 1, this⟩
              have hp1 : (p : Int) ≤ (q3 : Int) := by omega
              have hp2 : (q3 : Int) ≤ (cap : Int) := by omega
              generalize cutAddr A p cap = D at hsl hcs
              have HTX := Lib.hid htx
              have HK := Lib.hid hcs
              clear hx4 htx htl hcs hq3l x0 x1
              go_region_held3 (fun w' => w'.cell? ⟨rb, 0, none⟩ = some (.slice A raw.length cap) ∧ w'.cell? ⟨rb, 1, none⟩ = some (.int .i64 q3) ∧ (convert 29 9 (.slice D (q3 - p) (cap - p))).run Tryz.prog w' = .ok (.string ⟨tx.toArray⟩) w') (first | exact HK.out _ (Below.refl _ _) | exact HK.out _ (Below.refl _ _).drew | exact HK.out _ ((Below.refl _ _).alloc (Nat.le_refl _) _) | exact HK.out _ ((Below.refl _ _).drew.alloc (Nat.le_refl _) _) | exact HK.out _ ((Below.refl _ _).alloc (Nat.le_refl _) _).drew) (fail)
              go_upto_region 15 with fail
              obtain ⟨a0, ha0⟩ : ∃ a0, a0 = w4.heap.size := ⟨_, rfl⟩
              rw [← ha0]
              obtain ⟨W5, hW5⟩ : ∃ W5, W5 = (w4.alloc (.cells #[.int .i64 15, .slice none 0 0, .int .u64 0, str tx, .slice none 0 0] 36)).drew := ⟨_, rfl⟩
              rw [← hW5]
              have hb5 : Below w4.heap.size w4 W5 := by rw [hW5]; exact ((Below.refl _ _).alloc (Nat.le_refl _) _).drew
              have hab5 : Blk W5 a0 36 #[.int .i64 15, .slice none 0 0, .int .u64 0, str tx, .slice none 0 0] := by rw [hW5, ha0]; exact (Blk.new w4 _ _).drew
              have hca : w.heap.size < a0 := by rw [ha0]; exact HCB4.out.lt
              have hrd5 := HX4.out.later hb5
              have hwq := readerWant_any hrd5 Sp.crlf (by decide)
              have hcb5 := HCB4.out.later hb5
              have ho5 := HO4.out.later hb5
              have HAB5 := Lib.hid hab5
              have HCB5 := Lib.hid hcb5
              have HO5 := Lib.hid ho5
              have hgo := HG3.out
              clear hW5 hb5 hab5 hrd5 hcb5 ho5 ha0 hsl hp1 hp2 HG3
              cases hcv : Sp.wantV raw q3 Sp.crlf with
              | more =>
                rw [hcv] at hgo hwq
                have HQ := Lib.hid hwq
                have HGQ := Lib.hid hgo
                clear hgo hwq hcv
                go_wp2_with (go_at_call 109; refine HQ.out.mono ?_; rintro e wz ⟨hoz, rfl, _⟩; have HOZ := Lib.hid hoz; clear hoz)
                refine ⟨rfl, ?_⟩
                rw [← HR.out, HGQ.out]
                exact ⟨HO5.out.rd HOZ.out, rfl⟩
              | fail =>
                rw [hcv] at hgo hwq
                have HQ := Lib.hid hwq
                have HGQ := Lib.hid hgo
                clear hgo hwq hcv
                go_wp2_with (go_at_call 109; refine HQ.out.mono ?_; rintro e wz ⟨hoz, rfl, _⟩; have HOZ := Lib.hid hoz; clear hoz)
                refine ⟨rfl, ?_⟩
                rw [← HR.out, HGQ.out]
                exact ⟨HO5.out.rd HOZ.out, rfl⟩
              | got u q4 =>
                rw [hcv] at hgo hwq
                change r = (if s = [86, 65] then (Sp.dataR raw n q4).next _ else _) at hgo
                rw [if_pos hVA, ← HTX.out] at hgo
                have HQ := Lib.hid hwq
                have HG4 := Lib.hid hgo
                clear hgo hwq hcv
                go_upto_region 17 with (go_at_call 109; refine HQ.out.mono ?_; rintro e w6 ⟨ho6, rfl, hx6⟩; have hcb6 := HCB5.out.same (ho6.block _ HCB5.out.lt (by simp; omega)); have hab6 := HAB5.out.same (ho6.block _ HAB5.out.lt (by simp; omega)); have HCB6 := Lib.hid hcb6; have HAB6 := Lib.hid hab6; have HO6 := Lib.hid (HO5.out.rd ho6); have HX6 := Lib.hid hx6; clear ho6 hx6 hcb6 hab6)
                have hdt := data_any HX6.out (n := n) (by omega)
                have hgo := HG4.out
                clear HG4 HQ
                cases hcv : Sp.dataR raw n q4 with
                | more =>
                  rw [hcv] at hgo hdt
                  have HQ := Lib.hid hdt
                  have HGQ := Lib.hid hgo
                  clear hgo hdt hcv
                  go_wp2_with (go_at_call 139; refine HQ.out.mono ?_; rintro e wz ⟨hoz, rfl, _⟩; have HOZ := Lib.hid hoz; clear hoz)
                  refine ⟨rfl, ?_⟩
                  rw [← HR.out, HGQ.out]
                  exact ⟨HO6.out.rd HOZ.out, rfl⟩
                | fail =>
                  rw [hcv] at hgo hdt
                  have HQ := Lib.hid hdt
                  have HGQ := Lib.hid hgo
                  clear hgo hdt hcv
                  go_wp2_with (go_at_call 139; refine HQ.out.mono ?_; rintro e wz ⟨hoz, rfl, _⟩; have HOZ := Lib.hid hoz; clear hoz)
                  refine ⟨rfl, ?_⟩
                  rw [← HR.out, HGQ.out]
                  exact ⟨HO6.out.rd HOZ.out, rfl⟩
                | got d q5 =>
                  rw [hcv] at hgo hdt
                  change r = (Sp.wantV raw q5 Sp.crlf).next _ at hgo
                  have HQ := Lib.hid hdt
                  have HG5 := Lib.hid hgo
                  clear hgo hdt hcv
                  have hnb : (n : Int) ≤ 1048576 := by omega
                  go_upto_region 18 with (go_at_call 139; refine HQ.out.mono ?_; rintro e w7 ⟨ho7, ⟨B, cB, rfl, hown7⟩, hx7⟩; have hcb7 := HCB6.out.same (ho7.block _ HCB6.out.lt (by simp; omega)); have hab7 := HAB6.out.same (ho7.block _ HAB6.out.lt (by simp; omega)); have HCB7 := Lib.hid hcb7; have hab7a := hab7.alloc (.cells #[.string ⟨#[]⟩, .slice B d.length cB, .int .u64 0, .int .i64 0, .int .u64 0, .int .i64 0, .bool false, .bool false, .bool false] 86); have y1 := hab7a.cell 1; have g1f := hab7a.frozen 1; simp only [List.getElem?_toArray, List.getElem?_cons_zero, List.getElem?_cons_succ] at y1; have HAB7 := Lib.hid hab7; have HOWN7 := Lib.hid (own_base (base' := w.heap.size) hown7 (fun k hk => by have := own_ge hown7 k (by rw [mem_rowBlock]; exact hk); have := HO6.out.size; omega)); have HO7 := Lib.hid (HO6.out.rd ho7); have HX7 := Lib.hid hx7; clear ho7 hx7 hcb7 hab7 hab7a hown7)
                  obtain ⟨e0, he0⟩ : ∃ e0, e0 = w7.heap.size := ⟨_, rfl⟩
                  rw [← he0]
                  obtain ⟨X, hX⟩ : ∃ X : EntX, X = ⟨{ value := d }, B, cB⟩ := ⟨_, rfl⟩
                  obtain ⟨W8, hW8⟩ : ∃ W8, W8 = (w7.alloc (.cells #[.string ⟨#[]⟩, .slice B d.length cB, .int .u64 0, .int .i64 0, .int .u64 0, .int .i64 0, .bool false, .bool false, .bool false] 86)).setCell ⟨a0, 1, none⟩ (.slice (some ⟨e0, 0, none⟩) 1 1) := ⟨_, rfl⟩
                  rw [← hW8]
                  have hal : Below w7.heap.size w7 (w7.alloc (.cells #[.string ⟨#[]⟩, .slice B d.length cB, .int .u64 0, .int .i64 0, .int .u64 0, .int .i64 0, .bool false, .bool false, .bool false] 86)) := (Below.refl _ _).alloc (Nat.le_refl _) _
                  have hae : a0 < e0 := by rw [he0]; exact HAB7.out.lt
                  have hon8 : OnlyIn [a0] w7 W8 := by rw [hW8]; exact (OnlyIn.of hal [a0]).setCell (.inl (List.mem_singleton.2 rfl)) 1 _
                  have hw7 : w.heap.size ≤ w7.heap.size := HO7.out.size
                  have hbe := World.ownsRow_lit (base := w.heap.size) (e := 86) (size := 9) w7 #[.string ⟨#[]⟩, .slice B d.length cB, .int .u64 0, .int .i64 0, .int .u64 0, .int .i64 0, .bool false, .bool false, .bool false] 1 hw7 (by unfold maxLen; omega) rfl
                  rw [← he0] at hbe
                  have hbe8 : W8.ownsRow w.heap.size 86 9 (.slice (some ⟨e0, 0, none⟩) 1 1) 1 ([X].flatMap EntX.cells) := by
                    have h9 : (w7.alloc (.cells #[.string ⟨#[]⟩, .slice B d.length cB, .int .u64 0, .int .i64 0, .int .u64 0, .int .i64 0, .bool false, .bool false, .bool false] 86)).ownsRow w.heap.size 86 9 (.slice (some ⟨e0, 0, none⟩) 1 1) 1 ([X].flatMap EntX.cells) := by rw [hX]; exact hbe
                    rw [hW8]
                    exact own_same h9 fun k hk => Below.heap_setCell _ ⟨a0, 1, none⟩ _ k (by simp [rowBlock, Value.ownBlock] at hk; show k ≠ a0; omega)
                  have hva8 : W8.ownsRow w.heap.size 5 1 (.slice B d.length cB) d.length (bytesV d) := own_same HOWN7.out fun k hk => hon8.block k (own_lt HOWN7.out k hk) (fun hm => by
                    have h1 : k = a0 := by simpa using hm
                    exact (own_apart HOWN7.out HAB7.out (by decide)) (by rw [← h1]; exact mem_rowBlock.1 hk))
                  have hen : EntsOwn W8 w.heap.size (.slice (some ⟨e0, 0, none⟩) 1 1) [X] := ⟨hbe8, fun x hx => by rw [List.mem_singleton.1 hx, hX]; exact hva8, by rw [hX]; simp only [List.flatMap_cons, List.flatMap_nil, List.append_nil]; unfold rowBlock; cases (EntX.val ⟨{ value := d }, B, cB⟩).ownBlock <;> simp⟩
                  have hab8 : Blk W8 a0 36 #[.int .i64 15, .slice (some ⟨e0, 0, none⟩) 1 1, .int .u64 0, str tx, .slice none 0 0] := by rw [hW8]; exact (HAB7.out.alloc _).put 1 _
                  have hcb8 : Blk W8 w.heap.size 36 #[.int .i64 0, .slice none 0 0, .int .u64 0, .string ⟨#[]⟩, .slice none 0 0] := HCB7.out.same (hon8.block _ HCB7.out.lt (by simp; omega))
                  have hrd8 := HX7.out.only hon8 (by simp; omega)
                  have hwq := readerWant_any hrd8 Sp.crlf (by decide)
                  have ho8 : OnlyIn [rb] w W8 := HO7.out.trans hon8 (by simp; omega)
                  have hgo := HG5.out
                  have HX8 := Lib.hid hX
                  have HEN8 := Lib.hid hen
                  have HAB8 := Lib.hid hab8
                  have HCB8 := Lib.hid hcb8
                  have HO8 := Lib.hid ho8
                  clear hW8 hal hon8 hbe hbe8 hva8 hab8 hcb8 hrd8 ho8 y1 g1f hen hX he0 HG5 HQ
                  cases hcv : Sp.wantV raw q5 Sp.crlf with
                  | more =>
                    rw [hcv] at hgo hwq
                    have HQ := Lib.hid hwq
                    have HGQ := Lib.hid hgo
                    clear hgo hwq hcv
                    go_wp2_with (go_at_call 109; refine HQ.out.mono ?_; rintro e wz ⟨hoz, rfl, _⟩; have HOZ := Lib.hid hoz; clear hoz)
                    refine ⟨rfl, ?_⟩
                    rw [← HR.out, HGQ.out]
                    exact ⟨HO8.out.rd HOZ.out, rfl⟩
                  | fail =>
                    rw [hcv] at hgo hwq
                    have HQ := Lib.hid hwq
                    have HGQ := Lib.hid hgo
                    clear hgo hwq hcv
                    go_wp2_with (go_at_call 109; refine HQ.out.mono ?_; rintro e wz ⟨hoz, rfl, _⟩; have HOZ := Lib.hid hoz; clear hoz)
                    refine ⟨rfl, ?_⟩
                    rw [← HR.out, HGQ.out]
                    exact ⟨HO8.out.rd HOZ.out, rfl⟩
                  | got u q6 =>
                    rw [hcv] at hgo hwq
                    have HQ := Lib.hid hwq
                    have HG6 := Lib.hid hgo
                    clear hgo hwq hcv
                    go_wp2_with (go_at_call 109; refine HQ.out.mono ?_; rintro e w9 ⟨ho9, rfl, hx9⟩; have hcb9 := HCB8.out.same (ho9.block _ HCB8.out.lt (by simp; omega)); have hab9 := HAB8.out.same (ho9.block _ HAB8.out.lt (by simp; omega)); have HCB9 := Lib.hid hcb9; have z0 := hcb9.cell 0; have z1 := hcb9.cell 1; have z2 := hcb9.cell 2; have z3 := hcb9.cell 3; have z4 := hcb9.cell 4; have f0 := hcb9.frozen 0; have f1 := hcb9.frozen 1; have f2 := hcb9.frozen 2; have f3 := hcb9.frozen 3; have f4 := hcb9.frozen 4; have y0 := hab9.cell 0; have y1 := hab9.cell 1; have y2 := hab9.cell 2; have y3 := hab9.cell 3; have y4 := hab9.cell 4; simp only [List.getElem?_toArray, List.getElem?_cons_zero, List.getElem?_cons_succ] at z0 z1 z2 z3 z4 y0 y1 y2 y3 y4; have HEN9 := Lib.hid (HEN8.out.only ho9 (by simpa using hlt)); have HO9 := Lib.hid (HO8.out.rd ho9); have HX9 := Lib.hid hx9; clear ho9 hx9 hcb9 hab9)
                    change bodyPost _ _ _ _ _ (ansPut w9 w.heap.size { kind := 15, E := some ⟨e0, 0, none⟩, ec := 1, xs := [X], text := tx })
                    refine bodyPost_ret (coded_results (ansPut_blk HCB9.out _) _ rfl) rfl ?_
                    rw [← HR.out, HG6.out]
                    have hput := ansPut_only w9 w.heap.size { kind := 15, E := some ⟨e0, 0, none⟩, ec := 1, xs := [X], text := tx }
                    refine ⟨HO9.out.trans hput (by simp), ⟨{ kind := 15, E := some ⟨e0, 0, none⟩, ec := 1, xs := [X], text := tx }, ?_, rfl, ?_, World.ownsRow_nil _ _ _ 2⟩, HX9.out.only hput (by simpa using hlt)⟩
                    · rw [HX8.out]; rfl
                    · exact ents_far HEN9.out HCB9.out hput
      · rw [if_neg hVA] at hgo
        have g3 : (s == [86, 65]) = false := by rw [beq_eq_false_iff_ne]; exact hVA
        change r = (Sp.flagsFrom raw p (raw.length + 1) q).next _ at hgo
        have HG2 := Lib.hid hgo
        clear hgo
        go_upto_region 13 with fail
        have hgo := HG2.out
        clear HG2
        have hfl := flags_any (b := p) HX2.out (by omega)
        cases hcv : Sp.flagsFrom raw p (raw.length + 1) q with
        | more =>
          rw [hcv] at hgo hfl
          have HQ := Lib.hid hfl
          have HGQ := Lib.hid hgo
          clear hgo hfl hcv
          go_wp2_with (go_at_call 138; refine HQ.out.mono ?_; rintro e wz ⟨hoz, rfl⟩; have HOZ := Lib.hid hoz; clear hoz)
          refine ⟨rfl, ?_⟩
          rw [← HR.out, HGQ.out]
          exact ⟨HO2'.out.rd HOZ.out, rfl⟩
        | fail =>
          rw [hcv] at hgo hfl
          have HQ := Lib.hid hfl
          have HGQ := Lib.hid hgo
          clear hgo hfl hcv
          go_wp2_with (go_at_call 138; refine HQ.out.mono ?_; rintro e wz ⟨hoz, rfl⟩; have HOZ := Lib.hid hoz; clear hoz)
          refine ⟨rfl, ?_⟩
          rw [← HR.out, HGQ.out]
          exact ⟨HO2'.out.rd HOZ.out, rfl⟩
        | got u q3 =>
          rw [hcv] at hgo hfl
          have hpq3 : p ≤ q3 := by have := (Sp.SteadyAt.got (Sp.steady_flagsAll p raw q (by have := HX2.out.le; omega)) hcv).1; omega
          change r = Sp.codedEnd raw v p i 0 q3 at hgo
          unfold Sp.codedEnd Sp.codedLast at hgo
          rw [HGD.out] at hgo
          have HQ := Lib.hid hfl
          have HG3 := Lib.hid hgo
          clear hgo hfl hcv
          go_upto_region 14 with (go_at_call 138; refine HQ.out.mono ?_; rintro e w4 ⟨ho4, rfl, hx4⟩; have hcb4 := HCB2.out.same (ho4.block _ HCB2.out.lt (by simp; omega)); have HCB4 := Lib.hid hcb4; have HO4 := Lib.hid (HO2'.out.rd ho4); have HX4 := Lib.hid hx4; clear ho4 hx4 hcb4)
          have hx4 := HX4.out
          have hq3l := hx4.le
          have x0 : w4.cell? ⟨rb, 0, none⟩ = some (.slice A raw.length cap) := hx4.blk.cell 0
          have x1 : w4.cell? ⟨rb, 1, none⟩ = some (.int .i64 q3) := hx4.blk.cell 1
          obtain ⟨tx, htx⟩ : ∃ tx, tx = (raw.drop p).take (q3 - p) := ⟨_, rfl⟩
          have htl : tx.length = q3 - p := by rw [htx, List.length_take, List.length_drop]; omega
          have hsl := fun W : World => run_slice_part W A raw.length cap p q3 hpq3 (by omega)
          have hcs : ∀ W : World, Below w4.heap.size w4 W → W.cell? ⟨rb, 0, none⟩ = some (.slice A raw.length cap) ∧ W.cell? ⟨rb, 1, none⟩ = some (.int .i64 q3) ∧ (convert 29 9 (.slice (cutAddr A p cap) (q3 - p) (cap - p))).run Tryz.prog W = .ok (.string ⟨tx.toArray⟩) W := fun W hW => by
            have hrow : RowAt W (cutAddr A p cap) (bytesV tx) := by
              have h1 : RowAt W A (bytesV raw) := hx4.row.below hW
              have h2 := (h1.cut (a := p) (cap := cap) (by rw [bytesV_length]; exact hroom)).take (q3 - p)
              rw [← bytesV_drop] at h2
              rw [htx]
              simpa [bytesV, List.map_take] using h2
            have := run_bytes_str (cap := cap - p) hrow
            rw [htl] at this
            exact ⟨(hx4.later hW).blk.cell 0, (hx4.later hW).blk.cell 1, this⟩
          have hp1 : (p : Int) ≤ (q3 : Int) := by omega
          have hp2 : (q3 : Int) ≤ (cap : Int) := by omega
          generalize cutAddr A p cap = D at hsl hcs
          have HTX := Lib.hid htx
          have HK := Lib.hid hcs
          clear hx4 htx htl hcs hq3l x0 x1
          go_region_held3 (fun w' => w'.cell? ⟨rb, 0, none⟩ = some (.slice A raw.length cap) ∧ w'.cell? ⟨rb, 1, none⟩ = some (.int .i64 q3) ∧ (convert 29 9 (.slice D (q3 - p) (cap - p))).run Tryz.prog w' = .ok (.string ⟨tx.toArray⟩) w') (first | exact HK.out _ (Below.refl _ _) | exact HK.out _ (Below.refl _ _).drew | exact HK.out _ ((Below.refl _ _).alloc (Nat.le_refl _) _) | exact HK.out _ ((Below.refl _ _).drew.alloc (Nat.le_refl _) _) | exact HK.out _ ((Below.refl _ _).alloc (Nat.le_refl _) _).drew) (fail)
          go_upto_region 15 with fail
          obtain ⟨a0, ha0⟩ : ∃ a0, a0 = w4.heap.size := ⟨_, rfl⟩
          rw [← ha0]
          obtain ⟨W5, hW5⟩ : ∃ W5, W5 = (w4.alloc (.cells #[.int .i64 15, .slice none 0 0, .int .u64 0, str tx, .slice none 0 0] 36)).drew := ⟨_, rfl⟩
          rw [← hW5]
          have hb5 : Below w4.heap.size w4 W5 := by rw [hW5]; exact ((Below.refl _ _).alloc (Nat.le_refl _) _).drew
          have hab5 : Blk W5 a0 36 #[.int .i64 15, .slice none 0 0, .int .u64 0, str tx, .slice none 0 0] := by rw [hW5, ha0]; exact (Blk.new w4 _ _).drew
          have hca : w.heap.size < a0 := by rw [ha0]; exact HCB4.out.lt
          have hrd5 := HX4.out.later hb5
          have hwq := readerWant_any hrd5 Sp.crlf (by decide)
          have hcb5 := HCB4.out.later hb5
          have ho5 := HO4.out.later hb5
          have HAB5 := Lib.hid hab5
          have HCB5 := Lib.hid hcb5
          have HO5 := Lib.hid ho5
          have hgo := HG3.out
          clear hW5 hb5 hab5 hrd5 hcb5 ho5 ha0 hsl hp1 hp2 HG3
          cases hcv : Sp.wantV raw q3 Sp.crlf with
          | more =>
            rw [hcv] at hgo hwq
            have HQ := Lib.hid hwq
            have HGQ := Lib.hid hgo
            clear hgo hwq hcv
            go_wp2_with (go_at_call 109; refine HQ.out.mono ?_; rintro e wz ⟨hoz, rfl, _⟩; have HOZ := Lib.hid hoz; clear hoz)
            refine ⟨rfl, ?_⟩
            rw [← HR.out, HGQ.out]
            exact ⟨HO5.out.rd HOZ.out, rfl⟩
          | fail =>
            rw [hcv] at hgo hwq
            have HQ := Lib.hid hwq
            have HGQ := Lib.hid hgo
            clear hgo hwq hcv
            go_wp2_with (go_at_call 109; refine HQ.out.mono ?_; rintro e wz ⟨hoz, rfl, _⟩; have HOZ := Lib.hid hoz; clear hoz)
            refine ⟨rfl, ?_⟩
            rw [← HR.out, HGQ.out]
            exact ⟨HO5.out.rd HOZ.out, rfl⟩
          | got u q4 =>
            rw [hcv] at hgo hwq
            change r = (if s = [86, 65] then _ else Sp.RdV.got ({ kind := 15, text := (raw.drop p).take (q3 - p) } : Sp.AnswerV) q4) at hgo
            rw [if_neg hVA, ← HTX.out] at hgo
            have HQ := Lib.hid hwq
            have HG4 := Lib.hid hgo
            clear hgo hwq hcv
            go_wp2_with (go_at_call 109; refine HQ.out.mono ?_; rintro e w6 ⟨ho6, rfl, hx6⟩; have hcb6 := HCB5.out.same (ho6.block _ HCB5.out.lt (by simp; omega)); have hab6 := HAB5.out.same (ho6.block _ HAB5.out.lt (by simp; omega)); have HCB6 := Lib.hid hcb6; have z0 := hcb6.cell 0; have z1 := hcb6.cell 1; have z2 := hcb6.cell 2; have z3 := hcb6.cell 3; have z4 := hcb6.cell 4; have f0 := hcb6.frozen 0; have f1 := hcb6.frozen 1; have f2 := hcb6.frozen 2; have f3 := hcb6.frozen 3; have f4 := hcb6.frozen 4; have y0 := hab6.cell 0; have y1 := hab6.cell 1; have y2 := hab6.cell 2; have y3 := hab6.cell 3; have y4 := hab6.cell 4; simp only [List.getElem?_toArray, List.getElem?_cons_zero, List.getElem?_cons_succ] at z0 z1 z2 z3 z4 y0 y1 y2 y3 y4; have HO6 := Lib.hid (HO5.out.rd ho6); have HX6 := Lib.hid hx6; clear ho6 hx6 hcb6 hab6)
            change bodyPost _ _ _ _ _ (ansPut w6 w.heap.size { kind := 15, text := tx })
            refine bodyPost_ret (coded_results (ansPut_blk HCB6.out _) _ rfl) rfl ?_
            rw [← HR.out, HG4.out]
            exact ⟨HO6.out.trans (ansPut_only _ _ _) (by simp), ⟨{ kind := 15, text := tx }, rfl, rfl, AnsOwn.bare _ _ rfl rfl rfl rfl rfl rfl⟩, HX6.out.only (ansPut_only _ _ _) (by simpa using hlt)⟩
end Go.Proofs.YtnbeeehfapjpdaaGreatDoor
