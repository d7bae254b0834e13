/- Walk of package reply's reader: values. -/
import Derived.Test.YtnbeeehfapjpdaaGreatDoorVj
import Derived.Test.YtnbeeehfapjpdaaGreatDoorV2
namespace Go.Proofs.YtnbeeehfapjpdaaGreatDoor
attribute [local go_sem ↓] Go.wp_at_zero Go.wp_at_succ
open Go.RowKit

set_option maxHeartbeats 16000000 in
set_option maxRecDepth 100000 in
theorem values_any {w : World} {rb : Nat} {A : Option Addr} {cap : Nat} {raw : Sp.Bs} {p : Nat} (h : RdAt w rb A cap raw p)
    (v : Int) {K : Option Addr} {keys : List Sp.Bs} {kc : Nat} (fl ex tk dl : Int) (D : Option Addr) (dn dc : Nat) (nr lg : Bool) (M : Option Addr) (mn mc : Nat) (what : Sp.Bs)
    (hK : RowAt w K (keys.map str)) (hkc : keys.length ≤ kc) (hKb : keys ≠ [] → ∀ a, K = some a → a.block ≠ rb) (hKo : keys ≠ [] → ∀ a, K = some a → a.block < w.heap.size) (hks : keys.length ≤ 4000000 ∧ ∀ k ∈ keys, k.length ≤ 140737488355328) :
    Calls Tryz.prog 108 #[.pointer (some ⟨rb, 0, none⟩), cmdA v K keys.length kc fl ex tk dl D dn dc nr lg M mn mc what] w (ReadsTo w rb A cap raw (EntsK w.heap.size) (Sp.valuesFrom raw v (keys.length + 1) keys [] p)) := by
  obtain ⟨r, hr⟩ : ∃ r, r = Sp.valuesFrom raw v (keys.length + 1) keys [] p := ⟨_, rfl⟩
  rw [← hr]
  generalize hR : ReadsTo w rb A cap raw (EntsK w.heap.size) r = R
  have hb0 : Below w.heap.size w (w.alloc (.cells #[.int .i64 v, .slice K keys.length kc, .int .u64 fl, .int .i64 ex, .int .u64 tk, .int .u64 dl, .slice D dn dc, .bool nr, .bool lg, .slice M mn mc, str what] 32)) := (Below.refl _ _).alloc (Nat.le_refl _) _
  have hbx0 : Blk (w.alloc (.cells #[.int .i64 v, .slice K keys.length kc, .int .u64 fl, .int .i64 ex, .int .u64 tk, .int .u64 dl, .slice D dn dc, .bool nr, .bool lg, .slice M mn mc, str what] 32)) w.heap.size 32 #[.int .i64 v, .slice K keys.length kc, .int .u64 fl, .int .i64 ex, .int .u64 tk, .int .u64 dl, .slice D dn dc, .bool nr, .bool lg, .slice M mn mc, str what] := Blk.new w _ _
  obtain ⟨W0, hW0⟩ : ∃ W0, W0 = w.alloc (.cells #[.int .i64 v, .slice K keys.length kc, .int .u64 fl, .int .i64 ex, .int .u64 tk, .int .u64 dl, .slice D dn dc, .bool nr, .bool lg, .slice M mn mc, str what] 32) := ⟨_, rfl⟩
  rw [← hW0] at hb0 hbx0
  have hlt := h.lt
  have hsm := h.small
  have hroom := h.room
  have hf := fun W : World => readerFail_any W rb
  have hstart : ValuesLoop w rb A cap raw v r K kc keys nilRow [] (keys.length + 1) p W0 := ⟨h.later hb0, EntsOwn.nil _ _, OnlyIn.of hb0 _, hK.below hb0, hkc, hKb, hKo, hks, hr.symm, by omega, Nat.zero_le _⟩
  obtain ⟨i0, hi, hz0, hz1, hz2⟩ := info_parts info_ent
  obtain ⟨i1, hi1, hy0, hy1, hy2⟩ := info_parts (show (Tryz.prog.info? 9).map (fun i => (i.zero, i.size, i.bytes)) = some (some (.string ⟨#[]⟩), 1, 16) by kernel_rfl)
  obtain ⟨bx, hbx⟩ : ∃ bx, bx = w.heap.size := ⟨_, rfl⟩
  rw [← hbx] at hbx0
  have x1 : W0.cell? ⟨bx, 1, none⟩ = some (.slice K keys.length kc) := hbx0.cell 1
  have HR := Lib.hid hR
  have HS := Lib.hid hstart
  have HF := Lib.hid hf
  have HW0 := Lib.hid hW0
  have HBX := Lib.hid hbx
  obtain ⟨cmdC, hcmdC⟩ : ∃ c : Array Value, c = #[.int .i64 v, .slice K keys.length kc, .int .u64 fl, .int .i64 ex, .int .u64 tk, .int .u64 dl, .slice D dn dc, .bool nr, .bool lg, .slice M mn mc, str what] := ⟨_, rfl⟩
  rw [← hcmdC] at hbx0
  have hc0 : cmdC[0]? = some (.int .i64 v) := by rw [hcmdC]; rfl
  have HC0 := Lib.hid hc0
  have HBX0 := Lib.hid hbx0
  clear hR hstart hr h hf hW0 hb0 hbx0 hbx hK hkc hKb hKo hks hcmdC hc0
  go_enter Tryz.func108, Tryz.ntmps108
  go_upto_region 1 with fail
  rw [← HW0.out, ← HBX.out]
  go_wp2_with fail
  go_loopw [5, 6, 7, 9, 10, 11, 12] (fun o kv _ _ _ _ _ wr => ∃ C cc ks xs k q, kv = .slice C (List.length ks) cc ∧ ValuesLoop w rb A cap raw v r C cc ks o xs k q wr ∧ Blk wr bx 32 cmdC) (fun _ kv _ _ _ _ _ _ => lenOf kv)
  case atStart => exact ⟨_, _, _, _, _, _, rfl, HS.out, HBX0.out⟩
  case round =>
    obtain ⟨C, cc, ks, xs, k, q, rfl, hm, hbk⟩ := hrel
    obtain ⟨k, rfl⟩ : ∃ k', k = k' + 1 := ⟨k - 1, by have := hm.fuel; omega⟩
    obtain ⟨wo, rfl⟩ : ∃ wo : World, wo = wr := ⟨_, rfl⟩
    obtain ⟨W1, hW1⟩ : ∃ W1, W1 = wo.alloc (.cells #[.string ⟨#[69, 78, 68, 13, 10]⟩] 9) := ⟨_, rfl⟩
    have hbt := built_texts wo [Sp.endV ++ Sp.crlf] #[.string ⟨#[69, 78, 68, 13, 10]⟩] rfl 1 rfl (by decide)
    have hal : Below wo.heap.size wo (wo.alloc (.cells #[.string ⟨#[69, 78, 68, 13, 10]⟩] 9)) := (Below.refl _ _).alloc (Nat.le_refl _) _
    have hts : TextsLoop wo ks (.slice (some ⟨wo.heap.size, 0, none⟩) 1 1) [Sp.endV ++ Sp.crlf] 0 W1 := ⟨Nat.zero_le _, by rw [hW1]; exact hbt, by rw [hW1]; exact hal, by rw [List.drop_zero], ⟨[], rfl, by simp⟩, by simp⟩
    have HM := Lib.hid hm
    have HBK := Lib.hid hbk
    have HTS := Lib.hid hts
    have hshort := hm.short
    have HSH := Lib.hid hshort.2
    have hkn := hshort.1
    have HW1 := Lib.hid hW1
    clear hm hbk hbt hal hts hW1 hshort
    go_upto_region 4 with fail
    rw [← HW1.out]
    go_wp2_with fail
    go_loopw [7, 9, 18] (fun tv _ iv wr => ∃ ts j T tc, iv = .int .i64 (j : Nat) ∧ tv = .slice T (List.length ts) tc ∧ TextsLoop wo ks (.slice T (List.length ts) tc) ts j wr) (fun _ _ iv _ => ks.length - (intOf iv).toNat)
    case atStart => exact ⟨[Sp.endV ++ Sp.crlf], 0, some ⟨wo.heap.size, 0, none⟩, 1, rfl, rfl, HTS.out⟩
    case round =>
      obtain ⟨ts, j, T, tc, rfl, rfl, ht⟩ := hrel
      have hjl := ht.le
      have hbw := ht.below
      have HT := Lib.hid ht
      by_cases hlt2 : j < ks.length
      · obtain ⟨s, hs⟩ : ∃ s, ks[j]? = some s := ⟨ks[j], by simp [hlt2]⟩
        have hsm2 : s ∈ ks := List.mem_of_getElem? hs
        have hj1 : (j : Int) < (ks.length : Int) := by omega
        obtain ⟨g, o, hCe, ycell⟩ : ∃ g o, C = some ⟨g, o, none⟩ ∧ wr.cell? ⟨g, o + j, none⟩ = some (str s) := by
          rcases HM.out.keys.below hbw with h0 | ⟨g, o, h1, h2, h3⟩
          · have : ks = [] := by simpa using h0
            rw [this] at hlt2; simp at hlt2
          · exact ⟨g, o, h1, h3 _ _ (by rw [List.getElem?_map, hs]; rfl)⟩
        subst hCe
        have hlg := replyLegal_any s wr (HSH.out s hsm2)
        have hdrop : ks.drop j = s :: ks.drop (j + 1) := by
          rw [List.drop_eq_getElem_cons hlt2]
          congr 1
          rw [List.getElem?_eq_getElem hlt2] at hs
          injection hs
        have hgo := ht.go
        rw [hdrop, valueTexts_cons] at hgo
        cases hb : Sp.legalR s with
        | false =>
          rw [hb] at hlg hgo
          rw [if_neg (by simp)] at hgo
          have HLG := Lib.hid hlg
          have HG := Lib.hid hgo
          clear hlg hgo hb hdrop hs hsm2 ht hbw
          go_wp2_with (go_at_call 75; refine HLG.out.mono ?_; rintro e w2 ⟨rfl, hb2⟩; have HB2 := Lib.hid hb2; clear hb2)
          refine ⟨⟨ts, j + 1, T, tc, by go_num, rfl, ⟨by omega, own_later HT.out.own HB2.out, HT.out.below.trans (HB2.out.mono HT.out.below.size), HG.out, HT.out.head, by have := HT.out.few; omega⟩⟩, by show ks.length - ((j : Int) + 1).toNat < ks.length - (j : Int).toNat; omega⟩
        | true =>
          rw [hb] at hlg hgo
          have hs250 := legal_short hb
          have HBL := Lib.hid hb
          have HGO := Lib.hid hgo
          have HSM := Lib.hid hsm2
          have hts0 : ts ≠ [] := by obtain ⟨us, hus, _⟩ := ht.head; rw [hus]; simp
          have htl : 0 < ts.length := List.length_pos_iff.2 hts0
          obtain ⟨gt, hgt⟩ := own_some ht.own (by omega)
          have hsl : ∀ W : World, (Instr.slice 27 (.slice T ts.length tc) (some (.int .i64 1)) none none).run Tryz.prog W = .ok (.slice (cutAddr T 1 tc) (ts.length - 1) (tc - 1)) W := fun W => run_slice_texts W T ts.length tc 1 (by omega)
          have hroomT := own_room3 ht.own
          have hrowT : RowAt wr (cutAddr T 1 tc) ((ts.drop 1).map str) := by
            rw [List.map_drop]
            exact (RowAt.of_own ht.own).cut (by rw [List.length_map]; exact hroomT.1)
          have hdl : (ts.drop 1).length = ts.length - 1 := List.length_drop
          have hfew := ht.few
          obtain ⟨zb, hzb⟩ : ∃ zb : ByteArray, zb = { data := #[86, 65, 76, 85, 69, 32] } ++ { data := s.toArray } ++ { data := #[32] } := ⟨_, rfl⟩
          have hzs : zb = ⟨(valueW ++ s ++ [32]).toArray⟩ := by
            rw [hzb]
            exact cat_three s
          have hct : ∀ W : World, Below wr.heap.size wr W → Calls Tryz.prog 86 #[.slice (cutAddr T 1 tc) (ts.length - 1) (tc - 1), .string zb] W fun e w' => e = .returned (.bool (decide ((valueW ++ s ++ [32]) ∈ ts.drop 1))) ∧ W = w' := fun W hW => by
            have := hasText_any (c := tc - 1) (hrowT.below hW) (by rw [hdl]; omega) (valueW ++ s ++ [32])
            rw [hdl] at this
            rw [hzs]; exact this
          generalize cutAddr T 1 tc = DT at hsl hct
          have hcat := hzb.symm
          have HLG := Lib.hid hlg
          have HCT := Lib.hid hct
          have HZS := Lib.hid hzs
          have HGT := Lib.hid hgt
          have h1n : (1 : Int) ≤ (ts.length : Int) := by omega
          have h1c : (1 : Int) ≤ (tc : Int) := by omega
          have HFEW := Lib.hid hfew
          clear hlg hgo hb hdrop hs hsm2 ht hbw hts0 hrowT hdl hct hzb hzs hgt hfew htl
          by_cases hin : (valueW ++ s ++ [32]) ∈ ts.drop 1
          · have hgo := HGO.out
            rw [if_neg (fun h => h.2 hin)] at hgo
            have hct2 := HCT.out
            rw [decide_eq_true hin] at hct2
            have HCT2 := Lib.hid hct2
            have HG := Lib.hid hgo
            clear hgo hct2 hin
            go_wp2_with (first
              | (go_at_call 75; refine HLG.out.mono ?_; rintro e w2 ⟨rfl, hb2⟩; have HB2 := Lib.hid hb2; clear hb2)
              | (go_at_call 86; refine (HCT2.out _ HB2.out).mono ?_; rintro e w3 ⟨rfl, rfl⟩))
            refine ⟨⟨ts, j + 1, T, tc, by go_num, rfl, ⟨by omega, own_later HT.out.own HB2.out, HT.out.below.trans (HB2.out.mono HT.out.below.size), HG.out, HT.out.head, by have := HT.out.few; omega⟩⟩, by show ks.length - ((j : Int) + 1).toNat < ks.length - (j : Int).toNat; omega⟩
          · have hgo := HGO.out
            rw [if_pos ⟨rfl, hin⟩] at hgo
            have hct2 := HCT.out
            rw [decide_eq_false hin] at hct2
            have HCT2 := Lib.hid hct2
            have HG := Lib.hid hgo
            have hwow := HT.out.below.size
            have htb : ts.length ≤ 4000001 := by have := HFEW.out; omega
            clear hgo hct2 hin
            go_wp2_with (first
              | (go_at_call 75; refine HLG.out.mono ?_; rintro e w2 ⟨rfl, hb2⟩; have hs2 := hb2.size; have HOWN2 := Lib.hid (own_later HT.out.own hb2); have HB2 := Lib.hid hb2; clear hb2)
              | (go_at_call 86; refine (HCT2.out _ HB2.out).mono ?_; rintro e w3 ⟨rfl, rfl⟩)
              | (at_builtin; refine wpList_append_put rfl (.tmp 33) (.tmp 37) _ rfl wo.heap.size 9 i1 _ 1 16 Tryz.underlying27 hi1 hy0 hy1 hy2 rfl (by decide) (.slice T ts.length tc) ts.length (ts.map str) rfl (own_later HOWN2.out ((Below.refl _ _).alloc (Nat.le_refl _) _)) ⟨w2.heap.size, 0, none⟩ 1 1 [.string zb] rfl rfl (cells_one w2 _ _) ?_ ?_ ?_ ?_ ?_ ?_; (intro u hu; simp only [List.mem_cons, List.not_mem_nil, or_false] at hu; subst hu; rfl); decide; (unfold maxLen; omega); omega; (simp; omega); intro g8 cap8 w8 hown8 hg8 hat8; have HOWN8 := Lib.hid hown8; have HG8 := Lib.hid hg8; clear hown8 hg8 hat8))
            have hog : Below wo.heap.size wo w8 := by
              have h1 : Below wo.heap.size wo (w2.alloc (.cells #[.string zb] 9)) := (HT.out.below.trans (HB2.out.mono hwow)).alloc (by omega) _
              exact h1.grown HG8.out h1.size (fun k hk => ((own_later HOWN2.out ((Below.refl _ _).alloc (Nat.le_refl _) (.cells #[.string zb] 9))).lt k hk).1)
            refine ⟨⟨ts ++ [valueW ++ s ++ [32]], j + 1, some ⟨g8, 0, none⟩, cap8, by go_num, by rw [List.length_append, List.length_singleton], ⟨by omega, ?_, hog, HG.out, ?_, by rw [List.length_append, List.length_singleton]; have := HFEW.out; omega⟩⟩, by show ks.length - ((j : Int) + 1).toNat < ks.length - (j : Int).toNat; omega⟩
            · rw [List.length_append, List.length_singleton, List.map_append, List.map_singleton, show str (valueW ++ s ++ [32]) = Value.string zb by rw [HZS.out]]
              exact HOWN8.out
            · obtain ⟨us, hus, hall⟩ := HT.out.head
              refine ⟨us ++ [valueW ++ s ++ [32]], by rw [hus]; rfl, fun x hx => ?_⟩
              rcases List.mem_append.1 hx with h1 | h1
              · exact hall x h1
              · exact ⟨s, HSM.out, HBL.out, List.mem_singleton.1 h1⟩
      · have hje : j = ks.length := by omega
        have hi1' : decide ((j : Int) < (ks.length : Int)) = false := decide_eq_false (by omega)
        have hi2' : decide (j < ks.length) = false := decide_eq_false hlt2
        have hvt := ht.go
        rw [List.drop_eq_nil_of_le (by omega), Sp.valueTexts] at hvt
        have hx := HM.out.rd.later hbw
        have hch := choose_any (tc := tc) hx (RowAt.of_own ht.own) (by have := ht.few; omega) (by
          intro s hs
          obtain ⟨us, hus, hall⟩ := ht.head
          rw [hus] at hs
          rcases List.mem_cons.1 hs with h1 | h1
          · rw [h1]; decide
          · obtain ⟨kk, _, hl, he⟩ := hall s h1
            have := legal_short hl
            rw [he]; simp [valueW]; omega)
        have hgo := HM.out.go
        rw [Sp.valuesFrom, ← hvt] at hgo
        change (Sp.chooseV raw q ts).next _ = r at hgo
        have ho0 := OnlyIn.of hbw [rb]
        have HO0 := Lib.hid ho0
        have hrbe0 : rb < bx := by rw [HBX.out]; exact hlt
        clear hx ho0 hbw hvt hje
        go_upto_region 10 with fail
        cases hcv : Sp.chooseV raw q ts with
        | more =>
          rw [hcv] at hgo hch
          have HQ := Lib.hid hch
          have HGQ := Lib.hid hgo
          clear hgo hch hcv
          go_wp2_with (go_at_call 112; refine HQ.out.mono ?_; rintro e wz ⟨hoz, rfl, _⟩; have HOZ := Lib.hid hoz; clear hoz)
          refine ⟨rfl, ?_⟩
          rw [← HR.out, ← HGQ.out]
          exact ⟨HM.out.only.rd (HO0.out.rd HOZ.out), rfl⟩
        | fail =>
          rw [hcv] at hgo hch
          have HQ := Lib.hid hch
          have HGQ := Lib.hid hgo
          clear hgo hch hcv
          go_wp2_with (go_at_call 112; refine HQ.out.mono ?_; rintro e wz ⟨hoz, rfl, _⟩; have HOZ := Lib.hid hoz; clear hoz)
          refine ⟨rfl, ?_⟩
          rw [← HR.out, ← HGQ.out]
          exact ⟨HM.out.only.rd (HO0.out.rd HOZ.out), rfl⟩
        | got i q1 =>
          obtain ⟨s0, hs0, _, hq1⟩ := Sp.choose_reads hcv
          rw [hcv] at hgo hch
          change (if i = 0 then Sp.RdV.got (xs.map EntX.e) q1 else _) = r at hgo
          by_cases h0 : i = 0
          · rw [if_pos h0] at hgo
            have g1 : ((i : Int) == 0) = true := by rw [h0]; rfl
            have HC := Lib.hid hch
            have HG := Lib.hid hgo
            clear hgo hch hcv h0 hs0 hq1
            go_wp2_with (go_at_call 112; refine HC.out.mono ?_; rintro e w2 ⟨ho2, rfl, hx2⟩; have HO2 := Lib.hid (HO0.out.rd ho2); have HX2 := Lib.hid hx2; clear ho2 hx2)
            rw [← HR.out, ← HG.out]
            obtain ⟨E, ec, hv⟩ := own_form HM.out.own.row
            refine ⟨HM.out.only.rd HO2.out, ⟨E, ec, xs, rfl, by rw [hv]; rfl, ?_⟩, HX2.out⟩
            rw [← hv]
            exact HM.out.own.only HO2.out (by simpa using hlt)
          · rw [if_neg h0] at hgo
            obtain ⟨us, hus, hall⟩ := ht.head
            have hts0 : ts.length ≠ 0 := by rw [hus]; simp
            obtain ⟨kk, hkm, hkl, hs0e⟩ : ∃ kk ∈ ks, Sp.legalR kk = true ∧ s0 = valueW ++ kk ++ [32] := by
              rw [hus] at hs0
              obtain ⟨i', rfl⟩ : ∃ i', i = i' + 1 := ⟨i - 1, by omega⟩
              rw [List.getElem?_cons_succ] at hs0
              exact hall s0 (List.mem_of_getElem? hs0)
            have hkey : ((ts.getD i []).drop 6).dropLast = kk := by
              rw [List.getD_eq_getElem?_getD, hs0, hs0e]
              show ((valueW ++ kk ++ [32]).drop 6).dropLast = kk
              rw [List.append_assoc]
              show (kk ++ [32]).dropLast = kk
              exact List.dropLast_concat
            rw [hkey] at hgo
            change (Sp.numberR raw 4294967295 q1).next _ = r at hgo
            have g1 : ((i : Int) == 0) = false := by simp; omega
            have hil : i < ts.length := (List.getElem?_eq_some_iff.1 hs0).1
            have hil2 : (i : Int) < (ts.length : Int) := by omega
            have hq1' : q + 1 ≤ q1 := by rw [hq1, hs0e]; simp only [List.length_append, List.length_cons, List.length_nil, valueW]; omega
            obtain ⟨gt, hgt⟩ := own_some ht.own hts0
            subst hgt
            have hkk := legal_short hkl
            have htp : ∀ W : World, Calls Tryz.prog 141 #[str s0, .string ⟨#[86, 65, 76, 85, 69, 32]⟩] W fun e w' => e = .returned (str (kk ++ [32])) ∧ W = w' := fun W => by
              have := Tryz.strings_TrimPrefix ⟨s0.toArray⟩ ⟨#[86, 65, 76, 85, 69, 32]⟩ W
              rw [strR_list, hs0e, List.append_assoc, show (⟨#[86, 65, 76, 85, 69, 32]⟩ : ByteArray).data.toList = valueW from rfl, trim_front] at this
              rw [hs0e, List.append_assoc]
              exact this.mono fun e w' ⟨h1, h2⟩ => ⟨h1, h2.symm⟩
            have hsf : ∀ W : World, Calls Tryz.prog 140 #[str (kk ++ [32]), .string ⟨#[32]⟩] W fun e w' => e = .returned (str kk) ∧ W = w' := fun W => by
              have := Tryz.strings_TrimSuffix ⟨(kk ++ [32]).toArray⟩ ⟨#[32]⟩ W (by rw [strR_size, List.length_append, List.length_singleton]; omega)
              rw [strR_list, show (⟨#[32]⟩ : ByteArray).data.toList = [32] from rfl, trim_back] at this
              exact this.mono fun e w' ⟨h1, h2⟩ => ⟨h1, h2.symm⟩
            obtain ⟨kb, hkb⟩ : ∃ kb, kb = kk ++ [32] := ⟨_, rfl⟩
            rw [← hkb] at htp hsf
            have HTP := Lib.hid htp
            have HSF := Lib.hid hsf
            have HC := Lib.hid hch
            have HG := Lib.hid hgo
            have HS0 := Lib.hid hs0
            have HT' := Lib.hid ht
            clear hgo hch hcv h0 hs0 hq1 hs0e hkey htp hsf hus hall hts0 hil ht hkb
            go_upto_region 14 with (first
              | (go_at_call 112; refine HC.out.mono ?_; rintro e w2 ⟨ho2, rfl, hx2⟩; have hcell := own_textCell (own_only HT'.out.own ho2 (by have h1 := HM.out.only.size; simp; omega)) HS0.out; have HO2 := Lib.hid (HO0.out.rd ho2); have HX2 := Lib.hid hx2; clear ho2 hx2)
              | (go_at_call 141; refine (HTP.out _).mono ?_; rintro e w3 ⟨rfl, rfl⟩)
              | (go_at_call 140; refine (HSF.out _).mono ?_; rintro e w4 ⟨rfl, rfl⟩))
            obtain ⟨eb, heb0⟩ : ∃ eb, eb = w2.heap.size := ⟨_, rfl⟩
            rw [← heb0]
            obtain ⟨W3, hW3⟩ : ∃ W3, W3 = w2.alloc (.cells #[str kk, .slice none 0 0, .int .u64 0, .int .i64 0, .int .u64 0, .int .i64 0, .bool false, .bool false, .bool false] 86) := ⟨_, rfl⟩
            rw [← hW3]
            have hal : Below w2.heap.size w2 W3 := by rw [hW3]; exact (Below.refl _ _).alloc (Nat.le_refl _) _
            have hwoe : wo.heap.size ≤ eb := by rw [heb0]; exact HO2.out.size
            have hrbe : rb < eb := by have h1 := HM.out.only.size; omega
            have heb : Blk W3 eb 86 #[str kk, .slice none 0 0, .int .u64 0, .int .i64 0, .int .u64 0, .int .i64 0, .bool false, .bool false, .bool false] := by rw [hW3, heb0]; exact Blk.new w2 _ _
            have HEB3 := Lib.hid heb
            have HX3 := Lib.hid (HX2.out.later hal)
            have HO3 := Lib.hid (HO2.out.later hal)
            have hkr : RowAt W3 C (ks.map str) := HM.out.keys.onlyN (HO2.out.later hal) (fun hne a ha => by simpa using HM.out.away (ne_of_map hne) a ha)
            have hix := idxText_any (c := cc) hkr (by omega) hkm
            have hidx : ks.idxOf kk < ks.length := List.idxOf_lt_length_iff.2 hkm
            obtain ⟨C2, hC2⟩ : ∃ C2, C2 = cutAddr C (ks.idxOf kk + 1) cc := ⟨_, rfl⟩
            have hsl : ∀ W : World, (Instr.slice 27 (.slice C ks.length cc) (some (.int .i64 ((ks.idxOf kk : Int) + 1))) none none).run Tryz.prog W = .ok (.slice C2 (ks.length - (ks.idxOf kk + 1)) (cc - (ks.idxOf kk + 1))) W := fun W => by
              rw [hC2]; exact run_slice_texts W C ks.length cc (ks.idxOf kk + 1) (by omega)
            obtain ⟨ix, hixe⟩ : ∃ ix, ix = ks.idxOf kk := ⟨_, rfl⟩
            rw [← hixe] at hix hsl hidx
            have hx1 : (ix : Int) + 1 ≤ (ks.length : Int) := by omega
            have hx2 : (ix : Int) + 1 ≤ (cc : Int) := by have := HM.out.room; omega
            have hx3 : ix ≤ 4000000 := by omega
            have y0 : W3.cell? ⟨eb, 0, none⟩ = some (str kk) := heb.cell 0
            have HIX := Lib.hid hix
            have HIDX := Lib.hid hidx
            have HC2 := Lib.hid hC2
            have HQ1 := Lib.hid hq1'
            have HIXE := Lib.hid hixe
            clear hW3 hal heb heb0 hkr hix hidx hC2 hkm hkl hcell hq1' hixe
            go_upto_region 15 with (go_at_call 74; refine HIX.out.mono ?_; rintro e w5 ⟨rfl, rfl⟩)
            have hixe := HIXE.out
            subst hixe
            clear hsl hx1 hx2 y0 HIXE HIX HTP HSF HC
            have hnum := number_any (most := 4294967295) HX3.out (by decide) (by decide)
            have hgo := HG.out
            clear HG
            cases hcv : Sp.numberR raw 4294967295 q1 with
            | more =>
              rw [hcv] at hgo hnum
              have HQ := Lib.hid hnum
              have HGQ := Lib.hid hgo
              clear hgo hnum hcv
              go_wp2_with (go_at_call 111; refine HQ.out.mono ?_; rintro e wz ⟨hoz, rfl, _⟩; have HOZ := Lib.hid hoz; clear hoz)
              refine ⟨rfl, ?_⟩
              rw [← HR.out, ← HGQ.out]
              exact ⟨HM.out.only.rd (HO3.out.rd HOZ.out), rfl⟩
            | fail =>
              rw [hcv] at hgo hnum
              have HQ := Lib.hid hnum
              have HGQ := Lib.hid hgo
              clear hgo hnum hcv
              go_wp2_with (go_at_call 111; refine HQ.out.mono ?_; rintro e wz ⟨hoz, rfl, _⟩; have HOZ := Lib.hid hoz; clear hoz)
              refine ⟨rfl, ?_⟩
              rw [← HR.out, ← HGQ.out]
              exact ⟨HM.out.only.rd (HO3.out.rd HOZ.out), rfl⟩
            | got fl2 q2 =>
              rw [hcv] at hgo hnum
              have hf1 := (Sp.number_reads (by decide) hcv).2.1
              change (Sp.wantV raw q2 [32]).next _ = r at hgo
              have HQ := Lib.hid hnum
              have HG4 := Lib.hid hgo
              clear hgo hnum hcv
              go_upto_region 16 with (go_at_call 111; refine HQ.out.mono ?_; rintro e w4 ⟨ho, rfl, hx⟩; have HO4 := Lib.hid (HO3.out.rd ho); have HX4 := Lib.hid hx; have heb := HEB3.out.same (ho.block _ HEB3.out.lt (by simp; omega)); have y2 : w4.cell? ⟨eb, 2, none⟩ = some (.int .u64 0) := heb.cell 2; have yf2 := heb.frozen 2; have HEB4 := Lib.hid heb; clear ho hx heb)
              obtain ⟨W5, hW5⟩ : ∃ W, W = w4.setCell ⟨eb, 2, none⟩ (.int .u64 fl2) := ⟨_, rfl⟩
              rw [← hW5]
              have heb : Blk W5 eb 86 #[str kk, .slice none 0 0, .int .u64 fl2, .int .i64 0, .int .u64 0, .int .i64 0, .bool false, .bool false, .bool false] := by rw [hW5]; exact HEB4.out.put 2 _
              have hx5 : RdAt W5 rb A cap raw q2 := by rw [hW5]; exact HX4.out.put hrbe 2 _
              have ho5 : OnlyIn [rb] wo W5 := by rw [hW5]; exact HO4.out.setCell (.inr hwoe) 2 _
              have HEB5 := Lib.hid heb
              have HX5 := Lib.hid hx5
              have HO5 := Lib.hid ho5
              clear hW5 heb hx5 ho5 y2 yf2
              have hw := readerWant_any HX5.out [32] (by decide)
              have hgo := HG4.out
              clear HG4 HQ
              cases hcv : Sp.wantV raw q2 [32] with
              | more =>
                rw [hcv] at hgo hw
                have HQ := Lib.hid hw
                have HGQ := Lib.hid hgo
                clear hgo hw hcv
                go_wp2_with (go_at_call 109; refine HQ.out.mono ?_; rintro e wz ⟨hoz, rfl, _⟩; have HOZ := Lib.hid hoz; clear hoz)
                refine ⟨rfl, ?_⟩
                rw [← HR.out, ← HGQ.out]
                exact ⟨HM.out.only.rd (HO5.out.rd HOZ.out), rfl⟩
              | fail =>
                rw [hcv] at hgo hw
                have HQ := Lib.hid hw
                have HGQ := Lib.hid hgo
                clear hgo hw hcv
                go_wp2_with (go_at_call 109; refine HQ.out.mono ?_; rintro e wz ⟨hoz, rfl, _⟩; have HOZ := Lib.hid hoz; clear hoz)
                refine ⟨rfl, ?_⟩
                rw [← HR.out, ← HGQ.out]
                exact ⟨HM.out.only.rd (HO5.out.rd HOZ.out), rfl⟩
              | got u q3 =>
                rw [hcv] at hgo hw
                have hf2 := (Sp.want_reads hcv).2
                change (Sp.numberR raw 1048576 q3).next _ = r at hgo
                have HQ := Lib.hid hw
                have HG6 := Lib.hid hgo
                clear hgo hw hcv
                go_upto_region 17 with (go_at_call 109; refine HQ.out.mono ?_; rintro e w6 ⟨ho, rfl, hx⟩; have HO6 := Lib.hid (HO5.out.rd ho); have HX6 := Lib.hid hx; have heb := HEB5.out.same (ho.block _ HEB5.out.lt (by simp; omega)); have HEB6 := Lib.hid heb; clear ho hx heb)
                have hnum := number_any (most := 1048576) HX6.out (by decide) (by decide)
                have hgo := HG6.out
                clear HG6 HQ
                cases hcv : Sp.numberR raw 1048576 q3 with
                | more =>
                  rw [hcv] at hgo hnum
                  have HQ := Lib.hid hnum
                  have HGQ := Lib.hid hgo
                  clear hgo hnum hcv
                  go_wp2_with (go_at_call 111; refine HQ.out.mono ?_; rintro e wz ⟨hoz, rfl, _⟩; have HOZ := Lib.hid hoz; clear hoz)
                  refine ⟨rfl, ?_⟩
                  rw [← HR.out, ← HGQ.out]
                  exact ⟨HM.out.only.rd (HO6.out.rd HOZ.out), rfl⟩
                | fail =>
                  rw [hcv] at hgo hnum
                  have HQ := Lib.hid hnum
                  have HGQ := Lib.hid hgo
                  clear hgo hnum hcv
                  go_wp2_with (go_at_call 111; refine HQ.out.mono ?_; rintro e wz ⟨hoz, rfl, _⟩; have HOZ := Lib.hid hoz; clear hoz)
                  refine ⟨rfl, ?_⟩
                  rw [← HR.out, ← HGQ.out]
                  exact ⟨HM.out.only.rd (HO6.out.rd HOZ.out), rfl⟩
                | got n q4 =>
                  rw [hcv] at hgo hnum
                  have hf3 := (Sp.number_reads (by decide) hcv).2.1
                  have hn1 := (Sp.number_reads (by decide) hcv).2.2
                  change ((if Sp.tokensV v = true then (Sp.wantV raw q4 [32]).next fun _ p5 => Sp.numberR raw 18446744073709551615 p5 else Sp.RdV.got 0 q4 : Sp.RdV Nat)).next _ = r at hgo
                  have HQ := Lib.hid hnum
                  have HG7 := Lib.hid hgo
                  clear hgo hnum hcv
                  go_upto_region 18 with (go_at_call 111; refine HQ.out.mono ?_; rintro e w7 ⟨ho, rfl, hx⟩; have HO7 := Lib.hid (HO6.out.rd ho); have HX7 := Lib.hid hx; have heb := HEB6.out.same (ho.block _ HEB6.out.lt (by simp; omega)); have HEB7 := Lib.hid heb; clear ho hx heb)
                  have hbk7 := HBK.out.same (HO7.out.block _ HBK.out.lt (by simp; omega))
                  have b0 : w7.cell? ⟨bx, 0, none⟩ = some (.int .i64 v) := (hbk7.cell 0).trans HC0.out
                  have htk := fun W : World => tokens_any v W
                  have hgo := HG7.out
                  clear HG7 HQ hbk7
                  cases htv : Sp.tokensV v with
                  | false =>
                    rw [htv] at hgo htk
                    rw [if_neg (by decide)] at hgo
                    change (Sp.wantV raw q4 Sp.crlf).next _ = r at hgo
                    have HTK := Lib.hid htk
                    have HG7 := Lib.hid hgo
                    have hqq : q + 1 ≤ q4 := by have := HQ1.out; omega
                    clear hgo htk htv
                    go_upto_region 21 with (go_at_call 48; refine (HTK.out _).mono ?_; rintro e w8 ⟨rfl, rfl⟩)
                    clear b0
                    have hw := readerWant_any HX7.out Sp.crlf (by decide)
                    have hgo := HG7.out
                    clear HG7
                    cases hcv : Sp.wantV raw q4 Sp.crlf with
                    | more =>
                      rw [hcv] at hgo hw
                      have HQ := Lib.hid hw
                      have HGQ := Lib.hid hgo
                      clear hgo hw hcv
                      go_wp2_with (go_at_call 109; refine HQ.out.mono ?_; rintro e wz ⟨hoz, rfl, _⟩; have HOZ := Lib.hid hoz; clear hoz)
                      refine ⟨rfl, ?_⟩
                      rw [← HR.out, ← HGQ.out]
                      exact ⟨HM.out.only.rd (HO7.out.rd HOZ.out), rfl⟩
                    | fail =>
                      rw [hcv] at hgo hw
                      have HQ := Lib.hid hw
                      have HGQ := Lib.hid hgo
                      clear hgo hw hcv
                      go_wp2_with (go_at_call 109; refine HQ.out.mono ?_; rintro e wz ⟨hoz, rfl, _⟩; have HOZ := Lib.hid hoz; clear hoz)
                      refine ⟨rfl, ?_⟩
                      rw [← HR.out, ← HGQ.out]
                      exact ⟨HM.out.only.rd (HO7.out.rd HOZ.out), rfl⟩
                    | got u q7 =>
                      rw [hcv] at hgo hw
                      have hl1 := (Sp.want_reads hcv).2
                      change (Sp.dataR raw n q7).next _ = r at hgo
                      have HQ := Lib.hid hw
                      have HG7a := Lib.hid hgo
                      clear hgo hw hcv
                      go_upto_region 22 with (go_at_call 109; refine HQ.out.mono ?_; rintro e w7a ⟨ho, rfl, hx⟩; have HO7a := Lib.hid (HO7.out.rd ho); have HX7a := Lib.hid hx; have heb := HEB7.out.same (ho.block _ HEB7.out.lt (by simp; omega)); have HEB7a := Lib.hid heb; clear ho hx heb)
                      have hdt := data_any HX7a.out (n := n) (by omega)
                      have hgo := HG7a.out
                      clear HG7a HQ
                      cases hcv : Sp.dataR raw n q7 with
                      | more =>
                        rw [hcv] at hgo hdt
                        have HQ := Lib.hid hdt
                        have HGQ := Lib.hid hgo
                        clear hgo hdt hcv
                        go_wp2_with (go_at_call 139; refine HQ.out.mono ?_; rintro e wz ⟨hoz, rfl, _⟩; have HOZ := Lib.hid hoz; clear hoz)
                        refine ⟨rfl, ?_⟩
                        rw [← HR.out, ← HGQ.out]
                        exact ⟨HM.out.only.rd (HO7a.out.rd HOZ.out), rfl⟩
                      | fail =>
                        rw [hcv] at hgo hdt
                        have HQ := Lib.hid hdt
                        have HGQ := Lib.hid hgo
                        clear hgo hdt hcv
                        go_wp2_with (go_at_call 139; refine HQ.out.mono ?_; rintro e wz ⟨hoz, rfl, _⟩; have HOZ := Lib.hid hoz; clear hoz)
                        refine ⟨rfl, ?_⟩
                        rw [← HR.out, ← HGQ.out]
                        exact ⟨HM.out.only.rd (HO7a.out.rd HOZ.out), rfl⟩
                      | got d q8 =>
                        rw [hcv] at hgo hdt
                        have hl2 := (Sp.data_reads hcv).2.1
                        change (Sp.wantV raw q8 Sp.crlf).next _ = r at hgo
                        have hnb : (n : Int) ≤ 1048576 := by omega
                        have HQ := Lib.hid hdt
                        have HG8 := Lib.hid hgo
                        clear hgo hdt hcv
                        go_upto_region 23 with (go_at_call 139; refine HQ.out.mono ?_; rintro e w8 ⟨ho, ⟨B, cB, rfl, hown⟩, hx⟩; have HO8 := Lib.hid (HO7a.out.rd ho); have HX8 := Lib.hid hx; have heb := HEB7a.out.same (ho.block _ HEB7a.out.lt (by simp; omega)); have y1 : w8.cell? ⟨eb, 1, none⟩ = some (.slice none 0 0) := heb.cell 1; have yf1 := heb.frozen 1; have HGE := Lib.hid (fun k (hk : k ∈ rowBlock (.slice B d.length cB)) => own_ge hown k hk); have HOWN8 := Lib.hid hown; have HEB8 := Lib.hid heb; have HE7 := Lib.hid HEB7a.out.lt; have HS7 := Lib.hid HO7a.out.size; clear ho hx heb hown)
                        obtain ⟨W9, hW9⟩ : ∃ W, W = w8.setCell ⟨eb, 1, none⟩ (.slice B d.length cB) := ⟨_, rfl⟩
                        rw [← hW9]
                        have heb : Blk W9 eb 86 #[str kk, .slice B d.length cB, .int .u64 fl2, .int .i64 0, .int .u64 0, .int .i64 0, .bool false, .bool false, .bool false] := by rw [hW9]; exact HEB8.out.put 1 _
                        have hx9 : RdAt W9 rb A cap raw q8 := by rw [hW9]; exact HX8.out.put hrbe 1 _
                        have ho9 : OnlyIn [rb] wo W9 := by rw [hW9]; exact HO8.out.setCell (.inr hwoe) 1 _
                        have hown9 : W9.ownsRow w7a.heap.size 5 1 (.slice B d.length cB) d.length (bytesV d) := own_same HOWN8.out fun k hk => by rw [hW9]; exact Below.heap_setCell w8 ⟨eb, 1, none⟩ _ k (by have h1 := HGE.out k hk; have h2 := HE7.out; show k ≠ eb; omega)
                        have HOWN9 := Lib.hid hown9
                        have HEB9 := Lib.hid heb
                        have HX9 := Lib.hid hx9
                        have HO9 := Lib.hid ho9
                        clear hW9 heb hx9 ho9 hown9 y1 yf1
                        have hw := readerWant_any HX9.out Sp.crlf (by decide)
                        have hgo := HG8.out
                        clear HG8 HQ
                        cases hcv : Sp.wantV raw q8 Sp.crlf with
                        | more =>
                          rw [hcv] at hgo hw
                          have HQ := Lib.hid hw
                          have HGQ := Lib.hid hgo
                          clear hgo hw hcv
                          go_wp2_with (go_at_call 109; refine HQ.out.mono ?_; rintro e wz ⟨hoz, rfl, _⟩; have HOZ := Lib.hid hoz; clear hoz)
                          refine ⟨rfl, ?_⟩
                          rw [← HR.out, ← HGQ.out]
                          exact ⟨HM.out.only.rd (HO9.out.rd HOZ.out), rfl⟩
                        | fail =>
                          rw [hcv] at hgo hw
                          have HQ := Lib.hid hw
                          have HGQ := Lib.hid hgo
                          clear hgo hw hcv
                          go_wp2_with (go_at_call 109; refine HQ.out.mono ?_; rintro e wz ⟨hoz, rfl, _⟩; have HOZ := Lib.hid hoz; clear hoz)
                          refine ⟨rfl, ?_⟩
                          rw [← HR.out, ← HGQ.out]
                          exact ⟨HM.out.only.rd (HO9.out.rd HOZ.out), rfl⟩
                        | got u q9 =>
                          rw [hcv] at hgo hw
                          have hl3 := (Sp.want_reads hcv).2
                          have hgo2 : Sp.valuesFrom raw v k (ks.drop (ks.idxOf kk + 1)) (xs.map EntX.e ++ [{ key := kk, value := d, flags := fl2, token := 0 }]) q9 = r := hgo
                          have HQ := Lib.hid hw
                          have HQQ := Lib.hid (show q + 1 ≤ q9 by omega)
                          have HG10 := Lib.hid hgo2
                          clear hgo hgo2 hw hcv
                          have hxsb : xs.length ≤ 1000000000 := by have h1 := HM.out.few; have h2 := HM.out.rd.le; omega
                          have hwsz : w.heap.size ≤ wo.heap.size := HM.out.only.size
                          go_wp2_with (first
                            | (go_at_call 109; refine HQ.out.mono ?_; rintro e w10 ⟨ho, rfl, hx⟩; have HO10 := Lib.hid (HO9.out.rd ho); have hsz10 := (HO9.out.rd ho).size; have HX10 := Lib.hid hx; have heb := HEB9.out.same (ho.block _ HEB9.out.lt (by simp; omega)); have y0 := heb.cell 0; have y1 := heb.cell 1; have y2 := heb.cell 2; have y3 := heb.cell 3; have y4 := heb.cell 4; have y5 := heb.cell 5; have y6 := heb.cell 6; have y7 := heb.cell 7; have y8 := heb.cell 8; simp only [List.getElem?_toArray, List.getElem?_cons_zero, List.getElem?_cons_succ] at y0 y1 y2 y3 y4 y5 y6 y7 y8; have HOWN10 := Lib.hid (own_only HOWN9.out ho (by simp; have h1 := HE7.out; omega)); have HENT := Lib.hid (HM.out.own.only (HO9.out.rd ho) (by simpa using hlt)); clear ho hx heb)
                            | (at_builtin; refine wpList_append_put rfl (.tmp 84) (.tmp 86) _ rfl w.heap.size 86 i0 _ 9 80 Tryz.underlying33 hi hz0 hz1 hz2 rfl (by decide) u5 xs.length (xs.flatMap EntX.cells) rfl (own_later HENT.out.row ((Below.refl _ _).alloc (Nat.le_refl _) _)) ⟨w10.heap.size, 0, none⟩ 1 1 [str kk, .slice B d.length cB, .int .u64 fl2, .int .i64 0, .int .u64 0, .int .i64 0, .bool false, .bool false, .bool false] rfl rfl (cells_new w10 [str kk, .slice B d.length cB, .int .u64 fl2, .int .i64 0, .int .u64 0, .int .i64 0, .bool false, .bool false, .bool false] _) ?_ ?_ ?_ ?_ ?_ ?_; (intro u hu; simp only [List.mem_cons, List.not_mem_nil, or_false] at hu; rcases hu with rfl | rfl | rfl | rfl | rfl | rfl | rfl | rfl | rfl <;> rfl); decide; (unfold maxLen; omega); omega; (simp; omega); intro g11 cap11 w11 hown11 hg11 hat11; have HOWN11 := Lib.hid hown11; have HG11 := Lib.hid hg11; clear hown11 hg11 hat11))
                          obtain ⟨X, hX⟩ : ∃ X : EntX, X = ⟨{ key := kk, value := d, flags := fl2, token := 0 }, B, cB⟩ := ⟨_, rfl⟩
                          have hval : w10.ownsRow w.heap.size 5 1 X.val X.e.value.length (bytesV X.e.value) := by
                            rw [hX]
                            exact own_base HOWN10.out fun k hk => by have h1 := own_ge HOWN10.out k (mem_rowBlock.2 hk); have h2 := HS7.out; omega
                          have hnew : ∀ k ∈ rowBlock X.val, ∀ y ∈ xs, k ∉ rowBlock y.val := fun k hk y hy hky => by
                            rw [hX] at hk
                            have h1 := own_ge HOWN10.out k hk
                            have h2 := own_lt (HM.out.own.each y hy) k hky
                            have h3 := HS7.out
                            omega
                          have hent := EntsOwn.snoc (x := X) HENT.out hval hnew (by rw [hX]; exact HOWN11.out) HG11.out
                          have hog : OnlyIn (rowBlock u5) w10 w11 := (OnlyIn.of ((Below.refl _ _).alloc (Nat.le_refl _) _) _).trans (OnlyIn.grown HG11.out) (fun i hi => .inl hi)
                          have hge := own_ge HENT.out.row
                          have hrd11 := HX10.out.only hog (fun k hk => by have := hge k hk; omega)
                          have ho11 : OnlyIn [rb] w w11 := (HM.out.only.rd HO10.out).trans hog (fun k hk => .inr (hge k hk))
                          have hkeys : RowAt w11 C ((ks).map str) := (HM.out.keys.onlyN HO10.out (fun hne a ha => by simpa using HM.out.away (ne_of_map hne) a ha)).onlyN hog (fun hne a ha hm => by have := hge _ hm; have := HM.out.old (ne_of_map hne) a ha; omega)
                          have hbk11 : Blk w11 bx 32 cmdC := (HBK.out.same (HO10.out.block _ HBK.out.lt (by simp; omega))).same (hog.block _ (Nat.lt_of_lt_of_le HBK.out.lt HO10.out.size) (fun hm => own_apart HENT.out.row (HBK.out.same (HO10.out.block _ HBK.out.lt (by simp; omega))) (by decide) (mem_rowBlock.1 hm)))
                          have hkl2 : (ks.drop (ks.idxOf kk + 1)).length = ks.length - (ks.idxOf kk + 1) := List.length_drop
                          have hroomk := HM.out.room
                          have hfin : ValuesLoop w rb A cap raw v r C2 (cc - (ks.idxOf kk + 1)) (ks.drop (ks.idxOf kk + 1)) (.slice (some ⟨g11, 0, none⟩) (xs.length + 1) cap11) (xs ++ [X]) k q9 w11 := by
                            refine ⟨hrd11, hent, ho11, ?_, by rw [hkl2]; omega, fun hne a ha => ?_, fun hne a ha => ?_, ⟨by rw [hkl2]; omega, fun s hs => HSH.out s (List.mem_of_mem_drop hs)⟩, ?_, ?_, ?_⟩
                            · rw [HC2.out, List.map_drop]; exact hkeys.cut (by rw [List.length_map]; exact hroomk)
                            · rw [HC2.out] at ha; obtain ⟨a', h1, h2⟩ := cut_block ha; rw [h2]; exact HM.out.away (ne_of_drop hne) a' h1
                            · rw [HC2.out] at ha; obtain ⟨a', h1, h2⟩ := cut_block ha; rw [h2]; exact HM.out.old (ne_of_drop hne) a' h1
                            · rw [List.map_append, List.map_singleton, hX]; exact HG10.out
                            · rw [hkl2]; have := HM.out.fuel; have := HIDX.out; omega
                            · rw [List.length_append, List.length_singleton]; have := HM.out.few; have := HQQ.out; omega
                          refine ⟨⟨C2, cc - (ks.idxOf kk + 1), ks.drop (ks.idxOf kk + 1), xs ++ [X], k, q9, by rw [hkl2], hfin, hbk11⟩, ?_⟩
                          show ks.length - (ks.idxOf kk + 1) < ks.length
                          have := HIDX.out
                          omega
                  | true =>
                    rw [htv] at hgo htk
                    rw [if_pos rfl] at hgo
                    have HTK := Lib.hid htk
                    clear htk htv
                    go_upto_region 19 with (go_at_call 48; refine (HTK.out _).mono ?_; rintro e w8 ⟨rfl, rfl⟩)
                    clear b0
                    have hw := readerWant_any HX7.out [32] (by decide)
                    cases hcv : Sp.wantV raw q4 [32] with
                    | more =>
                      rw [hcv] at hgo hw
                      have HQ := Lib.hid hw
                      have HGQ := Lib.hid hgo
                      clear hgo hw hcv
                      go_wp2_with (go_at_call 109; refine HQ.out.mono ?_; rintro e wz ⟨hoz, rfl, _⟩; have HOZ := Lib.hid hoz; clear hoz)
                      refine ⟨rfl, ?_⟩
                      rw [← HR.out, ← HGQ.out]
                      exact ⟨HM.out.only.rd (HO7.out.rd HOZ.out), rfl⟩
                    | fail =>
                      rw [hcv] at hgo hw
                      have HQ := Lib.hid hw
                      have HGQ := Lib.hid hgo
                      clear hgo hw hcv
                      go_wp2_with (go_at_call 109; refine HQ.out.mono ?_; rintro e wz ⟨hoz, rfl, _⟩; have HOZ := Lib.hid hoz; clear hoz)
                      refine ⟨rfl, ?_⟩
                      rw [← HR.out, ← HGQ.out]
                      exact ⟨HM.out.only.rd (HO7.out.rd HOZ.out), rfl⟩
                    | got u q5 =>
                      rw [hcv] at hgo hw
                      have hf4 := (Sp.want_reads hcv).2
                      change (Sp.numberR raw 18446744073709551615 q5).next _ = r at hgo
                      have HQ := Lib.hid hw
                      have HG7b := Lib.hid hgo
                      clear hgo hw hcv
                      go_upto_region 20 with (go_at_call 109; refine HQ.out.mono ?_; rintro e w7b ⟨ho, rfl, hx⟩; have HO7b := Lib.hid (HO7.out.rd ho); have HX7b := Lib.hid hx; have heb := HEB7.out.same (ho.block _ HEB7.out.lt (by simp; omega)); have HEB7b := Lib.hid heb; clear ho hx heb)
                      have hnum := number_any (most := 18446744073709551615) HX7b.out (by decide) (by decide)
                      have hgo := HG7b.out
                      clear HG7b HQ
                      cases hcv : Sp.numberR raw 18446744073709551615 q5 with
                      | more =>
                        rw [hcv] at hgo hnum
                        have HQ := Lib.hid hnum
                        have HGQ := Lib.hid hgo
                        clear hgo hnum hcv
                        go_wp2_with (go_at_call 111; refine HQ.out.mono ?_; rintro e wz ⟨hoz, rfl, _⟩; have HOZ := Lib.hid hoz; clear hoz)
                        refine ⟨rfl, ?_⟩
                        rw [← HR.out, ← HGQ.out]
                        exact ⟨HM.out.only.rd (HO7b.out.rd HOZ.out), rfl⟩
                      | fail =>
                        rw [hcv] at hgo hnum
                        have HQ := Lib.hid hnum
                        have HGQ := Lib.hid hgo
                        clear hgo hnum hcv
                        go_wp2_with (go_at_call 111; refine HQ.out.mono ?_; rintro e wz ⟨hoz, rfl, _⟩; have HOZ := Lib.hid hoz; clear hoz)
                        refine ⟨rfl, ?_⟩
                        rw [← HR.out, ← HGQ.out]
                        exact ⟨HM.out.only.rd (HO7b.out.rd HOZ.out), rfl⟩
                      | got tk2 q6 =>
                        rw [hcv] at hgo hnum
                        have hf5 := (Sp.number_reads (by decide) hcv).2.1
                        change (Sp.wantV raw q6 Sp.crlf).next _ = r at hgo
                        have HQ := Lib.hid hnum
                        have HG7c := Lib.hid hgo
                        clear hgo hnum hcv
                        go_upto_region 21 with (go_at_call 111; refine HQ.out.mono ?_; rintro e w7c ⟨ho, rfl, hx⟩; have HO7c := Lib.hid (HO7b.out.rd ho); have HX7c := Lib.hid hx; have heb := HEB7b.out.same (ho.block _ HEB7b.out.lt (by simp; omega)); have y4 : w7c.cell? ⟨eb, 4, none⟩ = some (.int .u64 0) := heb.cell 4; have yf4 := heb.frozen 4; have HEB7c := Lib.hid heb; clear ho hx heb)
                        obtain ⟨W7d, hW7d⟩ : ∃ W, W = w7c.setCell ⟨eb, 4, none⟩ (.int .u64 tk2) := ⟨_, rfl⟩
                        rw [← hW7d]
                        have heb : Blk W7d eb 86 #[str kk, .slice none 0 0, .int .u64 fl2, .int .i64 0, .int .u64 tk2, .int .i64 0, .bool false, .bool false, .bool false] := by rw [hW7d]; exact HEB7c.out.put 4 _
                        have hx7d : RdAt W7d rb A cap raw q6 := by rw [hW7d]; exact HX7c.out.put hrbe 4 _
                        have ho7d : OnlyIn [rb] wo W7d := by rw [hW7d]; exact HO7c.out.setCell (.inr hwoe) 4 _
                        have HEB7d := Lib.hid heb
                        have HX7d := Lib.hid hx7d
                        have HO7d := Lib.hid ho7d
                        clear hW7d heb hx7d ho7d y4 yf4
                        have hw := readerWant_any HX7d.out Sp.crlf (by decide)
                        have hgo := HG7c.out
                        clear HG7c HQ
                        cases hcv : Sp.wantV raw q6 Sp.crlf with
                        | more =>
                          rw [hcv] at hgo hw
                          have HQ := Lib.hid hw
                          have HGQ := Lib.hid hgo
                          clear hgo hw hcv
                          go_wp2_with (go_at_call 109; refine HQ.out.mono ?_; rintro e wz ⟨hoz, rfl, _⟩; have HOZ := Lib.hid hoz; clear hoz)
                          refine ⟨rfl, ?_⟩
                          rw [← HR.out, ← HGQ.out]
                          exact ⟨HM.out.only.rd (HO7d.out.rd HOZ.out), rfl⟩
                        | fail =>
                          rw [hcv] at hgo hw
                          have HQ := Lib.hid hw
                          have HGQ := Lib.hid hgo
                          clear hgo hw hcv
                          go_wp2_with (go_at_call 109; refine HQ.out.mono ?_; rintro e wz ⟨hoz, rfl, _⟩; have HOZ := Lib.hid hoz; clear hoz)
                          refine ⟨rfl, ?_⟩
                          rw [← HR.out, ← HGQ.out]
                          exact ⟨HM.out.only.rd (HO7d.out.rd HOZ.out), rfl⟩
                        | got u q7 =>
                          rw [hcv] at hgo hw
                          have hl1 := (Sp.want_reads hcv).2
                          change (Sp.dataR raw n q7).next _ = r at hgo
                          have HQ := Lib.hid hw
                          have HG7a := Lib.hid hgo
                          clear hgo hw hcv
                          go_upto_region 22 with (go_at_call 109; refine HQ.out.mono ?_; rintro e w7a ⟨ho, rfl, hx⟩; have HO7a := Lib.hid (HO7d.out.rd ho); have HX7a := Lib.hid hx; have heb := HEB7d.out.same (ho.block _ HEB7d.out.lt (by simp; omega)); have HEB7a := Lib.hid heb; clear ho hx heb)
                          have hdt := data_any HX7a.out (n := n) (by omega)
                          have hgo := HG7a.out
                          clear HG7a HQ
                          cases hcv : Sp.dataR raw n q7 with
                          | more =>
                            rw [hcv] at hgo hdt
                            have HQ := Lib.hid hdt
                            have HGQ := Lib.hid hgo
                            clear hgo hdt hcv
                            go_wp2_with (go_at_call 139; refine HQ.out.mono ?_; rintro e wz ⟨hoz, rfl, _⟩; have HOZ := Lib.hid hoz; clear hoz)
                            refine ⟨rfl, ?_⟩
                            rw [← HR.out, ← HGQ.out]
                            exact ⟨HM.out.only.rd (HO7a.out.rd HOZ.out), rfl⟩
                          | fail =>
                            rw [hcv] at hgo hdt
                            have HQ := Lib.hid hdt
                            have HGQ := Lib.hid hgo
                            clear hgo hdt hcv
                            go_wp2_with (go_at_call 139; refine HQ.out.mono ?_; rintro e wz ⟨hoz, rfl, _⟩; have HOZ := Lib.hid hoz; clear hoz)
                            refine ⟨rfl, ?_⟩
                            rw [← HR.out, ← HGQ.out]
                            exact ⟨HM.out.only.rd (HO7a.out.rd HOZ.out), rfl⟩
                          | got d q8 =>
                            rw [hcv] at hgo hdt
                            have hl2 := (Sp.data_reads hcv).2.1
                            change (Sp.wantV raw q8 Sp.crlf).next _ = r at hgo
                            have hnb : (n : Int) ≤ 1048576 := by omega
                            have HQ := Lib.hid hdt
                            have HG8 := Lib.hid hgo
                            clear hgo hdt hcv
                            go_upto_region 23 with (go_at_call 139; refine HQ.out.mono ?_; rintro e w8 ⟨ho, ⟨B, cB, rfl, hown⟩, hx⟩; have HO8 := Lib.hid (HO7a.out.rd ho); have HX8 := Lib.hid hx; have heb := HEB7a.out.same (ho.block _ HEB7a.out.lt (by simp; omega)); have y1 : w8.cell? ⟨eb, 1, none⟩ = some (.slice none 0 0) := heb.cell 1; have yf1 := heb.frozen 1; have HGE := Lib.hid (fun k (hk : k ∈ rowBlock (.slice B d.length cB)) => own_ge hown k hk); have HOWN8 := Lib.hid hown; have HEB8 := Lib.hid heb; have HE7 := Lib.hid HEB7a.out.lt; have HS7 := Lib.hid HO7a.out.size; clear ho hx heb hown)
                            obtain ⟨W9, hW9⟩ : ∃ W, W = w8.setCell ⟨eb, 1, none⟩ (.slice B d.length cB) := ⟨_, rfl⟩
                            rw [← hW9]
                            have heb : Blk W9 eb 86 #[str kk, .slice B d.length cB, .int .u64 fl2, .int .i64 0, .int .u64 tk2, .int .i64 0, .bool false, .bool false, .bool false] := by rw [hW9]; exact HEB8.out.put 1 _
                            have hx9 : RdAt W9 rb A cap raw q8 := by rw [hW9]; exact HX8.out.put hrbe 1 _
                            have ho9 : OnlyIn [rb] wo W9 := by rw [hW9]; exact HO8.out.setCell (.inr hwoe) 1 _
                            have hown9 : W9.ownsRow w7a.heap.size 5 1 (.slice B d.length cB) d.length (bytesV d) := own_same HOWN8.out fun k hk => by rw [hW9]; exact Below.heap_setCell w8 ⟨eb, 1, none⟩ _ k (by have h1 := HGE.out k hk; have h2 := HE7.out; show k ≠ eb; omega)
                            have HOWN9 := Lib.hid hown9
                            have HEB9 := Lib.hid heb
                            have HX9 := Lib.hid hx9
                            have HO9 := Lib.hid ho9
                            clear hW9 heb hx9 ho9 hown9 y1 yf1
                            have hw := readerWant_any HX9.out Sp.crlf (by decide)
                            have hgo := HG8.out
                            clear HG8 HQ
                            cases hcv : Sp.wantV raw q8 Sp.crlf with
                            | more =>
                              rw [hcv] at hgo hw
                              have HQ := Lib.hid hw
                              have HGQ := Lib.hid hgo
                              clear hgo hw hcv
                              go_wp2_with (go_at_call 109; refine HQ.out.mono ?_; rintro e wz ⟨hoz, rfl, _⟩; have HOZ := Lib.hid hoz; clear hoz)
                              refine ⟨rfl, ?_⟩
                              rw [← HR.out, ← HGQ.out]
                              exact ⟨HM.out.only.rd (HO9.out.rd HOZ.out), rfl⟩
                            | fail =>
                              rw [hcv] at hgo hw
                              have HQ := Lib.hid hw
                              have HGQ := Lib.hid hgo
                              clear hgo hw hcv
                              go_wp2_with (go_at_call 109; refine HQ.out.mono ?_; rintro e wz ⟨hoz, rfl, _⟩; have HOZ := Lib.hid hoz; clear hoz)
                              refine ⟨rfl, ?_⟩
                              rw [← HR.out, ← HGQ.out]
                              exact ⟨HM.out.only.rd (HO9.out.rd HOZ.out), rfl⟩
                            | got u q9 =>
                              rw [hcv] at hgo hw
                              have hl3 := (Sp.want_reads hcv).2
                              have hgo2 : Sp.valuesFrom raw v k (ks.drop (ks.idxOf kk + 1)) (xs.map EntX.e ++ [{ key := kk, value := d, flags := fl2, token := tk2 }]) q9 = r := hgo
                              have HQ := Lib.hid hw
                              have HQQ := Lib.hid (show q + 1 ≤ q9 by have := HQ1.out; omega)
                              have HG10 := Lib.hid hgo2
                              clear hgo hgo2 hw hcv
                              have hxsb : xs.length ≤ 1000000000 := by have h1 := HM.out.few; have h2 := HM.out.rd.le; omega
                              have hwsz : w.heap.size ≤ wo.heap.size := HM.out.only.size
                              go_wp2_with (first
                                | (go_at_call 109; refine HQ.out.mono ?_; rintro e w10 ⟨ho, rfl, hx⟩; have HO10 := Lib.hid (HO9.out.rd ho); have hsz10 := (HO9.out.rd ho).size; have HX10 := Lib.hid hx; have heb := HEB9.out.same (ho.block _ HEB9.out.lt (by simp; omega)); have y0 := heb.cell 0; have y1 := heb.cell 1; have y2 := heb.cell 2; have y3 := heb.cell 3; have y4 := heb.cell 4; have y5 := heb.cell 5; have y6 := heb.cell 6; have y7 := heb.cell 7; have y8 := heb.cell 8; simp only [List.getElem?_toArray, List.getElem?_cons_zero, List.getElem?_cons_succ] at y0 y1 y2 y3 y4 y5 y6 y7 y8; have HOWN10 := Lib.hid (own_only HOWN9.out ho (by simp; have h1 := HE7.out; omega)); have HENT := Lib.hid (HM.out.own.only (HO9.out.rd ho) (by simpa using hlt)); clear ho hx heb)
                                | (at_builtin; refine wpList_append_put rfl (.tmp 84) (.tmp 86) _ rfl w.heap.size 86 i0 _ 9 80 Tryz.underlying33 hi hz0 hz1 hz2 rfl (by decide) u5 xs.length (xs.flatMap EntX.cells) rfl (own_later HENT.out.row ((Below.refl _ _).alloc (Nat.le_refl _) _)) ⟨w10.heap.size, 0, none⟩ 1 1 [str kk, .slice B d.length cB, .int .u64 fl2, .int .i64 0, .int .u64 tk2, .int .i64 0, .bool false, .bool false, .bool false] rfl rfl (cells_new w10 [str kk, .slice B d.length cB, .int .u64 fl2, .int .i64 0, .int .u64 tk2, .int .i64 0, .bool false, .bool false, .bool false] _) ?_ ?_ ?_ ?_ ?_ ?_; (intro u hu; simp only [List.mem_cons, List.not_mem_nil, or_false] at hu; rcases hu with rfl | rfl | rfl | rfl | rfl | rfl | rfl | rfl | rfl <;> rfl); decide; (unfold maxLen; omega); omega; (simp; omega); intro g11 cap11 w11 hown11 hg11 hat11; have HOWN11 := Lib.hid hown11; have HG11 := Lib.hid hg11; clear hown11 hg11 hat11))
                              obtain ⟨X, hX⟩ : ∃ X : EntX, X = ⟨{ key := kk, value := d, flags := fl2, token := tk2 }, B, cB⟩ := ⟨_, rfl⟩
                              have hval : w10.ownsRow w.heap.size 5 1 X.val X.e.value.length (bytesV X.e.value) := by
                                rw [hX]
                                exact own_base HOWN10.out fun k hk => by have h1 := own_ge HOWN10.out k (mem_rowBlock.2 hk); have h2 := HS7.out; omega
                              have hnew : ∀ k ∈ rowBlock X.val, ∀ y ∈ xs, k ∉ rowBlock y.val := fun k hk y hy hky => by
                                rw [hX] at hk
                                have h1 := own_ge HOWN10.out k hk
                                have h2 := own_lt (HM.out.own.each y hy) k hky
                                have h3 := HS7.out
                                omega
                              have hent := EntsOwn.snoc (x := X) HENT.out hval hnew (by rw [hX]; exact HOWN11.out) HG11.out
                              have hog : OnlyIn (rowBlock u5) w10 w11 := (OnlyIn.of ((Below.refl _ _).alloc (Nat.le_refl _) _) _).trans (OnlyIn.grown HG11.out) (fun i hi => .inl hi)
                              have hge := own_ge HENT.out.row
                              have hrd11 := HX10.out.only hog (fun k hk => by have := hge k hk; omega)
                              have ho11 : OnlyIn [rb] w w11 := (HM.out.only.rd HO10.out).trans hog (fun k hk => .inr (hge k hk))
                              have hkeys : RowAt w11 C ((ks).map str) := (HM.out.keys.onlyN HO10.out (fun hne a ha => by simpa using HM.out.away (ne_of_map hne) a ha)).onlyN hog (fun hne a ha hm => by have := hge _ hm; have := HM.out.old (ne_of_map hne) a ha; omega)
                              have hbk11 : Blk w11 bx 32 cmdC := (HBK.out.same (HO10.out.block _ HBK.out.lt (by simp; omega))).same (hog.block _ (Nat.lt_of_lt_of_le HBK.out.lt HO10.out.size) (fun hm => own_apart HENT.out.row (HBK.out.same (HO10.out.block _ HBK.out.lt (by simp; omega))) (by decide) (mem_rowBlock.1 hm)))
                              have hkl2 : (ks.drop (ks.idxOf kk + 1)).length = ks.length - (ks.idxOf kk + 1) := List.length_drop
                              have hroomk := HM.out.room
                              have hfin : ValuesLoop w rb A cap raw v r C2 (cc - (ks.idxOf kk + 1)) (ks.drop (ks.idxOf kk + 1)) (.slice (some ⟨g11, 0, none⟩) (xs.length + 1) cap11) (xs ++ [X]) k q9 w11 := by
                                refine ⟨hrd11, hent, ho11, ?_, by rw [hkl2]; omega, fun hne a ha => ?_, fun hne a ha => ?_, ⟨by rw [hkl2]; omega, fun s hs => HSH.out s (List.mem_of_mem_drop hs)⟩, ?_, ?_, ?_⟩
                                · rw [HC2.out, List.map_drop]; exact hkeys.cut (by rw [List.length_map]; exact hroomk)
                                · rw [HC2.out] at ha; obtain ⟨a', h1, h2⟩ := cut_block ha; rw [h2]; exact HM.out.away (ne_of_drop hne) a' h1
                                · rw [HC2.out] at ha; obtain ⟨a', h1, h2⟩ := cut_block ha; rw [h2]; exact HM.out.old (ne_of_drop hne) a' h1
                                · rw [List.map_append, List.map_singleton, hX]; exact HG10.out
                                · rw [hkl2]; have := HM.out.fuel; have := HIDX.out; omega
                                · rw [List.length_append, List.length_singleton]; have := HM.out.few; have := HQQ.out; omega
                              refine ⟨⟨C2, cc - (ks.idxOf kk + 1), ks.drop (ks.idxOf kk + 1), xs ++ [X], k, q9, by rw [hkl2], hfin, hbk11⟩, ?_⟩
                              show ks.length - (ks.idxOf kk + 1) < ks.length
                              have := HIDX.out
                              omega
end Go.Proofs.YtnbeeehfapjpdaaGreatDoor
