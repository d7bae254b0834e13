/- Walks of package line: lineEnds. -/
import Derived.Test.YthgfjafnclklpaaGreatDoorQ46
import Derived.Test.YthgfjafnclklpaaGreatDoorQ46
import Derived.Lib.MinMax
namespace Go.Proofs.YthgfjafnclklpaaGreatDoor
attribute [local go_sem ↓] Go.wp_at_zero Go.wp_at_succ
open Go.RowKit
attribute [-go_sem] storeVar
attribute [local go_sem] run_store_step storeVar_int' storeVar_bool' storeVar_slice' storeVar_func' canPut_setCell canPut_drew' canPut_alloc storeVar_cmd' storeVar_wrong'

section
variable {w : World} {fb lim : Nat} {s : Sp.FeedV} {ov ln dv kv mv : Value} {tc : List Value} {T : List Nat}

/-- behind the line's reading -/
structure LineGot (w : World) (fb lim : Nat) (s : Sp.FeedV) (ov ln dv : Value) (O : List Nat) (tc : List Value) (T : List Nat) (t : Sp.StepV) (b8 : Nat) (kv' mv' : Value) (wx : World) : Prop where
  feed : FeedAt wx fb lim s ov ln dv kv' mv' tc T
  own : ∀ k ∈ ownList T ov ln dv kv' mv', k ∈ O ∨ w.heap.size ≤ k
  wrong : Blk wx b8 59 (wrongArr t.wrong)
  only : OnlyIn (fb :: O) w wx

def stepCells0 (t : Sp.StepV) (kv mv : Value) : List Value :=
  [.int .i64 t.cmd.verb, kv, .int .u64 t.cmd.flags, .int .i64 t.cmd.exptime, .int .u64 t.cmd.token, .int .u64 t.cmd.delta, .slice none 0 0, .bool t.cmd.noreply, .bool t.cmd.large, mv, str t.cmd.what,
    .int .i64 t.wrong.kind, str t.wrong.text, .int .i64 t.wrong.pass, .int .i64 0, .int .i64 0]
theorem stepCells0_eq {t : Sp.StepV} (h : t.frm = 0) (h2 : t.to = 0) (kv mv : Value) : (stepArr t kv nilRow mv).toList = stepCells0 t kv mv := by
  simp [stepArr, stepCells0, h, h2]

theorem lineGot_new {w w9 : World} {fb lim : Nat} {s : Sp.FeedV} {ov ln dv kv mv : Value} {tc : List Value} {T : List Nat} (h : FeedAt w fb lim s ov ln dv kv mv tc T) (hgw : 8 ≤ w.heap.size) (hb9 : Below w.heap.size w w9) {t : Sp.StepV} {kv' mv' : Value}
    (hok : w9.ownsRow w.heap.size 9 1 kv' t.cmd.keys.length (t.cmd.keys.map str)) (hom : w9.ownsRow w.heap.size 94 3 mv' t.cmd.metas.length (flagsCells t.cmd.metas)) (hd : t.cmd.data = []) (hf : t.frm = 0) (hf2 : t.to = 0) (cs : Array Value) :
    LineGot w fb lim { s with step := t } ov ln dv (ownList T ov ln dv kv mv) tc T t (w9.heap.size + 1) kv' mv' (((w9.alloc (.cells cs 38)).alloc (.cells (wrongArr t.wrong) 59)).setCells fb 9 (stepCells0 t kv' mv')) := by
  have hb10 : Below w9.heap.size w9 ((w9.alloc (.cells cs 38)).alloc (.cells (wrongArr t.wrong) 59)) := ((Below.refl _ _).alloc (Nat.le_refl _) _).alloc (by simp) _
  have hb : Below w.heap.size w ((w9.alloc (.cells cs 38)).alloc (.cells (wrongArr t.wrong) 59)) := hb9.trans (hb10.mono hb9.size)
  have bw := Blk.new (w9.alloc (.cells cs 38)) 59 (wrongArr t.wrong)
  have es : (w9.alloc (.cells cs 38)).heap.size = w9.heap.size + 1 := by simp
  rw [es] at bw
  have hfin := (h.later hb).newStep t h.lt hgw (own_later hok hb10) (own_later hom hb10) hd
  rw [stepCells0_eq hf hf2] at hfin
  have hlt := h.blk.lt
  have := hb9.size
  exact ⟨hfin.1, hfin.2, bw.farCells fb (by omega) _ _, OnlyIn.setCells (.inl (by simp)) _ _ (OnlyIn.of hb _)⟩

theorem NextPost.trans {w w1 w' : World} {fb lim : Nat} {s' : Sp.FeedV} {O O1 : List Nat} {e : Ending} (h : NextPost w1 fb lim s' O1 e w') (ho : OnlyIn (fb :: O) w w1) (hO : ∀ k ∈ O1, k ∈ O ∨ w.heap.size ≤ k) : NextPost w fb lim s' O e w' := by
  obtain ⟨rfl, ov', ln', dv', kv', mv', tc', T', h1, h2, h3⟩ := h
  refine ⟨rfl, ov', ln', dv', kv', mv', tc', T', h1, fun k hk => ?_, ho.trans h3 (fun k hk => ?_)⟩
  · rcases h2 k hk with h | h
    · exact hO k h
    · right; have := ho.size; omega
  · rcases List.mem_cons.1 hk with rfl | hk
    · left; simp
    · rcases hO k hk with h | h
      · left; simp [h]
      · exact .inr h

theorem LineGot.got0 {w wx : World} {fb lim : Nat} {s : Sp.FeedV} {ov ln dv : Value} {O : List Nat} {tc : List Value} {T : List Nat} {t : Sp.StepV} {b8 : Nat} {kv' mv' : Value} (h : LineGot w fb lim s ov ln dv O tc T t b8 kv' mv' wx) :
    LineGot w fb lim { s with got := 0 } ov ln dv O tc T t b8 kv' mv' (wx.setCell ⟨fb, 27, none⟩ (.int .i64 0)) := by
  have hne8 : fb ≠ b8 := Blk.apart h.feed.blk h.wrong (by decide)
  exact ⟨h.feed.put (s' := { s with got := 0 }) 27 (.int .i64 0) (by kernel_rfl) rfl rfl rfl rfl rfl rfl, h.own, h.wrong.far (p := ⟨fb, 27, none⟩) (fun e => hne8 e.symm) (.int .i64 0), h.only.setCell (.inl (by simp)) 27 (.int .i64 0)⟩

set_option maxHeartbeats 8000000 in
set_option maxRecDepth 100000 in
theorem lineEnds_short (h : FeedAt w fb lim s ov ln dv kv mv tc T) (hgl : Glob w) {N : Nat} (hN : s.Fits N) (hN2 : N + 1 ≤ 1000000000) (hlong : s.long = false) :
    Calls Tryz.prog 118 #[.pointer (some ⟨fb, 0, none⟩)] w (NextPost w fb lim (s.lineEnds lim) (ownList T ov ln dv kv mv)) := by
  have hline := hN.line
  have hheld := hN.held
  obtain ⟨l1, l2, hln⟩ : ∃ p c, ln = .slice p s.line.length c := by
    rcases h.line.2 with ⟨h1, h2⟩ | ⟨g, cap, cur, h1, _⟩
    · exact ⟨none, 0, by rw [h1, h2]⟩
    · exact ⟨_, cap, h1⟩
  subst hln
  have hrow := RowAt.of_own h.line
  have hrow2 : RowAt w l1 (bytesV (Sp.chop s.line)) := by
    have e := (chop_take s.line).2
    have := hrow.take (Sp.chop s.line).length
    rw [e]
    simpa [bytesV, List.map_take] using this
  have hlf := line_flat (cap := l2) hgl hrow2
  have x0 : _ = some (Value.int .i64 lim) := (h.blk).cell 0
  have f0 := (h.blk).frozen 0
  have x5 : _ = some (Value.int .i64 s.held) := (h.blk).cell 5
  have f5 := (h.blk).frozen 5
  have x7 : _ = some (Value.slice l1 s.line.length l2) := (h.blk).cell 7
  have f7 := (h.blk).frozen 7
  have x8 : _ = some (Value.bool s.long) := (h.blk).cell 8
  have f8 := (h.blk).frozen 8
  rw [hlong] at x8
  have hlt := h.blk.lt
  have hgw := hgl.size
  have hdat := lineStep_data (Sp.chop s.line)
  obtain ⟨r, hr⟩ : ∃ r, r = Sp.lineOf (Sp.chop s.line) := ⟨_, rfl⟩
  rw [← hr] at hlf hdat
  obtain ⟨t, ht⟩ : ∃ t, t = lineStep r := ⟨_, rfl⟩
  obtain ⟨n, hn⟩ : ∃ n, n = lineN r := ⟨_, rfl⟩
  rw [← ht] at hlf hdat
  rw [← hn] at hlf
  have hf1 : t.frm = 0 := by rw [ht]; cases r <;> rfl
  have hf2 : t.to = 0 := by rw [ht]; cases r <;> rfl
  have HF1 := Lib.hid hf1
  have HF2 := Lib.hid hf2
  clear hf1 hf2
  have HD := Lib.hid hdat
  have HRR := Lib.hid hr
  have HTT := Lib.hid ht
  have HNN := Lib.hid hn
  clear hr ht hn hdat
  generalize hR : NextPost w fb lim (s.lineEnds lim) (ownList T ov (.slice l1 s.line.length l2) dv kv mv) = R
  have H := Lib.hid h
  have HR := Lib.hid hR
  have HROW := Lib.hid hrow
  have HLF := Lib.hid hlf
  have HN := Lib.hid hN
  clear h hR hrow hrow2 hlf hgl
  go_enter Tryz.func118, Tryz.ntmps118
  go_upto_region 4 with (fail)
  go_cut [38] (fun q wx => q = .bool (s.line.getLast? == some 13) ∧ w = wx)
  case first =>
    cases hl : s.line.getLast? with
    | none =>
      have hnil : s.line = [] := by simpa using hl
      have hlen : ¬ (0 : Int) < (s.line.length : Int) := by rw [hnil]; decide
      clear hnil
      have HL := Lib.hid hl
      clear hl
      go_wp2_with fail
      go_meet
      exact ⟨by rw [HL.out]; rfl, rfl⟩
    | some c =>
      have hne : s.line ≠ [] := by intro e; rw [e] at hl; cases hl
      have hpos : 0 < s.line.length := List.length_pos_iff.2 hne
      have hpos2 : (0 : Int) < (s.line.length : Int) := by omega
      have hat : s.line[s.line.length - 1]? = some c := by rw [← List.getLast?_eq_getElem?]; exact hl
      obtain ⟨g, o, hl1, hg1, hcell⟩ : ∃ g o, l1 = some ⟨g, o, none⟩ ∧ g < w.heap.size ∧ w.cell? ⟨g, o + (s.line.length - 1), none⟩ = some (.int .u8 c.toNat) := by
        rcases HROW.out with h0 | ⟨g, o, h1, h2, h3⟩
        · exact absurd (by simpa [bytesV] using h0) hne
        · exact ⟨g, o, h1, h2, h3 _ _ (by simp [bytesV, hat])⟩
      subst hl1
      have hc13 : ((c.toNat : Int) == 13) = (c == 13) := by
        by_cases e : c = 13
        · subst e; rfl
        · have e2 : ((c.toNat : Int) == 13) = false := feedByte_ne (b := c) 13 (by omega) e
          rw [e2]; simp [e]
      have HL := Lib.hid hl
      clear hl hne hat
      go_wp2_with fail
      go_meet
      exact ⟨by rw [HL.out]; rfl, rfl⟩
  case rest =>
    obtain ⟨rfl, rfl⟩ := hcut
    go_upto_if 38 with (fail)
    go_cut [5] (fun q wx => q = .slice l1 (Sp.chop s.line).length l2 ∧ w = wx)
    case first =>
      cases hcr : s.line.getLast? == some 13 with
      | true =>
        have e : (Sp.chop s.line).length = s.line.length - 1 := by
          unfold Sp.chop; rw [if_pos (by simpa using hcr)]; simp
        have hpos : 0 < s.line.length := by
          rcases Nat.eq_zero_or_pos s.line.length with h0 | h0
          · have : s.line = [] := List.length_eq_zero_iff.1 h0
            rw [this] at hcr; cases hcr
          · exact h0
        have hcap : s.line.length ≤ l2 := by
          rcases H.out.line.2 with ⟨h1, h2⟩ | ⟨g, cap, cur, h1, _, _, h3, _⟩
          · omega
          · injection h1 with _ _ h1; omega
        have E := Lib.hid e
        clear e hcr
        go_wp2_with fail
        go_meet
        exact ⟨by rw [E.out], rfl⟩
      | false =>
        have e : (Sp.chop s.line).length = s.line.length := by
          unfold Sp.chop; rw [if_neg (by simpa using hcr)]
        have E := Lib.hid e
        clear e
        go_wp2_with fail
        go_meet
        exact ⟨by rw [E.out], rfl⟩
    case rest =>
      obtain ⟨rfl, rfl⟩ := hcut
      go_upto_region 7 with (refine HLF.out.mono ?_; rintro e w9 ⟨k1, k2, k3, m1, m2, m3, rfl, hok, hom, hb9⟩; have h9 := H.out.later hb9; have hcp := h9.blk.can 9 16 (by simp [feedCells]); have z27 : _ = some (Value.int .i64 s.got) := h9.blk.cell 27; have q27 := h9.blk.frozen 27; have hlt9 := h9.blk.lt; have hlt91 : fb < w9.heap.size + 1 := Nat.lt_succ_of_lt hlt9; have H9 := Lib.hid h9; have HOK := Lib.hid hok; have HOM := Lib.hid hom; have HB9 := Lib.hid hb9; clear h9 hok hom hb9)
      go_cut [6, 7, 8] (fun p q r wx => ∃ b8 kv' mv', q = .int .i64 n ∧ r = .pointer (some ⟨b8, 0, none⟩) ∧ LineGot w fb lim { s with step := t } ov (.slice l1 s.line.length l2) dv (ownList T ov (.slice l1 s.line.length l2) dv kv mv) tc T t b8 kv' mv' wx)
      case first =>
        go_wp2_with fail
        go_meet
        exact ⟨_, _, _, rfl, rfl, lineGot_new H.out hgw HB9.out HOK.out HOM.out HD.out HF1.out HF2.out _⟩
      case rest =>
        obtain ⟨b8, kv', mv', rfl, rfl, hgot⟩ := hcut
        clear H9 HOK HOM HB9 z27 q27 hlt9 hlt91 hcp x0 x5 x7 x8 f0 f5 f7 f8
        have h2 := hgot.got0
        have y27 : _ = some (Value.int .i64 s.got) := (hgot.feed.blk).cell 27
        have g27 := (hgot.feed.blk).frozen 27
        have H2 := Lib.hid h2
        clear hgot h2
        go_upto_region 8 with (fail)
        go_cut [] (fun wx => LineGot w fb lim { s with step := t, got := 0 } ov (.slice l1 s.line.length l2) dv (ownList T ov (.slice l1 s.line.length l2) dv kv mv) tc T t b8 kv' mv' wx)
        case first =>
          go_wp2_with fail
          go_meet
          exact H2.out
        case rest =>
          clear H2 y27 g27 HF1 HF2
          have hN1 : ({ s with step := t, got := 0 } : Sp.FeedV).Fits N := ⟨HN.out.taken, HN.out.frm, HN.out.held, HN.out.line, HN.out.data, Nat.zero_le _, HN.out.out, HN.out.need⟩
          have hgc : 8 ≤ wc.heap.size := Nat.le_trans hgw hcut.only.size
          have hsp := HRR.out
          have y0 : _ = some (Value.int .i64 lim) := (hcut.feed.blk).cell 0
          have g0 := (hcut.feed.blk).frozen 0
          have y1 : _ = some (modeFn fb s.mode) := (hcut.feed.blk).cell 1
          have g1 := (hcut.feed.blk).frozen 1
          have y5 : _ = some (Value.int .i64 s.held) := (hcut.feed.blk).cell 5
          have g5 := (hcut.feed.blk).frozen 5
          have y17 : _ = some (Value.bool t.cmd.large) := (hcut.feed.blk).cell 17
          have g17 := (hcut.feed.blk).frozen 17
          have y26 : _ = some (Value.int .i64 s.need) := (hcut.feed.blk).cell 26
          have g26 := (hcut.feed.blk).frozen 26
          have y28 : _ = some (Value.bool s.good) := (hcut.feed.blk).cell 28
          have g28 := (hcut.feed.blk).frozen 28
          have v0 : _ = some (Value.int .i64 t.wrong.kind) := hcut.wrong.cell 0
          have v2 : _ = some (Value.int .i64 t.wrong.pass) := hcut.wrong.cell 2
          have HC := Lib.hid hcut
          have HN1 := Lib.hid hN1
          have HSP := Lib.hid hsp
          clear hcut hN1 hsp
          cases r with
          | bad x =>
            have hb := lineOf_bad HSP.out.symm
            have ht : t = { wrong := x } := HTT.out
            subst ht
            have hk0 : ((x.kind : Int) == 0) = false := by rcases hb.1 with e | e <;> rw [e] <;> rfl
            have hk1 : ((x.kind : Int) != 0) = true := by rcases hb.1 with e | e <;> rw [e] <;> rfl
            change wc.cell? _ = some (Value.int .i64 x.kind) at v0
            have hNd := HN1.out
            by_cases hp : 0 ≤ x.pass ∧ x.pass ≤ lim
            · obtain ⟨p, hpp⟩ : ∃ p : Nat, x.pass = (p : Int) := ⟨x.pass.toNat, by omega⟩
              have hcall := fun (W : World) (hbw : Below wc.heap.size wc W) => (pass_any (HC.out.feed.later hbw) p).mono fun e w' h => And.intro h.1 (h.trans (HC.out.only.later hbw) HC.out.own)
              have hs : s.lineEnds lim = ({ s with step := { wrong := x }, got := 0 } : Sp.FeedV).passTo p := by
                unfold Sp.FeedV.lineEnds
                rw [if_neg (by rw [hlong]; decide), ← HSP.out]
                dsimp only
                rw [if_pos hp, hpp]
                rfl
              rw [← hs, HR.out] at hcall
              have hple : (p : Int) ≤ (lim : Int) := by omega
              change wc.cell? _ = some (Value.int .i64 x.pass) at v2
              rw [hpp] at v2
              have HCALL := Lib.hid hcall
              clear hcall hs hb hp hNd HSP
              go_upto_region 12 with (fail)
              go_cut [78] (fun q wy => q = .bool true ∧ Below wc.heap.size wc wy)
              case first =>
                go_region
                all_goals (go_wp2_with fail; go_meet)
                all_goals exact ⟨rfl, (Below.refl _ _).drew⟩
              case rest =>
                obtain ⟨rfl, hbw⟩ := hcut
                have v2' := (HC.out.wrong.later hbw).cell 2
                change _ = some (Value.int .i64 x.pass) at v2'
                rw [hpp] at v2'
                have HBW := Lib.hid hbw
                clear hbw
                go_wp2_with (refine (HCALL.out _ HBW.out).mono ?_; rintro e w8 ⟨rfl, hR8⟩)
                go_end0
                exact hR8
            · have hcall := fun (W : World) (hbw : Below wc.heap.size wc W) => (done_step (HC.out.feed.later hbw) hNd (by omega) (Nat.le_trans hgc hbw.size) (OnlyIn.of hbw _)).mono fun e w' h => And.intro h.1 (h.trans HC.out.only HC.out.own)
              have hs : s.lineEnds lim = ({ s with step := { wrong := x }, got := 0 } : Sp.FeedV).done { wrong := x } := by
                unfold Sp.FeedV.lineEnds
                rw [if_neg (by rw [hlong]; decide), ← HSP.out]
                dsimp only
                rw [if_neg hp]
              simp only at hcall
              rw [← hs, HR.out] at hcall
              have HCALL := Lib.hid hcall
              have HNP := Lib.hid hp
              change wc.cell? _ = some (Value.int .i64 x.pass) at v2
              clear hcall hs hb hp hNd HSP
              go_upto_region 12 with (fail)
              go_cut [78] (fun q wy => q = .bool false ∧ Below wc.heap.size wc wy)
              case first =>
                by_cases hp0 : 0 ≤ x.pass
                · have hp1 : ¬ x.pass ≤ (lim : Int) := fun h => HNP.out ⟨hp0, h⟩
                  go_region
                  all_goals (go_wp2_with fail; go_meet)
                  all_goals exact ⟨rfl, (Below.refl _ _).drew⟩
                · go_region
                  all_goals (go_wp2_with fail; go_meet)
                  all_goals exact ⟨rfl, (Below.refl _ _).drew⟩
              case rest =>
                obtain ⟨rfl, hbw⟩ := hcut
                have hf := HC.out.feed.later hbw
                have v0' : _ = some (Value.int .i64 x.kind) := (HC.out.wrong.later hbw).cell 0
                have z9 : _ = some (Value.int .i64 0) := (hf.blk).cell 9
                have z10 : _ = some (kv') := (hf.blk).cell 10
                have z11 : _ = some (Value.int .u64 0) := (hf.blk).cell 11
                have z12 : _ = some (Value.int .i64 0) := (hf.blk).cell 12
                have z13 : _ = some (Value.int .u64 0) := (hf.blk).cell 13
                have z14 : _ = some (Value.int .u64 0) := (hf.blk).cell 14
                have z15 : _ = some (nilRow) := (hf.blk).cell 15
                have z16 : _ = some (Value.bool false) := (hf.blk).cell 16
                have z17 : _ = some (Value.bool false) := (hf.blk).cell 17
                have z18 : _ = some (mv') := (hf.blk).cell 18
                have z19 : _ = some (str []) := (hf.blk).cell 19
                have z20 : _ = some (Value.int .i64 x.kind) := (hf.blk).cell 20
                have z21 : _ = some (str x.text) := (hf.blk).cell 21
                have z22 : _ = some (Value.int .i64 x.pass) := (hf.blk).cell 22
                have z23 : _ = some (Value.int .i64 0) := (hf.blk).cell 23
                have z24 : _ = some (Value.int .i64 0) := (hf.blk).cell 24
                have HBW := Lib.hid hbw
                clear hbw hf
                go_wp2_with (refine (HCALL.out _ HBW.out).mono ?_; rintro e w8 ⟨rfl, hR8⟩)
                go_end0
                exact hR8
          | ok c n0 =>
            have ht : t = { cmd := c } := HTT.out
            have hn : n = n0 := HNN.out
            subst ht; subst hn
            have hNd := HN1.out
            have hlo := lineOf_ok HSP.out.symm
            change wc.cell? _ = some (Value.int .i64 0) at v0
            by_cases hneg : n < 0
            · have hcall := fun (W : World) (hbw : Below wc.heap.size wc W) => (done_step (HC.out.feed.later hbw) hNd (by omega) (Nat.le_trans hgc hbw.size) (OnlyIn.of hbw _)).mono fun e w' h => And.intro h.1 (h.trans HC.out.only HC.out.own)
              have hs : s.lineEnds lim = ({ s with step := { cmd := c }, got := 0 } : Sp.FeedV).done { cmd := c } := by
                unfold Sp.FeedV.lineEnds
                rw [if_neg (by rw [hlong]; decide), ← HSP.out]
                dsimp only
                rw [if_pos hneg]
              simp only at hcall
              rw [← hs, HR.out] at hcall
              have HCALL := Lib.hid hcall
              clear hcall hs hNd HSP hlo
              go_upto_region 12 with (fail)
              go_cut [78] (fun q wy => q = .bool false ∧ Below wc.heap.size wc wy)
              case first =>
                go_region
                all_goals (go_wp2_with fail; go_meet)
                all_goals exact ⟨rfl, (Below.refl _ _).drew⟩
              case rest =>
                obtain ⟨rfl, hbw⟩ := hcut
                have hf := HC.out.feed.later hbw
                have v0' : _ = some (Value.int .i64 0) := (HC.out.wrong.later hbw).cell 0
                have z9 : _ = some (Value.int .i64 c.verb) := (hf.blk).cell 9
                have z10 : _ = some (kv') := (hf.blk).cell 10
                have z11 : _ = some (Value.int .u64 c.flags) := (hf.blk).cell 11
                have z12 : _ = some (Value.int .i64 c.exptime) := (hf.blk).cell 12
                have z13 : _ = some (Value.int .u64 c.token) := (hf.blk).cell 13
                have z14 : _ = some (Value.int .u64 c.delta) := (hf.blk).cell 14
                have z15 : _ = some (nilRow) := (hf.blk).cell 15
                have z16 : _ = some (Value.bool c.noreply) := (hf.blk).cell 16
                have z17 : _ = some (Value.bool c.large) := (hf.blk).cell 17
                have z18 : _ = some (mv') := (hf.blk).cell 18
                have z19 : _ = some (str c.what) := (hf.blk).cell 19
                have z20 : _ = some (Value.int .i64 0) := (hf.blk).cell 20
                have z21 : _ = some (str []) := (hf.blk).cell 21
                have z22 : _ = some (Value.int .i64 0) := (hf.blk).cell 22
                have z23 : _ = some (Value.int .i64 0) := (hf.blk).cell 23
                have z24 : _ = some (Value.int .i64 0) := (hf.blk).cell 24
                have HBW := Lib.hid hbw
                clear hbw hf
                go_wp2_with (refine (HCALL.out _ HBW.out).mono ?_; rintro e w8 ⟨rfl, hR8⟩)
                go_end0
                exact hR8
            · obtain ⟨m, hm⟩ : ∃ m : Nat, n = (m : Int) := ⟨n.toNat, by omega⟩
              have hmle : m ≤ 2147483647 := by have := hlo.2.1; omega
              clear hlo
              subst hm
              have hneg' : ¬ (m : Int) < 0 := hneg
              by_cases hbig : lim < m
              · have hbig' : (lim : Int) < (m : Int) := by omega
                have hcall := fun (W : World) (hbw : Below wc.heap.size wc W) => (pass_any (s := { s with step := { cmd := { c with large := true } }, got := 0 }) ((HC.out.feed.later hbw).put 17 (.bool true) (by kernel_rfl) rfl rfl rfl rfl rfl rfl) m).mono fun e w' h =>
                  And.intro h.1 (h.trans ((HC.out.only.later hbw).setCell (.inl (by simp)) 17 (.bool true)) HC.out.own)
                have hs : s.lineEnds lim = ({ s with step := { cmd := { c with large := true } }, got := 0 } : Sp.FeedV).passTo m := by
                  unfold Sp.FeedV.lineEnds
                  rw [if_neg (by rw [hlong]; decide), ← HSP.out]
                  dsimp only
                  rw [if_neg hneg, if_pos hbig']
                  rfl
                rw [← hs, HR.out] at hcall
                have HCALL := Lib.hid hcall
                clear hcall hs hNd HSP hneg hbig
                go_upto_region 12 with (fail)
                go_cut [78] (fun q wy => q = .bool false ∧ Below wc.heap.size wc wy)
                case first =>
                  go_region
                  all_goals (go_wp2_with fail; go_meet)
                  all_goals exact ⟨rfl, (Below.refl _ _).drew⟩
                case rest =>
                  obtain ⟨rfl, hbw⟩ := hcut
                  have hf := HC.out.feed.later hbw
                  have v0' : _ = some (Value.int .i64 0) := (HC.out.wrong.later hbw).cell 0
                  have z0 : _ = some (Value.int .i64 lim) := (hf.blk).cell 0
                  have q0 := (hf.blk).frozen 0
                  have z17 : _ = some (Value.bool c.large) := (hf.blk).cell 17
                  have q17 := (hf.blk).frozen 17
                  have HBW := Lib.hid hbw
                  clear hbw hf
                  go_upto_region 16 with (fail)
                  go_cut [114] (fun q wy => q = .bool true ∧ wc = wy)
                  case first =>
                    go_wp2_with fail
                    go_meet
                    exact ⟨rfl, rfl⟩
                  case rest =>
                    obtain ⟨rfl, rfl⟩ := hcut
                    go_wp2_with (refine (HCALL.out _ HBW.out).mono ?_; rintro e w8 ⟨rfl, hR8⟩)
                    go_end0
                    exact hR8
              · have hbig' : ¬ (lim : Int) < (m : Int) := by omega
                have hs : s.lineEnds lim = { s with step := { cmd := c }, got := 0, need := m, good := true, held := s.held + 1, mode := .inBlock } := by
                  unfold Sp.FeedV.lineEnds
                  rw [if_neg (by rw [hlong]; decide), ← HSP.out]
                  dsimp only
                  rw [if_neg hneg, if_neg hbig']
                  rfl
                have hfin : ∀ w', FeedAt w' fb lim { s with step := { cmd := c }, got := 0, need := m, good := true, held := s.held + 1, mode := .inBlock } ov (.slice l1 s.line.length l2) dv kv' mv' tc T → OnlyIn (fb :: ownList T ov (.slice l1 s.line.length l2) dv kv mv) w w' → R (.returned (.tuple #[])) w' := fun w' h' ho => by
                  rw [← HR.out, hs]; exact NextPost.of h' HC.out.own ho
                have HF := Lib.hid hfin
                clear hfin hs hNd HSP hneg hbig
                go_upto_region 12 with (fail)
                go_cut [78] (fun q wy => q = .bool false ∧ Below wc.heap.size wc wy)
                case first =>
                  go_region
                  all_goals (go_wp2_with fail; go_meet)
                  all_goals exact ⟨rfl, (Below.refl _ _).drew⟩
                case rest =>
                  obtain ⟨rfl, hbw⟩ := hcut
                  have hf := HC.out.feed.later hbw
                  have v0' : _ = some (Value.int .i64 0) := (HC.out.wrong.later hbw).cell 0
                  have z0 : _ = some (Value.int .i64 lim) := (hf.blk).cell 0
                  have q0 := (hf.blk).frozen 0
                  have z17 : _ = some (Value.bool c.large) := (hf.blk).cell 17
                  have q17 := (hf.blk).frozen 17
                  have HBW := Lib.hid hbw
                  clear hbw hf
                  go_upto_region 16 with (fail)
                  go_cut [114] (fun q wy => q = .bool false ∧ wc = wy)
                  case first =>
                    go_wp2_with fail
                    go_meet
                    exact ⟨rfl, rfl⟩
                  case rest =>
                    obtain ⟨rfl, rfl⟩ := hcut
                    have hf := HC.out.feed.later HBW.out
                    have zz1 : _ = some (modeFn fb s.mode) := (hf.blk).cell 1
                    have qq1 := (hf.blk).frozen 1
                    have zz5 : _ = some (Value.int .i64 s.held) := (hf.blk).cell 5
                    have qq5 := (hf.blk).frozen 5
                    have zz26 : _ = some (Value.int .i64 s.need) := (hf.blk).cell 26
                    have qq26 := (hf.blk).frozen 26
                    have zz28 : _ = some (Value.bool s.good) := (hf.blk).cell 28
                    have qq28 := (hf.blk).frozen 28
                    have HFF := Lib.hid hf
                    clear hf
                    go_wp2
                    go_end0
                    refine HF.out _ ?_ ?_
                    · exact (((HFF.out.put (s' := { s with step := { cmd := c }, got := 0, need := m }) 26 (.int .i64 m) (by kernel_rfl) rfl rfl rfl rfl rfl rfl).put (s' := { s with step := { cmd := c }, got := 0, need := m, good := true }) 28 (.bool true) (by kernel_rfl) rfl rfl rfl rfl rfl rfl).put (s' := { s with step := { cmd := c }, got := 0, need := m, good := true, held := s.held + 1 }) 5 (.int .i64 ((s.held : Int) + 1)) (by kernel_rfl) rfl rfl rfl rfl rfl rfl).put 1 (modeFn fb .inBlock) (by kernel_rfl) rfl rfl rfl rfl rfl rfl
                    · exact ((((HC.out.only.later HBW.out).setCell (.inl (by simp)) 26 _).setCell (.inl (by simp)) 28 _).setCell (.inl (by simp)) 5 _).setCell (.inl (by simp)) 1 _
end
end Go.Proofs.YthgfjafnclklpaaGreatDoor
