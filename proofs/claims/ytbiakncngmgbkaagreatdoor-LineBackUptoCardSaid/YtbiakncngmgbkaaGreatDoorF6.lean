/- Walks of package line: inBlock. -/
import Derived.Test.YtbiakncngmgbkaaGreatDoorF5
namespace Go.Proofs.YtbiakncngmgbkaaGreatDoor
attribute [local go_sem ↓] Go.wp_at_zero Go.wp_at_succ
open Go.RowKit

theorem info_byte : (Tryz.prog.info? 5).map (fun i => (i.zero, i.size, i.bytes)) = some (some (.int .u8 0), 1, 1) := by kernel_rfl

section
variable {w : World} {fb lim : Nat} {s : Sp.FeedV} {ov ln dv kv mv : Value} {tc : List Value} {T : List Nat}

set_option maxHeartbeats 4000000 in
set_option maxRecDepth 100000 in
/-- a byte of the block -/
theorem inBlock_data (h : FeedAt w fb lim s ov ln dv kv mv tc T) {N : Nat} (hN : s.Fits N) (hN2 : N + 1 ≤ 1000000000) (hg : 8 ≤ w.heap.size) (b : UInt8) (hc : s.got + 1 ≤ s.need) :
    Calls Tryz.prog 79 #[.pointer (some ⟨fb, 0, none⟩), .int .u8 b.toNat] w (NextPost w fb lim (s.inBlock b) (ownList T ov ln dv kv mv)) := by
  have h1 : FeedAt (w.setCell ⟨fb, 27, none⟩ (.int .i64 ((s.got : Int) + 1))) fb lim { s with got := s.got + 1 } ov ln dv kv mv tc T := h.put 27 _ (by kernel_rfl) rfl rfl rfl rfl rfl rfl
  have ho1 : OnlyIn (fb :: ownList T ov ln dv kv mv) w (w.setCell ⟨fb, 27, none⟩ (.int .i64 ((s.got : Int) + 1))) := (OnlyIn.refl _ w).setCell (.inl (by simp)) 27 _
  have hgot := hN.got
  have hneed := hN.need
  have hheld := hN.held
  have hdata := hN.data
  have hsz : (w.setCell ⟨fb, 27, none⟩ (.int .i64 ((s.got : Int) + 1))).heap.size = w.heap.size := by simp [World.setCell]
  have x26 : _ = some (Value.int .i64 s.need) := (h.blk).cell 26
  have f26 := (h.blk).frozen 26
  have x27 : _ = some (Value.int .i64 s.got) := (h.blk).cell 27
  have f27 := (h.blk).frozen 27
  have hs : s.inBlock b = { s with got := s.got + 1, data := s.data ++ [b], held := s.held + 1 } := by unfold Sp.FeedV.inBlock; rw [if_pos hc]
  rw [hs]
  have hp := fun (w' : World) (dv' : Value) (h' : FeedAt w' fb lim { s with got := s.got + 1, data := s.data ++ [b], held := s.held + 1 } ov ln dv' kv mv tc T) (hO : ∀ k ∈ ownList T ov ln dv' kv mv, k ∈ ownList T ov ln dv kv mv ∨ w.heap.size ≤ k) (ho : OnlyIn (fb :: ownList T ov ln dv kv mv) w w') =>
    NextPost.of h' hO ho
  generalize NextPost w fb lim { s with got := s.got + 1, data := s.data ++ [b], held := s.held + 1 } (ownList T ov ln dv kv mv) = R at hp ⊢
  have hc2 : (s.got : Int) + 1 ≤ (s.need : Int) := by omega
  obtain ⟨i0, hi, hz0, hz1, hz2⟩ := info_parts info_byte
  have HP := Lib.hid hp
  have H1 := Lib.hid h1
  have HO1 := Lib.hid ho1
  clear hp h1 ho1 hs h hN
  go_enter Tryz.func79, Tryz.ntmps79
  go_upto_region 1 with (fail)
  go_cut [19] (fun q wx => q = .bool true ∧ Below (w.setCell ⟨fb, 27, none⟩ (.int .i64 ((s.got : Int) + 1))).heap.size (w.setCell ⟨fb, 27, none⟩ (.int .i64 ((s.got : Int) + 1))) wx)
  case first =>
    go_region
    all_goals (go_wp2_with fail; go_meet)
    all_goals exact ⟨rfl, (Below.refl _ _).drew⟩
  case rest =>
    obtain ⟨rfl, hb⟩ := hcut
    have h2 := H1.out.later hb
    have y5 : _ = some (Value.int .i64 s.held) := (h2.blk).cell 5
    have g5 := (h2.blk).frozen 5
    have y25 : _ = some (dv) := (h2.blk).cell 25
    have g25 := (h2.blk).frozen 25
    have hown1 := h2.data.alloc (.cells #[.int .u8 b.toNat] 5)
    have hltc := h2.blk.lt
    have hgc : 8 ≤ wc.heap.size := by have := hb.size; omega
    have Hown1 := Lib.hid hown1
    have H2 := Lib.hid h2
    have HB := Lib.hid hb
    clear hown1 h2 hb x26 x27 f26 f27
    go_wp2_with (at_builtin; refine wpList_append_put rfl (.tmp 24) (.tmp 26) _ rfl 0 5 i0 _ 1 1 Tryz.underlying43 hi hz0 hz1 hz2 rfl (by decide) dv s.data.length (bytesV s.data) rfl Hown1.out ⟨wc.heap.size, 0, none⟩ 1 1 [.int .u8 b.toNat] rfl rfl ?_ ?_ ?_ ?_ ?_ ?_ ?_; exact cells_one _ _ _; (intro u hu; simp at hu; subst hu; rfl); decide; (unfold maxLen; omega); omega; omega; intro g cap w2 hown2 hg2 hat2; have hm := FeedAt.moreData (b := b) H2.out hg2 hown2 hat2 hgc; have b2 := (H2.out.blk.alloc (.cells #[.int .u8 b.toNat] 5)).grown hg2 (fun e => own_apart H2.out.data H2.out.blk (by decide) e.symm); have Hm := Lib.hid hm; clear hm hown2 hg2 hat2; have z25 : _ = some dv := b2.cell 25; have z5 : _ = some (Value.int .i64 s.held) := b2.cell 5; have q25 := b2.frozen 25; have q5 := b2.frozen 5; clear b2)
    go_end0
    refine HP.out _ _ (Hm.out.1.put 5 (.int .i64 ((s.held : Int) + 1)) (by kernel_rfl) rfl rfl rfl rfl rfl rfl) (fun k hk => ?_) ?_
    · rcases Hm.out.2.1 k hk with h | h
      · exact .inl h
      · right; have := HB.out.size; omega
    · exact ((HO1.out.later HB.out).trans Hm.out.2.2 (fun k hk => .inl hk)).setCell (.inl (by simp)) 5 _

set_option maxHeartbeats 4000000 in
set_option maxRecDepth 100000 in
/-- the line feed behind the block -/
theorem inBlock_end (h : FeedAt w fb lim s ov ln dv kv mv tc T) {N : Nat} (hN : s.Fits N) (hN2 : N + 1 ≤ 1000000000) (hg : 8 ≤ w.heap.size) (hc : ¬ s.got + 1 ≤ s.need) :
    Calls Tryz.prog 79 #[.pointer (some ⟨fb, 0, none⟩), .int .u8 10] w (NextPost w fb lim (s.inBlock 10) (ownList T ov ln dv kv mv)) := by
  have h1 : FeedAt (w.setCell ⟨fb, 27, none⟩ (.int .i64 ((s.got : Int) + 1))) fb lim { s with got := s.got + 1 } ov ln dv kv mv tc T := h.put 27 _ (by kernel_rfl) rfl rfl rfl rfl rfl rfl
  have ho1 : OnlyIn (fb :: ownList T ov ln dv kv mv) w (w.setCell ⟨fb, 27, none⟩ (.int .i64 ((s.got : Int) + 1))) := (OnlyIn.refl _ w).setCell (.inl (by simp)) 27 _
  have hN1 : ({ s with got := s.got + 1 } : Sp.FeedV).Fits (N + 1) := fits_got hN
  have hgot := hN.got
  have hneed := hN.need
  have hsz : (w.setCell ⟨fb, 27, none⟩ (.int .i64 ((s.got : Int) + 1))).heap.size = w.heap.size := by simp [World.setCell]
  have x26 : _ = some (Value.int .i64 s.need) := (h.blk).cell 26
  have f26 := (h.blk).frozen 26
  have x27 : _ = some (Value.int .i64 s.got) := (h.blk).cell 27
  have f27 := (h.blk).frozen 27
  have hs : s.inBlock 10 = ({ s with got := s.got + 1 } : Sp.FeedV).blockEnds := by unfold Sp.FeedV.inBlock; rw [if_neg hc]; rfl
  rw [hs]
  have hd := fun (W : World) (hb : Below (w.setCell ⟨fb, 27, none⟩ (.int .i64 ((s.got : Int) + 1))).heap.size (w.setCell ⟨fb, 27, none⟩ (.int .i64 ((s.got : Int) + 1))) W) =>
    (blockEnds_any (h1.later hb) hN1 hN2 (by have := hb.size; omega)).mono fun e w' hp => And.intro hp.1 (hp.from (ho1.later hb))
  generalize NextPost w fb lim ({ s with got := s.got + 1 } : Sp.FeedV).blockEnds (ownList T ov ln dv kv mv) = R at hd ⊢
  have hc2 : ¬ (s.got : Int) + 1 ≤ (s.need : Int) := by omega
  have HD := Lib.hid hd
  clear hd h1 ho1 hs h hN hN1
  go_enter Tryz.func79, Tryz.ntmps79
  go_upto_region 1 with (fail)
  go_cut [19] (fun q wx => q = .bool false ∧ Below (w.setCell ⟨fb, 27, none⟩ (.int .i64 ((s.got : Int) + 1))).heap.size (w.setCell ⟨fb, 27, none⟩ (.int .i64 ((s.got : Int) + 1))) wx)
  case first =>
    go_region
    all_goals (go_wp2_with fail; go_meet)
    all_goals exact ⟨rfl, (Below.refl _ _).drew⟩
  case rest =>
    obtain ⟨rfl, hb⟩ := hcut
    have HB := Lib.hid hb
    clear hb x26 x27 f26 f27
    go_wp2_with (refine (HD.out _ HB.out).mono ?_; rintro e w9 ⟨rfl, hR⟩)
    go_end0
    exact hR

set_option maxHeartbeats 8000000 in
set_option maxRecDepth 100000 in
/-- another byte behind the block -/
theorem inBlock_more (h : FeedAt w fb lim s ov ln dv kv mv tc T) {N : Nat} (hN : s.Fits N) (hN2 : N + 1 ≤ 1000000000) (b : UInt8) (hc : ¬ s.got + 1 ≤ s.need) (hb10 : ¬ b = 10) :
    Calls Tryz.prog 79 #[.pointer (some ⟨fb, 0, none⟩), .int .u8 b.toNat] w (NextPost w fb lim (s.inBlock b) (ownList T ov ln dv kv mv)) := by
  have h1 : FeedAt (w.setCell ⟨fb, 27, none⟩ (.int .i64 ((s.got : Int) + 1))) fb lim { s with got := s.got + 1 } ov ln dv kv mv tc T := h.put 27 _ (by kernel_rfl) rfl rfl rfl rfl rfl rfl
  have ho1 : OnlyIn (fb :: ownList T ov ln dv kv mv) w (w.setCell ⟨fb, 27, none⟩ (.int .i64 ((s.got : Int) + 1))) := (OnlyIn.refl _ w).setCell (.inl (by simp)) 27 _
  have hgot := hN.got
  have hneed := hN.need
  have hheld := hN.held
  have hbt := byte_ne (b := b) 10 (by omega) hb10
  have hc2 : ¬ (s.got : Int) + 1 ≤ (s.need : Int) := by omega
  have x26 : _ = some (Value.int .i64 s.need) := (h.blk).cell 26
  have f26 := (h.blk).frozen 26
  have x27 : _ = some (Value.int .i64 s.got) := (h.blk).cell 27
  have f27 := (h.blk).frozen 27
  generalize hR : NextPost w fb lim (s.inBlock b) (ownList T ov ln dv kv mv) = R
  obtain ⟨gd, hgd⟩ : ∃ gd : Bool, gd = (s.good && decide (s.got = s.need) && decide (b = 13)) := ⟨_, rfl⟩
  have H1 := Lib.hid h1
  have HO1 := Lib.hid ho1
  have HR := Lib.hid hR
  have HGD := Lib.hid hgd
  clear h1 ho1 h hN hR hgd
  go_enter Tryz.func79, Tryz.ntmps79
  go_upto_region 1 with (fail)
  go_cut [19] (fun q wx => q = .bool false ∧ Below (w.setCell ⟨fb, 27, none⟩ (.int .i64 ((s.got : Int) + 1))).heap.size (w.setCell ⟨fb, 27, none⟩ (.int .i64 ((s.got : Int) + 1))) wx)
  case first =>
    go_region
    all_goals (go_wp2_with fail; go_meet)
    all_goals exact ⟨rfl, (Below.refl _ _).drew⟩
  case rest =>
    obtain ⟨rfl, hb⟩ := hcut
    have h2 := H1.out.later hb
    have ho2 := HO1.out.later hb
    have y26 : _ = some (Value.int .i64 s.need) := (h2.blk).cell 26
    have g26 := (h2.blk).frozen 26
    have y27 : _ = some (Value.int .i64 ((s.got : Int) + 1)) := (h2.blk).cell 27
    have g27 := (h2.blk).frozen 27
    have y28 : _ = some (Value.bool s.good) := (h2.blk).cell 28
    have g28 := (h2.blk).frozen 28
    have H2 := Lib.hid h2
    have HO2 := Lib.hid ho2
    clear hb x26 x27 f26 f27 h2 ho2 H1 HO1
    go_upto_region 6 with (fail)
    go_cut [] (fun wx => FeedAt wx fb lim { s with got := s.got + 1, good := gd } ov ln dv kv mv tc T ∧ OnlyIn (fb :: ownList T ov ln dv kv mv) w wx)
    case first =>
      have hput : ∀ W, Below wc.heap.size wc W → FeedAt (W.setCell ⟨fb, 28, none⟩ (.bool gd)) fb lim { s with got := s.got + 1, good := gd } ov ln dv kv mv tc T ∧ OnlyIn (fb :: ownList T ov ln dv kv mv) w (W.setCell ⟨fb, 28, none⟩ (.bool gd)) := fun W hW =>
        ⟨(H2.out.later hW).put 28 (.bool gd) (by kernel_rfl) rfl rfl rfl rfl rfl rfl, (HO2.out.later hW).setCell (.inl (by simp)) 28 _⟩
      have hgd := HGD.out
      cases hgood : s.good with
      | false =>
        rw [hgood] at y28 hgd
        obtain rfl : gd = false := by simpa using hgd
        have HPUT := Lib.hid hput
        clear hput hgd
        go_region
        all_goals (go_wp2_with fail; go_meet)
        all_goals exact HPUT.out _ (Below.refl _ _).drew
      | true =>
        rw [hgood] at y28 hgd
        by_cases hgn : s.got = s.need
        · have hgn2 : ((s.got : Int) + 1 == (s.need : Int) + 1) = true := by simp; omega
          by_cases hb13 : b = 13
          · subst hb13
            obtain rfl : gd = true := by simpa [hgn] using hgd
            have HPUT := Lib.hid hput
            have HGN := Lib.hid hgn
            clear hput hgd hgn hbt
            go_region
            all_goals (go_wp2_with fail; go_meet)
            all_goals exact HPUT.out _ (Below.refl _ _).drew
          · have hb13' : ((b.toNat : Int) == 13) = false := byte_ne (b := b) 13 (by omega) hb13
            obtain rfl : gd = false := by simpa [hb13] using hgd
            have HPUT := Lib.hid hput
            have HGN := Lib.hid hgn
            clear hput hgd hgn
            go_region
            all_goals (go_wp2_with fail; go_meet)
            all_goals exact HPUT.out _ (Below.refl _ _).drew
        · have hgn2 : ((s.got : Int) + 1 == (s.need : Int) + 1) = false := by simp; omega
          obtain rfl : gd = false := by simpa [hgn] using hgd
          have HPUT := Lib.hid hput
          clear hput hgd
          go_region
          all_goals (go_wp2_with fail; go_meet)
          all_goals exact HPUT.out _ (Below.refl _ _).drew
    case rest =>
      obtain ⟨h3, ho3⟩ := hcut
      have z5 : _ = some (Value.int .i64 s.held) := (h3.blk).cell 5
      have q5 := (h3.blk).frozen 5
      have z7 : _ = some (ln) := (h3.blk).cell 7
      have q7 := (h3.blk).frozen 7
      have z25 : _ = some (dv) := (h3.blk).cell 25
      have q25 := (h3.blk).frozen 25
      have z28 : _ = some (Value.bool gd) := (h3.blk).cell 28
      have q28 := (h3.blk).frozen 28
      have H3 := Lib.hid h3
      have HO3 := Lib.hid ho3
      clear h3 ho3 y26 y27 y28
      cases hgd : gd with
      | true =>
        rw [hgd] at z28
        have hfin : ∀ w', FeedAt w' fb lim { s with got := s.got + 1, held := s.held + 1 } ov ln dv kv mv tc T → OnlyIn (fb :: ownList T ov ln dv kv mv) w w' → R (.returned (.tuple #[])) w' := fun w' h' ho => by
          have e := HGD.out
          rw [hgd] at e
          have e2 : s.good = true ∧ s.got = s.need ∧ b = 13 := by simpa [and_assoc] using e.symm
          have hs : s.inBlock b = { s with got := s.got + 1, held := s.held + 1 } := by
            unfold Sp.FeedV.inBlock
            rw [if_neg hc, if_neg (by rw [e2.2.2]; decide), if_pos e2]
          rw [← HR.out, hs]
          exact NextPost.of h' (fun k hk => .inl hk) ho
        have hgood : s.good = true := by
          have e := HGD.out
          rw [hgd] at e
          have e2 : s.good = true ∧ s.got = s.need ∧ b = 13 := by simpa [and_assoc] using e.symm
          exact e2.1
        have HF := Lib.hid hfin
        clear hfin
        go_wp2
        go_end0
        refine HF.out _ ?_ ?_
        · have h4 := H3.out.put (s' := { s with got := s.got + 1, good := gd, held := s.held + 1 }) 5 (.int .i64 ((s.held : Int) + 1)) (by kernel_rfl) rfl rfl rfl rfl rfl rfl
          rw [hgd, ← hgood] at h4
          exact h4
        · exact HO3.out.setCell (.inl (by simp)) 5 _
      | false =>
        rw [hgd] at z28
        have hfin : ∀ w', FeedAt w' fb lim { s with got := s.got + 1, good := false, data := [], line := [], held := 0 } ov nilRow nilRow kv mv tc T → OnlyIn (fb :: ownList T ov ln dv kv mv) w w' → R (.returned (.tuple #[])) w' := fun w' h' ho => by
          have e := HGD.out
          rw [hgd] at e
          have e2 : ¬ (s.good = true ∧ s.got = s.need ∧ b = 13) := by
            intro h
            simp [h.1, h.2.1, h.2.2] at e
          have hs : s.inBlock b = { s with got := s.got + 1, good := false, data := [], line := [], held := 0 } := by
            unfold Sp.FeedV.inBlock
            rw [if_neg hc, if_neg hb10, if_neg e2]
          rw [← HR.out, hs]
          exact NextPost.of h' (fun k hk => .inl (ownList_noLine (ln := ln) (ownList_noData (dv := dv) hk))) ho
        have HF := Lib.hid hfin
        clear hfin
        go_wp2
        go_end0
        refine HF.out _ ?_ ?_
        · have h4 := (((H3.out.put (s' := { s with got := s.got + 1, good := gd, held := s.held + 1 }) 5 (.int .i64 ((s.held : Int) + 1)) (by kernel_rfl) rfl rfl rfl rfl rfl rfl).noData).noLine).put (s' := { s with got := s.got + 1, good := gd, held := 0, data := [], line := [] }) 5 (.int .i64 0) (by kernel_rfl) rfl rfl rfl rfl rfl rfl
          rw [hgd] at h4
          exact h4
        · exact (((HO3.out.setCell (.inl (by simp)) 5 _).setCell (.inl (by simp)) 25 _).setCell (.inl (by simp)) 7 _).setCell (.inl (by simp)) 5 _
end
end Go.Proofs.YtbiakncngmgbkaaGreatDoor
