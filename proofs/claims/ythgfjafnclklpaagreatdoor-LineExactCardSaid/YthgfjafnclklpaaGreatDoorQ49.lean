/- Walks of package line: inBlock. Walks of package line: inLine but where the line ends. Walks of package line: what is done with a byte; Feed. Walks of package line: New, Held, Ended, Taken. -/
import Derived.Test.YthgfjafnclklpaaGreatDoorQ46
import Derived.Test.YthgfjafnclklpaaGreatDoorQ45
import Derived.Test.YthgfjafnclklpaaGreatDoorFA
import Derived.Test.YthgfjafnclklpaaGreatDoorFB
import Derived.Lib.MinMax
section
namespace Go.Proofs.YthgfjafnclklpaaGreatDoor
attribute [local go_sem ↓] Go.wp_at_zero Go.wp_at_succ
open Go.RowKit

theorem info_byte : (Tryz.prog.info? 5).map (fun i => (i.zero, i.size, i.bytes)) = some (some (.int .u8 0), 1, 1) := by kernel_rfl

section
variable {w : World} {fb lim : Nat} {s : Sp.FeedV} {ov ln dv kv mv : Value} {tc : List Value} {T : List Nat}

set_option maxHeartbeats 4000000 in
set_option maxRecDepth 100000 in
/-- a byte of the block -/
theorem inBlock_data (h : FeedAt w fb lim s ov ln dv kv mv tc T) {N : Nat} (hN : s.Fits N) (hN2 : N + 1 ≤ 1000000000) (hg : 8 ≤ w.heap.size) (b : UInt8) (hc : s.got + 1 ≤ s.need) :
    Calls Tryz.prog 140 #[.pointer (some ⟨fb, 0, none⟩), .int .u8 b.toNat] w (NextPost w fb lim (s.inBlock b) (ownList T ov ln dv kv mv)) := by
  have h1 : FeedAt (w.setCell ⟨fb, 27, none⟩ (.int .i64 ((s.got : Int) + 1))) fb lim { s with got := s.got + 1 } ov ln dv kv mv tc T := h.put 27 _ (by kernel_rfl) rfl rfl rfl rfl rfl rfl
  have ho1 : OnlyIn (fb :: ownList T ov ln dv kv mv) w (w.setCell ⟨fb, 27, none⟩ (.int .i64 ((s.got : Int) + 1))) := (OnlyIn.refl _ w).setCell (.inl (by simp)) 27 _
  have hgot := hN.got
  have hneed := hN.need
  have hheld := hN.held
  have hdata := hN.data
  have hsz : (w.setCell ⟨fb, 27, none⟩ (.int .i64 ((s.got : Int) + 1))).heap.size = w.heap.size := by simp [World.setCell]
  have x26 : _ = some (Value.int .i64 s.need) := (h.blk).cell 26
  have f26 := (h.blk).frozen 26
  have x27 : _ = some (Value.int .i64 s.got) := (h.blk).cell 27
  have f27 := (h.blk).frozen 27
  have hs : s.inBlock b = { s with got := s.got + 1, data := s.data ++ [b], held := s.held + 1 } := by unfold Sp.FeedV.inBlock; rw [if_pos hc]
  rw [hs]
  have hp := fun (w' : World) (dv' : Value) (h' : FeedAt w' fb lim { s with got := s.got + 1, data := s.data ++ [b], held := s.held + 1 } ov ln dv' kv mv tc T) (hO : ∀ k ∈ ownList T ov ln dv' kv mv, k ∈ ownList T ov ln dv kv mv ∨ w.heap.size ≤ k) (ho : OnlyIn (fb :: ownList T ov ln dv kv mv) w w') =>
    NextPost.of h' hO ho
  generalize NextPost w fb lim { s with got := s.got + 1, data := s.data ++ [b], held := s.held + 1 } (ownList T ov ln dv kv mv) = R at hp ⊢
  have hc2 : (s.got : Int) + 1 ≤ (s.need : Int) := by omega
  obtain ⟨i0, hi, hz0, hz1, hz2⟩ := info_parts info_byte
  have HP := Lib.hid hp
  have H1 := Lib.hid h1
  have HO1 := Lib.hid ho1
  clear hp h1 ho1 hs h hN
  go_enter Tryz.func140, Tryz.ntmps140
  go_upto_region 1 with (fail)
  go_cut [19] (fun q wx => q = .bool true ∧ Below (w.setCell ⟨fb, 27, none⟩ (.int .i64 ((s.got : Int) + 1))).heap.size (w.setCell ⟨fb, 27, none⟩ (.int .i64 ((s.got : Int) + 1))) wx)
  case first =>
    go_region
    all_goals (go_wp2_with fail; go_meet)
    all_goals exact ⟨rfl, (Below.refl _ _).drew⟩
  case rest =>
    obtain ⟨rfl, hb⟩ := hcut
    have h2 := H1.out.later hb
    have y5 : _ = some (Value.int .i64 s.held) := (h2.blk).cell 5
    have g5 := (h2.blk).frozen 5
    have y25 : _ = some (dv) := (h2.blk).cell 25
    have g25 := (h2.blk).frozen 25
    have hown1 := h2.data.alloc (.cells #[.int .u8 b.toNat] 5)
    have hltc := h2.blk.lt
    have hgc : 8 ≤ wc.heap.size := by have := hb.size; omega
    have Hown1 := Lib.hid hown1
    have H2 := Lib.hid h2
    have HB := Lib.hid hb
    clear hown1 h2 hb x26 x27 f26 f27
    go_wp2_with (at_builtin; refine wpList_append_put rfl (.tmp 24) (.tmp 26) _ rfl 0 5 i0 _ 1 1 Tryz.underlying35 hi hz0 hz1 hz2 rfl (by decide) dv s.data.length (bytesV s.data) rfl Hown1.out ⟨wc.heap.size, 0, none⟩ 1 1 [.int .u8 b.toNat] rfl rfl ?_ ?_ ?_ ?_ ?_ ?_ ?_; exact cells_one _ _ _; (intro u hu; simp at hu; subst hu; rfl); decide; (unfold maxLen; omega); omega; omega; intro g cap w2 hown2 hg2 hat2; have hm := FeedAt.moreData (b := b) H2.out hg2 hown2 hat2 hgc; have b2 := (H2.out.blk.alloc (.cells #[.int .u8 b.toNat] 5)).grown hg2 (fun e => own_apart H2.out.data H2.out.blk (by decide) e.symm); have Hm := Lib.hid hm; clear hm hown2 hg2 hat2; have z25 : _ = some dv := b2.cell 25; have z5 : _ = some (Value.int .i64 s.held) := b2.cell 5; have q25 := b2.frozen 25; have q5 := b2.frozen 5; clear b2)
    go_end0
    refine HP.out _ _ (Hm.out.1.put 5 (.int .i64 ((s.held : Int) + 1)) (by kernel_rfl) rfl rfl rfl rfl rfl rfl) (fun k hk => ?_) ?_
    · rcases Hm.out.2.1 k hk with h | h
      · exact .inl h
      · right; have := HB.out.size; omega
    · exact ((HO1.out.later HB.out).trans Hm.out.2.2 (fun k hk => .inl hk)).setCell (.inl (by simp)) 5 _

set_option maxHeartbeats 4000000 in
set_option maxRecDepth 100000 in
/-- the line feed behind the block -/
theorem inBlock_end (h : FeedAt w fb lim s ov ln dv kv mv tc T) {N : Nat} (hN : s.Fits N) (hN2 : N + 1 ≤ 1000000000) (hg : 8 ≤ w.heap.size) (hc : ¬ s.got + 1 ≤ s.need) :
    Calls Tryz.prog 140 #[.pointer (some ⟨fb, 0, none⟩), .int .u8 10] w (NextPost w fb lim (s.inBlock 10) (ownList T ov ln dv kv mv)) := by
  have h1 : FeedAt (w.setCell ⟨fb, 27, none⟩ (.int .i64 ((s.got : Int) + 1))) fb lim { s with got := s.got + 1 } ov ln dv kv mv tc T := h.put 27 _ (by kernel_rfl) rfl rfl rfl rfl rfl rfl
  have ho1 : OnlyIn (fb :: ownList T ov ln dv kv mv) w (w.setCell ⟨fb, 27, none⟩ (.int .i64 ((s.got : Int) + 1))) := (OnlyIn.refl _ w).setCell (.inl (by simp)) 27 _
  have hN1 : ({ s with got := s.got + 1 } : Sp.FeedV).Fits (N + 1) := fits_got hN
  have hgot := hN.got
  have hneed := hN.need
  have hsz : (w.setCell ⟨fb, 27, none⟩ (.int .i64 ((s.got : Int) + 1))).heap.size = w.heap.size := by simp [World.setCell]
  have x26 : _ = some (Value.int .i64 s.need) := (h.blk).cell 26
  have f26 := (h.blk).frozen 26
  have x27 : _ = some (Value.int .i64 s.got) := (h.blk).cell 27
  have f27 := (h.blk).frozen 27
  have hs : s.inBlock 10 = ({ s with got := s.got + 1 } : Sp.FeedV).blockEnds := by unfold Sp.FeedV.inBlock; rw [if_neg hc]; rfl
  rw [hs]
  have hd := fun (W : World) (hb : Below (w.setCell ⟨fb, 27, none⟩ (.int .i64 ((s.got : Int) + 1))).heap.size (w.setCell ⟨fb, 27, none⟩ (.int .i64 ((s.got : Int) + 1))) W) =>
    (blockEnds_any (h1.later hb) hN1 hN2 (by have := hb.size; omega)).mono fun e w' hp => And.intro hp.1 (hp.from (ho1.later hb))
  generalize NextPost w fb lim ({ s with got := s.got + 1 } : Sp.FeedV).blockEnds (ownList T ov ln dv kv mv) = R at hd ⊢
  have hc2 : ¬ (s.got : Int) + 1 ≤ (s.need : Int) := by omega
  have HD := Lib.hid hd
  clear hd h1 ho1 hs h hN hN1
  go_enter Tryz.func140, Tryz.ntmps140
  go_upto_region 1 with (fail)
  go_cut [19] (fun q wx => q = .bool false ∧ Below (w.setCell ⟨fb, 27, none⟩ (.int .i64 ((s.got : Int) + 1))).heap.size (w.setCell ⟨fb, 27, none⟩ (.int .i64 ((s.got : Int) + 1))) wx)
  case first =>
    go_region
    all_goals (go_wp2_with fail; go_meet)
    all_goals exact ⟨rfl, (Below.refl _ _).drew⟩
  case rest =>
    obtain ⟨rfl, hb⟩ := hcut
    have HB := Lib.hid hb
    clear hb x26 x27 f26 f27
    go_wp2_with (refine (HD.out _ HB.out).mono ?_; rintro e w9 ⟨rfl, hR⟩)
    go_end0
    exact hR

set_option maxHeartbeats 8000000 in
set_option maxRecDepth 100000 in
/-- another byte behind the block -/
theorem inBlock_more (h : FeedAt w fb lim s ov ln dv kv mv tc T) {N : Nat} (hN : s.Fits N) (hN2 : N + 1 ≤ 1000000000) (b : UInt8) (hc : ¬ s.got + 1 ≤ s.need) (hb10 : ¬ b = 10) :
    Calls Tryz.prog 140 #[.pointer (some ⟨fb, 0, none⟩), .int .u8 b.toNat] w (NextPost w fb lim (s.inBlock b) (ownList T ov ln dv kv mv)) := by
  have h1 : FeedAt (w.setCell ⟨fb, 27, none⟩ (.int .i64 ((s.got : Int) + 1))) fb lim { s with got := s.got + 1 } ov ln dv kv mv tc T := h.put 27 _ (by kernel_rfl) rfl rfl rfl rfl rfl rfl
  have ho1 : OnlyIn (fb :: ownList T ov ln dv kv mv) w (w.setCell ⟨fb, 27, none⟩ (.int .i64 ((s.got : Int) + 1))) := (OnlyIn.refl _ w).setCell (.inl (by simp)) 27 _
  have hgot := hN.got
  have hneed := hN.need
  have hheld := hN.held
  have hbt := feedByte_ne (b := b) 10 (by omega) hb10
  have hc2 : ¬ (s.got : Int) + 1 ≤ (s.need : Int) := by omega
  have x26 : _ = some (Value.int .i64 s.need) := (h.blk).cell 26
  have f26 := (h.blk).frozen 26
  have x27 : _ = some (Value.int .i64 s.got) := (h.blk).cell 27
  have f27 := (h.blk).frozen 27
  generalize hR : NextPost w fb lim (s.inBlock b) (ownList T ov ln dv kv mv) = R
  obtain ⟨gd, hgd⟩ : ∃ gd : Bool, gd = (s.good && decide (s.got = s.need) && decide (b = 13)) := ⟨_, rfl⟩
  have H1 := Lib.hid h1
  have HO1 := Lib.hid ho1
  have HR := Lib.hid hR
  have HGD := Lib.hid hgd
  clear h1 ho1 h hN hR hgd
  go_enter Tryz.func140, Tryz.ntmps140
  go_upto_region 1 with (fail)
  go_cut [19] (fun q wx => q = .bool false ∧ Below (w.setCell ⟨fb, 27, none⟩ (.int .i64 ((s.got : Int) + 1))).heap.size (w.setCell ⟨fb, 27, none⟩ (.int .i64 ((s.got : Int) + 1))) wx)
  case first =>
    go_region
    all_goals (go_wp2_with fail; go_meet)
    all_goals exact ⟨rfl, (Below.refl _ _).drew⟩
  case rest =>
    obtain ⟨rfl, hb⟩ := hcut
    have h2 := H1.out.later hb
    have ho2 := HO1.out.later hb
    have y26 : _ = some (Value.int .i64 s.need) := (h2.blk).cell 26
    have g26 := (h2.blk).frozen 26
    have y27 : _ = some (Value.int .i64 ((s.got : Int) + 1)) := (h2.blk).cell 27
    have g27 := (h2.blk).frozen 27
    have y28 : _ = some (Value.bool s.good) := (h2.blk).cell 28
    have g28 := (h2.blk).frozen 28
    have H2 := Lib.hid h2
    have HO2 := Lib.hid ho2
    clear hb x26 x27 f26 f27 h2 ho2 H1 HO1
    go_upto_region 6 with (fail)
    go_cut [] (fun wx => FeedAt wx fb lim { s with got := s.got + 1, good := gd } ov ln dv kv mv tc T ∧ OnlyIn (fb :: ownList T ov ln dv kv mv) w wx)
    case first =>
      have hput : ∀ W, Below wc.heap.size wc W → FeedAt (W.setCell ⟨fb, 28, none⟩ (.bool gd)) fb lim { s with got := s.got + 1, good := gd } ov ln dv kv mv tc T ∧ OnlyIn (fb :: ownList T ov ln dv kv mv) w (W.setCell ⟨fb, 28, none⟩ (.bool gd)) := fun W hW =>
        ⟨(H2.out.later hW).put 28 (.bool gd) (by kernel_rfl) rfl rfl rfl rfl rfl rfl, (HO2.out.later hW).setCell (.inl (by simp)) 28 _⟩
      have hgd := HGD.out
      cases hgood : s.good with
      | false =>
        rw [hgood] at y28 hgd
        obtain rfl : gd = false := by simpa using hgd
        have HPUT := Lib.hid hput
        clear hput hgd
        go_region
        all_goals (go_wp2_with fail; go_meet)
        all_goals exact HPUT.out _ (Below.refl _ _).drew
      | true =>
        rw [hgood] at y28 hgd
        by_cases hgn : s.got = s.need
        · have hgn2 : ((s.got : Int) + 1 == (s.need : Int) + 1) = true := by simp; omega
          by_cases hb13 : b = 13
          · subst hb13
            obtain rfl : gd = true := by simpa [hgn] using hgd
            have HPUT := Lib.hid hput
            have HGN := Lib.hid hgn
            clear hput hgd hgn hbt
            go_region
            all_goals (go_wp2_with fail; go_meet)
            all_goals exact HPUT.out _ (Below.refl _ _).drew
          · have hb13' : ((b.toNat : Int) == 13) = false := feedByte_ne (b := b) 13 (by omega) hb13
            obtain rfl : gd = false := by simpa [hb13] using hgd
            have HPUT := Lib.hid hput
            have HGN := Lib.hid hgn
            clear hput hgd hgn
            go_region
            all_goals (go_wp2_with fail; go_meet)
            all_goals exact HPUT.out _ (Below.refl _ _).drew
        · have hgn2 : ((s.got : Int) + 1 == (s.need : Int) + 1) = false := by simp; omega
          obtain rfl : gd = false := by simpa [hgn] using hgd
          have HPUT := Lib.hid hput
          clear hput hgd
          go_region
          all_goals (go_wp2_with fail; go_meet)
          all_goals exact HPUT.out _ (Below.refl _ _).drew
    case rest =>
      obtain ⟨h3, ho3⟩ := hcut
      have z5 : _ = some (Value.int .i64 s.held) := (h3.blk).cell 5
      have q5 := (h3.blk).frozen 5
      have z7 : _ = some (ln) := (h3.blk).cell 7
      have q7 := (h3.blk).frozen 7
      have z25 : _ = some (dv) := (h3.blk).cell 25
      have q25 := (h3.blk).frozen 25
      have z28 : _ = some (Value.bool gd) := (h3.blk).cell 28
      have q28 := (h3.blk).frozen 28
      have H3 := Lib.hid h3
      have HO3 := Lib.hid ho3
      clear h3 ho3 y26 y27 y28
      cases hgd : gd with
      | true =>
        rw [hgd] at z28
        have hfin : ∀ w', FeedAt w' fb lim { s with got := s.got + 1, held := s.held + 1 } ov ln dv kv mv tc T → OnlyIn (fb :: ownList T ov ln dv kv mv) w w' → R (.returned (.tuple #[])) w' := fun w' h' ho => by
          have e := HGD.out
          rw [hgd] at e
          have e2 : s.good = true ∧ s.got = s.need ∧ b = 13 := by simpa [and_assoc] using e.symm
          have hs : s.inBlock b = { s with got := s.got + 1, held := s.held + 1 } := by
            unfold Sp.FeedV.inBlock
            rw [if_neg hc, if_neg (by rw [e2.2.2]; decide), if_pos e2]
          rw [← HR.out, hs]
          exact NextPost.of h' (fun k hk => .inl hk) ho
        have hgood : s.good = true := by
          have e := HGD.out
          rw [hgd] at e
          have e2 : s.good = true ∧ s.got = s.need ∧ b = 13 := by simpa [and_assoc] using e.symm
          exact e2.1
        have HF := Lib.hid hfin
        clear hfin
        go_wp2
        go_end0
        refine HF.out _ ?_ ?_
        · have h4 := H3.out.put (s' := { s with got := s.got + 1, good := gd, held := s.held + 1 }) 5 (.int .i64 ((s.held : Int) + 1)) (by kernel_rfl) rfl rfl rfl rfl rfl rfl
          rw [hgd, ← hgood] at h4
          exact h4
        · exact HO3.out.setCell (.inl (by simp)) 5 _
      | false =>
        rw [hgd] at z28
        have hfin : ∀ w', FeedAt w' fb lim { s with got := s.got + 1, good := false, data := [], line := [], held := 0 } ov nilRow nilRow kv mv tc T → OnlyIn (fb :: ownList T ov ln dv kv mv) w w' → R (.returned (.tuple #[])) w' := fun w' h' ho => by
          have e := HGD.out
          rw [hgd] at e
          have e2 : ¬ (s.good = true ∧ s.got = s.need ∧ b = 13) := by
            intro h
            simp [h.1, h.2.1, h.2.2] at e
          have hs : s.inBlock b = { s with got := s.got + 1, good := false, data := [], line := [], held := 0 } := by
            unfold Sp.FeedV.inBlock
            rw [if_neg hc, if_neg hb10, if_neg e2]
          rw [← HR.out, hs]
          exact NextPost.of h' (fun k hk => .inl (ownList_noLine (ln := ln) (ownList_noData (dv := dv) hk))) ho
        have HF := Lib.hid hfin
        clear hfin
        go_wp2
        go_end0
        refine HF.out _ ?_ ?_
        · have h4 := (((H3.out.put (s' := { s with got := s.got + 1, good := gd, held := s.held + 1 }) 5 (.int .i64 ((s.held : Int) + 1)) (by kernel_rfl) rfl rfl rfl rfl rfl rfl).noData).noLine).put (s' := { s with got := s.got + 1, good := gd, held := 0, data := [], line := [] }) 5 (.int .i64 0) (by kernel_rfl) rfl rfl rfl rfl rfl rfl
          rw [hgd] at h4
          exact h4
        · exact (((HO3.out.setCell (.inl (by simp)) 5 _).setCell (.inl (by simp)) 25 _).setCell (.inl (by simp)) 7 _).setCell (.inl (by simp)) 5 _
end
end Go.Proofs.YthgfjafnclklpaaGreatDoor
end
section
namespace Go.Proofs.YthgfjafnclklpaaGreatDoor
attribute [local go_sem ↓] Go.wp_at_zero Go.wp_at_succ
open Go.RowKit

theorem info_byte' : (Tryz.prog.info? 5).map (fun i => (i.zero, i.size, i.bytes)) = some (some (.int .u8 0), 1, 1) := by kernel_rfl

section
variable {w : World} {fb lim : Nat} {s : Sp.FeedV} {ov ln dv kv mv : Value} {tc : List Value} {T : List Nat}

set_option maxHeartbeats 4000000 in
set_option maxRecDepth 100000 in
/-- the line goes on -/
theorem inLine_on (h : FeedAt w fb lim s ov ln dv kv mv tc T) {N : Nat} (hN : s.Fits N) (hN2 : N + 1 ≤ 1000000000) (hg : 8 ≤ w.heap.size) (b : UInt8) (hb10 : ¬ b = 10) :
    Calls Tryz.prog 70 #[.pointer (some ⟨fb, 0, none⟩), .int .u8 b.toNat] w (NextPost w fb lim (s.inLine lim b) (ownList T ov ln dv kv mv)) := by
  have hbt : ((b.toNat : Int) == 10) = false := feedByte_ne (b := b) 10 (by omega) hb10
  have hheld := hN.held
  have hline := hN.line
  have hlw := h.line
  obtain ⟨l1, l2, l3, hln⟩ : ∃ p c, ln = .slice p s.line.length c ∧ True := by
    rcases h.line.2 with ⟨h1, h2⟩ | ⟨g, cap, cur, h1, _⟩
    · exact ⟨none, 0, by rw [h1, h2], trivial⟩
    · exact ⟨_, cap, h1, trivial⟩
  subst l3
  obtain ⟨i0, hi, hz0, hz1, hz2⟩ := info_parts info_byte'
  have x5 : _ = some (Value.int .i64 s.held) := (h.blk).cell 5
  have f5 := (h.blk).frozen 5
  have x7 : _ = some (Value.slice l1 s.line.length l2) := (h.blk).cell 7
  have f7 := (h.blk).frozen 7
  have x8 : _ = some (Value.bool s.long) := (h.blk).cell 8
  have f8 := (h.blk).frozen 8
  cases hlong : s.long with
  | true =>
    have hp : NextPost w fb lim (s.inLine lim b) (ownList T ov (.slice l1 s.line.length l2) dv kv mv) (.returned (.tuple #[])) w := by
      have hs : s.inLine lim b = s := by unfold Sp.FeedV.inLine; rw [if_neg hb10, if_pos hlong]
      rw [hs]; exact NextPost.of h (fun k hk => .inl hk) (OnlyIn.refl _ _)
    rw [hlong] at x8
    generalize NextPost w fb lim (s.inLine lim b) (ownList T ov (.slice l1 s.line.length l2) dv kv mv) = R at hp ⊢
    have HP := Lib.hid hp
    clear hp h hN hlw
    go_enter Tryz.func70, Tryz.ntmps70
    go_wp2
    go_end0
    exact HP.out
  | false =>
    rw [hlong] at x8
    by_cases hc : 2048 < s.line.length ∨ (s.line.length = 2048 ∧ b ≠ 13)
    · have hp : ∀ w', FeedAt w' fb lim { s with long := true, line := [], held := 0 } ov nilRow dv kv mv tc T → OnlyIn (fb :: ownList T ov (.slice l1 s.line.length l2) dv kv mv) w w' → NextPost w fb lim (s.inLine lim b) (ownList T ov (.slice l1 s.line.length l2) dv kv mv) (.returned (.tuple #[])) w' := fun w' h' ho => by
        have hs : s.inLine lim b = { s with long := true, line := [], held := 0 } := by unfold Sp.FeedV.inLine; rw [if_neg hb10, if_neg (by rw [hlong]; decide), if_pos hc]
        rw [hs]; exact NextPost.of h' (fun k hk => .inl (ownList_noLine hk)) ho
      have hq := ((h.put (s' := { s with long := true }) 8 (.bool true) (by kernel_rfl) rfl rfl rfl rfl rfl rfl).noLine).put (s' := { s with long := true, line := [], held := 0 }) 5 (.int .i64 0) (by kernel_rfl) rfl rfl rfl rfl rfl rfl
      have ho : OnlyIn (fb :: ownList T ov (.slice l1 s.line.length l2) dv kv mv) w (((w.setCell ⟨fb, 8, none⟩ (.bool true)).setCell ⟨fb, 7, none⟩ nilRow).setCell ⟨fb, 5, none⟩ (.int .i64 0)) := (((OnlyIn.refl (fb :: ownList T ov (.slice l1 s.line.length l2) dv kv mv) w).setCell (.inl (by simp)) 8 (.bool true)).setCell (.inl (by simp)) 7 nilRow).setCell (.inl (by simp)) 5 (.int .i64 0)
      have hp2 := hp _ hq ho
      generalize NextPost w fb lim (s.inLine lim b) (ownList T ov (.slice l1 s.line.length l2) dv kv mv) = R at hp2 ⊢
      have HP := Lib.hid hp2
      clear hp hp2 hq ho h hN hlw
      by_cases hc1 : 2048 < s.line.length
      · have hc2 : (2048 : Int) < (s.line.length : Int) := by omega
        clear hc
        go_enter Tryz.func70, Tryz.ntmps70
        go_wp2
        go_end0
        exact HP.out
      · have hc2 : ¬ (2048 : Int) < (s.line.length : Int) := by omega
        have hc3 : ((s.line.length : Int) == 2048) = true := by simp; omega
        have hb13 : ¬ b = 13 := by
          rcases hc with h | h
          · exact absurd h hc1
          · exact h.2
        have hb13' : ((b.toNat : Int) == 13) = false := feedByte_ne (b := b) 13 (by omega) hb13
        clear hc
        go_enter Tryz.func70, Tryz.ntmps70
        go_wp2
        go_end0
        exact HP.out
    · have hp : ∀ w' ln', FeedAt w' fb lim { s with line := s.line ++ [b], held := s.held + 1 } ov ln' dv kv mv tc T → (∀ k ∈ ownList T ov ln' dv kv mv, k ∈ ownList T ov (.slice l1 s.line.length l2) dv kv mv ∨ w.heap.size ≤ k) → OnlyIn (fb :: ownList T ov (.slice l1 s.line.length l2) dv kv mv) w w' → NextPost w fb lim (s.inLine lim b) (ownList T ov (.slice l1 s.line.length l2) dv kv mv) (.returned (.tuple #[])) w' := fun w' ln' h' hO ho => by
        have hs : s.inLine lim b = { s with line := s.line ++ [b], held := s.held + 1 } := by unfold Sp.FeedV.inLine; rw [if_neg hb10, if_neg (by rw [hlong]; decide), if_neg hc]
        rw [hs]; exact NextPost.of h' hO ho
      generalize NextPost w fb lim (s.inLine lim b) (ownList T ov (.slice l1 s.line.length l2) dv kv mv) = R at hp ⊢
      have hc2 : ¬ (2048 : Int) < (s.line.length : Int) := by omega
      have hown1 := h.line.alloc (.cells #[.int .u8 b.toNat] 5)
      have Hown1 := Lib.hid hown1
      have H2 := Lib.hid h
      have HP := Lib.hid hp
      have hltw := h.blk.lt
      clear hown1 hp h hN hlw
      by_cases hc3 : s.line.length = 2048
      · have hc3' : ((s.line.length : Int) == 2048) = true := by simp; omega
        have hb13 : b = 13 := Decidable.not_not.1 fun h => hc (.inr ⟨hc3, h⟩)
        subst hb13
        clear hc
        have HC3 := Lib.hid hc3
        clear hc3
        go_enter Tryz.func70, Tryz.ntmps70
        go_wp2_with (at_builtin; refine wpList_append_put rfl (.tmp 8) (.tmp 10) _ rfl 0 5 i0 _ 1 1 Tryz.underlying35 hi hz0 hz1 hz2 rfl (by decide) (.slice l1 s.line.length l2) s.line.length (bytesV s.line) rfl Hown1.out ⟨w.heap.size, 0, none⟩ 1 1 [.int .u8 (13 : UInt8).toNat] rfl rfl ?_ ?_ ?_ ?_ ?_ ?_ ?_; exact cells_one _ _ _; (intro u hu; simp at hu; subst hu; rfl); decide; (unfold maxLen; omega); omega; omega; intro g cap w2 hown2 hg2 hat2; have hm := FeedAt.moreLine (b := 13) H2.out hg2 hown2 hat2 hg; have b2 := (H2.out.blk.alloc (.cells #[.int .u8 (13 : UInt8).toNat] 5)).grown hg2 (fun e => own_apart H2.out.line H2.out.blk (by decide) e.symm); have Hm := Lib.hid hm; clear hm hown2 hg2 hat2; have z7 : _ = some (Value.slice l1 s.line.length l2) := b2.cell 7; have z5 : _ = some (Value.int .i64 s.held) := b2.cell 5; have q7 := b2.frozen 7; have q5 := b2.frozen 5; clear b2)
        go_end0
        exact HP.out _ _ (Hm.out.1.put 5 (.int .i64 ((s.held : Int) + 1)) (by kernel_rfl) rfl rfl rfl rfl rfl rfl) Hm.out.2.1 (Hm.out.2.2.setCell (.inl (by simp)) 5 _)
      · have hc3' : ((s.line.length : Int) == 2048) = false := by simp; omega
        clear hc
        go_enter Tryz.func70, Tryz.ntmps70
        go_wp2_with (at_builtin; refine wpList_append_put rfl (.tmp 8) (.tmp 10) _ rfl 0 5 i0 _ 1 1 Tryz.underlying35 hi hz0 hz1 hz2 rfl (by decide) (.slice l1 s.line.length l2) s.line.length (bytesV s.line) rfl Hown1.out ⟨w.heap.size, 0, none⟩ 1 1 [.int .u8 b.toNat] rfl rfl ?_ ?_ ?_ ?_ ?_ ?_ ?_; exact cells_one _ _ _; (intro u hu; simp at hu; subst hu; rfl); decide; (unfold maxLen; omega); omega; omega; intro g cap w2 hown2 hg2 hat2; have hm := FeedAt.moreLine (b := b) H2.out hg2 hown2 hat2 hg; have b2 := (H2.out.blk.alloc (.cells #[.int .u8 b.toNat] 5)).grown hg2 (fun e => own_apart H2.out.line H2.out.blk (by decide) e.symm); have Hm := Lib.hid hm; clear hm hown2 hg2 hat2; have z7 : _ = some (Value.slice l1 s.line.length l2) := b2.cell 7; have z5 : _ = some (Value.int .i64 s.held) := b2.cell 5; have q7 := b2.frozen 7; have q5 := b2.frozen 5; clear b2)
        go_end0
        exact HP.out _ _ (Hm.out.1.put 5 (.int .i64 ((s.held : Int) + 1)) (by kernel_rfl) rfl rfl rfl rfl rfl rfl) Hm.out.2.1 (Hm.out.2.2.setCell (.inl (by simp)) 5 _)
end
end Go.Proofs.YthgfjafnclklpaaGreatDoor
end
section
namespace Go.Proofs.YthgfjafnclklpaaGreatDoor
attribute [local go_sem ↓] Go.wp_at_zero Go.wp_at_succ
open Go.RowKit

section
variable {w : World} {fb lim : Nat} {s : Sp.FeedV} {ov ln dv kv mv : Value} {tc : List Value} {T : List Nat}

set_option maxHeartbeats 1000000 in
theorem inLine_end (h : FeedAt w fb lim s ov ln dv kv mv tc T) (hgl : Glob w) {N : Nat} (hN : s.Fits N) (hN2 : N + 1 ≤ 1000000000) :
    Calls Tryz.prog 70 #[.pointer (some ⟨fb, 0, none⟩), .int .u8 10] w (NextPost w fb lim (s.inLine lim 10) (ownList T ov ln dv kv mv)) := by
  have hs : s.inLine lim 10 = s.lineEnds lim := by unfold Sp.FeedV.inLine; rw [if_pos rfl]
  rw [hs]
  have hcall : Calls Tryz.prog 118 #[.pointer (some ⟨fb, 0, none⟩)] w (NextPost w fb lim (s.lineEnds lim) (ownList T ov ln dv kv mv)) := by
    cases hl : s.long with
    | true => exact lineEnds_long h hgl hN hN2 hl
    | false => exact lineEnds_short h hgl hN hN2 hl
  have hcall2 := hcall.mono (fun e w' hp => And.intro hp.1 hp)
  generalize NextPost w fb lim (s.lineEnds lim) (ownList T ov ln dv kv mv) = R at hcall2 ⊢
  have HC := Lib.hid hcall2
  clear hcall2 hcall hs h hgl hN
  go_enter Tryz.func70, Tryz.ntmps70
  go_wp2_with (refine HC.out.mono ?_; rintro e w8 ⟨rfl, hR8⟩)
  go_end0
  exact hR8

/-- the state's function, by the state -/
theorem next_any (h : FeedAt w fb lim s ov ln dv kv mv tc T) (hgl : Glob w) {N : Nat} (hN : s.Fits N) (hN2 : N + 1 ≤ 1000000000) (b : UInt8) :
    ∃ fn : FuncId, modeFn fb s.mode = .func (.func fn) #[.pointer (some ⟨fb, 0, none⟩)] #[] ∧ (fn = 70 ∨ fn = 158 ∨ fn = 140 ∨ fn = 157) ∧ Calls Tryz.prog fn #[.pointer (some ⟨fb, 0, none⟩), .int .u8 b.toNat] w (NextPost w fb lim (s.next lim b) (ownList T ov ln dv kv mv)) := by
  have hg := hgl.size
  unfold Sp.FeedV.next
  cases hm : s.mode with
  | inLine =>
    refine ⟨_, rfl, .inl rfl, ?_⟩
    by_cases hb : b = 10
    · subst hb; exact inLine_end h hgl hN hN2
    · exact inLine_on h hN hN2 hg b hb
  | passing => exact ⟨_, rfl, .inr (.inl rfl), passing_any h hN hN2 hg b⟩
  | inBlock =>
    refine ⟨_, rfl, .inr (.inr (.inl rfl)), ?_⟩
    by_cases hc : s.got + 1 ≤ s.need
    · exact inBlock_data h hN hN2 hg b hc
    · by_cases hb : b = 10
      · subst hb; exact inBlock_end h hN hN2 hg hc
      · exact inBlock_more h hN hN2 b hc hb
  | over => exact ⟨_, rfl, .inr (.inr (.inr rfl)), over_any h b⟩

theorem fits_bytes {lim : Nat} : ∀ (l : Sp.Bs) {s : Sp.FeedV} {N : Nat}, s.Fits N → (s.bytes lim l).Fits (N + 3 * l.length)
  | [], _, _, h => h
  | b :: l, s, N, h => by
    have := fits_bytes (lim := lim) l (fits_byte (lim := lim) h b)
    have e : N + 3 + 3 * l.length = N + 3 * (b :: l).length := by simp; omega
    rw [e] at this
    exact this

theorem bytes_take_succ (lim : Nat) (s : Sp.FeedV) {l : Sp.Bs} {k : Nat} {b : UInt8} (h : l[k]? = some b) : s.bytes lim (l.take (k + 1)) = (s.bytes lim (l.take k)).byte lim b := by
  unfold Sp.FeedV.bytes
  rw [List.take_add_one, h, List.foldl_append]
  rfl

theorem Glob.onlyIn {w w' : World} (h : Glob w) {L : List Nat} (ho : OnlyIn L w w') (hL : ∀ k ∈ L, 8 ≤ k) : Glob w' :=
  h.keep (fun k hk => ho.block k (by have := h.size; omega) (fun hm => by have := hL k hm; omega)) ho.size

/-- a row that the Feeder does not own stays -/
theorem RowAt.onlyIn {w w' : World} {A : Option Addr} {xs : List Value} (h : RowAt w A xs) {L : List Nat} (ho : OnlyIn L w w') (hA : ∀ a, A = some a → a.block ∉ L) : RowAt w' A xs := by
  rcases h with h | ⟨b, o, h1, h2, h3⟩
  · exact .inl h
  · exact .inr ⟨b, o, h1, Nat.lt_of_lt_of_le h2 ho.size, fun j u hu => (World.cell?_of_block (ho.block b h2 (hA _ h1))).trans (h3 j u hu)⟩

/-- in the middle of a chunk -/
structure FeedLoop (w : World) (fb lim : Nat) (s : Sp.FeedV) (l : Sp.Bs) (O : List Nat) (k : Nat) (wr : World) : Prop where
  feed : ∃ ov ln dv kv mv tc T, FeedAt wr fb lim (s.bytes lim (l.take k)) ov ln dv kv mv tc T ∧ ∀ x ∈ ownList T ov ln dv kv mv, x ∈ O ∨ w.heap.size ≤ x
  only : OnlyIn (fb :: O) w wr

/-- how Feed leaves the Feeder, and what it hands out -/
def FeedPost (w : World) (fb lim : Nat) (s : Sp.FeedV) (l : Sp.Bs) (O : List Nat) (e : Ending) (w' : World) : Prop :=
  ∃ ov ln dv kv mv tc T, e = .returned ov ∧ FeedAt w' fb lim (s.feed lim l) nilRow ln dv kv mv [] [] ∧ w'.ownsRow 0 99 16 ov (s.told lim l).length tc ∧ StepsMem w' (s.told lim l) tc T ∧
    (fb :: ownList T ov ln dv kv mv).Nodup ∧ (∀ k ∈ ownList T ov ln dv kv mv, (k ∈ O ∨ w.heap.size ≤ k) ∧ 8 ≤ k ∧ k < w'.heap.size) ∧ OnlyIn (fb :: O) w w'

theorem FeedAt.handOut (h : FeedAt w fb lim s ov ln dv kv mv tc T) : FeedAt (w.setCell ⟨fb, 2, none⟩ nilRow) fb lim { s with out := [] } nilRow ln dv kv mv [] [] ∧
    (w.setCell ⟨fb, 2, none⟩ nilRow).ownsRow 0 99 16 ov s.out.length tc ∧ StepsMem (w.setCell ⟨fb, 2, none⟩ nilRow) s.out tc T := by
  have hs : ∀ k ∈ ownList T ov ln dv kv mv, (w.setCell ⟨fb, 2, none⟩ nilRow).heap[k]? = w.heap[k]? := fun k hk =>
    Below.heap_setCell w ⟨fb, 2, none⟩ nilRow k (fun e => h.fb_notin (by simpa [e] using hk))
  have hsub : (ownList [] nilRow ln dv kv mv).Sublist (ownList T ov ln dv kv mv) := by
    unfold ownList
    rw [rowBlock_nil, List.nil_append, List.nil_append]
    exact (List.sublist_append_right _ _).trans (List.sublist_append_right _ _)
  refine ⟨⟨h.blk.put 2 nilRow, World.ownsRow_nil _ 0 _ 16, ⟨rfl, rfl⟩, own_same h.line ?_, own_same h.data ?_, own_same h.keys ?_, own_same h.metas ?_, ownList_nodup h.nodup hsub, fun k hk => h.low k ((hsub.cons_cons fb).subset hk), h.bare⟩, own_same h.out ?_, h.told.same ?_⟩ <;> (intro k hk; exact hs k (by simp [ownList, hk]))

set_option maxHeartbeats 8000000 in
set_option maxRecDepth 100000 in
theorem feed_any (h : FeedAt w fb lim s ov ln dv kv mv tc T) (hgl : Glob w) {N : Nat} (hN : s.Fits N) {A : Option Addr} {cap : Nat} {l : Sp.Bs} (hN2 : N + 3 * l.length + 3 ≤ 1000000000)
    (hrow : RowAt w A (bytesV l)) (hA : ∀ a, A = some a → a.block ∉ fb :: ownList T ov ln dv kv mv) :
    Calls Tryz.prog 35 #[.pointer (some ⟨fb, 0, none⟩), .slice A l.length cap] w (FeedPost w fb lim s l (ownList T ov ln dv kv mv)) := by
  have hlow := h.low
  have hstart : FeedLoop w fb lim s l (ownList T ov ln dv kv mv) 0 w := ⟨⟨ov, ln, dv, kv, mv, tc, T, by simpa [Sp.FeedV.bytes] using h, fun x hx => .inl hx⟩, OnlyIn.refl _ _⟩
  generalize ownList T ov ln dv kv mv = O at hlow hstart hA ⊢
  generalize hR : FeedPost w fb lim s l O = R
  have HS := Lib.hid hstart
  have HLOW := Lib.hid hlow
  have HGL := Lib.hid hgl
  have HN := Lib.hid hN
  have HROW := Lib.hid hrow
  have HA := Lib.hid hA
  have HR := Lib.hid hR
  clear h hstart hlow hgl hN hrow hA hR
  go_enter Tryz.func35, Tryz.ntmps35
  go_wp2_with fail
  go_loopw [10] (fun i wr => ∃ k : Nat, k ≤ l.length ∧ i = .int .i64 k ∧ FeedLoop w fb lim s l O k wr) (fun i _ => l.length - (intOf i).toNat)
  case atStart => exact ⟨0, by omega, rfl, HS.out⟩
  case round =>
    obtain ⟨k, hk, rfl, hloop⟩ := hrel
    obtain ⟨⟨ov1, ln1, dv1, kv1, mv1, tc1, T1, hf, hown⟩, ho⟩ := hloop
    have hglr := HGL.out.onlyIn ho HLOW.out
    have hNst := fits_bytes (lim := lim) (l.take k) HN.out
    have hkl : (l.take k).length ≤ l.length := by rw [List.length_take]; omega
    by_cases hlt : k < l.length
    · obtain ⟨b, hb⟩ : ∃ b, l[k]? = some b := ⟨l[k], by simp [hlt]⟩
      have hrowr := HROW.out.onlyIn ho HA.out
      obtain ⟨g, o, hAe, hcell⟩ : ∃ g o, A = some ⟨g, o, none⟩ ∧ wr.cell? ⟨g, o + k, none⟩ = some (.int .u8 b.toNat) := by
        rcases hrowr with h0 | ⟨g, o, h1, h2, h3⟩
        · have : l = [] := by simpa [bytesV] using h0
          rw [this] at hlt; simp at hlt
        · exact ⟨g, o, h1, h3 _ _ (by simp [bytesV, hb])⟩
      subst hAe
      have hnext := bytes_take_succ lim s hb
      obtain ⟨st, hst⟩ : ∃ st, st = s.bytes lim (l.take k) := ⟨_, rfl⟩
      rw [← hst] at hf hNst hnext
      have h1 := hf.put (s' := { st with taken := st.taken + 1 }) 3 (.int .i64 ((st.taken : Int) + 1)) (by kernel_rfl) rfl rfl rfl rfl rfl rfl
      have ho1 := ho.setCell (g := fb) (.inl (by simp)) 3 (.int .i64 ((st.taken : Int) + 1))
      obtain ⟨fn, hfn, hfs, hcall⟩ := next_any h1 (HGL.out.onlyIn ho1 HLOW.out) (fits_count hNst) (by omega) b
      have hcall2 := hcall.mono (R' := fun e w' => e = .returned (.tuple #[]) ∧ FeedLoop w fb lim s l O (k + 1) w') (fun e w' hp => by
        obtain ⟨he, ov', ln', dv', kv', mv', tc', T', p1, p2, p3⟩ := hp
        refine ⟨he, ⟨ov', ln', dv', kv', mv', tc', T', ?_, fun x hx => ?_⟩, ho1.trans p3 (fun x hx => ?_)⟩
        · rw [hnext]; exact p1
        · rcases p2 x hx with h | h
          · exact hown x h
          · right; have := ho1.size; omega
        · rcases List.mem_cons.1 hx with rfl | hx
          · left; simp
          · rcases hown x hx with h | h
            · left; simp [h]
            · exact .inr h)
      have htk : st.taken ≤ 1000000000 := by have := hNst.taken; omega
      have y1 : _ = some (modeFn fb st.mode) := hf.blk.cell 1
      have y3 : _ = some (Value.int .i64 st.taken) := hf.blk.cell 3
      have g3 := hf.blk.frozen 3
      change modeFn fb st.mode = _ at hfn
      rw [hfn] at y1
      have HC := Lib.hid hcall2
      clear hcall2 hcall h1 ho1 hf hown ho hglr hNst hnext hst hrowr hfn hb hkl
      rcases hfs with rfl | rfl | rfl | rfl
      all_goals
        go_wp2_with (refine HC.out.mono ?_; rintro e w9 ⟨rfl, hfl⟩)
        exact ⟨⟨k + 1, by omega, by go_num, hfl⟩, by show l.length - ((k : Int) + 1).toNat < l.length - (k : Int).toNat; omega⟩
    · obtain rfl : k = l.length := by omega
      rw [List.take_length] at hf
      have hh := hf.handOut
      have hnd := hf.nodup
      have hlw := hf.low
      have hltt := hf.lt
      have y2 : _ = some ov1 := hf.blk.cell 2
      have g2 := hf.blk.frozen 2
      have hfin : R (.returned ov1) (wr.setCell ⟨fb, 2, none⟩ nilRow) := by
        rw [← HR.out]
        exact ⟨ov1, ln1, dv1, kv1, mv1, tc1, T1, rfl, hh.1, hh.2.1, hh.2.2, hnd, fun x hx => ⟨hown x hx, hlw x (List.mem_cons_of_mem _ hx), by have := hltt x (List.mem_cons_of_mem _ hx); simpa [World.setCell] using this⟩, ho.setCell (.inl (by simp)) 2 _⟩
      have HF := Lib.hid hfin
      clear hfin hh hnd hlw hltt hf hown ho hglr hNst hkl
      go_wp2_with fail
      exact HF.out
end
end Go.Proofs.YthgfjafnclklpaaGreatDoor
end
section
namespace Go.Proofs.YthgfjafnclklpaaGreatDoor
attribute [local go_sem ↓] Go.wp_at_zero Go.wp_at_succ
open Go.RowKit

section
variable {w : World} {fb lim : Nat} {s : Sp.FeedV} {ov ln dv kv mv : Value} {tc : List Value} {T : List Nat}

theorem held_any (h : FeedAt w fb lim s ov ln dv kv mv tc T) : Calls Tryz.prog 71 #[.pointer (some ⟨fb, 0, none⟩)] w fun e w' => e = .returned (.int .i64 s.held) ∧ w' = w := by
  have x5 : _ = some (Value.int .i64 s.held) := (h.blk).cell 5
  clear h
  go_enter Tryz.func71, Tryz.ntmps71
  go_wp2
  go_ret
  exact ⟨rfl, rfl⟩

theorem ended_any (h : FeedAt w fb lim s ov ln dv kv mv tc T) : Calls Tryz.prog 73 #[.pointer (some ⟨fb, 0, none⟩)] w fun e w' => e = .returned (.bool s.ended) ∧ w' = w := by
  have x6 : _ = some (Value.bool s.ended) := (h.blk).cell 6
  clear h
  go_enter Tryz.func73, Tryz.ntmps73
  go_wp2
  go_ret
  exact ⟨rfl, rfl⟩

theorem taken_any (h : FeedAt w fb lim s ov ln dv kv mv tc T) : Calls Tryz.prog 75 #[.pointer (some ⟨fb, 0, none⟩)] w fun e w' => e = .returned (.int .i64 s.taken) ∧ w' = w := by
  have x3 : _ = some (Value.int .i64 s.taken) := (h.blk).cell 3
  clear h
  go_enter Tryz.func75, Tryz.ntmps75
  go_wp2
  go_ret
  exact ⟨rfl, rfl⟩

set_option maxHeartbeats 1000000 in
set_option maxRecDepth 100000 in
theorem new_any (w : World) (hg : 8 ≤ w.heap.size) (limit : Int) : Calls Tryz.prog 31 #[.int .i64 limit] w fun e w' =>
    e = .returned (.pointer (some ⟨w.heap.size, 0, none⟩)) ∧ FeedAt w' w.heap.size limit.toNat {} nilRow nilRow nilRow nilRow nilRow [] [] ∧ Below w.heap.size w w' := by
  have hfin : ∀ w', Blk w' w.heap.size 120 (feedCells w.heap.size limit.toNat {} nilRow nilRow nilRow nilRow nilRow) → FeedAt w' w.heap.size limit.toNat {} nilRow nilRow nilRow nilRow nilRow [] [] := fun w' hb =>
    ⟨hb, World.ownsRow_nil _ 0 _ 16, ⟨rfl, rfl⟩, World.ownsRow_nil _ 0 _ 1, World.ownsRow_nil _ 0 _ 1, World.ownsRow_nil _ 0 _ 1, World.ownsRow_nil _ 0 _ 3, by simp [ownList, rowBlock_nil], by simp [ownList, rowBlock_nil]; exact hg, rfl⟩
  have hmf : ∀ (fn : Fn) (first cap : Array Value) (w : World), (Instr.makeFunc fn first cap).run Tryz.prog w = .ok (.func fn first cap) w := fun _ _ _ _ => rfl
  generalize hm : limit.toNat = m at hfin ⊢
  have hmax : max limit 0 = (m : Int) := by omega
  clear hm
  have HF := Lib.hid hfin
  clear hfin
  go_enter Tryz.func31, Tryz.ntmps31
  go_wp2
  go_ret
  exact ⟨rfl, HF.out _ (Blk.new w 120 (feedCells w.heap.size m {} nilRow nilRow nilRow nilRow nilRow)), (Below.refl _ _).alloc (Nat.le_refl _) _⟩
end
end Go.Proofs.YthgfjafnclklpaaGreatDoor
end
