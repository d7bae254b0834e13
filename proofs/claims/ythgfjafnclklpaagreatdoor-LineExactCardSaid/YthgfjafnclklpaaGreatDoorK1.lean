/- Walk of the statements' helper wakes: a command that comes in three chunks. -/
import Derived.Test.YthgfjafnclklpaaGreatDoorQ49
import Derived.Test.YthgfjafnclklpaaGreatDoorQ49
import Derived.Test.YthgfjafnclklpaaGreatDoorFd
import Derived.Lib.SlBytesConst
namespace Go.Proofs.YthgfjafnclklpaaGreatDoor
attribute [local go_sem ↓] Go.wp_at_zero Go.wp_at_succ
open Go.RowKit

theorem own_len {w : World} {base : Nat} {e : TypeId} {size n : Nat} {v : Value} {xs : List Value} (h : w.ownsRow base e size v n xs) : ∃ p c, v = .slice p n c := by
  rcases h.2 with ⟨rfl, rfl⟩ | ⟨g, cap, cur, rfl, _⟩
  · exact ⟨_, _, rfl⟩
  · exact ⟨_, _, rfl⟩

/-- a Feeder whose rows lie from lo on; of what lay below lo in w0 nothing is changed but the Feeder's own block -/
structure MadeAt (w0 : World) (lo fb lim : Nat) (s : Sp.FeedV) (wx : World) : Prop where
  feed : ∃ ln dv kv mv, FeedAt wx fb lim s nilRow ln dv kv mv [] [] ∧ ∀ k ∈ ownList [] nilRow ln dv kv mv, lo ≤ k
  high : lo ≤ wx.heap.size
  only : Only fb lo w0 wx

theorem MadeAt.later {w0 wx wy : World} {lo fb lim : Nat} {s : Sp.FeedV} (h : MadeAt w0 lo fb lim s wx) (hb : Below wx.heap.size wx wy) : MadeAt w0 lo fb lim s wy := by
  obtain ⟨⟨ln, dv, kv, mv, h1, h2⟩, h3, h4⟩ := h
  exact ⟨⟨ln, dv, kv, mv, h1.later hb, h2⟩, Nat.le_trans h3 hb.size, h4.later hb h3⟩

/-- Feed of a chunk that lies apart from the Feeder -/
theorem made_feed {w0 w1 wx : World} {lo fb lim : Nat} {s : Sp.FeedV} (h : MadeAt w0 lo fb lim s w1) (hb : Below w1.heap.size w1 wx) (hg : Glob w1) {N : Nat} (hN : s.Fits N) {A : Option Addr} {cap : Nat} {l : Sp.Bs} (hN2 : N + 3 * l.length + 3 ≤ 1000000000)
    (hrow : RowAt wx A (bytesV l)) (hA : ∀ a, A = some a → (a.block < lo ∧ a.block ≠ fb) ∨ w1.heap.size ≤ a.block) :
    Calls Tryz.prog 35 #[.pointer (some ⟨fb, 0, none⟩), .slice A l.length cap] wx fun e w' => ∃ p c tc T, e = .returned (.slice p (s.told lim l).length c) ∧ MadeAt w0 lo fb lim (s.feed lim l) w' ∧
      w'.ownsRow lo 99 16 (.slice p (s.told lim l).length c) (s.told lim l).length tc ∧ StepsMem w' (s.told lim l) tc T ∧ wx.heap.size ≤ w'.heap.size ∧ Glob w' := by
  obtain ⟨⟨ln, dv, kv, mv, h1, h2⟩, h3, h4⟩ := h
  have hlt := h1.lt
  refine (feed_any (h1.later hb) (hg.later hb) hN hN2 hrow (fun a ha hm => ?_)).mono ?_
  · rcases hA a ha with h | h
    · rcases List.mem_cons.1 hm with e | hm
      · exact h.2 e
      · have := h2 _ hm; omega
    · have := hlt _ hm; omega
  · rintro e w' ⟨ov, ln', dv', kv', mv', tc, T, rfl, f1, f2, f3, f4, f5, f6⟩
    obtain ⟨p, c, rfl⟩ := own_len f2
    have hge : ∀ k ∈ ownList T (.slice p (s.told lim l).length c) ln' dv' kv' mv', lo ≤ k := fun k hk => by
      rcases (f5 k hk).1 with h | h
      · exact h2 k h
      · have := hb.size; omega
    refine ⟨p, c, tc, T, rfl, ⟨⟨ln', dv', kv', mv', f1, fun k hk => hge k ?_⟩, Nat.le_trans h3 (Nat.le_trans hb.size f6.size), ?_⟩, own_base f2 (fun k hk => hge k ?_), f3, f6.size, (hg.later hb).onlyIn f6 h1.low⟩
    · simp only [ownList, rowBlock_nil, List.nil_append] at hk ⊢
      exact List.mem_append_right _ (List.mem_append_right _ hk)
    · refine (h4.later hb h3).trans ⟨f6.os, f6.tape, f6.output, f6.size, fun k hk hn => f6.block k (by have := hb.size; omega) (fun hm => ?_)⟩
      rcases List.mem_cons.1 hm with e | hm
      · exact hn e
      · have := h2 k hm; omega
    · exact List.mem_append_right _ (List.mem_append_left _ (mem_rowBlock.2 hk))

/-- the chunks of wakes -/
def wk1 : Sp.Bs := [115, 101, 116, 32, 97, 32, 48, 32, 48, 32, 49, 13, 10, 120]
def wkS1 : Sp.FeedV := ({} : Sp.FeedV).feed 9 wk1
def wkS2 : Sp.FeedV := wkS1.feed 9 [13]
def wkS3 : Sp.FeedV := wkS2.feed 9 [10]
theorem wk_told1 : ({} : Sp.FeedV).told 9 wk1 = [] := by decide
theorem wk_told2 : wkS1.told 9 [13] = [] := by decide
theorem wk_told3 : wkS2.told 9 [10] = [Sp.StepV.span { cmd := { verb := 5, keys := [[97]], data := [120] } } 0 16] := by decide
theorem wk_held1 : wkS1.held = 14 := by decide
theorem wk_end : wkS3.held = 0 ∧ wkS3.taken = 16 ∧ wkS3.ended = false := by decide

theorem fits_new : ({} : Sp.FeedV).Fits 0 := ⟨by decide, by decide, by decide, by decide, by decide, by decide, by decide, by decide⟩
theorem fits_feed {lim : Nat} {s : Sp.FeedV} {N : Nat} (h : s.Fits N) (l : Sp.Bs) : (s.feed lim l).Fits (N + 3 * l.length) := by
  have := fits_bytes (lim := lim) l h
  exact ⟨this.taken, this.frm, this.held, this.line, this.data, this.got, Nat.zero_le _, this.need⟩

/-- Feed of a chunk that was laid just now -/
theorem chunk_feed {w0 w1 : World} {lo fb lim : Nat} {s : Sp.FeedV} (h : MadeAt w0 lo fb lim s w1) (hg : Glob w1) {N : Nat} (hN : s.Fits N) (l : Sp.Bs) (hN2 : N + 3 * l.length + 3 ≤ 1000000000) {n : Nat} (hn : l.length = n) {cs : Array Value} (hcs : (bytesV l).toArray = cs) {told : List Sp.StepV} (ht : s.told lim l = told) {s' : Sp.FeedV} (hs : s.feed lim l = s') (fz : Nat × Nat) :
    Calls Tryz.prog 35 #[.pointer (some ⟨fb, 0, none⟩), .slice (some ⟨w1.heap.size, 0, none⟩) n n] (w1.alloc (.cells cs 5 fz)) fun e w' => ∃ p c tc T, e = .returned (.slice p told.length c) ∧ MadeAt w0 lo fb lim s' w' ∧
      w'.ownsRow lo 99 16 (.slice p told.length c) told.length tc ∧ StepsMem w' told tc T ∧ Glob w' := by
  subst hn; subst hcs; subst ht; subst hs
  have hb : Below w1.heap.size w1 (w1.alloc (.cells (bytesV l).toArray 5 fz)) := (Below.refl _ _).alloc (Nat.le_refl _) _
  have hrow : RowAt (w1.alloc (.cells (bytesV l).toArray 5 fz)) (some ⟨w1.heap.size, 0, none⟩) (bytesV l) := by
    have hbk := heap_alloc_new w1 (.cells (bytesV l).toArray 5 fz)
    refine .inr ⟨_, _, rfl, by simp, fun j u hu => ?_⟩
    rw [Nat.zero_add]
    unfold World.cell?
    rw [hbk]
    simpa using hu
  have hm := made_feed (cap := l.length) h hb hg hN hN2 hrow (fun a ha => by injection ha with ha; subst ha; exact .inr (Nat.le_refl _))
  refine hm.mono ?_
  rintro e w' ⟨p, c, tc, T, rfl, m1, m2, m3, m4, m5⟩
  exact ⟨p, c, tc, T, rfl, m1, m2, m3, m5⟩

set_option maxHeartbeats 8000000 in
set_option maxRecDepth 100000 in
theorem wakes_any {w : World} (hg : Glob w) : Calls Tryz.prog 38 #[] w fun e w' => e = .returned (.bool true) ∧ Below w.heap.size w w' := by
  have hn := new_any w hg.size 9
  generalize hR : (fun (e : Ending) (w' : World) => e = .returned (.bool true) ∧ Below w.heap.size w w') = R
  have HR := Lib.hid hR
  have HN := Lib.hid hn
  have HG := Lib.hid hg
  have kc := fun (w : World) (C : Array Value) (n c : Nat) => Lib.run_convert_bytes_const (P := Tryz.prog) w 35 5 C n c Tryz.underlying35 Tryz.underlying5
  clear hR hn hg
  go_enter Tryz.func38, Tryz.ntmps38
  go_upto_region 4 with (refine HN.out.mono ?_; rintro e w1 ⟨rfl, hf, hb1⟩; have hm1 : MadeAt w1 w1.heap.size w.heap.size 9 {} w1 := ⟨⟨_, _, _, _, hf, by simp [ownList, rowBlock_nil]⟩, Nat.le_refl _, Only.refl _ _ _⟩; have HM1 := Lib.hid hm1; have hg1 := HG.out.later hb1; have HG1 := Lib.hid hg1; have HB1 := Lib.hid hb1; clear hf hb1 hm1 hg1)
  have hc1 := chunk_feed HM1.out HG1.out fits_new wk1 (by decide) (n := 14) rfl (cs := #[.int .u8 115, .int .u8 101, .int .u8 116, .int .u8 32, .int .u8 97, .int .u8 32, .int .u8 48, .int .u8 32, .int .u8 48, .int .u8 32, .int .u8 49, .int .u8 13, .int .u8 10, .int .u8 120]) (by rfl) wk_told1 (s' := wkS1) rfl (14, 14 + 1)
  have HC1 := Lib.hid hc1
  clear hc1
  go_wp2_with fail
  refine HC1.out.mono ?_
  rintro e w2 ⟨p2, c2, tc2, T2, rfl, hm2, -, -, hg2⟩
  have HM2 := Lib.hid hm2; have HG2 := Lib.hid hg2; clear hm2 hg2
  go_upto_region 5 with (fail)
  have hh2 : Calls Tryz.prog 71 #[.pointer (some ⟨w.heap.size, 0, none⟩)] w2 fun e w' => e = .returned (.int .i64 14) ∧ w2 = w' := by
    obtain ⟨⟨ln, dv, kv, mv, h1, _⟩, _, _⟩ := HM2.out
    refine (held_any h1).mono ?_
    rintro e w' ⟨rfl, rfl⟩
    exact ⟨by rw [wk_held1]; rfl, rfl⟩
  have HH2 := Lib.hid hh2
  clear hh2
  go_wp2_with fail
  refine HH2.out.mono ?_
  rintro e w' ⟨rfl, rfl⟩
  go_upto_region 6 with (fail)
  have hc2 := chunk_feed HM2.out HG2.out (fits_feed fits_new wk1) [13] (by decide) (n := 1) rfl (cs := #[.int .u8 13]) (by rfl) wk_told2 (s' := wkS2) rfl (0, 0)
  have HC2 := Lib.hid hc2
  clear hc2
  go_wp2_with fail
  refine HC2.out.mono ?_
  rintro e w3 ⟨p3, c3, tc3, T3, rfl, hm3, -, -, hg3⟩; have HM3 := Lib.hid hm3; have HG3 := Lib.hid hg3; clear hm3 hg3
  go_upto_region 7 with (fail)
  have hc3 := chunk_feed HM3.out HG3.out (fits_feed (fits_feed fits_new wk1) [13]) [10] (by decide) (n := 1) rfl (cs := #[.int .u8 10]) (by rfl) wk_told3 (s' := wkS3) rfl (0, 0)
  have HC3 := Lib.hid hc3
  clear hc3
  go_wp2_with fail
  refine HC3.out.mono ?_
  rintro e w4 ⟨p4, c4, tc4, T4, rfl, hm4, hown4, hst4, hg4⟩
  have HM4 := Lib.hid hm4; have HG4 := Lib.hid hg4; have HO4 := Lib.hid hown4; have HS4 := Lib.hid hst4; clear hm4 hg4 hown4 hst4
  go_upto_region 8 with (fail)
  have hend : (Calls Tryz.prog 71 #[.pointer (some ⟨w.heap.size, 0, none⟩)] w4 fun e w' => e = .returned (.int .i64 0) ∧ w4 = w') ∧
      (Calls Tryz.prog 75 #[.pointer (some ⟨w.heap.size, 0, none⟩)] w4 fun e w' => e = .returned (.int .i64 16) ∧ w4 = w') ∧
      (Calls Tryz.prog 73 #[.pointer (some ⟨w.heap.size, 0, none⟩)] w4 fun e w' => e = .returned (.bool false) ∧ w4 = w') := by
    obtain ⟨⟨ln, dv, kv, mv, h1, _⟩, _, _⟩ := HM4.out
    refine ⟨(held_any h1).mono ?_, (taken_any h1).mono ?_, (ended_any h1).mono ?_⟩
    · rintro e w' ⟨rfl, rfl⟩
      exact ⟨by rw [wk_end.1]; rfl, rfl⟩
    · rintro e w' ⟨rfl, rfl⟩
      exact ⟨by rw [wk_end.2.1]; rfl, rfl⟩
    · rintro e w' ⟨rfl, rfl⟩
      exact ⟨by rw [wk_end.2.2], rfl⟩
  have HE := Lib.hid hend
  clear hend
  go_wp2_with fail
  refine HE.out.1.mono ?_
  rintro e w' ⟨rfl, rfl⟩
  go_wp2_with fail
  refine HE.out.2.1.mono ?_
  rintro e w' ⟨rfl, rfl⟩
  go_wp2_with fail
  refine HE.out.2.2.mono ?_
  rintro e w' ⟨rfl, rfl⟩
  go_upto_region 10 with (fail)
  obtain ⟨kv, dv, mv, cs', bl', hcs, -, hmem, hrest⟩ := HS4.out
  obtain ⟨rfl, -⟩ := hrest
  rw [List.append_nil] at hcs
  have hown := HO4.out
  obtain ⟨g, cap, hv, -, -⟩ := World.ownsRow.form hown (by decide)
  injection hv with hv1 _ hv3
  subst hv1
  have hrow := RowAt.of_own hown
  rw [hcs] at hrow
  obtain ⟨q, dc, rfl⟩ := own_len hmem.data
  have hcv := run_bytes_str (cap := dc) (RowAt.of_own hmem.data)
  change (convert 35 9 (.slice q 1 dc)).run Tryz.prog w4 = .ok (.string ⟨#[120]⟩) w4 at hcv
  have hcell : ∀ (j : Nat) (u : Value), (stepCells (Sp.StepV.span { cmd := { verb := 5, keys := [[97]], data := [120] } } 0 16) kv (.slice q 1 dc) mv)[j]? = some u → w4.cell? ⟨g, 0 + j, none⟩ = some u := by
    rcases hrow with h0 | ⟨b, o, h1, h2, h3⟩
    · cases h0
    · injection h1 with h1; injection h1 with e1 e2
      subst e1; subst e2
      exact h3
  have y0 : w4.cell? ⟨g, 0, none⟩ = some (.int .i64 5) := hcell 0 _ rfl
  have y6 : w4.cell? ⟨g, 6, none⟩ = some (.slice q 1 dc) := by have := hcell 6 _ rfl; simpa using this
  have y14 : w4.cell? ⟨g, 14, none⟩ = some (.int .i64 0) := by have := hcell 14 (.int .i64 0) rfl; rwa [Nat.zero_add] at this
  have y15 : w4.cell? ⟨g, 15, none⟩ = some (.int .i64 16) := by have := hcell 15 (.int .i64 16) rfl; rwa [Nat.zero_add] at this
  have hfin : R (.returned (.bool true)) w4 := by
    rw [← HR.out]
    exact ⟨rfl, HB1.out.trans (HM4.out.only.below HB1.out.size (Nat.le_refl _))⟩
  have HF := Lib.hid hfin
  clear hfin hown hmem hrow hcell hcs
  go_wp2_with fail
  exact HF.out
end Go.Proofs.YthgfjafnclklpaaGreatDoor
