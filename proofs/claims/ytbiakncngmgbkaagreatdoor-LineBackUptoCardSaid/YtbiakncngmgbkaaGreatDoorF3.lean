/- Walks of package line: pass, passing, over. -/
import Derived.Test.YtbiakncngmgbkaaGreatDoorF2
namespace Go.Proofs.YtbiakncngmgbkaaGreatDoor
attribute [local go_sem ↓] Go.wp_at_zero Go.wp_at_succ
open Go.RowKit
attribute [-go_sem] storeVar
attribute [local go_sem] run_store_step storeVar_int' storeVar_bool' storeVar_slice' storeVar_func' canPut_setCell

/-- how the state's function leaves the Feeder -/
def NextPost (w : World) (fb lim : Nat) (s' : Sp.FeedV) (O : List Nat) (e : Ending) (w' : World) : Prop :=
  e = .returned (.tuple #[]) ∧ ∃ ov' ln' dv' kv' mv' tc' T', FeedAt w' fb lim s' ov' ln' dv' kv' mv' tc' T' ∧ (∀ k ∈ ownList T' ov' ln' dv' kv' mv', k ∈ O ∨ w.heap.size ≤ k) ∧ OnlyIn (fb :: O) w w'

theorem DonePost.next {w w1 w' : World} {fb lim : Nat} {s : Sp.FeedV} {t : Sp.StepV} {kt dt mt ov : Value} {T O : List Nat} {e : Ending} (h : DonePost w1 fb lim s t kt dt mt ov T e w') (ho : OnlyIn (fb :: O) w w1)
    (hT : ∀ k ∈ T, k ∈ O ∨ w.heap.size ≤ k) (hov : ∀ k ∈ rowBlock ov, k ∈ O ∨ w.heap.size ≤ k) (hC : ∀ k ∈ cmdBlocks kt dt mt, k ∈ O ∨ w.heap.size ≤ k) : NextPost w fb lim (s.done t) O e w' := by
  obtain ⟨rfl, ov', tc', h1, h2, h3⟩ := h
  refine ⟨rfl, ov', nilRow, nilRow, nilRow, nilRow, tc', _, h1, ?_, ho.trans h3 ?_⟩
  · intro k hk
    simp only [ownList, rowBlock_nil, List.append_nil, List.mem_append] at hk
    rcases hk with (hk | hk) | hk
    · exact hT k hk
    · exact hC k hk
    · rcases h2 k hk with h | h
      · exact hov k h
      · right; have := ho.size; omega
  · intro k hk
    rcases List.mem_cons.1 hk with rfl | hk
    · left; simp
    · rcases hov k hk with h | h
      · left; simp [h]
      · exact .inr h

theorem NextPost.of {w w' : World} {fb lim : Nat} {s' : Sp.FeedV} {ov ln dv kv mv : Value} {tc : List Value} {T O : List Nat} (h : FeedAt w' fb lim s' ov ln dv kv mv tc T) (hO : ∀ k ∈ ownList T ov ln dv kv mv, k ∈ O ∨ w.heap.size ≤ k) (ho : OnlyIn (fb :: O) w w') :
    NextPost w fb lim s' O (.returned (.tuple #[])) w' := ⟨rfl, _, _, _, _, _, _, _, h, hO, ho⟩

theorem NextPost.from {w w1 w' : World} {fb lim : Nat} {s' : Sp.FeedV} {O : List Nat} {e : Ending} (h : NextPost w1 fb lim s' O e w') (ho : OnlyIn (fb :: O) w w1) : NextPost w fb lim s' O e w' := by
  obtain ⟨rfl, ov', ln', dv', kv', mv', tc', T', h1, h2, h3⟩ := h
  refine ⟨rfl, ov', ln', dv', kv', mv', tc', T', h1, fun k hk => ?_, ho.trans h3 (fun k hk => .inl hk)⟩
  rcases h2 k hk with h | h
  · exact .inl h
  · right; have := ho.size; omega

section
variable {w : World} {fb lim : Nat} {s : Sp.FeedV} {ov ln dv kv mv : Value} {tc : List Value} {T : List Nat}

theorem ownList_noLine {k : Nat} (hk : k ∈ ownList T ov nilRow dv kv mv) : k ∈ ownList T ov ln dv kv mv := by
  simp only [ownList, rowBlock_nil, List.nil_append, List.mem_append] at hk ⊢
  rcases hk with hk | hk | hk | hk | hk <;> simp [hk]
theorem ownList_noData {k : Nat} (hk : k ∈ ownList T ov ln nilRow kv mv) : k ∈ ownList T ov ln dv kv mv := by
  simp only [ownList, rowBlock_nil, List.nil_append, List.mem_append] at hk ⊢
  rcases hk with hk | hk | hk | hk | hk <;> simp [hk]

theorem over_any (h : FeedAt w fb lim s ov ln dv kv mv tc T) (b : UInt8) :
    Calls Tryz.prog 93 #[.pointer (some ⟨fb, 0, none⟩), .int .u8 b.toNat] w (NextPost w fb lim s (ownList T ov ln dv kv mv)) := by
  have hp : NextPost w fb lim s (ownList T ov ln dv kv mv) (.returned (.tuple #[])) w := NextPost.of h (fun k hk => .inl hk) (OnlyIn.refl _ _)
  generalize NextPost w fb lim s (ownList T ov ln dv kv mv) = R at hp ⊢
  have HP := Lib.hid hp
  clear hp h
  go_enter Tryz.func93, Tryz.ntmps93
  go_wp2
  go_end0
  exact HP.out

set_option maxHeartbeats 4000000 in
theorem pass_any (h : FeedAt w fb lim s ov ln dv kv mv tc T) (n : Nat) :
    Calls Tryz.prog 78 #[.pointer (some ⟨fb, 0, none⟩), .int .i64 n] w (NextPost w fb lim (s.passTo n) (ownList T ov ln dv kv mv)) := by
  have hp := fun (w' : World) (h' : FeedAt w' fb lim (s.passTo n) ov nilRow dv kv mv tc T) (ho : OnlyIn (fb :: ownList T ov ln dv kv mv) w w') => NextPost.of h' (fun k hk => .inl (ownList_noLine (ln := ln) hk)) ho
  generalize NextPost w fb lim (s.passTo n) (ownList T ov ln dv kv mv) = R at hp ⊢
  have x1 : _ = some (modeFn fb s.mode) := (h.blk).cell 1
  have f1 := (h.blk).frozen 1
  have x5 : _ = some (Value.int .i64 s.held) := (h.blk).cell 5
  have f5 := (h.blk).frozen 5
  have x7 : _ = some (ln) := (h.blk).cell 7
  have f7 := (h.blk).frozen 7
  have x26 : _ = some (Value.int .i64 s.need) := (h.blk).cell 26
  have f26 := (h.blk).frozen 26
  have H := Lib.hid h
  have HP := Lib.hid hp
  clear h hp
  go_enter Tryz.func78, Tryz.ntmps78
  go_wp2
  go_end0
  refine HP.out _ ?_ ?_
  · exact (((H.out.put (s' := { s with need := n }) 26 (.int .i64 n) (by kernel_rfl) rfl rfl rfl rfl rfl rfl).noLine).put (s' := { s with need := n, line := [], held := 0 }) 5 (.int .i64 0) (by kernel_rfl) rfl rfl rfl rfl rfl rfl).put 1 (modeFn fb .passing) (by kernel_rfl) rfl rfl rfl rfl rfl rfl
  · exact ((((OnlyIn.refl _ w).setCell (.inl (by simp)) 26 _).setCell (.inl (by simp)) 7 _).setCell (.inl (by simp)) 5 _).setCell (.inl (by simp)) 1 _

theorem FeedAt.stepMem (h : FeedAt w fb lim s ov ln dv kv mv tc T) : CmdMem w s.step.cmd kv nilRow mv :=
  ⟨h.keys, by rw [h.bare]; exact World.ownsRow_nil w 0 _ 1, h.metas⟩
theorem FeedAt.stepNodup (h : FeedAt w fb lim s ov ln dv kv mv tc T) : (fb :: (T ++ (rowBlock ov ++ cmdBlocks kv nilRow mv))).Nodup := by
  refine ownList_nodup h.nodup ?_
  unfold ownList cmdBlocks
  rw [rowBlock_nil, List.nil_append]
  refine List.Sublist.append_left (List.Sublist.append_left ?_ _) _
  exact List.Sublist.trans (List.Sublist.append_left (List.sublist_append_right _ _) _) (List.sublist_append_right _ _)
theorem FeedAt.dataNodup (h : FeedAt w fb lim s ov ln dv kv mv tc T) : (fb :: (T ++ (rowBlock ov ++ cmdBlocks kv dv mv))).Nodup := by
  refine ownList_nodup h.nodup ?_
  unfold ownList cmdBlocks
  refine List.Sublist.append_left (List.Sublist.append_left ?_ _) _
  exact List.sublist_append_right _ _
theorem stepBlocks_own {k : Nat} (hk : k ∈ cmdBlocks kv nilRow mv) : k ∈ ownList T ov ln dv kv mv := by
  simp only [cmdBlocks, ownList, rowBlock_nil, List.nil_append, List.mem_append] at hk ⊢
  rcases hk with hk | hk <;> simp [hk]
theorem dataBlocks_own {k : Nat} (hk : k ∈ cmdBlocks kv dv mv) : k ∈ ownList T ov ln dv kv mv := by
  simp only [cmdBlocks, ownList, List.mem_append] at hk ⊢
  rcases hk with hk | hk | hk <;> simp [hk]
theorem told_own {k : Nat} (hk : k ∈ T) : k ∈ ownList T ov ln dv kv mv := by simp [ownList, hk]
theorem out_own {k : Nat} (hk : k ∈ rowBlock ov) : k ∈ ownList T ov ln dv kv mv := by simp [ownList, hk]

/-- the step at hand is told -/
theorem done_step (h : FeedAt w fb lim s ov ln dv kv mv tc T) {N : Nat} (hN : s.Fits N) (hN2 : N ≤ 1000000000) (hg : 8 ≤ w.heap.size) {w0 : World} (ho : OnlyIn (fb :: ownList T ov ln dv kv mv) w0 w) :
    Calls Tryz.prog 77 #[.pointer (some ⟨fb, 0, none⟩), stepV s.step kv nilRow mv] w (NextPost w0 fb lim (s.done s.step) (ownList T ov ln dv kv mv)) :=
  (done_any h hN hN2 s.step h.stepMem h.stepNodup (fun k hk => h.low k (List.mem_cons_of_mem _ (stepBlocks_own hk))) hg).mono fun _ _ hd =>
    hd.next ho (fun _ hk => .inl (told_own hk)) (fun _ hk => .inl (out_own hk)) (fun _ hk => .inl (stepBlocks_own hk))

theorem byte_ne {b : UInt8} (n : Nat) (_ : n < 256) (h : ¬ b = UInt8.ofNat n) : ((b.toNat : Int) == (n : Int)) = false := by
  have h2 : b.toNat ≠ n := fun e => h (by rw [← e]; simp)
  simp
  omega

set_option maxHeartbeats 4000000 in
set_option maxRecDepth 100000 in
theorem passing_any (h : FeedAt w fb lim s ov ln dv kv mv tc T) {N : Nat} (hN : s.Fits N) (hN2 : N + 1 ≤ 1000000000) (hg : 8 ≤ w.heap.size) (b : UInt8) :
    Calls Tryz.prog 94 #[.pointer (some ⟨fb, 0, none⟩), .int .u8 b.toNat] w (NextPost w fb lim (s.passing b) (ownList T ov ln dv kv mv)) := by
  have h1 : FeedAt (w.setCell ⟨fb, 27, none⟩ (.int .i64 ((s.got : Int) + 1))) fb lim { s with got := s.got + 1 } ov ln dv kv mv tc T := h.put 27 _ (by kernel_rfl) rfl rfl rfl rfl rfl rfl
  have ho1 : OnlyIn (fb :: ownList T ov ln dv kv mv) w (w.setCell ⟨fb, 27, none⟩ (.int .i64 ((s.got : Int) + 1))) := (OnlyIn.refl _ w).setCell (.inl (by simp)) 27 _
  have hN1 : ({ s with got := s.got + 1 } : Sp.FeedV).Fits (N + 1) := fits_got hN
  have hgot := hN.got
  have hneed := hN.need
  have hsz : (w.setCell ⟨fb, 27, none⟩ (.int .i64 ((s.got : Int) + 1))).heap.size = w.heap.size := by simp [World.setCell]
  have x26 : _ = some (Value.int .i64 s.need) := (h.blk).cell 26
  have f26 := (h.blk).frozen 26
  have x27 : _ = some (Value.int .i64 s.got) := (h.blk).cell 27
  have f27 := (h.blk).frozen 27
  by_cases hc : s.need < s.got + 1 ∧ b = 10
  · obtain ⟨hc1, rfl⟩ := hc
    have hs : s.passing 10 = ({ s with got := s.got + 1 } : Sp.FeedV).done s.step := by unfold Sp.FeedV.passing; rw [if_pos ⟨hc1, rfl⟩]
    have hd := fun (W : World) (hb : Below (w.setCell ⟨fb, 27, none⟩ (.int .i64 ((s.got : Int) + 1))).heap.size (w.setCell ⟨fb, 27, none⟩ (.int .i64 ((s.got : Int) + 1))) W) =>
      (done_step (h1.later hb) hN1 hN2 (by have := hb.size; omega) (ho1.later hb)).mono fun e w' h => And.intro h.1 h
    rw [hs]
    generalize NextPost w fb lim (({ s with got := s.got + 1 } : Sp.FeedV).done s.step) (ownList T ov ln dv kv mv) = R at hd ⊢
    have hc2 : (s.need : Int) < (s.got : Int) + 1 := by omega
    have HD := Lib.hid hd
    have H1 := Lib.hid h1
    clear hd h1 ho1 hs h hN hN1 hsz
    go_enter Tryz.func94, Tryz.ntmps94
    go_upto_region 1 with (fail)
    go_cut [23] (fun q wx => q = .bool true ∧ Below (w.setCell ⟨fb, 27, none⟩ (.int .i64 ((s.got : Int) + 1))).heap.size (w.setCell ⟨fb, 27, none⟩ (.int .i64 ((s.got : Int) + 1))) wx)
    case first =>
      go_region
      all_goals (go_wp2_with fail; go_meet)
      all_goals exact ⟨rfl, (Below.refl _ _).drew⟩
    case rest =>
      obtain ⟨rfl, hb⟩ := hcut
      have y9 : _ = some (Value.int .i64 s.step.cmd.verb) := ((H1.out.later hb).blk).cell 9
      have g9 := ((H1.out.later hb).blk).frozen 9
      have y10 : _ = some (kv) := ((H1.out.later hb).blk).cell 10
      have g10 := ((H1.out.later hb).blk).frozen 10
      have y11 : _ = some (Value.int .u64 s.step.cmd.flags) := ((H1.out.later hb).blk).cell 11
      have g11 := ((H1.out.later hb).blk).frozen 11
      have y12 : _ = some (Value.int .i64 s.step.cmd.exptime) := ((H1.out.later hb).blk).cell 12
      have g12 := ((H1.out.later hb).blk).frozen 12
      have y13 : _ = some (Value.int .u64 s.step.cmd.token) := ((H1.out.later hb).blk).cell 13
      have g13 := ((H1.out.later hb).blk).frozen 13
      have y14 : _ = some (Value.int .u64 s.step.cmd.delta) := ((H1.out.later hb).blk).cell 14
      have g14 := ((H1.out.later hb).blk).frozen 14
      have y15 : _ = some (nilRow) := ((H1.out.later hb).blk).cell 15
      have g15 := ((H1.out.later hb).blk).frozen 15
      have y16 : _ = some (Value.bool s.step.cmd.noreply) := ((H1.out.later hb).blk).cell 16
      have g16 := ((H1.out.later hb).blk).frozen 16
      have y17 : _ = some (Value.bool s.step.cmd.large) := ((H1.out.later hb).blk).cell 17
      have g17 := ((H1.out.later hb).blk).frozen 17
      have y18 : _ = some (mv) := ((H1.out.later hb).blk).cell 18
      have g18 := ((H1.out.later hb).blk).frozen 18
      have y19 : _ = some (str s.step.cmd.what) := ((H1.out.later hb).blk).cell 19
      have g19 := ((H1.out.later hb).blk).frozen 19
      have y20 : _ = some (Value.int .i64 s.step.wrong.kind) := ((H1.out.later hb).blk).cell 20
      have g20 := ((H1.out.later hb).blk).frozen 20
      have y21 : _ = some (str s.step.wrong.text) := ((H1.out.later hb).blk).cell 21
      have g21 := ((H1.out.later hb).blk).frozen 21
      have y22 : _ = some (Value.int .i64 s.step.wrong.pass) := ((H1.out.later hb).blk).cell 22
      have g22 := ((H1.out.later hb).blk).frozen 22
      have y23 : _ = some (Value.int .i64 s.step.frm) := ((H1.out.later hb).blk).cell 23
      have g23 := ((H1.out.later hb).blk).frozen 23
      have y24 : _ = some (Value.int .i64 s.step.to) := ((H1.out.later hb).blk).cell 24
      have g24 := ((H1.out.later hb).blk).frozen 24
      have HB := Lib.hid hb
      clear hb x26 x27 f26 f27
      go_wp2_with (refine (HD.out _ HB.out).mono ?_; rintro e w9 ⟨rfl, hR⟩)
      go_end0
      exact hR
  · have hs : s.passing b = { s with got := s.got + 1 } := by unfold Sp.FeedV.passing; rw [if_neg hc]
    have hd : NextPost w fb lim (s.passing b) (ownList T ov ln dv kv mv) (.returned (.tuple #[])) (w.setCell ⟨fb, 27, none⟩ (.int .i64 ((s.got : Int) + 1))).drew := by
      rw [hs]
      exact NextPost.of (h1.later (Below.refl _ _).drew) (fun k hk => .inl hk) (ho1.later (Below.refl _ _).drew)
    generalize NextPost w fb lim (s.passing b) (ownList T ov ln dv kv mv) = R at hd ⊢
    have HD := Lib.hid hd
    clear hd h1 ho1 hs h hN hN1 hsz
    by_cases hc1 : s.need < s.got + 1
    · have hb := byte_ne (b := b) 10 (by omega) (fun e => hc ⟨hc1, e⟩)
      have hc2 : (s.need : Int) < (s.got : Int) + 1 := by omega
      go_enter Tryz.func94, Tryz.ntmps94
      go_upto_region 1 with (fail)
      go_region
      all_goals (go_wp2; go_end0; exact HD.out)
    · have hc2 : ¬ (s.need : Int) < (s.got : Int) + 1 := by omega
      go_enter Tryz.func94, Tryz.ntmps94
      go_upto_region 1 with (fail)
      go_region
      all_goals (go_wp2; go_end0; exact HD.out)
end
end Go.Proofs.YtbiakncngmgbkaaGreatDoor
