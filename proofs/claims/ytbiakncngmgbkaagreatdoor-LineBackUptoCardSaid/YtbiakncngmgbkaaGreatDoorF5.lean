/- Walks of package line: blockEnds, inBlock. -/
import Derived.Test.YtbiakncngmgbkaaGreatDoorF4
namespace Go.Proofs.YtbiakncngmgbkaaGreatDoor
attribute [local go_sem ↓] Go.wp_at_zero Go.wp_at_succ
open Go.RowKit

attribute [-go_sem] storeVar
attribute [local go_sem] run_store_step run_store_stepNew run_store_stepDrew storeVar_int' storeVar_bool' storeVar_slice' storeVar_func' canPut_setCell canPut_drew'

section
variable {w : World} {fb lim : Nat} {s : Sp.FeedV} {ov ln dv kv mv : Value} {tc : List Value} {T : List Nat}

/-- what is handed to done -/
structure EndMid (w : World) (t : Sp.StepV) (kt dt mt : Value) (wx : World) : Prop where
  sblk : Blk wx w.heap.size 61 (stepArr t kt dt mt)
  only : Below w.heap.size w wx

set_option maxHeartbeats 4000000 in
set_option maxRecDepth 100000 in
theorem blockEnds_any (h : FeedAt w fb lim s ov ln dv kv mv tc T) {N : Nat} (hN : s.Fits N) (hN2 : N ≤ 1000000000) (hg : 8 ≤ w.heap.size) :
    Calls Tryz.prog 95 #[.pointer (some ⟨fb, 0, none⟩)] w (NextPost w fb lim s.blockEnds (ownList T ov ln dv kv mv)) := by
  obtain ⟨k1, k2, k3, hkv⟩ := own_slice h.keys
  obtain ⟨m1, m2, m3, hmv⟩ := own_slice h.metas
  obtain ⟨d1, d2, d3, hdv⟩ := own_slice h.data
  have hgot := hN.got
  have hneed := hN.need
  have hlt := h.blk.lt
  have hd := fun (t : Sp.StepV) (kt dt mt : Value) (ht : CmdMem w t.cmd kt dt mt) (hnd : (fb :: (T ++ (rowBlock ov ++ cmdBlocks kt dt mt))).Nodup) (hin : ∀ k ∈ cmdBlocks kt dt mt, k ∈ ownList T ov ln dv kv mv) (W : World) (hb : Below w.heap.size w W) =>
    (done_any (h.later hb) hN hN2 t (ht.same fun k hk => hb.block k (ht.lt k hk)) hnd (fun k hk => h.low k (List.mem_cons_of_mem _ (hin k hk))) (Nat.le_trans hg hb.size)).mono fun e w' hp =>
      And.intro hp.1 (hp.next (OnlyIn.of hb (fb :: ownList T ov ln dv kv mv)) (fun k hk => .inl (told_own hk)) (fun k hk => .inl (out_own hk)) (fun k hk => .inl (hin k hk)))
  by_cases hc : s.good = true ∧ s.got = s.need + 2
  · have hs : s.blockEnds = s.done { s.step with cmd := { s.step.cmd with data := s.data } } := by unfold Sp.FeedV.blockEnds; rw [if_pos hc]
    rw [hs]
    have hd1 := hd { s.step with cmd := { s.step.cmd with data := s.data } } kv dv mv ⟨h.keys, h.data, h.metas⟩ h.dataNodup (fun k hk => dataBlocks_own hk)
    generalize NextPost w fb lim (s.done { s.step with cmd := { s.step.cmd with data := s.data } }) (ownList T ov ln dv kv mv) = R at hd1 ⊢
    clear hd hs
    obtain ⟨hgood, hgn⟩ := hc
    have hgn2 : ((s.got : Int) == (s.need : Int) + 2) = true := by simp; omega
    subst hkv; subst hmv; subst hdv
    have x9 : _ = some (Value.int .i64 s.step.cmd.verb) := (h.blk).cell 9
    have x10 : _ = some (Value.slice k1 k2 k3) := (h.blk).cell 10
    have x11 : _ = some (Value.int .u64 s.step.cmd.flags) := (h.blk).cell 11
    have x12 : _ = some (Value.int .i64 s.step.cmd.exptime) := (h.blk).cell 12
    have x13 : _ = some (Value.int .u64 s.step.cmd.token) := (h.blk).cell 13
    have x14 : _ = some (Value.int .u64 s.step.cmd.delta) := (h.blk).cell 14
    have x15 : _ = some (nilRow) := (h.blk).cell 15
    have x16 : _ = some (Value.bool s.step.cmd.noreply) := (h.blk).cell 16
    have x17 : _ = some (Value.bool s.step.cmd.large) := (h.blk).cell 17
    have x18 : _ = some (Value.slice m1 m2 m3) := (h.blk).cell 18
    have x19 : _ = some (str s.step.cmd.what) := (h.blk).cell 19
    have x20 : _ = some (Value.int .i64 s.step.wrong.kind) := (h.blk).cell 20
    have x21 : _ = some (str s.step.wrong.text) := (h.blk).cell 21
    have x22 : _ = some (Value.int .i64 s.step.wrong.pass) := (h.blk).cell 22
    have x23 : _ = some (Value.int .i64 s.step.frm) := (h.blk).cell 23
    have x24 : _ = some (Value.int .i64 s.step.to) := (h.blk).cell 24
    have x25 : _ = some (Value.slice d1 d2 d3) := (h.blk).cell 25
    have x26 : _ = some (Value.int .i64 s.need) := (h.blk).cell 26
    have x27 : _ = some (Value.int .i64 s.got) := (h.blk).cell 27
    have x28 : _ = some (Value.bool s.good) := (h.blk).cell 28
    rw [hgood] at x28
    have HD := Lib.hid hd1
    clear hd1 h hN hgn hgood
    go_enter Tryz.func95, Tryz.ntmps95
    go_upto_region 4 with (go_region)
    all_goals
      go_wp2_with (refine (HD.out _ (((Below.refl _ _).alloc (Nat.le_refl _) _).drew)).mono ?_; rintro e w9 ⟨rfl, hR⟩)
      go_end0
      exact hR
  · have hs : s.blockEnds = s.done { wrong := ⟨2, Sp.badChunk, -1⟩ } := by unfold Sp.FeedV.blockEnds; rw [if_neg hc]
    rw [hs]
    have hd1 := hd { wrong := ⟨2, Sp.badChunk, -1⟩ } nilRow nilRow nilRow (CmdMem.zero w) (by
      refine ownList_nodup h.nodup ?_
      unfold ownList cmdBlocks
      rw [rowBlock_nil]
      exact List.Sublist.append_left (List.Sublist.append_left (List.nil_sublist _) _) _) (by simp [cmdBlocks, rowBlock_nil])
    generalize NextPost w fb lim (s.done { wrong := ⟨2, Sp.badChunk, -1⟩ }) (ownList T ov ln dv kv mv) = R at hd1 ⊢
    clear hd hs
    subst hkv; subst hmv; subst hdv
    have x9 : _ = some (Value.int .i64 s.step.cmd.verb) := (h.blk).cell 9
    have x10 : _ = some (Value.slice k1 k2 k3) := (h.blk).cell 10
    have x11 : _ = some (Value.int .u64 s.step.cmd.flags) := (h.blk).cell 11
    have x12 : _ = some (Value.int .i64 s.step.cmd.exptime) := (h.blk).cell 12
    have x13 : _ = some (Value.int .u64 s.step.cmd.token) := (h.blk).cell 13
    have x14 : _ = some (Value.int .u64 s.step.cmd.delta) := (h.blk).cell 14
    have x15 : _ = some (nilRow) := (h.blk).cell 15
    have x16 : _ = some (Value.bool s.step.cmd.noreply) := (h.blk).cell 16
    have x17 : _ = some (Value.bool s.step.cmd.large) := (h.blk).cell 17
    have x18 : _ = some (Value.slice m1 m2 m3) := (h.blk).cell 18
    have x19 : _ = some (str s.step.cmd.what) := (h.blk).cell 19
    have x20 : _ = some (Value.int .i64 s.step.wrong.kind) := (h.blk).cell 20
    have x21 : _ = some (str s.step.wrong.text) := (h.blk).cell 21
    have x22 : _ = some (Value.int .i64 s.step.wrong.pass) := (h.blk).cell 22
    have x23 : _ = some (Value.int .i64 s.step.frm) := (h.blk).cell 23
    have x24 : _ = some (Value.int .i64 s.step.to) := (h.blk).cell 24
    have x25 : _ = some (Value.slice d1 d2 d3) := (h.blk).cell 25
    have x26 : _ = some (Value.int .i64 s.need) := (h.blk).cell 26
    have x27 : _ = some (Value.int .i64 s.got) := (h.blk).cell 27
    have x28 : _ = some (Value.bool s.good) := (h.blk).cell 28
    have HD := Lib.hid hd1
    clear hd1 h hN
    cases hgood : s.good with
    | true =>
      have hgn2 : ((s.got : Int) == (s.need : Int) + 2) = false := by
        have : ¬ s.got = s.need + 2 := fun e => hc ⟨hgood, e⟩
        simp; omega
      rw [hgood] at x28
      clear hc
      go_enter Tryz.func95, Tryz.ntmps95
      go_upto_region 4 with (go_region)
      all_goals
        go_wp2_with (refine (HD.out _ (((Below.refl _ _).alloc (Nat.le_refl _) _).drew)).mono ?_; rintro e w9 ⟨rfl, hR⟩)
        go_end0
        exact hR
    | false =>
      rw [hgood] at x28
      clear hc
      go_enter Tryz.func95, Tryz.ntmps95
      go_upto_region 4 with (go_region)
      all_goals
        go_wp2_with (refine (HD.out _ (((Below.refl _ _).alloc (Nat.le_refl _) _).drew)).mono ?_; rintro e w9 ⟨rfl, hR⟩)
        go_end0
        exact hR
end
end Go.Proofs.YtbiakncngmgbkaaGreatDoor
