/- What a line's reading leaves in a Feeder's memory. Walks of package line: blockEnds, inBlock. -/
import Derived.Test.YthgfjafnclklpaaGreatDoorQ45
import Derived.Test.YthgfjafnclklpaaGreatDoorG2
section
namespace Go.Proofs.YthgfjafnclklpaaGreatDoor
open Go.RowKit

section
variable {w : World} {fb lim : Nat} {s : Sp.FeedV} {ov ln dv kv mv : Value} {tc : List Value} {T : List Nat}

theorem feedCells_step (fb lim : Nat) (s : Sp.FeedV) (ov ln dv kv mv : Value) (t : Sp.StepV) (kv' mv' : Value) :
    (((stepArr t kv' nilRow mv').toList).zipIdx 9).foldl (fun cs x => cs.setIfInBounds x.2 x.1) (feedCells fb lim s ov ln dv kv mv) = feedCells fb lim { s with step := t } ov ln dv kv' mv' := by kernel_rfl

/-- another step at hand -/
theorem FeedAt.newStep (h : FeedAt w fb lim s ov ln dv kv mv tc T) (t : Sp.StepV) {kv' mv' : Value} {n : Nat} (hlt : ∀ k ∈ fb :: ownList T ov ln dv kv mv, k < n) (hn : 8 ≤ n)
    (hk : w.ownsRow n 9 1 kv' t.cmd.keys.length (t.cmd.keys.map str)) (hm : w.ownsRow n 94 3 mv' t.cmd.metas.length (flagsCells t.cmd.metas)) (hd : t.cmd.data = []) :
    FeedAt (w.setCells fb 9 (stepArr t kv' nilRow mv').toList) fb lim { s with step := t } ov ln dv kv' mv' tc T ∧ (∀ k ∈ ownList T ov ln dv kv' mv', k ∈ ownList T ov ln dv kv mv ∨ n ≤ k) := by
  have hkn := own_ge hk
  have hmn := own_ge hm
  have hfb := hlt fb (by simp)
  have hs : ∀ k, k ≠ fb → (w.setCells fb 9 (stepArr t kv' nilRow mv').toList).heap[k]? = w.heap[k]? := fun k hne => heap_setCells hne _ _
  have hne : ∀ k ∈ ownList T ov ln dv kv mv, k ≠ fb := fun k hk e => h.fb_notin (e ▸ hk)
  have hb := Blk.puts (stepArr t kv' nilRow mv').toList 9 h.blk
  rw [feedCells_step] at hb
  have hkm : rowBlock kv' = [] ∨ ∀ k ∈ rowBlock kv', k ∉ rowBlock mv' := by
    rcases own_own_apart hk hm (by decide) with e | e
    · left; simp [rowBlock, e]
    · right; intro k h1 h2; rw [mem_rowBlock] at h1 h2; exact e (h1.trans h2.symm)
  have nd1 : ∀ v : Value, (rowBlock v).Nodup := fun v => by unfold rowBlock; cases v.ownBlock <;> simp
  obtain ⟨n1, n2⟩ := List.nodup_cons.1 h.nodup
  have eo : ownList T ov ln dv kv mv = (T ++ (rowBlock ov ++ rowBlock ln)) ++ (rowBlock kv ++ (rowBlock dv ++ rowBlock mv)) := by simp [ownList]
  have eo' : ownList T ov ln dv kv' mv' = (T ++ (rowBlock ov ++ rowBlock ln)) ++ (rowBlock kv' ++ (rowBlock dv ++ rowBlock mv')) := by simp [ownList]
  rw [eo] at n2
  obtain ⟨n3, n4, n5⟩ := List.nodup_append.1 n2
  obtain ⟨n6, n7, n8⟩ := List.nodup_append.1 n4
  obtain ⟨n9, n10, n11⟩ := List.nodup_append.1 n7
  have ltA : ∀ k ∈ T ++ (rowBlock ov ++ rowBlock ln), k < n := fun k hk => hlt k (List.mem_cons_of_mem _ (by rw [eo]; exact List.mem_append_left _ hk))
  have ltD : ∀ k ∈ rowBlock dv, k < n := fun k hk => hlt k (List.mem_cons_of_mem _ (by rw [eo]; simp [hk]))
  refine ⟨⟨hb, own_same h.out fun k hk => hs k (hne k (by simp [ownList, hk])), h.told.same fun k hk => hs k (hne k (by simp [ownList, hk])), own_same h.line fun k hk => hs k (hne k (by simp [ownList, hk])),
    own_same h.data fun k hk => hs k (hne k (by simp [ownList, hk])), World.ownsRow.mono (own_same hk fun k hk => hs k (by have := hkn k hk; omega)) (Nat.zero_le _), World.ownsRow.mono (own_same hm fun k hk => hs k (by have := hmn k hk; omega)) (Nat.zero_le _), ?_, ?_, hd⟩, ?_⟩
  · rw [eo']
    refine List.nodup_cons.2 ⟨?_, List.nodup_append.2 ⟨n3, List.nodup_append.2 ⟨nd1 kv', List.nodup_append.2 ⟨n9, nd1 mv', ?_⟩, ?_⟩, ?_⟩⟩
    · intro hmem
      rcases List.mem_append.1 hmem with h1 | h1
      · exact n1 (by rw [eo]; exact List.mem_append_left _ h1)
      · rcases List.mem_append.1 h1 with h1 | h1
        · have := hkn fb h1; omega
        · rcases List.mem_append.1 h1 with h1 | h1
          · exact n1 (by rw [eo]; simp [h1])
          · have := hmn fb h1; omega
    · intro a ha b hb e
      subst e
      have := ltD a ha; have := hmn a hb; omega
    · intro a ha b hb e
      subst e
      rcases List.mem_append.1 hb with hb | hb
      · have := ltD a hb; have := hkn a ha; omega
      · rcases hkm with e | e
        · rw [e] at ha; cases ha
        · exact e a ha hb
    · intro a ha b hb e
      subst e
      have := ltA a ha
      rcases List.mem_append.1 hb with hb | hb
      · have := hkn a hb; omega
      · rcases List.mem_append.1 hb with hb | hb
        · exact n5 a ha a (by simp [hb]) rfl
        · have := hmn a hb; omega
  · intro k hk
    rw [eo'] at hk
    rcases List.mem_cons.1 hk with rfl | hk
    · exact h.low _ (by simp)
    · rcases List.mem_append.1 hk with h1 | h1
      · exact h.low k (List.mem_cons_of_mem _ (by rw [eo]; exact List.mem_append_left _ h1))
      · rcases List.mem_append.1 h1 with h1 | h1
        · have := hkn k h1; omega
        · rcases List.mem_append.1 h1 with h1 | h1
          · exact h.low k (List.mem_cons_of_mem _ (by rw [eo]; simp [h1]))
          · have := hmn k h1; omega
  · intro k hk
    rw [eo'] at hk
    rcases List.mem_append.1 hk with h1 | h1
    · left; rw [eo]; exact List.mem_append_left _ h1
    · rcases List.mem_append.1 h1 with h1 | h1
      · exact .inr (hkn k h1)
      · rcases List.mem_append.1 h1 with h1 | h1
        · left; rw [eo]; simp [h1]
        · exact .inr (hmn k h1)
end
end Go.Proofs.YthgfjafnclklpaaGreatDoor
end
section
namespace Go.Proofs.YthgfjafnclklpaaGreatDoor
attribute [local go_sem ↓] Go.wp_at_zero Go.wp_at_succ
open Go.RowKit

attribute [-go_sem] storeVar
attribute [local go_sem] run_store_step run_store_stepNew run_store_stepDrew storeVar_int' storeVar_bool' storeVar_slice' storeVar_func' canPut_setCell canPut_drew'

section
variable {w : World} {fb lim : Nat} {s : Sp.FeedV} {ov ln dv kv mv : Value} {tc : List Value} {T : List Nat}

/-- what is handed to done -/
structure EndMid (w : World) (t : Sp.StepV) (kt dt mt : Value) (wx : World) : Prop where
  sblk : Blk wx w.heap.size 99 (stepArr t kt dt mt)
  only : Below w.heap.size w wx

set_option maxHeartbeats 4000000 in
set_option maxRecDepth 100000 in
theorem blockEnds_any (h : FeedAt w fb lim s ov ln dv kv mv tc T) {N : Nat} (hN : s.Fits N) (hN2 : N ≤ 1000000000) (hg : 8 ≤ w.heap.size) :
    Calls Tryz.prog 159 #[.pointer (some ⟨fb, 0, none⟩)] w (NextPost w fb lim s.blockEnds (ownList T ov ln dv kv mv)) := by
  obtain ⟨k1, k2, k3, hkv⟩ := own_slice h.keys
  obtain ⟨m1, m2, m3, hmv⟩ := own_slice h.metas
  obtain ⟨d1, d2, d3, hdv⟩ := own_slice h.data
  have hgot := hN.got
  have hneed := hN.need
  have hlt := h.blk.lt
  have hd := fun (t : Sp.StepV) (kt dt mt : Value) (ht : CmdMem w t.cmd kt dt mt) (hnd : (fb :: (T ++ (rowBlock ov ++ cmdBlocks kt dt mt))).Nodup) (hin : ∀ k ∈ cmdBlocks kt dt mt, k ∈ ownList T ov ln dv kv mv) (W : World) (hb : Below w.heap.size w W) =>
    (done_any (h.later hb) hN hN2 t (ht.same fun k hk => hb.block k (ht.lt k hk)) hnd (fun k hk => h.low k (List.mem_cons_of_mem _ (hin k hk))) (Nat.le_trans hg hb.size)).mono fun e w' hp =>
      And.intro hp.1 (hp.next (OnlyIn.of hb (fb :: ownList T ov ln dv kv mv)) (fun k hk => .inl (told_own hk)) (fun k hk => .inl (out_own hk)) (fun k hk => .inl (hin k hk)))
  by_cases hc : s.good = true ∧ s.got = s.need + 2
  · have hs : s.blockEnds = s.done { s.step with cmd := { s.step.cmd with data := s.data } } := by unfold Sp.FeedV.blockEnds; rw [if_pos hc]
    rw [hs]
    have hd1 := hd { s.step with cmd := { s.step.cmd with data := s.data } } kv dv mv ⟨h.keys, h.data, h.metas⟩ h.dataNodup (fun k hk => dataBlocks_own hk)
    generalize NextPost w fb lim (s.done { s.step with cmd := { s.step.cmd with data := s.data } }) (ownList T ov ln dv kv mv) = R at hd1 ⊢
    clear hd hs
    obtain ⟨hgood, hgn⟩ := hc
    have hgn2 : ((s.got : Int) == (s.need : Int) + 2) = true := by simp; omega
    subst hkv; subst hmv; subst hdv
    have x9 : _ = some (Value.int .i64 s.step.cmd.verb) := (h.blk).cell 9
    have x10 : _ = some (Value.slice k1 k2 k3) := (h.blk).cell 10
    have x11 : _ = some (Value.int .u64 s.step.cmd.flags) := (h.blk).cell 11
    have x12 : _ = some (Value.int .i64 s.step.cmd.exptime) := (h.blk).cell 12
    have x13 : _ = some (Value.int .u64 s.step.cmd.token) := (h.blk).cell 13
    have x14 : _ = some (Value.int .u64 s.step.cmd.delta) := (h.blk).cell 14
    have x15 : _ = some (nilRow) := (h.blk).cell 15
    have x16 : _ = some (Value.bool s.step.cmd.noreply) := (h.blk).cell 16
    have x17 : _ = some (Value.bool s.step.cmd.large) := (h.blk).cell 17
    have x18 : _ = some (Value.slice m1 m2 m3) := (h.blk).cell 18
    have x19 : _ = some (str s.step.cmd.what) := (h.blk).cell 19
    have x20 : _ = some (Value.int .i64 s.step.wrong.kind) := (h.blk).cell 20
    have x21 : _ = some (str s.step.wrong.text) := (h.blk).cell 21
    have x22 : _ = some (Value.int .i64 s.step.wrong.pass) := (h.blk).cell 22
    have x23 : _ = some (Value.int .i64 s.step.frm) := (h.blk).cell 23
    have x24 : _ = some (Value.int .i64 s.step.to) := (h.blk).cell 24
    have x25 : _ = some (Value.slice d1 d2 d3) := (h.blk).cell 25
    have x26 : _ = some (Value.int .i64 s.need) := (h.blk).cell 26
    have x27 : _ = some (Value.int .i64 s.got) := (h.blk).cell 27
    have x28 : _ = some (Value.bool s.good) := (h.blk).cell 28
    rw [hgood] at x28
    have HD := Lib.hid hd1
    clear hd1 h hN hgn hgood
    go_enter Tryz.func159, Tryz.ntmps159
    go_upto_region 4 with (go_region)
    all_goals
      go_wp2_with (refine (HD.out _ (((Below.refl _ _).alloc (Nat.le_refl _) _).drew)).mono ?_; rintro e w9 ⟨rfl, hR⟩)
      go_end0
      exact hR
  · have hs : s.blockEnds = s.done { wrong := ⟨2, Sp.badChunk, -1⟩ } := by unfold Sp.FeedV.blockEnds; rw [if_neg hc]
    rw [hs]
    have hd1 := hd { wrong := ⟨2, Sp.badChunk, -1⟩ } nilRow nilRow nilRow (CmdMem.zero w) (by
      refine ownList_nodup h.nodup ?_
      unfold ownList cmdBlocks
      rw [rowBlock_nil]
      exact List.Sublist.append_left (List.Sublist.append_left (List.nil_sublist _) _) _) (by simp [cmdBlocks, rowBlock_nil])
    generalize NextPost w fb lim (s.done { wrong := ⟨2, Sp.badChunk, -1⟩ }) (ownList T ov ln dv kv mv) = R at hd1 ⊢
    clear hd hs
    subst hkv; subst hmv; subst hdv
    have x9 : _ = some (Value.int .i64 s.step.cmd.verb) := (h.blk).cell 9
    have x10 : _ = some (Value.slice k1 k2 k3) := (h.blk).cell 10
    have x11 : _ = some (Value.int .u64 s.step.cmd.flags) := (h.blk).cell 11
    have x12 : _ = some (Value.int .i64 s.step.cmd.exptime) := (h.blk).cell 12
    have x13 : _ = some (Value.int .u64 s.step.cmd.token) := (h.blk).cell 13
    have x14 : _ = some (Value.int .u64 s.step.cmd.delta) := (h.blk).cell 14
    have x15 : _ = some (nilRow) := (h.blk).cell 15
    have x16 : _ = some (Value.bool s.step.cmd.noreply) := (h.blk).cell 16
    have x17 : _ = some (Value.bool s.step.cmd.large) := (h.blk).cell 17
    have x18 : _ = some (Value.slice m1 m2 m3) := (h.blk).cell 18
    have x19 : _ = some (str s.step.cmd.what) := (h.blk).cell 19
    have x20 : _ = some (Value.int .i64 s.step.wrong.kind) := (h.blk).cell 20
    have x21 : _ = some (str s.step.wrong.text) := (h.blk).cell 21
    have x22 : _ = some (Value.int .i64 s.step.wrong.pass) := (h.blk).cell 22
    have x23 : _ = some (Value.int .i64 s.step.frm) := (h.blk).cell 23
    have x24 : _ = some (Value.int .i64 s.step.to) := (h.blk).cell 24
    have x25 : _ = some (Value.slice d1 d2 d3) := (h.blk).cell 25
    have x26 : _ = some (Value.int .i64 s.need) := (h.blk).cell 26
    have x27 : _ = some (Value.int .i64 s.got) := (h.blk).cell 27
    have x28 : _ = some (Value.bool s.good) := (h.blk).cell 28
    have HD := Lib.hid hd1
    clear hd1 h hN
    cases hgood : s.good with
    | true =>
      have hgn2 : ((s.got : Int) == (s.need : Int) + 2) = false := by
        have : ¬ s.got = s.need + 2 := fun e => hc ⟨hgood, e⟩
        simp; omega
      rw [hgood] at x28
      clear hc
      go_enter Tryz.func159, Tryz.ntmps159
      go_upto_region 4 with (go_region)
      all_goals
        go_wp2_with (refine (HD.out _ (((Below.refl _ _).alloc (Nat.le_refl _) _).drew)).mono ?_; rintro e w9 ⟨rfl, hR⟩)
        go_end0
        exact hR
    | false =>
      rw [hgood] at x28
      clear hc
      go_enter Tryz.func159, Tryz.ntmps159
      go_upto_region 4 with (go_region)
      all_goals
        go_wp2_with (refine (HD.out _ (((Below.refl _ _).alloc (Nat.le_refl _) _).drew)).mono ?_; rintro e w9 ⟨rfl, hR⟩)
        go_end0
        exact hR
end
end Go.Proofs.YthgfjafnclklpaaGreatDoor
end
