/- Walks of package line: done. -/
import Derived.Test.YtbiakncngmgbkaaGreatDoorF1
namespace Go.Proofs.YtbiakncngmgbkaaGreatDoor
attribute [local go_sem ↓] Go.wp_at_zero Go.wp_at_succ
open Go.RowKit

attribute [-go_sem] storeVar
attribute [local go_sem] run_store_step storeVar_int' storeVar_bool' storeVar_slice' storeVar_func' canPut_setCell

/-- behind the append -/
structure DoneMid (w : World) (fb : Nat) (cs : Array Value) (ov : Value) (n : Nat) (tc : List Value) (sa : Array Value) (wx : World) (ov' : Value) : Prop where
  blk : Blk wx fb 75 cs
  sblk : Blk wx w.heap.size 61 sa
  out : wx.ownsRow 0 61 16 ov' (n + 1) (tc ++ sa.toList)
  only : OnlyIn (fb :: rowBlock ov) w wx
  lies : ∀ k ∈ rowBlock ov', k ∈ rowBlock ov ∨ w.heap.size ≤ k

theorem DoneMid.put {w : World} {fb : Nat} {cs : Array Value} {ov : Value} {n : Nat} {tc : List Value} {sa : Array Value} {wx : World} {ov' : Value} (h : DoneMid w fb cs ov n tc sa wx ov') (i : Nat) (u : Value) :
    DoneMid w fb (cs.setIfInBounds i u) ov n tc sa (wx.setCell ⟨fb, i, none⟩ u) ov' := by
  have hne : fb ≠ w.heap.size := Blk.apart h.blk h.sblk (by decide)
  have ho : ∀ k ∈ rowBlock ov', k ≠ fb := fun k hk e => own_apart h.out h.blk (by decide) (by rw [← e]; exact mem_rowBlock.1 hk)
  exact ⟨h.blk.put i u, h.sblk.far (by exact fun e => hne e.symm) u, own_same h.out (fun k hk => Below.heap_setCell wx ⟨fb, i, none⟩ u k (ho k hk)), h.only.setCell (.inl (by simp)) i u, h.lies⟩
theorem DoneMid.puts {w : World} {fb : Nat} {ov : Value} {n : Nat} {tc : List Value} {sa : Array Value} {ov' : Value} : ∀ (us : List Value) (o : Nat) {cs : Array Value} {wx : World}, DoneMid w fb cs ov n tc sa wx ov' →
    DoneMid w fb ((us.zipIdx o).foldl (fun cs x => cs.setIfInBounds x.2 x.1) cs) ov n tc sa (wx.setCells fb o us) ov'
  | [], _, _, _, h => h
  | u :: us, o, cs, wx, h => by
    rw [World.setCells]
    exact DoneMid.puts us (o + 1) (h.put o u)

def zeroCells : List Value := [.int .i64 0, nilRow, .int .u64 0, .int .i64 0, .int .u64 0, .int .u64 0, nilRow, .bool false, .bool false, nilRow, .string ⟨#[]⟩, .int .i64 0, .string ⟨#[]⟩, .int .i64 0, .int .i64 0, .int .i64 0]

/-- the cells behind the step, the line and the block's bytes are struck -/
def struck (fb lim : Nat) (s : Sp.FeedV) (ov' : Value) : Array Value :=
  #[.int .i64 lim, modeFn fb s.mode, ov', .int .i64 s.taken, .int .i64 s.taken, .int .i64 s.held, .bool s.ended, nilRow, .bool s.long,
    .int .i64 0, nilRow, .int .u64 0, .int .i64 0, .int .u64 0, .int .u64 0, nilRow, .bool false, .bool false, nilRow, .string ⟨#[]⟩,
    .int .i64 0, .string ⟨#[]⟩, .int .i64 0, .int .i64 0, .int .i64 0,
    nilRow, .int .i64 s.need, .int .i64 s.got, .bool s.good]

theorem struck_eq (fb lim : Nat) (s : Sp.FeedV) (ov ln dv kv mv ov' : Value) : (zeroCells.zipIdx 9).foldl (fun cs x => cs.setIfInBounds x.2 x.1) (((((feedCells fb lim s ov ln dv kv mv).setIfInBounds 2 ov').setIfInBounds 4 (.int .i64 s.taken)).setIfInBounds 7 nilRow).setIfInBounds 25 nilRow) = struck fb lim s ov' := by
  kernel_rfl

theorem DoneMid.new {w wc w2 : World} {fb lim : Nat} {s : Sp.FeedV} {ov ln dv kv mv : Value} {tc : List Value} {T : List Nat} (h : FeedAt w fb lim s ov ln dv kv mv tc T) (hb1 : Below w.heap.size w wc) {sa cs : Array Value} (hsb : Blk wc w.heap.size 61 sa)
    {g cap : Nat} {us : List Value} {t : TypeId} (hg2 : ((wc.alloc (.cells cs t)).drew).grownBy w2 ov.ownBlock) (hown2 : w2.ownsRow 0 61 16 (.slice (some ⟨g, 0, none⟩) (s.out.length + 1) cap) (s.out.length + 1) (tc ++ us)) (hus : us = sa.toList)
    (hat : ov.ownBlock = some g ∨ g = wc.heap.size + 1) :
    DoneMid w fb ((feedCells fb lim s ov ln dv kv mv).setIfInBounds 2 (.slice (some ⟨g, 0, none⟩) (s.out.length + 1) cap)) ov s.out.length tc sa (w2.setCell ⟨fb, 2, none⟩ (.slice (some ⟨g, 0, none⟩) (s.out.length + 1) cap)) (.slice (some ⟨g, 0, none⟩) (s.out.length + 1) cap) := by
  have hap := own_apart h.out h.blk (by decide)
  have b2 := (((h.blk.later hb1).alloc (.cells cs t)).drew).grown hg2 (fun e => hap e.symm)
  have hlt : ∀ k ∈ rowBlock ov, k < w.heap.size := own_lt h.out
  have s2 := ((hsb.alloc (.cells cs t)).drew).grown hg2 (fun e => by have := hlt _ (mem_rowBlock.2 e.symm); omega)
  have hne : fb ≠ w.heap.size := by have := h.blk.lt; omega
  have o1 : OnlyIn (fb :: rowBlock ov) w ((wc.alloc (.cells cs t)).drew) := OnlyIn.of ((hb1.alloc hb1.size _).drew) _
  have o2 : OnlyIn (fb :: rowBlock ov) w w2 := o1.trans (OnlyIn.grown hg2) (fun k hk => .inl (by simp [hk]))
  have hgf : g ≠ fb := fun e => by
    rcases hat with h1 | h1
    · exact hap (by rw [h1, e])
    · have := h.blk.lt; have := hb1.size; omega
  refine ⟨b2.put 2 _, s2.far (by exact fun e => hne e.symm) _, ?_, o2.setCell (.inl (by simp)) 2 _, ?_⟩
  · rw [← hus]
    exact own_same hown2 fun k hk => Below.heap_setCell w2 ⟨fb, 2, none⟩ _ k (by
      rw [rowBlock_some] at hk
      simp at hk
      subst hk
      exact hgf)
  · intro k hk
    rw [rowBlock_some] at hk
    simp at hk
    subst hk
    rcases hat with h1 | h1
    · exact .inl (mem_rowBlock.2 h1)
    · right; have := hb1.size; omega

/-- how done leaves the Feeder -/
def DonePost (w : World) (fb lim : Nat) (s : Sp.FeedV) (t : Sp.StepV) (kt dt mt ov : Value) (T : List Nat) (e : Ending) (w' : World) : Prop :=
  e = .returned (.tuple #[]) ∧
    ∃ ov' tc', FeedAt w' fb lim (s.done t) ov' nilRow nilRow nilRow nilRow tc' (T ++ cmdBlocks kt dt mt) ∧ (∀ k ∈ rowBlock ov', k ∈ rowBlock ov ∨ w.heap.size ≤ k) ∧ OnlyIn (fb :: rowBlock ov) w w'

section
variable {w : World} {fb lim : Nat} {s : Sp.FeedV} {ov ln dv kv mv : Value} {tc : List Value} {T : List Nat}

theorem DoneMid.end (h : FeedAt w fb lim s ov ln dv kv mv tc T) {t : Sp.StepV} {kt dt mt : Value} (ht : CmdMem w t.cmd kt dt mt)
    (hnd : (fb :: (T ++ (rowBlock ov ++ cmdBlocks kt dt mt))).Nodup) (hlow : ∀ k ∈ cmdBlocks kt dt mt, 8 ≤ k) (hg : 8 ≤ w.heap.size)
    {cs : Array Value} {wz : World} {ov' : Value} (hm : DoneMid w fb cs ov s.out.length tc (stepArr (t.span s.frm s.taken) kt dt mt) wz ov')
    (hcs : cs = feedCells fb lim (s.done t) ov' nilRow nilRow nilRow nilRow) : DonePost w fb lim s t kt dt mt ov T (.returned (.tuple #[])) wz := by
  subst hcs
  obtain ⟨n1, n2⟩ := List.nodup_cons.1 hnd
  obtain ⟨n3, n4, n5⟩ := List.nodup_append.1 n2
  obtain ⟨n6, n7, n8⟩ := List.nodup_append.1 n4
  have hlt := h.lt
  have hT : ∀ k ∈ T, wz.heap[k]? = w.heap[k]? := fun k hk => hm.only.block k (hlt k (by simp [ownList, hk])) (by
    intro hm
    rcases List.mem_cons.1 hm with e | hm
    · exact n1 (by rw [← e]; simp [hk])
    · exact n5 k hk k (by simp [hm]) rfl)
  have hC : ∀ k ∈ cmdBlocks kt dt mt, wz.heap[k]? = w.heap[k]? := fun k hk => hm.only.block k (ht.lt k hk) (by
    intro hm
    rcases List.mem_cons.1 hm with e | hm
    · exact n1 (by rw [← e]; simp [hk])
    · exact n8 k hm k hk rfl)
  have hov : ∀ k ∈ rowBlock ov', k ∉ fb :: (T ++ cmdBlocks kt dt mt) := by
    intro k hk hmem
    rcases hm.lies k hk with h1 | h1
    · rcases List.mem_cons.1 hmem with e | hmem
      · exact n1 (by rw [← e]; simp [h1])
      · rcases List.mem_append.1 hmem with h2 | h2
        · exact n5 k h2 k (by simp [h1]) rfl
        · exact n8 k h1 k h2 rfl
    · rcases List.mem_cons.1 hmem with e | hmem
      · have := hlt fb (by simp); omega
      · rcases List.mem_append.1 hmem with h2 | h2
        · have := hlt k (by simp [ownList, h2]); omega
        · have := ht.lt k h2; omega
  have ho1 : ∀ k ∈ rowBlock ov', k = k := fun _ _ => rfl
  have hlen : (s.done t).out.length = s.out.length + 1 := by simp [Sp.FeedV.done]
  refine ⟨rfl, ov', tc ++ stepCells (t.span s.frm s.taken) kt dt mt, ⟨hm.blk, ?_, ?_, World.ownsRow_nil _ 0 _ 1, World.ownsRow_nil _ 0 _ 1, World.ownsRow_nil _ 0 _ 1, World.ownsRow_nil _ 0 _ 3, ?_, ?_, rfl⟩, hm.lies, hm.only⟩
  · rw [hlen, ← stepArr_list]
    exact hm.out
  · exact (h.told.same hT).snoc (t := t.span s.frm s.taken) (ht.same hC)
  · have e : ownList (T ++ cmdBlocks kt dt mt) ov' nilRow nilRow nilRow nilRow = (T ++ cmdBlocks kt dt mt) ++ rowBlock ov' := by simp [ownList, rowBlock_nil]
    rw [e]
    refine List.nodup_cons.2 ⟨?_, List.nodup_append.2 ⟨List.nodup_append.2 ⟨n3, n7, fun a ha b hb => n5 a ha b (by simp [hb])⟩, ?_, ?_⟩⟩
    · intro hmem
      rcases List.mem_append.1 hmem with h2 | h2
      · rcases List.mem_append.1 h2 with h2 | h2
        · exact n1 (by simp [h2])
        · exact n1 (by simp [h2])
      · exact hov fb h2 (by simp)
    · unfold rowBlock; cases ov'.ownBlock <;> simp
    · intro a ha b hb e
      subst e
      exact hov a hb (List.mem_cons_of_mem _ ha)
  · intro k hk
    simp only [ownList, rowBlock_nil, List.append_nil, List.mem_cons, List.mem_append] at hk
    rcases hk with rfl | (hk | hk) | hk
    · exact h.low _ (by simp)
    · exact h.low k (by simp [ownList, hk])
    · exact hlow k hk
    · rcases hm.lies k hk with h1 | h1
      · exact h.low k (by simp [ownList, h1])
      · omega

set_option maxHeartbeats 4000000 in
set_option maxRecDepth 100000 in
theorem done_any (h : FeedAt w fb lim s ov ln dv kv mv tc T) {N : Nat} (hN : s.Fits N) (hN2 : N ≤ 1000000000) (t : Sp.StepV) {kt dt mt : Value} (ht : CmdMem w t.cmd kt dt mt)
    (hnd : (fb :: (T ++ (rowBlock ov ++ cmdBlocks kt dt mt))).Nodup) (hlow : ∀ k ∈ cmdBlocks kt dt mt, 8 ≤ k) (hg : 8 ≤ w.heap.size) :
    Calls Tryz.prog 77 #[.pointer (some ⟨fb, 0, none⟩), stepV t kt dt mt] w (DonePost w fb lim s t kt dt mt ov T) := by
  have x2 := h.blk.cell 2
  have x3 := h.blk.cell 3
  have x4 := h.blk.cell 4
  change w.cell? ⟨fb, 2, none⟩ = some ov at x2
  change w.cell? ⟨fb, 3, none⟩ = some (.int .i64 s.taken) at x3
  change w.cell? ⟨fb, 4, none⟩ = some (.int .i64 s.frm) at x4
  have f2 := h.blk.frozen 2
  have f4 := h.blk.frozen 4
  have hlt := h.blk.lt
  have hk1 := own_one ht.keys
  have hk2 := own_one ht.data
  have hk3 := own_one ht.metas
  have hn := hN.out
  have H := Lib.hid h
  have HT := Lib.hid ht
  clear h ht
  have he := fun (cs : Array Value) (wz : World) (ov' : Value) (hm : DoneMid w fb cs ov s.out.length tc (stepArr (t.span s.frm s.taken) kt dt mt) wz ov') (hcs : cs = feedCells fb lim (s.done t) ov' nilRow nilRow nilRow nilRow) => DoneMid.end H.out HT.out hnd hlow hg hm hcs
  generalize hR : DonePost w fb lim s t kt dt mt ov T = R at he ⊢
  clear hR
  have HE := Lib.hid he
  clear he
  obtain ⟨⟨V, K, F, E, Tk, D, Dt, Nr, Lg, M, W⟩, ⟨wk, wt, wp⟩, fr0, to0⟩ := t
  go_enter Tryz.func77, Tryz.ntmps77
  go_upto_region 1 with (fail)
  go_cut [3] (fun p wx => p = .pointer (some ⟨w.heap.size, 0, none⟩) ∧ Blk wx w.heap.size 61 (stepArr ⟨⟨V, K, F, E, Tk, D, Dt, Nr, Lg, M, W⟩, ⟨wk, wt, wp⟩, s.frm, s.taken⟩ kt dt mt) ∧ Below w.heap.size w wx)
  case first =>
    go_region
    all_goals (go_wp2_with fail; go_meet)
    all_goals exact ⟨rfl, (Blk.new _ _ _).drew, ((Below.refl _ _).alloc (Nat.le_refl _) _).drew⟩
  case rest =>
    obtain ⟨rfl, hsb, hb1⟩ := hcut
    go_upto_region 2 with (fail)
    go_cut [] (fun wy => ∃ ov', DoneMid w fb ((feedCells fb lim s ov ln dv kv mv).setIfInBounds 2 ov') ov s.out.length tc (stepArr ⟨⟨V, K, F, E, Tk, D, Dt, Nr, Lg, M, W⟩, ⟨wk, wt, wp⟩, s.frm, s.taken⟩ kt dt mt) wy ov')
    case first =>
      have y0 : _ = some (Value.int .i64 V) := (hsb).cell 0
      have y1 : _ = some (kt) := (hsb).cell 1
      have y2 : _ = some (Value.int .u64 F) := (hsb).cell 2
      have y3 : _ = some (Value.int .i64 E) := (hsb).cell 3
      have y4 : _ = some (Value.int .u64 Tk) := (hsb).cell 4
      have y5 : _ = some (Value.int .u64 D) := (hsb).cell 5
      have y6 : _ = some (dt) := (hsb).cell 6
      have y7 : _ = some (Value.bool Nr) := (hsb).cell 7
      have y8 : _ = some (Value.bool Lg) := (hsb).cell 8
      have y9 : _ = some (mt) := (hsb).cell 9
      have y10 : _ = some (str W) := (hsb).cell 10
      have y11 : _ = some (Value.int .i64 wk) := (hsb).cell 11
      have y12 : _ = some (str wt) := (hsb).cell 12
      have y13 : _ = some (Value.int .i64 wp) := (hsb).cell 13
      have y14 : _ = some (Value.int .i64 s.frm) := (hsb).cell 14
      have y15 : _ = some (Value.int .i64 s.taken) := (hsb).cell 15
      have xx2 : wc.cell? ⟨fb, 2, none⟩ = some ov := (hb1.cell (p := ⟨fb, 2, none⟩) hlt).trans x2
      have ff2 : wc.frozen? ⟨fb, 2, none⟩ = false := (H.out.blk.later hb1).frozen 2
      have hltc : fb < wc.heap.size := Nat.lt_of_lt_of_le hlt hb1.size
      have hout := own_later H.out.out hb1
      have hblk := H.out.blk.later hb1
      obtain ⟨i0, hi, hz0, hz1, hz2⟩ := info_parts info_step
      have HO := Lib.hid hout
      have HB := Lib.hid hblk
      have HB1 := Lib.hid hb1
      have HSB := Lib.hid hsb
      clear hout hblk hb1 hsb
      go_region_law (refine step_append_lies _ rfl (.tmp 18) (.tmp 20) _ rfl 0 61 i0 _ 16 184 Tryz.underlying41 hi hz0 hz1 hz2 rfl (by decide) ov s.out.length tc rfl ?_ ⟨wc.heap.size, 0, none⟩ 1 1 _ rfl ?_ (cells_new_drew _ _ _) ?_ (by decide) ?_ ?_ ?_ (wc.heap.size + 1) ?_ ?_; exact (own_later HO.out ((Below.refl _ _).alloc (Nat.le_refl _) _)).drew; rfl; (intro u hu; simp at hu; rcases hu with rfl | rfl | rfl | rfl | rfl | rfl | rfl | rfl | rfl | rfl | rfl | rfl | rfl | rfl | rfl | rfl <;> first | rfl | assumption); (unfold maxLen; omega); omega; omega; simp; intro g cap w2 hown2 hg2 hat2 hlt2; have hm2 := DoneMid.new H.out HB1.out HSB.out hg2 hown2 (by rfl) hat2; have Hm2 := Lib.hid hm2; clear hm2 hown2 hat2 hlt2; have b2 := ((HB.out.alloc _).drew).grown hg2 (fun e => own_apart H.out.out H.out.blk (by decide) e.symm); clear hg2; have y2 := b2.cell 2; have g2 := b2.frozen 2; clear b2; change w2.cell? ⟨fb, 2, none⟩ = some ov at y2)
      all_goals
        go_wp2_with fail
        go_meet
        exact ⟨_, Hm2.out⟩
    case rest =>
      obtain ⟨ov', hm⟩ := hcut
      have y1 : _ = some (modeFn fb s.mode) := (hm.blk).cell 1
      have g1 := (hm.blk).frozen 1
      have y3 : _ = some (Value.int .i64 s.taken) := (hm.blk).cell 3
      have g3 := (hm.blk).frozen 3
      have y4 : _ = some (Value.int .i64 s.frm) := (hm.blk).cell 4
      have g4 := (hm.blk).frozen 4
      have y5 : _ = some (Value.int .i64 s.held) := (hm.blk).cell 5
      have g5 := (hm.blk).frozen 5
      have y6 : _ = some (Value.bool s.ended) := (hm.blk).cell 6
      have g6 := (hm.blk).frozen 6
      have y7 : _ = some (ln) := (hm.blk).cell 7
      have g7 := (hm.blk).frozen 7
      have y8 : _ = some (Value.bool s.long) := (hm.blk).cell 8
      have g8 := (hm.blk).frozen 8
      have y25 : _ = some (dv) := (hm.blk).cell 25
      have g25 := (hm.blk).frozen 25
      have hth := hm.blk.can 9 16 (by simp [feedCells])
      have s0 : _ = some (Value.int .i64 V) := hm.sblk.cell 0
      have HM := Lib.hid hm
      clear hm hsb
      go_upto_region 4 with (fail)
      go_cut [] (fun wz => DoneMid w fb (struck fb lim s ov') ov s.out.length tc (stepArr ⟨⟨V, K, F, E, Tk, D, Dt, Nr, Lg, M, W⟩, ⟨wk, wt, wp⟩, s.frm, s.taken⟩ kt dt mt) wz ov')
      case first =>
        go_wp2_with fail
        go_meet
        have h4 := ((HM.out.put 4 (.int .i64 s.taken)).put 7 nilRow).put 25 nilRow
        have h5 := DoneMid.puts zeroCells 9 h4
        rw [struck_eq] at h5
        exact h5
      case rest =>
        clear HM y1 y3 y4 y5 y6 y7 y8 y25 s0
        have y1 : _ = some (modeFn fb s.mode) := (hcut.blk).cell 1
        have g1 := (hcut.blk).frozen 1
        have y5 : _ = some (Value.int .i64 s.held) := (hcut.blk).cell 5
        have g5 := (hcut.blk).frozen 5
        have y6 : _ = some (Value.bool s.ended) := (hcut.blk).cell 6
        have g6 := (hcut.blk).frozen 6
        have y8 : _ = some (Value.bool s.long) := (hcut.blk).cell 8
        have g8 := (hcut.blk).frozen 8
        have s0 : _ = some (Value.int .i64 V) := hcut.sblk.cell 0
        have HM := Lib.hid hcut
        clear hcut
        by_cases hV : V = 18
        · subst hV
          go_wp2_with fail
          go_end0
          refine HE.out _ _ ov' (((((HM.out.put 5 (.int .i64 0)).put 8 (.bool false)).put 1 (modeFn fb .inLine)).put 6 (.bool true)).put 1 (modeFn fb .over)) ?_
          simp [struck, feedCells, Sp.FeedV.done]
        · go_wp2_with fail
          go_end0
          refine HE.out _ _ ov' (((HM.out.put 5 (.int .i64 0)).put 8 (.bool false)).put 1 (modeFn fb .inLine)) ?_
          simp [struck, feedCells, Sp.FeedV.done, hV]
end
end Go.Proofs.YtbiakncngmgbkaaGreatDoor
