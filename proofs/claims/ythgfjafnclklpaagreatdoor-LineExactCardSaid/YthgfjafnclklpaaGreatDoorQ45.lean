/- A Feeder in memory. Walks of package line: a step is told. Walks of package line: done. Walks of package line: pass, passing, over. A Feeder's rows grow: the line, the block's bytes. -/
import Derived.Test.YthgfjafnclklpaaGreatDoorFm
import Derived.Test.YthgfjafnclklpaaGreatDoorGl
import Derived.Test.YthgfjafnclklpaaGreatDoorG1
import Derived.Test.YthgfjafnclklpaaGreatDoorFd
import Derived.Deep.RegionHeld3
import Derived.Laws.CopyOwn
import Derived.Deep.WholeRow
import Derived.Deep.DrawnRows
import Derived.Deep.MidRow
import Derived.Laws.EntriesVeiled
section
section
namespace Go.Proofs.YthgfjafnclklpaaGreatDoor
open Go.RowKit

/-- the state's function, bound to the Feeder -/
def modeFn (fb : Nat) : Sp.Mode → Value
  | .inLine => .func (.func 70) #[.pointer (some ⟨fb, 0, none⟩)] #[]
  | .passing => .func (.func 158) #[.pointer (some ⟨fb, 0, none⟩)] #[]
  | .inBlock => .func (.func 140) #[.pointer (some ⟨fb, 0, none⟩)] #[]
  | .over => .func (.func 157) #[.pointer (some ⟨fb, 0, none⟩)] #[]

def feedCells (fb lim : Nat) (s : Sp.FeedV) (ov ln dv kv mv : Value) : Array Value :=
  #[.int .i64 lim, modeFn fb s.mode, ov, .int .i64 s.taken, .int .i64 s.frm, .int .i64 s.held, .bool s.ended, ln, .bool s.long,
    .int .i64 s.step.cmd.verb, kv, .int .u64 s.step.cmd.flags, .int .i64 s.step.cmd.exptime, .int .u64 s.step.cmd.token, .int .u64 s.step.cmd.delta, nilRow, .bool s.step.cmd.noreply, .bool s.step.cmd.large, mv, str s.step.cmd.what,
    .int .i64 s.step.wrong.kind, str s.step.wrong.text, .int .i64 s.step.wrong.pass, .int .i64 s.step.frm, .int .i64 s.step.to,
    dv, .int .i64 s.need, .int .i64 s.got, .bool s.good]

def ownList (T : List Nat) (ov ln dv kv mv : Value) : List Nat := T ++ (rowBlock ov ++ (rowBlock ln ++ (rowBlock kv ++ (rowBlock dv ++ rowBlock mv))))

/-- the Feeder in block fb is in this state; T: the blocks of what it has told and not yet handed out -/
structure FeedAt (w : World) (fb lim : Nat) (s : Sp.FeedV) (ov ln dv kv mv : Value) (tc : List Value) (T : List Nat) : Prop where
  blk : Blk w fb 120 (feedCells fb lim s ov ln dv kv mv)
  out : w.ownsRow 0 99 16 ov s.out.length tc
  told : StepsMem w s.out tc T
  line : w.ownsRow 0 5 1 ln s.line.length (bytesV s.line)
  data : w.ownsRow 0 5 1 dv s.data.length (bytesV s.data)
  keys : w.ownsRow 0 9 1 kv s.step.cmd.keys.length (s.step.cmd.keys.map str)
  metas : w.ownsRow 0 94 3 mv s.step.cmd.metas.length (flagsCells s.step.cmd.metas)
  nodup : (fb :: ownList T ov ln dv kv mv).Nodup
  low : ∀ k ∈ fb :: ownList T ov ln dv kv mv, 8 ≤ k
  bare : s.step.cmd.data = []
end Go.Proofs.YthgfjafnclklpaaGreatDoor
end
section
namespace Go.Proofs.YthgfjafnclklpaaGreatDoor
attribute [local go_sem ↓] Go.wp_at_zero Go.wp_at_succ
open Go.RowKit

section
variable {w w' : World} {fb lim : Nat} {s s' : Sp.FeedV} {ov ln dv kv mv : Value} {tc : List Value} {T : List Nat}

theorem FeedAt.lt (h : FeedAt w fb lim s ov ln dv kv mv tc T) : ∀ k ∈ fb :: ownList T ov ln dv kv mv, k < w.heap.size := by
  intro k hk
  simp only [ownList, List.mem_cons, List.mem_append] at hk
  rcases hk with rfl | hk | hk | hk | hk | hk | hk
  · exact h.blk.lt
  · exact h.told.lt k hk
  · exact own_lt h.out k hk
  · exact own_lt h.line k hk
  · exact own_lt h.keys k hk
  · exact own_lt h.data k hk
  · exact own_lt h.metas k hk

theorem FeedAt.same (h : FeedAt w fb lim s ov ln dv kv mv tc T) (hs : ∀ k ∈ fb :: ownList T ov ln dv kv mv, w'.heap[k]? = w.heap[k]?) : FeedAt w' fb lim s ov ln dv kv mv tc T := by
  have hs' : ∀ k ∈ ownList T ov ln dv kv mv, w'.heap[k]? = w.heap[k]? := fun k hk => hs k (List.mem_cons_of_mem _ hk)
  refine ⟨h.blk.same (hs fb (by simp)), own_same h.out ?_, h.told.same ?_, own_same h.line ?_, own_same h.data ?_, own_same h.keys ?_, own_same h.metas ?_, h.nodup, h.low, h.bare⟩ <;> (intro k hk; exact hs' k (by simp [ownList, hk]))

theorem FeedAt.later (h : FeedAt w fb lim s ov ln dv kv mv tc T) (hb : Below w.heap.size w w') : FeedAt w' fb lim s ov ln dv kv mv tc T :=
  h.same fun k hk => hb.block k (h.lt k hk)

theorem FeedAt.only (h : FeedAt w fb lim s ov ln dv kv mv tc T) {L : List Nat} (ho : OnlyIn L w w') (hL : ∀ k ∈ fb :: ownList T ov ln dv kv mv, k ∉ L) : FeedAt w' fb lim s ov ln dv kv mv tc T :=
  h.same fun k hk => ho.block k (h.lt k hk) (hL k hk)

theorem FeedAt.fb_notin (h : FeedAt w fb lim s ov ln dv kv mv tc T) : fb ∉ ownList T ov ln dv kv mv := (List.nodup_cons.1 h.nodup).1

/-- a store into a plain field -/
theorem FeedAt.put (h : FeedAt w fb lim s ov ln dv kv mv tc T) (i : Nat) (u : Value) (hc : (feedCells fb lim s ov ln dv kv mv).setIfInBounds i u = feedCells fb lim s' ov ln dv kv mv)
    (ho : s'.out = s.out) (hl : s'.line = s.line) (hd : s'.data = s.data) (hk : s'.step.cmd.keys = s.step.cmd.keys) (hm : s'.step.cmd.metas = s.step.cmd.metas) (hb : s'.step.cmd.data = s.step.cmd.data) :
    FeedAt (w.setCell ⟨fb, i, none⟩ u) fb lim s' ov ln dv kv mv tc T := by
  have hs : ∀ k ∈ ownList T ov ln dv kv mv, (w.setCell ⟨fb, i, none⟩ u).heap[k]? = w.heap[k]? := fun k hk =>
    Below.heap_setCell w ⟨fb, i, none⟩ u k (fun e => h.fb_notin (by simpa [e] using hk))
  refine ⟨by rw [← hc]; exact h.blk.put i u, ?_, ?_, ?_, ?_, ?_, ?_, h.nodup, h.low, by rw [hb]; exact h.bare⟩
  · rw [ho]; exact own_same h.out fun k hk => hs k (by simp [ownList, hk])
  · rw [ho]; exact h.told.same fun k hk => hs k (by simp [ownList, hk])
  · rw [hl]; exact own_same h.line fun k hk => hs k (by simp [ownList, hk])
  · rw [hd]; exact own_same h.data fun k hk => hs k (by simp [ownList, hk])
  · rw [hk]; exact own_same h.keys fun k hk => hs k (by simp [ownList, hk])
  · rw [hm]; exact own_same h.metas fun k hk => hs k (by simp [ownList, hk])

/-- fewer rows -/
theorem ownList_nodup {T : List Nat} {ov ln dv kv mv : Value} (h : (fb :: ownList T ov ln dv kv mv).Nodup) {L : List Nat} (hs : L.Sublist (ownList T ov ln dv kv mv)) : (fb :: L).Nodup := h.sublist (hs.cons_cons fb)

/-- the line is given up -/
theorem FeedAt.noLine (h : FeedAt w fb lim s ov ln dv kv mv tc T) : FeedAt (w.setCell ⟨fb, 7, none⟩ nilRow) fb lim { s with line := [] } ov nilRow dv kv mv tc T := by
  have hs : ∀ k ∈ ownList T ov ln dv kv mv, (w.setCell ⟨fb, 7, none⟩ nilRow).heap[k]? = w.heap[k]? := fun k hk =>
    Below.heap_setCell w ⟨fb, 7, none⟩ nilRow k (fun e => h.fb_notin (by simpa [e] using hk))
  have hsub : (ownList T ov nilRow dv kv mv).Sublist (ownList T ov ln dv kv mv) := by
    unfold ownList
    refine List.Sublist.append_left (List.Sublist.append_left ?_ _) _
    rw [rowBlock_nil, List.nil_append]
    exact List.sublist_append_right _ _
  refine ⟨h.blk.put 7 nilRow, own_same h.out ?_, h.told.same ?_, World.ownsRow_nil _ 0 _ 1, own_same h.data ?_, own_same h.keys ?_, own_same h.metas ?_, ownList_nodup h.nodup hsub, fun k hk => h.low k ((hsub.cons_cons fb).subset hk), h.bare⟩ <;> (intro k hk; exact hs k (by simp [ownList, hk]))

/-- the block's bytes are given up -/
theorem FeedAt.noData (h : FeedAt w fb lim s ov ln dv kv mv tc T) : FeedAt (w.setCell ⟨fb, 25, none⟩ nilRow) fb lim { s with data := [] } ov ln nilRow kv mv tc T := by
  have hs : ∀ k ∈ ownList T ov ln dv kv mv, (w.setCell ⟨fb, 25, none⟩ nilRow).heap[k]? = w.heap[k]? := fun k hk =>
    Below.heap_setCell w ⟨fb, 25, none⟩ nilRow k (fun e => h.fb_notin (by simpa [e] using hk))
  have hsub : (ownList T ov ln nilRow kv mv).Sublist (ownList T ov ln dv kv mv) := by
    unfold ownList
    refine List.Sublist.append_left (List.Sublist.append_left (List.Sublist.append_left (List.Sublist.append_left ?_ _) _) _) _
    rw [rowBlock_nil, List.nil_append]
    exact List.sublist_append_right _ _
  refine ⟨h.blk.put 25 nilRow, own_same h.out ?_, h.told.same ?_, own_same h.line ?_, World.ownsRow_nil _ 0 _ 1, own_same h.keys ?_, own_same h.metas ?_, ownList_nodup h.nodup hsub, fun k hk => h.low k ((hsub.cons_cons fb).subset hk), h.bare⟩ <;> (intro k hk; exact hs k (by simp [ownList, hk]))
end

end Go.Proofs.YthgfjafnclklpaaGreatDoor
end
end
section
namespace Go.Proofs.YthgfjafnclklpaaGreatDoor
attribute [local go_sem ↓] Go.wp_at_zero Go.wp_at_succ
open Go.RowKit

attribute [-go_sem] storeVar
attribute [local go_sem] run_store_step storeVar_int' storeVar_bool' storeVar_slice' storeVar_func' canPut_setCell

/-- behind the append -/
structure DoneMid (w : World) (fb : Nat) (cs : Array Value) (ov : Value) (n : Nat) (tc : List Value) (sa : Array Value) (wx : World) (ov' : Value) : Prop where
  blk : Blk wx fb 120 cs
  sblk : Blk wx w.heap.size 99 sa
  out : wx.ownsRow 0 99 16 ov' (n + 1) (tc ++ sa.toList)
  only : OnlyIn (fb :: rowBlock ov) w wx
  lies : ∀ k ∈ rowBlock ov', k ∈ rowBlock ov ∨ w.heap.size ≤ k

theorem DoneMid.put {w : World} {fb : Nat} {cs : Array Value} {ov : Value} {n : Nat} {tc : List Value} {sa : Array Value} {wx : World} {ov' : Value} (h : DoneMid w fb cs ov n tc sa wx ov') (i : Nat) (u : Value) :
    DoneMid w fb (cs.setIfInBounds i u) ov n tc sa (wx.setCell ⟨fb, i, none⟩ u) ov' := by
  have hne : fb ≠ w.heap.size := Blk.apart h.blk h.sblk (by decide)
  have ho : ∀ k ∈ rowBlock ov', k ≠ fb := fun k hk e => own_apart h.out h.blk (by decide) (by rw [← e]; exact mem_rowBlock.1 hk)
  exact ⟨h.blk.put i u, h.sblk.far (by exact fun e => hne e.symm) u, own_same h.out (fun k hk => Below.heap_setCell wx ⟨fb, i, none⟩ u k (ho k hk)), h.only.setCell (.inl (by simp)) i u, h.lies⟩
theorem DoneMid.puts {w : World} {fb : Nat} {ov : Value} {n : Nat} {tc : List Value} {sa : Array Value} {ov' : Value} : ∀ (us : List Value) (o : Nat) {cs : Array Value} {wx : World}, DoneMid w fb cs ov n tc sa wx ov' →
    DoneMid w fb ((us.zipIdx o).foldl (fun cs x => cs.setIfInBounds x.2 x.1) cs) ov n tc sa (wx.setCells fb o us) ov'
  | [], _, _, _, h => h
  | u :: us, o, cs, wx, h => by
    rw [World.setCells]
    exact DoneMid.puts us (o + 1) (h.put o u)

def zeroCells : List Value := [.int .i64 0, nilRow, .int .u64 0, .int .i64 0, .int .u64 0, .int .u64 0, nilRow, .bool false, .bool false, nilRow, .string ⟨#[]⟩, .int .i64 0, .string ⟨#[]⟩, .int .i64 0, .int .i64 0, .int .i64 0]

/-- the cells behind the step, the line and the block's bytes are struck -/
def struck (fb lim : Nat) (s : Sp.FeedV) (ov' : Value) : Array Value :=
  #[.int .i64 lim, modeFn fb s.mode, ov', .int .i64 s.taken, .int .i64 s.taken, .int .i64 s.held, .bool s.ended, nilRow, .bool s.long,
    .int .i64 0, nilRow, .int .u64 0, .int .i64 0, .int .u64 0, .int .u64 0, nilRow, .bool false, .bool false, nilRow, .string ⟨#[]⟩,
    .int .i64 0, .string ⟨#[]⟩, .int .i64 0, .int .i64 0, .int .i64 0,
    nilRow, .int .i64 s.need, .int .i64 s.got, .bool s.good]

theorem struck_eq (fb lim : Nat) (s : Sp.FeedV) (ov ln dv kv mv ov' : Value) : (zeroCells.zipIdx 9).foldl (fun cs x => cs.setIfInBounds x.2 x.1) (((((feedCells fb lim s ov ln dv kv mv).setIfInBounds 2 ov').setIfInBounds 4 (.int .i64 s.taken)).setIfInBounds 7 nilRow).setIfInBounds 25 nilRow) = struck fb lim s ov' := by
  kernel_rfl

theorem DoneMid.new {w wc w2 : World} {fb lim : Nat} {s : Sp.FeedV} {ov ln dv kv mv : Value} {tc : List Value} {T : List Nat} (h : FeedAt w fb lim s ov ln dv kv mv tc T) (hb1 : Below w.heap.size w wc) {sa cs : Array Value} (hsb : Blk wc w.heap.size 99 sa)
    {g cap : Nat} {us : List Value} {t : TypeId} (hg2 : ((wc.alloc (.cells cs t)).drew).grownBy w2 ov.ownBlock) (hown2 : w2.ownsRow 0 99 16 (.slice (some ⟨g, 0, none⟩) (s.out.length + 1) cap) (s.out.length + 1) (tc ++ us)) (hus : us = sa.toList)
    (hat : ov.ownBlock = some g ∨ g = wc.heap.size + 1) :
    DoneMid w fb ((feedCells fb lim s ov ln dv kv mv).setIfInBounds 2 (.slice (some ⟨g, 0, none⟩) (s.out.length + 1) cap)) ov s.out.length tc sa (w2.setCell ⟨fb, 2, none⟩ (.slice (some ⟨g, 0, none⟩) (s.out.length + 1) cap)) (.slice (some ⟨g, 0, none⟩) (s.out.length + 1) cap) := by
  have hap := own_apart h.out h.blk (by decide)
  have b2 := (((h.blk.later hb1).alloc (.cells cs t)).drew).grown hg2 (fun e => hap e.symm)
  have hlt : ∀ k ∈ rowBlock ov, k < w.heap.size := own_lt h.out
  have s2 := ((hsb.alloc (.cells cs t)).drew).grown hg2 (fun e => by have := hlt _ (mem_rowBlock.2 e.symm); omega)
  have hne : fb ≠ w.heap.size := by have := h.blk.lt; omega
  have o1 : OnlyIn (fb :: rowBlock ov) w ((wc.alloc (.cells cs t)).drew) := OnlyIn.of ((hb1.alloc hb1.size _).drew) _
  have o2 : OnlyIn (fb :: rowBlock ov) w w2 := o1.trans (OnlyIn.grown hg2) (fun k hk => .inl (by simp [hk]))
  have hgf : g ≠ fb := fun e => by
    rcases hat with h1 | h1
    · exact hap (by rw [h1, e])
    · have := h.blk.lt; have := hb1.size; omega
  refine ⟨b2.put 2 _, s2.far (by exact fun e => hne e.symm) _, ?_, o2.setCell (.inl (by simp)) 2 _, ?_⟩
  · rw [← hus]
    exact own_same hown2 fun k hk => Below.heap_setCell w2 ⟨fb, 2, none⟩ _ k (by
      rw [rowBlock_some] at hk
      simp at hk
      subst hk
      exact hgf)
  · intro k hk
    rw [rowBlock_some] at hk
    simp at hk
    subst hk
    rcases hat with h1 | h1
    · exact .inl (mem_rowBlock.2 h1)
    · right; have := hb1.size; omega

/-- how done leaves the Feeder -/
def DonePost (w : World) (fb lim : Nat) (s : Sp.FeedV) (t : Sp.StepV) (kt dt mt ov : Value) (T : List Nat) (e : Ending) (w' : World) : Prop :=
  e = .returned (.tuple #[]) ∧
    ∃ ov' tc', FeedAt w' fb lim (s.done t) ov' nilRow nilRow nilRow nilRow tc' (T ++ cmdBlocks kt dt mt) ∧ (∀ k ∈ rowBlock ov', k ∈ rowBlock ov ∨ w.heap.size ≤ k) ∧ OnlyIn (fb :: rowBlock ov) w w'

section
variable {w : World} {fb lim : Nat} {s : Sp.FeedV} {ov ln dv kv mv : Value} {tc : List Value} {T : List Nat}

theorem DoneMid.end (h : FeedAt w fb lim s ov ln dv kv mv tc T) {t : Sp.StepV} {kt dt mt : Value} (ht : CmdMem w t.cmd kt dt mt)
    (hnd : (fb :: (T ++ (rowBlock ov ++ cmdBlocks kt dt mt))).Nodup) (hlow : ∀ k ∈ cmdBlocks kt dt mt, 8 ≤ k) (hg : 8 ≤ w.heap.size)
    {cs : Array Value} {wz : World} {ov' : Value} (hm : DoneMid w fb cs ov s.out.length tc (stepArr (t.span s.frm s.taken) kt dt mt) wz ov')
    (hcs : cs = feedCells fb lim (s.done t) ov' nilRow nilRow nilRow nilRow) : DonePost w fb lim s t kt dt mt ov T (.returned (.tuple #[])) wz := by
  subst hcs
  obtain ⟨n1, n2⟩ := List.nodup_cons.1 hnd
  obtain ⟨n3, n4, n5⟩ := List.nodup_append.1 n2
  obtain ⟨n6, n7, n8⟩ := List.nodup_append.1 n4
  have hlt := h.lt
  have hT : ∀ k ∈ T, wz.heap[k]? = w.heap[k]? := fun k hk => hm.only.block k (hlt k (by simp [ownList, hk])) (by
    intro hm
    rcases List.mem_cons.1 hm with e | hm
    · exact n1 (by rw [← e]; simp [hk])
    · exact n5 k hk k (by simp [hm]) rfl)
  have hC : ∀ k ∈ cmdBlocks kt dt mt, wz.heap[k]? = w.heap[k]? := fun k hk => hm.only.block k (ht.lt k hk) (by
    intro hm
    rcases List.mem_cons.1 hm with e | hm
    · exact n1 (by rw [← e]; simp [hk])
    · exact n8 k hm k hk rfl)
  have hov : ∀ k ∈ rowBlock ov', k ∉ fb :: (T ++ cmdBlocks kt dt mt) := by
    intro k hk hmem
    rcases hm.lies k hk with h1 | h1
    · rcases List.mem_cons.1 hmem with e | hmem
      · exact n1 (by rw [← e]; simp [h1])
      · rcases List.mem_append.1 hmem with h2 | h2
        · exact n5 k h2 k (by simp [h1]) rfl
        · exact n8 k h1 k h2 rfl
    · rcases List.mem_cons.1 hmem with e | hmem
      · have := hlt fb (by simp); omega
      · rcases List.mem_append.1 hmem with h2 | h2
        · have := hlt k (by simp [ownList, h2]); omega
        · have := ht.lt k h2; omega
  have ho1 : ∀ k ∈ rowBlock ov', k = k := fun _ _ => rfl
  have hlen : (s.done t).out.length = s.out.length + 1 := by simp [Sp.FeedV.done]
  refine ⟨rfl, ov', tc ++ stepCells (t.span s.frm s.taken) kt dt mt, ⟨hm.blk, ?_, ?_, World.ownsRow_nil _ 0 _ 1, World.ownsRow_nil _ 0 _ 1, World.ownsRow_nil _ 0 _ 1, World.ownsRow_nil _ 0 _ 3, ?_, ?_, rfl⟩, hm.lies, hm.only⟩
  · rw [hlen, ← stepArr_list]
    exact hm.out
  · exact (h.told.same hT).snoc (t := t.span s.frm s.taken) (ht.same hC)
  · have e : ownList (T ++ cmdBlocks kt dt mt) ov' nilRow nilRow nilRow nilRow = (T ++ cmdBlocks kt dt mt) ++ rowBlock ov' := by simp [ownList, rowBlock_nil]
    rw [e]
    refine List.nodup_cons.2 ⟨?_, List.nodup_append.2 ⟨List.nodup_append.2 ⟨n3, n7, fun a ha b hb => n5 a ha b (by simp [hb])⟩, ?_, ?_⟩⟩
    · intro hmem
      rcases List.mem_append.1 hmem with h2 | h2
      · rcases List.mem_append.1 h2 with h2 | h2
        · exact n1 (by simp [h2])
        · exact n1 (by simp [h2])
      · exact hov fb h2 (by simp)
    · unfold rowBlock; cases ov'.ownBlock <;> simp
    · intro a ha b hb e
      subst e
      exact hov a hb (List.mem_cons_of_mem _ ha)
  · intro k hk
    simp only [ownList, rowBlock_nil, List.append_nil, List.mem_cons, List.mem_append] at hk
    rcases hk with rfl | (hk | hk) | hk
    · exact h.low _ (by simp)
    · exact h.low k (by simp [ownList, hk])
    · exact hlow k hk
    · rcases hm.lies k hk with h1 | h1
      · exact h.low k (by simp [ownList, h1])
      · omega

set_option maxHeartbeats 4000000 in
set_option maxRecDepth 100000 in
theorem done_any (h : FeedAt w fb lim s ov ln dv kv mv tc T) {N : Nat} (hN : s.Fits N) (hN2 : N ≤ 1000000000) (t : Sp.StepV) {kt dt mt : Value} (ht : CmdMem w t.cmd kt dt mt)
    (hnd : (fb :: (T ++ (rowBlock ov ++ cmdBlocks kt dt mt))).Nodup) (hlow : ∀ k ∈ cmdBlocks kt dt mt, 8 ≤ k) (hg : 8 ≤ w.heap.size) :
    Calls Tryz.prog 138 #[.pointer (some ⟨fb, 0, none⟩), stepV t kt dt mt] w (DonePost w fb lim s t kt dt mt ov T) := by
  have x2 := h.blk.cell 2
  have x3 := h.blk.cell 3
  have x4 := h.blk.cell 4
  change w.cell? ⟨fb, 2, none⟩ = some ov at x2
  change w.cell? ⟨fb, 3, none⟩ = some (.int .i64 s.taken) at x3
  change w.cell? ⟨fb, 4, none⟩ = some (.int .i64 s.frm) at x4
  have f2 := h.blk.frozen 2
  have f4 := h.blk.frozen 4
  have hlt := h.blk.lt
  have hk1 := own_one ht.keys
  have hk2 := own_one ht.data
  have hk3 := own_one ht.metas
  have hn := hN.out
  have H := Lib.hid h
  have HT := Lib.hid ht
  clear h ht
  have he := fun (cs : Array Value) (wz : World) (ov' : Value) (hm : DoneMid w fb cs ov s.out.length tc (stepArr (t.span s.frm s.taken) kt dt mt) wz ov') (hcs : cs = feedCells fb lim (s.done t) ov' nilRow nilRow nilRow nilRow) => DoneMid.end H.out HT.out hnd hlow hg hm hcs
  generalize hR : DonePost w fb lim s t kt dt mt ov T = R at he ⊢
  clear hR
  have HE := Lib.hid he
  clear he
  obtain ⟨⟨V, K, F, E, Tk, D, Dt, Nr, Lg, M, W⟩, ⟨wk, wt, wp⟩, fr0, to0⟩ := t
  go_enter Tryz.func138, Tryz.ntmps138
  go_upto_region 1 with (fail)
  go_cut [3] (fun p wx => p = .pointer (some ⟨w.heap.size, 0, none⟩) ∧ Blk wx w.heap.size 99 (stepArr ⟨⟨V, K, F, E, Tk, D, Dt, Nr, Lg, M, W⟩, ⟨wk, wt, wp⟩, s.frm, s.taken⟩ kt dt mt) ∧ Below w.heap.size w wx)
  case first =>
    go_region
    all_goals (go_wp2_with fail; go_meet)
    all_goals exact ⟨rfl, (Blk.new _ _ _).drew, ((Below.refl _ _).alloc (Nat.le_refl _) _).drew⟩
  case rest =>
    obtain ⟨rfl, hsb, hb1⟩ := hcut
    go_upto_region 2 with (fail)
    go_cut [] (fun wy => ∃ ov', DoneMid w fb ((feedCells fb lim s ov ln dv kv mv).setIfInBounds 2 ov') ov s.out.length tc (stepArr ⟨⟨V, K, F, E, Tk, D, Dt, Nr, Lg, M, W⟩, ⟨wk, wt, wp⟩, s.frm, s.taken⟩ kt dt mt) wy ov')
    case first =>
      have y0 : _ = some (Value.int .i64 V) := (hsb).cell 0
      have y1 : _ = some (kt) := (hsb).cell 1
      have y2 : _ = some (Value.int .u64 F) := (hsb).cell 2
      have y3 : _ = some (Value.int .i64 E) := (hsb).cell 3
      have y4 : _ = some (Value.int .u64 Tk) := (hsb).cell 4
      have y5 : _ = some (Value.int .u64 D) := (hsb).cell 5
      have y6 : _ = some (dt) := (hsb).cell 6
      have y7 : _ = some (Value.bool Nr) := (hsb).cell 7
      have y8 : _ = some (Value.bool Lg) := (hsb).cell 8
      have y9 : _ = some (mt) := (hsb).cell 9
      have y10 : _ = some (str W) := (hsb).cell 10
      have y11 : _ = some (Value.int .i64 wk) := (hsb).cell 11
      have y12 : _ = some (str wt) := (hsb).cell 12
      have y13 : _ = some (Value.int .i64 wp) := (hsb).cell 13
      have y14 : _ = some (Value.int .i64 s.frm) := (hsb).cell 14
      have y15 : _ = some (Value.int .i64 s.taken) := (hsb).cell 15
      have xx2 : wc.cell? ⟨fb, 2, none⟩ = some ov := (hb1.cell (p := ⟨fb, 2, none⟩) hlt).trans x2
      have ff2 : wc.frozen? ⟨fb, 2, none⟩ = false := (H.out.blk.later hb1).frozen 2
      have hltc : fb < wc.heap.size := Nat.lt_of_lt_of_le hlt hb1.size
      have hout := own_later H.out.out hb1
      have hblk := H.out.blk.later hb1
      obtain ⟨i0, hi, hz0, hz1, hz2⟩ := info_parts info_step
      have HO := Lib.hid hout
      have HB := Lib.hid hblk
      have HB1 := Lib.hid hb1
      have HSB := Lib.hid hsb
      clear hout hblk hb1 hsb
      go_region_law (refine step_append_lies _ rfl (.tmp 18) (.tmp 20) _ rfl 0 99 i0 _ 16 184 Tryz.underlying69 hi hz0 hz1 hz2 rfl (by decide) ov s.out.length tc rfl ?_ ⟨wc.heap.size, 0, none⟩ 1 1 _ rfl ?_ (cells_new_drew _ _ _) ?_ (by decide) ?_ ?_ ?_ (wc.heap.size + 1) ?_ ?_; exact (own_later HO.out ((Below.refl _ _).alloc (Nat.le_refl _) _)).drew; rfl; (intro u hu; simp at hu; rcases hu with rfl | rfl | rfl | rfl | rfl | rfl | rfl | rfl | rfl | rfl | rfl | rfl | rfl | rfl | rfl | rfl <;> first | rfl | assumption); (unfold maxLen; omega); omega; omega; simp; intro g cap w2 hown2 hg2 hat2 hlt2; have hm2 := DoneMid.new H.out HB1.out HSB.out hg2 hown2 (by rfl) hat2; have Hm2 := Lib.hid hm2; clear hm2 hown2 hat2 hlt2; have b2 := ((HB.out.alloc _).drew).grown hg2 (fun e => own_apart H.out.out H.out.blk (by decide) e.symm); clear hg2; have y2 := b2.cell 2; have g2 := b2.frozen 2; clear b2; change w2.cell? ⟨fb, 2, none⟩ = some ov at y2)
      all_goals
        go_wp2_with fail
        go_meet
        exact ⟨_, Hm2.out⟩
    case rest =>
      obtain ⟨ov', hm⟩ := hcut
      have y1 : _ = some (modeFn fb s.mode) := (hm.blk).cell 1
      have g1 := (hm.blk).frozen 1
      have y3 : _ = some (Value.int .i64 s.taken) := (hm.blk).cell 3
      have g3 := (hm.blk).frozen 3
      have y4 : _ = some (Value.int .i64 s.frm) := (hm.blk).cell 4
      have g4 := (hm.blk).frozen 4
      have y5 : _ = some (Value.int .i64 s.held) := (hm.blk).cell 5
      have g5 := (hm.blk).frozen 5
      have y6 : _ = some (Value.bool s.ended) := (hm.blk).cell 6
      have g6 := (hm.blk).frozen 6
      have y7 : _ = some (ln) := (hm.blk).cell 7
      have g7 := (hm.blk).frozen 7
      have y8 : _ = some (Value.bool s.long) := (hm.blk).cell 8
      have g8 := (hm.blk).frozen 8
      have y25 : _ = some (dv) := (hm.blk).cell 25
      have g25 := (hm.blk).frozen 25
      have hth := hm.blk.can 9 16 (by simp [feedCells])
      have s0 : _ = some (Value.int .i64 V) := hm.sblk.cell 0
      have HM := Lib.hid hm
      clear hm hsb
      go_upto_region 4 with (fail)
      go_cut [] (fun wz => DoneMid w fb (struck fb lim s ov') ov s.out.length tc (stepArr ⟨⟨V, K, F, E, Tk, D, Dt, Nr, Lg, M, W⟩, ⟨wk, wt, wp⟩, s.frm, s.taken⟩ kt dt mt) wz ov')
      case first =>
        go_wp2_with fail
        go_meet
        have h4 := ((HM.out.put 4 (.int .i64 s.taken)).put 7 nilRow).put 25 nilRow
        have h5 := DoneMid.puts zeroCells 9 h4
        rw [struck_eq] at h5
        exact h5
      case rest =>
        clear HM y1 y3 y4 y5 y6 y7 y8 y25 s0
        have y1 : _ = some (modeFn fb s.mode) := (hcut.blk).cell 1
        have g1 := (hcut.blk).frozen 1
        have y5 : _ = some (Value.int .i64 s.held) := (hcut.blk).cell 5
        have g5 := (hcut.blk).frozen 5
        have y6 : _ = some (Value.bool s.ended) := (hcut.blk).cell 6
        have g6 := (hcut.blk).frozen 6
        have y8 : _ = some (Value.bool s.long) := (hcut.blk).cell 8
        have g8 := (hcut.blk).frozen 8
        have s0 : _ = some (Value.int .i64 V) := hcut.sblk.cell 0
        have HM := Lib.hid hcut
        clear hcut
        by_cases hV : V = 18
        · subst hV
          go_wp2_with fail
          go_end0
          refine HE.out _ _ ov' (((((HM.out.put 5 (.int .i64 0)).put 8 (.bool false)).put 1 (modeFn fb .inLine)).put 6 (.bool true)).put 1 (modeFn fb .over)) ?_
          simp [struck, feedCells, Sp.FeedV.done]
        · go_wp2_with fail
          go_end0
          refine HE.out _ _ ov' (((HM.out.put 5 (.int .i64 0)).put 8 (.bool false)).put 1 (modeFn fb .inLine)) ?_
          simp [struck, feedCells, Sp.FeedV.done, hV]
end
end Go.Proofs.YthgfjafnclklpaaGreatDoor
end
section
namespace Go.Proofs.YthgfjafnclklpaaGreatDoor
attribute [local go_sem ↓] Go.wp_at_zero Go.wp_at_succ
open Go.RowKit
attribute [-go_sem] storeVar
attribute [local go_sem] run_store_step storeVar_int' storeVar_bool' storeVar_slice' storeVar_func' canPut_setCell

/-- how the state's function leaves the Feeder -/
def NextPost (w : World) (fb lim : Nat) (s' : Sp.FeedV) (O : List Nat) (e : Ending) (w' : World) : Prop :=
  e = .returned (.tuple #[]) ∧ ∃ ov' ln' dv' kv' mv' tc' T', FeedAt w' fb lim s' ov' ln' dv' kv' mv' tc' T' ∧ (∀ k ∈ ownList T' ov' ln' dv' kv' mv', k ∈ O ∨ w.heap.size ≤ k) ∧ OnlyIn (fb :: O) w w'

theorem DonePost.next {w w1 w' : World} {fb lim : Nat} {s : Sp.FeedV} {t : Sp.StepV} {kt dt mt ov : Value} {T O : List Nat} {e : Ending} (h : DonePost w1 fb lim s t kt dt mt ov T e w') (ho : OnlyIn (fb :: O) w w1)
    (hT : ∀ k ∈ T, k ∈ O ∨ w.heap.size ≤ k) (hov : ∀ k ∈ rowBlock ov, k ∈ O ∨ w.heap.size ≤ k) (hC : ∀ k ∈ cmdBlocks kt dt mt, k ∈ O ∨ w.heap.size ≤ k) : NextPost w fb lim (s.done t) O e w' := by
  obtain ⟨rfl, ov', tc', h1, h2, h3⟩ := h
  refine ⟨rfl, ov', nilRow, nilRow, nilRow, nilRow, tc', _, h1, ?_, ho.trans h3 ?_⟩
  · intro k hk
    simp only [ownList, rowBlock_nil, List.append_nil, List.mem_append] at hk
    rcases hk with (hk | hk) | hk
    · exact hT k hk
    · exact hC k hk
    · rcases h2 k hk with h | h
      · exact hov k h
      · right; have := ho.size; omega
  · intro k hk
    rcases List.mem_cons.1 hk with rfl | hk
    · left; simp
    · rcases hov k hk with h | h
      · left; simp [h]
      · exact .inr h

theorem NextPost.of {w w' : World} {fb lim : Nat} {s' : Sp.FeedV} {ov ln dv kv mv : Value} {tc : List Value} {T O : List Nat} (h : FeedAt w' fb lim s' ov ln dv kv mv tc T) (hO : ∀ k ∈ ownList T ov ln dv kv mv, k ∈ O ∨ w.heap.size ≤ k) (ho : OnlyIn (fb :: O) w w') :
    NextPost w fb lim s' O (.returned (.tuple #[])) w' := ⟨rfl, _, _, _, _, _, _, _, h, hO, ho⟩

theorem NextPost.from {w w1 w' : World} {fb lim : Nat} {s' : Sp.FeedV} {O : List Nat} {e : Ending} (h : NextPost w1 fb lim s' O e w') (ho : OnlyIn (fb :: O) w w1) : NextPost w fb lim s' O e w' := by
  obtain ⟨rfl, ov', ln', dv', kv', mv', tc', T', h1, h2, h3⟩ := h
  refine ⟨rfl, ov', ln', dv', kv', mv', tc', T', h1, fun k hk => ?_, ho.trans h3 (fun k hk => .inl hk)⟩
  rcases h2 k hk with h | h
  · exact .inl h
  · right; have := ho.size; omega

section
variable {w : World} {fb lim : Nat} {s : Sp.FeedV} {ov ln dv kv mv : Value} {tc : List Value} {T : List Nat}

theorem ownList_noLine {k : Nat} (hk : k ∈ ownList T ov nilRow dv kv mv) : k ∈ ownList T ov ln dv kv mv := by
  simp only [ownList, rowBlock_nil, List.nil_append, List.mem_append] at hk ⊢
  rcases hk with hk | hk | hk | hk | hk <;> simp [hk]
theorem ownList_noData {k : Nat} (hk : k ∈ ownList T ov ln nilRow kv mv) : k ∈ ownList T ov ln dv kv mv := by
  simp only [ownList, rowBlock_nil, List.nil_append, List.mem_append] at hk ⊢
  rcases hk with hk | hk | hk | hk | hk <;> simp [hk]

theorem over_any (h : FeedAt w fb lim s ov ln dv kv mv tc T) (b : UInt8) :
    Calls Tryz.prog 157 #[.pointer (some ⟨fb, 0, none⟩), .int .u8 b.toNat] w (NextPost w fb lim s (ownList T ov ln dv kv mv)) := by
  have hp : NextPost w fb lim s (ownList T ov ln dv kv mv) (.returned (.tuple #[])) w := NextPost.of h (fun k hk => .inl hk) (OnlyIn.refl _ _)
  generalize NextPost w fb lim s (ownList T ov ln dv kv mv) = R at hp ⊢
  have HP := Lib.hid hp
  clear hp h
  go_enter Tryz.func157, Tryz.ntmps157
  go_wp2
  go_end0
  exact HP.out

set_option maxHeartbeats 4000000 in
theorem pass_any (h : FeedAt w fb lim s ov ln dv kv mv tc T) (n : Nat) :
    Calls Tryz.prog 139 #[.pointer (some ⟨fb, 0, none⟩), .int .i64 n] w (NextPost w fb lim (s.passTo n) (ownList T ov ln dv kv mv)) := by
  have hp := fun (w' : World) (h' : FeedAt w' fb lim (s.passTo n) ov nilRow dv kv mv tc T) (ho : OnlyIn (fb :: ownList T ov ln dv kv mv) w w') => NextPost.of h' (fun k hk => .inl (ownList_noLine (ln := ln) hk)) ho
  generalize NextPost w fb lim (s.passTo n) (ownList T ov ln dv kv mv) = R at hp ⊢
  have x1 : _ = some (modeFn fb s.mode) := (h.blk).cell 1
  have f1 := (h.blk).frozen 1
  have x5 : _ = some (Value.int .i64 s.held) := (h.blk).cell 5
  have f5 := (h.blk).frozen 5
  have x7 : _ = some (ln) := (h.blk).cell 7
  have f7 := (h.blk).frozen 7
  have x26 : _ = some (Value.int .i64 s.need) := (h.blk).cell 26
  have f26 := (h.blk).frozen 26
  have H := Lib.hid h
  have HP := Lib.hid hp
  clear h hp
  go_enter Tryz.func139, Tryz.ntmps139
  go_wp2
  go_end0
  refine HP.out _ ?_ ?_
  · exact (((H.out.put (s' := { s with need := n }) 26 (.int .i64 n) (by kernel_rfl) rfl rfl rfl rfl rfl rfl).noLine).put (s' := { s with need := n, line := [], held := 0 }) 5 (.int .i64 0) (by kernel_rfl) rfl rfl rfl rfl rfl rfl).put 1 (modeFn fb .passing) (by kernel_rfl) rfl rfl rfl rfl rfl rfl
  · exact ((((OnlyIn.refl _ w).setCell (.inl (by simp)) 26 _).setCell (.inl (by simp)) 7 _).setCell (.inl (by simp)) 5 _).setCell (.inl (by simp)) 1 _

theorem FeedAt.stepMem (h : FeedAt w fb lim s ov ln dv kv mv tc T) : CmdMem w s.step.cmd kv nilRow mv :=
  ⟨h.keys, by rw [h.bare]; exact World.ownsRow_nil w 0 _ 1, h.metas⟩
theorem FeedAt.stepNodup (h : FeedAt w fb lim s ov ln dv kv mv tc T) : (fb :: (T ++ (rowBlock ov ++ cmdBlocks kv nilRow mv))).Nodup := by
  refine ownList_nodup h.nodup ?_
  unfold ownList cmdBlocks
  rw [rowBlock_nil, List.nil_append]
  refine List.Sublist.append_left (List.Sublist.append_left ?_ _) _
  exact List.Sublist.trans (List.Sublist.append_left (List.sublist_append_right _ _) _) (List.sublist_append_right _ _)
theorem FeedAt.dataNodup (h : FeedAt w fb lim s ov ln dv kv mv tc T) : (fb :: (T ++ (rowBlock ov ++ cmdBlocks kv dv mv))).Nodup := by
  refine ownList_nodup h.nodup ?_
  unfold ownList cmdBlocks
  refine List.Sublist.append_left (List.Sublist.append_left ?_ _) _
  exact List.sublist_append_right _ _
theorem stepBlocks_own {k : Nat} (hk : k ∈ cmdBlocks kv nilRow mv) : k ∈ ownList T ov ln dv kv mv := by
  simp only [cmdBlocks, ownList, rowBlock_nil, List.nil_append, List.mem_append] at hk ⊢
  rcases hk with hk | hk <;> simp [hk]
theorem dataBlocks_own {k : Nat} (hk : k ∈ cmdBlocks kv dv mv) : k ∈ ownList T ov ln dv kv mv := by
  simp only [cmdBlocks, ownList, List.mem_append] at hk ⊢
  rcases hk with hk | hk | hk <;> simp [hk]
theorem told_own {k : Nat} (hk : k ∈ T) : k ∈ ownList T ov ln dv kv mv := by simp [ownList, hk]
theorem out_own {k : Nat} (hk : k ∈ rowBlock ov) : k ∈ ownList T ov ln dv kv mv := by simp [ownList, hk]

/-- the step at hand is told -/
theorem done_step (h : FeedAt w fb lim s ov ln dv kv mv tc T) {N : Nat} (hN : s.Fits N) (hN2 : N ≤ 1000000000) (hg : 8 ≤ w.heap.size) {w0 : World} (ho : OnlyIn (fb :: ownList T ov ln dv kv mv) w0 w) :
    Calls Tryz.prog 138 #[.pointer (some ⟨fb, 0, none⟩), stepV s.step kv nilRow mv] w (NextPost w0 fb lim (s.done s.step) (ownList T ov ln dv kv mv)) :=
  (done_any h hN hN2 s.step h.stepMem h.stepNodup (fun k hk => h.low k (List.mem_cons_of_mem _ (stepBlocks_own hk))) hg).mono fun _ _ hd =>
    hd.next ho (fun _ hk => .inl (told_own hk)) (fun _ hk => .inl (out_own hk)) (fun _ hk => .inl (stepBlocks_own hk))

theorem feedByte_ne {b : UInt8} (n : Nat) (_ : n < 256) (h : ¬ b = UInt8.ofNat n) : ((b.toNat : Int) == (n : Int)) = false := by
  have h2 : b.toNat ≠ n := fun e => h (by rw [← e]; simp)
  simp
  omega

set_option maxHeartbeats 4000000 in
set_option maxRecDepth 100000 in
theorem passing_any (h : FeedAt w fb lim s ov ln dv kv mv tc T) {N : Nat} (hN : s.Fits N) (hN2 : N + 1 ≤ 1000000000) (hg : 8 ≤ w.heap.size) (b : UInt8) :
    Calls Tryz.prog 158 #[.pointer (some ⟨fb, 0, none⟩), .int .u8 b.toNat] w (NextPost w fb lim (s.passing b) (ownList T ov ln dv kv mv)) := by
  have h1 : FeedAt (w.setCell ⟨fb, 27, none⟩ (.int .i64 ((s.got : Int) + 1))) fb lim { s with got := s.got + 1 } ov ln dv kv mv tc T := h.put 27 _ (by kernel_rfl) rfl rfl rfl rfl rfl rfl
  have ho1 : OnlyIn (fb :: ownList T ov ln dv kv mv) w (w.setCell ⟨fb, 27, none⟩ (.int .i64 ((s.got : Int) + 1))) := (OnlyIn.refl _ w).setCell (.inl (by simp)) 27 _
  have hN1 : ({ s with got := s.got + 1 } : Sp.FeedV).Fits (N + 1) := fits_got hN
  have hgot := hN.got
  have hneed := hN.need
  have hsz : (w.setCell ⟨fb, 27, none⟩ (.int .i64 ((s.got : Int) + 1))).heap.size = w.heap.size := by simp [World.setCell]
  have x26 : _ = some (Value.int .i64 s.need) := (h.blk).cell 26
  have f26 := (h.blk).frozen 26
  have x27 : _ = some (Value.int .i64 s.got) := (h.blk).cell 27
  have f27 := (h.blk).frozen 27
  by_cases hc : s.need < s.got + 1 ∧ b = 10
  · obtain ⟨hc1, rfl⟩ := hc
    have hs : s.passing 10 = ({ s with got := s.got + 1 } : Sp.FeedV).done s.step := by unfold Sp.FeedV.passing; rw [if_pos ⟨hc1, rfl⟩]
    have hd := fun (W : World) (hb : Below (w.setCell ⟨fb, 27, none⟩ (.int .i64 ((s.got : Int) + 1))).heap.size (w.setCell ⟨fb, 27, none⟩ (.int .i64 ((s.got : Int) + 1))) W) =>
      (done_step (h1.later hb) hN1 hN2 (by have := hb.size; omega) (ho1.later hb)).mono fun e w' h => And.intro h.1 h
    rw [hs]
    generalize NextPost w fb lim (({ s with got := s.got + 1 } : Sp.FeedV).done s.step) (ownList T ov ln dv kv mv) = R at hd ⊢
    have hc2 : (s.need : Int) < (s.got : Int) + 1 := by omega
    have HD := Lib.hid hd
    have H1 := Lib.hid h1
    clear hd h1 ho1 hs h hN hN1 hsz
    go_enter Tryz.func158, Tryz.ntmps158
    go_upto_region 1 with (fail)
    go_cut [23] (fun q wx => q = .bool true ∧ Below (w.setCell ⟨fb, 27, none⟩ (.int .i64 ((s.got : Int) + 1))).heap.size (w.setCell ⟨fb, 27, none⟩ (.int .i64 ((s.got : Int) + 1))) wx)
    case first =>
      go_region
      all_goals (go_wp2_with fail; go_meet)
      all_goals exact ⟨rfl, (Below.refl _ _).drew⟩
    case rest =>
      obtain ⟨rfl, hb⟩ := hcut
      have y9 : _ = some (Value.int .i64 s.step.cmd.verb) := ((H1.out.later hb).blk).cell 9
      have g9 := ((H1.out.later hb).blk).frozen 9
      have y10 : _ = some (kv) := ((H1.out.later hb).blk).cell 10
      have g10 := ((H1.out.later hb).blk).frozen 10
      have y11 : _ = some (Value.int .u64 s.step.cmd.flags) := ((H1.out.later hb).blk).cell 11
      have g11 := ((H1.out.later hb).blk).frozen 11
      have y12 : _ = some (Value.int .i64 s.step.cmd.exptime) := ((H1.out.later hb).blk).cell 12
      have g12 := ((H1.out.later hb).blk).frozen 12
      have y13 : _ = some (Value.int .u64 s.step.cmd.token) := ((H1.out.later hb).blk).cell 13
      have g13 := ((H1.out.later hb).blk).frozen 13
      have y14 : _ = some (Value.int .u64 s.step.cmd.delta) := ((H1.out.later hb).blk).cell 14
      have g14 := ((H1.out.later hb).blk).frozen 14
      have y15 : _ = some (nilRow) := ((H1.out.later hb).blk).cell 15
      have g15 := ((H1.out.later hb).blk).frozen 15
      have y16 : _ = some (Value.bool s.step.cmd.noreply) := ((H1.out.later hb).blk).cell 16
      have g16 := ((H1.out.later hb).blk).frozen 16
      have y17 : _ = some (Value.bool s.step.cmd.large) := ((H1.out.later hb).blk).cell 17
      have g17 := ((H1.out.later hb).blk).frozen 17
      have y18 : _ = some (mv) := ((H1.out.later hb).blk).cell 18
      have g18 := ((H1.out.later hb).blk).frozen 18
      have y19 : _ = some (str s.step.cmd.what) := ((H1.out.later hb).blk).cell 19
      have g19 := ((H1.out.later hb).blk).frozen 19
      have y20 : _ = some (Value.int .i64 s.step.wrong.kind) := ((H1.out.later hb).blk).cell 20
      have g20 := ((H1.out.later hb).blk).frozen 20
      have y21 : _ = some (str s.step.wrong.text) := ((H1.out.later hb).blk).cell 21
      have g21 := ((H1.out.later hb).blk).frozen 21
      have y22 : _ = some (Value.int .i64 s.step.wrong.pass) := ((H1.out.later hb).blk).cell 22
      have g22 := ((H1.out.later hb).blk).frozen 22
      have y23 : _ = some (Value.int .i64 s.step.frm) := ((H1.out.later hb).blk).cell 23
      have g23 := ((H1.out.later hb).blk).frozen 23
      have y24 : _ = some (Value.int .i64 s.step.to) := ((H1.out.later hb).blk).cell 24
      have g24 := ((H1.out.later hb).blk).frozen 24
      have HB := Lib.hid hb
      clear hb x26 x27 f26 f27
      go_wp2_with (refine (HD.out _ HB.out).mono ?_; rintro e w9 ⟨rfl, hR⟩)
      go_end0
      exact hR
  · have hs : s.passing b = { s with got := s.got + 1 } := by unfold Sp.FeedV.passing; rw [if_neg hc]
    have hd : NextPost w fb lim (s.passing b) (ownList T ov ln dv kv mv) (.returned (.tuple #[])) (w.setCell ⟨fb, 27, none⟩ (.int .i64 ((s.got : Int) + 1))).drew := by
      rw [hs]
      exact NextPost.of (h1.later (Below.refl _ _).drew) (fun k hk => .inl hk) (ho1.later (Below.refl _ _).drew)
    generalize NextPost w fb lim (s.passing b) (ownList T ov ln dv kv mv) = R at hd ⊢
    have HD := Lib.hid hd
    clear hd h1 ho1 hs h hN hN1 hsz
    by_cases hc1 : s.need < s.got + 1
    · have hb := feedByte_ne (b := b) 10 (by omega) (fun e => hc ⟨hc1, e⟩)
      have hc2 : (s.need : Int) < (s.got : Int) + 1 := by omega
      go_enter Tryz.func158, Tryz.ntmps158
      go_upto_region 1 with (fail)
      go_region
      all_goals (go_wp2; go_end0; exact HD.out)
    · have hc2 : ¬ (s.need : Int) < (s.got : Int) + 1 := by omega
      go_enter Tryz.func158, Tryz.ntmps158
      go_upto_region 1 with (fail)
      go_region
      all_goals (go_wp2; go_end0; exact HD.out)
end
end Go.Proofs.YthgfjafnclklpaaGreatDoor
end
section
namespace Go.Proofs.YthgfjafnclklpaaGreatDoor
open Go.RowKit

theorem nodup_insert {fb : Nat} {A R B : List Nat} (h : (fb :: (A ++ (R ++ B))).Nodup) {g : Nat} (hg : R = [g] ∨ ∀ k ∈ fb :: (A ++ (R ++ B)), k ≠ g) : (fb :: (A ++ ([g] ++ B))).Nodup := by
  rcases hg with rfl | hg
  · exact h
  · obtain ⟨n1, n2⟩ := List.nodup_cons.1 h
    obtain ⟨n3, n4, n5⟩ := List.nodup_append.1 n2
    obtain ⟨n6, n7, n8⟩ := List.nodup_append.1 n4
    refine List.nodup_cons.2 ⟨?_, List.nodup_append.2 ⟨n3, List.nodup_append.2 ⟨by simp, n7, ?_⟩, ?_⟩⟩
    · intro hm
      rcases List.mem_append.1 hm with hm | hm
      · exact n1 (by simp [hm])
      · rcases List.mem_append.1 hm with hm | hm
        · simp at hm; exact hg fb (by simp) hm
        · exact n1 (by simp [hm])
    · intro a ha b hb e
      simp at ha
      subst ha; subst e
      exact hg a (by simp [hb]) rfl
    · intro a ha b hb e
      subst e
      rcases List.mem_append.1 hb with hb | hb
      · simp at hb; subst hb; exact hg a (by simp [ha]) rfl
      · exact n5 a ha a (by simp [hb]) rfl

section
variable {w w2 : World} {fb lim : Nat} {s : Sp.FeedV} {ov ln dv kv mv : Value} {tc : List Value} {T : List Nat}

theorem ownList_line (T : List Nat) (ov ln dv kv mv : Value) : ownList T ov ln dv kv mv = (T ++ rowBlock ov) ++ (rowBlock ln ++ (rowBlock kv ++ (rowBlock dv ++ rowBlock mv))) := by simp [ownList]
theorem ownList_data (T : List Nat) (ov ln dv kv mv : Value) : ownList T ov ln dv kv mv = (T ++ (rowBlock ov ++ (rowBlock ln ++ rowBlock kv))) ++ (rowBlock dv ++ rowBlock mv) := by simp [ownList]

theorem nodup_apart {fb : Nat} {A R B : List Nat} (h : (fb :: (A ++ (R ++ B))).Nodup) : ∀ k ∈ fb :: (A ++ B), k ∉ R := by
  obtain ⟨n1, n2⟩ := List.nodup_cons.1 h
  obtain ⟨n3, n4, n5⟩ := List.nodup_append.1 n2
  obtain ⟨n6, n7, n8⟩ := List.nodup_append.1 n4
  intro k hk hm
  rcases List.mem_cons.1 hk with rfl | hk
  · exact n1 (by simp [hm])
  · rcases List.mem_append.1 hk with hk | hk
    · exact n5 k hk k (by simp [hm]) rfl
    · exact n8 k hm k hk rfl

theorem FeedAt.moreLine (h : FeedAt w fb lim s ov ln dv kv mv tc T) {o : Obj} {b : UInt8} {g cap : Nat} (hg2 : (w.alloc o).grownBy w2 ln.ownBlock)
    (hown2 : w2.ownsRow 0 5 1 (.slice (some ⟨g, 0, none⟩) (s.line.length + 1) cap) (s.line.length + 1) (bytesV s.line ++ [.int .u8 b.toNat])) (hat : ln.ownBlock = some g ∨ g = (w.alloc o).heap.size) (hsz : 8 ≤ w.heap.size) :
    FeedAt (w2.setCell ⟨fb, 7, none⟩ (.slice (some ⟨g, 0, none⟩) (s.line.length + 1) cap)) fb lim { s with line := s.line ++ [b] } ov (.slice (some ⟨g, 0, none⟩) (s.line.length + 1) cap) dv kv mv tc T ∧
      (∀ k ∈ ownList T ov (.slice (some ⟨g, 0, none⟩) (s.line.length + 1) cap) dv kv mv, k ∈ ownList T ov ln dv kv mv ∨ w.heap.size ≤ k) ∧
      OnlyIn (fb :: ownList T ov ln dv kv mv) w (w2.setCell ⟨fb, 7, none⟩ (.slice (some ⟨g, 0, none⟩) (s.line.length + 1) cap)) := by
  have hb : Below w.heap.size w (w.alloc o) := (Below.refl _ _).alloc (Nat.le_refl _) o
  have hs1 : (w.alloc o).heap.size = w.heap.size + 1 := by simp
  have h1 := h.later hb
  have hnd := h.nodup
  rw [ownList_line] at hnd
  have hap := nodup_apart hnd
  have hlt := h.lt
  have hgl : rowBlock ln = [g] ∨ ∀ k ∈ fb :: ownList T ov ln dv kv mv, k ≠ g := by
    rcases hat with e | e
    · left; simp [rowBlock, e]
    · right; intro k hk e2; have := hlt k hk; omega
  have hgf : g ≠ fb := by
    rcases hat with e | e
    · intro e2; exact hap fb (by simp) (mem_rowBlock.2 (by rw [e, e2]))
    · intro e2; have := hlt fb (by simp); omega
  have hgk : ∀ k ∈ (T ++ rowBlock ov) ++ (rowBlock kv ++ (rowBlock dv ++ rowBlock mv)), (w2.setCell ⟨fb, 7, none⟩ (.slice (some ⟨g, 0, none⟩) (s.line.length + 1) cap)).heap[k]? = (w.alloc o).heap[k]? := by
    intro k hk
    have hkm : k ∈ ownList T ov ln dv kv mv := by
      rw [ownList_line]
      rcases List.mem_append.1 hk with hk | hk
      · exact List.mem_append_left _ hk
      · exact List.mem_append_right _ (List.mem_append_right _ hk)
    have hkf : k ≠ fb := fun e => h.fb_notin (e ▸ hkm)
    rw [Below.heap_setCell w2 ⟨fb, 7, none⟩ _ k hkf]
    exact hg2.block k (by have := hlt k (by simp [hkm]); omega) (fun e => hap k (List.mem_cons_of_mem _ hk) (mem_rowBlock.2 e.symm))
  have b2 := h1.blk.grown hg2 (fun e => hap fb (by simp) (mem_rowBlock.2 e.symm))
  refine ⟨⟨b2.put 7 _, own_same h1.out fun k hk => hgk k (by simp [hk]), h1.told.same fun k hk => hgk k (by simp [hk]), ?_, own_same h1.data fun k hk => hgk k (by simp [hk]), own_same h1.keys fun k hk => hgk k (by simp [hk]),
    own_same h1.metas fun k hk => hgk k (by simp [hk]), ?_, ?_, h.bare⟩, ?_, ?_⟩
  · have e1 : (s.line ++ [b]).length = s.line.length + 1 := by simp
    have e2 : bytesV (s.line ++ [b]) = bytesV s.line ++ [.int .u8 b.toNat] := by rw [bytesV_append]; rfl
    show (w2.setCell _ _).ownsRow 0 _ 1 _ (s.line ++ [b]).length (bytesV (s.line ++ [b]))
    rw [e1, e2]
    exact own_same hown2 fun k hk => Below.heap_setCell w2 ⟨fb, 7, none⟩ _ k (by rw [rowBlock_some] at hk; simp at hk; subst hk; exact hgf)
  · rw [ownList_line, rowBlock_some]
    exact nodup_insert hnd (by rw [← ownList_line]; exact hgl)
  · intro k hk
    rw [ownList_line, rowBlock_some] at hk
    rcases List.mem_cons.1 hk with rfl | hk
    · exact h.low _ (by simp)
    · rcases List.mem_append.1 hk with hk | hk
      · exact h.low k (List.mem_cons_of_mem _ (by rw [ownList_line]; exact List.mem_append_left _ hk))
      · rcases List.mem_append.1 hk with hk | hk
        · simp at hk; subst hk
          rcases hat with e | e
          · exact h.low k (by rw [ownList_line]; simp [mem_rowBlock, e])
          · omega
        · exact h.low k (List.mem_cons_of_mem _ (by rw [ownList_line]; exact List.mem_append_right _ (List.mem_append_right _ hk)))
  · intro k hk
    rw [ownList_line, rowBlock_some] at hk
    rcases List.mem_append.1 hk with hk | hk
    · left; rw [ownList_line]; exact List.mem_append_left _ hk
    · rcases List.mem_append.1 hk with hk | hk
      · simp at hk; subst hk
        rcases hat with e | e
        · left; rw [ownList_line]; simp [mem_rowBlock, e]
        · right; omega
      · left; rw [ownList_line]; exact List.mem_append_right _ (List.mem_append_right _ hk)
  · have o1 : OnlyIn (fb :: ownList T ov ln dv kv mv) w (w.alloc o) := OnlyIn.of hb _
    exact (o1.trans (OnlyIn.grown hg2) (fun k hk => .inl (by rw [ownList_line]; simp [hk]))).setCell (.inl (by simp)) 7 _

theorem FeedAt.moreData (h : FeedAt w fb lim s ov ln dv kv mv tc T) {o : Obj} {b : UInt8} {g cap : Nat} (hg2 : (w.alloc o).grownBy w2 dv.ownBlock)
    (hown2 : w2.ownsRow 0 5 1 (.slice (some ⟨g, 0, none⟩) (s.data.length + 1) cap) (s.data.length + 1) (bytesV s.data ++ [.int .u8 b.toNat])) (hat : dv.ownBlock = some g ∨ g = (w.alloc o).heap.size) (hsz : 8 ≤ w.heap.size) :
    FeedAt (w2.setCell ⟨fb, 25, none⟩ (.slice (some ⟨g, 0, none⟩) (s.data.length + 1) cap)) fb lim { s with data := s.data ++ [b] } ov ln (.slice (some ⟨g, 0, none⟩) (s.data.length + 1) cap) kv mv tc T ∧
      (∀ k ∈ ownList T ov ln (.slice (some ⟨g, 0, none⟩) (s.data.length + 1) cap) kv mv, k ∈ ownList T ov ln dv kv mv ∨ w.heap.size ≤ k) ∧
      OnlyIn (fb :: ownList T ov ln dv kv mv) w (w2.setCell ⟨fb, 25, none⟩ (.slice (some ⟨g, 0, none⟩) (s.data.length + 1) cap)) := by
  have hb : Below w.heap.size w (w.alloc o) := (Below.refl _ _).alloc (Nat.le_refl _) o
  have hs1 : (w.alloc o).heap.size = w.heap.size + 1 := by simp
  have h1 := h.later hb
  have hnd := h.nodup
  rw [ownList_data] at hnd
  have hap := nodup_apart hnd
  have hlt := h.lt
  have hgl : rowBlock dv = [g] ∨ ∀ k ∈ fb :: ownList T ov ln dv kv mv, k ≠ g := by
    rcases hat with e | e
    · left; simp [rowBlock, e]
    · right; intro k hk e2; have := hlt k hk; omega
  have hgf : g ≠ fb := by
    rcases hat with e | e
    · intro e2; exact hap fb (by simp) (mem_rowBlock.2 (by rw [e, e2]))
    · intro e2; have := hlt fb (by simp); omega
  have hgk : ∀ k ∈ (T ++ (rowBlock ov ++ (rowBlock ln ++ rowBlock kv))) ++ rowBlock mv, (w2.setCell ⟨fb, 25, none⟩ (.slice (some ⟨g, 0, none⟩) (s.data.length + 1) cap)).heap[k]? = (w.alloc o).heap[k]? := by
    intro k hk
    have hkm : k ∈ ownList T ov ln dv kv mv := by
      rw [ownList_data]
      rcases List.mem_append.1 hk with hk | hk
      · exact List.mem_append_left _ hk
      · exact List.mem_append_right _ (List.mem_append_right _ hk)
    have hkf : k ≠ fb := fun e => h.fb_notin (e ▸ hkm)
    rw [Below.heap_setCell w2 ⟨fb, 25, none⟩ _ k hkf]
    exact hg2.block k (by have := hlt k (by simp [hkm]); omega) (fun e => hap k (List.mem_cons_of_mem _ hk) (mem_rowBlock.2 e.symm))
  have b2 := h1.blk.grown hg2 (fun e => hap fb (by simp) (mem_rowBlock.2 e.symm))
  refine ⟨⟨b2.put 25 _, own_same h1.out fun k hk => hgk k (by simp [hk]), h1.told.same fun k hk => hgk k (by simp [hk]), own_same h1.line fun k hk => hgk k (by simp [hk]), ?_, own_same h1.keys fun k hk => hgk k (by simp [hk]),
    own_same h1.metas fun k hk => hgk k (by simp [hk]), ?_, ?_, h.bare⟩, ?_, ?_⟩
  · have e1 : (s.data ++ [b]).length = s.data.length + 1 := by simp
    have e2 : bytesV (s.data ++ [b]) = bytesV s.data ++ [.int .u8 b.toNat] := by rw [bytesV_append]; rfl
    show (w2.setCell _ _).ownsRow 0 _ 1 _ (s.data ++ [b]).length (bytesV (s.data ++ [b]))
    rw [e1, e2]
    exact own_same hown2 fun k hk => Below.heap_setCell w2 ⟨fb, 25, none⟩ _ k (by rw [rowBlock_some] at hk; simp at hk; subst hk; exact hgf)
  · rw [ownList_data, rowBlock_some]
    exact nodup_insert hnd (by rw [← ownList_data]; exact hgl)
  · intro k hk
    rw [ownList_data, rowBlock_some] at hk
    rcases List.mem_cons.1 hk with rfl | hk
    · exact h.low _ (by simp)
    · rcases List.mem_append.1 hk with hk | hk
      · exact h.low k (List.mem_cons_of_mem _ (by rw [ownList_data]; exact List.mem_append_left _ hk))
      · rcases List.mem_append.1 hk with hk | hk
        · simp at hk; subst hk
          rcases hat with e | e
          · exact h.low k (by rw [ownList_data]; simp [mem_rowBlock, e])
          · omega
        · exact h.low k (List.mem_cons_of_mem _ (by rw [ownList_data]; exact List.mem_append_right _ (List.mem_append_right _ hk)))
  · intro k hk
    rw [ownList_data, rowBlock_some] at hk
    rcases List.mem_append.1 hk with hk | hk
    · left; rw [ownList_data]; exact List.mem_append_left _ hk
    · rcases List.mem_append.1 hk with hk | hk
      · simp at hk; subst hk
        rcases hat with e | e
        · left; rw [ownList_data]; simp [mem_rowBlock, e]
        · right; omega
      · left; rw [ownList_data]; exact List.mem_append_right _ (List.mem_append_right _ hk)
  · have o1 : OnlyIn (fb :: ownList T ov ln dv kv mv) w (w.alloc o) := OnlyIn.of hb _
    exact (o1.trans (OnlyIn.grown hg2) (fun k hk => .inl (by rw [ownList_data]; simp [hk]))).setCell (.inl (by simp)) 25 _
end
end Go.Proofs.YthgfjafnclklpaaGreatDoor
end
