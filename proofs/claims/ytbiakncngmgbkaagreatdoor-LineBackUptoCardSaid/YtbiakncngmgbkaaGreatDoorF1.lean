/- A Feeder in memory. Walks of package line: a step is told. -/
import Derived.Test.YtbiakncngmgbkaaGreatDoorFm
import Derived.Test.YtbiakncngmgbkaaGreatDoorGl
import Derived.Test.YtbiakncngmgbkaaGreatDoorG1
import Derived.Test.YtbiakncngmgbkaaGreatDoorFd
import Derived.Deep.RegionHeld3
import Derived.Laws.CopyOwn
import Derived.Deep.WholeRow
import Derived.Deep.DrawnRows
import Derived.Deep.MidRow
import Derived.Laws.EntriesVeiled
section
namespace Go.Proofs.YtbiakncngmgbkaaGreatDoor
open Go.RowKit

/-- the state's function, bound to the Feeder -/
def modeFn (fb : Nat) : Sp.Mode → Value
  | .inLine => .func (.func 28) #[.pointer (some ⟨fb, 0, none⟩)] #[]
  | .passing => .func (.func 94) #[.pointer (some ⟨fb, 0, none⟩)] #[]
  | .inBlock => .func (.func 79) #[.pointer (some ⟨fb, 0, none⟩)] #[]
  | .over => .func (.func 93) #[.pointer (some ⟨fb, 0, none⟩)] #[]

def feedCells (fb lim : Nat) (s : Sp.FeedV) (ov ln dv kv mv : Value) : Array Value :=
  #[.int .i64 lim, modeFn fb s.mode, ov, .int .i64 s.taken, .int .i64 s.frm, .int .i64 s.held, .bool s.ended, ln, .bool s.long,
    .int .i64 s.step.cmd.verb, kv, .int .u64 s.step.cmd.flags, .int .i64 s.step.cmd.exptime, .int .u64 s.step.cmd.token, .int .u64 s.step.cmd.delta, nilRow, .bool s.step.cmd.noreply, .bool s.step.cmd.large, mv, str s.step.cmd.what,
    .int .i64 s.step.wrong.kind, str s.step.wrong.text, .int .i64 s.step.wrong.pass, .int .i64 s.step.frm, .int .i64 s.step.to,
    dv, .int .i64 s.need, .int .i64 s.got, .bool s.good]

def ownList (T : List Nat) (ov ln dv kv mv : Value) : List Nat := T ++ (rowBlock ov ++ (rowBlock ln ++ (rowBlock kv ++ (rowBlock dv ++ rowBlock mv))))

/-- the Feeder in block fb is in this state; T: the blocks of what it has told and not yet handed out -/
structure FeedAt (w : World) (fb lim : Nat) (s : Sp.FeedV) (ov ln dv kv mv : Value) (tc : List Value) (T : List Nat) : Prop where
  blk : Blk w fb 75 (feedCells fb lim s ov ln dv kv mv)
  out : w.ownsRow 0 61 16 ov s.out.length tc
  told : StepsMem w s.out tc T
  line : w.ownsRow 0 5 1 ln s.line.length (bytesV s.line)
  data : w.ownsRow 0 5 1 dv s.data.length (bytesV s.data)
  keys : w.ownsRow 0 9 1 kv s.step.cmd.keys.length (s.step.cmd.keys.map str)
  metas : w.ownsRow 0 118 3 mv s.step.cmd.metas.length (flagsCells s.step.cmd.metas)
  nodup : (fb :: ownList T ov ln dv kv mv).Nodup
  low : ∀ k ∈ fb :: ownList T ov ln dv kv mv, 8 ≤ k
  bare : s.step.cmd.data = []
end Go.Proofs.YtbiakncngmgbkaaGreatDoor
end
section
namespace Go.Proofs.YtbiakncngmgbkaaGreatDoor
attribute [local go_sem ↓] Go.wp_at_zero Go.wp_at_succ
open Go.RowKit

section
variable {w w' : World} {fb lim : Nat} {s s' : Sp.FeedV} {ov ln dv kv mv : Value} {tc : List Value} {T : List Nat}

theorem FeedAt.lt (h : FeedAt w fb lim s ov ln dv kv mv tc T) : ∀ k ∈ fb :: ownList T ov ln dv kv mv, k < w.heap.size := by
  intro k hk
  simp only [ownList, List.mem_cons, List.mem_append] at hk
  rcases hk with rfl | hk | hk | hk | hk | hk | hk
  · exact h.blk.lt
  · exact h.told.lt k hk
  · exact own_lt h.out k hk
  · exact own_lt h.line k hk
  · exact own_lt h.keys k hk
  · exact own_lt h.data k hk
  · exact own_lt h.metas k hk

theorem FeedAt.same (h : FeedAt w fb lim s ov ln dv kv mv tc T) (hs : ∀ k ∈ fb :: ownList T ov ln dv kv mv, w'.heap[k]? = w.heap[k]?) : FeedAt w' fb lim s ov ln dv kv mv tc T := by
  have hs' : ∀ k ∈ ownList T ov ln dv kv mv, w'.heap[k]? = w.heap[k]? := fun k hk => hs k (List.mem_cons_of_mem _ hk)
  refine ⟨h.blk.same (hs fb (by simp)), own_same h.out ?_, h.told.same ?_, own_same h.line ?_, own_same h.data ?_, own_same h.keys ?_, own_same h.metas ?_, h.nodup, h.low, h.bare⟩ <;> (intro k hk; exact hs' k (by simp [ownList, hk]))

theorem FeedAt.later (h : FeedAt w fb lim s ov ln dv kv mv tc T) (hb : Below w.heap.size w w') : FeedAt w' fb lim s ov ln dv kv mv tc T :=
  h.same fun k hk => hb.block k (h.lt k hk)

theorem FeedAt.only (h : FeedAt w fb lim s ov ln dv kv mv tc T) {L : List Nat} (ho : OnlyIn L w w') (hL : ∀ k ∈ fb :: ownList T ov ln dv kv mv, k ∉ L) : FeedAt w' fb lim s ov ln dv kv mv tc T :=
  h.same fun k hk => ho.block k (h.lt k hk) (hL k hk)

theorem FeedAt.fb_notin (h : FeedAt w fb lim s ov ln dv kv mv tc T) : fb ∉ ownList T ov ln dv kv mv := (List.nodup_cons.1 h.nodup).1

/-- a store into a plain field -/
theorem FeedAt.put (h : FeedAt w fb lim s ov ln dv kv mv tc T) (i : Nat) (u : Value) (hc : (feedCells fb lim s ov ln dv kv mv).setIfInBounds i u = feedCells fb lim s' ov ln dv kv mv)
    (ho : s'.out = s.out) (hl : s'.line = s.line) (hd : s'.data = s.data) (hk : s'.step.cmd.keys = s.step.cmd.keys) (hm : s'.step.cmd.metas = s.step.cmd.metas) (hb : s'.step.cmd.data = s.step.cmd.data) :
    FeedAt (w.setCell ⟨fb, i, none⟩ u) fb lim s' ov ln dv kv mv tc T := by
  have hs : ∀ k ∈ ownList T ov ln dv kv mv, (w.setCell ⟨fb, i, none⟩ u).heap[k]? = w.heap[k]? := fun k hk =>
    Below.heap_setCell w ⟨fb, i, none⟩ u k (fun e => h.fb_notin (by simpa [e] using hk))
  refine ⟨by rw [← hc]; exact h.blk.put i u, ?_, ?_, ?_, ?_, ?_, ?_, h.nodup, h.low, by rw [hb]; exact h.bare⟩
  · rw [ho]; exact own_same h.out fun k hk => hs k (by simp [ownList, hk])
  · rw [ho]; exact h.told.same fun k hk => hs k (by simp [ownList, hk])
  · rw [hl]; exact own_same h.line fun k hk => hs k (by simp [ownList, hk])
  · rw [hd]; exact own_same h.data fun k hk => hs k (by simp [ownList, hk])
  · rw [hk]; exact own_same h.keys fun k hk => hs k (by simp [ownList, hk])
  · rw [hm]; exact own_same h.metas fun k hk => hs k (by simp [ownList, hk])

/-- fewer rows -/
theorem ownList_nodup {T : List Nat} {ov ln dv kv mv : Value} (h : (fb :: ownList T ov ln dv kv mv).Nodup) {L : List Nat} (hs : L.Sublist (ownList T ov ln dv kv mv)) : (fb :: L).Nodup := h.sublist (hs.cons_cons fb)

/-- the line is given up -/
theorem FeedAt.noLine (h : FeedAt w fb lim s ov ln dv kv mv tc T) : FeedAt (w.setCell ⟨fb, 7, none⟩ nilRow) fb lim { s with line := [] } ov nilRow dv kv mv tc T := by
  have hs : ∀ k ∈ ownList T ov ln dv kv mv, (w.setCell ⟨fb, 7, none⟩ nilRow).heap[k]? = w.heap[k]? := fun k hk =>
    Below.heap_setCell w ⟨fb, 7, none⟩ nilRow k (fun e => h.fb_notin (by simpa [e] using hk))
  have hsub : (ownList T ov nilRow dv kv mv).Sublist (ownList T ov ln dv kv mv) := by
    unfold ownList
    refine List.Sublist.append_left (List.Sublist.append_left ?_ _) _
    rw [rowBlock_nil, List.nil_append]
    exact List.sublist_append_right _ _
  refine ⟨h.blk.put 7 nilRow, own_same h.out ?_, h.told.same ?_, World.ownsRow_nil _ 0 _ 1, own_same h.data ?_, own_same h.keys ?_, own_same h.metas ?_, ownList_nodup h.nodup hsub, fun k hk => h.low k ((hsub.cons_cons fb).subset hk), h.bare⟩ <;> (intro k hk; exact hs k (by simp [ownList, hk]))

/-- the block's bytes are given up -/
theorem FeedAt.noData (h : FeedAt w fb lim s ov ln dv kv mv tc T) : FeedAt (w.setCell ⟨fb, 25, none⟩ nilRow) fb lim { s with data := [] } ov ln nilRow kv mv tc T := by
  have hs : ∀ k ∈ ownList T ov ln dv kv mv, (w.setCell ⟨fb, 25, none⟩ nilRow).heap[k]? = w.heap[k]? := fun k hk =>
    Below.heap_setCell w ⟨fb, 25, none⟩ nilRow k (fun e => h.fb_notin (by simpa [e] using hk))
  have hsub : (ownList T ov ln nilRow kv mv).Sublist (ownList T ov ln dv kv mv) := by
    unfold ownList
    refine List.Sublist.append_left (List.Sublist.append_left (List.Sublist.append_left (List.Sublist.append_left ?_ _) _) _) _
    rw [rowBlock_nil, List.nil_append]
    exact List.sublist_append_right _ _
  refine ⟨h.blk.put 25 nilRow, own_same h.out ?_, h.told.same ?_, own_same h.line ?_, World.ownsRow_nil _ 0 _ 1, own_same h.keys ?_, own_same h.metas ?_, ownList_nodup h.nodup hsub, fun k hk => h.low k ((hsub.cons_cons fb).subset hk), h.bare⟩ <;> (intro k hk; exact hs k (by simp [ownList, hk]))
end

end Go.Proofs.YtbiakncngmgbkaaGreatDoor
end
