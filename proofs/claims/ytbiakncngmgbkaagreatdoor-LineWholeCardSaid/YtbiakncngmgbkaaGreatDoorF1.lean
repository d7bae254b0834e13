/- Walks of package line: a step is told. -/
import Derived.Test.YtbiakncngmgbkaaGreatDoorFs
import Derived.Test.YtbiakncngmgbkaaGreatDoorFe
import Derived.Deep.RegionHeld3
import Derived.Laws.CopyOwn
import Derived.Deep.WholeRow
import Derived.Deep.DrawnRows
import Derived.Deep.MidRow
import Derived.Laws.EntriesVeiled
namespace Go.Proofs.YtbiakncngmgbkaaGreatDoor
attribute [local go_sem ↓] Go.wp_at_zero Go.wp_at_succ
open Go.RowKit

section
variable {w w' : World} {fb lim : Nat} {s s' : Sp.FeedV} {ov ln dv kv mv : Value} {tc : List Value} {T : List Nat}

theorem FeedAt.lt (h : FeedAt w fb lim s ov ln dv kv mv tc T) : ∀ k ∈ fb :: ownList T ov ln dv kv mv, k < w.heap.size := by
  intro k hk
  simp only [ownList, List.mem_cons, List.mem_append] at hk
  rcases hk with rfl | hk | hk | hk | hk | hk | hk
  · exact h.blk.lt
  · exact h.told.lt k hk
  · exact own_lt h.out k hk
  · exact own_lt h.line k hk
  · exact own_lt h.keys k hk
  · exact own_lt h.data k hk
  · exact own_lt h.metas k hk

theorem FeedAt.same (h : FeedAt w fb lim s ov ln dv kv mv tc T) (hs : ∀ k ∈ fb :: ownList T ov ln dv kv mv, w'.heap[k]? = w.heap[k]?) : FeedAt w' fb lim s ov ln dv kv mv tc T := by
  have hs' : ∀ k ∈ ownList T ov ln dv kv mv, w'.heap[k]? = w.heap[k]? := fun k hk => hs k (List.mem_cons_of_mem _ hk)
  refine ⟨h.blk.same (hs fb (by simp)), own_same h.out ?_, h.told.same ?_, own_same h.line ?_, own_same h.data ?_, own_same h.keys ?_, own_same h.metas ?_, h.nodup, h.low, h.bare⟩ <;> (intro k hk; exact hs' k (by simp [ownList, hk]))

theorem FeedAt.later (h : FeedAt w fb lim s ov ln dv kv mv tc T) (hb : Below w.heap.size w w') : FeedAt w' fb lim s ov ln dv kv mv tc T :=
  h.same fun k hk => hb.block k (h.lt k hk)

theorem FeedAt.only (h : FeedAt w fb lim s ov ln dv kv mv tc T) {L : List Nat} (ho : OnlyIn L w w') (hL : ∀ k ∈ fb :: ownList T ov ln dv kv mv, k ∉ L) : FeedAt w' fb lim s ov ln dv kv mv tc T :=
  h.same fun k hk => ho.block k (h.lt k hk) (hL k hk)

theorem FeedAt.fb_notin (h : FeedAt w fb lim s ov ln dv kv mv tc T) : fb ∉ ownList T ov ln dv kv mv := (List.nodup_cons.1 h.nodup).1

/-- a store into a plain field -/
theorem FeedAt.put (h : FeedAt w fb lim s ov ln dv kv mv tc T) (i : Nat) (u : Value) (hc : (feedCells fb lim s ov ln dv kv mv).setIfInBounds i u = feedCells fb lim s' ov ln dv kv mv)
    (ho : s'.out = s.out) (hl : s'.line = s.line) (hd : s'.data = s.data) (hk : s'.step.cmd.keys = s.step.cmd.keys) (hm : s'.step.cmd.metas = s.step.cmd.metas) (hb : s'.step.cmd.data = s.step.cmd.data) :
    FeedAt (w.setCell ⟨fb, i, none⟩ u) fb lim s' ov ln dv kv mv tc T := by
  have hs : ∀ k ∈ ownList T ov ln dv kv mv, (w.setCell ⟨fb, i, none⟩ u).heap[k]? = w.heap[k]? := fun k hk =>
    Below.heap_setCell w ⟨fb, i, none⟩ u k (fun e => h.fb_notin (by simpa [e] using hk))
  refine ⟨by rw [← hc]; exact h.blk.put i u, ?_, ?_, ?_, ?_, ?_, ?_, h.nodup, h.low, by rw [hb]; exact h.bare⟩
  · rw [ho]; exact own_same h.out fun k hk => hs k (by simp [ownList, hk])
  · rw [ho]; exact h.told.same fun k hk => hs k (by simp [ownList, hk])
  · rw [hl]; exact own_same h.line fun k hk => hs k (by simp [ownList, hk])
  · rw [hd]; exact own_same h.data fun k hk => hs k (by simp [ownList, hk])
  · rw [hk]; exact own_same h.keys fun k hk => hs k (by simp [ownList, hk])
  · rw [hm]; exact own_same h.metas fun k hk => hs k (by simp [ownList, hk])

/-- fewer rows -/
theorem ownList_nodup {T : List Nat} {ov ln dv kv mv : Value} (h : (fb :: ownList T ov ln dv kv mv).Nodup) {L : List Nat} (hs : L.Sublist (ownList T ov ln dv kv mv)) : (fb :: L).Nodup := h.sublist (hs.cons_cons fb)

/-- the line is given up -/
theorem FeedAt.noLine (h : FeedAt w fb lim s ov ln dv kv mv tc T) : FeedAt (w.setCell ⟨fb, 7, none⟩ nilRow) fb lim { s with line := [] } ov nilRow dv kv mv tc T := by
  have hs : ∀ k ∈ ownList T ov ln dv kv mv, (w.setCell ⟨fb, 7, none⟩ nilRow).heap[k]? = w.heap[k]? := fun k hk =>
    Below.heap_setCell w ⟨fb, 7, none⟩ nilRow k (fun e => h.fb_notin (by simpa [e] using hk))
  have hsub : (ownList T ov nilRow dv kv mv).Sublist (ownList T ov ln dv kv mv) := by
    unfold ownList
    refine List.Sublist.append_left (List.Sublist.append_left ?_ _) _
    rw [rowBlock_nil, List.nil_append]
    exact List.sublist_append_right _ _
  refine ⟨h.blk.put 7 nilRow, own_same h.out ?_, h.told.same ?_, World.ownsRow_nil _ 0 _ 1, own_same h.data ?_, own_same h.keys ?_, own_same h.metas ?_, ownList_nodup h.nodup hsub, fun k hk => h.low k ((hsub.cons_cons fb).subset hk), h.bare⟩ <;> (intro k hk; exact hs k (by simp [ownList, hk]))

/-- the block's bytes are given up -/
theorem FeedAt.noData (h : FeedAt w fb lim s ov ln dv kv mv tc T) : FeedAt (w.setCell ⟨fb, 25, none⟩ nilRow) fb lim { s with data := [] } ov ln nilRow kv mv tc T := by
  have hs : ∀ k ∈ ownList T ov ln dv kv mv, (w.setCell ⟨fb, 25, none⟩ nilRow).heap[k]? = w.heap[k]? := fun k hk =>
    Below.heap_setCell w ⟨fb, 25, none⟩ nilRow k (fun e => h.fb_notin (by simpa [e] using hk))
  have hsub : (ownList T ov ln nilRow kv mv).Sublist (ownList T ov ln dv kv mv) := by
    unfold ownList
    refine List.Sublist.append_left (List.Sublist.append_left (List.Sublist.append_left (List.Sublist.append_left ?_ _) _) _) _
    rw [rowBlock_nil, List.nil_append]
    exact List.sublist_append_right _ _
  refine ⟨h.blk.put 25 nilRow, own_same h.out ?_, h.told.same ?_, own_same h.line ?_, World.ownsRow_nil _ 0 _ 1, own_same h.keys ?_, own_same h.metas ?_, ownList_nodup h.nodup hsub, fun k hk => h.low k ((hsub.cons_cons fb).subset hk), h.bare⟩ <;> (intro k hk; exact hs k (by simp [ownList, hk]))
end

/-- a store of some cells at once, as the walk meets it -/
def canPut (w : World) (b o n : Nat) : Bool := (List.range n).all fun j => (w.cell? ⟨b, o + j, none⟩).isSome && !w.frozen? ⟨b, o + j, none⟩

theorem isSome_setCell (w : World) (p q : Addr) (u : Value) : ((w.setCell p u).cell? q).isSome = (w.cell? q).isSome := by
  by_cases e : p = q
  · subst e
    cases hc : w.cell? p with
    | some x => rw [World.cell?_setCell_same _ _ _ hc]; rfl
    | none =>
      cases hd : (w.setCell p u).cell? p with
      | none => rfl
      | some y =>
        exfalso
        unfold World.setCell World.cell? at hd
        unfold World.cell? at hc
        simp [Array.getElem?_modify] at hd hc
        cases ho : w.heap[p.block]? with
        | none => simp [ho] at hd
        | some o =>
          cases o <;> simp [ho] at hd hc
          obtain ⟨h1, h2⟩ := hd
          have h3 := hc h1
          rw [h1] at h2
          rw [Array.getElem?_eq_none (by simpa using h3)] at h2
          cases h2
  · rw [World.cell?_setCell_other _ _ _ _ e]

theorem canPut_setCell (w : World) (p : Addr) (u : Value) (b o n : Nat) : canPut (w.setCell p u) b o n = canPut w b o n := by
  unfold canPut
  simp only [isSome_setCell, World.frozen?_setCell]

theorem canPut_there {w : World} {b o n : Nat} (h : canPut w b o n = true) : w.there b o n := fun j hj => by
  unfold canPut at h
  have := List.all_eq_true.1 h j (by simpa using hj)
  simpa using this

theorem Blk.there {w : World} {g : Nat} {t : TypeId} {cs : Array Value} (h : Blk w g t cs) (o n : Nat) (hn : o + n ≤ cs.size) : w.there g o n := fun j hj =>
  ⟨by rw [h.cell]; simp; omega, h.frozen _⟩

theorem Blk.can {w : World} {g : Nat} {t : TypeId} {cs : Array Value} (h : Blk w g t cs) (o n : Nat) (hn : o + n ≤ cs.size) : canPut w g o n = true := by
  unfold canPut
  rw [List.all_eq_true]
  intro j hj
  have := h.there o n hn j (by simpa using hj)
  simpa using this

theorem storeVar_int' (t : TypeId) (a : Addr) (k : IntKind) (n : Int) : type_of% (storeVar.eq_1 t a (.int k n)) := storeVar.eq_1 t a (.int k n)
theorem storeVar_bool' (t : TypeId) (a : Addr) (b : Bool) : type_of% (storeVar.eq_1 t a (.bool b)) := storeVar.eq_1 t a (.bool b)
theorem storeVar_slice' (t : TypeId) (a : Addr) (p : Option Addr) (n c : Nat) : type_of% (storeVar.eq_1 t a (.slice p n c)) := storeVar.eq_1 t a (.slice p n c)
theorem storeVar_func' (t : TypeId) (a : Addr) (f : Fn) (x y : Array Value) : type_of% (storeVar.eq_1 t a (.func f x y)) := storeVar.eq_1 t a (.func f x y)

theorem oneCell_func (f : Fn) (x y : Array Value) : (Value.func f x y).oneCell' = true := rfl

theorem run_store_step (w : World) (b o : Nat) (v : Int) (kp : Option Addr) (kn kc : Nat) (fl ex tk dl : Int) (dp : Option Addr) (dn dc : Nat) (nr lg : Bool) (mp : Option Addr) (mn mc : Nat) (wh : ByteArray) (wk : Int) (wt : ByteArray) (wp fr tt : Int) (ht : canPut w b o 16 = true) :
    (storeVar 61 ⟨b, o, none⟩ (.agg #[.int .i64 v, .slice kp kn kc, .int .u64 fl, .int .i64 ex, .int .u64 tk, .int .u64 dl, .slice dp dn dc, .bool nr, .bool lg, .slice mp mn mc, .string wh, .int .i64 wk, .string wt, .int .i64 wp, .int .i64 fr, .int .i64 tt])).run Tryz.prog w =
      .ok () (w.setCells b o [.int .i64 v, .slice kp kn kc, .int .u64 fl, .int .i64 ex, .int .u64 tk, .int .u64 dl, .slice dp dn dc, .bool nr, .bool lg, .slice mp mn mc, .string wh, .int .i64 wk, .string wt, .int .i64 wp, .int .i64 fr, .int .i64 tt]) :=
  run_storeVar_mid w b o _ _ (canPut_there ht) (by kernel_rfl) (by simp [Value.oneCell'])

theorem own_slice {w : World} {base : Nat} {e : TypeId} {size n : Nat} {v : Value} {xs : List Value} (h : w.ownsRow base e size v n xs) : ∃ p m c, v = .slice p m c := by
  rcases h.2 with ⟨rfl, _⟩ | ⟨g, cap, cur, rfl, _⟩
  · exact ⟨_, _, _, rfl⟩
  · exact ⟨_, _, _, rfl⟩

theorem Blk.puts {g : Nat} {t : TypeId} : ∀ (us : List Value) (o : Nat) {w : World} {cs : Array Value}, Blk w g t cs → Blk (w.setCells g o us) g t ((us.zipIdx o).foldl (fun cs x => cs.setIfInBounds x.2 x.1) cs)
  | [], _, _, _, h => h
  | u :: us, o, w, cs, h => by
    rw [World.setCells]
    exact Blk.puts (w := w.setCell ⟨g, o, none⟩ u) us (o + 1) (h.put o u)

abbrev stepV (t : Sp.StepV) (kv dv mv : Value) : Value :=
  .agg #[.int .i64 t.cmd.verb, kv, .int .u64 t.cmd.flags, .int .i64 t.cmd.exptime, .int .u64 t.cmd.token, .int .u64 t.cmd.delta, dv, .bool t.cmd.noreply, .bool t.cmd.large, mv, str t.cmd.what,
    .int .i64 t.wrong.kind, str t.wrong.text, .int .i64 t.wrong.pass, .int .i64 t.frm, .int .i64 t.to]
end Go.Proofs.YtbiakncngmgbkaaGreatDoor
