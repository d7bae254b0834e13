/- Walk of package words: one, joined. Plain laws of words.All: its steps lie one behind the other. No program in sight. Walk of package words: All. Walk of the statement LineWhole. The row LineWhole; the statement. -/
import Derived.Test.YtbiakncngmgbkaaGreatDoorA4
import Derived.Test.YtbiakncngmgbkaaGreatDoorA5
import Derived.Test.YtbiakncngmgbkaaGreatDoorA6
import Derived.Test.YtbiakncngmgbkaaGreatDoorA7
import Derived.Test.YtbiakncngmgbkaaGreatDoorQ43
import Derived.Test.YtbiakncngmgbkaaGreatDoorQ42
import Derived.Deep.CutRange
import Derived.Deep.DeepCutAuto
import Derived.Test.YtbiakncngmgbkaaGreatDoorQ49
import Derived.Test.YtbiakncngmgbkaaGreatDoorKw
section
namespace Go.Proofs.YtbiakncngmgbkaaGreatDoor

/-- words.one tells the step at the head of the bytes -/
theorem one_any {w : World} (hg : Glob w) {A : Option Addr} {cap : Nat} {l : Sp.Bs} (h : RowAt w A (bytesV l)) (hc : l.length ≤ cap) (hA : A = none → cap = 0) (hl : l.length ≤ 1000000000) {at' lim : Nat} (hat : at' ≤ l.length) (hlim : lim ≤ 9223372036854775807) :
    Calls Tryz.prog 50 #[.slice A l.length cap, .int .i64 at', .int .i64 lim] w (OnePost w at' (Sp.oneV lim (l.drop at'))) := by
  cases hi : Sp.indexOf (l.drop at') 10 with
  | none =>
    have e : Sp.oneV lim (l.drop at') = none := by unfold Sp.oneV; rw [hi]
    rw [e]
    exact one_none h hc hA hat hi
  | some i =>
    cases hr : Sp.lineOf (Sp.chop ((l.drop at').take i)) with
    | bad x => exact one_bad hg h hc hA hl hat hlim hi hr
    | ok c n =>
      by_cases hn : n < 0
      · exact one_no hg h hc hA hl hat hi hr hn
      · by_cases hln : (lim : Int) < n
        · exact one_large hg h hc hA hl hat hi hr hn hln
        · exact one_blk hg h hc hA hl hat hi hr hn hln
end Go.Proofs.YtbiakncngmgbkaaGreatDoor
end
section
namespace Go.Proofs.YtbiakncngmgbkaaGreatDoor
open Go.Lib Sp

theorem skipV_in {l : Bs} {k m : Nat} {g : Bool} (h : skipV l k = some (m, g)) : k < m ∧ m ≤ l.length := by
  obtain ⟨hk, hm⟩ := skipV_some h
  refine ⟨hm, ?_⟩
  rw [skipV_cases l k hk] at h
  split at h
  · rename_i h2
    injection h with h; injection h with h _
    have := congrArg List.length h2
    rw [List.length_take, List.length_drop] at this
    simp at this
    omega
  · split at h
    · cases h
    · obtain ⟨i, hi, h⟩ := Option.map_eq_some_iff.1 h
      injection h with h _
      have := indexOf_in hi
      rw [List.length_drop] at this
      omega

theorem oneV_in {lim : Nat} {l : Bs} {t : StepV} {n : Nat} (h : oneV lim l = some (t, n)) : 0 < n ∧ n ≤ l.length := by
  unfold oneV at h
  cases he : indexOf l 10 with
  | none => rw [he] at h; cases h
  | some e =>
    rw [he] at h
    have hel := indexOf_in he
    have hsk : ∀ (k : Nat) (f : Nat × Bool → StepV × Nat), (∀ y, (f y).2 = e + 1 + y.1) → (skipV (l.drop (e + 1)) k).map f = some (t, n) → 0 < n ∧ n ≤ l.length := by
      intro k f hf h
      obtain ⟨y, hy, h⟩ := Option.map_eq_some_iff.1 h
      have h2 := hf y
      rw [h] at h2
      have := skipV_in (m := y.1) (g := y.2) hy
      rw [List.length_drop] at this
      simp only at h2
      omega
    simp only at h
    split at h
    · split at h
      · exact hsk _ _ (fun _ => rfl) h
      · injection h with h; injection h with _ h; omega
    · split at h
      · injection h with h; injection h with _ h; omega
      · exact hsk _ _ (fun _ => rfl) h

/-- steps that lie one behind the other, from a to b -/
def lieV : Nat → List StepV → Nat → Prop
  | a, [], b => a = b
  | a, t :: ts, b => t.frm = a ∧ a < t.to ∧ lieV t.to ts b

theorem lieV_le : ∀ {ts : List StepV} {a b : Nat}, lieV a ts b → a ≤ b
  | [], _, _, h => Nat.le_of_eq h
  | _ :: _, _, _, ⟨_, h2, h3⟩ => Nat.le_of_lt (Nat.lt_of_lt_of_le h2 (lieV_le h3))

/-- All's steps; and where it has not ended, what is left is what lies behind them -/
theorem allV_lies (lim : Nat) : ∀ (r at' : Nat) (l : Bs), l.length < r → ∃ b, lieV at' (allV lim r at' l).1 b ∧ b ≤ at' + l.length ∧
    ((∃ t ∈ (allV lim r at' l).1, t.cmd.verb = 18) ∧ (allV lim r at' l).2 = 0 ∨ (allV lim r at' l).2 = at' + l.length - b)
  | 0, _, _, h => by omega
  | r + 1, at', l, h => by
    unfold allV
    cases ho : oneV lim l with
    | none => exact ⟨at', rfl, by omega, .inr (by simp)⟩
    | some y =>
      obtain ⟨t, n⟩ := y
      have hn := oneV_in ho
      dsimp only
      split
      · rename_i hv
        exact ⟨at' + n, ⟨rfl, by show at' < at' + n; omega, rfl⟩, by omega, .inl ⟨⟨t.span at' (at' + n), by simp, hv⟩, rfl⟩⟩
      · obtain ⟨b, h1, h2, h3⟩ := allV_lies lim r (at' + n) (l.drop n) (by rw [List.length_drop]; omega)
        rw [List.length_drop] at h2 h3
        refine ⟨b, ⟨rfl, by show at' < at' + n; omega, h1⟩, by omega, ?_⟩
        rcases h3 with ⟨⟨t', ht', hv⟩, h0⟩ | h3
        · exact .inl ⟨⟨t', List.mem_cons_of_mem _ ht', hv⟩, h0⟩
        · exact .inr (by rw [h3]; omega)

theorem keptV_is (lim : Nat) (l : Bs) : keptV lim l = 0 ∨ keptV lim l = l.length := by
  unfold keptV
  split
  · split
    · exact .inr rfl
    · exact .inl rfl
  · split
    · exact .inl rfl
    · split
      · exact .inl rfl
      · split
        · exact .inr rfl
        · exact .inl rfl

/-- where All tells a Quit the Feeder has ended -/
theorem quit_ends (lim : Nat) : ∀ (r : Nat) (l : Bs) {s : FeedV}, Fresh s → l.length < r → (∃ t ∈ (allV lim r s.taken l).1, t.cmd.verb = 18) → (s.bytes lim l).ended = true
  | 0, _, _, _, h, _ => by omega
  | r + 1, l, s, hf, hr, hq => by
    have h := one_goes lim hf l
    unfold allV at hq
    cases ho : oneV lim l with
    | none => rw [ho] at hq; simp at hq
    | some x =>
      obtain ⟨t, n⟩ := x
      rw [ho] at h hq
      obtain ⟨h1, h2, h3⟩ := h
      have hby : s.bytes lim l = (s.bytes lim (l.take n)).bytes lim (l.drop n) := by
        conv => lhs; rw [← List.take_append_drop n l, bytes_append]
      rw [hby]
      dsimp only at hq
      by_cases hv : t.cmd.verb = 18
      · obtain ⟨o1, o2, o3⟩ := h3.over hv
        rw [over_bytes lim _ o1]
        exact o2
      · rw [if_neg hv] at hq
        have hld : (l.drop n).length = l.length - n := List.length_drop
        refine quit_ends lim r (l.drop n) (h3.fresh hv) (by omega) ?_
        rw [h3.taken]
        obtain ⟨t2, ht2, hv2⟩ := hq
        rcases List.mem_cons.1 ht2 with rfl | ht2
        · exact absurd hv2 hv
        · exact ⟨t2, ht2, hv2⟩

/-- what a Feeder holds and has told, and what All tells and leaves, of the same bytes -/
theorem whole_law (lim : Nat) (raw : Bs) : ∃ b, lieV 0 (allV lim (raw.length + 1) 0 raw).1 b ∧ b ≤ raw.length ∧
    ((({} : FeedV).bytes lim raw).ended = true → (({} : FeedV).bytes lim raw).held = 0 ∧ (allV lim (raw.length + 1) 0 raw).2 = 0) ∧
    ((({} : FeedV).bytes lim raw).ended = false → ((({} : FeedV).bytes lim raw).held = 0 ∨ (({} : FeedV).bytes lim raw).held = (allV lim (raw.length + 1) 0 raw).2) ∧ (allV lim (raw.length + 1) 0 raw).2 = raw.length - b) := by
  obtain ⟨b, h1, h2, h3⟩ := allV_lies lim (raw.length + 1) 0 raw (Nat.lt_succ_self _)
  have hg := all_goes lim (raw.length + 1) raw Fresh.new (Nat.lt_succ_self _)
  have hq := quit_ends lim (raw.length + 1) raw Fresh.new (Nat.lt_succ_self _)
  refine ⟨b, h1, by omega, hg.2.1, fun he => ?_⟩
  obtain ⟨g1, g2, g3⟩ := hg.2.2 he
  have g1' : (allV lim (raw.length + 1) 0 raw).2 ≤ raw.length := g1
  refine ⟨?_, ?_⟩
  · have hk := keptV_is lim (raw.drop (raw.length - (allV lim (raw.length + 1) 0 raw).2))
    rw [List.length_drop] at hk
    have g2' : (({} : FeedV).bytes lim raw).held = keptV lim (raw.drop (raw.length - (allV lim (raw.length + 1) 0 raw).2)) := g2
    rcases hk with hk | hk
    · exact .inl (g2'.trans hk)
    · exact .inr (by rw [g2', hk]; omega)
  · rcases h3 with ⟨h3, _⟩ | h3
    · have := hq h3
      rw [he] at this
      cases this
    · omega
end Go.Proofs.YtbiakncngmgbkaaGreatDoor
end
section
namespace Go.Proofs.YtbiakncngmgbkaaGreatDoor
attribute [local go_sem ↓] Go.wp_at_zero Go.wp_at_succ
open Go.RowKit

/-- where the loop of All stands -/
structure AllMid (w : World) (l : Sp.Bs) (lim : Nat) (at' : Nat) (outs : List Sp.StepV) (ov : Value) (wr : World) : Prop where
  le : at' ≤ l.length
  count : outs.length ≤ at'
  go : ∃ r, l.length - at' < r ∧ Sp.allV lim (l.length + 1) 0 l = (outs ++ (Sp.allV lim r at' (l.drop at')).1, (Sp.allV lim r at' (l.drop at')).2)
  mem : ∃ tcs bl, wr.ownsRow w.heap.size 61 16 ov outs.length tcs ∧ StepsMem wr outs tcs bl ∧ bl.Nodup ∧ ∀ k ∈ bl, w.heap.size ≤ k
  below : Below w.heap.size w wr

/-- what All leaves and tells -/
def AllPost (w : World) (x : List Sp.StepV × Nat) (e : Ending) (w' : World) : Prop :=
  ∃ A c tcs bl, e = .returned (.tuple #[.slice A x.1.length c, .int .i64 x.2]) ∧ w'.ownsRow w.heap.size 61 16 (.slice A x.1.length c) x.1.length tcs ∧ StepsMem w' x.1 tcs bl ∧ bl.Nodup ∧ (∀ k ∈ bl, w.heap.size ≤ k) ∧ Below w.heap.size w w'

theorem AllMid.stop {w wr W : World} {l : Sp.Bs} {lim at' : Nat} {outs : List Sp.StepV} {ov : Value} (h : AllMid w l lim at' outs ov wr) (hv : Sp.oneV lim (l.drop at') = none) (hb : Below wr.heap.size wr W) :
    AllPost w (Sp.allV lim (l.length + 1) 0 l) (.returned (.tuple #[ov, .int .i64 ((l.length : Int) - (at' : Int))])) W := by
  obtain ⟨r, hr, hgo⟩ := h.go
  obtain ⟨tcs, bl, ho, hs, hnd, hlo⟩ := h.mem
  have hle := h.le
  cases r with
  | zero => omega
  | succ r =>
    have e : Sp.allV lim (r + 1) at' (l.drop at') = ([], (l.drop at').length) := by unfold Sp.allV; rw [hv]
    rw [e, List.append_nil, List.length_drop] at hgo
    rw [hgo]
    obtain ⟨p, c, rfl⟩ := own_form ho
    refine ⟨p, c, tcs, bl, ?_, own_later ho hb, hs.same fun k hk => hb.block k (hs.lt k hk), hnd, hlo, h.below.trans (hb.mono h.below.size)⟩
    have e2 : (l.length : Int) - (at' : Int) = ((l.length - at' : Nat) : Int) := by omega
    rw [e2]

theorem cmdBlocks_nodup {w : World} {c : Sp.CmdV} {kv dv mv : Value} (h : CmdMem w c kv dv mv) : (cmdBlocks kv dv mv).Nodup := by
  have hone : ∀ v : Value, (rowBlock v).Nodup := fun v => by unfold rowBlock; cases v.ownBlock <;> simp
  have hap : ∀ {e e' : TypeId} {s s' m m' : Nat} {u u' : Value} {ys ys' : List Value}, w.ownsRow 0 e s u m ys → w.ownsRow 0 e' s' u' m' ys' → e ≠ e' → ∀ a ∈ rowBlock u, ∀ b ∈ rowBlock u', a ≠ b := by
    intro e e' s s' m m' u u' ys ys' h1 h2 hne a ha b hb e3
    subst e3
    rw [mem_rowBlock] at ha hb
    rcases own_own_apart h1 h2 hne with h0 | h0
    · rw [h0] at ha; cases ha
    · exact h0 (ha.trans hb.symm)
  unfold cmdBlocks
  refine List.nodup_append.2 ⟨hone _, List.nodup_append.2 ⟨hone _, hone _, hap h.data h.metas (by decide)⟩, fun a ha b hb => ?_⟩
  rcases List.mem_append.1 hb with hb | hb
  · exact hap h.keys h.data (by decide) a ha b hb
  · exact hap h.keys h.metas (by decide) a ha b hb

section
variable {w wr w1 W2 w3 : World} {l : Sp.Bs} {lim at' n : Nat} {outs : List Sp.StepV} {ov kv dv mv v3 : Value} {t t' : Sp.StepV} {tcs : List Value} {bl : List Nat}

/-- the memory behind the append -/
theorem AllMid.grown (h : AllMid w l lim at' outs ov wr) (hown : wr.ownsRow w.heap.size 61 16 ov outs.length tcs) (hst : StepsMem wr outs tcs bl) (hnd : bl.Nodup) (hlo : ∀ k ∈ bl, w.heap.size ≤ k)
    (hcm : CmdMem w1 t.cmd kv dv mv) (hge : ∀ k ∈ cmdBlocks kv dv mv, wr.heap.size ≤ k) (hb1 : Below wr.heap.size wr w1) (hb2 : Below w1.heap.size w1 W2) (hg : W2.grownBy w3 ov.ownBlock)
    (ho3 : w3.ownsRow w.heap.size 61 16 v3 (outs.length + 1) (tcs ++ (stepArr t kv dv mv).toList)) :
    (∃ tcs bl, w3.ownsRow w.heap.size 61 16 v3 (outs ++ [t]).length tcs ∧ StepsMem w3 (outs ++ [t]) tcs bl ∧ bl.Nodup ∧ ∀ k ∈ bl, w.heap.size ≤ k) ∧ Below w.heap.size w w3 := by
  have hb12 : Below wr.heap.size wr W2 := hb1.trans (hb2.mono hb1.size)
  have hap := stepsBlocks_apart hst hown
  have hsz := h.below.size
  have s1 : ∀ k ∈ bl, w3.heap[k]? = wr.heap[k]? := fun k hk =>
    (hg.block k (Nat.lt_of_lt_of_le (hst.lt k hk) hb12.size) (fun e => hap k hk e.symm)).trans (hb12.block k (hst.lt k hk))
  have s2 : ∀ k ∈ cmdBlocks kv dv mv, w3.heap[k]? = w1.heap[k]? := fun k hk =>
    (hg.block k (Nat.lt_of_lt_of_le (hcm.lt k hk) hb2.size) (fun e => by have := own_lt hown k (mem_rowBlock.2 e.symm); have := hge k hk; omega)).trans (hb2.block k (hcm.lt k hk))
  refine ⟨⟨_, bl ++ cmdBlocks kv dv mv, ?_, (hst.same s1).snoc (hcm.same s2), List.nodup_append.2 ⟨hnd, cmdBlocks_nodup hcm, fun a ha b hb => ?_⟩, fun k hk => ?_⟩, ?_⟩
  · rw [List.length_append, ← stepArr_list]
    exact ho3
  · have := hst.lt a ha
    have := hge b hb
    omega
  · rcases List.mem_append.1 hk with hk | hk
    · exact hlo k hk
    · exact Nat.le_trans hsz (hge k hk)
  · exact (h.below.trans (hb12.mono hsz)).grown hg (Nat.le_trans hsz hb12.size) (fun k hk => own_ge hown k (mem_rowBlock.2 hk))

theorem AllMid.on (h : AllMid w l lim at' outs ov wr) (hv : Sp.oneV lim (l.drop at') = some (t', n)) (ht : t = t'.span at' (at' + n)) (hq : t.cmd.verb ≠ 18)
    (hm : (∃ tcs bl, w3.ownsRow w.heap.size 61 16 v3 (outs ++ [t]).length tcs ∧ StepsMem w3 (outs ++ [t]) tcs bl ∧ bl.Nodup ∧ ∀ k ∈ bl, w.heap.size ≤ k) ∧ Below w.heap.size w w3) :
    AllMid w l lim (at' + n) (outs ++ [t]) v3 w3 := by
  subst ht
  obtain ⟨r, hr, hgo⟩ := h.go
  have hn := oneV_in hv
  rw [List.length_drop] at hn
  have hc := h.count
  have hle := h.le
  refine ⟨by omega, by simp; omega, ?_, hm.1, hm.2⟩
  cases r with
  | zero => omega
  | succ r =>
    refine ⟨r, by omega, ?_⟩
    have hq' : t'.cmd.verb ≠ 18 := hq
    have e : Sp.allV lim (r + 1) at' (l.drop at') = (t'.span at' (at' + n) :: (Sp.allV lim r (at' + n) (l.drop (at' + n))).1, (Sp.allV lim r (at' + n) (l.drop (at' + n))).2) := by
      conv => lhs; unfold Sp.allV
      rw [hv]
      dsimp only
      rw [if_neg hq', List.drop_drop]
    rw [hgo, e]
    simp

theorem AllMid.quit (h : AllMid w l lim at' outs ov wr) (hv : Sp.oneV lim (l.drop at') = some (t', n)) (ht : t = t'.span at' (at' + n)) (hq : t.cmd.verb = 18)
    (hm : (∃ tcs bl, w3.ownsRow w.heap.size 61 16 v3 (outs ++ [t]).length tcs ∧ StepsMem w3 (outs ++ [t]) tcs bl ∧ bl.Nodup ∧ ∀ k ∈ bl, w.heap.size ≤ k) ∧ Below w.heap.size w w3) :
    AllPost w (Sp.allV lim (l.length + 1) 0 l) (.returned (.tuple #[v3, .int .i64 0])) w3 := by
  subst ht
  obtain ⟨r, hr, hgo⟩ := h.go
  have hn := oneV_in hv
  rw [List.length_drop] at hn
  cases r with
  | zero => omega
  | succ r =>
    have hq' : t'.cmd.verb = 18 := hq
    have e : Sp.allV lim (r + 1) at' (l.drop at') = ([t'.span at' (at' + n)], 0) := by
      unfold Sp.allV
      rw [hv]
      dsimp only
      rw [if_pos hq']
    rw [hgo, e]
    obtain ⟨⟨tcs, bl, ho, hs, hnd, hlo⟩, hb⟩ := hm
    obtain ⟨p, c, rfl⟩ := own_form ho
    exact ⟨p, c, tcs, bl, rfl, ho, hs, hnd, hlo, hb⟩
end

attribute [-go_sem] storeVar
attribute [local go_sem] run_store_cmd run_store_wrong run_store_step storeVar_int' storeVar_bool' storeVar_slice' storeVar_func' canPut_new canPut_setCell canPut_drew canPut_alloc canPut_setCells cell_setCells_far World.frozen?_setCells

set_option maxHeartbeats 8000000 in
set_option maxRecDepth 100000 in
theorem all_any {w : World} (hg : Glob w) {A : Option Addr} {cap : Nat} {l : Sp.Bs} (h : RowAt w A (bytesV l)) (hc : l.length ≤ cap) (hA : A = none → cap = 0) (hl : l.length ≤ 1000000) {limit : Int} (hlim : limit ≤ 9223372036854775807) :
    Calls Tryz.prog 26 #[.slice A l.length cap, .int .i64 limit] w (AllPost w (Sp.allV limit.toNat (l.length + 1) 0 l)) := by
  obtain ⟨i0, hi, hz0, hz1, hz2⟩ := info_parts info_step
  generalize hR : AllPost w (Sp.allV limit.toNat (l.length + 1) 0 l) = R
  have hstart : AllMid w l limit.toNat 0 [] nilRow w := ⟨Nat.zero_le _, Nat.le_refl _, ⟨l.length + 1, by omega, by simp⟩, ⟨[], [], World.ownsRow_nil _ _ _ 16, ⟨rfl, rfl⟩, List.nodup_nil, by simp⟩, Below.refl _ _⟩
  have hmx : (limit.toNat : Int) = max limit 0 := by omega
  have hone := fun (W : World) (a : Nat) (hW : Glob W) (hb : Below w.heap.size w W) (ha : a ≤ l.length) => one_any hW (h.below hb) hc hA (by omega) ha (lim := limit.toNat) (by omega)
  have HONE := Lib.hid hone
  have HS := Lib.hid hstart
  have HR := Lib.hid hR
  have HG := Lib.hid hg
  have HMX := Lib.hid hmx
  clear hR hstart hone hg h hA hmx
  go_enter Tryz.func26, Tryz.ntmps26
  go_wp2_with fail
  go_loopw [6, 7] (fun o a wr => ∃ (at' : Nat) (outs : List Sp.StepV), a = .int .i64 at' ∧ AllMid w l limit.toNat at' outs o wr) (fun _ a _ => l.length - (intOf a).toNat)
  case atStart => exact ⟨0, [], rfl, HS.out⟩
  case round =>
    obtain ⟨at', outs, rfl, hm⟩ := hrel
    have hgr := HG.out.later hm.below
    have ho := HONE.out wr at' hgr hm.below hm.le
    rw [HMX.out] at ho
    have HM := Lib.hid hm
    have HO := Lib.hid ho
    have hle := hm.le
    clear hm hgr ho
    go_wp2_with fail
    refine HO.out.mono ?_
    rintro e w1 ⟨t, kv, dv, mv, rfl, hcm, hge, hsp, hb1⟩
    obtain ⟨k1, k2, k3, rfl⟩ := own_slice hcm.keys
    obtain ⟨d1, d2, d3, rfl⟩ := own_slice hcm.data
    obtain ⟨m1, m2, m3, rfl⟩ := own_slice hcm.metas
    cases hv : Sp.oneV limit.toNat (l.drop at') with
    | none =>
      rw [hv] at hsp
      have HB1 := Lib.hid hb1
      have HV := Lib.hid hv
      clear hcm hge hsp hb1 hv
      dsimp only [Option.isSome]
      go_wp2_with fail
      have hfin := HM.out.stop HV.out (Below.setCells (Nat.le_trans HB1.out.size (Nat.le_refl _)) (stepArr t (.slice k1 k2 k3) (.slice d1 d2 d3) (.slice m1 m2 m3)).toList 0 (HB1.out.alloc HB1.out.size (.cells (stepArr {} nilRow nilRow nilRow) 61)))
      rw [HR.out] at hfin
      exact hfin
    | some y =>
      obtain ⟨t', n⟩ := y
      have ht := hsp t' n hv
      have hn := oneV_in hv
      rw [List.length_drop] at hn
      rw [hv] at hsp
      have HB1 := Lib.hid hb1
      have HV := Lib.hid hv
      have HCM := Lib.hid hcm
      have HGE := Lib.hid hge
      have HT := Lib.hid ht
      clear hcm hge hsp hb1 hv ht
      dsimp only [Option.isSome]
      go_upto_region 4 with (fail)
      refine wp_world (X := fun wx => Blk wx w1.heap.size 61 (stepArr t (.slice k1 k2 k3) (.slice d1 d2 d3) (.slice m1 m2 m3)) ∧ Below w1.heap.size w1 wx) ⟨Blk.putStep (Blk.new w1 61 (stepArr {} nilRow nilRow nilRow)) _ _ _ _, Below.setCells (Nat.le_refl _) _ 0 ((Below.refl _ _).alloc (Nat.le_refl _) _)⟩ ?_
      intro wx hx
      obtain ⟨hbx, hbw⟩ := hx
      have q0 : _ = some (Value.int .i64 t.cmd.verb) := (hbx).cell 0
      have q1 : _ = some (Value.slice k1 k2 k3) := (hbx).cell 1
      have q2 : _ = some (Value.int .u64 t.cmd.flags) := (hbx).cell 2
      have q3 : _ = some (Value.int .i64 t.cmd.exptime) := (hbx).cell 3
      have q4 : _ = some (Value.int .u64 t.cmd.token) := (hbx).cell 4
      have q5 : _ = some (Value.int .u64 t.cmd.delta) := (hbx).cell 5
      have q6 : _ = some (Value.slice d1 d2 d3) := (hbx).cell 6
      have q7 : _ = some (Value.bool t.cmd.noreply) := (hbx).cell 7
      have q8 : _ = some (Value.bool t.cmd.large) := (hbx).cell 8
      have q9 : _ = some (Value.slice m1 m2 m3) := (hbx).cell 9
      have q10 : _ = some (str t.cmd.what) := (hbx).cell 10
      have q11 : _ = some (Value.int .i64 t.wrong.kind) := (hbx).cell 11
      have q12 : _ = some (str t.wrong.text) := (hbx).cell 12
      have q13 : _ = some (Value.int .i64 t.wrong.pass) := (hbx).cell 13
      have q14 : _ = some (Value.int .i64 t.frm) := (hbx).cell 14
      have q15 : _ = some (Value.int .i64 t.to) := (hbx).cell 15
      have HBX := Lib.hid hbx
      have HBW := Lib.hid hbw
      clear hbx hbw
      obtain ⟨tcs, bl, hown, hst, hnd, hlo⟩ := HM.out.mem
      have hbx1 : Below wr.heap.size wr wx := HB1.out.trans (HBW.out.mono HB1.out.size)
      have ho2 := own_later hown (hbx1.alloc hbx1.size (.cells (stepArr t (.slice k1 k2 k3) (.slice d1 d2 d3) (.slice m1 m2 m3)) 61))
      have hsw : w.heap.size ≤ wx.heap.size := Nat.le_trans HM.out.below.size hbx1.size
      have hcnt := HM.out.count
      have HO2 := Lib.hid ho2
      have HST := Lib.hid hst
      have HBX1 := Lib.hid hbx1
      have HOWN := Lib.hid hown
      have HND := Lib.hid hnd
      have HLO := Lib.hid hlo
      have hovlt : ∀ k, u6.ownBlock = some k → k < wr.heap.size := fun k hk => own_lt HOWN.out k (mem_rowBlock.2 hk)
      have hne : some w1.heap.size ≠ u6.ownBlock := fun e => by have := hovlt _ e.symm; have := HB1.out.size; omega
      have HNE := Lib.hid hne
      obtain ⟨vb, hvb⟩ : ∃ vb : Nat, vb = t.cmd.verb := ⟨_, rfl⟩
      have HVB := Lib.hid hvb
      clear ho2 hst hbx1 hown hnd hlo hovlt hne hvb
      by_cases hq : vb = 18
      · subst hq
        go_upto_region 6 with (fail)
        go_wp2_with (at_builtin; refine wpList_append_put rfl (.tmp 25) (.tmp 27) _ rfl w.heap.size 61 i0 _ 16 184 Tryz.underlying41 hi hz0 hz1 hz2 rfl (by decide) u6 outs.length tcs rfl HO2.out ⟨wx.heap.size, 0, none⟩ 1 1 (stepArr t (.slice k1 k2 k3) (.slice d1 d2 d3) (.slice m1 m2 m3)).toList rfl rfl ?_ ?_ ?_ ?_ ?_ ?_ ?_; exact cells_new _ _ _; (intro u hu; simp [stepArr] at hu; rcases hu with rfl | rfl | rfl | rfl | rfl | rfl | rfl | rfl | rfl | rfl | rfl | rfl | rfl | rfl | rfl | rfl <;> rfl); decide; (unfold maxLen; omega); omega; (simp; omega); intro g3 cap3 w3 hown3 hg3 hat3; have hm3 := AllMid.grown HM.out HOWN.out HST.out HND.out HLO.out HCM.out HGE.out HB1.out (HBW.out.alloc HBW.out.size _) hg3 hown3; have hbx3 := (HBX.out.alloc _).grown hg3 HNE.out; have q15 : w3.cell? ⟨w1.heap.size, 15, none⟩ = some (Value.int .i64 t.to) := hbx3.cell 15; have q0 : w3.cell? ⟨w1.heap.size, 0, none⟩ = some (Value.int .i64 18) := (hbx3.cell 0).trans (congrArg (fun x : Nat => some (Value.int .i64 x)) HVB.out.symm); have Hm3 := Lib.hid hm3; clear hown3 hg3 hat3 hm3 hbx3)
        have hfin := HM.out.quit HV.out HT.out HVB.out.symm Hm3.out
        rw [HR.out] at hfin
        exact hfin
      · have hq2 : ((vb : Int) == 18) = false := by simp; omega
        have HQ := Lib.hid hq
        clear hq
        go_upto_region 6 with (fail)
        go_wp2_with (at_builtin; refine wpList_append_put rfl (.tmp 25) (.tmp 27) _ rfl w.heap.size 61 i0 _ 16 184 Tryz.underlying41 hi hz0 hz1 hz2 rfl (by decide) u6 outs.length tcs rfl HO2.out ⟨wx.heap.size, 0, none⟩ 1 1 (stepArr t (.slice k1 k2 k3) (.slice d1 d2 d3) (.slice m1 m2 m3)).toList rfl rfl ?_ ?_ ?_ ?_ ?_ ?_ ?_; exact cells_new _ _ _; (intro u hu; simp [stepArr] at hu; rcases hu with rfl | rfl | rfl | rfl | rfl | rfl | rfl | rfl | rfl | rfl | rfl | rfl | rfl | rfl | rfl | rfl <;> rfl); decide; (unfold maxLen; omega); omega; (simp; omega); intro g3 cap3 w3 hown3 hg3 hat3; have hm3 := AllMid.grown HM.out HOWN.out HST.out HND.out HLO.out HCM.out HGE.out HB1.out (HBW.out.alloc HBW.out.size _) hg3 hown3; have hbx3 := (HBX.out.alloc _).grown hg3 HNE.out; have q15 : w3.cell? ⟨w1.heap.size, 15, none⟩ = some (Value.int .i64 t.to) := hbx3.cell 15; have q0 : w3.cell? ⟨w1.heap.size, 0, none⟩ = some (Value.int .i64 vb) := (hbx3.cell 0).trans (congrArg (fun x : Nat => some (Value.int .i64 x)) HVB.out.symm); have Hm3 := Lib.hid hm3; clear hown3 hg3 hat3 hm3 hbx3)
        have hto : t.to = at' + n := by rw [HT.out]; rfl
        exact ⟨⟨at' + n, outs ++ [t], by rw [hto], HM.out.on HV.out HT.out (by rw [← HVB.out]; exact HQ.out) Hm3.out⟩, by show l.length - (t.to : Int).toNat < l.length - (at' : Int).toNat; omega⟩
end Go.Proofs.YtbiakncngmgbkaaGreatDoor
end
section
namespace Go.Proofs.YtbiakncngmgbkaaGreatDoor
attribute [local go_sem ↓] Go.wp_at_zero Go.wp_at_succ
open Go.RowKit

theorem own_room {w : World} {base : Nat} {e : TypeId} {size n c : Nat} {g : Nat} {xs : List Value} (h : w.ownsRow base e size (.slice (some ⟨g, 0, none⟩) n c) n xs) : n ≤ c := by
  rcases h.2 with ⟨h1, _⟩ | ⟨g', cap, cur, h1, _, _, h2, _⟩
  · cases h1
  · injection h1 with _ _ h3
    subst h3
    exact h2

/-- where the loop over the steps stands -/
def WholeMid (ts : List Sp.StepV) (b : Nat) (i la : Value) : Prop := ∃ k l : Nat, k ≤ ts.length ∧ i = .int .i64 k ∧ la = .int .i64 l ∧ lieV l (ts.drop k) b

theorem StepsMem.frm_to {w : World} : ∀ {ts : List Sp.StepV} {cs : List Value} {bl : List Nat} (_ : StepsMem w ts cs bl) (j : Nat) (t : Sp.StepV), ts[j]? = some t → cs[j * 16 + 14]? = some (.int .i64 t.frm) ∧ cs[j * 16 + 15]? = some (.int .i64 t.to) := by
  intro ts cs bl h j t ht
  obtain ⟨kv, dv, mv, _, hf⟩ := h.at.2 j t ht
  exact ⟨hf 14 _ rfl, hf 15 _ rfl⟩

set_option maxHeartbeats 8000000 in
set_option maxRecDepth 100000 in
theorem lineWhole_any {w : World} (hg : Glob w) {A B C : Option Addr} {capA capB capC : Nat} {raw : Sp.Bs} {one two : List Int} {limit : Int} (hl2 : limit ≤ 9223372036854775807)
    (hcA : raw.length ≤ capA) (hcA2 : capA ≤ 9223372036854775807) (hcB : one.length ≤ 9223372036854775807)
    (hrow : RowAt w A (bytesV raw)) (hA : A = none → capA = 0) (hrowB : RowAt w B (intsV one)) :
    Calls Tryz.prog 7 #[.agg #[.slice A raw.length capA, .int .i64 limit, .slice B one.length capB, .slice C two.length capC]] w fun e w' => e = .returned (.bool true) ∧ Below w.heap.size w w' := by
  generalize hR : (fun (e : Ending) (w' : World) => e = .returned (.bool true) ∧ Below w.heap.size w w') = R
  have HR := Lib.hid hR
  have HG := Lib.hid hg
  have HROW := Lib.hid hrow
  have HROWB := Lib.hid hrowB
  have HA := Lib.hid hA
  have HL2 := Lib.hid hl2
  clear hR hg hrow hrowB hA hl2
  go_enter Tryz.func7, Tryz.ntmps7
  go_upto_if 13 with fail
  go_cut [1] (fun b wx => b = .pointer (some ⟨w.heap.size, 0, none⟩) ∧ Blk wx w.heap.size 66 (boxRow A (raw.take 12000).length capA limit (.slice B one.length capB) (.slice C two.length capC)) ∧ Below w.heap.size w wx)
  case first =>
    have hb0 : Below w.heap.size w (w.alloc (.cells (boxRow A raw.length capA limit (.slice B one.length capB) (.slice C two.length capC)) 66)) := (Below.refl _ _).alloc (Nat.le_refl _) _
    have hbl := Blk.new w 66 (boxRow A raw.length capA limit (.slice B one.length capB) (.slice C two.length capC))
    by_cases hc : (12000 : Int) < (raw.length : Int)
    · have hlen : (raw.take 12000).length = 12000 := by rw [List.length_take]; omega
      have hca : (12000 : Int) ≤ (capA : Int) := by omega
      have hbn := Blk.new w 66 (boxRow A 12000 capA limit (.slice B one.length capB) (.slice C two.length capC))
      have hb1 : Below w.heap.size w (w.alloc (.cells (boxRow A 12000 capA limit (.slice B one.length capB) (.slice C two.length capC)) 66)) := (Below.refl _ _).alloc (Nat.le_refl _) _
      rw [← hlen] at hbn hb1
      have HF := Lib.hid hbn
      have HB := Lib.hid hb1
      clear hbn hb1 hbl hb0
      go_wp2_with fail
      go_meet
      refine ⟨rfl, HF.out.same ?_, ?_⟩
      · rw [hlen]; rfl
      · have := HB.out
        rwa [hlen] at this
    · have hlen : raw.take 12000 = raw := List.take_of_length_le (by omega)
      have hfin : Blk (w.alloc (.cells (boxRow A raw.length capA limit (.slice B one.length capB) (.slice C two.length capC)) 66)) w.heap.size 66 (boxRow A (raw.take 12000).length capA limit (.slice B one.length capB) (.slice C two.length capC)) := by rw [hlen]; exact hbl
      have HF := Lib.hid hfin
      have HB := Lib.hid hb0
      clear hfin hbl hb0 hlen
      go_wp2_with fail
      go_meet
      exact ⟨rfl, HF.out, HB.out⟩
  case rest =>
    obtain ⟨rfl, hbx, hbw⟩ := hcut
    obtain ⟨raw', hraw'⟩ : ∃ raw', raw' = raw.take 12000 := ⟨_, rfl⟩
    have hlen1 : raw'.length ≤ 12000 := by rw [hraw', List.length_take]; omega
    have hlen2 : raw'.length ≤ capA := by rw [hraw', List.length_take]; omega
    have hrow1 : RowAt w A (bytesV raw') := by rw [hraw']; have := HROW.out.take 12000; simpa [bytesV] using this
    rw [← hraw'] at hbx
    have hgc := HG.out.later hbw
    have hltw : w.heap.size < wc.heap.size := hbx.lt
    have hf1 := fed_any hgc (bv := .slice B one.length capB) (cv := .slice C two.length capC) (limit := limit) (capC := capB) hlen1 hlen2 hcA2 hcB (hrow1.below hbw) HA.out (HROWB.out.below hbw)
    have y0 : _ = some (Value.slice A raw'.length capA) := hbx.cell 0
    have y1 : _ = some (Value.int .i64 limit) := hbx.cell 1
    have y2 : _ = some (Value.slice B one.length capB) := hbx.cell 2
    have y3 : _ = some (Value.slice C two.length capC) := hbx.cell 3
    have HROW1 := Lib.hid hrow1
    have HBX := Lib.hid hbx
    have HBW := Lib.hid hbw
    have HF1 := Lib.hid hf1
    clear hraw' hrow1 HROW hbx hbw hgc hf1
    go_wp2_with fail
    refine HF1.out.mono ?_
    rintro e w1 ⟨fb1, hb1, A1, c1, hs1, rfl, hfd1, ⟨tcs1, bl1, ho1, hst1⟩, hbk1, hsl1, hok1, hbe1, hg1⟩
    have hbx1 := HBX.out.later hbe1
    have hbw1 := HBW.out.trans (hbe1.mono HBW.out.size)
    have hlt1 : w.heap.size < w1.heap.size := hbx1.lt
    clear y0 y1 y2 y3
    have y0 : _ = some (Value.slice A raw'.length capA) := hbx1.cell 0
    have y1 : _ = some (Value.int .i64 limit) := hbx1.cell 1
    have hcp := fun (W : World) (hb : Below w1.heap.size w1 W) => copy_any (w := W) (cap := capA) (l := raw') (by omega) ((HROW1.out.below hbw1).below hb) HA.out
    have hal := fun (W W2 : World) (g c : Nat) (hb : Below w1.heap.size w1 W) (ho : W2.ownsRow W.heap.size 5 1 (.slice (some ⟨g, 0, none⟩) raw'.length c) raw'.length (bytesV raw')) (hb2 : Below W.heap.size W W2) =>
      all_any ((hg1.later hb).later hb2) (cap := c) (RowAt.of_own ho) (own_room ho) (fun h => by cases h) (by omega) (limit := limit) HL2.out
    have HFD1 := Lib.hid hfd1
    have HO1 := Lib.hid ho1
    have HST1 := Lib.hid hst1
    have HBW1 := Lib.hid hbw1
    have HBX1 := Lib.hid hbx1
    have HG1 := Lib.hid hg1
    have HCP := Lib.hid hcp
    have HAL := Lib.hid hal
    clear hfd1 ho1 hst1 hbk1 hsl1 hok1 hbx1 hbe1 hbw1 hg1 hcp hal
    go_upto_region 4 with (fail)
    go_cut [6, 7] (fun bv lv wx => ∃ A2 c2, bv = .slice A2 (toldAll limit.toNat raw').length c2 ∧ lv = .int .i64 (Sp.allV limit.toNat (raw'.length + 1) 0 raw').2 ∧ (∃ tcs, RowAt wx A2 tcs ∧ StepsAt wx (toldAll limit.toNat raw') tcs) ∧ Below w1.heap.size w1 wx)
    case first =>
      go_region_held3 (fun w' => w'.cell? ⟨w.heap.size, 0, none⟩ = some (.slice A raw'.length capA) ∧ w'.cell? ⟨w.heap.size, 1, none⟩ = some (.int .i64 limit)) (first | exact ⟨y0, y1⟩ | go_keep) ((first | (go_at_call 27; refine (HCP.out _ ((Below.refl _ _).drew)).mono ?_; rintro e w2 ⟨g, c, rfl, hown2, hb2⟩; have hB2 := ((Below.refl w1.heap.size w1).drew).trans hb2; have y0 := (hB2.cell (p := ⟨w.heap.size, 0, none⟩) hlt1).trans y0; have y1 := (hB2.cell (p := ⟨w.heap.size, 1, none⟩) hlt1).trans y1; have ha2 := HAL.out _ _ g c ((Below.refl _ _).drew) hown2 hb2; have HB2 := Lib.hid hB2; have HA2 := Lib.hid ha2; clear hown2 hb2 hB2 ha2) | (go_at_call 26; refine HA2.out.mono ?_; rintro e w3 ⟨A2, c2, tcs2, bl2, rfl, ho2, hs2, -, -, hb3⟩; have hB3 := HB2.out.trans (hb3.mono HB2.out.size); have y0 := (hb3.cell (p := ⟨w.heap.size, 0, none⟩) (Nat.lt_of_lt_of_le hlt1 HB2.out.size)).trans y0; have y1 := (hb3.cell (p := ⟨w.heap.size, 1, none⟩) (Nat.lt_of_lt_of_le hlt1 HB2.out.size)).trans y1; have HO2 := Lib.hid ho2; have HS2 := Lib.hid hs2; have HB3 := Lib.hid hB3; clear ho2 hs2 hb3 hB3)))
      go_wp2_with fail
      go_meet
      refine ⟨A2, c2, by rw [toldAll_all], rfl, ⟨tcs2, RowAt.of_own HO2.out, by rw [toldAll_all]; exact HS2.out.at⟩, HB3.out⟩
    case rest =>
      obtain ⟨A2, c2, rfl, rfl, ⟨tcs2, hr2, hs2⟩, hb2⟩ := hcut
      obtain ⟨b, hlies, hble, hE, hN⟩ := whole_law limit.toNat raw'
      rw [← toldAll_all] at hlies
      change (endAll limit.toNat raw').ended = true → (endAll limit.toNat raw').held = 0 ∧ _ at hE
      change (endAll limit.toNat raw').ended = false → ((endAll limit.toNat raw').held = 0 ∨ (endAll limit.toNat raw').held = _) ∧ _ at hN
      obtain ⟨lf, hlf⟩ : ∃ lf, lf = (Sp.allV limit.toNat (raw'.length + 1) 0 raw').2 := ⟨_, rfl⟩
      rw [← hlf] at hE hN ⊢
      have hst1 := (HST1.out.same fun k hk => hb2.block k (HST1.out.lt k hk)).at
      have hcnt := toldAll_count limit.toNat raw'
      have hss := sameSteps_same (ca := c1) (cb := c2) (by omega) (short_fit (toldAll_short limit.toNat raw')) (RowAt.of_own (own_later HO1.out hb2)) hr2 hst1 hs2
      obtain ⟨ln1, dv1, kv1, mv1, hfd1⟩ := HFD1.out
      have hg2 := HG1.out.later hb2
      have hbw2 := HBW1.out.trans (hb2.mono HBW1.out.size)
      have hbx2 := HBX1.out.later hb2
      have he1 := fun (W : World) (hb : Below w1.heap.size w1 W) => (ended_any (hfd1.later hb)).mono (R' := fun e w' => e = .returned (.bool (endAll limit.toNat raw').ended) ∧ W = w') fun e w' ⟨h1, h2⟩ => ⟨h1, h2.symm⟩
      have hh1 := fun (W : World) (hb : Below w1.heap.size w1 W) => (held_any (hfd1.later hb)).mono (R' := fun e w' => e = .returned (.int .i64 (endAll limit.toNat raw').held) ∧ W = w') fun e w' ⟨h1, h2⟩ => ⟨h1, h2.symm⟩
      have hcf := fun (j : Nat) (t : Sp.StepV) (h : (toldAll limit.toNat raw')[j]? = some t) => HST1.out.frm_to j t h
      have hrow1 := RowAt.of_own HO1.out
      generalize (endAll limit.toNat raw').ended = eb at he1 hE hN
      generalize (endAll limit.toNat raw').held = hd at hh1 hE hN
      generalize toldAll limit.toNat raw' = ts at *
      have HE := Lib.hid hE
      have HN := Lib.hid hN
      have HSS := Lib.hid hss
      have HE1 := Lib.hid he1
      have HH1 := Lib.hid hh1
      have HCF := Lib.hid hcf
      have HROWT := Lib.hid hrow1
      have HB2 := Lib.hid hb2
      have HBW2 := Lib.hid hbw2
      have HBX2 := Lib.hid hbx2
      have HG2 := Lib.hid hg2
      have HLI := Lib.hid hlies
      clear hE hN hss he1 hh1 hcf hrow1 hb2 hbw2 hbx2 hg2 hlies hst1 hr2 hs2 hfd1 hlf y0 y1 HFD1 HO1 HST1
      go_wp2_with fail
      refine HSS.out.mono ?_
      rintro e w3 ⟨rfl, hb3⟩
      have hst : WholeMid ts b (.int .i64 0) (.int .i64 0) := ⟨0, 0, Nat.zero_le _, rfl, rfl, HLI.out⟩
      have HST := Lib.hid hst
      have HB3 := Lib.hid hb3
      clear hst hb3
      go_wp2_with fail
      go_loopw [8, 9] (fun la i wx => WholeMid ts b i la ∧ Below w3.heap.size w3 wx) (fun _ i _ => ts.length - (intOf i).toNat)
      case atStart => exact ⟨HST.out, Below.refl _ _⟩
      case round =>
        obtain ⟨⟨k, l, hk, rfl, rfl, hl⟩, hb⟩ := hrel
        have hbr := (HB2.out.trans (HB3.out.mono HB2.out.size)).trans (hb.mono (Nat.le_trans HB2.out.size HB3.out.size))
        have hyr : _ = some (Value.slice A raw'.length capA) := ((HBX2.out.later HB3.out).later hb).cell 0
        have HB := Lib.hid hb
        clear hb
        by_cases hlt : k < ts.length
        · obtain ⟨t, ht⟩ : ∃ t, ts[k]? = some t := ⟨ts[k], by simp [hlt]⟩
          have hd0 : ts.drop k = t :: ts.drop (k + 1) := by
            rw [List.drop_eq_getElem_cons hlt]
            rw [List.getElem?_eq_getElem hlt] at ht
            injection ht with ht
            rw [ht]
          rw [hd0] at hl
          obtain ⟨l1, l2, l3⟩ := hl
          have hle := lieV_le l3
          obtain ⟨c14, c15⟩ := HCF.out k t ht
          obtain ⟨tt, htt⟩ : ∃ tt, tt = t.to := ⟨_, rfl⟩
          rw [l1] at c14
          rw [← htt] at c15 l2 l3 hle
          obtain ⟨ga, oa, hAe, x14, x15⟩ : ∃ g o, A1 = some ⟨g, o, none⟩ ∧ wr.cell? ⟨g, o + k * 16 + 14, none⟩ = some (.int .i64 l) ∧ wr.cell? ⟨g, o + k * 16 + 15, none⟩ = some (.int .i64 tt) := by
            rcases HROWT.out.below hbr with h0 | ⟨g, o, h1, _, h3⟩
            · rw [h0] at c14; simp at c14
            · exact ⟨g, o, h1, by rw [Nat.add_assoc]; exact h3 _ _ c14, by rw [Nat.add_assoc]; exact h3 _ _ c15⟩
          subst hAe
          have q1 : decide (tt ≤ l) = false := decide_eq_false (by omega)
          have q2 : decide (raw'.length < tt) = false := decide_eq_false (by omega)
          have HL3 := Lib.hid l3
          clear ht hd0 l1 l3 c14 c15 htt hbr
          go_wp2_with fail
          go_quiet (fail)
          go_wp2_with fail
          exact ⟨⟨⟨k + 1, tt, by omega, by go_num, rfl, HL3.out⟩, below_drewN' HB.out _⟩, by show ts.length - ((k : Int) + 1).toNat < ts.length - (k : Int).toNat; omega⟩
        · have hkk : ts.drop k = [] := List.drop_eq_nil_of_le (by omega)
          rw [hkk] at hl
          obtain rfl : l = b := hl
          have hce := HE1.out wr hbr
          have hch := HH1.out wr hbr
          have hwk := wakes_any ((HG2.out.later HB3.out).later HB.out)
          have hbf := HBW2.out.trans ((HB3.out.trans (HB.out.mono HB3.out.size)).mono HBW2.out.size)
          have HCE := Lib.hid hce
          have HCH := Lib.hid hch
          have HWK := Lib.hid hwk
          have HBF := Lib.hid hbf
          clear hce hch hwk hbf hbr hkk
          cases eb with
          | true =>
            obtain ⟨rfl, rfl⟩ := HE.out rfl
            go_wp2_with (first | (go_at_call 23; refine HCE.out.mono ?_; rintro e w' ⟨rfl, rfl⟩) | (go_at_call 22; refine HCH.out.mono ?_; rintro e w' ⟨rfl, rfl⟩) | (go_at_call 19; refine HWK.out.mono ?_; rintro e w6 ⟨rfl, hb6⟩; have HB6 := Lib.hid hb6; clear hb6))
            rw [← HR.out]
            exact ⟨rfl, HBF.out.trans (HB6.out.mono HBF.out.size)⟩
          | false =>
            obtain ⟨h1, h2⟩ := HN.out rfl
            have hq : ((lf : Int) == (raw'.length : Int) - (l : Int)) = true := by simp; omega
            clear h2
            by_cases h0 : hd = 0
            · subst h0
              clear h1
              go_wp2_with (first | (go_at_call 23; refine HCE.out.mono ?_; rintro e w' ⟨rfl, rfl⟩) | (go_at_call 22; refine HCH.out.mono ?_; rintro e w' ⟨rfl, rfl⟩) | (go_at_call 19; refine HWK.out.mono ?_; rintro e w6 ⟨rfl, hb6⟩; have HB6 := Lib.hid hb6; clear hb6))
              rw [← HR.out]
              exact ⟨rfl, HBF.out.trans (HB6.out.mono HBF.out.size)⟩
            · obtain rfl : hd = lf := h1.resolve_left h0
              have h0' : ((hd : Int) == 0) = false := by simp; omega
              clear h1 h0
              go_wp2_with (first | (go_at_call 23; refine HCE.out.mono ?_; rintro e w' ⟨rfl, rfl⟩) | (go_at_call 22; refine HCH.out.mono ?_; rintro e w' ⟨rfl, rfl⟩) | (go_at_call 19; refine HWK.out.mono ?_; rintro e w6 ⟨rfl, hb6⟩; have HB6 := Lib.hid hb6; clear hb6))
              rw [← HR.out]
              exact ⟨rfl, HBF.out.trans (HB6.out.mono HBF.out.size)⟩
end Go.Proofs.YtbiakncngmgbkaaGreatDoor
end
section
namespace Go.Proofs.YtbiakncngmgbkaaGreatDoor
open Go.ChangeShapes Go.WideShapes Go.ChangeAt Go.RowKit

set_option maxRecDepth 100000 in
theorem lineWhole_lifted (os : Os) (started : os.Started) (H : Type) (enc : TypeId × Value → H) :
    ReturnsInHanded {} Tryz.checked os 7 .any (fun w args => (Rows.lineWholeSpec.pre enc Tryz.prog Tryz.f7 [] false w args ∧ laidMetH Tryz.prog Rows.lineWholeRow.laid w) ∧ sizedMet enc Tryz.prog Tryz.f7 (OpenSpec.ofChange Rows.lineWholeSpec) false w args)
      (Rows.lineWholeSpec.post enc Tryz.prog Tryz.f7 false true false false) := by
  refine returns_laid_shaped (C := Tryz.checked) (X := fun w _ => laidMetH Tryz.prog Rows.lineWholeRow.laid w) (fun _ _ _ hh h => h.of_heap hh) ownKnob0 started (by kernel_rfl) Tryz.func7
    (ChangeSpec.witness_shaped (enc := enc) (C := Tryz.checked) (os := os) (X := fun w _ => laidMetH Tryz.prog Rows.lineWholeRow.laid w) false (World.laidAll Tryz.prog os Rows.lineWholeRow.laid) #[.agg #[nilRow, .int .i64 0, nilRow, nilRow]] 8 (World.laidAll_os _ _ _)
      (World.shaped_of_ZipB (by kernel_rfl) (by kernel_rfl)) (by kernel_rfl) (by kernel_rfl) (by kernel_rfl)
      (by rw [MakeChecks.laidMetH_plain _ _ _ (by kernel_rfl)]; exact laidMet_laidAll _ (by kernel_rfl) (by kernel_rfl))) ?_
  intro W base args ds gs before hval0 hW _ _ hL hsh
  have hW' := hW
  obtain ⟨p, q, hA0, hV, rfl, _, _⟩ := hW
  have hA : DataW.TrodAll enc Tryz.prog W 0 (fun _ => true) true Tryz.f7.params.toList args.toList ds p := hA0
  rw [Tryz.params7] at hA
  rw [MakeChecks.laidMetH_plain _ _ _ (by kernel_rfl)] at hL
  have hG : Glob W := glob_of hsh ⟨_, Lib.laidMet.reads hL (.tail _ (.tail _ (.tail _ (.tail _ (.tail _ (.head _))))))⟩ ⟨_, Lib.laidMet.reads hL (.tail _ (.tail _ (.tail _ (.tail _ (.head _)))))⟩
  obtain ⟨v, d, rfl, rfl, hd⟩ := trodAll_one hA
  have hv : Value.okWide Tryz.prog W .any base 66 v := hval0 0 _ v (by rw [Tryz.params7]; rfl) rfl
  obtain ⟨A, B, C, capA, capB, capC, raw, one, two, limit, rfl, h1, h2, h3, h4, h5, h6, h7, h8, h9, h10⟩ := open_row hv hd
  refine (lineWhole_any hG h2 h4 h5 h8 h3 h6 h7).mono fun e W' ⟨he, hb⟩ => ?_
  subst he
  exact ⟨_, rfl, law_post hW' rfl (by kernel_rfl) rfl (by rw [Tryz.params7]; intro t ht; simp at ht; subst ht; exact ⟨by kernel_rfl, of_decide_eq_true (by kernel_rfl)⟩) hb⟩

theorem lineWhole_row : Rows.lineWholeRow.holds Tryz.pinned (OpenSpec.ofChange Rows.lineWholeSpec) :=
  OpenClaim.holds_of_wide 7 Tryz.f7 rfl rfl rfl rfl rfl rfl rfl ⟨rfl, rfl, rfl, rfl, rfl⟩ rfl rfl rfl rfl rfl (by kernel_rfl) Tryz.func7 (by kernel_rfl)
    (of_decide_eq_true (by kernel_rfl)) (by unfold Func.isWrapper; first | (rw [if_pos (by decide +kernel)]; kernel_rfl) | (rw [if_neg (by decide +kernel)]; exact ⟨rfl, rfl⟩))
    (fun os started H enc _ => lineWhole_lifted os started H enc)

/-- the statement -/
theorem lineWhole_card : Rows.LineWholeCardSaid :=
  Claim7.holds_tied_plain_at .later [] [.data, .data, .data, .data, .sentinel, .sentinel, .pinned] true Rows.lineWholeCard.stood.harness true
    lineWhole_row (fun _ h => by cases h) (by kernel_rfl) (fun _ h => by cases h) lineWhole_row_tie rfl ⟨rfl, rfl⟩ (by kernel_rfl) rfl
    (fun f fn hf hfn => by
      obtain rfl : f = 7 := Option.some.inj ((show Tryz.prog.funcNamed "granary/granarylaw12.LineWhole" = some 7 by kernel_rfl).symm.trans hf) |>.symm
      obtain rfl : fn = Tryz.f7 := (Option.some.inj (Tryz.func7.symm.trans hfn)).symm
      exact ⟨by kernel_rfl, fun j t ht => by
        rw [Tryz.params7] at ht
        obtain rfl : t = 66 := by simpa using Array.mem_of_getElem? ht
        kernel_rfl⟩)
    (by kernel_rfl)
#print axioms lineWhole_card
end Go.Proofs.YtbiakncngmgbkaaGreatDoor
end
