/- Words for the statement LineBack: the commands that are kept, their bytes and their steps in rows. -/
import Derived.Test.YtbiakncngmgbkaaGreatDoorOc
import Derived.Test.YtbiakncngmgbkaaGreatDoorPj
import Derived.Test.YtbiakncngmgbkaaGreatDoorSm
namespace Go.Proofs.YtbiakncngmgbkaaGreatDoor
open Go.Lib Sp Go.RowKit

/-- the cells of the steps that are wanted -/
def wantOne (x : CmdX) (a b : Nat) : List Value := x.cells ++ wrongCells {} ++ [.int .i64 a, .int .i64 b]
def wantCells : Nat → List CmdX → List Value
  | _, [] => []
  | a, x :: r => wantOne x a (a + (outV x.c).length) ++ wantCells (a + (outV x.c).length) r
theorem wantCells_snoc : ∀ (cs : List CmdX) (a : Nat) (x : CmdX), wantCells a (cs ++ [x]) = wantCells a cs ++ wantOne x (a + (backAll cs).length) (a + (backAll cs).length + (outV x.c).length)
  | [], a, x => by simp [wantCells, backAll]
  | y :: r, a, x => by
    rw [List.cons_append, wantCells, wantCells, wantCells_snoc r, List.append_assoc]
    have e : (backAll (y :: r)).length = (outV y.c).length + (backAll r).length := by simp [backAll]
    rw [e, Nat.add_assoc a]
theorem wantCells_length : ∀ (cs : List CmdX) (a : Nat), (wantCells a cs).length = cs.length * 16
  | [], _ => rfl
  | x :: r, a => by
    rw [wantCells, List.length_append, wantCells_length r, List.length_cons]
    show 16 + _ = _
    omega
theorem want_at {w : World} : ∀ (cs : List CmdX) (a : Nat), (∀ x ∈ cs, CmdGood w x ∧ x.v = (x.c.verb : Int)) → StepsAt w (backSteps a (cs.map (·.c))) (wantCells a cs)
  | [], _, _ => ⟨rfl, fun j t ht => by simp [backSteps] at ht⟩
  | x :: r, a, h => by
    have hr := want_at r (a + (outV x.c).length) (fun y hy => h y (List.mem_cons_of_mem _ hy))
    obtain ⟨hx, hv⟩ := h x List.mem_cons_self
    have hl1 : (wantOne x a (a + (outV x.c).length)).length = 16 := rfl
    refine ⟨by rw [wantCells_length, backSteps_length, List.length_map], fun j t ht => ?_⟩
    rw [List.map_cons, backSteps] at ht
    cases j with
    | zero =>
      rw [List.getElem?_cons_zero] at ht
      injection ht with ht
      subst ht
      refine ⟨_, _, _, hx.mem.at, fun i u hu => ?_⟩
      have hi := (List.getElem?_eq_some_iff.1 hu).1
      rw [stepCells_length] at hi
      rw [wantCells, Nat.zero_mul, Nat.zero_add, List.getElem?_append_left (by rw [hl1]; exact hi), ← hu]
      unfold wantOne CmdX.cells
      rw [hv]
      rfl
    | succ j =>
      rw [List.getElem?_cons_succ] at ht
      obtain ⟨k, d, m, e1, e2⟩ := hr.2 j t ht
      refine ⟨k, d, m, e1, fun i u hu => ?_⟩
      rw [wantCells, List.getElem?_append_right (by rw [hl1]; omega), hl1, show (j + 1) * 16 + i - 16 = j * 16 + i by omega]
      exact e2 i u hu

/-- a command that is kept -/
structure Kept (w : World) (x : CmdX) : Prop where
  good : CmdGood w x
  again : againV x.c = true
  v1 : 1 ≤ x.c.verb
  v24 : x.c.verb ≤ 24
  large : x.c.large = false
  data : x.c.data.length ≤ 500
  v : x.v = (x.c.verb : Int)
  nq : x.c.verb ≠ 18
theorem Kept.len {w : World} {x : CmdX} (h : Kept w x) : (outV x.c).length ≤ 2552 := by
  have := line_small h.good h.again h.v1 h.v24 h.large
  have := h.data
  omega
/-- where the first loop stands -/
structure LbMid (w : World) (cs : List CmdX) (rv wv : Value) (wr : World) : Prop where
  raw : wr.ownsRow w.heap.size 5 1 rv (backAll cs).length (bytesV (backAll cs))
  want : wr.ownsRow w.heap.size 61 16 wv cs.length (wantCells 0 cs)
  below : Below w.heap.size w wr
  kept : ∀ x ∈ cs, Kept w x
  few : cs.length ≤ 60
  small : (backAll cs).length ≤ cs.length * 2552
section
variable {w wr w2 : World} {cs : List CmdX} {rv wv v' : Value}
theorem LbMid.start (w : World) : LbMid w [] nilRow nilRow w := ⟨World.ownsRow_nil _ _ _ 1, World.ownsRow_nil _ _ _ 16, Below.refl _ _, (fun x hx => by cases hx), by decide, Nat.le_refl _⟩
theorem LbMid.later (h : LbMid w cs rv wv wr) (hb : Below wr.heap.size wr w2) : LbMid w cs rv wv w2 := ⟨own_later h.raw hb, own_later h.want hb, h.below.trans (hb.mono h.below.size), h.kept, h.few, h.small⟩
/-- behind the append to want -/
structure LbHalf (w : World) (cs : List CmdX) (x : CmdX) (rv wv : Value) (wr : World) : Prop where
  raw : wr.ownsRow w.heap.size 5 1 rv (backAll cs).length (bytesV (backAll cs))
  want : wr.ownsRow w.heap.size 61 16 wv (cs.length + 1) (wantCells 0 (cs ++ [x]))
  below : Below w.heap.size w wr
theorem LbMid.onWant (h : LbMid w cs rv wv wr) {x : CmdX} (hg : wr.grownBy w2 wv.ownBlock) (ho : w2.ownsRow w.heap.size 61 16 v' (cs.length + 1) (wantCells 0 cs ++ wantOne x (backAll cs).length ((backAll cs).length + (outV x.c).length))) : LbHalf w cs x rv v' w2 :=
  ⟨h.raw.kept hg (own_own_apart h.raw h.want (by decide)), by rw [wantCells_snoc, Nat.zero_add]; exact ho, h.below.grown hg h.below.size (fun k hk => own_ge h.want k (mem_rowBlock.2 hk))⟩
theorem LbHalf.later {x : CmdX} (h : LbHalf w cs x rv wv wr) (hb : Below wr.heap.size wr w2) : LbHalf w cs x rv wv w2 := ⟨own_later h.raw hb, own_later h.want hb, h.below.trans (hb.mono h.below.size)⟩
theorem LbHalf.onRaw {x : CmdX} (h : LbHalf w cs x rv wv wr) (hg : wr.grownBy w2 rv.ownBlock) (ho : w2.ownsRow w.heap.size 5 1 v' ((backAll cs).length + (outV x.c).length) (bytesV (backAll cs) ++ bytesV (outV x.c)))
    (hk : Kept w x) (hks : ∀ y ∈ cs, Kept w y) (hs : (backAll cs).length ≤ cs.length * 2552) (hf : cs.length < 60) : LbMid w (cs ++ [x]) v' wv w2 := by
  refine ⟨?_, ?_, h.below.grown hg h.below.size (fun k hk => own_ge h.raw k (mem_rowBlock.2 hk)), fun y hy => ?_, by simp; omega, ?_⟩
  · rw [backAll_snoc, List.length_append, show bytesV (backAll cs ++ outV x.c) = bytesV (backAll cs) ++ bytesV (outV x.c) by simp [bytesV]]
    exact ho
  · rw [show (cs ++ [x]).length = cs.length + 1 by simp]
    exact h.want.kept hg (own_own_apart h.want h.raw (by decide))
  · rcases List.mem_append.1 hy with hy | hy
    · exact hks y hy
    · rw [List.mem_singleton.1 hy]; exact hk
  · have := hk.len
    rw [backAll_snoc, List.length_append, List.length_append, List.length_singleton]
    omega
/-- what a Feeder tells of it all -/
theorem LbMid.told (h : LbMid w cs rv wv wr) : toldAll 500 (backAll cs) = backSteps 0 (cs.map (·.c)) ∧ (endAll 500 (backAll cs)).held = 0 ∧ (endAll 500 (backAll cs)).ended = false :=
  fed_back fun c hc => by
    obtain ⟨x, hx, rfl⟩ := List.mem_map.1 hc
    have hk := h.kept x hx
    exact ⟨hk.again, hk.v1, hk.large, hk.data, hk.nq⟩
end
end Go.Proofs.YtbiakncngmgbkaaGreatDoor
