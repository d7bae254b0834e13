/- Words for a Feeder's memory: steps in memory, rows and their blocks, what a call may change. -/
import Derived.Test.YtnbeeehfapjpdaaGreatDoorQW3
import Derived.Test.YtnbeeehfapjpdaaGreatDoorFd
namespace Go.Proofs.YtnbeeehfapjpdaaGreatDoor
open Go.RowKit

abbrev nilRow : Value := .slice none 0 0

def bytesV (l : Sp.Bs) : List Value := l.map fun b => .int .u8 b.toNat

theorem bytesV_length (l : Sp.Bs) : (bytesV l).length = l.length := by simp [bytesV]
theorem bytesV_append (a b : Sp.Bs) : bytesV (a ++ b) = bytesV a ++ bytesV b := by simp [bytesV]

/-- the block in which a row lies, if it has one -/
def rowBlock (v : Value) : List Nat := v.ownBlock.toList

theorem mem_rowBlock {v : Value} {k : Nat} : k ∈ rowBlock v ↔ v.ownBlock = some k := by simp [rowBlock]

/-- what a call may change: the blocks of a list, and new memory -/
structure OnlyIn (L : List Nat) (w w' : World) : Prop where
  os : w'.os = w.os
  tape : w'.tape = w.tape
  output : w'.output = w.output
  size : w.heap.size ≤ w'.heap.size
  block : ∀ k, k < w.heap.size → k ∉ L → w'.heap[k]? = w.heap[k]?

section
variable {L : List Nat} {w w' a b c : World}
theorem OnlyIn.of (h : Below w.heap.size w w') (L : List Nat) : OnlyIn L w w' := ⟨h.os, h.tape, h.output, h.size, fun k hk _ => h.block k hk⟩
theorem OnlyIn.refl (L : List Nat) (w : World) : OnlyIn L w w := OnlyIn.of (Below.refl _ w) L
theorem OnlyIn.trans {L' : List Nat} (h : OnlyIn L a b) (k : OnlyIn L' b c) (hL : ∀ i ∈ L', i ∈ L ∨ a.heap.size ≤ i) : OnlyIn L a c :=
  ⟨k.os.trans h.os, k.tape.trans h.tape, k.output.trans h.output, Nat.le_trans h.size k.size, fun i hi hn =>
    (k.block i (Nat.lt_of_lt_of_le hi h.size) (fun hm => (hL i hm).elim hn (by omega))).trans (h.block i hi hn)⟩
theorem OnlyIn.put (w : World) (g i : Nat) (u : Value) : OnlyIn [g] w (w.setCell ⟨g, i, none⟩ u) :=
  ⟨rfl, rfl, rfl, by simp [World.setCell], fun k _ hn => Below.heap_setCell w ⟨g, i, none⟩ u k (by simpa using hn)⟩
theorem OnlyIn.setCell (h : OnlyIn L a w) {g : Nat} (hg : g ∈ L ∨ a.heap.size ≤ g) (i : Nat) (u : Value) : OnlyIn L a (w.setCell ⟨g, i, none⟩ u) :=
  h.trans (OnlyIn.put w g i u) (by intro k hk; simp at hk; subst hk; exact hg)
theorem OnlyIn.later (h : OnlyIn L a w) (hb : Below w.heap.size w w') : OnlyIn L a w' := h.trans (OnlyIn.of hb []) (by simp)
theorem OnlyIn.alloc (h : OnlyIn L a w) (o : Obj) : OnlyIn L a (w.alloc o) := h.later ((Below.refl _ _).alloc (Nat.le_refl _) o)
theorem OnlyIn.grown {v : Value} (h : w.grownBy w' v.ownBlock) : OnlyIn (rowBlock v) w w' :=
  ⟨h.os, h.tape, h.output, h.size, fun k hk hn => h.block k hk (fun e => hn (by simp [mem_rowBlock, e]))⟩
theorem OnlyIn.below (h : OnlyIn L w w') {B : Nat} (hB : B ≤ w.heap.size) (hL : ∀ k ∈ L, B ≤ k) : Below B w w' :=
  ⟨h.os, h.tape, h.output, h.size, fun k hk => h.block k (by omega) (fun hm => by have := hL k hm; omega)⟩
theorem OnlyIn.mono {L' : List Nat} (h : OnlyIn L w w') (hL : ∀ k ∈ L, k ∈ L' ∨ w.heap.size ≤ k) : OnlyIn L' w w' :=
  ⟨h.os, h.tape, h.output, h.size, fun k hk hn => h.block k hk (fun hm => (hL k hm).elim hn (by omega))⟩
end

/-- an owned row hangs on its own block alone -/
theorem own_same {w w' : World} {base : Nat} {e : TypeId} {size n : Nat} {v : Value} {xs : List Value} (h : w.ownsRow base e size v n xs) (hs : ∀ k ∈ rowBlock v, w'.heap[k]? = w.heap[k]?) : w'.ownsRow base e size v n xs := by
  obtain ⟨h1, h2⟩ := h
  refine ⟨h1, ?_⟩
  rcases h2 with h2 | ⟨g, cap, cur, rfl, hb, hg, r⟩
  · exact .inl h2
  · exact .inr ⟨g, cap, cur, rfl, hb, (hs g (by simp [rowBlock, Value.ownBlock])).trans hg, r⟩

theorem own_lt {w : World} {base : Nat} {e : TypeId} {size n : Nat} {v : Value} {xs : List Value} (h : w.ownsRow base e size v n xs) : ∀ k ∈ rowBlock v, k < w.heap.size := by
  intro k hk
  rcases h.2 with ⟨rfl, _⟩ | ⟨g, cap, cur, rfl, _, hg, _⟩
  · simp [rowBlock, Value.ownBlock] at hk
  · simp [rowBlock, Value.ownBlock] at hk
    subst hk
    rcases Nat.lt_or_ge k w.heap.size with hlt | hge
    · exact hlt
    · rw [Array.getElem?_eq_none hge] at hg; cases hg

theorem own_ge {w : World} {base : Nat} {e : TypeId} {size n : Nat} {v : Value} {xs : List Value} (h : w.ownsRow base e size v n xs) : ∀ k ∈ rowBlock v, base ≤ k := by
  intro k hk
  rcases h.2 with ⟨rfl, _⟩ | ⟨g, cap, cur, rfl, hb, hg, _⟩
  · simp [rowBlock, Value.ownBlock] at hk
  · simp [rowBlock, Value.ownBlock] at hk
    subst hk
    exact hb

/-- the cells of a command, of a step -/
def cmdCells (c : Sp.CmdV) (kv dv mv : Value) : List Value :=
  [.int .i64 c.verb, kv, .int .u64 c.flags, .int .i64 c.exptime, .int .u64 c.token, .int .u64 c.delta, dv, .bool c.noreply, .bool c.large, mv, str c.what]
def wrongCells (x : Sp.WrongV) : List Value := [.int .i64 x.kind, str x.text, .int .i64 x.pass]
def stepCells (t : Sp.StepV) (kv dv mv : Value) : List Value := cmdCells t.cmd kv dv mv ++ wrongCells t.wrong ++ [.int .i64 t.frm, .int .i64 t.to]

/-- a command's lists lie in memory of their own -/
structure CmdMem (w : World) (c : Sp.CmdV) (kv dv mv : Value) : Prop where
  keys : w.ownsRow 0 9 1 kv c.keys.length (c.keys.map str)
  data : w.ownsRow 0 5 1 dv c.data.length (bytesV c.data)
  metas : w.ownsRow 0 225 3 mv c.metas.length (flagsCells c.metas)

def cmdBlocks (kv dv mv : Value) : List Nat := rowBlock kv ++ (rowBlock dv ++ rowBlock mv)

theorem CmdMem.same {w w' : World} {c : Sp.CmdV} {kv dv mv : Value} (h : CmdMem w c kv dv mv) (hs : ∀ k ∈ cmdBlocks kv dv mv, w'.heap[k]? = w.heap[k]?) : CmdMem w' c kv dv mv :=
  ⟨own_same h.keys fun k hk => hs k (by simp [cmdBlocks, hk]), own_same h.data fun k hk => hs k (by simp [cmdBlocks, hk]), own_same h.metas fun k hk => hs k (by simp [cmdBlocks, hk])⟩
theorem CmdMem.lt {w : World} {c : Sp.CmdV} {kv dv mv : Value} (h : CmdMem w c kv dv mv) : ∀ k ∈ cmdBlocks kv dv mv, k < w.heap.size := by
  intro k hk
  simp only [cmdBlocks, List.mem_append] at hk
  rcases hk with hk | hk | hk
  · exact own_lt h.keys k hk
  · exact own_lt h.data k hk
  · exact own_lt h.metas k hk
theorem CmdMem.zero (w : World) : CmdMem w {} nilRow nilRow nilRow :=
  ⟨World.ownsRow_nil w 0 _ 1, World.ownsRow_nil w 0 _ 1, World.ownsRow_nil w 0 _ 3⟩

/-- steps, one behind the other: their cells, and the blocks of their lists -/
def StepsMem (w : World) : List Sp.StepV → List Value → List Nat → Prop
  | [], cs, bl => cs = [] ∧ bl = []
  | t :: ts, cs, bl => ∃ kv dv mv cs' bl', cs = stepCells t kv dv mv ++ cs' ∧ bl = cmdBlocks kv dv mv ++ bl' ∧ CmdMem w t.cmd kv dv mv ∧ StepsMem w ts cs' bl'

theorem StepsMem.same {w w' : World} : ∀ {ts : List Sp.StepV} {cs : List Value} {bl : List Nat}, StepsMem w ts cs bl → (∀ k ∈ bl, w'.heap[k]? = w.heap[k]?) → StepsMem w' ts cs bl
  | [], _, _, h, _ => h
  | _ :: _, _, _, ⟨kv, dv, mv, cs', bl', h1, h2, h3, h4⟩, hs => ⟨kv, dv, mv, cs', bl', h1, h2, h3.same fun k hk => hs k (by simp [h2, hk]), h4.same fun k hk => hs k (by simp [h2, hk])⟩
theorem StepsMem.lt {w : World} : ∀ {ts : List Sp.StepV} {cs : List Value} {bl : List Nat}, StepsMem w ts cs bl → ∀ k ∈ bl, k < w.heap.size
  | [], _, _, ⟨_, h⟩, k, hk => by simp [h] at hk
  | _ :: _, _, _, ⟨kv, dv, mv, cs', bl', h1, h2, h3, h4⟩, k, hk => by
    subst h2
    rcases List.mem_append.1 hk with hk | hk
    · exact h3.lt k hk
    · exact h4.lt k hk
theorem StepsMem.snoc {w : World} : ∀ {ts : List Sp.StepV} {cs : List Value} {bl : List Nat}, StepsMem w ts cs bl → ∀ {t : Sp.StepV} {kv dv mv : Value}, CmdMem w t.cmd kv dv mv →
    StepsMem w (ts ++ [t]) (cs ++ stepCells t kv dv mv) (bl ++ cmdBlocks kv dv mv)
  | [], _, _, ⟨h1, h2⟩, t, kv, dv, mv, h => by
    subst h1; subst h2
    exact ⟨kv, dv, mv, [], [], by simp, by simp, h, rfl, rfl⟩
  | _ :: _, _, _, ⟨kv', dv', mv', cs', bl', h1, h2, h3, h4⟩, t, kv, dv, mv, h => ⟨kv', dv', mv', _, _, by rw [h1, List.append_assoc], by rw [h2, List.append_assoc], h3, h4.snoc h⟩
theorem StepsMem.length {w : World} : ∀ {ts : List Sp.StepV} {cs : List Value} {bl : List Nat}, StepsMem w ts cs bl → cs.length = ts.length * 16
  | [], _, _, ⟨h, _⟩ => by simp [h]
  | _ :: ts, _, _, ⟨kv, dv, mv, cs', bl', h1, h2, h3, h4⟩ => by
    rw [h1, List.length_append, h4.length, List.length_cons]; simp [stepCells, cmdCells, wrongCells]; omega
end Go.Proofs.YtnbeeehfapjpdaaGreatDoor
