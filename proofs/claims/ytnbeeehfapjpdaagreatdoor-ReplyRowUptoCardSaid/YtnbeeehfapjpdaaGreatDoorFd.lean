/- The plain model of package line: a Feeder, byte by byte. No program in sight. Plain laws for a Feeder: what a line's reading keeps to; the bounds that a Feeder keeps to. No program in sight. Plain laws for a Feeder: what it tells ends in the bytes that it is fed; how much it holds. No program in sight. The plain model of words.All, and how a Feeder tells the same. No program in sight. Plain laws for the statements' helpers: Within, Pieces. No program in sight. Plain laws for a Feeder fed by pieces: what it tells, what it holds. No program in sight. -/
import Derived.Test.YtnbeeehfapjpdaaGreatDoorSp
import Derived.Test.YtnbeeehfapjpdaaGreatDoorPr
section
namespace Go.Proofs.YtnbeeehfapjpdaaGreatDoor
namespace Sp

inductive Mode where
  | inLine | passing | inBlock | over
  deriving DecidableEq

structure FeedV where
  mode : Mode := .inLine
  taken : Nat := 0
  frm : Nat := 0
  held : Nat := 0
  ended : Bool := false
  line : Bs := []
  long : Bool := false
  step : StepV := {}
  data : Bs := []
  need : Nat := 0
  got : Nat := 0
  good : Bool := false
  out : List StepV := []

/-- a step with its place -/
def StepV.span (t : StepV) (a b : Nat) : StepV := { t with frm := a, to := b }

def FeedV.done (s : FeedV) (t : StepV) : FeedV :=
  { s with
    out := s.out ++ [t.span s.frm s.taken], frm := s.taken, line := [], data := [], step := {}, held := 0, long := false
    ended := s.ended || decide (t.cmd.verb = 18)
    mode := if t.cmd.verb = 18 then .over else .inLine }

def FeedV.passTo (s : FeedV) (n : Nat) : FeedV := { s with need := n, line := [], held := 0, mode := .passing }

/-- a line without the 13 at its end -/
def chop (l : Bs) : Bs := if l.getLast? = some 13 then l.dropLast else l

def FeedV.lineEnds (lim : Nat) (s : FeedV) : FeedV :=
  if s.long then s.done { wrong := ⟨2, tooLong, -1⟩ }
  else match lineOf (chop s.line) with
    | .bad w =>
      if 0 ≤ w.pass ∧ w.pass ≤ lim then { s with step := { wrong := w }, got := 0 }.passTo w.pass.toNat
      else { s with step := { wrong := w }, got := 0 }.done { wrong := w }
    | .ok c n =>
      if n < 0 then { s with step := { cmd := c }, got := 0 }.done { cmd := c }
      else if lim < n then { s with step := { cmd := { c with large := true } }, got := 0 }.passTo n.toNat
      else { s with step := { cmd := c }, got := 0, need := n.toNat, good := true, held := s.held + 1, mode := .inBlock }

def FeedV.inLine (lim : Nat) (s : FeedV) (b : UInt8) : FeedV :=
  if b = 10 then s.lineEnds lim
  else if s.long then s
  else if 2048 < s.line.length ∨ (s.line.length = 2048 ∧ b ≠ 13) then { s with long := true, line := [], held := 0 }
  else { s with line := s.line ++ [b], held := s.held + 1 }

def FeedV.passing (s : FeedV) (b : UInt8) : FeedV :=
  if s.need < s.got + 1 ∧ b = 10 then { s with got := s.got + 1 }.done s.step else { s with got := s.got + 1 }

def FeedV.blockEnds (s : FeedV) : FeedV :=
  if s.good = true ∧ s.got = s.need + 2 then s.done { s.step with cmd := { s.step.cmd with data := s.data } }
  else s.done { wrong := ⟨2, badChunk, -1⟩ }

def FeedV.inBlock (s : FeedV) (b : UInt8) : FeedV :=
  if s.got + 1 ≤ s.need then { s with got := s.got + 1, data := s.data ++ [b], held := s.held + 1 }
  else if b = 10 then { s with got := s.got + 1 }.blockEnds
  else if s.good = true ∧ s.got = s.need ∧ b = 13 then { s with got := s.got + 1, held := s.held + 1 }
  else { s with got := s.got + 1, good := false, data := [], line := [], held := 0 }

/-- what is done with a byte, once it is counted -/
def FeedV.next (lim : Nat) (s : FeedV) (b : UInt8) : FeedV :=
  match s.mode with
  | .inLine => s.inLine lim b
  | .passing => s.passing b
  | .inBlock => s.inBlock b
  | .over => s

def FeedV.byte (lim : Nat) (s : FeedV) (b : UInt8) : FeedV := { s with taken := s.taken + 1 }.next lim b
def FeedV.bytes (lim : Nat) (s : FeedV) (l : Bs) : FeedV := l.foldl (FeedV.byte lim) s
/-- a chunk is fed: what was told is handed out -/
def FeedV.feed (lim : Nat) (s : FeedV) (l : Bs) : FeedV := { s.bytes lim l with out := [] }
def FeedV.told (lim : Nat) (s : FeedV) (l : Bs) : List StepV := (s.bytes lim l).out

/-- no count is beyond N -/
structure FeedV.Fits (s : FeedV) (N : Nat) : Prop where
  taken : s.taken ≤ N
  frm : s.frm ≤ N
  held : s.held ≤ N
  line : s.line.length ≤ N
  data : s.data.length ≤ N
  got : s.got ≤ N
  out : s.out.length ≤ N
  need : s.need ≤ 2147483647
end Sp
end Go.Proofs.YtnbeeehfapjpdaaGreatDoor
end
section
namespace Go.Proofs.YtnbeeehfapjpdaaGreatDoor
open Go.Lib Sp

end Go.Proofs.YtnbeeehfapjpdaaGreatDoor
end
section
namespace Go.Proofs.YtnbeeehfapjpdaaGreatDoor
open Go.Lib Sp

/-- one byte tells one step at most, and that ends in it -/
def Tells (s s' : FeedV) : Prop := s'.taken = s.taken ∧ (s'.out = s.out ∨ ∃ t, s'.out = s.out ++ [t] ∧ t.to = s.taken)

/-- what a Feeder's parts have to do with each other -/
structure Keeps (lim : Nat) (s : FeedV) : Prop where
  frm : s.frm + s.held ≤ s.taken
  over : s.ended = true ↔ s.mode = .over
  line : s.mode = .inLine → s.held ≤ 2049 ∧ s.held = s.line.length ∧ s.data = []
  passing : s.mode = .passing → s.held = 0 ∧ s.data = []
  over0 : s.mode = .over → s.held = 0 ∧ s.line = [] ∧ s.data = []
  block : s.mode = .inBlock → s.need ≤ lim ∧ (s.good = true → s.got ≤ s.need + 1 ∧ s.held ≤ 2050 + s.got) ∧ (s.good = false → s.held = 0 ∧ s.need < s.got)

end Go.Proofs.YtnbeeehfapjpdaaGreatDoor
end
section
namespace Go.Proofs.YtnbeeehfapjpdaaGreatDoor
open Go.Lib Sp

namespace Sp
/-- where a block of n bytes ends, with its line's end; whether that is as it should be -/
def skipV (body : Bs) (n : Nat) : Option (Nat × Bool) :=
  if body.length ≤ n then none
  else if (body.drop n).take 2 = [13, 10] then some (n + 2, true)
  else if body.drop n = [13] then none
  else match indexOf (body.drop n) 10 with
    | none => none
    | some i => some (n + i + 1, false)

/-- the step at the head of these bytes, and how many of them it takes -/
def oneV (lim : Nat) (l : Bs) : Option (StepV × Nat) :=
  match indexOf l 10 with
  | none => none
  | some e => match lineOf (chop (l.take e)) with
    | .bad w =>
      if 0 ≤ w.pass ∧ w.pass ≤ lim then (skipV (l.drop (e + 1)) w.pass.toNat).map fun x => ({ wrong := w }, e + 1 + x.1)
      else some ({ wrong := w }, e + 1)
    | .ok c n =>
      if n < 0 then some ({ cmd := c }, e + 1)
      else (skipV (l.drop (e + 1)) n.toNat).map fun x =>
        (if lim < n then { cmd := { c with large := true } }
         else if x.2 then { cmd := { c with data := (l.drop (e + 1)).take n.toNat } }
         else { wrong := ⟨2, badChunk, -1⟩ }, e + 1 + x.1)

/-- all steps: the place of the first byte; rounds -/
def allV (lim : Nat) : Nat → Nat → Bs → List StepV × Nat
  | 0, _, l => ([], l.length)
  | r + 1, at', l => match oneV lim l with
    | none => ([], l.length)
    | some (t, n) =>
      if t.cmd.verb = 18 then ([t.span at' (at' + n)], 0)
      else (t.span at' (at' + n) :: (allV lim r (at' + n) (l.drop n)).1, (allV lim r (at' + n) (l.drop n)).2)
end Sp

/-- behind a done step: the state in which a line begins -/
def fresh (a : Nat) (out : List StepV) (need got : Nat) (good : Bool) : FeedV := { taken := a, frm := a, need := need, got := got, good := good, out := out }

/-- the Feeder's state is that in which a line begins, but for what the next line sets anew -/
structure Fresh (s : FeedV) : Prop where
  mode : s.mode = .inLine
  frm : s.frm = s.taken
  held : s.held = 0
  ended : s.ended = false
  line : s.line = []
  long : s.long = false
  data : s.data = []

theorem Fresh.new : Fresh {} := ⟨rfl, rfl, rfl, rfl, rfl, rfl, rfl⟩

/-- what is kept of a line -/
def keptLine (l : Bs) : Bool := decide (l.length ≤ 2048) || (decide (l.length = 2049) && decide (l.getLast? = some 13))

/-- a step has been told -/
structure ToldOne (s0 : FeedV) (a : Nat) (t : StepV) (s : FeedV) : Prop where
  out : s.out = s0.out ++ [t.span s0.taken (s0.taken + a)]
  taken : s.taken = s0.taken + a
  over : t.cmd.verb = 18 → s.mode = .over ∧ s.ended = true ∧ s.held = 0
  fresh : t.cmd.verb ≠ 18 → Fresh s

/-- a block is passed over -/
structure InPass (s0 : FeedV) (a n g : Nat) (t : StepV) (s : FeedV) : Prop where
  mode : s.mode = .passing
  taken : s.taken = s0.taken + a
  frm : s.frm = s0.taken
  held : s.held = 0
  ended : s.ended = false
  need : s.need = n
  got : s.got = g
  step : s.step = t
  out : s.out = s0.out

/-- a block is kept -/
structure InBlk (s0 : FeedV) (a n g : Nat) (c : CmdV) (d : Bs) (gd : Bool) (s : FeedV) : Prop where
  mode : s.mode = .inBlock
  taken : s.taken = s0.taken + a
  frm : s.frm = s0.taken
  held : s.held = if gd = true then a else 0
  ended : s.ended = false
  need : s.need = n
  got : s.got = g
  good : s.good = gd
  step : s.step = { cmd := c }
  data : gd = true → s.data = d
  out : s.out = s0.out

def badStep : StepV := { wrong := ⟨2, badChunk, -1⟩ }
/-- what stands behind the block's bytes so far is 13 10, or its beginning -/
def keepsBlock (body : Bs) (n : Nat) : Bool := !((body[n]?).any (fun x => x != 13) || (body[n + 1]?).any (fun x => x != 10))

/-- how many bytes are held of what is no whole step -/
def keptV (lim : Nat) (l : Bs) : Nat :=
  match indexOf l 10 with
  | none => if keptLine l = true then l.length else 0
  | some e => match lineOf (chop (l.take e)) with
    | .bad _ => 0
    | .ok _ n => if (lim : Int) < n then 0 else if keepsBlock (l.drop (e + 1)) n.toNat = true then l.length else 0

end Go.Proofs.YtnbeeehfapjpdaaGreatDoor
end
section
namespace Go.Proofs.YtnbeeehfapjpdaaGreatDoor
open Go.Lib Sp

/-- a number taken into 0 to 40 -/
def within41 (i : Int) : Int := (i.tmod 41 + 41) % 41

/-- a piece's length -/
def cutLen (c : Int) (raw : Bs) : Nat := min (within41 c).toNat raw.length

/-- bytes, cut behind these lengths; the rest is a piece of its own -/
def piecesGo : Bs → List Int → List Bs
  | raw, [] => [raw]
  | raw, c :: cs => if raw = [] then [raw] else raw.take (cutLen c raw) :: piecesGo (raw.drop (cutLen c raw)) cs
def piecesOf (raw : Bs) (cuts : List Int) : List Bs := piecesGo raw (cuts.take 400)

/-- where the loop of Pieces stands: what is cut already, and the rest -/
structure Cutting (raw : Bs) (cuts : List Int) (i at' : Nat) (out : List Bs) : Prop where
  le : at' ≤ raw.length
  all : out ++ piecesGo (raw.drop at') ((cuts.take 400).drop i) = piecesOf raw cuts
  count : out.length = i

theorem Cutting.start (raw : Bs) (cuts : List Int) : Cutting raw cuts 0 0 [] := ⟨Nat.zero_le _, by simp [piecesOf], rfl⟩
theorem Cutting.on {raw : Bs} {cuts : List Int} {i a : Nat} {out : List Bs} (h : Cutting raw cuts i a out) {c : Int} (hc : cuts[i]? = some c) (hi : i < 400) (ha : a < raw.length) :
    Cutting raw cuts (i + 1) (a + cutLen c (raw.drop a)) (out ++ [(raw.drop a).take (cutLen c (raw.drop a))]) := by
  have h1 : cutLen c (raw.drop a) ≤ raw.length - a := by unfold cutLen; rw [List.length_drop]; omega
  refine ⟨by omega, ?_, by simp [h.count]⟩
  rw [← h.all]
  have hd : (cuts.take 400).drop i = c :: (cuts.take 400).drop (i + 1) := by
    have hc' : (cuts.take 400)[i]? = some c := by rw [List.getElem?_take, if_pos hi]; exact hc
    obtain ⟨hlt, he⟩ := List.getElem?_eq_some_iff.1 hc'
    rw [List.drop_eq_getElem_cons hlt, he]
  rw [hd]
  conv => rhs; rw [piecesGo]
  rw [if_neg (by intro e; have := congrArg List.length e; rw [List.length_drop] at this; simp at this; omega)]
  rw [List.append_assoc, List.drop_drop]
  simp
end Go.Proofs.YtnbeeehfapjpdaaGreatDoor
end
section
namespace Go.Proofs.YtnbeeehfapjpdaaGreatDoor
open Go.Lib Sp

/-- a Feeder behind some pieces -/
def fedBy (lim : Nat) (ps : List Sp.Bs) : Sp.FeedV := ps.foldl (fun s p => s.feed lim p) {}

/-- what is told of some pieces in all -/
def toldBy (lim : Nat) (ps : List Bs) : List StepV := (({} : FeedV).bytes lim ps.flatten).out

/-- what is held behind so many bytes -/
def heldAt (lim : Nat) (raw : Bs) (j : Nat) : Int := ((({} : FeedV).bytes lim (raw.take j)).held : Int)

def ShortStep (t : StepV) : Prop := t.cmd.keys.length ≤ 2048 ∧ t.cmd.metas.length ≤ 2048
/-- what is told of some bytes, and the state behind them -/
def toldAll (lim : Nat) (raw : Bs) : List StepV := (({} : FeedV).bytes lim raw).out
def endAll (lim : Nat) (raw : Bs) : FeedV := { ({} : FeedV).bytes lim raw with out := [] }
end Go.Proofs.YtnbeeehfapjpdaaGreatDoor
end
