/- The plain model of package line: a Feeder, byte by byte. No program in sight. -/
import Derived.Test.YticigfpieeoolaaGreatDoorSp
namespace Go.Proofs.YticigfpieeoolaaGreatDoor
namespace Sp

inductive Mode where
  | inLine | passing | inBlock | over
  deriving DecidableEq

structure FeedV where
  mode : Mode := .inLine
  taken : Nat := 0
  frm : Nat := 0
  held : Nat := 0
  ended : Bool := false
  line : Bs := []
  long : Bool := false
  step : StepV := {}
  data : Bs := []
  need : Nat := 0
  got : Nat := 0
  good : Bool := false
  out : List StepV := []

/-- a step with its place -/
def StepV.span (t : StepV) (a b : Nat) : StepV := { t with frm := a, to := b }

def FeedV.done (s : FeedV) (t : StepV) : FeedV :=
  { s with
    out := s.out ++ [t.span s.frm s.taken], frm := s.taken, line := [], data := [], step := {}, held := 0, long := false
    ended := s.ended || decide (t.cmd.verb = 18)
    mode := if t.cmd.verb = 18 then .over else .inLine }

def FeedV.passTo (s : FeedV) (n : Nat) : FeedV := { s with need := n, line := [], held := 0, mode := .passing }

/-- a line without the 13 at its end -/
def chop (l : Bs) : Bs := if l.getLast? = some 13 then l.dropLast else l

def FeedV.lineEnds (lim : Nat) (s : FeedV) : FeedV :=
  if s.long then s.done { wrong := ⟨2, tooLong, -1⟩ }
  else match lineOf (chop s.line) with
    | .bad w =>
      if 0 ≤ w.pass ∧ w.pass ≤ lim then { s with step := { wrong := w }, got := 0 }.passTo w.pass.toNat
      else { s with step := { wrong := w }, got := 0 }.done { wrong := w }
    | .ok c n =>
      if n < 0 then { s with step := { cmd := c }, got := 0 }.done { cmd := c }
      else if lim < n then { s with step := { cmd := { c with large := true } }, got := 0 }.passTo n.toNat
      else { s with step := { cmd := c }, got := 0, need := n.toNat, good := true, held := s.held + 1, mode := .inBlock }

def FeedV.inLine (lim : Nat) (s : FeedV) (b : UInt8) : FeedV :=
  if b = 10 then s.lineEnds lim
  else if s.long then s
  else if 2048 < s.line.length ∨ (s.line.length = 2048 ∧ b ≠ 13) then { s with long := true, line := [], held := 0 }
  else { s with line := s.line ++ [b], held := s.held + 1 }

def FeedV.passing (s : FeedV) (b : UInt8) : FeedV :=
  if s.need < s.got + 1 ∧ b = 10 then { s with got := s.got + 1 }.done s.step else { s with got := s.got + 1 }

def FeedV.blockEnds (s : FeedV) : FeedV :=
  if s.good = true ∧ s.got = s.need + 2 then s.done { s.step with cmd := { s.step.cmd with data := s.data } }
  else s.done { wrong := ⟨2, badChunk, -1⟩ }

def FeedV.inBlock (s : FeedV) (b : UInt8) : FeedV :=
  if s.got + 1 ≤ s.need then { s with got := s.got + 1, data := s.data ++ [b], held := s.held + 1 }
  else if b = 10 then { s with got := s.got + 1 }.blockEnds
  else if s.good = true ∧ s.got = s.need ∧ b = 13 then { s with got := s.got + 1, held := s.held + 1 }
  else { s with got := s.got + 1, good := false, data := [], line := [], held := 0 }

/-- what is done with a byte, once it is counted -/
def FeedV.next (lim : Nat) (s : FeedV) (b : UInt8) : FeedV :=
  match s.mode with
  | .inLine => s.inLine lim b
  | .passing => s.passing b
  | .inBlock => s.inBlock b
  | .over => s

def FeedV.byte (lim : Nat) (s : FeedV) (b : UInt8) : FeedV := { s with taken := s.taken + 1 }.next lim b
def FeedV.bytes (lim : Nat) (s : FeedV) (l : Bs) : FeedV := l.foldl (FeedV.byte lim) s
/-- a chunk is fed: what was told is handed out -/
def FeedV.feed (lim : Nat) (s : FeedV) (l : Bs) : FeedV := { s.bytes lim l with out := [] }
def FeedV.told (lim : Nat) (s : FeedV) (l : Bs) : List StepV := (s.bytes lim l).out

/-- no count is beyond N -/
structure FeedV.Fits (s : FeedV) (N : Nat) : Prop where
  taken : s.taken ≤ N
  frm : s.frm ≤ N
  held : s.held ≤ N
  line : s.line.length ≤ N
  data : s.data.length ≤ N
  got : s.got ≤ N
  out : s.out.length ≤ N
  need : s.need ≤ 2147483647
end Sp
end Go.Proofs.YticigfpieeoolaaGreatDoor
