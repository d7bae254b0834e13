/- The plain model of words.Bytes, in Lean alone. No program in sight. -/
import Derived.Test.YticigfpieeoolaaGreatDoorR0
import Derived.Test.YticigfpieeoolaaGreatDoorAl
import Derived.Lib.ItoaNum
import Derived.Lib.Join
namespace Go.Proofs.YticigfpieeoolaaGreatDoor
open Go.Lib

namespace Sp
/-- the texts that stand at a place of a row -/
def putV (c : CmdV) (k : UInt8) : List Bs :=
  if k = 75 then c.keys
  else if k = 71 then c.metas.map fun f => f.letter :: f.arg
  else if k = 70 then [decDigits c.flags]
  else if k = 78 then [decDigits c.data.length]
  else if k = 86 then [[49]]
  else if k = 67 then [decDigits c.token]
  else if k = 68 then [decDigits c.delta]
  else if k = 84 then [itoa c.exptime]
  else if k = 83 then (if c.exptime = 0 then [] else [itoa c.exptime])
  else if k = 87 then (if c.what = [] then [] else [c.what])
  else []
/-- the words of a command's line -/
def partsV (r : RowV) (word : Bs) (c : CmdV) : List Bs := word :: (r.places.flatMap (putV c)) ++ (if c.noreply then [noreplyW] else [])
/-- a command written down -/
def outV (c : CmdV) : Bs := join (partsV (rowBy c.verb) (wordBy c.verb) c) [32] ++ [13, 10] ++ (if (rowBy c.verb).block then c.data ++ [13, 10] else [])
/-- is it read again as it was? -/
def againV (c : CmdV) : Bool := match allV c.data.length ((outV c).length + 1) 0 (outV c) with
  | ([t], left) => decide (left = 0) && decide (t.cmd = c) && decide (t.to = (outV c).length)
  | _ => false
/-- what Bytes tells -/
def bytesV' (c : CmdV) : Option Bs := if 1 ≤ c.verb ∧ c.verb ≤ 24 ∧ c.large = false ∧ againV c = true then some (outV c) else none
end Sp
end Go.Proofs.YticigfpieeoolaaGreatDoor
