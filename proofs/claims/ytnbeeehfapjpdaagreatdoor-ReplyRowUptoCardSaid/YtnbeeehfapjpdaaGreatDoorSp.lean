/- The plain model of package words, in Lean alone: what a line is, word by word. No program in sight. -/
import Derived.Lib.FieldsP
namespace Go.Proofs.YtnbeeehfapjpdaaGreatDoor
namespace Sp
abbrev Bs := List UInt8

structure FlagV where
  letter : UInt8
  arg : Bs
  has : Bool
  deriving DecidableEq

structure CmdV where
  verb : Nat := 0
  keys : List Bs := []
  flags : Nat := 0
  exptime : Int := 0
  token : Nat := 0
  delta : Nat := 0
  data : Bs := []
  noreply : Bool := false
  large : Bool := false
  metas : List FlagV := []
  what : Bs := []
  deriving DecidableEq

structure WrongV where
  kind : Nat := 0
  text : Bs := []
  pass : Int := 0
  deriving DecidableEq

structure StepV where
  cmd : CmdV := {}
  wrong : WrongV := {}
  frm : Nat := 0
  to : Nat := 0
  deriving DecidableEq

/-- a verb's row -/
structure RowV where
  verb : Nat
  places : Bs := []
  least : Nat := 0
  more : Bool := false
  noreply : Bool := false
  block : Bool := false
  deriving DecidableEq

/-- the rows, in the order in which the program lays them -/
def tab : List (Bs × RowV) := [
  ([103, 101, 116], { verb := 1, places := [75], least := 1, more := true }),
  ([103, 101, 116, 115], { verb := 2, places := [75], least := 1, more := true }),
  ([103, 97, 116], { verb := 3, places := [84, 75], least := 2, more := true }),
  ([103, 97, 116, 115], { verb := 4, places := [84, 75], least := 2, more := true }),
  ([99, 97, 115], { verb := 10, places := [75, 70, 84, 78, 67], least := 5, noreply := true, block := true }),
  ([100, 101, 108, 101, 116, 101], { verb := 11, places := [75, 48], least := 1, noreply := true }),
  ([105, 110, 99, 114], { verb := 12, places := [75, 68], least := 2, noreply := true }),
  ([100, 101, 99, 114], { verb := 13, places := [75, 68], least := 2, noreply := true }),
  ([116, 111, 117, 99, 104], { verb := 14, places := [75, 84], least := 2, noreply := true }),
  ([102, 108, 117, 115, 104, 95, 97, 108, 108], { verb := 15, places := [83], noreply := true }),
  ([118, 101, 114, 115, 105, 111, 110], { verb := 16 }),
  ([118, 101, 114, 98, 111, 115, 105, 116, 121], { verb := 17, places := [86], least := 1, noreply := true }),
  ([113, 117, 105, 116], { verb := 18 }),
  ([115, 116, 97, 116, 115], { verb := 19, places := [87] }),
  ([109, 103], { verb := 20, places := [75, 71], least := 1, more := true }),
  ([109, 115], { verb := 21, places := [75, 78, 71], least := 2, more := true, block := true }),
  ([109, 100], { verb := 22, places := [75, 71], least := 1, more := true }),
  ([109, 97], { verb := 23, places := [75, 71], least := 1, more := true }),
  ([109, 110], { verb := 24 }),
  ([115, 101, 116], { verb := 5, places := [75, 70, 84, 78], least := 4, noreply := true, block := true }),
  ([97, 100, 100], { verb := 6, places := [75, 70, 84, 78], least := 4, noreply := true, block := true }),
  ([114, 101, 112, 108, 97, 99, 101], { verb := 7, places := [75, 70, 84, 78], least := 4, noreply := true, block := true }),
  ([97, 112, 112, 101, 110, 100], { verb := 8, places := [75, 70, 84, 78], least := 4, noreply := true, block := true }),
  ([112, 114, 101, 112, 101, 110, 100], { verb := 9, places := [75, 70, 84, 78], least := 4, noreply := true, block := true })]

def rowOf (w : Bs) : Option RowV := (tab.find? (fun x => w == x.1)).map (·.2)

def badFormat : Bs := [98, 97, 100, 32, 99, 111, 109, 109, 97, 110, 100, 32, 108, 105, 110, 101, 32, 102, 111, 114, 109, 97, 116]
def badTime : Bs := [105, 110, 118, 97, 108, 105, 100, 32, 101, 120, 112, 116, 105, 109, 101, 32, 97, 114, 103, 117, 109, 101, 110, 116]
def badDelta : Bs := [105, 110, 118, 97, 108, 105, 100, 32, 110, 117, 109, 101, 114, 105, 99, 32, 100, 101, 108, 116, 97, 32, 97, 114, 103, 117, 109, 101, 110, 116]
def badChunk : Bs := [98, 97, 100, 32, 100, 97, 116, 97, 32, 99, 104, 117, 110, 107]
def tooLong : Bs := [108, 105, 110, 101, 32, 116, 111, 111, 32, 108, 111, 110, 103]
def invalidFlag : Bs := [105, 110, 118, 97, 108, 105, 100, 32, 102, 108, 97, 103]
def twiceFlag : Bs := [100, 117, 112, 108, 105, 99, 97, 116, 101, 32, 102, 108, 97, 103]
def opaqueLong : Bs := [111, 112, 97, 113, 117, 101, 32, 116, 111, 107, 101, 110, 32, 116, 111, 111, 32, 108, 111, 110, 103]
def badToken : Bs := [98, 97, 100, 32, 116, 111, 107, 101, 110, 32, 105, 110, 32, 99, 111, 109, 109, 97, 110, 100, 32, 108, 105, 110, 101, 32, 102, 111, 114, 109, 97, 116]
def noreplyW : Bs := [110, 111, 114, 101, 112, 108, 121]
def slabsW : Bs := [115, 108, 97, 98, 115]
def resetW : Bs := [114, 101, 115, 101, 116]

def isDigit (c : UInt8) : Bool := decide (48 ≤ c.toNat) && decide (c.toNat ≤ 57)
def digits (w : Bs) : Bool := !w.isEmpty && w.all isDigit
def valOn (n : Nat) (w : Bs) : Nat := w.foldl (fun n c => 10 * n + (c.toNat - 48)) n
def val (w : Bs) : Nat := valOn 0 w
def number (w : Bs) (most : Nat) : Option Nat := if digits w && decide (val w ≤ most) then some (val w) else none
def timeOf : Bs → Option Int
  | 45 :: t => if digits t && decide (val t ≤ 9223372036854775808) then some (- (val t : Int)) else none
  | w => if digits w && decide (val w ≤ 9223372036854775807) then some (val w : Int) else none
def keyByte (c : UInt8) : Bool := decide (32 < c.toNat) && decide (c.toNat ≠ 127)
def legal (w : Bs) : Bool := decide (w.length ≤ 250) && w.all keyByte

/-- the words of a line: its longest runs of other bytes than 32 -/
def wordsGo : Bs → Bs → List Bs
  | [], cur => if cur.isEmpty then [] else [cur]
  | c :: t, cur => if c = 32 then (if cur.isEmpty then wordsGo t [] else cur :: wordsGo t []) else wordsGo t (cur ++ [c])
def wordsOf (l : Bs) : List Bs := wordsGo l []

def alone (v : Nat) : Bs :=
  if v = 20 then [107, 113, 118, 102, 99, 116, 115, 104, 108] else if v = 21 then [107, 113, 99, 73] else if v = 22 then [107, 113, 99, 73] else if v = 23 then [107, 113, 118, 99, 116] else []
def withs (v : Nat) : Bs :=
  if v = 20 then [79, 84, 78, 82] else if v = 21 then [79, 84, 70, 67, 77] else if v = 22 then [79, 84, 67] else if v = 23 then [79, 84, 78, 67, 77, 68, 74] else []
def modes (v : Nat) : Bs := if v = 23 then [73, 68, 105, 100] else [83, 69, 65, 80, 82, 115, 101, 97, 112, 114]

def behind (v : Nat) (f : FlagV) : Bool :=
  if f.letter = 79 then legal f.arg
  else if f.letter = 84 ∨ f.letter = 78 then (timeOf f.arg).isSome
  else if f.letter = 70 then (number f.arg 4294967295).isSome
  else if f.letter = 77 then (match f.arg with | [c] => (modes v).contains c | _ => false)
  else (number f.arg 18446744073709551615).isSome

def flagOf (v : Nat) (ahead : List FlagV) (f : FlagV) : Bs :=
  if !(alone v).contains f.letter && !(withs v).contains f.letter then invalidFlag
  else if ahead.any (fun x => x.letter == f.letter) then twiceFlag
  else if f.letter = 79 ∧ (f.arg = [] ∨ 32 < f.arg.length) then opaqueLong
  else if (f.has != !f.arg.isEmpty) || ((alone v).contains f.letter && f.has) || (!(alone v).contains f.letter && !behind v f) then badToken
  else []

def flagsGo (v : Nat) : List FlagV → List FlagV → Bs
  | _, [] => []
  | ahead, f :: t => if flagOf v ahead f = [] then flagsGo v (ahead ++ [f]) t else flagOf v ahead f
def flagsOf (v : Nat) (l : List FlagV) : Bs := flagsGo v [] l

/-- one word behind the verb: the command and the block so far, or what is told -/
def wordAt (c : CmdV) (block : Int) (letter : UInt8) (w : Bs) : Except Bs (CmdV × Int) :=
  if letter = 75 then (if legal w then .ok ({ c with keys := c.keys ++ [w] }, block) else .error badFormat)
  else if letter = 70 then (match number w 4294967295 with | some n => .ok ({ c with flags := n }, block) | none => .error badFormat)
  else if letter = 78 then (match number w 2147483647 with | some n => .ok (c, (n : Int)) | none => .error badFormat)
  else if letter = 86 then (match number w 2147483647 with | some _ => .ok (c, block) | none => .error badFormat)
  else if letter = 67 then (match number w 18446744073709551615 with | some n => .ok ({ c with token := n }, block) | none => .error badFormat)
  else if letter = 68 then (match number w 18446744073709551615 with | some n => .ok ({ c with delta := n }, block) | none => .error badDelta)
  else if letter = 48 then (if w = [48] then .ok (c, block) else .error badFormat)
  else if letter = 87 then (if w = slabsW ∨ w = resetW then .ok ({ c with what := w }, block) else .error badFormat)
  else if letter = 71 then
    (let m := c.metas ++ [{ letter := w.headD 0, arg := w.drop 1, has := decide (1 < w.length) }]
     if flagsOf c.verb m = [] then .ok ({ c with metas := m }, block) else .error (flagsOf c.verb m))
  else (match timeOf w with
    | some t => if letter = 83 ∧ t < 0 then .error badTime else .ok ({ c with exptime := t }, block)
    | none => .error badTime)

def wordsAt (places : Bs) : Nat → CmdV → Int → List Bs → Except Bs (CmdV × Int)
  | _, c, b, [] => .ok (c, b)
  | i, c, b, w :: t => match wordAt c b (places.getD (min i (places.length - 1)) 0) w with
    | .ok (c', b') => wordsAt places (i + 1) c' b' t
    | .error e => .error e

def indexOf (l : Bs) (c : UInt8) : Option Nat := l.findIdx? (· == c)

def passOf (r : RowV) (ws : List Bs) : Int :=
  match indexOf r.places 78 with
  | some i => (match ws[i]? with | some w => (match number w 2147483647 with | some n => (n : Int) | none => -1) | none => -1)
  | none => -1

/-- what Line tells: a command and its block, or what is wrong -/
inductive LineR where
  | ok (c : CmdV) (block : Int)
  | bad (w : WrongV)
  deriving DecidableEq

def isNoreply (r : RowV) (ws : List Bs) : Bool := r.noreply && decide (r.least + 1 ≤ ws.length) && (ws.getLast? == some noreplyW)

def rest (r : RowV) (ws : List Bs) : LineR :=
  let pass := passOf r ws
  let nr := isNoreply r ws
  let ws' := if nr then ws.dropLast else ws
  if ws'.length < r.least ∨ (r.places.length < ws'.length ∧ r.more = false) then .bad ⟨2, badFormat, pass⟩
  else match wordsAt r.places 0 { verb := r.verb, noreply := nr } (-1) ws' with
    | .ok (c, b) => .ok c b
    | .error e => .bad ⟨2, e, pass⟩

def lineOf (line : Bs) : LineR :=
  if 2048 < line.length then .bad ⟨2, tooLong, -1⟩
  else match wordsOf line with
    | [] => .bad ⟨1, [], -1⟩
    | v :: ws => match rowOf v with
      | none => .bad ⟨1, [], -1⟩
      | some r => rest r ws
end Sp
end Go.Proofs.YtnbeeehfapjpdaaGreatDoor
