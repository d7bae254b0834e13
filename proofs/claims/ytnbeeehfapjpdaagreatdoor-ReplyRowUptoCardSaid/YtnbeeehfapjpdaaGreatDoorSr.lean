/- The plain model of package reply, in Lean alone: what fits, what is written, what is read. No program in sight. -/
import Derived.Test.YtnbeeehfapjpdaaGreatDoorSp
namespace Go.Proofs.YtnbeeehfapjpdaaGreatDoor
namespace Sp

structure EntryV where
  key : Bs := []
  value : Bs := []
  flags : Nat := 0
  expiry : Int := 0
  token : Nat := 0
  touched : Int := 0
  stale : Bool := false
  won : Bool := false
  hit : Bool := false
  deriving DecidableEq
structure AnswerV where
  kind : Int := 0
  entries : List EntryV := []
  number : Nat := 0
  text : Bs := []
  stats : List (Bs × Nat) := []
  deriving DecidableEq

/-- the line of a kind that has but one -/
def fixedV (k : Int) : Bs :=
  if k = 1 then [83, 84, 79, 82, 69, 68] else if k = 2 then [78, 79, 84, 95, 83, 84, 79, 82, 69, 68] else if k = 3 then [69, 88, 73, 83, 84, 83] else if k = 4 then [78, 79, 84, 95, 70, 79, 85, 78, 68]
  else if k = 5 then [68, 69, 76, 69, 84, 69, 68] else if k = 6 then [84, 79, 85, 67, 72, 69, 68] else if k = 8 then [79, 75] else if k = 14 then [82, 69, 83, 69, 84] else []
/-- the kinds of a command's replies -/
def kindsV (v : Int) (what : Bs) : List Int :=
  if v = 1 ∨ v = 2 ∨ v = 3 ∨ v = 4 then [9] else if v = 5 ∨ v = 6 ∨ v = 7 ∨ v = 8 ∨ v = 9 then [1, 2] else if v = 10 then [1, 3, 4] else if v = 11 then [5, 4] else if v = 12 ∨ v = 13 then [7, 4] else if v = 14 then [6, 4]
  else if v = 15 ∨ v = 17 then [8] else if v = 16 then [10] else if v = 18 then [12] else if v = 19 then (if what = [114, 101, 115, 101, 116] then [14] else [13]) else if v = 20 ∨ v = 21 ∨ v = 22 ∨ v = 23 then [15, 12] else if v = 24 then [15] else []
def tokensV (v : Int) : Bool := decide (v = 2 ∨ v = 4)
/-- words -/
def plainV (s : Bs) : Bool := decide (s ≠ []) && decide (s.length ≤ 512) && decide (s.head? ≠ some 32 ∧ s.getLast? ≠ some 32) && s.all fun c => decide (32 ≤ c ∧ c ≤ 126)
def clientErr : Bs := [67, 76, 73, 69, 78, 84, 95, 69, 82, 82, 79, 82, 32]
def serverErr : Bs := [83, 69, 82, 86, 69, 82, 95, 69, 82, 82, 79, 82, 32]
def errorV : Bs := [69, 82, 82, 79, 82]
def refusalV (s : Bs) : Bool := decide (s = errorV) || [clientErr, serverErr].any fun p => p.isPrefixOf s && plainV (s.drop p.length)
def oddV (c : UInt8) : Bool := decide (c ≤ 32 ∨ c = 127)
def legalR (k : Bs) : Bool := decide (k ≠ []) && decide (k.length ≤ 250) && k.all fun c => !oddV c
def flagR (k : Bs) : Bool := decide (k ≠ []) && decide (k.length ≤ 251) && k.all fun c => !oddV c
def nameR (k : Bs) : Bool := decide (k ≠ []) && decide (k.length ≤ 250) && k.all fun c => decide (32 < c ∧ c ≤ 126)
def entriesV : List Bs → List EntryV → Bool
  | _, [] => true
  | keys, e :: l => if e.key ∈ keys then legalR e.key && decide (e.flags ≤ 4294967295) && decide (e.value.length ≤ 1048576) && entriesV (keys.drop (keys.idxOf e.key + 1)) l else false
/-- the codes of a meta verb's replies -/
def codesV (v : Int) : List Bs :=
  if v = 20 then [[72, 68], [86, 65], [69, 78]] else if v = 21 then [[72, 68], [78, 83], [69, 88], [78, 70]] else if v = 22 then [[72, 68], [69, 88], [78, 70]] else if v = 23 then [[72, 68], [86, 65], [78, 70], [78, 83], [69, 88]] else [[77, 78]]
/-- a text, cut at each blank -/
def splitV : Bs → List Bs
  | [] => [[]]
  | c :: t => if c = 32 then [] :: splitV t else match splitV t with
    | [] => [[c]]
    | w :: ws => (c :: w) :: ws
/-- a number's digits -/
def digF : Nat → Nat → Bs
  | 0, _ => []
  | r + 1, n => if n < 10 then [UInt8.ofNat (48 + n)] else digF r (n / 10) ++ [UInt8.ofNat (48 + n % 10)]
/-- a number's digits (of one below 10^20) -/
def digitsV (n : Nat) : Bs := digF 20 n
def metaV (v : Int) (text : Bs) (l : List EntryV) : Bool :=
  match splitV text with
  | [] => false
  | code :: words =>
    if 2048 < text.length ∨ code ∉ codesV v ∨ (words ≠ [] ∧ (code = [69, 78] ∨ code = [77, 78])) ∨ (code ≠ [86, 65] ∧ l ≠ []) then false
    else if code = [86, 65] then
      match l, words with
      | [e], w :: ws => decide (e.value.length ≤ 1048576) && decide (w = digitsV e.value.length) && ws.all flagR
      | _, _ => false
    else words.all flagR
/-- may the command be answered so? -/
def fitsV (v : Int) (keys : List Bs) (what : Bs) (a : AnswerV) : Bool :=
  let l := kindsV v what
  if l = [] ∨ (a.kind ∉ l ∧ (a.kind ≠ 11 ∨ v = 18)) then false
  else if (a.stats ≠ [] ∧ a.kind ≠ 13) ∨ (a.entries ≠ [] ∧ a.kind ≠ 9 ∧ a.kind ≠ 15) ∨ (0 < a.number ∧ a.kind ≠ 7) ∨ (a.text ≠ [] ∧ a.kind ≠ 10 ∧ a.kind ≠ 11 ∧ a.kind ≠ 15) then false
  else if a.kind = 9 then entriesV keys a.entries else if a.kind = 10 then plainV a.text else if a.kind = 11 then refusalV a.text else if a.kind = 13 then a.stats.all fun x => nameR x.1 else if a.kind = 15 then metaV v a.text a.entries else true
/-- parts, joined to a line -/
def lineR (parts : List Bs) : Bs := [32].intercalate parts ++ [13, 10]
def valueV : Bs := [86, 65, 76, 85, 69]
def endV : Bs := [69, 78, 68]
def statV : Bs := [83, 84, 65, 84]
def versionV : Bs := [86, 69, 82, 83, 73, 79, 78]
def entryW (v : Int) (e : EntryV) : Bs := lineR ([valueV, e.key, digitsV e.flags, digitsV e.value.length] ++ if tokensV v then [digitsV e.token] else []) ++ e.value ++ [13, 10]
/-- what is written of an answer that fits -/
def answerW (v : Int) (a : AnswerV) : Bs :=
  if a.kind = 9 then a.entries.flatMap (entryW v) ++ lineR [endV] else if a.kind = 7 then lineR [digitsV a.number] else if a.kind = 10 then lineR [versionV, a.text] else if a.kind = 11 then lineR [a.text]
  else if a.kind = 13 then (a.stats.flatMap fun x => lineR [statV, x.1, digitsV x.2]) ++ lineR [endV] else if a.kind = 15 then lineR [a.text] ++ a.entries.flatMap (fun e => e.value ++ [13, 10]) else lineR [fixedV a.kind]
def wroteV (v : Int) (keys : List Bs) (what : Bs) (noreply : Bool) (a : AnswerV) : Bs × Int :=
  if fitsV v keys what a = false then ([], 7) else if noreply = true ∨ a.kind = 12 then ([], 0) else (answerW v a, 0)

/-- what came of reading: something, up to a place; more is wanted; there is no reply -/
inductive RdV (α : Type) where
  | got (x : α) (place : Nat) : RdV α
  | more : RdV α
  | fail : RdV α
  deriving DecidableEq
def RdV.next {α β : Type} (r : RdV α) (k : α → Nat → RdV β) : RdV β :=
  match r with
  | .got x p => k x p
  | .more => .more
  | .fail => .fail
section
variable (raw : Bs)
def wantV (p : Nat) (s : Bs) : RdV Unit := if s.isPrefixOf (raw.drop p) then .got () (p + s.length) else if (raw.drop p).isPrefixOf s then .more else .fail
def chooseV (p : Nat) (texts : List Bs) : RdV Nat :=
  match texts.findIdx? fun s => s.isPrefixOf (raw.drop p) with
  | some i => .got i (p + (texts.getD i []).length)
  | none => if texts.any fun s => (raw.drop p).isPrefixOf s then .more else .fail
/-- from digit i on; n: what stands ahead of it -/
def numberFrom (most : Nat) (p : Nat) : Nat → Nat → Bs → RdV Nat
  | _, _, [] => .more
  | i, n, c :: t =>
    if c < 48 ∨ 57 < c then (if i = 0 then .fail else .got n (p + i))
    else if (0 < i ∧ n = 0) ∨ (most - (c.toNat - 48)) / 10 < n then .fail else numberFrom most p (i + 1) (10 * n + (c.toNat - 48)) t
def numberR (most : Nat) (p : Nat) : RdV Nat := numberFrom most p 0 0 (raw.drop p)
def textR (p : Nat) : RdV Bs :=
  match (raw.drop p).findIdx? fun c => decide (c < 32 ∨ 126 < c) with
  | none => if 512 < (raw.drop p).length ∨ ((raw.drop p).length = 512 ∧ (raw.drop p).getLast? = some 32) ∨ (raw.drop p).head? = some 32 then .fail else .more
  | some e => if plainV ((raw.drop p).take e) then .got ((raw.drop p).take e) (p + e) else .fail
def dataR (n : Nat) (p : Nat) : RdV Bs := if (raw.drop p).length < n then .more else .got ((raw.drop p).take n) (p + n)
def crlf : Bs := [13, 10]
/-- the texts that may stand where an entry or the end may -/
def valueTexts : List Bs → List Bs → List Bs
  | ts, [] => ts
  | ts, k :: ks => if legalR k = true ∧ (valueV ++ [32] ++ k ++ [32]) ∉ ts.drop 1 then valueTexts (ts ++ [valueV ++ [32] ++ k ++ [32]]) ks else valueTexts ts ks
def valuesFrom (v : Int) : Nat → List Bs → List EntryV → Nat → RdV (List EntryV)
  | 0, _, _, _ => .more
  | r + 1, keys, out, p =>
    let texts := valueTexts [endV ++ crlf] keys
    (chooseV raw p texts).next fun i p1 =>
      if i = 0 then .got out p1
      else
        let key := ((texts.getD i []).drop 6).dropLast
        (numberR raw 4294967295 p1).next fun fl p2 => (wantV raw p2 [32]).next fun _ p3 => (numberR raw 1048576 p3).next fun n p4 =>
          ((if tokensV v then (wantV raw p4 [32]).next fun _ p5 => numberR raw 18446744073709551615 p5 else .got 0 p4 : RdV Nat)).next fun tk p6 => (wantV raw p6 crlf).next fun _ p7 => (dataR raw n p7).next fun d p8 => (wantV raw p8 crlf).next fun _ p9 =>
            valuesFrom v r (keys.drop (keys.idxOf key + 1)) (out ++ [{ key := key, value := d, flags := fl, token := tk }]) p9
/-- a stat's name, and the blank behind it -/
def statNameR (p : Nat) : RdV Bs :=
  match (raw.drop p).findIdx? fun c => decide (c = 32) with
  | none => if raw.drop p ≠ [] ∧ nameR (raw.drop p) = false then .fail else .more
  | some e => if nameR ((raw.drop p).take e) = false then .fail else .got ((raw.drop p).take e) (p + e + 1)
def statsFrom : Nat → List (Bs × Nat) → Nat → RdV (List (Bs × Nat))
  | 0, _, _ => .more
  | r + 1, out, p =>
    (chooseV raw p [endV ++ crlf, statV ++ [32]]).next fun i p1 =>
      if i = 0 then .got out p1
      else (statNameR raw p1).next fun s p2 => (numberR raw 18446744073709551615 p2).next fun n p3 => (wantV raw p3 crlf).next fun _ p4 => statsFrom r (out ++ [(s, n)]) p4
/-- ahead of a flag: is it the line's end? -/
def flagHead (b : Nat) (p : Nat) : RdV Bool :=
  if raw.drop p = [] then (if 2048 < p - b then .fail else .more) else if 2048 < p - b then .fail else .got (decide ((raw.drop p).head? = some 13)) p
/-- a flag -/
def flagStep (b : Nat) (p : Nat) : RdV Unit :=
  if (raw.drop p).findIdx oddV < (raw.drop p).length then
    (if 251 < (raw.drop p).findIdx oddV ∨ (raw.drop p).findIdx oddV = 0 ∨ 2048 < p + (raw.drop p).findIdx oddV - b then .fail else .got () (p + (raw.drop p).findIdx oddV))
  else (if 251 < (raw.drop p).length ∨ 2048 < p + (raw.drop p).length - b ∨ ((raw.drop p).length = 0 ∧ p - b = 2048) then .fail else .more)
/-- flags, up to the line's end -/
def flagsFrom (b : Nat) : Nat → Nat → RdV Unit
  | 0, _ => .more
  | r + 1, p => (flagHead raw b p).next fun done p0 => if done then .got () p0 else (wantV raw p0 [32]).next fun _ p1 => (flagStep raw b p1).next fun _ p2 => flagsFrom b r p2
def codedLast (v : Int) (b i n p3 : Nat) (p4 : Nat) : RdV AnswerV :=
  if (codesV v).getD i [] = [86, 65] then (dataR raw n p4).next fun d p5 => (wantV raw p5 crlf).next fun _ p6 => .got { kind := 15, text := (raw.drop b).take (p3 - b), entries := [{ value := d }] } p6
  else .got { kind := 15, text := (raw.drop b).take (p3 - b) } p4
def codedEnd (v : Int) (b i n : Nat) (p3 : Nat) : RdV AnswerV := (wantV raw p3 crlf).next fun _ p4 => codedLast raw v b i n p3 p4
def codedRest (v : Int) (b : Nat) (i : Nat) (p : Nat) : RdV AnswerV :=
  if (codesV v).getD i [] = [69, 78] ∨ (codesV v).getD i [] = [77, 78] then (wantV raw p crlf).next fun _ p1 => .got { kind := 15, text := (codesV v).getD i [] } p1
  else ((if (codesV v).getD i [] = [86, 65] then (wantV raw p [32]).next fun _ p1 => numberR raw 1048576 p1 else .got 0 p : RdV Nat)).next fun n p2 =>
    (flagsFrom raw b (raw.length + 1) p2).next fun _ p3 => codedEnd raw v b i n p3
def codedR (v : Int) (b : Nat) : RdV AnswerV := (chooseV raw b (codesV v)).next fun i p => codedRest raw v b i p
def digitAt (p : Nat) : Bool := match (raw.drop p).head? with
  | some c => decide (48 ≤ c ∧ c ≤ 57)
  | none => false
def readR (v : Int) (keys : List Bs) (what : Bs) (b : Nat) : RdV AnswerV :=
  if (kindsV v what).headD 0 = 13 then (statsFrom raw (raw.length + 1) [] b).next fun x p => .got { kind := 13, stats := x } p
  else if (kindsV v what).headD 0 = 15 then codedR raw v b
  else if (kindsV v what).headD 0 = 9 then (valuesFrom raw v (keys.length + 1) keys [] b).next fun x p => .got { kind := 9, entries := x } p
  else if (kindsV v what).headD 0 = 10 then (wantV raw b (versionV ++ [32])).next fun _ p => (textR raw p).next fun s p1 => (wantV raw p1 crlf).next fun _ p2 => .got { kind := 10, text := s } p2
  else if (kindsV v what).headD 0 = 7 then
    (if digitAt raw b then (numberR raw 18446744073709551615 b).next fun n p => (wantV raw p crlf).next fun _ p1 => .got { kind := 7, number := n } p1
    else (chooseV raw b (((kindsV v what).drop 1).map fun k => fixedV k ++ crlf)).next fun i p => .got { kind := ((kindsV v what).drop 1).getD i 0 } p)
  else (chooseV raw b ((kindsV v what).map fun k => fixedV k ++ crlf)).next fun i p => .got { kind := (kindsV v what).getD i 0 } p
def refusals : List Bs := [errorV ++ crlf, clientErr, serverErr]
def refusedR (b : Nat) : RdV AnswerV :=
  (chooseV raw b refusals).next fun i p =>
    if i = 0 then .got { kind := 11, text := errorV } p
    else (textR raw p).next fun s p1 => (wantV raw p1 crlf).next fun _ p2 => .got { kind := 11, text := refusals.getD i [] ++ s } p2
/-- what Read tells -/
def answerR (v : Int) (keys : List Bs) (what : Bs) (noreply : Bool) : AnswerV × Nat × Int :=
  if kindsV v what = [] then ({}, 0, 7)
  else if noreply = true ∨ v = 18 then ({}, 0, 0)
  else match readR raw v keys what 0 with
    | .got a p => (a, p, 0)
    | .more => match refusedR raw 0 with
      | .got b m => (b, m, 0)
      | _ => ({}, 0, 0)
    | .fail => match refusedR raw 0 with
      | .got b m => (b, m, 0)
      | .more => ({}, 0, 0)
      | .fail => ({}, 0, 7)
end
/-- wakes -/
theorem wakesR : wroteV 2 [[97]] [] false { kind := 9, entries := [{ key := [97], value := [120], flags := 5, token := 7 }] } = ([86, 65, 76, 85, 69, 32, 97, 32, 53, 32, 49, 32, 55, 13, 10, 120, 13, 10, 69, 78, 68, 13, 10], 0) := by decide
theorem wakesR2 : answerR [86, 65, 76, 85, 69, 32, 97, 32, 53, 32, 49, 32, 55, 13, 10, 120, 13, 10, 69, 78, 68, 13, 10] 2 [[97]] [] false = ({ kind := 9, entries := [{ key := [97], value := [120], flags := 5, token := 7 }] }, 23, 0) := by decide
theorem wakesR3 : answerR [86, 65, 76, 85, 69, 32, 97, 32, 53, 32, 49, 32, 55, 13, 10, 120, 13, 10, 69, 78, 68, 13] 2 [[97]] [] false = ({}, 0, 0) := by decide
end Sp
end Go.Proofs.YtnbeeehfapjpdaaGreatDoor
