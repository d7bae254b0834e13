/- Plain laws for the document's own reading of lines, beside the program's. No program in sight. The plain model of words.Bytes, in Lean alone. No program in sight. -/
import Derived.Test.YthgfjafnclklpaaGreatDoorPr
import Derived.Test.YthgfjafnclklpaaGreatDoorFd
import Derived.Lib.ItoaNum
import Derived.Lib.Join
section
namespace Go.Proofs.YthgfjafnclklpaaGreatDoor
open Go.Lib Sp

theorem take_snocD (l : Bs) {k : Nat} (h : k < l.length) : l.take (k + 1) = l.take k ++ [l.getD k 0] := by
  rw [List.take_add_one, List.getD_eq_getElem?_getD, List.getElem?_eq_getElem h]
  rfl
theorem val_snoc (p : Bs) (c : UInt8) : val (p ++ [c]) = 10 * val p + (c.toNat - 48) := by simp [val, valOn]
/-- the document's reading of a number, behind k bytes: what is gathered, and whether it is right so far -/
structure NumMid (l : Bs) (most k m : Nat) (b : Bool) : Prop where
  dig : ∀ c ∈ l.take k, isDigit c = true
  ok : b = (!l.isEmpty && decide (val (l.take k) ≤ most))
  here : b = true → m = val (l.take k)
  fit : m ≤ 18446744073709551615

theorem NumMid.start (l : Bs) (most : Nat) : NumMid l most 0 0 (!l.isEmpty) :=
  ⟨by simp, by simp [val, valOn], fun _ => by simp [val, valOn], by omega⟩

section
variable {l : Bs} {most k m d : Nat} {b : Bool}
theorem NumMid.dig' (h : NumMid l most k m b) (hk : k < l.length) (hc : isDigit (l.getD k 0) = true) : ∀ c ∈ l.take (k + 1), isDigit c = true := by
  intro c hm
  rw [take_snocD l hk] at hm
  rcases List.mem_append.1 hm with hm | hm
  · exact h.dig c hm
  · simp at hm; subst hm; simpa using hc
theorem NumMid.over (h : NumMid l most k m b) (hk : k < l.length) (hc : isDigit (l.getD k 0) = true) (hd : d = (l.getD k 0).toNat - 48) (hd9 : d ≤ 9) (hov : (18446744073709551615 - d) / 10 < m) (hm : most ≤ 18446744073709551615) :
    NumMid l most (k + 1) 0 false := by
  refine ⟨h.dig' hk hc, ?_, (fun hx => absurd hx (by decide)), by omega⟩
  have hne : l.isEmpty = false := by cases l with | nil => simp at hk | cons => rfl
  have hb := h.ok
  rw [hne] at hb ⊢
  rw [take_snocD l hk, val_snoc, ← hd]
  symm
  rw [Bool.not_false, Bool.true_and, decide_eq_false_iff_not]
  rw [Bool.not_false, Bool.true_and] at hb
  cases b with
  | true => have := h.here rfl; omega
  | false =>
    have := of_decide_eq_false hb.symm
    omega
theorem NumMid.on (h : NumMid l most k m b) (hk : k < l.length) (hc : isDigit (l.getD k 0) = true) (hd : d = (l.getD k 0).toNat - 48) (hd9 : d ≤ 9) (hov : m ≤ (18446744073709551615 - d) / 10) :
    NumMid l most (k + 1) (10 * m + d) (b && decide (10 * m + d ≤ most)) := by
  have hne : l.isEmpty = false := by cases l with | nil => simp at hk | cons => rfl
  have hb := h.ok
  rw [hne, Bool.not_false, Bool.true_and] at hb
  refine ⟨h.dig' hk hc, ?_, fun hx => ?_, by omega⟩
  · rw [take_snocD l hk, val_snoc, ← hd, hne, Bool.not_false, Bool.true_and]
    cases b with
    | true => rw [Bool.true_and, h.here rfl]
    | false =>
      have := of_decide_eq_false hb.symm
      symm
      rw [Bool.false_and, decide_eq_false_iff_not]
      omega
  · rw [Bool.and_eq_true] at hx
    rw [take_snocD l hk, val_snoc, ← hd, h.here hx.1]
theorem NumMid.end (h : NumMid l most l.length m b) : number l most = if b = true then some m else none := by
  have hd := h.dig
  have hk := h.ok
  have hh := h.here
  rw [List.take_length] at hd hk hh
  have hdig : digits l = !l.isEmpty := by
    unfold digits
    have : l.all isDigit = true := List.all_eq_true.2 hd
    rw [this, Bool.and_true]
  unfold number
  rw [hdig]
  by_cases hb : b = true
  · rw [if_pos hb, hh hb, ← hk, hb, if_pos rfl]
  · rw [if_neg hb, ← hk, if_neg hb]
theorem number_bad (hk : k < l.length) (hc : isDigit (l.getD k 0) = false) : number l most = none := by
  unfold number
  have : digits l = false := by
    unfold digits
    have : l.all isDigit = false := by
      rw [List.all_eq_false]
      refine ⟨l.getD k 0, ?_, by rw [hc]; decide⟩
      rw [List.getD_eq_getElem?_getD, List.getElem?_eq_getElem hk]
      exact List.getElem_mem hk
    rw [this, Bool.and_false]
  rw [this]
  rfl
theorem isDigit_no {c : UInt8} (h : c.toNat < 48 ∨ 57 < c.toNat) : isDigit c = false := by
  cases hd : isDigit c with
  | false => rfl
  | true => have := (isDigit_iff c).1 hd; omega
theorem isDigit_yes {c : UInt8} (h1 : 48 ≤ c.toNat) (h2 : c.toNat ≤ 57) : isDigit c = true := (isDigit_iff c).2 ⟨h1, h2⟩
end

theorem number_fit {w : Bs} {most n : Nat} (h : number w most = some n) : n ≤ most := number_le h

theorem timeOf_dash (t : Bs) : timeOf (45 :: t) = (number t 9223372036854775808).map fun n : Nat => -(n : Int) := by
  have e : timeOf (45 :: t) = if digits t && decide (val t ≤ 9223372036854775808) then some (- (val t : Int)) else none := rfl
  rw [e]
  unfold number
  split <;> rfl
theorem timeOf_plain {l : Bs} (h : l.head? ≠ some 45) : timeOf l = (number l 9223372036854775807).map fun n : Nat => (n : Int) := by
  unfold timeOf
  split
  · exact absurd rfl h
  · unfold number
    split <;> rfl

/-- a key: what the document takes for one -/
def keyV (w : Bs) : Bool := legal w && !w.isEmpty
theorem keyV_bad {w : Bs} {k : Nat} (hk : k < w.length) (hc : keyByte (w.getD k 0) = false) : keyV w = false := by
  unfold keyV legal
  have : w.all keyByte = false := by
    rw [List.all_eq_false]
    refine ⟨w.getD k 0, ?_, by rw [hc]; decide⟩
    rw [List.getD_eq_getElem?_getD, List.getElem?_eq_getElem hk]
    exact List.getElem_mem hk
  rw [this]; simp
theorem keyV_end {w : Bs} (h : ∀ c ∈ w.take w.length, keyByte c = true) : keyV w = (decide (1 ≤ w.length) && decide (w.length ≤ 250)) := by
  rw [List.take_length] at h
  unfold keyV legal
  rw [List.all_eq_true.2 h, Bool.and_true, Bool.and_comm]
  congr 1
  cases w <;> simp
theorem all_snoc {p : UInt8 → Bool} {w : Bs} {k : Nat} (h : ∀ c ∈ w.take k, p c = true) (hk : k < w.length) (hc : p (w.getD k 0) = true) : ∀ c ∈ w.take (k + 1), p c = true := by
  intro c hm
  rw [take_snocD w hk] at hm
  rcases List.mem_append.1 hm with hm | hm
  · exact h c hm
  · simp at hm; subst hm; simpa using hc
theorem keyByte_is (c : UInt8) : keyByte c = (!decide ((c.toNat : Int) ≤ 32) && !decide ((c.toNat : Int) = 127)) := by
  unfold keyByte
  congr 1
  · rw [← decide_not]; congr 1; apply propext; omega
  · rw [← decide_not]; congr 1; apply propext; omega

/-- the words so far: what is gathered, and the word that is on -/
theorem words_blank0 {l : Bs} {k : Nat} (hk : k < l.length) (hc : l.getD k 0 = 32) : wordsGo (l.drop k) [] = wordsGo (l.drop (k + 1)) [] := by
  rw [drop_cons hk, hc]
  conv => lhs; unfold wordsGo
  simp
theorem words_blank {l cur : Bs} {k : Nat} (hk : k < l.length) (hc : l.getD k 0 = 32) (hn : cur ≠ []) : wordsGo (l.drop k) cur = cur :: wordsGo (l.drop (k + 1)) [] := by
  rw [drop_cons hk, hc]
  conv => lhs; unfold wordsGo
  rw [if_pos rfl, if_neg (by cases cur with | nil => exact absurd rfl hn | cons => simp)]
theorem words_byte {l cur : Bs} {k : Nat} (hk : k < l.length) (hc : l.getD k 0 ≠ 32) : wordsGo (l.drop k) cur = wordsGo (l.drop (k + 1)) (cur ++ [l.getD k 0]) := by
  rw [drop_cons hk]
  conv => lhs; unfold wordsGo
  rw [if_neg hc]
theorem words_end0 {l : Bs} {k : Nat} (hk : l.length ≤ k) : wordsGo (l.drop k) [] = [] := by
  rw [List.drop_eq_nil_of_le hk]; rfl
theorem words_end {l cur : Bs} {k : Nat} (hk : l.length ≤ k) (hn : cur ≠ []) : wordsGo (l.drop k) cur = [cur] := by
  rw [List.drop_eq_nil_of_le hk]
  unfold wordsGo
  rw [if_neg (by cases cur with | nil => exact absurd rfl hn | cons => simp)]

/-- the verbs' words, by their numbers -/
def verbWords : List Bs := [[103, 101, 116], [103, 101, 116, 115], [103, 97, 116], [103, 97, 116, 115], [115, 101, 116], [97, 100, 100], [114, 101, 112, 108, 97, 99, 101], [97, 112, 112, 101, 110, 100], [112, 114, 101, 112, 101, 110, 100],
  [99, 97, 115], [100, 101, 108, 101, 116, 101], [105, 110, 99, 114], [100, 101, 99, 114], [116, 111, 117, 99, 104], [102, 108, 117, 115, 104, 95, 97, 108, 108], [118, 101, 114, 115, 105, 111, 110],
  [118, 101, 114, 98, 111, 115, 105, 116, 121], [113, 117, 105, 116], [115, 116, 97, 116, 115], [109, 103], [109, 115], [109, 100], [109, 97], [109, 110]]
/-- the row of a verb -/
def rowBy (v : Nat) : RowV := match tab.find? (fun x => x.2.verb == v) with | some x => x.2 | none => { verb := v }
/-- the word of a verb -/
def wordBy (v : Nat) : Bs := verbWords.getD (v - 1) []

theorem tab_by : ∀ x ∈ tab, rowBy x.2.verb = x.2 ∧ wordBy x.2.verb = x.1 ∧ 1 ≤ x.2.verb ∧ x.2.verb ≤ 24 := by decide
theorem by_tab : ∀ v : Fin 24, (wordBy (v.val + 1), rowBy (v.val + 1)) ∈ tab ∧ (rowBy (v.val + 1)).verb = v.val + 1 := by decide
theorem tab_words : ∀ x ∈ tab, tab.find? (fun y => x.1 == y.1) = some x := by decide
theorem rowOf_some {w : Bs} {r : RowV} (h : rowOf w = some r) : rowBy r.verb = r ∧ wordBy r.verb = w ∧ 1 ≤ r.verb ∧ r.verb ≤ 24 := by
  unfold rowOf at h
  cases hf : tab.find? (fun x => w == x.1) with
  | none => rw [hf] at h; cases h
  | some x =>
    rw [hf] at h
    injection h with h
    subst h
    have hx : w = x.1 := by simpa using List.find?_some hf
    rw [hx]
    exact tab_by x (List.mem_of_find?_eq_some hf)
theorem rowOf_word {v : Nat} (h1 : 1 ≤ v) (h2 : v ≤ 24) : rowOf (wordBy v) = some (rowBy v) := by
  have := by_tab ⟨v - 1, by omega⟩
  simp only [show v - 1 + 1 = v by omega] at this
  unfold rowOf
  rw [tab_words _ this.1]
  rfl
theorem rowBy_verb {v : Nat} (h1 : 1 ≤ v) (h2 : v ≤ 24) : (rowBy v).verb = v := by
  have := by_tab ⟨v - 1, by omega⟩
  simpa only [show v - 1 + 1 = v by omega] using this.2
/-- the first verb from v on that has this word -/
theorem rowOf_none {w : Bs} (h : ∀ v, 1 ≤ v → v ≤ 24 → wordBy v ≠ w) : rowOf w = none := by
  cases hr : rowOf w with
  | none => rfl
  | some r => have := rowOf_some hr; exact absurd this.2.1 (h _ this.2.2.1 this.2.2.2)
theorem rowOf_first {w : Bs} {v : Nat} (h1 : 1 ≤ v) (h2 : v ≤ 24) (h : wordBy v = w) : rowOf w = some (rowBy v) ∧ (rowBy v).verb = v := by
  subst h
  exact ⟨rowOf_word h1 h2, rowBy_verb h1 h2⟩

/-- the document's letter for a nought is Z -/
def zed (c : UInt8) : UInt8 := if c = 48 then 90 else c
def zeds (l : Bs) : Bs := l.map zed
theorem zeds_length (l : Bs) : (zeds l).length = l.length := by simp [zeds]
theorem zed_78 (c : UInt8) : zed c = 78 ↔ c = 78 := by
  unfold zed
  split
  · rename_i h; subst h; decide
  · rfl

theorem one_N : ∀ x ∈ tab, ∀ i j : Fin 5, x.2.places[i.val]? = some 78 → x.2.places[j.val]? = some 78 → i = j := by decide
theorem rowOf_N {w : Bs} {r : RowV} (h : rowOf w = some r) {i j : Nat} (hi : r.places[i]? = some 78) (hj : r.places[j]? = some 78) : i = j := by
  have hok := rowOf_ok h
  unfold rowOf at h
  cases hf : tab.find? (fun x => w == x.1) with
  | none => rw [hf] at h; cases h
  | some x =>
    rw [hf] at h
    injection h with h
    subst h
    change x.2.places[i]? = some 78 at hi
    change x.2.places[j]? = some 78 at hj
    have l1 : i < x.2.places.length := (List.getElem?_eq_some_iff.1 hi).1
    have l2 : j < x.2.places.length := (List.getElem?_eq_some_iff.1 hj).1
    have hl : x.2.places.length ≤ 5 := hok.1
    have := one_N x (List.mem_of_find?_eq_some hf) ⟨i, by omega⟩ ⟨j, by omega⟩ hi hj
    injection this

theorem indexOf_first {l : Bs} {c : UInt8} {i : Nat} (h : indexOf l c = some i) : l[i]? = some c := by
  unfold indexOf at h
  obtain ⟨h1, h2, _⟩ := List.findIdx?_eq_some_iff_getElem.1 h
  rw [List.getElem?_eq_getElem h1]
  simpa using h2
theorem pass_stop {r : RowV} {ws : List Bs} {k : Nat} (hk : r.places.length ≤ k ∨ ws.length ≤ k) (h : ∀ j < k, r.places[j]? = some 78 → ∀ w, ws[j]? = some w → number w 2147483647 = none) : passOf r ws = -1 := by
  unfold passOf
  cases hi : indexOf r.places 78 with
  | none => rfl
  | some i =>
    have h1 := indexOf_first hi
    have h2 := (List.getElem?_eq_some_iff.1 h1).1
    dsimp only
    cases hw : ws[i]? with
    | none => rfl
    | some w =>
      have h3 := (List.getElem?_eq_some_iff.1 hw).1
      dsimp only
      rw [h i (by omega) h1 w hw]
theorem pass_here {v w : Bs} {r : RowV} {ws : List Bs} {k n : Nat} (hr : rowOf v = some r) (hk : r.places[k]? = some 78) (hw : ws[k]? = some w) (hn : number w 2147483647 = some n) : passOf r ws = n := by
  unfold passOf
  cases hi : indexOf r.places 78 with
  | none =>
    exfalso
    unfold indexOf at hi
    have := List.findIdx?_eq_none_iff.1 hi 78 (List.mem_of_getElem? hk)
    simp at this
  | some i =>
    have := rowOf_N hr (indexOf_first hi) hk
    subst this
    dsimp only
    rw [hw]
    dsimp only
    rw [hn]

/-- the document's look behind a flag's letter -/
def behindR (v : Nat) (f : FlagV) : Bool :=
  if f.letter = 79 then keyV f.arg
  else if f.letter = 84 ∨ f.letter = 78 then (timeOf f.arg).isSome
  else if f.letter = 70 then (number f.arg 4294967295).isSome
  else if f.letter = 82 ∨ f.letter = 67 ∨ f.letter = 68 ∨ f.letter = 74 then (number f.arg 18446744073709551615).isSome
  else if f.arg.length ≠ 1 then false
  else if v = 21 then ([83, 69, 65, 80, 82, 115, 101, 97, 112, 114] : Bs).contains (f.arg.getD 0 0)
  else ([73, 68, 105, 100] : Bs).contains (f.arg.getD 0 0)

theorem withs_in (v : Nat) : ∀ c ∈ withs v, c ∈ ([79, 84, 78, 82, 70, 67, 77, 68, 74] : Bs) := by
  unfold withs
  split
  · decide
  · split
    · decide
    · split
      · decide
      · split
        · decide
        · simp
theorem withs_M {v : Nat} (h : (77 : UInt8) ∈ withs v) : v = 21 ∨ v = 23 := by
  unfold withs at h
  split at h
  · exact absurd h (by decide)
  · split at h
    · rename_i h1; exact .inl h1
    · split at h
      · exact absurd h (by decide)
      · split at h
        · rename_i h1; exact .inr h1
        · simp at h
theorem apart_letters (v : Nat) : ∀ c ∈ withs v, c ∉ alone v := by
  unfold withs alone
  by_cases h1 : v = 20
  · simp only [h1, if_true]; decide
  · simp only [h1, if_false]
    by_cases h2 : v = 21
    · simp only [h2, if_true]; decide
    · simp only [h2, if_false]
      by_cases h3 : v = 22
      · simp only [h3, if_true]; decide
      · simp only [h3, if_false]
        by_cases h4 : v = 23
        · simp only [h4, if_true]; decide
        · simp [h4]

theorem behind_same (v : Nat) (f : FlagV) (hw : f.letter ∈ withs v) (ho : ¬ (f.letter = 79 ∧ f.arg = [])) : behindR v f = behind v f := by
  have hin := withs_in v _ hw
  unfold behindR behind
  split
  · rename_i h
    unfold keyV
    have : f.arg ≠ [] := fun e => ho ⟨h, e⟩
    cases ha : f.arg with
    | nil => exact absurd ha this
    | cons => simp
  · split
    · rfl
    · split
      · rfl
      · by_cases hM : f.letter = 77
        · rw [if_neg (by rw [hM]; decide), if_pos hM]
          rw [hM] at hw
          have hv := withs_M hw
          cases ha : f.arg with
          | nil => simp
          | cons c t =>
            cases t with
            | nil =>
              simp only [List.length_cons, List.length_nil, ne_eq, Nat.zero_add, not_true_eq_false, if_false, List.getD_cons_zero]
              rcases hv with rfl | rfl <;> simp [modes]
            | cons => simp
        · rw [if_neg hM]
          rw [if_pos (by
            simp only [List.mem_cons, List.not_mem_nil, or_false] at hin
            rename_i h1 h2 h3
            rcases hin with h | h | h | h | h | h | h | h | h
            · exact absurd h h1
            · exact absurd (.inl h) h2
            · exact absurd (.inr h) h2
            · exact .inl h
            · exact absurd h h3
            · exact .inr (.inl h)
            · exact absurd h hM
            · exact .inr (.inr (.inl h))
            · exact .inr (.inr (.inr h)))]

/-- the document's word on one flag is the program's -/
theorem flagOf_same (v : Nat) (ahead : List FlagV) (f : FlagV) : flagOf v ahead f =
    if (!(alone v).contains f.letter && !(withs v).contains f.letter) = true then invalidFlag
    else if ahead.any (fun x => x.letter == f.letter) = true then twiceFlag
    else if (f.letter == 79 && (f.arg.isEmpty || decide (32 < f.arg.length))) = true then opaqueLong
    else if ((f.has != !f.arg.isEmpty) || ((alone v).contains f.letter && f.has) || ((withs v).contains f.letter && !behindR v f)) = true then badToken
    else [] := by
  unfold flagOf
  split
  · rfl
  · rename_i h1
    split
    · rfl
    · have e1 : (f.letter = 79 ∧ (f.arg = [] ∨ 32 < f.arg.length)) ↔ (f.letter == 79 && (f.arg.isEmpty || decide (32 < f.arg.length))) = true := by
        simp only [Bool.and_eq_true, Bool.or_eq_true, beq_iff_eq, decide_eq_true_eq, List.isEmpty_iff]
      by_cases h2 : f.letter = 79 ∧ (f.arg = [] ∨ 32 < f.arg.length)
      · rw [if_pos h2, if_pos (e1.1 h2)]
      · rw [if_neg h2, if_neg (fun h => h2 (e1.2 h))]
        have e2 : ((withs v).contains f.letter && !behindR v f) = (!(alone v).contains f.letter && !behind v f) := by
          by_cases hw : f.letter ∈ withs v
          · have ha := apart_letters v _ hw
            have hb := behind_same v f hw (fun h => h2 ⟨h.1, .inl h.2⟩)
            have c1 : (withs v).contains f.letter = true := List.contains_iff_mem.2 hw
            have c2 : (alone v).contains f.letter = false := by rw [← Bool.not_eq_true, List.contains_iff_mem]; exact ha
            rw [c1, c2, hb]; rfl
          · have c1 : (withs v).contains f.letter = false := by rw [← Bool.not_eq_true, List.contains_iff_mem]; exact hw
            have c2 : (alone v).contains f.letter = true := by
              cases hc : (alone v).contains f.letter with
              | true => rfl
              | false => exact absurd (by rw [hc, c1]; rfl) h1
            rw [c1, c2]; rfl
        rw [e2]
end Go.Proofs.YthgfjafnclklpaaGreatDoor
end
section
namespace Go.Proofs.YthgfjafnclklpaaGreatDoor
open Go.Lib

namespace Sp
/-- the texts that stand at a place of a row -/
def putV (c : CmdV) (k : UInt8) : List Bs :=
  if k = 75 then c.keys
  else if k = 71 then c.metas.map fun f => f.letter :: f.arg
  else if k = 70 then [decDigits c.flags]
  else if k = 78 then [decDigits c.data.length]
  else if k = 86 then [[49]]
  else if k = 67 then [decDigits c.token]
  else if k = 68 then [decDigits c.delta]
  else if k = 84 then [itoa c.exptime]
  else if k = 83 then (if c.exptime = 0 then [] else [itoa c.exptime])
  else if k = 87 then (if c.what = [] then [] else [c.what])
  else []
/-- the words of a command's line -/
def partsV (r : RowV) (word : Bs) (c : CmdV) : List Bs := word :: (r.places.flatMap (putV c)) ++ (if c.noreply then [noreplyW] else [])
/-- a command written down -/
def outV (c : CmdV) : Bs := join (partsV (rowBy c.verb) (wordBy c.verb) c) [32] ++ [13, 10] ++ (if (rowBy c.verb).block then c.data ++ [13, 10] else [])
/-- is it read again as it was? -/
def againV (c : CmdV) : Bool := match allV c.data.length ((outV c).length + 1) 0 (outV c) with
  | ([t], left) => decide (left = 0) && decide (t.cmd = c) && decide (t.to = (outV c).length)
  | _ => false
/-- what Bytes tells -/
def bytesV' (c : CmdV) : Option Bs := if 1 ≤ c.verb ∧ c.verb ≤ 24 ∧ c.large = false ∧ againV c = true then some (outV c) else none
end Sp
end Go.Proofs.YthgfjafnclklpaaGreatDoor
end
