/- Plain laws of words.All: its steps lie one behind the other. No program in sight. Plain laws of words.All: a beginning of the bytes, one step's bytes, what is behind a step. No program in sight. Plain laws: numbers, times and words written down and read again. No program in sight. Plain laws: which commands are read again as they were written. No program in sight. Plain laws: which commands are read again as they were written; what is told may be written. No program in sight. Plain laws: what is told of a line may be written down, and no longer than it was. No program in sight. Plain laws: what Bytes writes All reads again, each command in its place. No program in sight. Plain laws: a command is read again as it was written just where its fields may be; what is told is. No program in sight. Plain laws: a command's line, piece by piece; the document's checks of a command's fields, one behind the other. No program in sight. -/
import Derived.Test.YtnbeeehfapjpdaaGreatDoorQKw
section
section
namespace Go.Proofs.YtnbeeehfapjpdaaGreatDoor
open Go.Lib Sp

theorem skipV_in {l : Bs} {k m : Nat} {g : Bool} (h : skipV l k = some (m, g)) : k < m ∧ m ≤ l.length := by
  obtain ⟨hk, hm⟩ := skipV_some h
  refine ⟨hm, ?_⟩
  rw [skipV_cases l k hk] at h
  split at h
  · rename_i h2
    injection h with h; injection h with h _
    have := congrArg List.length h2
    rw [List.length_take, List.length_drop] at this
    simp at this
    omega
  · split at h
    · cases h
    · obtain ⟨i, hi, h⟩ := Option.map_eq_some_iff.1 h
      injection h with h _
      have := indexOf_in hi
      rw [List.length_drop] at this
      omega

theorem oneV_in {lim : Nat} {l : Bs} {t : StepV} {n : Nat} (h : oneV lim l = some (t, n)) : 0 < n ∧ n ≤ l.length := by
  unfold oneV at h
  cases he : indexOf l 10 with
  | none => rw [he] at h; cases h
  | some e =>
    rw [he] at h
    have hel := indexOf_in he
    have hsk : ∀ (k : Nat) (f : Nat × Bool → StepV × Nat), (∀ y, (f y).2 = e + 1 + y.1) → (skipV (l.drop (e + 1)) k).map f = some (t, n) → 0 < n ∧ n ≤ l.length := by
      intro k f hf h
      obtain ⟨y, hy, h⟩ := Option.map_eq_some_iff.1 h
      have h2 := hf y
      rw [h] at h2
      have := skipV_in (m := y.1) (g := y.2) hy
      rw [List.length_drop] at this
      simp only at h2
      omega
    simp only at h
    split at h
    · split at h
      · exact hsk _ _ (fun _ => rfl) h
      · injection h with h; injection h with _ h; omega
    · split at h
      · injection h with h; injection h with _ h; omega
      · exact hsk _ _ (fun _ => rfl) h

/-- steps that lie one behind the other, from a to b -/
def lieV : Nat → List StepV → Nat → Prop
  | a, [], b => a = b
  | a, t :: ts, b => t.frm = a ∧ a < t.to ∧ lieV t.to ts b

end Go.Proofs.YtnbeeehfapjpdaaGreatDoor
end
section
namespace Go.Proofs.YtnbeeehfapjpdaaGreatDoor
open Go.Lib Sp

/-- the rounds do not matter, if there are enough -/
theorem allV_fuel (lim : Nat) : ∀ (r r' a : Nat) (l : Bs), l.length < r → l.length < r' → allV lim r a l = allV lim r' a l
  | 0, _, _, _, h, _ => by omega
  | _ + 1, 0, _, _, _, h => by omega
  | r + 1, r' + 1, a, l, h, h' => by
    unfold allV
    cases ho : oneV lim l with
    | none => rfl
    | some y =>
      obtain ⟨t, n⟩ := y
      have hn := oneV_in ho
      dsimp only
      split
      · rfl
      · rw [allV_fuel lim r r' (a + n) (l.drop n) (by rw [List.length_drop]; omega) (by rw [List.length_drop]; omega)]

/-- a step, further on by so many bytes -/
def StepV.shifted (t : StepV) (d : Nat) : StepV := t.span (t.frm + d) (t.to + d)

theorem allV_shift (lim d : Nat) : ∀ (r a : Nat) (l : Bs), allV lim r (a + d) l = ((allV lim r a l).1.map fun t => StepV.shifted t d, (allV lim r a l).2)
  | 0, _, _ => rfl
  | r + 1, a, l => by
    unfold allV
    cases ho : oneV lim l with
    | none => rfl
    | some y =>
      obtain ⟨t, n⟩ := y
      dsimp only
      have hsp : t.span (a + d) (a + d + n) = StepV.shifted (t.span a (a + n)) d := by
        show t.span (a + d) (a + d + n) = t.span (a + d) (a + n + d)
        rw [show a + d + n = a + n + d by omega]
      split
      · rw [hsp]; rfl
      · rw [hsp, show a + d + n = (a + n) + d by omega, allV_shift lim d r (a + n) (l.drop n)]
        rfl

/-- what All tells of these bytes -/
def allOf (lim : Nat) (l : Bs) : List StepV × Nat := allV lim (l.length + 1) 0 l

theorem allOf_none {lim : Nat} {l : Bs} (h : oneV lim l = none) : allOf lim l = ([], l.length) := by
  unfold allOf allV
  rw [h]
theorem allOf_some {lim : Nat} {l : Bs} {t : StepV} {n : Nat} (h : oneV lim l = some (t, n)) :
    allOf lim l = if t.cmd.verb = 18 then ([t.span 0 n], 0) else (t.span 0 n :: (allOf lim (l.drop n)).1.map (fun t => StepV.shifted t n), (allOf lim (l.drop n)).2) := by
  have hn := oneV_in h
  unfold allOf
  conv => lhs; unfold allV
  rw [h]
  dsimp only
  rw [Nat.zero_add]
  split
  · rfl
  · have e := allV_shift lim n l.length 0 (l.drop n)
    rw [Nat.zero_add] at e
    rw [e, allV_fuel lim l.length ((l.drop n).length + 1) 0 (l.drop n) (by rw [List.length_drop]; omega) (by omega)]
/-- the steps from the k-th on, and the bytes at which they begin -/
structure AllAt (lim : Nat) (l : Bs) (k a : Nat) (quit : Bool) : Prop where
  le : a ≤ l.length
  kle : k ≤ (allOf lim l).1.length
  rest : quit = false → (allOf lim l).1.drop k = (allOf lim (l.drop a)).1.map (fun t => StepV.shifted t a) ∧ (allOf lim l).2 = (allOf lim (l.drop a)).2
  over : quit = true → (allOf lim l).1.drop k = [] ∧ (allOf lim l).2 = 0
  last : k = 0 → a = 0 ∧ quit = false
  prev : ∀ j, k = j + 1 → ∃ t, (allOf lim l).1[j]? = some t ∧ t.to = a ∧ quit = decide (t.cmd.verb = 18)

theorem AllAt.start (lim : Nat) (l : Bs) : AllAt lim l 0 0 false :=
  ⟨Nat.zero_le _, Nat.zero_le _, fun _ => ⟨by
    rw [List.drop_zero, List.drop_zero]
    have : (fun t : StepV => StepV.shifted t 0) = id := by funext t; rfl
    rw [this, List.map_id], by rw [List.drop_zero]⟩, fun h => (by cases h), fun _ => ⟨rfl, rfl⟩, fun j h => by omega⟩

/-- one step on -/
theorem AllAt.on {lim : Nat} {l : Bs} {k a : Nat} {quit : Bool} (h : AllAt lim l k a quit) (hk : k < (allOf lim l).1.length) :
    ∃ t n, quit = false ∧ oneV lim (l.drop a) = some (t, n) ∧ (allOf lim l).1[k]? = some (t.span a (a + n)) ∧ 0 < n ∧ a + n ≤ l.length ∧ AllAt lim l (k + 1) (a + n) (decide (t.cmd.verb = 18)) := by
  have hq : quit = false := by
    cases quit with
    | false => rfl
    | true =>
      have := (h.over rfl).1
      rw [List.drop_eq_nil_iff] at this
      omega
  subst hq
  obtain ⟨h1, h2⟩ := h.rest rfl
  cases ho : oneV lim (l.drop a) with
  | none =>
    rw [allOf_none ho] at h1
    have := congrArg List.length h1
    simp at this
    omega
  | some y =>
    obtain ⟨t, n⟩ := y
    have hn := oneV_in ho
    rw [List.length_drop] at hn
    have hle := h.le
    rw [allOf_some ho] at h1 h2
    have hsp : StepV.shifted (t.span 0 n) a = t.span a (a + n) := by
      show t.span (0 + a) (n + a) = t.span a (a + n)
      rw [Nat.zero_add, Nat.add_comm]
    have hget : (allOf lim l).1[k]? = some (t.span a (a + n)) := by
      have e : (allOf lim l).1[k]? = ((allOf lim l).1.drop k)[0]? := by rw [List.getElem?_drop, Nat.add_zero]
      rw [e, h1, ← hsp]
      split <;> rfl
    have hd : (allOf lim l).1.drop (k + 1) = ((allOf lim l).1.drop k).drop 1 := by rw [List.drop_drop]
    refine ⟨t, n, rfl, rfl, hget, hn.1, by omega, ⟨by omega, hk, fun hv => ?_, fun hv => ?_, fun h0 => by omega, fun j hj => ?_⟩⟩
    · have hv' := of_decide_eq_false hv
      rw [if_neg hv'] at h1 h2
      rw [hd, h1, h2, List.drop_drop]
      refine ⟨?_, rfl⟩
      simp only [List.map_cons, List.drop_succ_cons, List.drop_zero, List.map_map]
      apply List.map_congr_left
      intro x _
      show x.span (x.frm + n + a) (x.to + n + a) = x.span (x.frm + (a + n)) (x.to + (a + n))
      rw [show x.frm + n + a = x.frm + (a + n) by omega, show x.to + n + a = x.to + (a + n) by omega]
    · have hv' := of_decide_eq_true hv
      rw [if_pos hv'] at h1 h2
      rw [hd, h1, h2]
      exact ⟨rfl, rfl⟩
    · have : j = k := by omega
      subst this
      exact ⟨_, hget, rfl, rfl⟩

end Go.Proofs.YtnbeeehfapjpdaaGreatDoor
end
end
section
section
section
namespace Go.Proofs.YtnbeeehfapjpdaaGreatDoor
open Go.Lib Sp

/-- a text that stands as a word -/
def Solid (w : Bs) : Prop := w ≠ [] ∧ ∀ x ∈ w, 32 < x.toNat
theorem joinTail_cons (sep y : Bs) (r : List Bs) : joinTail sep (y :: r) = sep ++ y ++ joinTail sep r := by simp [joinTail]
/-- how long words are, each with a blank -/
def tails : List Bs → Nat
  | [] => 0
  | y :: t => y.length + 1 + tails t
theorem joinTail_tails : ∀ (r : List Bs), (joinTail [32] r).length = tails r
  | [] => rfl
  | y :: t => by rw [joinTail_cons, tails, List.length_append, List.length_append, joinTail_tails t]; simp; omega
theorem join_tails : ∀ (ps : List Bs), ps ≠ [] → (join ps [32]).length + 1 = tails ps
  | [], h => absurd rfl h
  | x :: r, _ => by rw [join_cons, List.length_append, joinTail_tails, tails]; omega
theorem tails_append : ∀ (a b : List Bs), tails (a ++ b) = tails a + tails b
  | [], b => by simp [tails]
  | x :: t, b => by rw [List.cons_append, tails, tails, tails_append t b]; omega

/-! numbers -/
theorem nDigits_le : ∀ (k u : Nat), 1 ≤ k → u < 10 ^ k → nDigits u ≤ k
  | 0, _, h, _ => by omega
  | k + 1, u, _, h => by
    by_cases hu : u < 10
    · rw [nDigits_small hu]; omega
    · rw [nDigits_big hu]
      rw [Nat.pow_succ] at h
      have hk : 1 ≤ k := by
        rcases Nat.eq_zero_or_pos k with e | e
        · subst e; simp at h; omega
        · exact e
      have := nDigits_le k (u / 10) hk (by omega)
      omega
/-! times -/
end Go.Proofs.YtnbeeehfapjpdaaGreatDoor
end
section
namespace Go.Proofs.YtnbeeehfapjpdaaGreatDoor
open Go.Lib Sp

/-! one word -/
section
variable {c c' : CmdV} {b b' : Int} {w : Bs}
end

/-! flags, one by one -/
/-! words from a place on, where the last letter comes again -/
end Go.Proofs.YtnbeeehfapjpdaaGreatDoor
end
section
namespace Go.Proofs.YtnbeeehfapjpdaaGreatDoor
open Go.Lib Sp

/-- the fields of a command that may be written, beside its verb's row -/
structure MayR (r : RowV) (c : CmdV) : Prop where
  keyed1 : 75 ∈ r.places → c.keys ≠ []
  keyed0 : 75 ∉ r.places → c.keys = []
  one : 4 < c.verb → c.keys.length ≤ 1
  keys : ∀ k ∈ c.keys, keyV k = true
  flags : c.flags ≤ 4294967295
  flags0 : 70 ∉ r.places → c.flags = 0
  time0 : 84 ∉ r.places → 83 ∉ r.places → c.exptime = 0
  token0 : 67 ∉ r.places → c.token = 0
  delta0 : 68 ∉ r.places → c.delta = 0
  metas0 : 71 ∉ r.places → c.metas = []
  metas : flagsOf c.verb c.metas = []
  what0 : c.verb ≠ 19 → c.what = []
  what : c.what ≠ [] → c.what = slabsW ∨ c.what = resetW
  flush : c.verb = 15 → 0 ≤ c.exptime
  nr : c.noreply = true → r.noreply = true
  data0 : r.block = false → c.data = []
/-- the numbers of a command are what the machine bears -/
structure Range (c : CmdV) : Prop where
  token : c.token ≤ 18446744073709551615
  delta : c.delta ≤ 18446744073709551615
  time : -9223372036854775808 ≤ c.exptime ∧ c.exptime ≤ 9223372036854775807

def argsV (r : RowV) (c : CmdV) : List Bs := r.places.flatMap (putV c)
def nrV (c : CmdV) : List Bs := if c.noreply then [noreplyW] else []
theorem parts_args (r : RowV) (w : Bs) (c : CmdV) : partsV r w c = w :: (argsV r c ++ nrV c) := rfl

theorem MayR.key {r : RowV} {c : CmdV} (h : MayR r c) (hp : 75 ∈ r.places) (hv : 4 < c.verb) : ∃ k, c.keys = [k] ∧ legal k = true := by
  have h1 := h.keyed1 hp
  have h2 := h.one hv
  cases hk : c.keys with
  | nil => exact absurd hk h1
  | cons k t =>
    have : t = [] := List.eq_nil_of_length_eq_zero (by rw [hk, List.length_cons] at h2; omega)
    subst this
    refine ⟨k, rfl, ?_⟩
    have := h.keys k (by rw [hk]; simp)
    unfold keyV at this
    rw [Bool.and_eq_true] at this
    exact this.1
theorem MayR.legal {r : RowV} {c : CmdV} (h : MayR r c) : ∀ k ∈ c.keys, legal k = true := fun k hk => by
  have := h.keys k hk
  unfold keyV at this
  rw [Bool.and_eq_true] at this
  exact this.1

section
variable {r : RowV} {c : CmdV}
end

end Go.Proofs.YtnbeeehfapjpdaaGreatDoor
end
section
namespace Go.Proofs.YtnbeeehfapjpdaaGreatDoor
open Go.Lib Sp

/-- what a line's words have left -/
structure InvOut (r : RowV) (nr : Bool) (ws : List Bs) (c : CmdV) (n : Int) : Prop where
  verb : c.verb = r.verb
  nr : c.noreply = nr
  data : c.data = []
  large : c.large = false
  may : MayR r c
  range : Range c
  block : (r.block = true ∧ 0 ≤ n ∧ n ≤ 2147483647) ∨ (r.block = false ∧ n = -1)
  short : ∀ d : Bs, (r.block = true → (d.length : Int) = n) → tails (argsV r { c with data := d }) ≤ tails ws

section
variable {r : RowV} {c : CmdV} {n : Int} {nr : Bool} {ws : List Bs}
end

end Go.Proofs.YtnbeeehfapjpdaaGreatDoor
end
section
namespace Go.Proofs.YtnbeeehfapjpdaaGreatDoor
open Go.Lib Sp

/-- commands one behind the other, as steps -/
def backSteps : Nat → List CmdV → List StepV
  | _, [] => []
  | a, c :: t => ({ cmd := c } : StepV).span a (a + (outV c).length) :: backSteps (a + (outV c).length) t
/-- where the i-th one ends -/
def backEnd (cs : List CmdV) (i : Nat) : Nat := ((cs.take i).flatMap outV).length
end Go.Proofs.YtnbeeehfapjpdaaGreatDoor
end
section
namespace Go.Proofs.YtnbeeehfapjpdaaGreatDoor
open Go.Lib Sp

/-- the line of a command -/
def lineV (c : CmdV) : Bs := join (partsV (rowBy c.verb) (wordBy c.verb) c) [32]
end Go.Proofs.YtnbeeehfapjpdaaGreatDoor
end
end
section
namespace Go.Proofs.YtnbeeehfapjpdaaGreatDoor
open Go.Lib Sp

/-- words, each behind a blank -/
def segs (ps : List Bs) : Bs := ps.flatMap fun p => 32 :: p
/-- what a letter of the row puts into the line -/
def segV (c : CmdV) (k : UInt8) : Bs := segs (putV c k)
/-- the line up to a letter of the row -/
def lineUp (c : CmdV) (i : Nat) : Bs := wordBy c.verb ++ segs (((rowBy c.verb).places.take i).flatMap (putV c))
/-- the document's checks -/
def chk1 (c : CmdV) : Bool := (decide (1 < c.keys.length) && decide (4 < c.verb)) || (decide (0 < c.keys.length) != (rowBy c.verb).places.contains 75)
def hasTime (c : CmdV) : Bool := (rowBy c.verb).places.contains 84 || (rowBy c.verb).places.contains 83
def chk2 (c : CmdV) : Bool := (((decide (4294967295 < c.flags) || (decide (0 < c.flags) && !(rowBy c.verb).places.contains 70)) || (decide (c.exptime ≠ 0) && !hasTime c)) || (decide (0 < c.token) && !(rowBy c.verb).places.contains 67)) || (decide (0 < c.delta) && !(rowBy c.verb).places.contains 68)
def chk3 (c : CmdV) : Bool := (decide (0 < c.metas.length) && !(rowBy c.verb).places.contains 71) || decide (flagsOf c.verb c.metas ≠ [])
def chk4 (c : CmdV) : Bool := decide (c.what ≠ []) && (decide (c.verb ≠ 19) || (decide (c.what ≠ slabsW) && decide (c.what ≠ resetW)))
def chk5 (c : CmdV) : Bool := (((decide (c.verb = 15) && decide (c.exptime < 0)) || (c.noreply && !(rowBy c.verb).noreply)) || (decide (0 < c.data.length) && !(rowBy c.verb).block)) || decide (2147483647 < c.data.length)
def mayB (c : CmdV) : Bool := !chk1 c && c.keys.all keyV && !chk2 c && !chk3 c && !chk4 c && !chk5 c && decide ((lineV c).length ≤ 2048)
end Go.Proofs.YtnbeeehfapjpdaaGreatDoor
end
end
