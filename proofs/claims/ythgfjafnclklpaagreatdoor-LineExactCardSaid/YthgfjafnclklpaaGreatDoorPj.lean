/- Plain laws: numbers, times and words written down and read again. No program in sight. Plain laws: which commands are read again as they were written. No program in sight. Plain laws: which commands are read again as they were written; what is told may be written. No program in sight. Plain laws: what is told of a line may be written down, and no longer than it was. No program in sight. Plain laws: what Bytes writes All reads again, each command in its place. No program in sight. Plain laws: a command is read again as it was written just where its fields may be; what is told is. No program in sight. Plain laws: a command's line, piece by piece; the document's checks of a command's fields, one behind the other. No program in sight. -/
import Derived.Test.YthgfjafnclklpaaGreatDoorR0
import Derived.Test.YthgfjafnclklpaaGreatDoorAp
section
section
namespace Go.Proofs.YthgfjafnclklpaaGreatDoor
open Go.Lib Sp

/-- a text that stands as a word -/
def Solid (w : Bs) : Prop := w ≠ [] ∧ ∀ x ∈ w, 32 < x.toNat
theorem joinTail_cons (sep y : Bs) (r : List Bs) : joinTail sep (y :: r) = sep ++ y ++ joinTail sep r := by simp [joinTail]
/-- how long words are, each with a blank -/
def tails : List Bs → Nat
  | [] => 0
  | y :: t => y.length + 1 + tails t
theorem joinTail_tails : ∀ (r : List Bs), (joinTail [32] r).length = tails r
  | [] => rfl
  | y :: t => by rw [joinTail_cons, tails, List.length_append, List.length_append, joinTail_tails t]; simp; omega
theorem join_tails : ∀ (ps : List Bs), ps ≠ [] → (join ps [32]).length + 1 = tails ps
  | [], h => absurd rfl h
  | x :: r, _ => by rw [join_cons, List.length_append, joinTail_tails, tails]; omega
theorem tails_append : ∀ (a b : List Bs), tails (a ++ b) = tails a + tails b
  | [], b => by simp [tails]
  | x :: t, b => by rw [List.cons_append, tails, tails, tails_append t b]; omega

/-! numbers -/
theorem digits_solid {w : Bs} (h : digits w = true) : Solid w := by
  rw [digits_iff, List.all_eq_true] at h
  exact ⟨h.1, fun x hx => by have := (isDigit_iff x).1 (h.2 x hx); omega⟩
theorem number_digits {w : Bs} {most n : Nat} (h : number w most = some n) : digits w = true ∧ n = val w := by
  unfold number at h
  split at h
  · rename_i hx
    injection h with h
    rw [Bool.and_eq_true] at hx
    exact ⟨hx.1, h.symm⟩
  · cases h
theorem number_solid {w : Bs} {most n : Nat} (h : number w most = some n) : Solid w := digits_solid (number_digits h).1

theorem nDigits_le : ∀ (k u : Nat), 1 ≤ k → u < 10 ^ k → nDigits u ≤ k
  | 0, _, h, _ => by omega
  | k + 1, u, _, h => by
    by_cases hu : u < 10
    · rw [nDigits_small hu]; omega
    · rw [nDigits_big hu]
      rw [Nat.pow_succ] at h
      have hk : 1 ≤ k := by
        rcases Nat.eq_zero_or_pos k with e | e
        · subst e; simp at h; omega
        · exact e
      have := nDigits_le k (u / 10) hk (by omega)
      omega
/-! times -/
theorem legal_word {w : Bs} (h : w ≠ []) : keyV w = legal w := by
  unfold keyV
  cases w with
  | nil => exact absurd rfl h
  | cons => simp
end Go.Proofs.YthgfjafnclklpaaGreatDoor
end
section
namespace Go.Proofs.YthgfjafnclklpaaGreatDoor
open Go.Lib Sp

/-! one word -/
section
variable {c c' : CmdV} {b b' : Int} {w : Bs}
theorem inv_F (h : wordAt c b 70 w = .ok (c', b')) : ∃ n, number w 4294967295 = some n ∧ c' = { c with flags := n } ∧ b' = b := by
  simp only [wordAt] at h
  rw [if_neg (by decide), if_pos trivial] at h
  split at h
  · rename_i n hn; injection h with h; injection h with h1 h2; exact ⟨n, hn, h1.symm, h2.symm⟩
  · cases h
theorem inv_N (h : wordAt c b 78 w = .ok (c', b')) : ∃ n, number w 2147483647 = some n ∧ c' = c ∧ b' = (n : Int) := by
  simp only [wordAt] at h
  rw [if_neg (by decide), if_neg (by decide), if_pos trivial] at h
  split at h
  · rename_i n hn; injection h with h; injection h with h1 h2; exact ⟨n, hn, h1.symm, h2.symm⟩
  · cases h
theorem inv_V (h : wordAt c b 86 w = .ok (c', b')) : c' = c ∧ b' = b ∧ w ≠ [] := by
  simp only [wordAt] at h
  rw [if_neg (by decide), if_neg (by decide), if_neg (by decide), if_pos trivial] at h
  split at h
  · rename_i n hn; injection h with h; injection h with h1 h2; exact ⟨h1.symm, h2.symm, (number_solid hn).1⟩
  · cases h
theorem inv_C (h : wordAt c b 67 w = .ok (c', b')) : ∃ n, number w 18446744073709551615 = some n ∧ c' = { c with token := n } ∧ b' = b := by
  simp only [wordAt] at h
  rw [if_neg (by decide), if_neg (by decide), if_neg (by decide), if_neg (by decide), if_pos trivial] at h
  split at h
  · rename_i n hn; injection h with h; injection h with h1 h2; exact ⟨n, hn, h1.symm, h2.symm⟩
  · cases h
theorem inv_D (h : wordAt c b 68 w = .ok (c', b')) : ∃ n, number w 18446744073709551615 = some n ∧ c' = { c with delta := n } ∧ b' = b := by
  simp only [wordAt] at h
  rw [if_neg (by decide), if_neg (by decide), if_neg (by decide), if_neg (by decide), if_neg (by decide), if_pos trivial] at h
  split at h
  · rename_i n hn; injection h with h; injection h with h1 h2; exact ⟨n, hn, h1.symm, h2.symm⟩
  · cases h
theorem inv_0 (h : wordAt c b 48 w = .ok (c', b')) : c' = c ∧ b' = b := by
  simp only [wordAt] at h
  rw [if_neg (by decide), if_neg (by decide), if_neg (by decide), if_neg (by decide), if_neg (by decide), if_neg (by decide), if_pos trivial] at h
  split at h
  · injection h with h; injection h with h1 h2; exact ⟨h1.symm, h2.symm⟩
  · cases h
theorem inv_W (h : wordAt c b 87 w = .ok (c', b')) : (w = slabsW ∨ w = resetW) ∧ c' = { c with what := w } ∧ b' = b := by
  simp only [wordAt] at h
  rw [if_neg (by decide), if_neg (by decide), if_neg (by decide), if_neg (by decide), if_neg (by decide), if_neg (by decide), if_neg (by decide), if_pos trivial] at h
  split at h
  · rename_i hw; injection h with h; injection h with h1 h2; exact ⟨hw, h1.symm, h2.symm⟩
  · cases h
theorem inv_T (h : wordAt c b 84 w = .ok (c', b')) : ∃ e, timeOf w = some e ∧ c' = { c with exptime := e } ∧ b' = b := by
  simp only [wordAt] at h
  rw [if_neg (by decide), if_neg (by decide), if_neg (by decide), if_neg (by decide), if_neg (by decide), if_neg (by decide), if_neg (by decide), if_neg (by decide), if_neg (by decide)] at h
  split at h
  · rename_i e he
    rw [if_neg (fun hx => absurd hx.1 (by decide))] at h
    injection h with h; injection h with h1 h2; exact ⟨e, he, h1.symm, h2.symm⟩
  · cases h
theorem inv_S (h : wordAt c b 83 w = .ok (c', b')) : ∃ e, timeOf w = some e ∧ 0 ≤ e ∧ c' = { c with exptime := e } ∧ b' = b := by
  simp only [wordAt] at h
  rw [if_neg (by decide), if_neg (by decide), if_neg (by decide), if_neg (by decide), if_neg (by decide), if_neg (by decide), if_neg (by decide), if_neg (by decide), if_neg (by decide)] at h
  split at h
  · rename_i e he
    by_cases hn : e < 0
    · rw [if_pos ⟨trivial, hn⟩] at h; cases h
    · rw [if_neg (fun hx => hn hx.2)] at h
      injection h with h; injection h with h1 h2; exact ⟨e, he, by omega, h1.symm, h2.symm⟩
  · cases h
end

/-! flags, one by one -/
/-! words from a place on, where the last letter comes again -/
end Go.Proofs.YthgfjafnclklpaaGreatDoor
end
section
namespace Go.Proofs.YthgfjafnclklpaaGreatDoor
open Go.Lib Sp

/-- the fields of a command that may be written, beside its verb's row -/
structure MayR (r : RowV) (c : CmdV) : Prop where
  keyed1 : 75 ∈ r.places → c.keys ≠ []
  keyed0 : 75 ∉ r.places → c.keys = []
  one : 4 < c.verb → c.keys.length ≤ 1
  keys : ∀ k ∈ c.keys, keyV k = true
  flags : c.flags ≤ 4294967295
  flags0 : 70 ∉ r.places → c.flags = 0
  time0 : 84 ∉ r.places → 83 ∉ r.places → c.exptime = 0
  token0 : 67 ∉ r.places → c.token = 0
  delta0 : 68 ∉ r.places → c.delta = 0
  metas0 : 71 ∉ r.places → c.metas = []
  metas : flagsOf c.verb c.metas = []
  what0 : c.verb ≠ 19 → c.what = []
  what : c.what ≠ [] → c.what = slabsW ∨ c.what = resetW
  flush : c.verb = 15 → 0 ≤ c.exptime
  nr : c.noreply = true → r.noreply = true
  data0 : r.block = false → c.data = []
/-- the numbers of a command are what the machine bears -/
structure Range (c : CmdV) : Prop where
  token : c.token ≤ 18446744073709551615
  delta : c.delta ≤ 18446744073709551615
  time : -9223372036854775808 ≤ c.exptime ∧ c.exptime ≤ 9223372036854775807

def argsV (r : RowV) (c : CmdV) : List Bs := r.places.flatMap (putV c)
def nrV (c : CmdV) : List Bs := if c.noreply then [noreplyW] else []
theorem parts_args (r : RowV) (w : Bs) (c : CmdV) : partsV r w c = w :: (argsV r c ++ nrV c) := rfl

theorem MayR.key {r : RowV} {c : CmdV} (h : MayR r c) (hp : 75 ∈ r.places) (hv : 4 < c.verb) : ∃ k, c.keys = [k] ∧ legal k = true := by
  have h1 := h.keyed1 hp
  have h2 := h.one hv
  cases hk : c.keys with
  | nil => exact absurd hk h1
  | cons k t =>
    have : t = [] := List.eq_nil_of_length_eq_zero (by rw [hk, List.length_cons] at h2; omega)
    subst this
    refine ⟨k, rfl, ?_⟩
    have := h.keys k (by rw [hk]; simp)
    unfold keyV at this
    rw [Bool.and_eq_true] at this
    exact this.1
theorem MayR.legal {r : RowV} {c : CmdV} (h : MayR r c) : ∀ k ∈ c.keys, legal k = true := fun k hk => by
  have := h.keys k hk
  unfold keyV at this
  rw [Bool.and_eq_true] at this
  exact this.1

section
variable {r : RowV} {c : CmdV}
end

end Go.Proofs.YthgfjafnclklpaaGreatDoor
end
section
namespace Go.Proofs.YthgfjafnclklpaaGreatDoor
open Go.Lib Sp

/-- what a line's words have left -/
structure InvOut (r : RowV) (nr : Bool) (ws : List Bs) (c : CmdV) (n : Int) : Prop where
  verb : c.verb = r.verb
  nr : c.noreply = nr
  data : c.data = []
  large : c.large = false
  may : MayR r c
  range : Range c
  block : (r.block = true ∧ 0 ≤ n ∧ n ≤ 2147483647) ∨ (r.block = false ∧ n = -1)
  short : ∀ d : Bs, (r.block = true → (d.length : Int) = n) → tails (argsV r { c with data := d }) ≤ tails ws

section
variable {r : RowV} {c : CmdV} {n : Int} {nr : Bool} {ws : List Bs}
end

end Go.Proofs.YthgfjafnclklpaaGreatDoor
end
section
namespace Go.Proofs.YthgfjafnclklpaaGreatDoor
open Go.Lib Sp

/-- commands one behind the other, as steps -/
def backSteps : Nat → List CmdV → List StepV
  | _, [] => []
  | a, c :: t => ({ cmd := c } : StepV).span a (a + (outV c).length) :: backSteps (a + (outV c).length) t
/-- where the i-th one ends -/
def backEnd (cs : List CmdV) (i : Nat) : Nat := ((cs.take i).flatMap outV).length
end Go.Proofs.YthgfjafnclklpaaGreatDoor
end
section
namespace Go.Proofs.YthgfjafnclklpaaGreatDoor
open Go.Lib Sp

/-- the line of a command -/
def lineV (c : CmdV) : Bs := join (partsV (rowBy c.verb) (wordBy c.verb) c) [32]
end Go.Proofs.YthgfjafnclklpaaGreatDoor
end
end
section
namespace Go.Proofs.YthgfjafnclklpaaGreatDoor
open Go.Lib Sp

/-- words, each behind a blank -/
def segs (ps : List Bs) : Bs := ps.flatMap fun p => 32 :: p
/-- what a letter of the row puts into the line -/
def segV (c : CmdV) (k : UInt8) : Bs := segs (putV c k)
/-- the line up to a letter of the row -/
def lineUp (c : CmdV) (i : Nat) : Bs := wordBy c.verb ++ segs (((rowBy c.verb).places.take i).flatMap (putV c))
/-- the document's checks -/
def chk1 (c : CmdV) : Bool := (decide (1 < c.keys.length) && decide (4 < c.verb)) || (decide (0 < c.keys.length) != (rowBy c.verb).places.contains 75)
def hasTime (c : CmdV) : Bool := (rowBy c.verb).places.contains 84 || (rowBy c.verb).places.contains 83
def chk2 (c : CmdV) : Bool := (((decide (4294967295 < c.flags) || (decide (0 < c.flags) && !(rowBy c.verb).places.contains 70)) || (decide (c.exptime ≠ 0) && !hasTime c)) || (decide (0 < c.token) && !(rowBy c.verb).places.contains 67)) || (decide (0 < c.delta) && !(rowBy c.verb).places.contains 68)
def chk3 (c : CmdV) : Bool := (decide (0 < c.metas.length) && !(rowBy c.verb).places.contains 71) || decide (flagsOf c.verb c.metas ≠ [])
def chk4 (c : CmdV) : Bool := decide (c.what ≠ []) && (decide (c.verb ≠ 19) || (decide (c.what ≠ slabsW) && decide (c.what ≠ resetW)))
def chk5 (c : CmdV) : Bool := (((decide (c.verb = 15) && decide (c.exptime < 0)) || (c.noreply && !(rowBy c.verb).noreply)) || (decide (0 < c.data.length) && !(rowBy c.verb).block)) || decide (2147483647 < c.data.length)
def mayB (c : CmdV) : Bool := !chk1 c && c.keys.all keyV && !chk2 c && !chk3 c && !chk4 c && !chk5 c && decide ((lineV c).length ≤ 2048)
end Go.Proofs.YthgfjafnclklpaaGreatDoor
end
