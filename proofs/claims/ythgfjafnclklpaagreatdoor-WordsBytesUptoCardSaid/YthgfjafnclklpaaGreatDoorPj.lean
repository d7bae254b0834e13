/- Plain laws: numbers, times and words written down and read again. No program in sight. Plain laws: which commands are read again as they were written. No program in sight. Plain laws: which commands are read again as they were written; what is told may be written. No program in sight. Plain laws: what is told of a line may be written down, and no longer than it was. No program in sight. Plain laws: what Bytes writes All reads again, each command in its place. No program in sight. Plain laws: a command is read again as it was written just where its fields may be; what is told is. No program in sight. Plain laws: a command's line, piece by piece; the document's checks of a command's fields, one behind the other. No program in sight. -/
import Derived.Test.YthgfjafnclklpaaGreatDoorR0
import Derived.Test.YthgfjafnclklpaaGreatDoorAp
section
section
namespace Go.Proofs.YthgfjafnclklpaaGreatDoor
open Go.Lib Sp

/-- a text that stands as a word -/
def Solid (w : Bs) : Prop := w ≠ [] ∧ ∀ x ∈ w, 32 < x.toNat
theorem Solid.no32 {w : Bs} (h : Solid w) : ∀ x ∈ w, x ≠ 32 := fun x hx e => by have := h.2 x hx; subst e; exact absurd this (by decide)

theorem joinTail_cons (sep y : Bs) (r : List Bs) : joinTail sep (y :: r) = sep ++ y ++ joinTail sep r := by simp [joinTail]
theorem words_tail : ∀ (r : List Bs) (cur : Bs), cur ≠ [] → (∀ p ∈ r, Solid p) → wordsGo (joinTail [32] r) cur = cur :: r
  | [], cur, h, _ => by
    cases cur with
    | nil => exact absurd rfl h
    | cons => rfl
  | y :: t, cur, h, hs => by
    have hy := hs y (by simp)
    rw [joinTail_cons, List.append_assoc]
    show wordsGo (32 :: (y ++ joinTail [32] t)) cur = _
    have e : wordsGo (32 :: (y ++ joinTail [32] t)) cur = cur :: wordsGo (y ++ joinTail [32] t) [] := by
      conv => lhs; unfold wordsGo
      cases cur with
      | nil => exact absurd rfl h
      | cons => simp
    rw [e, wordsGo_far y _ [] hy.no32, List.nil_append, words_tail t y hy.1 (fun p hp => hs p (by simp [hp]))]
theorem words_join : ∀ (ps : List Bs), (∀ p ∈ ps, Solid p) → wordsOf (join ps [32]) = ps
  | [], _ => rfl
  | x :: r, hs => by
    have hx := hs x (by simp)
    unfold wordsOf
    rw [join_cons, wordsGo_far x _ [] hx.no32, List.nil_append, words_tail r x hx.1 (fun p hp => hs p (by simp [hp]))]
theorem join_bytes : ∀ (ps : List Bs), (∀ p ∈ ps, Solid p) → ∀ x ∈ join ps [32], 32 ≤ x.toNat
  | [], _, x, hx => by simp [join] at hx
  | p :: r, hs, x, hx => by
    rw [join_cons] at hx
    rcases List.mem_append.1 hx with hx | hx
    · exact Nat.le_of_lt ((hs p (by simp)).2 x hx)
    · unfold joinTail at hx
      obtain ⟨q, hq, hx⟩ := List.mem_flatten.1 hx
      obtain ⟨y, hy, rfl⟩ := List.mem_map.1 hq
      rcases List.mem_append.1 hx with hx | hx
      · simp at hx; subst hx; decide
      · exact Nat.le_of_lt ((hs y (by simp [hy])).2 x hx)

/-- how long words are, each with a blank -/
def tails : List Bs → Nat
  | [] => 0
  | y :: t => y.length + 1 + tails t
theorem joinTail_tails : ∀ (r : List Bs), (joinTail [32] r).length = tails r
  | [] => rfl
  | y :: t => by rw [joinTail_cons, tails, List.length_append, List.length_append, joinTail_tails t]; simp; omega
theorem join_tails : ∀ (ps : List Bs), ps ≠ [] → (join ps [32]).length + 1 = tails ps
  | [], h => absurd rfl h
  | x :: r, _ => by rw [join_cons, List.length_append, joinTail_tails, tails]; omega
theorem tails_words : ∀ (l cur : Bs), tails (wordsGo l cur) ≤ cur.length + l.length + 1
  | [], cur => by
    unfold wordsGo
    split
    · simp [tails]
    · simp [tails]
  | c :: t, cur => by
    unfold wordsGo
    split
    · split
      · have := tails_words t []
        simp at this ⊢; omega
      · have := tails_words t []
        rw [tails]
        simp at this ⊢; omega
    · have := tails_words t (cur ++ [c])
      simp at this ⊢; omega
theorem tails_append : ∀ (a b : List Bs), tails (a ++ b) = tails a + tails b
  | [], b => by simp [tails]
  | x :: t, b => by rw [List.cons_append, tails, tails, tails_append t b]; omega

/-! numbers -/
theorem dec_digit (u : Nat) (h : u < 10) : (UInt8.ofNat (48 + u)).toNat = 48 + u := by rw [UInt8.toNat_ofNat', Nat.mod_eq_of_lt (by have : (2 : Nat) ^ 8 = 256 := rfl; omega)]
theorem dec_all (u : Nat) : decDigits u ≠ [] ∧ (∀ c ∈ decDigits u, isDigit c = true) ∧ val (decDigits u) = u := by
  induction u using Nat.strongRecOn with
  | _ u ih =>
    by_cases h : u < 10
    · rw [decDigits, dif_pos h]
      have := dec_digit u h
      refine ⟨by simp, fun c hc => ?_, ?_⟩
      · have hc' := List.mem_singleton.1 hc
        subst hc'
        exact isDigit_yes (by omega) (by omega)
      · show 10 * 0 + ((UInt8.ofNat (48 + u)).toNat - 48) = u
        omega
    · obtain ⟨h1, h2, h3⟩ := ih (u / 10) (by omega)
      have hd := dec_digit (u % 10) (by omega)
      rw [decDigits, dif_neg h]
      refine ⟨by simp, fun c hc => ?_, ?_⟩
      · rcases List.mem_append.1 hc with hc | hc
        · exact h2 c hc
        · have hc' := List.mem_singleton.1 hc
          subst hc'
          exact isDigit_yes (by omega) (by omega)
      · rw [val_snoc, h3, hd]; omega
theorem dec_digits (u : Nat) : digits (decDigits u) = true := by
  rw [digits_iff, List.all_eq_true]
  exact ⟨(dec_all u).1, (dec_all u).2.1⟩
theorem number_dec {u most : Nat} (h : u ≤ most) : number (decDigits u) most = some u := by
  unfold number
  rw [dec_digits, (dec_all u).2.2]
  simp [h]
theorem digits_solid {w : Bs} (h : digits w = true) : Solid w := by
  rw [digits_iff, List.all_eq_true] at h
  exact ⟨h.1, fun x hx => by have := (isDigit_iff x).1 (h.2 x hx); omega⟩
theorem number_digits {w : Bs} {most n : Nat} (h : number w most = some n) : digits w = true ∧ n = val w := by
  unfold number at h
  split at h
  · rename_i hx
    injection h with h
    rw [Bool.and_eq_true] at hx
    exact ⟨hx.1, h.symm⟩
  · cases h
theorem number_solid {w : Bs} {most n : Nat} (h : number w most = some n) : Solid w := digits_solid (number_digits h).1

theorem valOn_lt : ∀ (w : Bs) (n : Nat), (∀ c ∈ w, isDigit c = true) → valOn n w < (n + 1) * 10 ^ w.length
  | [], n, _ => by simp [valOn]
  | c :: t, n, h => by
    have hc := (isDigit_iff c).1 (h c (by simp))
    have ih := valOn_lt t (10 * n + (c.toNat - 48)) (fun x hx => h x (by simp [hx]))
    have e : valOn n (c :: t) = valOn (10 * n + (c.toNat - 48)) t := by simp [valOn]
    rw [e, List.length_cons, Nat.pow_succ]
    have h1 : (10 * n + (c.toNat - 48) + 1) * 10 ^ t.length ≤ (10 * n + 10) * 10 ^ t.length := Nat.mul_le_mul_right _ (by omega)
    have h2 : (n + 1) * (10 ^ t.length * 10) = (10 * n + 10) * 10 ^ t.length := by
      rw [← Nat.mul_assoc, Nat.mul_comm _ 10, ← Nat.mul_assoc]; congr 1
    omega
theorem nDigits_le : ∀ (k u : Nat), 1 ≤ k → u < 10 ^ k → nDigits u ≤ k
  | 0, _, h, _ => by omega
  | k + 1, u, _, h => by
    by_cases hu : u < 10
    · rw [nDigits_small hu]; omega
    · rw [nDigits_big hu]
      rw [Nat.pow_succ] at h
      have hk : 1 ≤ k := by
        rcases Nat.eq_zero_or_pos k with e | e
        · subst e; simp at h; omega
        · exact e
      have := nDigits_le k (u / 10) hk (by omega)
      omega
theorem dec_short {w : Bs} (h : digits w = true) : (decDigits (val w)).length ≤ w.length := by
  rw [decDigits_length]
  rw [digits_iff, List.all_eq_true] at h
  have h1 := valOn_lt w 0 h.2
  have hl : 1 ≤ w.length := by
    cases w with
    | nil => exact absurd rfl h.1
    | cons => simp
  exact nDigits_le _ _ hl (by simpa [val] using h1)
theorem number_short {w : Bs} {most n : Nat} (h : number w most = some n) : (decDigits n).length ≤ w.length := by
  obtain ⟨h1, rfl⟩ := number_digits h
  exact dec_short h1

/-! times -/
theorem itoa_time {e : Int} (h1 : -9223372036854775808 ≤ e) (h2 : e ≤ 9223372036854775807) : timeOf (itoa e) = some e := by
  unfold itoa
  by_cases he : e < 0
  · rw [if_pos he, timeOf_dash, number_dec (by omega)]
    simp; omega
  · rw [if_neg he, timeOf_plain ?_, number_dec (by omega)]
    · simp; omega
    · obtain ⟨a, b, _⟩ := dec_all e.toNat
      cases hd : decDigits e.toNat with
      | nil => exact absurd hd a
      | cons c t =>
        simp only [List.head?_cons, ne_eq, Option.some.injEq]
        intro hc
        have := (isDigit_iff c).1 (b c (by rw [hd]; simp))
        subst hc
        exact absurd this.1 (by decide)
theorem timeOf_cases {w : Bs} {e : Int} (h : timeOf w = some e) : (∃ t, w = 45 :: t ∧ digits t = true ∧ e = -(val t : Int) ∧ val t ≤ 9223372036854775808) ∨ (digits w = true ∧ e = (val w : Int) ∧ val w ≤ 9223372036854775807) := by
  by_cases hh : w.head? = some 45
  · left
    cases w with
    | nil => cases hh
    | cons c t =>
      simp at hh; subst hh
      rw [timeOf_dash] at h
      obtain ⟨n, hn, rfl⟩ := Option.map_eq_some_iff.1 h
      have := number_le hn
      obtain ⟨h1, rfl⟩ := number_digits hn
      exact ⟨t, rfl, h1, rfl, this⟩
  · right
    rw [timeOf_plain hh] at h
    obtain ⟨n, hn, rfl⟩ := Option.map_eq_some_iff.1 h
    have := number_le hn
    obtain ⟨h1, rfl⟩ := number_digits hn
    exact ⟨h1, rfl, this⟩
theorem timeOf_bounds {w : Bs} {e : Int} (h : timeOf w = some e) : -9223372036854775808 ≤ e ∧ e ≤ 9223372036854775807 := by
  rcases timeOf_cases h with ⟨t, _, _, rfl, h4⟩ | ⟨_, rfl, h3⟩ <;> omega
theorem time_solid {w : Bs} {e : Int} (h : timeOf w = some e) : Solid w := by
  rcases timeOf_cases h with ⟨t, rfl, h2, _⟩ | ⟨h1, _⟩
  · have := digits_solid h2
    refine ⟨by simp, fun x hx => ?_⟩
    rcases List.mem_cons.1 hx with rfl | hx
    · decide
    · exact this.2 x hx
  · exact digits_solid h1
theorem time_short {w : Bs} {e : Int} (h : timeOf w = some e) : (itoa e).length ≤ w.length := by
  unfold itoa
  rcases timeOf_cases h with ⟨t, rfl, h2, rfl, _⟩ | ⟨h1, rfl, _⟩
  · have hs := dec_short h2
    by_cases hv : -(val t : Int) < 0
    · rw [if_pos hv]
      have : (-(val t : Int)).natAbs = val t := by omega
      rw [this, List.length_cons, List.length_cons]; omega
    · rw [if_neg hv]
      have : (-(val t : Int)).toNat = val t := by omega
      rw [this, List.length_cons]; omega
  · rw [if_neg (by omega)]
    have : ((val w : Nat) : Int).toNat = val w := by omega
    rw [this]; exact dec_short h1
theorem itoa_solid {e : Int} (h1 : -9223372036854775808 ≤ e) (h2 : e ≤ 9223372036854775807) : Solid (itoa e) := time_solid (itoa_time h1 h2)
theorem dec_solid (u : Nat) : Solid (decDigits u) := digits_solid (dec_digits u)
theorem key_solid {w : Bs} (h : keyV w = true) : Solid w := by
  unfold keyV legal at h
  simp only [Bool.and_eq_true, List.all_eq_true, decide_eq_true_eq, Bool.not_eq_true', List.isEmpty_eq_false_iff] at h
  exact ⟨h.2, fun x hx => by have := h.1.2 x hx; unfold keyByte at this; simp at this; exact this.1⟩
theorem legal_word {w : Bs} (h : w ≠ []) : keyV w = legal w := by
  unfold keyV
  cases w with
  | nil => exact absurd rfl h
  | cons => simp
end Go.Proofs.YthgfjafnclklpaaGreatDoor
end
section
namespace Go.Proofs.YthgfjafnclklpaaGreatDoor
open Go.Lib Sp

/-! one word -/
section
variable {c c' : CmdV} {b b' : Int} {w : Bs}
theorem at_K (h : legal w = true) : wordAt c b 75 w = .ok ({ c with keys := c.keys ++ [w] }, b) := by simp [wordAt, h]
theorem at_F {n : Nat} (h : n ≤ 4294967295) : wordAt c b 70 (decDigits n) = .ok ({ c with flags := n }, b) := by simp [wordAt, number_dec h]
theorem at_N {n : Nat} (h : n ≤ 2147483647) : wordAt c b 78 (decDigits n) = .ok (c, (n : Int)) := by simp [wordAt, number_dec h]
theorem at_V : wordAt c b 86 [49] = .ok (c, b) := by
  have : number [49] 2147483647 = some 1 := by decide
  simp [wordAt, this]
theorem at_C {n : Nat} (h : n ≤ 18446744073709551615) : wordAt c b 67 (decDigits n) = .ok ({ c with token := n }, b) := by simp [wordAt, number_dec h]
theorem at_D {n : Nat} (h : n ≤ 18446744073709551615) : wordAt c b 68 (decDigits n) = .ok ({ c with delta := n }, b) := by simp [wordAt, number_dec h]
theorem at_W (h : w = slabsW ∨ w = resetW) : wordAt c b 87 w = .ok ({ c with what := w }, b) := by
  simp only [wordAt]
  simp [h]
theorem at_T {e : Int} (h1 : -9223372036854775808 ≤ e) (h2 : e ≤ 9223372036854775807) : wordAt c b 84 (itoa e) = .ok ({ c with exptime := e }, b) := by simp [wordAt, itoa_time h1 h2]
theorem at_S {e : Int} (h1 : 0 ≤ e) (h2 : e ≤ 9223372036854775807) : wordAt c b 83 (itoa e) = .ok ({ c with exptime := e }, b) := by
  have : ¬ e < 0 := by omega
  simp [wordAt, itoa_time (by omega) h2, this]
theorem at_G {f : FlagV} (h1 : f.has = !f.arg.isEmpty) (h2 : flagsOf c.verb (c.metas ++ [f]) = []) : wordAt c b 71 (f.letter :: f.arg) = .ok ({ c with metas := c.metas ++ [f] }, b) := by
  obtain ⟨x, a, has⟩ := f
  dsimp only at h1 h2 ⊢
  have e : decide (1 < (x :: a).length) = has := by rw [h1]; cases a <;> simp
  have e2 : ({ letter := (x :: a).headD 0, arg := (x :: a).drop 1, has := decide (1 < (x :: a).length) } : FlagV) = ⟨x, a, has⟩ := by rw [e]; rfl
  simp only [wordAt]
  rw [if_neg (by decide), if_neg (by decide), if_neg (by decide), if_neg (by decide), if_neg (by decide), if_neg (by decide), if_neg (by decide), if_neg (by decide), if_pos trivial, e2]
  simp only [h2, if_true]

theorem inv_K (h : wordAt c b 75 w = .ok (c', b')) : legal w = true ∧ c' = { c with keys := c.keys ++ [w] } ∧ b' = b := by
  simp only [wordAt, if_true] at h
  split at h
  · rename_i hl; injection h with h; injection h with h1 h2; exact ⟨hl, h1.symm, h2.symm⟩
  · cases h
theorem inv_F (h : wordAt c b 70 w = .ok (c', b')) : ∃ n, number w 4294967295 = some n ∧ c' = { c with flags := n } ∧ b' = b := by
  simp only [wordAt] at h
  rw [if_neg (by decide), if_pos trivial] at h
  split at h
  · rename_i n hn; injection h with h; injection h with h1 h2; exact ⟨n, hn, h1.symm, h2.symm⟩
  · cases h
theorem inv_N (h : wordAt c b 78 w = .ok (c', b')) : ∃ n, number w 2147483647 = some n ∧ c' = c ∧ b' = (n : Int) := by
  simp only [wordAt] at h
  rw [if_neg (by decide), if_neg (by decide), if_pos trivial] at h
  split at h
  · rename_i n hn; injection h with h; injection h with h1 h2; exact ⟨n, hn, h1.symm, h2.symm⟩
  · cases h
theorem inv_V (h : wordAt c b 86 w = .ok (c', b')) : c' = c ∧ b' = b ∧ w ≠ [] := by
  simp only [wordAt] at h
  rw [if_neg (by decide), if_neg (by decide), if_neg (by decide), if_pos trivial] at h
  split at h
  · rename_i n hn; injection h with h; injection h with h1 h2; exact ⟨h1.symm, h2.symm, (number_solid hn).1⟩
  · cases h
theorem inv_C (h : wordAt c b 67 w = .ok (c', b')) : ∃ n, number w 18446744073709551615 = some n ∧ c' = { c with token := n } ∧ b' = b := by
  simp only [wordAt] at h
  rw [if_neg (by decide), if_neg (by decide), if_neg (by decide), if_neg (by decide), if_pos trivial] at h
  split at h
  · rename_i n hn; injection h with h; injection h with h1 h2; exact ⟨n, hn, h1.symm, h2.symm⟩
  · cases h
theorem inv_D (h : wordAt c b 68 w = .ok (c', b')) : ∃ n, number w 18446744073709551615 = some n ∧ c' = { c with delta := n } ∧ b' = b := by
  simp only [wordAt] at h
  rw [if_neg (by decide), if_neg (by decide), if_neg (by decide), if_neg (by decide), if_neg (by decide), if_pos trivial] at h
  split at h
  · rename_i n hn; injection h with h; injection h with h1 h2; exact ⟨n, hn, h1.symm, h2.symm⟩
  · cases h
theorem inv_0 (h : wordAt c b 48 w = .ok (c', b')) : c' = c ∧ b' = b := by
  simp only [wordAt] at h
  rw [if_neg (by decide), if_neg (by decide), if_neg (by decide), if_neg (by decide), if_neg (by decide), if_neg (by decide), if_pos trivial] at h
  split at h
  · injection h with h; injection h with h1 h2; exact ⟨h1.symm, h2.symm⟩
  · cases h
theorem inv_W (h : wordAt c b 87 w = .ok (c', b')) : (w = slabsW ∨ w = resetW) ∧ c' = { c with what := w } ∧ b' = b := by
  simp only [wordAt] at h
  rw [if_neg (by decide), if_neg (by decide), if_neg (by decide), if_neg (by decide), if_neg (by decide), if_neg (by decide), if_neg (by decide), if_pos trivial] at h
  split at h
  · rename_i hw; injection h with h; injection h with h1 h2; exact ⟨hw, h1.symm, h2.symm⟩
  · cases h
theorem inv_G (h : wordAt c b 71 w = .ok (c', b')) : flagsOf c.verb (c.metas ++ [⟨w.headD 0, w.drop 1, decide (1 < w.length)⟩]) = [] ∧ c' = { c with metas := c.metas ++ [⟨w.headD 0, w.drop 1, decide (1 < w.length)⟩] } ∧ b' = b := by
  simp only [wordAt] at h
  rw [if_neg (by decide), if_neg (by decide), if_neg (by decide), if_neg (by decide), if_neg (by decide), if_neg (by decide), if_neg (by decide), if_neg (by decide), if_pos trivial] at h
  split at h
  · rename_i hf; injection h with h; injection h with h1 h2; exact ⟨hf, h1.symm, h2.symm⟩
  · cases h
theorem inv_T (h : wordAt c b 84 w = .ok (c', b')) : ∃ e, timeOf w = some e ∧ c' = { c with exptime := e } ∧ b' = b := by
  simp only [wordAt] at h
  rw [if_neg (by decide), if_neg (by decide), if_neg (by decide), if_neg (by decide), if_neg (by decide), if_neg (by decide), if_neg (by decide), if_neg (by decide), if_neg (by decide)] at h
  split at h
  · rename_i e he
    rw [if_neg (fun hx => absurd hx.1 (by decide))] at h
    injection h with h; injection h with h1 h2; exact ⟨e, he, h1.symm, h2.symm⟩
  · cases h
theorem inv_S (h : wordAt c b 83 w = .ok (c', b')) : ∃ e, timeOf w = some e ∧ 0 ≤ e ∧ c' = { c with exptime := e } ∧ b' = b := by
  simp only [wordAt] at h
  rw [if_neg (by decide), if_neg (by decide), if_neg (by decide), if_neg (by decide), if_neg (by decide), if_neg (by decide), if_neg (by decide), if_neg (by decide), if_neg (by decide)] at h
  split at h
  · rename_i e he
    by_cases hn : e < 0
    · rw [if_pos ⟨trivial, hn⟩] at h; cases h
    · rw [if_neg (fun hx => hn hx.2)] at h
      injection h with h; injection h with h1 h2; exact ⟨e, he, by omega, h1.symm, h2.symm⟩
  · cases h
end

/-! flags, one by one -/
theorem flagsGo_prefix (v : Nat) : ∀ (b a : List FlagV) (ahead : List FlagV), flagsGo v ahead (a ++ b) = [] → flagsGo v ahead a = []
  | _, [], _, _ => rfl
  | b, f :: a, ahead, h => by
    rw [List.cons_append] at h
    unfold flagsGo at h ⊢
    by_cases hf : flagOf v ahead f = []
    · rw [if_pos hf] at h ⊢; exact flagsGo_prefix v b a _ h
    · rw [if_neg hf] at h; exact absurd h hf
theorem flagsGo_mem (v : Nat) : ∀ (l ahead : List FlagV), flagsGo v ahead l = [] → ∀ f ∈ l, ∃ ah, flagOf v ah f = []
  | [], _, _, f, hf => by cases hf
  | g :: t, ahead, h, f, hf => by
    unfold flagsGo at h
    by_cases hg : flagOf v ahead g = []
    · rw [if_pos hg] at h
      rcases List.mem_cons.1 hf with rfl | hf
      · exact ⟨_, hg⟩
      · exact flagsGo_mem v t _ h f hf
    · rw [if_neg hg] at h; exact absurd h hg
theorem withs_big (v : Nat) : ∀ c ∈ withs v, 32 < c.toNat := fun c hc => by
  have := withs_in v c hc
  simp only [List.mem_cons, List.not_mem_nil, or_false] at this
  rcases this with rfl | rfl | rfl | rfl | rfl | rfl | rfl | rfl | rfl <;> decide
theorem alone_big (v : Nat) : ∀ c ∈ alone v, 32 < c.toNat := by
  unfold alone
  split
  · decide
  · split
    · decide
    · split
      · decide
      · split
        · decide
        · simp
theorem modes_big (v : Nat) : ∀ c ∈ modes v, 32 < c.toNat := by
  unfold modes
  split <;> decide
/-- a flag that stands is a word, and says rightly whether something is behind its letter -/
theorem flag_good {v : Nat} {ah : List FlagV} {f : FlagV} (h : flagOf v ah f = []) : Solid (f.letter :: f.arg) ∧ f.has = !f.arg.isEmpty := by
  unfold flagOf at h
  split at h
  · cases h
  · rename_i h1
    split at h
    · cases h
    · split at h
      · cases h
      · split at h
        · cases h
        · rename_i h2 h3 h4
          simp only [Bool.or_eq_true, bne_iff_ne, Bool.and_eq_true, Bool.not_eq_true'] at h4
          have hhas : f.has = !f.arg.isEmpty := by
            cases hh : f.has <;> cases ha : f.arg.isEmpty <;> simp_all
          have hl : 32 < f.letter.toNat := by
            by_cases ha : f.letter ∈ alone v
            · exact alone_big v _ ha
            · by_cases hw : f.letter ∈ withs v
              · exact withs_big v _ hw
              · exfalso; apply h1
                simp [ha, hw]
          refine ⟨⟨by simp, fun x hx => ?_⟩, hhas⟩
          rcases List.mem_cons.1 hx with rfl | hx
          · exact hl
          · by_cases ha : f.letter ∈ alone v
            · exfalso
              have hc : (alone v).contains f.letter = true := List.contains_iff_mem.2 ha
              apply h4
              refine .inl (.inr ⟨hc, ?_⟩)
              rw [hhas]
              cases hf : f.arg with
              | nil => rw [hf] at hx; cases hx
              | cons => rfl
            · have hc : (alone v).contains f.letter = false := by rw [← Bool.not_eq_true, List.contains_iff_mem]; exact ha
              have hb : behind v f = true := by
                cases hb : behind v f with
                | true => rfl
                | false => exact absurd (.inr ⟨hc, hb⟩) h4
              unfold behind at hb
              split at hb
              · unfold legal at hb
                simp only [Bool.and_eq_true, List.all_eq_true, decide_eq_true_eq] at hb
                have := hb.2 x hx
                unfold keyByte at this
                simp at this; exact this.1
              · split at hb
                · obtain ⟨e, he⟩ := Option.isSome_iff_exists.1 hb
                  exact (time_solid he).2 x hx
                · split at hb
                  · obtain ⟨e, he⟩ := Option.isSome_iff_exists.1 hb
                    exact (number_solid he).2 x hx
                  · split at hb
                    · split at hb
                      · rename_i d hd
                        rw [hd] at hx
                        simp at hx; subst hx
                        exact modes_big v _ (List.contains_iff_mem.1 hb)
                      · cases hb
                    · obtain ⟨e, he⟩ := Option.isSome_iff_exists.1 hb
                      exact (number_solid he).2 x hx

/-! words from a place on, where the last letter comes again -/
theorem go_keys {ps : Bs} : ∀ (ks : List Bs) (i : Nat) (c : CmdV) (b : Int), (∀ j, i ≤ j → ps.getD (min j (ps.length - 1)) 0 = 75) → (∀ k ∈ ks, legal k = true) →
    wordsAt ps i c b ks = .ok ({ c with keys := c.keys ++ ks }, b)
  | [], i, c, b, _, _ => by simp [wordsAt]
  | k :: t, i, c, b, hi, hk => by
    rw [wordsAt, hi i (Nat.le_refl _), at_K (hk k (by simp))]
    dsimp only
    rw [go_keys t (i + 1) _ b (fun j hj => hi j (by omega)) (fun x hx => hk x (by simp [hx]))]
    simp
theorem go_flags {ps : Bs} : ∀ (fs : List FlagV) (i : Nat) (c : CmdV) (b : Int), (∀ j, i ≤ j → ps.getD (min j (ps.length - 1)) 0 = 71) → flagsOf c.verb (c.metas ++ fs) = [] →
    wordsAt ps i c b (fs.map fun f => f.letter :: f.arg) = .ok ({ c with metas := c.metas ++ fs }, b)
  | [], i, c, b, _, _ => by simp [wordsAt]
  | f :: t, i, c, b, hi, hf => by
    have h1 : flagsOf c.verb (c.metas ++ [f]) = [] := flagsGo_prefix c.verb t (c.metas ++ [f]) [] (by simpa [flagsOf] using hf)
    obtain ⟨ah, h2⟩ := flagsGo_mem c.verb _ _ h1 f (by simp)
    rw [List.map_cons, wordsAt, hi i (Nat.le_refl _), at_G (flag_good h2).2 h1]
    dsimp only
    rw [go_flags t (i + 1) _ b (fun j hj => hi j (by omega)) (by simpa using hf)]
    simp
theorem inv_keys {ps : Bs} : ∀ (ks : List Bs) (i : Nat) (c c' : CmdV) (b b' : Int), (∀ j, i ≤ j → ps.getD (min j (ps.length - 1)) 0 = 75) → wordsAt ps i c b ks = .ok (c', b') →
    (∀ k ∈ ks, legal k = true) ∧ c' = { c with keys := c.keys ++ ks } ∧ b' = b
  | [], i, c, c', b, b', _, h => by
    rw [wordsAt] at h
    injection h with h; injection h with h1 h2
    exact ⟨fun _ hk => by (cases hk), by rw [List.append_nil, ← h1], h2.symm⟩
  | k :: t, i, c, c', b, b', hi, h => by
    rw [wordsAt, hi i (Nat.le_refl _)] at h
    cases hw : wordAt c b 75 k with
    | error e => rw [hw] at h; cases h
    | ok y =>
      obtain ⟨c1, b1⟩ := y
      rw [hw] at h
      dsimp only at h
      obtain ⟨g1, rfl, rfl⟩ := inv_K hw
      obtain ⟨k1, k2, k3⟩ := inv_keys t (i + 1) _ c' _ b' (fun j hj => hi j (by omega)) h
      refine ⟨fun x hx => ?_, by rw [k2]; simp, k3⟩
      rcases List.mem_cons.1 hx with rfl | hx
      · exact g1
      · exact k1 x hx
theorem inv_flags {ps : Bs} : ∀ (ws : List Bs) (i : Nat) (c c' : CmdV) (b b' : Int), (∀ j, i ≤ j → ps.getD (min j (ps.length - 1)) 0 = 71) → (∀ w ∈ ws, w ≠ []) → flagsOf c.verb c.metas = [] → wordsAt ps i c b ws = .ok (c', b') →
    ∃ fs : List FlagV, fs.map (fun f => f.letter :: f.arg) = ws ∧ c' = { c with metas := c.metas ++ fs } ∧ b' = b ∧ flagsOf c.verb (c.metas ++ fs) = []
  | [], i, c, c', b, b', _, _, hm, h => by
    rw [wordsAt] at h
    injection h with h; injection h with h1 h2
    exact ⟨[], rfl, by rw [List.append_nil, ← h1], h2.symm, by rw [List.append_nil]; exact hm⟩
  | k :: t, i, c, c', b, b', hi, hne, _, h => by
    rw [wordsAt, hi i (Nat.le_refl _)] at h
    cases hw : wordAt c b 71 k with
    | error e => rw [hw] at h; cases h
    | ok y =>
      obtain ⟨c1, b1⟩ := y
      rw [hw] at h
      dsimp only at h
      obtain ⟨g1, rfl, rfl⟩ := inv_G hw
      obtain ⟨fs, k1, k2, k3, k4⟩ := inv_flags t (i + 1) _ c' _ b' (fun j hj => hi j (by omega)) (fun w hw => hne w (by simp [hw])) g1 h
      refine ⟨⟨k.headD 0, k.drop 1, decide (1 < k.length)⟩ :: fs, ?_, by rw [k2]; simp, k3, by simpa using k4⟩
      rw [List.map_cons, k1]
      cases k with
      | nil => exact absurd rfl (hne [] (by simp))
      | cons x a => rfl
end Go.Proofs.YthgfjafnclklpaaGreatDoor
end
section
namespace Go.Proofs.YthgfjafnclklpaaGreatDoor
open Go.Lib Sp

/-- the fields of a command that may be written, beside its verb's row -/
structure MayR (r : RowV) (c : CmdV) : Prop where
  keyed1 : 75 ∈ r.places → c.keys ≠ []
  keyed0 : 75 ∉ r.places → c.keys = []
  one : 4 < c.verb → c.keys.length ≤ 1
  keys : ∀ k ∈ c.keys, keyV k = true
  flags : c.flags ≤ 4294967295
  flags0 : 70 ∉ r.places → c.flags = 0
  time0 : 84 ∉ r.places → 83 ∉ r.places → c.exptime = 0
  token0 : 67 ∉ r.places → c.token = 0
  delta0 : 68 ∉ r.places → c.delta = 0
  metas0 : 71 ∉ r.places → c.metas = []
  metas : flagsOf c.verb c.metas = []
  what0 : c.verb ≠ 19 → c.what = []
  what : c.what ≠ [] → c.what = slabsW ∨ c.what = resetW
  flush : c.verb = 15 → 0 ≤ c.exptime
  nr : c.noreply = true → r.noreply = true
  data0 : r.block = false → c.data = []
/-- the numbers of a command are what the machine bears -/
structure Range (c : CmdV) : Prop where
  token : c.token ≤ 18446744073709551615
  delta : c.delta ≤ 18446744073709551615
  time : -9223372036854775808 ≤ c.exptime ∧ c.exptime ≤ 9223372036854775807

def argsV (r : RowV) (c : CmdV) : List Bs := r.places.flatMap (putV c)
def nrV (c : CmdV) : List Bs := if c.noreply then [noreplyW] else []
theorem parts_args (r : RowV) (w : Bs) (c : CmdV) : partsV r w c = w :: (argsV r c ++ nrV c) := rfl

theorem MayR.key {r : RowV} {c : CmdV} (h : MayR r c) (hp : 75 ∈ r.places) (hv : 4 < c.verb) : ∃ k, c.keys = [k] ∧ legal k = true := by
  have h1 := h.keyed1 hp
  have h2 := h.one hv
  cases hk : c.keys with
  | nil => exact absurd hk h1
  | cons k t =>
    have : t = [] := List.eq_nil_of_length_eq_zero (by rw [hk, List.length_cons] at h2; omega)
    subst this
    refine ⟨k, rfl, ?_⟩
    have := h.keys k (by rw [hk]; simp)
    unfold keyV at this
    rw [Bool.and_eq_true] at this
    exact this.1
theorem MayR.legal {r : RowV} {c : CmdV} (h : MayR r c) : ∀ k ∈ c.keys, legal k = true := fun k hk => by
  have := h.keys k hk
  unfold keyV at this
  rw [Bool.and_eq_true] at this
  exact this.1

theorem rest_of {r : RowV} {c : CmdV} {args : List Bs} {c0 : CmdV} {b : Int} (hn : c.noreply = true → r.noreply = true) (hlo : r.least ≤ args.length) (hhi : args.length ≤ r.places.length ∨ r.more = true)
    (hlast : r.noreply = true → r.least + 1 ≤ args.length → args.getLast? ≠ some noreplyW) (hw : wordsAt r.places 0 { verb := r.verb, noreply := c.noreply } (-1) args = .ok (c0, b)) :
    rest r (args ++ nrV c) = .ok c0 b := by
  have hcnt : ¬ (args.length < r.least ∨ (r.places.length < args.length ∧ r.more = false)) := by
    intro h
    rcases h with h | ⟨h1, h2⟩
    · omega
    · rcases hhi with h3 | h3
      · omega
      · rw [h3] at h2; cases h2
  unfold rest nrV
  cases hc : c.noreply with
  | false =>
    rw [hc] at hw
    have hr : isNoreply r args = false := by
      unfold isNoreply
      cases hrn : r.noreply with
      | false => rfl
      | true =>
        by_cases h2 : r.least + 1 ≤ args.length
        · have := hlast hrn h2
          simp [h2, this]
        · simp [h2]
    simp only [Bool.false_eq_true, if_false, List.append_nil, hr]
    rw [if_neg hcnt, hw]
  | true =>
    rw [hc] at hw
    have hr : isNoreply r (args ++ [noreplyW]) = true := by
      unfold isNoreply
      rw [hn hc]
      simp
      omega
    simp only [if_true, hr, List.dropLast_concat]
    rw [if_neg hcnt, hw]

theorem dec_noreply (n : Nat) : decDigits n ≠ noreplyW := fun e => by
  have := dec_digits n
  rw [e] at this
  exact absurd this (by decide)
theorem itoa_noreply {e : Int} (h1 : -9223372036854775808 ≤ e) (h2 : e ≤ 9223372036854775807) : itoa e ≠ noreplyW := fun h => by
  have := itoa_time h1 h2
  rw [h, show timeOf noreplyW = none from by decide] at this
  cases this
theorem at_one {ps : Bs} {i : Nat} {c c1 : CmdV} {b b1 : Int} {w : Bs} {t : List Bs} {r : Except Bs (CmdV × Int)} (h : wordAt c b (ps.getD (min i (ps.length - 1)) 0) w = .ok (c1, b1)) (ht : wordsAt ps (i + 1) c1 b1 t = r) : wordsAt ps i c b (w :: t) = r := by
  rw [wordsAt, h]; exact ht
theorem cmd_same {c : CmdV} {v : Nat} {ks : List Bs} {f : Nat} {e : Int} {tk d : Nat} {nr : Bool} {ms : List FlagV} {wh : Bs} (h1 : v = c.verb) (h2 : ks = c.keys) (h3 : f = c.flags) (h4 : e = c.exptime) (h5 : tk = c.token) (h6 : d = c.delta) (h7 : nr = c.noreply) (h8 : ms = c.metas) (h9 : wh = c.what) :
    (⟨v, ks, f, e, tk, d, [], nr, false, ms, wh⟩ : CmdV) = { c with data := [], large := false } := by
  subst h1 h2 h3 h4 h5 h6 h7 h8 h9; rfl

section
variable {r : RowV} {c : CmdV}
theorem may_K (hp : r.places = [75]) (hl : r.least = 1) (hm : r.more = true) (hn : r.noreply = false) (_hb : r.block = false) (hv : r.verb = c.verb) (hw19 : c.verb ≠ 19) (h : MayR r c) (_hg : Range c) (_hd : c.data.length ≤ 2147483647) : rest r (argsV r c ++ nrV c) = .ok { c with data := [], large := false } (-1) := by
  have f0 := h.flags0 (by rw [hp]; decide)
  have t0 := h.time0 (by rw [hp]; decide) (by rw [hp]; decide)
  have k0 := h.token0 (by rw [hp]; decide)
  have d0 := h.delta0 (by rw [hp]; decide)
  have m0 := h.metas0 (by rw [hp]; decide)
  have w0 := h.what0 hw19
  have ha : argsV r c = c.keys := by simp [argsV, hp, putV]
  rw [ha]
  refine rest_of (by rw [hn]; exact fun e => by have := h.nr e; rw [hn] at this; exact this) (by rw [hl]; have := h.keyed1 (by rw [hp]; decide); cases hk : c.keys with | nil => exact absurd hk this | cons => simp) (.inr hm) (fun e => by rw [hn] at e; cases e) ?_
  rw [hp, go_keys c.keys 0 _ _ (fun j _ => by show ([75] : Bs).getD (min j 0) 0 = 75; rw [Nat.min_zero]; rfl) h.legal]
  exact congrArg (fun x => Except.ok (x, _)) (cmd_same (hv) (by simp) (f0.symm) (t0.symm) (k0.symm) (d0.symm) (rfl) (m0.symm) (w0.symm))
theorem may_TK (hp : r.places = [84, 75]) (hl : r.least = 2) (hm : r.more = true) (hn : r.noreply = false) (_hb : r.block = false) (hv : r.verb = c.verb) (hw19 : c.verb ≠ 19) (h : MayR r c) (hg : Range c) (_hd : c.data.length ≤ 2147483647) : rest r (argsV r c ++ nrV c) = .ok { c with data := [], large := false } (-1) := by
  have f0 := h.flags0 (by rw [hp]; decide)
  have k0 := h.token0 (by rw [hp]; decide)
  have d0 := h.delta0 (by rw [hp]; decide)
  have m0 := h.metas0 (by rw [hp]; decide)
  have w0 := h.what0 hw19
  have ha : argsV r c = itoa c.exptime :: c.keys := by simp [argsV, hp, putV]
  rw [ha]
  refine rest_of (by rw [hn]; exact fun e => by have := h.nr e; rw [hn] at this; exact this) (by rw [hl]; have := h.keyed1 (by rw [hp]; decide); cases hk : c.keys with | nil => exact absurd hk this | cons => simp) (.inr hm) (fun e => by rw [hn] at e; cases e) ?_
  rw [hp]
  refine at_one (at_T hg.time.1 hg.time.2) ?_
  rw [go_keys c.keys 1 _ _ (fun j hj => by show ([84, 75] : Bs).getD (min j 1) 0 = 75; rw [Nat.min_eq_right hj]; rfl) h.legal]
  exact congrArg (fun x => Except.ok (x, _)) (cmd_same (hv) (by simp) (f0.symm) (rfl) (k0.symm) (d0.symm) (rfl) (m0.symm) (w0.symm))
theorem may_KFTNC (hp : r.places = [75, 70, 84, 78, 67]) (hl : r.least = 5) (_hm : r.more = false) (_hn : r.noreply = true) (_hb : r.block = true) (hv : r.verb = c.verb) (h4 : 4 < c.verb) (hw19 : c.verb ≠ 19) (h : MayR r c) (hg : Range c) (hd : c.data.length ≤ 2147483647) : rest r (argsV r c ++ nrV c) = .ok { c with data := [], large := false } (c.data.length : Int) := by
  have d0 := h.delta0 (by rw [hp]; decide)
  have m0 := h.metas0 (by rw [hp]; decide)
  have w0 := h.what0 hw19
  obtain ⟨k, hk, hkl⟩ := h.key (by rw [hp]; decide) h4
  have ha : argsV r c = [k, decDigits c.flags, itoa c.exptime, decDigits c.data.length, decDigits c.token] := by simp [argsV, hp, putV, hk]
  rw [ha]
  refine rest_of h.nr (by rw [hl]; simp) (.inl (by rw [hp]; simp)) (fun _ _ => by simpa using dec_noreply _) ?_
  rw [hp]
  refine at_one (at_K hkl) ?_
  refine at_one (at_F h.flags) ?_
  refine at_one (at_T hg.time.1 hg.time.2) ?_
  refine at_one (at_N hd) ?_
  refine at_one (at_C hg.token) ?_
  exact congrArg (fun x => Except.ok (x, _)) (cmd_same (hv) (hk.symm) (rfl) (rfl) (rfl) (d0.symm) (rfl) (m0.symm) (w0.symm))
theorem may_K0 (hp : r.places = [75, 48]) (hl : r.least = 1) (_hm : r.more = false) (_hn : r.noreply = true) (_hb : r.block = false) (hv : r.verb = c.verb) (h4 : 4 < c.verb) (hw19 : c.verb ≠ 19) (h : MayR r c) (_hg : Range c) (_hd : c.data.length ≤ 2147483647) : rest r (argsV r c ++ nrV c) = .ok { c with data := [], large := false } (-1) := by
  have f0 := h.flags0 (by rw [hp]; decide)
  have t0 := h.time0 (by rw [hp]; decide) (by rw [hp]; decide)
  have k0 := h.token0 (by rw [hp]; decide)
  have d0 := h.delta0 (by rw [hp]; decide)
  have m0 := h.metas0 (by rw [hp]; decide)
  have w0 := h.what0 hw19
  obtain ⟨k, hk, hkl⟩ := h.key (by rw [hp]; decide) h4
  have ha : argsV r c = [k] := by simp [argsV, hp, putV, hk]
  rw [ha]
  refine rest_of h.nr (by rw [hl]; simp) (.inl (by rw [hp]; simp)) (fun _ e => by rw [hl] at e; simp at e) ?_
  rw [hp]
  refine at_one (at_K hkl) ?_
  exact congrArg (fun x => Except.ok (x, _)) (cmd_same (hv) (hk.symm) (f0.symm) (t0.symm) (k0.symm) (d0.symm) (rfl) (m0.symm) (w0.symm))
theorem may_KD (hp : r.places = [75, 68]) (hl : r.least = 2) (_hm : r.more = false) (_hn : r.noreply = true) (_hb : r.block = false) (hv : r.verb = c.verb) (h4 : 4 < c.verb) (hw19 : c.verb ≠ 19) (h : MayR r c) (hg : Range c) (_hd : c.data.length ≤ 2147483647) : rest r (argsV r c ++ nrV c) = .ok { c with data := [], large := false } (-1) := by
  have f0 := h.flags0 (by rw [hp]; decide)
  have t0 := h.time0 (by rw [hp]; decide) (by rw [hp]; decide)
  have k0 := h.token0 (by rw [hp]; decide)
  have m0 := h.metas0 (by rw [hp]; decide)
  have w0 := h.what0 hw19
  obtain ⟨k, hk, hkl⟩ := h.key (by rw [hp]; decide) h4
  have ha : argsV r c = [k, decDigits c.delta] := by simp [argsV, hp, putV, hk]
  rw [ha]
  refine rest_of h.nr (by rw [hl]; simp) (.inl (by rw [hp]; simp)) (fun _ _ => by simpa using dec_noreply _) ?_
  rw [hp]
  refine at_one (at_K hkl) ?_
  refine at_one (at_D hg.delta) ?_
  exact congrArg (fun x => Except.ok (x, _)) (cmd_same (hv) (hk.symm) (f0.symm) (t0.symm) (k0.symm) (rfl) (rfl) (m0.symm) (w0.symm))
theorem may_KT (hp : r.places = [75, 84]) (hl : r.least = 2) (_hm : r.more = false) (_hn : r.noreply = true) (_hb : r.block = false) (hv : r.verb = c.verb) (h4 : 4 < c.verb) (hw19 : c.verb ≠ 19) (h : MayR r c) (hg : Range c) (_hd : c.data.length ≤ 2147483647) : rest r (argsV r c ++ nrV c) = .ok { c with data := [], large := false } (-1) := by
  have f0 := h.flags0 (by rw [hp]; decide)
  have k0 := h.token0 (by rw [hp]; decide)
  have d0 := h.delta0 (by rw [hp]; decide)
  have m0 := h.metas0 (by rw [hp]; decide)
  have w0 := h.what0 hw19
  obtain ⟨k, hk, hkl⟩ := h.key (by rw [hp]; decide) h4
  have ha : argsV r c = [k, itoa c.exptime] := by simp [argsV, hp, putV, hk]
  rw [ha]
  refine rest_of h.nr (by rw [hl]; simp) (.inl (by rw [hp]; simp)) (fun _ _ => by simpa using itoa_noreply hg.time.1 hg.time.2) ?_
  rw [hp]
  refine at_one (at_K hkl) ?_
  refine at_one (at_T hg.time.1 hg.time.2) ?_
  exact congrArg (fun x => Except.ok (x, _)) (cmd_same (hv) (hk.symm) (f0.symm) (rfl) (k0.symm) (d0.symm) (rfl) (m0.symm) (w0.symm))
theorem may_S (hp : r.places = [83]) (hl : r.least = 0) (_hm : r.more = false) (_hn : r.noreply = true) (_hb : r.block = false) (hv : r.verb = c.verb) (h15 : c.verb = 15) (hw19 : c.verb ≠ 19) (h : MayR r c) (hg : Range c) (_hd : c.data.length ≤ 2147483647) : rest r (argsV r c ++ nrV c) = .ok { c with data := [], large := false } (-1) := by
  have f0 := h.flags0 (by rw [hp]; decide)
  have k0 := h.token0 (by rw [hp]; decide)
  have d0 := h.delta0 (by rw [hp]; decide)
  have m0 := h.metas0 (by rw [hp]; decide)
  have y0 := h.keyed0 (by rw [hp]; decide)
  have w0 := h.what0 hw19
  have h0 := h.flush h15
  by_cases he : c.exptime = 0
  · have ha : argsV r c = [] := by simp [argsV, hp, putV, he]
    rw [ha]
    refine rest_of h.nr (by rw [hl]; exact Nat.zero_le _) (.inl (Nat.zero_le _)) (fun _ e => by simp at e) ?_
    exact congrArg (fun x => Except.ok (x, _)) (cmd_same (hv) (y0.symm) (f0.symm) (he.symm) (k0.symm) (d0.symm) (rfl) (m0.symm) (w0.symm))
  · have ha : argsV r c = [itoa c.exptime] := by simp [argsV, hp, putV, he]
    rw [ha]
    refine rest_of h.nr (by rw [hl]; exact Nat.zero_le _) (.inl (by rw [hp]; simp)) (fun _ _ => by simpa using itoa_noreply hg.time.1 hg.time.2) ?_
    rw [hp]
    refine at_one (at_S h0 hg.time.2) ?_
    exact congrArg (fun x => Except.ok (x, _)) (cmd_same (hv) (y0.symm) (f0.symm) (rfl) (k0.symm) (d0.symm) (rfl) (m0.symm) (w0.symm))
theorem may_E (hp : r.places = []) (hl : r.least = 0) (_hm : r.more = false) (hn : r.noreply = false) (_hb : r.block = false) (hv : r.verb = c.verb) (hw19 : c.verb ≠ 19) (h : MayR r c) (_hg : Range c) (_hd : c.data.length ≤ 2147483647) : rest r (argsV r c ++ nrV c) = .ok { c with data := [], large := false } (-1) := by
  have f0 := h.flags0 (by rw [hp]; decide)
  have t0 := h.time0 (by rw [hp]; decide) (by rw [hp]; decide)
  have k0 := h.token0 (by rw [hp]; decide)
  have d0 := h.delta0 (by rw [hp]; decide)
  have m0 := h.metas0 (by rw [hp]; decide)
  have y0 := h.keyed0 (by rw [hp]; decide)
  have w0 := h.what0 hw19
  have ha : argsV r c = [] := by simp [argsV, hp]
  rw [ha]
  refine rest_of h.nr (by rw [hl]; exact Nat.zero_le _) (.inl (Nat.zero_le _)) (fun e => by rw [hn] at e; cases e) ?_
  exact congrArg (fun x => Except.ok (x, _)) (cmd_same (hv) (y0.symm) (f0.symm) (t0.symm) (k0.symm) (d0.symm) (rfl) (m0.symm) (w0.symm))
theorem may_V (hp : r.places = [86]) (hl : r.least = 1) (_hm : r.more = false) (_hn : r.noreply = true) (_hb : r.block = false) (hv : r.verb = c.verb) (hw19 : c.verb ≠ 19) (h : MayR r c) (_hg : Range c) (_hd : c.data.length ≤ 2147483647) : rest r (argsV r c ++ nrV c) = .ok { c with data := [], large := false } (-1) := by
  have f0 := h.flags0 (by rw [hp]; decide)
  have t0 := h.time0 (by rw [hp]; decide) (by rw [hp]; decide)
  have k0 := h.token0 (by rw [hp]; decide)
  have d0 := h.delta0 (by rw [hp]; decide)
  have m0 := h.metas0 (by rw [hp]; decide)
  have y0 := h.keyed0 (by rw [hp]; decide)
  have w0 := h.what0 hw19
  have ha : argsV r c = [[49]] := by simp [argsV, hp, putV]
  rw [ha]
  refine rest_of h.nr (by rw [hl]; simp) (.inl (by rw [hp]; simp)) (fun _ e => by rw [hl] at e; simp at e) ?_
  rw [hp]
  refine at_one (at_V) ?_
  exact congrArg (fun x => Except.ok (x, _)) (cmd_same (hv) (y0.symm) (f0.symm) (t0.symm) (k0.symm) (d0.symm) (rfl) (m0.symm) (w0.symm))
theorem may_W (hp : r.places = [87]) (hl : r.least = 0) (_hm : r.more = false) (hn : r.noreply = false) (_hb : r.block = false) (hv : r.verb = c.verb) (_h19 : c.verb = 19) (h : MayR r c) (_hg : Range c) (_hd : c.data.length ≤ 2147483647) : rest r (argsV r c ++ nrV c) = .ok { c with data := [], large := false } (-1) := by
  have f0 := h.flags0 (by rw [hp]; decide)
  have t0 := h.time0 (by rw [hp]; decide) (by rw [hp]; decide)
  have k0 := h.token0 (by rw [hp]; decide)
  have d0 := h.delta0 (by rw [hp]; decide)
  have m0 := h.metas0 (by rw [hp]; decide)
  have y0 := h.keyed0 (by rw [hp]; decide)
  by_cases he : c.what = []
  · have ha : argsV r c = [] := by simp [argsV, hp, putV, he]
    rw [ha]
    refine rest_of h.nr (by rw [hl]; exact Nat.zero_le _) (.inl (Nat.zero_le _)) (fun e => by rw [hn] at e; cases e) ?_
    exact congrArg (fun x => Except.ok (x, _)) (cmd_same (hv) (y0.symm) (f0.symm) (t0.symm) (k0.symm) (d0.symm) (rfl) (m0.symm) (he.symm))
  · have ha : argsV r c = [c.what] := by simp [argsV, hp, putV, he]
    rw [ha]
    refine rest_of h.nr (by rw [hl]; exact Nat.zero_le _) (.inl (by rw [hp]; simp)) (fun e => by rw [hn] at e; cases e) ?_
    rw [hp]
    refine at_one (at_W (h.what he)) ?_
    exact congrArg (fun x => Except.ok (x, _)) (cmd_same (hv) (y0.symm) (f0.symm) (t0.symm) (k0.symm) (d0.symm) (rfl) (m0.symm) (rfl))
theorem may_KG (hp : r.places = [75, 71]) (hl : r.least = 1) (hm : r.more = true) (hn : r.noreply = false) (_hb : r.block = false) (hv : r.verb = c.verb) (h4 : 4 < c.verb) (hw19 : c.verb ≠ 19) (h : MayR r c) (_hg : Range c) (_hd : c.data.length ≤ 2147483647) : rest r (argsV r c ++ nrV c) = .ok { c with data := [], large := false } (-1) := by
  have f0 := h.flags0 (by rw [hp]; decide)
  have t0 := h.time0 (by rw [hp]; decide) (by rw [hp]; decide)
  have k0 := h.token0 (by rw [hp]; decide)
  have d0 := h.delta0 (by rw [hp]; decide)
  have w0 := h.what0 hw19
  obtain ⟨k, hk, hkl⟩ := h.key (by rw [hp]; decide) h4
  have ha : argsV r c = k :: c.metas.map fun f => f.letter :: f.arg := by simp [argsV, hp, putV, hk]
  rw [ha]
  refine rest_of h.nr (by rw [hl]; simp) (.inr hm) (fun e => by rw [hn] at e; cases e) ?_
  rw [hp]
  refine at_one (at_K hkl) ?_
  rw [go_flags c.metas 1 _ _ (fun j hj => by show ([75, 71] : Bs).getD (min j 1) 0 = 71; rw [Nat.min_eq_right hj]; rfl) (by dsimp only; rw [hv]; exact h.metas)]
  exact congrArg (fun x => Except.ok (x, _)) (cmd_same (hv) (hk.symm) (f0.symm) (t0.symm) (k0.symm) (d0.symm) (rfl) (by simp) (w0.symm))
theorem may_KNG (hp : r.places = [75, 78, 71]) (hl : r.least = 2) (hm : r.more = true) (hn : r.noreply = false) (_hb : r.block = true) (hv : r.verb = c.verb) (h4 : 4 < c.verb) (hw19 : c.verb ≠ 19) (h : MayR r c) (_hg : Range c) (hd : c.data.length ≤ 2147483647) : rest r (argsV r c ++ nrV c) = .ok { c with data := [], large := false } (c.data.length : Int) := by
  have f0 := h.flags0 (by rw [hp]; decide)
  have t0 := h.time0 (by rw [hp]; decide) (by rw [hp]; decide)
  have k0 := h.token0 (by rw [hp]; decide)
  have d0 := h.delta0 (by rw [hp]; decide)
  have w0 := h.what0 hw19
  obtain ⟨k, hk, hkl⟩ := h.key (by rw [hp]; decide) h4
  have ha : argsV r c = k :: decDigits c.data.length :: c.metas.map fun f => f.letter :: f.arg := by simp [argsV, hp, putV, hk]
  rw [ha]
  refine rest_of h.nr (by rw [hl]; simp) (.inr hm) (fun e => by rw [hn] at e; cases e) ?_
  rw [hp]
  refine at_one (at_K hkl) ?_
  refine at_one (at_N hd) ?_
  rw [go_flags c.metas 2 _ _ (fun j hj => by show ([75, 78, 71] : Bs).getD (min j 2) 0 = 71; rw [Nat.min_eq_right hj]; rfl) (by dsimp only; rw [hv]; exact h.metas)]
  exact congrArg (fun x => Except.ok (x, _)) (cmd_same (hv) (hk.symm) (f0.symm) (t0.symm) (k0.symm) (d0.symm) (rfl) (by simp) (w0.symm))
theorem may_KFTN (hp : r.places = [75, 70, 84, 78]) (hl : r.least = 4) (_hm : r.more = false) (_hn : r.noreply = true) (_hb : r.block = true) (hv : r.verb = c.verb) (h4 : 4 < c.verb) (hw19 : c.verb ≠ 19) (h : MayR r c) (hg : Range c) (hd : c.data.length ≤ 2147483647) : rest r (argsV r c ++ nrV c) = .ok { c with data := [], large := false } (c.data.length : Int) := by
  have k0 := h.token0 (by rw [hp]; decide)
  have d0 := h.delta0 (by rw [hp]; decide)
  have m0 := h.metas0 (by rw [hp]; decide)
  have w0 := h.what0 hw19
  obtain ⟨k, hk, hkl⟩ := h.key (by rw [hp]; decide) h4
  have ha : argsV r c = [k, decDigits c.flags, itoa c.exptime, decDigits c.data.length] := by simp [argsV, hp, putV, hk]
  rw [ha]
  refine rest_of h.nr (by rw [hl]; simp) (.inl (by rw [hp]; simp)) (fun _ _ => by simpa using dec_noreply _) ?_
  rw [hp]
  refine at_one (at_K hkl) ?_
  refine at_one (at_F h.flags) ?_
  refine at_one (at_T hg.time.1 hg.time.2) ?_
  refine at_one (at_N hd) ?_
  exact congrArg (fun x => Except.ok (x, _)) (cmd_same (hv) (hk.symm) (rfl) (rfl) (k0.symm) (d0.symm) (rfl) (m0.symm) (w0.symm))
end

theorem rest_may {c : CmdV} (h1 : 1 ≤ c.verb) (h2 : c.verb ≤ 24) (h : MayR (rowBy c.verb) c) (hg : Range c) (hd : c.data.length ≤ 2147483647) :
    rest (rowBy c.verb) (argsV (rowBy c.verb) c ++ nrV c) = .ok { c with data := [], large := false } (if (rowBy c.verb).block = true then (c.data.length : Int) else -1) := by
  obtain ⟨r, hr⟩ : ∃ r, r = rowBy c.verb := ⟨_, rfl⟩
  rw [← hr] at h ⊢
  have hv : c.verb = 1 ∨ c.verb = 2 ∨ c.verb = 3 ∨ c.verb = 4 ∨ c.verb = 5 ∨ c.verb = 6 ∨ c.verb = 7 ∨ c.verb = 8 ∨ c.verb = 9 ∨ c.verb = 10 ∨ c.verb = 11 ∨ c.verb = 12 ∨ c.verb = 13 ∨ c.verb = 14 ∨ c.verb = 15 ∨ c.verb = 16 ∨ c.verb = 17 ∨ c.verb = 18 ∨ c.verb = 19 ∨ c.verb = 20 ∨ c.verb = 21 ∨ c.verb = 22 ∨ c.verb = 23 ∨ c.verb = 24 := by omega
  rcases hv with e | e | e | e | e | e | e | e | e | e | e | e | e | e | e | e | e | e | e | e | e | e | e | e
  · have hx : r = rowBy 1 := by rw [hr, e]
    rw [show r.block = false from by rw [hx]; rfl]
    exact may_K (by rw [hx]; rfl) (by rw [hx]; rfl) (by rw [hx]; rfl) (by rw [hx]; rfl) (by rw [hx]; rfl) (by rw [hx, e]; rfl) (by omega) h hg hd
  · have hx : r = rowBy 2 := by rw [hr, e]
    rw [show r.block = false from by rw [hx]; rfl]
    exact may_K (by rw [hx]; rfl) (by rw [hx]; rfl) (by rw [hx]; rfl) (by rw [hx]; rfl) (by rw [hx]; rfl) (by rw [hx, e]; rfl) (by omega) h hg hd
  · have hx : r = rowBy 3 := by rw [hr, e]
    rw [show r.block = false from by rw [hx]; rfl]
    exact may_TK (by rw [hx]; rfl) (by rw [hx]; rfl) (by rw [hx]; rfl) (by rw [hx]; rfl) (by rw [hx]; rfl) (by rw [hx, e]; rfl) (by omega) h hg hd
  · have hx : r = rowBy 4 := by rw [hr, e]
    rw [show r.block = false from by rw [hx]; rfl]
    exact may_TK (by rw [hx]; rfl) (by rw [hx]; rfl) (by rw [hx]; rfl) (by rw [hx]; rfl) (by rw [hx]; rfl) (by rw [hx, e]; rfl) (by omega) h hg hd
  · have hx : r = rowBy 5 := by rw [hr, e]
    rw [show r.block = true from by rw [hx]; rfl]
    exact may_KFTN (by rw [hx]; rfl) (by rw [hx]; rfl) (by rw [hx]; rfl) (by rw [hx]; rfl) (by rw [hx]; rfl) (by rw [hx, e]; rfl) (by omega) (by omega) h hg hd
  · have hx : r = rowBy 6 := by rw [hr, e]
    rw [show r.block = true from by rw [hx]; rfl]
    exact may_KFTN (by rw [hx]; rfl) (by rw [hx]; rfl) (by rw [hx]; rfl) (by rw [hx]; rfl) (by rw [hx]; rfl) (by rw [hx, e]; rfl) (by omega) (by omega) h hg hd
  · have hx : r = rowBy 7 := by rw [hr, e]
    rw [show r.block = true from by rw [hx]; rfl]
    exact may_KFTN (by rw [hx]; rfl) (by rw [hx]; rfl) (by rw [hx]; rfl) (by rw [hx]; rfl) (by rw [hx]; rfl) (by rw [hx, e]; rfl) (by omega) (by omega) h hg hd
  · have hx : r = rowBy 8 := by rw [hr, e]
    rw [show r.block = true from by rw [hx]; rfl]
    exact may_KFTN (by rw [hx]; rfl) (by rw [hx]; rfl) (by rw [hx]; rfl) (by rw [hx]; rfl) (by rw [hx]; rfl) (by rw [hx, e]; rfl) (by omega) (by omega) h hg hd
  · have hx : r = rowBy 9 := by rw [hr, e]
    rw [show r.block = true from by rw [hx]; rfl]
    exact may_KFTN (by rw [hx]; rfl) (by rw [hx]; rfl) (by rw [hx]; rfl) (by rw [hx]; rfl) (by rw [hx]; rfl) (by rw [hx, e]; rfl) (by omega) (by omega) h hg hd
  · have hx : r = rowBy 10 := by rw [hr, e]
    rw [show r.block = true from by rw [hx]; rfl]
    exact may_KFTNC (by rw [hx]; rfl) (by rw [hx]; rfl) (by rw [hx]; rfl) (by rw [hx]; rfl) (by rw [hx]; rfl) (by rw [hx, e]; rfl) (by omega) (by omega) h hg hd
  · have hx : r = rowBy 11 := by rw [hr, e]
    rw [show r.block = false from by rw [hx]; rfl]
    exact may_K0 (by rw [hx]; rfl) (by rw [hx]; rfl) (by rw [hx]; rfl) (by rw [hx]; rfl) (by rw [hx]; rfl) (by rw [hx, e]; rfl) (by omega) (by omega) h hg hd
  · have hx : r = rowBy 12 := by rw [hr, e]
    rw [show r.block = false from by rw [hx]; rfl]
    exact may_KD (by rw [hx]; rfl) (by rw [hx]; rfl) (by rw [hx]; rfl) (by rw [hx]; rfl) (by rw [hx]; rfl) (by rw [hx, e]; rfl) (by omega) (by omega) h hg hd
  · have hx : r = rowBy 13 := by rw [hr, e]
    rw [show r.block = false from by rw [hx]; rfl]
    exact may_KD (by rw [hx]; rfl) (by rw [hx]; rfl) (by rw [hx]; rfl) (by rw [hx]; rfl) (by rw [hx]; rfl) (by rw [hx, e]; rfl) (by omega) (by omega) h hg hd
  · have hx : r = rowBy 14 := by rw [hr, e]
    rw [show r.block = false from by rw [hx]; rfl]
    exact may_KT (by rw [hx]; rfl) (by rw [hx]; rfl) (by rw [hx]; rfl) (by rw [hx]; rfl) (by rw [hx]; rfl) (by rw [hx, e]; rfl) (by omega) (by omega) h hg hd
  · have hx : r = rowBy 15 := by rw [hr, e]
    rw [show r.block = false from by rw [hx]; rfl]
    exact may_S (by rw [hx]; rfl) (by rw [hx]; rfl) (by rw [hx]; rfl) (by rw [hx]; rfl) (by rw [hx]; rfl) (by rw [hx, e]; rfl) e (by omega) h hg hd
  · have hx : r = rowBy 16 := by rw [hr, e]
    rw [show r.block = false from by rw [hx]; rfl]
    exact may_E (by rw [hx]; rfl) (by rw [hx]; rfl) (by rw [hx]; rfl) (by rw [hx]; rfl) (by rw [hx]; rfl) (by rw [hx, e]; rfl) (by omega) h hg hd
  · have hx : r = rowBy 17 := by rw [hr, e]
    rw [show r.block = false from by rw [hx]; rfl]
    exact may_V (by rw [hx]; rfl) (by rw [hx]; rfl) (by rw [hx]; rfl) (by rw [hx]; rfl) (by rw [hx]; rfl) (by rw [hx, e]; rfl) (by omega) h hg hd
  · have hx : r = rowBy 18 := by rw [hr, e]
    rw [show r.block = false from by rw [hx]; rfl]
    exact may_E (by rw [hx]; rfl) (by rw [hx]; rfl) (by rw [hx]; rfl) (by rw [hx]; rfl) (by rw [hx]; rfl) (by rw [hx, e]; rfl) (by omega) h hg hd
  · have hx : r = rowBy 19 := by rw [hr, e]
    rw [show r.block = false from by rw [hx]; rfl]
    exact may_W (by rw [hx]; rfl) (by rw [hx]; rfl) (by rw [hx]; rfl) (by rw [hx]; rfl) (by rw [hx]; rfl) (by rw [hx, e]; rfl) e h hg hd
  · have hx : r = rowBy 20 := by rw [hr, e]
    rw [show r.block = false from by rw [hx]; rfl]
    exact may_KG (by rw [hx]; rfl) (by rw [hx]; rfl) (by rw [hx]; rfl) (by rw [hx]; rfl) (by rw [hx]; rfl) (by rw [hx, e]; rfl) (by omega) (by omega) h hg hd
  · have hx : r = rowBy 21 := by rw [hr, e]
    rw [show r.block = true from by rw [hx]; rfl]
    exact may_KNG (by rw [hx]; rfl) (by rw [hx]; rfl) (by rw [hx]; rfl) (by rw [hx]; rfl) (by rw [hx]; rfl) (by rw [hx, e]; rfl) (by omega) (by omega) h hg hd
  · have hx : r = rowBy 22 := by rw [hr, e]
    rw [show r.block = false from by rw [hx]; rfl]
    exact may_KG (by rw [hx]; rfl) (by rw [hx]; rfl) (by rw [hx]; rfl) (by rw [hx]; rfl) (by rw [hx]; rfl) (by rw [hx, e]; rfl) (by omega) (by omega) h hg hd
  · have hx : r = rowBy 23 := by rw [hr, e]
    rw [show r.block = false from by rw [hx]; rfl]
    exact may_KG (by rw [hx]; rfl) (by rw [hx]; rfl) (by rw [hx]; rfl) (by rw [hx]; rfl) (by rw [hx]; rfl) (by rw [hx, e]; rfl) (by omega) (by omega) h hg hd
  · have hx : r = rowBy 24 := by rw [hr, e]
    rw [show r.block = false from by rw [hx]; rfl]
    exact may_E (by rw [hx]; rfl) (by rw [hx]; rfl) (by rw [hx]; rfl) (by rw [hx]; rfl) (by rw [hx]; rfl) (by rw [hx, e]; rfl) (by omega) h hg hd
end Go.Proofs.YthgfjafnclklpaaGreatDoor
end
section
namespace Go.Proofs.YthgfjafnclklpaaGreatDoor
open Go.Lib Sp

theorem step_ok {ps : Bs} {i : Nat} {c c' : CmdV} {b b' : Int} {w : Bs} {t : List Bs} (h : wordsAt ps i c b (w :: t) = .ok (c', b')) :
    ∃ c1 b1, wordAt c b (ps.getD (min i (ps.length - 1)) 0) w = .ok (c1, b1) ∧ wordsAt ps (i + 1) c1 b1 t = .ok (c', b') := by
  rw [wordsAt] at h
  cases hw : wordAt c b (ps.getD (min i (ps.length - 1)) 0) w with
  | error e => rw [hw] at h; cases h
  | ok y => obtain ⟨c1, b1⟩ := y; rw [hw] at h; exact ⟨c1, b1, rfl, h⟩
theorem step_end {ps : Bs} {i : Nat} {c c' : CmdV} {b b' : Int} (h : wordsAt ps i c b [] = .ok (c', b')) : c' = c ∧ b' = b := by
  rw [wordsAt] at h
  injection h with h; injection h with h1 h2
  exact ⟨h1.symm, h2.symm⟩

/-- what a line's words have left -/
structure InvOut (r : RowV) (nr : Bool) (ws : List Bs) (c : CmdV) (n : Int) : Prop where
  verb : c.verb = r.verb
  nr : c.noreply = nr
  data : c.data = []
  large : c.large = false
  may : MayR r c
  range : Range c
  block : (r.block = true ∧ 0 ≤ n ∧ n ≤ 2147483647) ∨ (r.block = false ∧ n = -1)
  short : ∀ d : Bs, (r.block = true → (d.length : Int) = n) → tails (argsV r { c with data := d }) ≤ tails ws

theorem legal_keyV {w : Bs} (h : legal w = true) (hn : w ≠ []) : keyV w = true := by rw [legal_word hn]; exact h

section
variable {r : RowV} {c : CmdV} {n : Int} {nr : Bool} {ws : List Bs}
theorem inv_shape_K (hp : r.places = [75]) (hl : r.least = 1) (_hm : r.more = true) (hb : r.block = false) (h4 : r.verb ≤ 4) (hnr : nr = true → r.noreply = true) (hne : ∀ w ∈ ws, w ≠ []) (hlo : r.least ≤ ws.length) (_hhi : ws.length ≤ r.places.length ∨ r.more = true)
    (hw : wordsAt r.places 0 { verb := r.verb, noreply := nr } (-1) ws = .ok (c, n)) : InvOut r nr ws c n := by
  rw [hp] at hw
  rw [hl] at hlo
  obtain ⟨g0, rfl, rfl⟩ := inv_keys ws 0 _ _ _ _ (fun j _ => by show ([75] : Bs).getD (min j 0) 0 = 75; rw [Nat.min_zero]; rfl) hw
  exact ⟨rfl, rfl, rfl, rfl, { keyed1 := (fun _ e => by rw [show ws = [] from by simpa using e] at hlo; simp at hlo), keyed0 := fun h => absurd (by rw [hp]; decide) h, one := fun h => absurd h (by dsimp only; omega), keys := fun k hk => legal_keyV (g0 k (by simpa using hk)) (hne k (by simpa using hk)), flags := Nat.zero_le _, flags0 := fun _ => rfl, time0 := fun _ _ => rfl, token0 := fun _ => rfl, delta0 := fun _ => rfl, metas0 := fun _ => rfl, metas := rfl, what0 := fun _ => rfl, what := fun h => absurd rfl h, flush := fun _ => Int.le_refl 0, nr := hnr, data0 := fun _ => rfl }, ⟨Nat.zero_le _, Nat.zero_le _, (show (-9223372036854775808 : Int) ≤ 0 ∧ (0 : Int) ≤ 9223372036854775807 from by decide)⟩, .inr ⟨hb, rfl⟩, fun d _ => by
    have ha : argsV r { ({ verb := r.verb, noreply := nr, keys := [] ++ ws } : CmdV) with data := d } = ws := by simp [argsV, hp, putV]
    exact Nat.le_of_eq (congrArg tails ha)⟩
theorem inv_shape_TK (hp : r.places = [84, 75]) (hl : r.least = 2) (_hm : r.more = true) (hb : r.block = false) (h4 : r.verb ≤ 4) (h15 : r.verb ≠ 15) (hnr : nr = true → r.noreply = true) (hne : ∀ w ∈ ws, w ≠ []) (hlo : r.least ≤ ws.length) (hhi : ws.length ≤ r.places.length ∨ r.more = true)
    (hw : wordsAt r.places 0 { verb := r.verb, noreply := nr } (-1) ws = .ok (c, n)) : InvOut r nr ws c n := by
  rw [hp] at hw
  rw [hl] at hlo
  obtain ⟨w0, ws, rfl⟩ : ∃ w t, ws = w :: t := by cases ws with | nil => simp at hlo | cons w t => exact ⟨w, t, rfl⟩
  obtain ⟨c0, b0, h0, hw⟩ := step_ok hw
  change wordAt _ _ 84 _ = _ at h0
  obtain ⟨n0, g0, rfl, rfl⟩ := inv_T h0
  obtain ⟨g1, rfl, rfl⟩ := inv_keys ws 1 _ _ _ _ (fun j hj => by show ([84, 75] : Bs).getD (min j 1) 0 = 75; rw [Nat.min_eq_right hj]; rfl) hw
  exact ⟨rfl, rfl, rfl, rfl, { keyed1 := (fun _ e => by rw [show ws = [] from by simpa using e] at hlo; simp at hlo), keyed0 := fun h => absurd (by rw [hp]; decide) h, one := fun h => absurd h (by dsimp only; omega), keys := fun k hk => legal_keyV (g1 k (by simpa using hk)) (hne k (List.mem_cons_of_mem _ (by simpa using hk))), flags := Nat.zero_le _, flags0 := fun _ => rfl, time0 := fun h => absurd (by rw [hp]; decide) h, token0 := fun _ => rfl, delta0 := fun _ => rfl, metas0 := fun _ => rfl, metas := rfl, what0 := fun _ => rfl, what := fun h => absurd rfl h, flush := fun e => absurd e h15, nr := hnr, data0 := fun _ => rfl }, ⟨Nat.zero_le _, Nat.zero_le _, timeOf_bounds g0⟩, .inr ⟨hb, rfl⟩, fun d _ => by
    have ha : argsV r { ({ verb := r.verb, noreply := nr, exptime := n0, keys := [] ++ ws } : CmdV) with data := d } = itoa n0 :: ws := by simp [argsV, hp, putV]
    have h1 := time_short g0
    refine Nat.le_trans (Nat.le_of_eq (congrArg tails ha)) ?_
    simp only [tails]; omega⟩
theorem inv_shape_KFTNC (hp : r.places = [75, 70, 84, 78, 67]) (hl : r.least = 5) (hm : r.more = false) (hb : r.block = true) (h15 : r.verb ≠ 15) (hnr : nr = true → r.noreply = true) (hne : ∀ w ∈ ws, w ≠ []) (hlo : r.least ≤ ws.length) (hhi : ws.length ≤ r.places.length ∨ r.more = true)
    (hw : wordsAt r.places 0 { verb := r.verb, noreply := nr } (-1) ws = .ok (c, n)) : InvOut r nr ws c n := by
  rw [hp] at hw
  rw [hl] at hlo
  replace hhi : ws.length ≤ 5 := by rcases hhi with h | h; (rw [hp] at h; exact h); (rw [hm] at h; cases h)
  rcases ws with _ | ⟨w0, _ | ⟨w1, _ | ⟨w2, _ | ⟨w3, _ | ⟨w4, _ | ⟨w5, t⟩⟩⟩⟩⟩⟩
  · simp at hlo
  · simp at hlo
  · simp at hlo
  · simp at hlo
  · simp at hlo
  · obtain ⟨c0, b0, h0, hw⟩ := step_ok hw
    change wordAt _ _ 75 _ = _ at h0
    obtain ⟨g0, rfl, rfl⟩ := inv_K h0
    obtain ⟨c1, b1, h1, hw⟩ := step_ok hw
    change wordAt _ _ 70 _ = _ at h1
    obtain ⟨n1, g1, rfl, rfl⟩ := inv_F h1
    obtain ⟨c2, b2, h2, hw⟩ := step_ok hw
    change wordAt _ _ 84 _ = _ at h2
    obtain ⟨n2, g2, rfl, rfl⟩ := inv_T h2
    obtain ⟨c3, b3, h3, hw⟩ := step_ok hw
    change wordAt _ _ 78 _ = _ at h3
    obtain ⟨n3, g3, rfl, rfl⟩ := inv_N h3
    obtain ⟨c4, b4, h4, hw⟩ := step_ok hw
    change wordAt _ _ 67 _ = _ at h4
    obtain ⟨n4, g4, rfl, rfl⟩ := inv_C h4
    obtain ⟨rfl, rfl⟩ := step_end hw
    exact ⟨rfl, rfl, rfl, rfl, { keyed1 := fun _ => by simp, keyed0 := fun h => absurd (by rw [hp]; decide) h, one := fun _ => by simp, keys := (fun k hk => by rw [show k = w0 from by simpa using hk]; exact legal_keyV g0 (hne _ (by simp))), flags := number_le g1, flags0 := fun h => absurd (by rw [hp]; decide) h, time0 := fun h => absurd (by rw [hp]; decide) h, token0 := fun h => absurd (by rw [hp]; decide) h, delta0 := fun _ => rfl, metas0 := fun _ => rfl, metas := rfl, what0 := fun _ => rfl, what := fun h => absurd rfl h, flush := fun e => absurd e h15, nr := hnr, data0 := fun _ => rfl }, ⟨number_le g4, Nat.zero_le _, timeOf_bounds g2⟩, .inl ⟨hb, by omega, by have := number_le g3; omega⟩, fun d hd => by
      have hd' : d.length = n3 := by have := hd hb; omega
      have s1 := number_short g1
      have s2 := time_short g2
      have s3 := number_short g3
      have s4 := number_short g4
      have ha : argsV r { ({ verb := r.verb, noreply := nr, keys := [] ++ [w0], flags := n1, exptime := n2, token := n4 } : CmdV) with data := d } = [w0, decDigits n1, itoa n2, decDigits n3, decDigits n4] := by simp [argsV, hp, putV, hd']
      refine Nat.le_trans (Nat.le_of_eq (congrArg tails ha)) ?_
      simp only [tails]; omega⟩
  · simp at hhi
theorem inv_shape_K0 (hp : r.places = [75, 48]) (hl : r.least = 1) (hm : r.more = false) (hb : r.block = false) (hnr : nr = true → r.noreply = true) (hne : ∀ w ∈ ws, w ≠ []) (hlo : r.least ≤ ws.length) (hhi : ws.length ≤ r.places.length ∨ r.more = true)
    (hw : wordsAt r.places 0 { verb := r.verb, noreply := nr } (-1) ws = .ok (c, n)) : InvOut r nr ws c n := by
  rw [hp] at hw
  rw [hl] at hlo
  replace hhi : ws.length ≤ 2 := by rcases hhi with h | h; (rw [hp] at h; exact h); (rw [hm] at h; cases h)
  rcases ws with _ | ⟨w0, _ | ⟨w1, _ | ⟨w2, t⟩⟩⟩
  · simp at hlo
  · obtain ⟨c0, b0, h0, hw⟩ := step_ok hw
    change wordAt _ _ 75 _ = _ at h0
    obtain ⟨g0, rfl, rfl⟩ := inv_K h0
    obtain ⟨rfl, rfl⟩ := step_end hw
    exact ⟨rfl, rfl, rfl, rfl, { keyed1 := fun _ => by simp, keyed0 := fun h => absurd (by rw [hp]; decide) h, one := fun _ => by simp, keys := (fun k hk => by rw [show k = w0 from by simpa using hk]; exact legal_keyV g0 (hne _ (by simp))), flags := Nat.zero_le _, flags0 := fun _ => rfl, time0 := fun _ _ => rfl, token0 := fun _ => rfl, delta0 := fun _ => rfl, metas0 := fun _ => rfl, metas := rfl, what0 := fun _ => rfl, what := fun h => absurd rfl h, flush := fun _ => Int.le_refl 0, nr := hnr, data0 := fun _ => rfl }, ⟨Nat.zero_le _, Nat.zero_le _, (show (-9223372036854775808 : Int) ≤ 0 ∧ (0 : Int) ≤ 9223372036854775807 from by decide)⟩, .inr ⟨hb, rfl⟩, fun d _ => by
    have ha : argsV r { ({ verb := r.verb, noreply := nr, keys := [] ++ [w0] } : CmdV) with data := d } = [w0] := by simp [argsV, hp, putV]
    refine Nat.le_trans (Nat.le_of_eq (congrArg tails ha)) ?_
    simp only [tails]; omega⟩
  · obtain ⟨c0, b0, h0, hw⟩ := step_ok hw
    change wordAt _ _ 75 _ = _ at h0
    obtain ⟨g0, rfl, rfl⟩ := inv_K h0
    obtain ⟨c1, b1, h1, hw⟩ := step_ok hw
    change wordAt _ _ 48 _ = _ at h1
    obtain ⟨rfl, rfl⟩ := inv_0 h1
    obtain ⟨rfl, rfl⟩ := step_end hw
    exact ⟨rfl, rfl, rfl, rfl, { keyed1 := fun _ => by simp, keyed0 := fun h => absurd (by rw [hp]; decide) h, one := fun _ => by simp, keys := (fun k hk => by rw [show k = w0 from by simpa using hk]; exact legal_keyV g0 (hne _ (by simp))), flags := Nat.zero_le _, flags0 := fun _ => rfl, time0 := fun _ _ => rfl, token0 := fun _ => rfl, delta0 := fun _ => rfl, metas0 := fun _ => rfl, metas := rfl, what0 := fun _ => rfl, what := fun h => absurd rfl h, flush := fun _ => Int.le_refl 0, nr := hnr, data0 := fun _ => rfl }, ⟨Nat.zero_le _, Nat.zero_le _, (show (-9223372036854775808 : Int) ≤ 0 ∧ (0 : Int) ≤ 9223372036854775807 from by decide)⟩, .inr ⟨hb, rfl⟩, fun d _ => by
    have ha : argsV r { ({ verb := r.verb, noreply := nr, keys := [] ++ [w0] } : CmdV) with data := d } = [w0] := by simp [argsV, hp, putV]
    refine Nat.le_trans (Nat.le_of_eq (congrArg tails ha)) ?_
    simp only [tails]; omega⟩
  · simp at hhi
theorem inv_shape_KD (hp : r.places = [75, 68]) (hl : r.least = 2) (hm : r.more = false) (hb : r.block = false) (hnr : nr = true → r.noreply = true) (hne : ∀ w ∈ ws, w ≠ []) (hlo : r.least ≤ ws.length) (hhi : ws.length ≤ r.places.length ∨ r.more = true)
    (hw : wordsAt r.places 0 { verb := r.verb, noreply := nr } (-1) ws = .ok (c, n)) : InvOut r nr ws c n := by
  rw [hp] at hw
  rw [hl] at hlo
  replace hhi : ws.length ≤ 2 := by rcases hhi with h | h; (rw [hp] at h; exact h); (rw [hm] at h; cases h)
  rcases ws with _ | ⟨w0, _ | ⟨w1, _ | ⟨w2, t⟩⟩⟩
  · simp at hlo
  · simp at hlo
  · obtain ⟨c0, b0, h0, hw⟩ := step_ok hw
    change wordAt _ _ 75 _ = _ at h0
    obtain ⟨g0, rfl, rfl⟩ := inv_K h0
    obtain ⟨c1, b1, h1, hw⟩ := step_ok hw
    change wordAt _ _ 68 _ = _ at h1
    obtain ⟨n1, g1, rfl, rfl⟩ := inv_D h1
    obtain ⟨rfl, rfl⟩ := step_end hw
    exact ⟨rfl, rfl, rfl, rfl, { keyed1 := fun _ => by simp, keyed0 := fun h => absurd (by rw [hp]; decide) h, one := fun _ => by simp, keys := (fun k hk => by rw [show k = w0 from by simpa using hk]; exact legal_keyV g0 (hne _ (by simp))), flags := Nat.zero_le _, flags0 := fun _ => rfl, time0 := fun _ _ => rfl, token0 := fun _ => rfl, delta0 := fun h => absurd (by rw [hp]; decide) h, metas0 := fun _ => rfl, metas := rfl, what0 := fun _ => rfl, what := fun h => absurd rfl h, flush := fun _ => Int.le_refl 0, nr := hnr, data0 := fun _ => rfl }, ⟨Nat.zero_le _, number_le g1, (show (-9223372036854775808 : Int) ≤ 0 ∧ (0 : Int) ≤ 9223372036854775807 from by decide)⟩, .inr ⟨hb, rfl⟩, fun d _ => by
      have s1 := number_short g1
      have ha : argsV r { ({ verb := r.verb, noreply := nr, keys := [] ++ [w0], delta := n1 } : CmdV) with data := d } = [w0, decDigits n1] := by simp [argsV, hp, putV]
      refine Nat.le_trans (Nat.le_of_eq (congrArg tails ha)) ?_
      simp only [tails]; omega⟩
  · simp at hhi
theorem inv_shape_KT (hp : r.places = [75, 84]) (hl : r.least = 2) (hm : r.more = false) (hb : r.block = false) (h15 : r.verb ≠ 15) (hnr : nr = true → r.noreply = true) (hne : ∀ w ∈ ws, w ≠ []) (hlo : r.least ≤ ws.length) (hhi : ws.length ≤ r.places.length ∨ r.more = true)
    (hw : wordsAt r.places 0 { verb := r.verb, noreply := nr } (-1) ws = .ok (c, n)) : InvOut r nr ws c n := by
  rw [hp] at hw
  rw [hl] at hlo
  replace hhi : ws.length ≤ 2 := by rcases hhi with h | h; (rw [hp] at h; exact h); (rw [hm] at h; cases h)
  rcases ws with _ | ⟨w0, _ | ⟨w1, _ | ⟨w2, t⟩⟩⟩
  · simp at hlo
  · simp at hlo
  · obtain ⟨c0, b0, h0, hw⟩ := step_ok hw
    change wordAt _ _ 75 _ = _ at h0
    obtain ⟨g0, rfl, rfl⟩ := inv_K h0
    obtain ⟨c1, b1, h1, hw⟩ := step_ok hw
    change wordAt _ _ 84 _ = _ at h1
    obtain ⟨n1, g1, rfl, rfl⟩ := inv_T h1
    obtain ⟨rfl, rfl⟩ := step_end hw
    exact ⟨rfl, rfl, rfl, rfl, { keyed1 := fun _ => by simp, keyed0 := fun h => absurd (by rw [hp]; decide) h, one := fun _ => by simp, keys := (fun k hk => by rw [show k = w0 from by simpa using hk]; exact legal_keyV g0 (hne _ (by simp))), flags := Nat.zero_le _, flags0 := fun _ => rfl, time0 := fun h => absurd (by rw [hp]; decide) h, token0 := fun _ => rfl, delta0 := fun _ => rfl, metas0 := fun _ => rfl, metas := rfl, what0 := fun _ => rfl, what := fun h => absurd rfl h, flush := fun e => absurd e h15, nr := hnr, data0 := fun _ => rfl }, ⟨Nat.zero_le _, Nat.zero_le _, timeOf_bounds g1⟩, .inr ⟨hb, rfl⟩, fun d _ => by
      have s1 := time_short g1
      have ha : argsV r { ({ verb := r.verb, noreply := nr, keys := [] ++ [w0], exptime := n1 } : CmdV) with data := d } = [w0, itoa n1] := by simp [argsV, hp, putV]
      refine Nat.le_trans (Nat.le_of_eq (congrArg tails ha)) ?_
      simp only [tails]; omega⟩
  · simp at hhi
theorem inv_shape_S (hp : r.places = [83]) (hl : r.least = 0) (hm : r.more = false) (hb : r.block = false) (hnr : nr = true → r.noreply = true) (hne : ∀ w ∈ ws, w ≠ []) (hlo : r.least ≤ ws.length) (hhi : ws.length ≤ r.places.length ∨ r.more = true)
    (hw : wordsAt r.places 0 { verb := r.verb, noreply := nr } (-1) ws = .ok (c, n)) : InvOut r nr ws c n := by
  rw [hp] at hw
  rw [hl] at hlo
  replace hhi : ws.length ≤ 1 := by rcases hhi with h | h; (rw [hp] at h; exact h); (rw [hm] at h; cases h)
  rcases ws with _ | ⟨w0, _ | ⟨w1, t⟩⟩
  · obtain ⟨rfl, rfl⟩ := step_end hw
    exact ⟨rfl, rfl, rfl, rfl, { keyed1 := fun h => absurd h (by rw [hp]; decide), keyed0 := fun _ => rfl, one := fun _ => by simp, keys := (fun k hk => by cases hk), flags := Nat.zero_le _, flags0 := fun _ => rfl, time0 := fun _ h => absurd (by rw [hp]; decide) h, token0 := fun _ => rfl, delta0 := fun _ => rfl, metas0 := fun _ => rfl, metas := rfl, what0 := fun _ => rfl, what := fun h => absurd rfl h, flush := fun _ => Int.le_refl 0, nr := hnr, data0 := fun _ => rfl }, ⟨Nat.zero_le _, Nat.zero_le _, (show (-9223372036854775808 : Int) ≤ 0 ∧ (0 : Int) ≤ 9223372036854775807 from by decide)⟩, .inr ⟨hb, rfl⟩, fun d _ => by
    have ha : argsV r { ({ verb := r.verb, noreply := nr } : CmdV) with data := d } = [] := by simp [argsV, hp, putV]
    exact Nat.le_of_eq (congrArg tails ha)⟩
  · obtain ⟨c0, b0, h0, hw⟩ := step_ok hw
    change wordAt _ _ 83 _ = _ at h0
    obtain ⟨n0, g0, p0, rfl, rfl⟩ := inv_S h0
    obtain ⟨rfl, rfl⟩ := step_end hw
    exact ⟨rfl, rfl, rfl, rfl, { keyed1 := fun h => absurd h (by rw [hp]; decide), keyed0 := fun _ => rfl, one := fun _ => by simp, keys := (fun k hk => by cases hk), flags := Nat.zero_le _, flags0 := fun _ => rfl, time0 := fun _ h => absurd (by rw [hp]; decide) h, token0 := fun _ => rfl, delta0 := fun _ => rfl, metas0 := fun _ => rfl, metas := rfl, what0 := fun _ => rfl, what := fun h => absurd rfl h, flush := fun _ => p0, nr := hnr, data0 := fun _ => rfl }, ⟨Nat.zero_le _, Nat.zero_le _, timeOf_bounds g0⟩, .inr ⟨hb, rfl⟩, fun d _ => by
    have h1 := time_short g0
    by_cases he : n0 = 0
    · have ha : argsV r { ({ verb := r.verb, noreply := nr, exptime := n0 } : CmdV) with data := d } = [] := by simp [argsV, hp, putV, he]
      refine Nat.le_trans (Nat.le_of_eq (congrArg tails ha)) ?_
      simp [tails]
    · have ha : argsV r { ({ verb := r.verb, noreply := nr, exptime := n0 } : CmdV) with data := d } = [itoa n0] := by simp [argsV, hp, putV, he]
      refine Nat.le_trans (Nat.le_of_eq (congrArg tails ha)) ?_
      simp only [tails]; omega⟩
  · simp at hhi
theorem inv_shape_E (hp : r.places = []) (hl : r.least = 0) (hm : r.more = false) (hb : r.block = false) (hnr : nr = true → r.noreply = true) (hne : ∀ w ∈ ws, w ≠ []) (hlo : r.least ≤ ws.length) (hhi : ws.length ≤ r.places.length ∨ r.more = true)
    (hw : wordsAt r.places 0 { verb := r.verb, noreply := nr } (-1) ws = .ok (c, n)) : InvOut r nr ws c n := by
  rw [hp] at hw
  rw [hl] at hlo
  replace hhi : ws.length ≤ 0 := by rcases hhi with h | h; (rw [hp] at h; exact h); (rw [hm] at h; cases h)
  obtain rfl : ws = [] := List.eq_nil_of_length_eq_zero (by omega)
  obtain ⟨rfl, rfl⟩ := step_end hw
  exact ⟨rfl, rfl, rfl, rfl, { keyed1 := fun h => absurd h (by rw [hp]; decide), keyed0 := fun _ => rfl, one := fun _ => by simp, keys := (fun k hk => by cases hk), flags := Nat.zero_le _, flags0 := fun _ => rfl, time0 := fun _ _ => rfl, token0 := fun _ => rfl, delta0 := fun _ => rfl, metas0 := fun _ => rfl, metas := rfl, what0 := fun _ => rfl, what := fun h => absurd rfl h, flush := fun _ => Int.le_refl 0, nr := hnr, data0 := fun _ => rfl }, ⟨Nat.zero_le _, Nat.zero_le _, (show (-9223372036854775808 : Int) ≤ 0 ∧ (0 : Int) ≤ 9223372036854775807 from by decide)⟩, .inr ⟨hb, rfl⟩, fun d _ => by
    have ha : argsV r { ({ verb := r.verb, noreply := nr } : CmdV) with data := d } = [] := by simp [argsV, hp]
    exact Nat.le_of_eq (congrArg tails ha)⟩
theorem inv_shape_V (hp : r.places = [86]) (hl : r.least = 1) (hm : r.more = false) (hb : r.block = false) (hnr : nr = true → r.noreply = true) (hne : ∀ w ∈ ws, w ≠ []) (hlo : r.least ≤ ws.length) (hhi : ws.length ≤ r.places.length ∨ r.more = true)
    (hw : wordsAt r.places 0 { verb := r.verb, noreply := nr } (-1) ws = .ok (c, n)) : InvOut r nr ws c n := by
  rw [hp] at hw
  rw [hl] at hlo
  replace hhi : ws.length ≤ 1 := by rcases hhi with h | h; (rw [hp] at h; exact h); (rw [hm] at h; cases h)
  rcases ws with _ | ⟨w0, _ | ⟨w1, t⟩⟩
  · simp at hlo
  · obtain ⟨c0, b0, h0, hw⟩ := step_ok hw
    change wordAt _ _ 86 _ = _ at h0
    obtain ⟨rfl, rfl, g0⟩ := inv_V h0
    obtain ⟨rfl, rfl⟩ := step_end hw
    exact ⟨rfl, rfl, rfl, rfl, { keyed1 := fun h => absurd h (by rw [hp]; decide), keyed0 := fun _ => rfl, one := fun _ => by simp, keys := (fun k hk => by cases hk), flags := Nat.zero_le _, flags0 := fun _ => rfl, time0 := fun _ _ => rfl, token0 := fun _ => rfl, delta0 := fun _ => rfl, metas0 := fun _ => rfl, metas := rfl, what0 := fun _ => rfl, what := fun h => absurd rfl h, flush := fun _ => Int.le_refl 0, nr := hnr, data0 := fun _ => rfl }, ⟨Nat.zero_le _, Nat.zero_le _, (show (-9223372036854775808 : Int) ≤ 0 ∧ (0 : Int) ≤ 9223372036854775807 from by decide)⟩, .inr ⟨hb, rfl⟩, fun d _ => by
      have s0 : 1 ≤ w0.length := by cases w0 with | nil => exact absurd rfl g0 | cons => simp
      have ha : argsV r { ({ verb := r.verb, noreply := nr } : CmdV) with data := d } = [[49]] := by simp [argsV, hp, putV]
      refine Nat.le_trans (Nat.le_of_eq (congrArg tails ha)) ?_
      simp only [tails, List.length_cons, List.length_nil]; omega⟩
  · simp at hhi
theorem inv_shape_W (hp : r.places = [87]) (hl : r.least = 0) (hm : r.more = false) (hb : r.block = false) (h19 : r.verb = 19) (hnr : nr = true → r.noreply = true) (hne : ∀ w ∈ ws, w ≠ []) (hlo : r.least ≤ ws.length) (hhi : ws.length ≤ r.places.length ∨ r.more = true)
    (hw : wordsAt r.places 0 { verb := r.verb, noreply := nr } (-1) ws = .ok (c, n)) : InvOut r nr ws c n := by
  rw [hp] at hw
  rw [hl] at hlo
  replace hhi : ws.length ≤ 1 := by rcases hhi with h | h; (rw [hp] at h; exact h); (rw [hm] at h; cases h)
  rcases ws with _ | ⟨w0, _ | ⟨w1, t⟩⟩
  · obtain ⟨rfl, rfl⟩ := step_end hw
    exact ⟨rfl, rfl, rfl, rfl, { keyed1 := fun h => absurd h (by rw [hp]; decide), keyed0 := fun _ => rfl, one := fun _ => by simp, keys := (fun k hk => by cases hk), flags := Nat.zero_le _, flags0 := fun _ => rfl, time0 := fun _ _ => rfl, token0 := fun _ => rfl, delta0 := fun _ => rfl, metas0 := fun _ => rfl, metas := rfl, what0 := fun _ => rfl, what := fun h => absurd rfl h, flush := fun _ => Int.le_refl 0, nr := hnr, data0 := fun _ => rfl }, ⟨Nat.zero_le _, Nat.zero_le _, (show (-9223372036854775808 : Int) ≤ 0 ∧ (0 : Int) ≤ 9223372036854775807 from by decide)⟩, .inr ⟨hb, rfl⟩, fun d _ => by
    have ha : argsV r { ({ verb := r.verb, noreply := nr } : CmdV) with data := d } = [] := by simp [argsV, hp, putV]
    exact Nat.le_of_eq (congrArg tails ha)⟩
  · obtain ⟨c0, b0, h0, hw⟩ := step_ok hw
    change wordAt _ _ 87 _ = _ at h0
    obtain ⟨g0, rfl, rfl⟩ := inv_W h0
    obtain ⟨rfl, rfl⟩ := step_end hw
    exact ⟨rfl, rfl, rfl, rfl, { keyed1 := fun h => absurd h (by rw [hp]; decide), keyed0 := fun _ => rfl, one := fun _ => by simp, keys := (fun k hk => by cases hk), flags := Nat.zero_le _, flags0 := fun _ => rfl, time0 := fun _ _ => rfl, token0 := fun _ => rfl, delta0 := fun _ => rfl, metas0 := fun _ => rfl, metas := rfl, what0 := fun e => absurd h19 e, what := fun _ => g0, flush := fun _ => Int.le_refl 0, nr := hnr, data0 := fun _ => rfl }, ⟨Nat.zero_le _, Nat.zero_le _, (show (-9223372036854775808 : Int) ≤ 0 ∧ (0 : Int) ≤ 9223372036854775807 from by decide)⟩, .inr ⟨hb, rfl⟩, fun d _ => by
    have hw0 := hne w0 (by simp)
    have ha : argsV r { ({ verb := r.verb, noreply := nr, what := w0 } : CmdV) with data := d } = [w0] := by simp [argsV, hp, putV, hw0]
    exact Nat.le_of_eq (congrArg tails ha)⟩
  · simp at hhi
theorem inv_shape_KG (hp : r.places = [75, 71]) (hl : r.least = 1) (_hm : r.more = true) (hb : r.block = false) (hnr : nr = true → r.noreply = true) (hne : ∀ w ∈ ws, w ≠ []) (hlo : r.least ≤ ws.length) (hhi : ws.length ≤ r.places.length ∨ r.more = true)
    (hw : wordsAt r.places 0 { verb := r.verb, noreply := nr } (-1) ws = .ok (c, n)) : InvOut r nr ws c n := by
  rw [hp] at hw
  rw [hl] at hlo
  obtain ⟨w0, ws, rfl⟩ : ∃ w t, ws = w :: t := by cases ws with | nil => simp at hlo | cons w t => exact ⟨w, t, rfl⟩
  obtain ⟨c0, b0, h0, hw⟩ := step_ok hw
  change wordAt _ _ 75 _ = _ at h0
  obtain ⟨g0, rfl, rfl⟩ := inv_K h0
  obtain ⟨fs, rfl, rfl, rfl, g9⟩ := inv_flags ws 1 _ _ _ _ (fun j hj => by show ([75, 71] : Bs).getD (min j 1) 0 = 71; rw [Nat.min_eq_right hj]; rfl) (fun w hw' => hne w (by simp [hw'])) rfl hw
  exact ⟨rfl, rfl, rfl, rfl, { keyed1 := fun _ => by simp, keyed0 := fun h => absurd (by rw [hp]; decide) h, one := fun _ => by simp, keys := (fun k hk => by rw [show k = w0 from by simpa using hk]; exact legal_keyV g0 (hne _ (by simp))), flags := Nat.zero_le _, flags0 := fun _ => rfl, time0 := fun _ _ => rfl, token0 := fun _ => rfl, delta0 := fun _ => rfl, metas0 := fun h => absurd (by rw [hp]; decide) h, metas := g9, what0 := fun _ => rfl, what := fun h => absurd rfl h, flush := fun _ => Int.le_refl 0, nr := hnr, data0 := fun _ => rfl }, ⟨Nat.zero_le _, Nat.zero_le _, (show (-9223372036854775808 : Int) ≤ 0 ∧ (0 : Int) ≤ 9223372036854775807 from by decide)⟩, .inr ⟨hb, rfl⟩, fun d _ => by
    have ha : argsV r { ({ verb := r.verb, noreply := nr, keys := [] ++ [w0], metas := [] ++ fs } : CmdV) with data := d } = w0 :: fs.map fun f => f.letter :: f.arg := by simp [argsV, hp, putV]
    exact Nat.le_of_eq (congrArg tails ha)⟩
theorem inv_shape_KNG (hp : r.places = [75, 78, 71]) (hl : r.least = 2) (_hm : r.more = true) (hb : r.block = true) (hnr : nr = true → r.noreply = true) (hne : ∀ w ∈ ws, w ≠ []) (hlo : r.least ≤ ws.length) (hhi : ws.length ≤ r.places.length ∨ r.more = true)
    (hw : wordsAt r.places 0 { verb := r.verb, noreply := nr } (-1) ws = .ok (c, n)) : InvOut r nr ws c n := by
  rw [hp] at hw
  rw [hl] at hlo
  obtain ⟨w0, w1, ws, rfl⟩ : ∃ w w1 t, ws = w :: w1 :: t := by
    rcases ws with _ | ⟨w, _ | ⟨w1, t⟩⟩
    · simp at hlo
    · simp at hlo
    · exact ⟨w, w1, t, rfl⟩
  obtain ⟨c0, b0, h0, hw⟩ := step_ok hw
  change wordAt _ _ 75 _ = _ at h0
  obtain ⟨g0, rfl, rfl⟩ := inv_K h0
  obtain ⟨c1, b1, h1, hw⟩ := step_ok hw
  change wordAt _ _ 78 _ = _ at h1
  obtain ⟨n1, g1, rfl, rfl⟩ := inv_N h1
  obtain ⟨fs, rfl, rfl, rfl, g9⟩ := inv_flags ws 2 _ _ _ _ (fun j hj => by show ([75, 78, 71] : Bs).getD (min j 2) 0 = 71; rw [Nat.min_eq_right hj]; rfl) (fun w hw' => hne w (by simp [hw'])) rfl hw
  exact ⟨rfl, rfl, rfl, rfl, { keyed1 := fun _ => by simp, keyed0 := fun h => absurd (by rw [hp]; decide) h, one := fun _ => by simp, keys := (fun k hk => by rw [show k = w0 from by simpa using hk]; exact legal_keyV g0 (hne _ (by simp))), flags := Nat.zero_le _, flags0 := fun _ => rfl, time0 := fun _ _ => rfl, token0 := fun _ => rfl, delta0 := fun _ => rfl, metas0 := fun h => absurd (by rw [hp]; decide) h, metas := g9, what0 := fun _ => rfl, what := fun h => absurd rfl h, flush := fun _ => Int.le_refl 0, nr := hnr, data0 := fun _ => rfl }, ⟨Nat.zero_le _, Nat.zero_le _, (show (-9223372036854775808 : Int) ≤ 0 ∧ (0 : Int) ≤ 9223372036854775807 from by decide)⟩, .inl ⟨hb, by omega, by have := number_le g1; omega⟩, fun d hd => by
    have hd' : d.length = n1 := by have := hd hb; omega
    have ha : argsV r { ({ verb := r.verb, noreply := nr, keys := [] ++ [w0], metas := [] ++ fs } : CmdV) with data := d } = w0 :: decDigits n1 :: fs.map fun f => f.letter :: f.arg := by simp [argsV, hp, putV, hd']
    have h1 := number_short g1
    refine Nat.le_trans (Nat.le_of_eq (congrArg tails ha)) ?_
    simp only [tails]; omega⟩
theorem inv_shape_KFTN (hp : r.places = [75, 70, 84, 78]) (hl : r.least = 4) (hm : r.more = false) (hb : r.block = true) (h15 : r.verb ≠ 15) (hnr : nr = true → r.noreply = true) (hne : ∀ w ∈ ws, w ≠ []) (hlo : r.least ≤ ws.length) (hhi : ws.length ≤ r.places.length ∨ r.more = true)
    (hw : wordsAt r.places 0 { verb := r.verb, noreply := nr } (-1) ws = .ok (c, n)) : InvOut r nr ws c n := by
  rw [hp] at hw
  rw [hl] at hlo
  replace hhi : ws.length ≤ 4 := by rcases hhi with h | h; (rw [hp] at h; exact h); (rw [hm] at h; cases h)
  rcases ws with _ | ⟨w0, _ | ⟨w1, _ | ⟨w2, _ | ⟨w3, _ | ⟨w4, t⟩⟩⟩⟩⟩
  · simp at hlo
  · simp at hlo
  · simp at hlo
  · simp at hlo
  · obtain ⟨c0, b0, h0, hw⟩ := step_ok hw
    change wordAt _ _ 75 _ = _ at h0
    obtain ⟨g0, rfl, rfl⟩ := inv_K h0
    obtain ⟨c1, b1, h1, hw⟩ := step_ok hw
    change wordAt _ _ 70 _ = _ at h1
    obtain ⟨n1, g1, rfl, rfl⟩ := inv_F h1
    obtain ⟨c2, b2, h2, hw⟩ := step_ok hw
    change wordAt _ _ 84 _ = _ at h2
    obtain ⟨n2, g2, rfl, rfl⟩ := inv_T h2
    obtain ⟨c3, b3, h3, hw⟩ := step_ok hw
    change wordAt _ _ 78 _ = _ at h3
    obtain ⟨n3, g3, rfl, rfl⟩ := inv_N h3
    obtain ⟨rfl, rfl⟩ := step_end hw
    exact ⟨rfl, rfl, rfl, rfl, { keyed1 := fun _ => by simp, keyed0 := fun h => absurd (by rw [hp]; decide) h, one := fun _ => by simp, keys := (fun k hk => by rw [show k = w0 from by simpa using hk]; exact legal_keyV g0 (hne _ (by simp))), flags := number_le g1, flags0 := fun h => absurd (by rw [hp]; decide) h, time0 := fun h => absurd (by rw [hp]; decide) h, token0 := fun _ => rfl, delta0 := fun _ => rfl, metas0 := fun _ => rfl, metas := rfl, what0 := fun _ => rfl, what := fun h => absurd rfl h, flush := fun e => absurd e h15, nr := hnr, data0 := fun _ => rfl }, ⟨Nat.zero_le _, Nat.zero_le _, timeOf_bounds g2⟩, .inl ⟨hb, by omega, by have := number_le g3; omega⟩, fun d hd => by
      have hd' : d.length = n3 := by have := hd hb; omega
      have s1 := number_short g1
      have s2 := time_short g2
      have s3 := number_short g3
      have ha : argsV r { ({ verb := r.verb, noreply := nr, keys := [] ++ [w0], flags := n1, exptime := n2 } : CmdV) with data := d } = [w0, decDigits n1, itoa n2, decDigits n3] := by simp [argsV, hp, putV, hd']
      refine Nat.le_trans (Nat.le_of_eq (congrArg tails ha)) ?_
      simp only [tails]; omega⟩
  · simp at hhi
end

/-- what is told of a line: it may be written, and no longer than it was -/
theorem line_may {l : Bs} {c : CmdV} {n : Int} (h : lineOf l = .ok c n) : 1 ≤ c.verb ∧ c.verb ≤ 24 ∧ c.data = [] ∧ c.large = false ∧ MayR (rowBy c.verb) c ∧ Range c ∧
    (((rowBy c.verb).block = true ∧ 0 ≤ n ∧ n ≤ 2147483647) ∨ ((rowBy c.verb).block = false ∧ n = -1)) ∧
    ∀ d : Bs, ((rowBy c.verb).block = true → (d.length : Int) = n) → (join (partsV (rowBy c.verb) (wordBy c.verb) { c with data := d }) [32]).length ≤ 2048 := by
  unfold lineOf at h
  split at h
  · cases h
  · rename_i hlen
    cases hws : wordsOf l with
    | nil => rw [hws] at h; cases h
    | cons v ws =>
      rw [hws] at h
      dsimp only at h
      cases hr : rowOf v with
      | none => rw [hr] at h; cases h
      | some r =>
        rw [hr] at h
        dsimp only at h
        obtain ⟨e1, e2, e3, e4⟩ := rowOf_some hr
        have hne : ∀ w ∈ v :: ws, w ≠ [] := fun w hw => (wordsOf_mem (by rw [hws]; exact hw)).1
        obtain ⟨nr, hnr⟩ : ∃ nr, nr = isNoreply r ws := ⟨_, rfl⟩
        obtain ⟨ar, has⟩ : ∃ ar, ar = (if isNoreply r ws then ws.dropLast else ws) := ⟨_, rfl⟩
        have hsub : ∀ w ∈ ar, w ≠ [] := fun w hw => hne w (List.mem_cons_of_mem _ (by
          rw [has] at hw
          split at hw
          · exact List.dropLast_subset _ hw
          · exact hw))
        have hn1 : nr = true → r.noreply = true := fun e => by
          rw [hnr] at e; unfold isNoreply at e; simp only [Bool.and_eq_true] at e; exact e.1.1
        have htl : tails ar + tails (if nr = true then [noreplyW] else []) ≤ tails ws := by
          rw [has, ← hnr]
          cases hc : nr with
          | false => simp [tails]
          | true =>
            rw [hnr] at hc
            unfold isNoreply at hc
            simp only [Bool.and_eq_true, beq_iff_eq] at hc
            have hl := hc.2
            have hw : ws = ws.dropLast ++ [noreplyW] := by
              have hne' : ws ≠ [] := fun e => by rw [e] at hl; simp at hl
              rw [List.getLast?_eq_some_getLast hne'] at hl
              injection hl with hl
              conv => lhs; rw [← List.dropLast_concat_getLast hne', hl]
            simp only [if_true]
            conv => rhs; rw [hw, tails_append]
            exact Nat.le_refl _
        unfold rest at h
        dsimp only at h
        rw [← has, ← hnr] at h
        split at h
        · cases h
        · rename_i hcnt
          have hlo : r.least ≤ ar.length := by
            rcases Nat.lt_or_ge ar.length r.least with h1 | h1
            · exact absurd (.inl h1) hcnt
            · exact h1
          have hhi : ar.length ≤ r.places.length ∨ r.more = true := by
            cases hm : r.more with
            | true => exact .inr rfl
            | false =>
              rcases Nat.lt_or_ge r.places.length ar.length with h1 | h1
              · exact absurd (.inr ⟨h1, hm⟩) hcnt
              · exact .inl h1
          cases hw : wordsAt r.places 0 { verb := r.verb, noreply := nr } (-1) ar with
          | error e => rw [hw] at h; cases h
          | ok y =>
            obtain ⟨c1, b1⟩ := y
            rw [hw] at h
            injection h with h1 h2
            subst h1; subst h2
            have hout : InvOut r nr ar c1 b1 := by
              have hv : r.verb = 1 ∨ r.verb = 2 ∨ r.verb = 3 ∨ r.verb = 4 ∨ r.verb = 5 ∨ r.verb = 6 ∨ r.verb = 7 ∨ r.verb = 8 ∨ r.verb = 9 ∨ r.verb = 10 ∨ r.verb = 11 ∨ r.verb = 12 ∨ r.verb = 13 ∨ r.verb = 14 ∨ r.verb = 15 ∨ r.verb = 16 ∨ r.verb = 17 ∨ r.verb = 18 ∨ r.verb = 19 ∨ r.verb = 20 ∨ r.verb = 21 ∨ r.verb = 22 ∨ r.verb = 23 ∨ r.verb = 24 := by omega
              rcases hv with e | e | e | e | e | e | e | e | e | e | e | e | e | e | e | e | e | e | e | e | e | e | e | e
              · have hx : r = rowBy 1 := by rw [← e1, e]
                exact inv_shape_K (by rw [hx]; rfl) (by rw [hx]; rfl) (by rw [hx]; rfl) (by rw [hx]; rfl) (by omega) hn1 hsub hlo hhi hw
              · have hx : r = rowBy 2 := by rw [← e1, e]
                exact inv_shape_K (by rw [hx]; rfl) (by rw [hx]; rfl) (by rw [hx]; rfl) (by rw [hx]; rfl) (by omega) hn1 hsub hlo hhi hw
              · have hx : r = rowBy 3 := by rw [← e1, e]
                exact inv_shape_TK (by rw [hx]; rfl) (by rw [hx]; rfl) (by rw [hx]; rfl) (by rw [hx]; rfl) (by omega) (by omega) hn1 hsub hlo hhi hw
              · have hx : r = rowBy 4 := by rw [← e1, e]
                exact inv_shape_TK (by rw [hx]; rfl) (by rw [hx]; rfl) (by rw [hx]; rfl) (by rw [hx]; rfl) (by omega) (by omega) hn1 hsub hlo hhi hw
              · have hx : r = rowBy 5 := by rw [← e1, e]
                exact inv_shape_KFTN (by rw [hx]; rfl) (by rw [hx]; rfl) (by rw [hx]; rfl) (by rw [hx]; rfl) (by omega) hn1 hsub hlo hhi hw
              · have hx : r = rowBy 6 := by rw [← e1, e]
                exact inv_shape_KFTN (by rw [hx]; rfl) (by rw [hx]; rfl) (by rw [hx]; rfl) (by rw [hx]; rfl) (by omega) hn1 hsub hlo hhi hw
              · have hx : r = rowBy 7 := by rw [← e1, e]
                exact inv_shape_KFTN (by rw [hx]; rfl) (by rw [hx]; rfl) (by rw [hx]; rfl) (by rw [hx]; rfl) (by omega) hn1 hsub hlo hhi hw
              · have hx : r = rowBy 8 := by rw [← e1, e]
                exact inv_shape_KFTN (by rw [hx]; rfl) (by rw [hx]; rfl) (by rw [hx]; rfl) (by rw [hx]; rfl) (by omega) hn1 hsub hlo hhi hw
              · have hx : r = rowBy 9 := by rw [← e1, e]
                exact inv_shape_KFTN (by rw [hx]; rfl) (by rw [hx]; rfl) (by rw [hx]; rfl) (by rw [hx]; rfl) (by omega) hn1 hsub hlo hhi hw
              · have hx : r = rowBy 10 := by rw [← e1, e]
                exact inv_shape_KFTNC (by rw [hx]; rfl) (by rw [hx]; rfl) (by rw [hx]; rfl) (by rw [hx]; rfl) (by omega) hn1 hsub hlo hhi hw
              · have hx : r = rowBy 11 := by rw [← e1, e]
                exact inv_shape_K0 (by rw [hx]; rfl) (by rw [hx]; rfl) (by rw [hx]; rfl) (by rw [hx]; rfl) hn1 hsub hlo hhi hw
              · have hx : r = rowBy 12 := by rw [← e1, e]
                exact inv_shape_KD (by rw [hx]; rfl) (by rw [hx]; rfl) (by rw [hx]; rfl) (by rw [hx]; rfl) hn1 hsub hlo hhi hw
              · have hx : r = rowBy 13 := by rw [← e1, e]
                exact inv_shape_KD (by rw [hx]; rfl) (by rw [hx]; rfl) (by rw [hx]; rfl) (by rw [hx]; rfl) hn1 hsub hlo hhi hw
              · have hx : r = rowBy 14 := by rw [← e1, e]
                exact inv_shape_KT (by rw [hx]; rfl) (by rw [hx]; rfl) (by rw [hx]; rfl) (by rw [hx]; rfl) (by omega) hn1 hsub hlo hhi hw
              · have hx : r = rowBy 15 := by rw [← e1, e]
                exact inv_shape_S (by rw [hx]; rfl) (by rw [hx]; rfl) (by rw [hx]; rfl) (by rw [hx]; rfl) hn1 hsub hlo hhi hw
              · have hx : r = rowBy 16 := by rw [← e1, e]
                exact inv_shape_E (by rw [hx]; rfl) (by rw [hx]; rfl) (by rw [hx]; rfl) (by rw [hx]; rfl) hn1 hsub hlo hhi hw
              · have hx : r = rowBy 17 := by rw [← e1, e]
                exact inv_shape_V (by rw [hx]; rfl) (by rw [hx]; rfl) (by rw [hx]; rfl) (by rw [hx]; rfl) hn1 hsub hlo hhi hw
              · have hx : r = rowBy 18 := by rw [← e1, e]
                exact inv_shape_E (by rw [hx]; rfl) (by rw [hx]; rfl) (by rw [hx]; rfl) (by rw [hx]; rfl) hn1 hsub hlo hhi hw
              · have hx : r = rowBy 19 := by rw [← e1, e]
                exact inv_shape_W (by rw [hx]; rfl) (by rw [hx]; rfl) (by rw [hx]; rfl) (by rw [hx]; rfl) e hn1 hsub hlo hhi hw
              · have hx : r = rowBy 20 := by rw [← e1, e]
                exact inv_shape_KG (by rw [hx]; rfl) (by rw [hx]; rfl) (by rw [hx]; rfl) (by rw [hx]; rfl) hn1 hsub hlo hhi hw
              · have hx : r = rowBy 21 := by rw [← e1, e]
                exact inv_shape_KNG (by rw [hx]; rfl) (by rw [hx]; rfl) (by rw [hx]; rfl) (by rw [hx]; rfl) hn1 hsub hlo hhi hw
              · have hx : r = rowBy 22 := by rw [← e1, e]
                exact inv_shape_KG (by rw [hx]; rfl) (by rw [hx]; rfl) (by rw [hx]; rfl) (by rw [hx]; rfl) hn1 hsub hlo hhi hw
              · have hx : r = rowBy 23 := by rw [← e1, e]
                exact inv_shape_KG (by rw [hx]; rfl) (by rw [hx]; rfl) (by rw [hx]; rfl) (by rw [hx]; rfl) hn1 hsub hlo hhi hw
              · have hx : r = rowBy 24 := by rw [← e1, e]
                exact inv_shape_E (by rw [hx]; rfl) (by rw [hx]; rfl) (by rw [hx]; rfl) (by rw [hx]; rfl) hn1 hsub hlo hhi hw
            obtain ⟨o1, o2, o3, o4, o5, o6, o7, o8⟩ := hout
            rw [show rowBy c1.verb = r from by rw [o1, e1], show wordBy c1.verb = v from by rw [o1, e2]]
            refine ⟨by omega, by omega, o3, o4, o5, o6, o7, fun d hd => ?_⟩
            have h8 := o8 d hd
            have hj := join_tails (partsV r v { c1 with data := d }) (by rw [parts_args]; simp)
            have ht := tails_words l []
            have hw' : wordsGo l [] = v :: ws := hws
            rw [hw'] at ht
            rw [parts_args] at hj ⊢
            simp only [tails, tails_append, List.length_nil] at hj ht
            have hnv : nrV ({ c1 with data := d } : CmdV) = (if nr = true then [noreplyW] else []) := by unfold nrV; rw [← o2]
            rw [hnv] at hj ⊢
            omega
end Go.Proofs.YthgfjafnclklpaaGreatDoor
end
section
namespace Go.Proofs.YthgfjafnclklpaaGreatDoor
open Go.Lib Sp

theorem again_one {c : CmdV} (h : againV c = true) : ∃ t, oneV c.data.length (outV c) = some (t, (outV c).length) ∧ t.cmd = c := by
  unfold againV allV at h
  cases ho : oneV c.data.length (outV c) with
  | none => rw [ho] at h; simp at h
  | some y =>
    obtain ⟨t, n⟩ := y
    rw [ho] at h
    dsimp only at h
    have key : t.cmd = c ∧ n = (outV c).length := by
      by_cases hv : t.cmd.verb = 18
      · rw [if_pos hv] at h
        simp only [decide_true, Bool.true_and, Bool.and_eq_true, decide_eq_true_eq] at h
        exact ⟨h.1, by have h2 : 0 + n = _ := h.2; omega⟩
      · rw [if_neg hv] at h
        generalize (allV c.data.length (outV c).length (0 + n) ((outV c).drop n)).1 = r at h
        generalize (allV c.data.length (outV c).length (0 + n) ((outV c).drop n)).2 = q at h
        cases r with
        | nil =>
          simp only [Bool.and_eq_true, decide_eq_true_eq] at h
          exact ⟨h.1.2, by have h2 : 0 + n = _ := h.2; omega⟩
        | cons => simp at h
    exact ⟨t, by rw [key.2], key.1⟩

/-- commands one behind the other, as steps -/
def backSteps : Nat → List CmdV → List StepV
  | _, [] => []
  | a, c :: t => ({ cmd := c } : StepV).span a (a + (outV c).length) :: backSteps (a + (outV c).length) t
/-- where the i-th one ends -/
def backEnd (cs : List CmdV) (i : Nat) : Nat := ((cs.take i).flatMap outV).length
end Go.Proofs.YthgfjafnclklpaaGreatDoor
end
section
namespace Go.Proofs.YthgfjafnclklpaaGreatDoor
open Go.Lib Sp

theorem words_solid : ∀ v : Fin 24, wordBy (v.val + 1) ≠ [] ∧ (wordBy (v.val + 1)).all (fun x => decide (32 < x.toNat)) = true := by decide
theorem word_solid {v : Nat} (h1 : 1 ≤ v) (h2 : v ≤ 24) : Solid (wordBy v) := by
  have := words_solid ⟨v - 1, by omega⟩
  simp only [show v - 1 + 1 = v by omega] at this
  exact ⟨this.1, fun x hx => by simpa using List.all_eq_true.1 this.2 x hx⟩
theorem solid_one : Solid [49] := ⟨by decide, by decide⟩
theorem solid_slabs : Solid slabsW := ⟨by decide, by decide⟩
theorem solid_reset : Solid resetW := ⟨by decide, by decide⟩
theorem solid_noreply : Solid noreplyW := ⟨by decide, by decide⟩
theorem args_solid {r : RowV} {c : CmdV} (h : MayR r c) (hg : Range c) : ∀ p ∈ argsV r c, Solid p := by
  intro p hp
  obtain ⟨k, _, hp⟩ := List.mem_flatMap.1 hp
  unfold putV at hp
  by_cases k0 : k = 75
  · rw [if_pos k0] at hp
    exact key_solid (h.keys p hp)
  rw [if_neg k0] at hp
  by_cases k1 : k = 71
  · rw [if_pos k1] at hp
    obtain ⟨f, hf, rfl⟩ := List.mem_map.1 hp
    obtain ⟨ah, h2⟩ := flagsGo_mem c.verb _ [] h.metas f hf
    exact (flag_good h2).1
  rw [if_neg k1] at hp
  by_cases k2 : k = 70
  · rw [if_pos k2] at hp
    rw [List.mem_singleton.1 hp]; exact dec_solid _
  rw [if_neg k2] at hp
  by_cases k3 : k = 78
  · rw [if_pos k3] at hp
    rw [List.mem_singleton.1 hp]; exact dec_solid _
  rw [if_neg k3] at hp
  by_cases k4 : k = 86
  · rw [if_pos k4] at hp
    rw [List.mem_singleton.1 hp]; exact solid_one
  rw [if_neg k4] at hp
  by_cases k5 : k = 67
  · rw [if_pos k5] at hp
    rw [List.mem_singleton.1 hp]; exact dec_solid _
  rw [if_neg k5] at hp
  by_cases k6 : k = 68
  · rw [if_pos k6] at hp
    rw [List.mem_singleton.1 hp]; exact dec_solid _
  rw [if_neg k6] at hp
  by_cases k7 : k = 84
  · rw [if_pos k7] at hp
    rw [List.mem_singleton.1 hp]; exact itoa_solid hg.time.1 hg.time.2
  rw [if_neg k7] at hp
  by_cases k8 : k = 83
  · rw [if_pos k8] at hp
    by_cases he : c.exptime = 0
    · rw [if_pos he] at hp; cases hp
    · rw [if_neg he] at hp
      rw [List.mem_singleton.1 hp]; exact itoa_solid hg.time.1 hg.time.2
  rw [if_neg k8] at hp
  by_cases k9 : k = 87
  · rw [if_pos k9] at hp
    by_cases hw : c.what = []
    · rw [if_pos hw] at hp; cases hp
    · rw [if_neg hw] at hp
      rw [List.mem_singleton.1 hp]
      rcases h.what hw with e | e
      · rw [e]; exact solid_slabs
      · rw [e]; exact solid_reset
  rw [if_neg k9] at hp
  cases hp
theorem parts_solid {c : CmdV} (h1 : 1 ≤ c.verb) (h2 : c.verb ≤ 24) (h : MayR (rowBy c.verb) c) (hg : Range c) : ∀ p ∈ partsV (rowBy c.verb) (wordBy c.verb) c, Solid p := by
  intro p hp
  rw [parts_args] at hp
  rcases List.mem_cons.1 hp with rfl | hp
  · exact word_solid h1 h2
  · rcases List.mem_append.1 hp with hp | hp
    · exact args_solid h hg p hp
    · unfold nrV at hp
      split at hp
      · rw [List.mem_singleton.1 hp]; exact solid_noreply
      · cases hp

theorem indexOf_at : ∀ (a b : Bs), (∀ x ∈ a, x ≠ 10) → indexOf (a ++ 10 :: b) 10 = some a.length
  | [], b, _ => by simp [indexOf, List.findIdx?_cons]
  | x :: t, b, h => by
    rw [List.cons_append, indexOf_cons, if_neg (h x (by simp)), indexOf_at t b (fun y hy => h y (by simp [hy]))]
    rfl
theorem chop_cr (a : Bs) : chop (a ++ [13]) = a := by simp [chop]

/-- the line of a command -/
def lineV (c : CmdV) : Bs := join (partsV (rowBy c.verb) (wordBy c.verb) c) [32]
theorem outV_line (c : CmdV) : outV c = (lineV c ++ [13]) ++ 10 :: (if (rowBy c.verb).block then c.data ++ [13, 10] else []) := by
  unfold outV lineV
  simp

/-- what is written is read -/
theorem oneV_written {lim : Nat} {c : CmdV} (h1 : 1 ≤ c.verb) (h2 : c.verb ≤ 24) (hl : c.large = false) (h : MayR (rowBy c.verb) c) (hg : Range c) (hd : c.data.length ≤ 2147483647) (hlen : (lineV c).length ≤ 2048) (hlim : c.data.length ≤ lim) :
    oneV lim (outV c) = some ({ cmd := c }, (outV c).length) := by
  have hs := parts_solid h1 h2 h hg
  have hb := join_bytes _ hs
  have h10 : ∀ x ∈ lineV c ++ [13], x ≠ 10 := fun x hx e => by
    rcases List.mem_append.1 hx with hx | hx
    · have := hb x hx; subst e; exact absurd this (by decide)
    · rw [List.mem_singleton.1 hx] at e; exact absurd e (by decide)
  have hline : lineOf (lineV c) = .ok { c with data := [], large := false } (if (rowBy c.verb).block = true then (c.data.length : Int) else -1) := by
    unfold lineOf
    rw [if_neg (by omega)]
    have hw : wordsOf (lineV c) = wordBy c.verb :: (argsV (rowBy c.verb) c ++ nrV c) := words_join _ hs
    rw [hw]
    dsimp only
    rw [rowOf_word h1 h2]
    exact rest_may h1 h2 h hg hd
  have hlo : (outV c).length = (lineV c ++ [13]).length + 1 + (if (rowBy c.verb).block then c.data ++ [13, 10] else []).length := by
    rw [outV_line, List.length_append, List.length_cons]; omega
  have e1 : ((lineV c ++ [13]) ++ 10 :: (if (rowBy c.verb).block then c.data ++ [13, 10] else [])).take (lineV c ++ [13]).length = lineV c ++ [13] := List.take_left
  have e2 : ((lineV c ++ [13]) ++ 10 :: (if (rowBy c.verb).block then c.data ++ [13, 10] else [])).drop ((lineV c ++ [13]).length + 1) = (if (rowBy c.verb).block then c.data ++ [13, 10] else []) := by
    rw [← List.drop_drop, List.drop_left]; rfl
  rw [hlo]
  unfold oneV
  rw [outV_line, indexOf_at _ _ h10]
  dsimp only
  rw [e1, e2, chop_cr, hline]
  cases hbk : (rowBy c.verb).block with
  | false =>
    have hdn := h.data0 hbk
    dsimp only
    simp only [Bool.false_eq_true, if_false]
    rw [if_pos (by decide)]
    have : ({ c with data := [], large := false } : CmdV) = c := by
      cases c; simp only at hdn hl; subst hdn; subst hl; rfl
    rw [this]
    rfl
  | true =>
    dsimp only
    rw [if_pos rfl, if_pos rfl, if_neg (by omega)]
    have hsk : skipV (c.data ++ [13, 10]) c.data.length = some (c.data.length + 2, true) := by
      unfold skipV
      rw [if_neg (by simp), List.drop_left]
      rfl
    rw [Int.toNat_natCast, hsk, Option.map_some, if_neg (by omega), if_pos rfl]
    have e3 : (c.data ++ [13, 10]).take c.data.length = c.data := List.take_left
    rw [e3]
    have : ({ c with data := c.data, large := false } : CmdV) = c := by
      cases c; simp only at hl; subst hl; rfl
    rw [this]
    simp

/-- what is told may be written -/
theorem one_told {lim : Nat} {l : Bs} {t : StepV} {n : Nat} (h : oneV lim l = some (t, n)) (hv : t.cmd.verb ≠ 0) :
    1 ≤ t.cmd.verb ∧ t.cmd.verb ≤ 24 ∧ MayR (rowBy t.cmd.verb) t.cmd ∧ Range t.cmd ∧ t.cmd.data.length ≤ 2147483647 ∧ t.wrong = {} ∧ (t.cmd.large = false → (lineV t.cmd).length ≤ 2048) ∧
      (t.cmd.large = true → t.cmd.data = [] ∧ (rowBy t.cmd.verb).block = true) ∧ (t.cmd.data ≠ [] → t.cmd.data.length + 2 ≤ n ∧ t.cmd.data = (l.drop (n - 2 - t.cmd.data.length)).take t.cmd.data.length) := by
  unfold oneV at h
  cases he : indexOf l 10 with
  | none => rw [he] at h; cases h
  | some e =>
    rw [he] at h
    dsimp only at h
    cases hr : lineOf (chop (l.take e)) with
    | bad w =>
      exfalso
      rw [hr] at h
      dsimp only at h
      split at h
      · obtain ⟨y, _, hy⟩ := Option.map_eq_some_iff.1 h
        injection hy with hy _
        subst hy; exact hv rfl
      · injection h with h; injection h with h _
        subst h; exact hv rfl
    | ok c k =>
      rw [hr] at h
      dsimp only at h
      obtain ⟨m1, m2, m3, m4, m5, m6, m7, m8⟩ := line_may hr
      split at h
      · rename_i hk
        injection h with h; injection h with g1 g2
        subst g1
        have hb : (rowBy c.verb).block = false := by
          rcases m7 with ⟨_, h0, _⟩ | ⟨h0, _⟩
          · omega
          · exact h0
        refine ⟨m1, m2, m5, m6, by dsimp only; rw [m3]; simp, rfl, fun _ => ?_, (fun hx => by dsimp only at hx; rw [m4] at hx; cases hx), (fun hx => absurd m3 hx)⟩
        have hc : ({ c with data := [] } : CmdV) = c := by cases c; simp only at m3; subst m3; rfl
        have := m8 [] (fun hx => by rw [hb] at hx; cases hx)
        rw [hc] at this
        exact this
      · rename_i hk
        obtain ⟨y, hy, h⟩ := Option.map_eq_some_iff.1 h
        injection h with g1 g2
        have hb : (rowBy c.verb).block = true ∧ 0 ≤ k ∧ k ≤ 2147483647 := by
          rcases m7 with h0 | ⟨_, h0⟩
          · exact h0
          · omega
        by_cases q1 : (lim : Int) < k
        · rw [if_pos q1] at g1
          subst g1
          exact ⟨m1, m2, ⟨m5.keyed1, m5.keyed0, m5.one, m5.keys, m5.flags, m5.flags0, m5.time0, m5.token0, m5.delta0, m5.metas0, m5.metas, m5.what0, m5.what, m5.flush, m5.nr, m5.data0⟩, ⟨m6.token, m6.delta, m6.time⟩,
            by dsimp only; rw [m3]; simp, rfl, (fun hx => by cases hx), fun _ => ⟨m3, hb.1⟩, (fun hx => absurd m3 hx)⟩
        · rw [if_neg q1] at g1
          by_cases q2 : y.2 = true
          · rw [if_pos q2] at g1
            subst g1
            obtain ⟨s1, s2⟩ := skipV_some (m := y.1) (g := y.2) hy
            have hdl : ((l.drop (e + 1)).take k.toNat).length = k.toNat := by rw [List.length_take]; omega
            have hy1 : y.1 = k.toNat + 2 := by
              have hy' := hy
              unfold skipV at hy'
              rw [if_neg (by omega)] at hy'
              split at hy'
              · injection hy' with hy'; rw [← hy']
              · split at hy'
                · cases hy'
                · obtain ⟨hh⟩ : ∃ _ : True, True := ⟨trivial, trivial⟩
                  split at hy'
                  · cases hy'
                  · injection hy' with hy'; rw [← hy'] at q2; cases q2
            refine ⟨m1, m2, ⟨m5.keyed1, m5.keyed0, m5.one, m5.keys, m5.flags, m5.flags0, m5.time0, m5.token0, m5.delta0, m5.metas0, m5.metas, m5.what0, m5.what, m5.flush, m5.nr, fun hx => by rw [hb.1] at hx; cases hx⟩, ⟨m6.token, m6.delta, m6.time⟩,
              by dsimp only; rw [hdl]; omega, rfl, fun _ => ?_, (fun hx => by dsimp only at hx; rw [m4] at hx; cases hx), fun _ => ?_⟩
            · exact m8 _ (fun _ => by rw [hdl]; omega)
            · dsimp only
              rw [hdl]
              refine ⟨by omega, ?_⟩
              rw [show n - 2 - k.toNat = e + 1 by omega]
          · rw [if_neg q2] at g1
            subst g1; exact absurd rfl hv

theorem again_may {c : CmdV} (h1 : 1 ≤ c.verb) (h2 : c.verb ≤ 24) (hl : c.large = false) (h : MayR (rowBy c.verb) c) (hg : Range c) (hd : c.data.length ≤ 2147483647) (hlen : (lineV c).length ≤ 2048) : againV c = true := by
  have ho := oneV_written (lim := c.data.length) h1 h2 hl h hg hd hlen (Nat.le_refl _)
  unfold againV allV
  rw [ho]
  dsimp only
  by_cases hv : c.verb = 18
  · rw [if_pos hv]
    simp [StepV.span]
  · rw [if_neg hv]
    have hn : (outV c).drop (outV c).length = [] := List.drop_length
    rw [hn, Nat.zero_add]
    have hpos : ∃ k, (outV c).length = k + 1 := ⟨(outV c).length - 1, by rw [outV_line]; simp; omega⟩
    obtain ⟨k, hk⟩ := hpos
    have h0 : allV c.data.length (outV c).length (outV c).length [] = ([], 0) := by
      rw [hk]
      unfold allV
      rw [show oneV c.data.length [] = none from by unfold oneV indexOf; rfl]
      rfl
    rw [h0]
    simp [StepV.span]
theorem again_iff {c : CmdV} (h1 : 1 ≤ c.verb) (h2 : c.verb ≤ 24) (hl : c.large = false) (hg : Range c) :
    againV c = true ↔ MayR (rowBy c.verb) c ∧ c.data.length ≤ 2147483647 ∧ (lineV c).length ≤ 2048 := by
  constructor
  · intro h
    obtain ⟨t, ho, ht⟩ := again_one h
    have hv : t.cmd.verb ≠ 0 := by rw [ht]; omega
    obtain ⟨_, _, k1, _, k2, _, k3, _, _⟩ := one_told ho hv
    rw [ht] at k1 k2 k3
    exact ⟨k1, k2, k3 hl⟩
  · rintro ⟨k1, k2, k3⟩
    exact again_may h1 h2 hl k1 hg k2 k3
end Go.Proofs.YthgfjafnclklpaaGreatDoor
end
end
section
namespace Go.Proofs.YthgfjafnclklpaaGreatDoor
open Go.Lib Sp

/-- words, each behind a blank -/
def segs (ps : List Bs) : Bs := ps.flatMap fun p => 32 :: p
theorem segs_cons (p : Bs) (ps : List Bs) : segs (p :: ps) = 32 :: p ++ segs ps := by simp [segs]
theorem segs_append (a b : List Bs) : segs (a ++ b) = segs a ++ segs b := by simp [segs]
theorem segs_succ {ps : List Bs} {k : Nat} {p : Bs} (h : ps[k]? = some p) : segs (ps.take (k + 1)) = segs (ps.take k) ++ ([32] ++ p) := by
  rw [List.take_add_one, h, segs_append]
  simp [segs]
theorem joinTail_segs : ∀ (ps : List Bs), joinTail [32] ps = segs ps
  | [] => by simp [joinTail, segs]
  | p :: r => by rw [joinTail_cons, joinTail_segs r, segs_cons]; rfl
/-- what a letter of the row puts into the line -/
def segV (c : CmdV) (k : UInt8) : Bs := segs (putV c k)
/-- the line up to a letter of the row -/
def lineUp (c : CmdV) (i : Nat) : Bs := wordBy c.verb ++ segs (((rowBy c.verb).places.take i).flatMap (putV c))
theorem lineUp_zero (c : CmdV) : lineUp c 0 = wordBy c.verb := by simp [lineUp, segs]
theorem lineUp_succ {c : CmdV} {i : Nat} {k : UInt8} (h : (rowBy c.verb).places[i]? = some k) : lineUp c (i + 1) = lineUp c i ++ segV c k := by
  unfold lineUp segV
  rw [List.take_add_one, h, List.flatMap_append, segs_append, List.append_assoc]
  simp
theorem lineV_up (c : CmdV) : lineV c = lineUp c (rowBy c.verb).places.length ++ segs (nrV c) := by
  unfold lineV lineUp
  rw [parts_args, join_cons, joinTail_segs, segs_append, List.take_length, List.append_assoc]
  rfl
theorem lineUp_le (c : CmdV) : ∀ (n i : Nat), (rowBy c.verb).places.length - i = n → i ≤ (rowBy c.verb).places.length → (lineUp c i).length ≤ (lineUp c (rowBy c.verb).places.length).length
  | 0, i, h, hi => by
    obtain rfl : i = (rowBy c.verb).places.length := by omega
    exact Nat.le_refl _
  | n + 1, i, h, hi => by
    have hk : i < (rowBy c.verb).places.length := by omega
    have := lineUp_le c n (i + 1) (by omega) hk
    rw [lineUp_succ (List.getElem?_eq_getElem hk), List.length_append] at this
    omega
/-- no text on the way is longer than the line -/
theorem lineUp_small (c : CmdV) {i : Nat} (hi : i ≤ (rowBy c.verb).places.length) : (lineUp c i).length ≤ (lineV c).length := by
  rw [lineV_up, List.length_append]
  have := lineUp_le c _ i rfl hi
  omega
theorem lineUp_seg {c : CmdV} {i : Nat} {k : UInt8} (h : (rowBy c.verb).places[i]? = some k) : (lineUp c i).length + (segV c k).length ≤ (lineV c).length := by
  have hi := (List.getElem?_eq_some_iff.1 h).1
  have := lineUp_small c (i := i + 1) (by omega)
  rw [lineUp_succ h, List.length_append] at this
  omega
theorem segs_take_le (ps : List Bs) (k : Nat) : (segs (ps.take k)).length ≤ (segs ps).length := by
  conv => rhs; rw [← List.take_append_drop k ps, segs_append, List.length_append]
  omega

/-- the document's checks -/
def chk1 (c : CmdV) : Bool := (decide (1 < c.keys.length) && decide (4 < c.verb)) || (decide (0 < c.keys.length) != (rowBy c.verb).places.contains 75)
def hasTime (c : CmdV) : Bool := (rowBy c.verb).places.contains 84 || (rowBy c.verb).places.contains 83
def chk2 (c : CmdV) : Bool := (((decide (4294967295 < c.flags) || (decide (0 < c.flags) && !(rowBy c.verb).places.contains 70)) || (decide (c.exptime ≠ 0) && !hasTime c)) || (decide (0 < c.token) && !(rowBy c.verb).places.contains 67)) || (decide (0 < c.delta) && !(rowBy c.verb).places.contains 68)
def chk3 (c : CmdV) : Bool := (decide (0 < c.metas.length) && !(rowBy c.verb).places.contains 71) || decide (flagsOf c.verb c.metas ≠ [])
def chk4 (c : CmdV) : Bool := decide (c.what ≠ []) && (decide (c.verb ≠ 19) || (decide (c.what ≠ slabsW) && decide (c.what ≠ resetW)))
def chk5 (c : CmdV) : Bool := (((decide (c.verb = 15) && decide (c.exptime < 0)) || (c.noreply && !(rowBy c.verb).noreply)) || (decide (0 < c.data.length) && !(rowBy c.verb).block)) || decide (2147483647 < c.data.length)
def mayB (c : CmdV) : Bool := !chk1 c && c.keys.all keyV && !chk2 c && !chk3 c && !chk4 c && !chk5 c && decide ((lineV c).length ≤ 2048)
theorem mayB_iff (c : CmdV) : mayB c = true ↔ MayR (rowBy c.verb) c ∧ c.data.length ≤ 2147483647 ∧ (lineV c).length ≤ 2048 := by
  have hc : ∀ k : UInt8, (rowBy c.verb).places.contains k = true ↔ k ∈ (rowBy c.verb).places := fun k => List.contains_iff_mem
  have hl : ∀ {α : Type} (l : List α), 0 < l.length ↔ l ≠ [] := fun l => List.length_pos_iff
  constructor
  · intro h
    simp only [mayB, Bool.and_eq_true, Bool.not_eq_true', decide_eq_true_eq, List.all_eq_true] at h
    obtain ⟨⟨⟨⟨⟨⟨h1, hk⟩, h2⟩, h3⟩, h4⟩, h5⟩, h6⟩ := h
    simp only [chk1, Bool.or_eq_false_iff, Bool.and_eq_false_iff, decide_eq_false_iff_not, bne_eq_false_iff_eq] at h1
    simp only [chk2, hasTime, Bool.or_eq_false_iff, Bool.and_eq_false_iff, decide_eq_false_iff_not, Bool.not_eq_false', Bool.or_eq_true, hc] at h2
    simp only [chk3, Bool.or_eq_false_iff, Bool.and_eq_false_iff, decide_eq_false_iff_not, Bool.not_eq_false', hc, hl] at h3
    simp only [chk4, Bool.or_eq_false_iff, Bool.and_eq_false_iff, decide_eq_false_iff_not] at h4
    simp only [chk5, Bool.or_eq_false_iff, Bool.and_eq_false_iff, decide_eq_false_iff_not, Bool.not_eq_false', hl] at h5
    obtain ⟨h11, h12⟩ := h1
    obtain ⟨⟨⟨⟨h20, h21⟩, h22⟩, h23⟩, h24⟩ := h2
    obtain ⟨h31, h32⟩ := h3
    obtain ⟨⟨⟨h51, h52⟩, h53⟩, h54⟩ := h5
    refine ⟨⟨?_, ?_, ?_, hk, ?_, ?_, ?_, ?_, ?_, ?_, ?_, ?_, ?_, ?_, ?_, ?_⟩, by omega, h6⟩
    · intro hm
      rw [← hc, ← h12, decide_eq_true_eq, hl] at hm
      exact hm
    · intro hm
      rw [← hc, ← h12, decide_eq_true_eq, hl] at hm
      exact Classical.not_not.1 hm
    · intro hv
      rcases h11 with h | h <;> omega
    · omega
    · intro hm
      rcases h21 with h | h
      · omega
      · exact absurd h hm
    · intro hm hm2
      rcases h22 with h | h
      · exact Classical.not_not.1 h
      · exact absurd h (fun h => h.elim hm hm2)
    · intro hm
      rcases h23 with h | h
      · omega
      · exact absurd h hm
    · intro hm
      rcases h24 with h | h
      · omega
      · exact absurd h hm
    · intro hm
      rcases h31 with h | h
      · exact Classical.not_not.1 h
      · exact absurd h hm
    · exact Classical.not_not.1 h32
    · intro hv
      rcases h4 with h | h
      · exact Classical.not_not.1 h
      · exact absurd hv h.1
    · intro hw
      rcases h4 with h | h
      · exact absurd hw h
      · rcases h.2 with h | h
        · exact .inl (Classical.not_not.1 h)
        · exact .inr (Classical.not_not.1 h)
    · intro hv
      rcases h51 with h | h
      · exact absurd hv h
      · omega
    · intro hn
      rcases h52 with h | h
      · rw [hn] at h; cases h
      · exact h
    · intro hb
      rcases h53 with h | h
      · exact Classical.not_not.1 h
      · rw [hb] at h; cases h
  · rintro ⟨h, hd, h6⟩
    simp only [mayB, Bool.and_eq_true, Bool.not_eq_true', decide_eq_true_eq, List.all_eq_true]
    refine ⟨⟨⟨⟨⟨⟨?_, h.keys⟩, ?_⟩, ?_⟩, ?_⟩, ?_⟩, h6⟩
    · simp only [chk1, Bool.or_eq_false_iff, Bool.and_eq_false_iff, decide_eq_false_iff_not, bne_eq_false_iff_eq]
      refine ⟨?_, ?_⟩
      · by_cases hv : 4 < c.verb
        · left; have := h.one hv; omega
        · exact .inr hv
      · rw [Bool.eq_iff_iff, decide_eq_true_eq, hc, hl]
        refine ⟨fun hk => Classical.not_not.1 fun hm => hk (h.keyed0 hm), h.keyed1⟩
    · simp only [chk2, hasTime, Bool.or_eq_false_iff, Bool.and_eq_false_iff, decide_eq_false_iff_not, Bool.not_eq_false', Bool.or_eq_true, hc]
      refine ⟨⟨⟨⟨by have := h.flags; omega, ?_⟩, ?_⟩, ?_⟩, ?_⟩
      · by_cases hm : (70 : UInt8) ∈ (rowBy c.verb).places
        · exact .inr hm
        · left; have := h.flags0 hm; omega
      · by_cases hm : (84 : UInt8) ∈ (rowBy c.verb).places
        · exact .inr (.inl hm)
        · by_cases hm2 : (83 : UInt8) ∈ (rowBy c.verb).places
          · exact .inr (.inr hm2)
          · left; have := h.time0 hm hm2; exact fun hn => hn this
      · by_cases hm : (67 : UInt8) ∈ (rowBy c.verb).places
        · exact .inr hm
        · left; have := h.token0 hm; omega
      · by_cases hm : (68 : UInt8) ∈ (rowBy c.verb).places
        · exact .inr hm
        · left; have := h.delta0 hm; omega
    · simp only [chk3, Bool.or_eq_false_iff, Bool.and_eq_false_iff, decide_eq_false_iff_not, Bool.not_eq_false', hc, hl]
      refine ⟨?_, fun hn => hn h.metas⟩
      by_cases hm : (71 : UInt8) ∈ (rowBy c.verb).places
      · exact .inr hm
      · left; exact fun hn => hn (h.metas0 hm)
    · simp only [chk4, Bool.or_eq_false_iff, Bool.and_eq_false_iff, decide_eq_false_iff_not]
      by_cases hw : c.what = []
      · left; exact fun hn => hn hw
      · right
        refine ⟨?_, ?_⟩
        · intro hv
          exact hw (h.what0 hv)
        · rcases h.what hw with e | e
          · left; exact fun hn => hn e
          · right; exact fun hn => hn e
    · simp only [chk5, Bool.or_eq_false_iff, Bool.and_eq_false_iff, decide_eq_false_iff_not, Bool.not_eq_false', hl]
      refine ⟨⟨⟨?_, ?_⟩, ?_⟩, by omega⟩
      · by_cases hv : c.verb = 15
        · right; have := h.flush hv; omega
        · exact .inl hv
      · cases hn : c.noreply with
        | false => exact .inl rfl
        | true => exact .inr (h.nr hn)
      · cases hb : (rowBy c.verb).block with
        | true => exact .inr rfl
        | false => left; exact fun hn => hn (h.data0 hb)
/-- what the document's May says is what reads again -/
theorem mayB_again {c : CmdV} (h1 : 1 ≤ c.verb) (h2 : c.verb ≤ 24) (hl : c.large = false) (hg : Range c) : mayB c = againV c := by
  rw [Bool.eq_iff_iff, mayB_iff, again_iff h1 h2 hl hg]

end Go.Proofs.YthgfjafnclklpaaGreatDoor
end
