/- Plain laws: the library's plain functions (fields, index of a rune, trim, numbers) against the plain model of package words. No program in sight. -/
import Derived.Test.YthgfjafnclklpaaGreatDoorSp
import Derived.Lib.FieldsP
import Derived.Lib.MapLaws
import Derived.Lib.TrimUEq
import Derived.Lib.ParseIntB
import Derived.Lib.SlTrimSet
import Derived.Shelf.GgClosure.StringsIndexFunc
namespace Go.Proofs.YthgfjafnclklpaaGreatDoor
open Go.Lib Sp

theorem bytes_size (s : ByteArray) : s.data.toList.length = s.size := (size_eq s).symm
theorem bytes_mk (s : ByteArray) : (⟨s.data.toList.toArray⟩ : ByteArray) = s := by cases s; simp
theorem dec_low (s : ByteArray) (pos : Nat) (hb : (s.data.toList.getD pos 0).toNat < 128) : Utf8.decode s pos = ((s.data.toList.getD pos 0).toNat, 1) := by
  rw [decode_N, decodeN_ascii _ _ _ _ _ hb]

theorem dec_high (s : ByteArray) (pos : Nat) (h : pos < s.size) (hb : 128 ≤ (s.data.toList.getD pos 0).toNat) :
    128 ≤ (Utf8.decode s pos).1 ∧ 1 ≤ (Utf8.decode s pos).2 ∧ pos + (Utf8.decode s pos).2 ≤ s.size ∧ ∀ j, pos ≤ j → j < pos + (Utf8.decode s pos).2 → 128 ≤ (s.data.toList.getD j 0).toNat := by
  have hl : s.data.toList.length = s.size := bytes_size s
  rw [decode_N]
  rcases decodeN_shape (s.data.toList.length - pos) (s.data.toList.getD pos 0).toNat (s.data.toList.getD (pos + 1) 0).toNat (s.data.toList.getD (pos + 2) 0).toNat (s.data.toList.getD (pos + 3) 0).toNat with ⟨c, e⟩ | ⟨c1, c2, c3, cv, e⟩ | ⟨c1, c2, c3, c4, cv, cs, e⟩ | ⟨c1, c2, c3, c4, c5, cv, cw, e⟩ | e
  · omega
  · rw [e]
    refine ⟨cv, by dsimp only; omega, by dsimp only; omega, fun j h1 h2 => ?_⟩
    dsimp only at h2
    have : j = pos ∨ j = pos + 1 := by omega
    rcases this with rfl | rfl <;> omega
  · rw [e]
    refine ⟨by dsimp only; omega, by dsimp only; omega, by dsimp only; omega, fun j h1 h2 => ?_⟩
    dsimp only at h2
    have : j = pos ∨ j = pos + 1 ∨ j = pos + 2 := by omega
    rcases this with rfl | rfl | rfl <;> omega
  · rw [e]
    refine ⟨by dsimp only; omega, by dsimp only; omega, by dsimp only; omega, fun j h1 h2 => ?_⟩
    dsimp only at h2
    have : j = pos ∨ j = pos + 1 ∨ j = pos + 2 ∨ j = pos + 3 := by omega
    rcases this with rfl | rfl | rfl | rfl <;> omega
  · rw [e]
    refine ⟨by decide, by decide, by dsimp only; omega, fun j h1 h2 => ?_⟩
    dsimp only at h2
    obtain rfl : j = pos := by omega
    exact hb

theorem drop_cons {l : List UInt8} {pos : Nat} (h : pos < l.length) : l.drop pos = l.getD pos 0 :: l.drop (pos + 1) := by
  rw [List.drop_eq_getElem_cons h]
  simp [List.getD, h]

theorem mem_take_drop {l : List UInt8} {pos n : Nat} {x : UInt8} (h : x ∈ (l.drop pos).take n) : ∃ j, pos ≤ j ∧ j < pos + n ∧ j < l.length ∧ l.getD j 0 = x := by
  obtain ⟨i, hi, hx⟩ := List.mem_iff_getElem.1 h
  simp only [List.length_take, List.length_drop] at hi
  refine ⟨pos + i, by omega, by omega, by omega, ?_⟩
  rw [← hx]
  have : pos + i < l.length := by omega
  simp [List.getD, this]

/-- the rune is no byte of a key -/
def offKey (c : Nat) : Bool := decide ((c : Int) ≤ 32) || decide ((c : Int) = 127)
theorem offKey_low (c : UInt8) : offKey c.toNat = !keyByte c := by
  unfold offKey keyByte
  by_cases h1 : c.toNat ≤ 32
  · have h2 : ((c.toNat : Nat) : Int) ≤ 32 := by omega
    have h3 : ¬ 32 < c.toNat := by omega
    simp [h2, h3]
  · have h2 : ¬ ((c.toNat : Nat) : Int) ≤ 32 := by omega
    have h3 : 32 < c.toNat := by omega
    by_cases h4 : c.toNat = 127
    · have h5 : ((c.toNat : Nat) : Int) = 127 := by omega
      simp [h4]
    · have h5 : ¬ ((c.toNat : Nat) : Int) = 127 := by omega
      simp [h2, h3, h4, h5]
theorem offKey_high (c : Nat) (h : 128 ≤ c) : offKey c = false := by
  unfold offKey
  have h2 : ¬ ((c : Nat) : Int) ≤ 32 := by omega
  have h5 : ¬ ((c : Nat) : Int) = 127 := by omega
  simp [h2, h5]
theorem keyByte_high (c : UInt8) (h : 128 ≤ c.toNat) : keyByte c = true := by
  unfold keyByte
  simp; omega

theorem idx_all (s : ByteArray) : ∀ (f pos : Nat), s.size ≤ pos + f → (decide (idxFuncFrom offKey true s f pos < 0)) = (s.data.toList.drop pos).all keyByte
  | 0, pos, h => by
    rw [List.drop_eq_nil_of_le (by rw [bytes_size]; omega)]
    simp [idxFuncFrom]
  | f + 1, pos, h => by
    unfold idxFuncFrom
    by_cases hp : pos < s.size
    · rw [if_pos hp]
      have hl : pos < s.data.toList.length := by rw [bytes_size]; exact hp
      by_cases hb : (s.data.toList.getD pos 0).toNat < 128
      · rw [dec_low s pos hb]
        dsimp only
        rw [drop_cons hl, List.all_cons, ← idx_all s f (pos + 1) (by omega), offKey_low]
        cases hk : keyByte (s.data.toList.getD pos 0)
        · simp
        · simp
      · obtain ⟨h1, h2, h3, h4⟩ := dec_high s pos hp (by omega)
        rw [offKey_high _ h1]
        simp only [Bool.false_eq_true, if_false]
        rw [idx_all s f _ (by omega)]
        have e : s.data.toList.drop pos = (s.data.toList.drop pos).take (Utf8.decode s pos).2 ++ s.data.toList.drop (pos + (Utf8.decode s pos).2) := by
          rw [← List.drop_drop, List.take_append_drop]
        rw [e, List.all_append]
        have ea : ((s.data.toList.drop pos).take (Utf8.decode s pos).2).all keyByte = true := by
          rw [List.all_eq_true]
          intro x hx
          obtain ⟨j, j1, j2, _, rfl⟩ := mem_take_drop hx
          exact keyByte_high _ (h4 j j1 j2)
        rw [ea, Bool.true_and]
    · rw [if_neg hp, List.drop_eq_nil_of_le (by rw [bytes_size]; omega)]
      simp

theorem idx_key (s : ByteArray) : decide (idxFunc offKey true s < 0) = s.data.toList.all keyByte := by
  have := idx_all s s.size 0 (by omega)
  rw [List.drop_zero] at this
  exact this

/-! ### fields -/
def isBlank (c : Nat) : Bool := decide ((c : Int) = 32)

theorem wordsGo_far : ∀ (a b cur : Bs), (∀ x ∈ a, x ≠ 32) → wordsGo (a ++ b) cur = wordsGo b (cur ++ a)
  | [], b, cur, _ => by simp
  | c :: a, b, cur, h => by
    rw [List.cons_append, wordsGo, if_neg (h c (by simp)), wordsGo_far a b (cur ++ [c]) (fun x hx => h x (by simp [hx]))]
    simp

theorem take_cur (l : List UInt8) {a pos n : Nat} (h1 : a ≤ pos) (h2 : pos ≤ l.length) : (l.take (pos + n)).drop a = (l.take pos).drop a ++ (l.drop pos).take n := by
  rw [List.take_add, List.drop_append_of_le_length (by simp; omega)]

def pieces (l : List UInt8) (acc : List (Nat × Nat)) : List Bs := acc.map fun x => (l.take x.2).drop x.1
def curOf (l : List UInt8) (st : Option Nat) (pos : Nat) : Bs := match st with | some a => (l.take pos).drop a | none => []

theorem pieces_snoc (l : List UInt8) (acc : List (Nat × Nat)) (x : Nat × Nat) : pieces l (acc ++ [x]) = pieces l acc ++ [(l.take x.2).drop x.1] := by simp [pieces]

theorem spans_words (s : ByteArray) : ∀ (f pos : Nat) (st : Option Nat) (acc : List (Nat × Nat)), s.size ≤ pos + f → pos ≤ s.size → (∀ a, st = some a → a < pos) →
    pieces s.data.toList (closeSpans s (spansFromP isBlank s f pos st acc)) = pieces s.data.toList acc ++ wordsGo (s.data.toList.drop pos) (curOf s.data.toList st pos)
  | 0, pos, st, acc, h, h', hst => by
    have e : pos = s.size := by omega
    have hl := bytes_size s
    rw [List.drop_eq_nil_of_le (by omega)]
    unfold spansFromP closeSpans wordsGo
    cases st with
    | none => simp [curOf]
    | some a =>
      have ha := hst a rfl
      have hne : (curOf s.data.toList (some a) pos).isEmpty = false := by
        rw [List.isEmpty_eq_false_iff]
        intro h0
        have := congrArg List.length h0
        simp [curOf] at this
        omega
      rw [hne]
      simp [pieces_snoc, curOf, e]
  | f + 1, pos, st, acc, h, h', hst => by
    have hl := bytes_size s
    unfold spansFromP
    by_cases hp : pos < s.size
    · rw [if_pos hp]
      have hlp : pos < s.data.toList.length := by omega
      by_cases hb : (s.data.toList.getD pos 0).toNat < 128
      · rw [dec_low s pos hb]
        dsimp only
        rw [drop_cons hlp, wordsGo]
        by_cases hc : s.data.toList.getD pos 0 = 32
        · have hpc : isBlank (s.data.toList.getD pos 0).toNat = true := by rw [hc]; rfl
          rw [if_pos hpc, if_pos hc]
          cases st with
          | none =>
            dsimp only
            rw [spans_words s f (pos + 1) none acc (by omega) (by omega) (by intro a h; cases h)]
            simp [curOf]
          | some a =>
            dsimp only
            have ha := hst a rfl
            rw [spans_words s f (pos + 1) none _ (by omega) (by omega) (by intro a h; cases h)]
            have hne : (curOf s.data.toList (some a) pos).isEmpty = false := by
              rw [List.isEmpty_eq_false_iff]
              intro h0
              have := congrArg List.length h0
              simp [curOf] at this
              omega
            rw [hne, pieces_snoc]
            simp [curOf]
        · have hpc : isBlank (s.data.toList.getD pos 0).toNat = false := by
            unfold isBlank
            simp only [decide_eq_false_iff_not]
            intro h32
            apply hc
            apply UInt8.toNat_inj.1
            have : (s.data.toList.getD pos 0).toNat = 32 := by omega
            rw [this]; rfl
          rw [if_neg (by rw [hpc]; decide), if_neg hc]
          cases st with
          | none =>
            dsimp only
            rw [spans_words s f (pos + 1) (some pos) acc (by omega) (by omega) (by intro a h; injection h with h; omega)]
            have e : curOf s.data.toList (some pos) (pos + 1) = curOf s.data.toList none pos ++ [s.data.toList.getD pos 0] := by
              unfold curOf
              dsimp only
              rw [take_cur _ (Nat.le_refl _) (by omega), drop_cons hlp]
              simp
            rw [e]
          | some a =>
            dsimp only
            have ha := hst a rfl
            rw [spans_words s f (pos + 1) (some a) acc (by omega) (by omega) (by intro b h; injection h with h; omega)]
            have e : curOf s.data.toList (some a) (pos + 1) = curOf s.data.toList (some a) pos ++ [s.data.toList.getD pos 0] := by
              unfold curOf
              dsimp only
              rw [take_cur _ (by omega) (by omega), drop_cons hlp]
              simp
            rw [e]
      · obtain ⟨h1, h2, h3, h4⟩ := dec_high s pos hp (by omega)
        have hpc : isBlank (Utf8.decode s pos).1 = false := by
          unfold isBlank
          simp only [decide_eq_false_iff_not]
          omega
        rw [if_neg (by rw [hpc]; decide)]
        have e0 : s.data.toList.drop pos = (s.data.toList.drop pos).take (Utf8.decode s pos).2 ++ s.data.toList.drop (pos + (Utf8.decode s pos).2) := by
          rw [← List.drop_drop, List.take_append_drop]
        have ea : ∀ x ∈ (s.data.toList.drop pos).take (Utf8.decode s pos).2, x ≠ 32 := by
          intro x hx
          obtain ⟨j, j1, j2, _, rfl⟩ := mem_take_drop hx
          have := h4 j j1 j2
          intro h32
          rw [h32] at this
          exact absurd this (by decide)
        rw [e0, wordsGo_far _ _ _ ea]
        cases st with
        | none =>
          dsimp only
          rw [spans_words s f _ (some pos) acc (by omega) (by omega) (by intro a h; injection h with h; omega)]
          have e : curOf s.data.toList (some pos) (pos + (Utf8.decode s pos).2) = curOf s.data.toList none pos ++ (s.data.toList.drop pos).take (Utf8.decode s pos).2 := by
            unfold curOf
            dsimp only
            rw [take_cur _ (Nat.le_refl _) (by omega)]
            simp
          rw [e]
        | some a =>
          dsimp only
          have ha := hst a rfl
          rw [spans_words s f _ (some a) acc (by omega) (by omega) (by intro b h; injection h with h; omega)]
          have e : curOf s.data.toList (some a) (pos + (Utf8.decode s pos).2) = curOf s.data.toList (some a) pos ++ (s.data.toList.drop pos).take (Utf8.decode s pos).2 := by
            unfold curOf
            dsimp only
            rw [take_cur _ (by omega) (by omega)]
          rw [e]
    · have e : pos = s.size := by omega
      rw [if_neg hp, List.drop_eq_nil_of_le (by omega)]
      unfold closeSpans wordsGo
      cases st with
      | none => simp [curOf]
      | some a =>
        have ha := hst a rfl
        have hne : (curOf s.data.toList (some a) pos).isEmpty = false := by
          rw [List.isEmpty_eq_false_iff]
          intro h0
          have := congrArg List.length h0
          simp [curOf] at this
          omega
        rw [hne]
        simp [pieces_snoc, curOf, e]

theorem fields_words (s : ByteArray) : goFieldsP isBlank s = (wordsOf s.data.toList).map fun w => (⟨w.toArray⟩ : ByteArray) := by
  have h := spans_words s s.size 0 none [] (by omega) (by omega) (by intro a h; cases h)
  have e1 : pieces s.data.toList (spansOfP isBlank s) = wordsOf s.data.toList := by
    unfold spansOfP wordsOf
    rw [h]
    simp [pieces, curOf]
  rw [← e1]
  unfold goFieldsP pieces
  rw [List.map_map]
  apply List.map_congr_left
  intro x _
  have e2 : (s.extract x.1 x.2).data.toList = (s.data.toList.take x.2).drop x.1 := by
    rw [extract_data, List.drop_take]
  rw [Function.comp, ← e2, bytes_mk]

/-! ### numbers -/
def digitSet : Bs := [48, 49, 50, 51, 52, 53, 54, 55, 56, 57]
set_option maxRecDepth 100000 in
theorem digitSet_has (c : UInt8) : digitSet.contains c = isDigit c := by
  have h : ∀ n : Fin 256, digitSet.contains (UInt8.ofNat n.1) = isDigit (UInt8.ofNat n.1) := by decide
  have e : UInt8.ofNat c.toNat = c := by simp
  have := h ⟨c.toNat, c.toNat_lt⟩
  rwa [e] at this

theorem dropWhile_nil {p : UInt8 → Bool} : ∀ {l : List UInt8}, l.dropWhile p = [] ↔ ∀ x ∈ l, p x = true
  | [] => by simp
  | c :: t => by
    by_cases h : p c = true
    · rw [List.dropWhile_cons_of_pos h, dropWhile_nil (l := t)]
      simp [h]
    · rw [List.dropWhile_cons_of_neg h]
      simp [h]

theorem all_takeWhile (p : UInt8 → Bool) : ∀ (l : List UInt8) (x : UInt8), x ∈ l.takeWhile p → p x = true
  | [], _, h => by cases h
  | c :: t, x, h => by
    by_cases hc : p c = true
    · rw [List.takeWhile_cons_of_pos hc] at h
      rcases List.mem_cons.1 h with rfl | h
      · exact hc
      · exact all_takeWhile p t x h
    · rw [List.takeWhile_cons_of_neg hc] at h
      cases h

theorem trimS_nil (l cs : List UInt8) : trimS l cs = [] ↔ ∀ x ∈ l, cs.contains x = true := by
  unfold trimS trimLeftS trimRightS
  rw [dropWhile_nil]
  constructor
  · intro h x hx
    have hx' : x ∈ l.reverse := by simpa using hx
    rw [← List.takeWhile_append_dropWhile (p := fun y => cs.contains y) (l := l.reverse), List.mem_append] at hx'
    rcases hx' with h1 | h1
    · exact all_takeWhile _ _ x h1
    · exact h x (by simpa using h1)
  · intro h x hx
    have hx1 : x ∈ l.reverse.dropWhile (fun y => cs.contains y) := by simpa using hx
    have := (List.dropWhile_sublist (fun y => cs.contains y)).subset hx1
    exact h x (by simpa using this)

theorem trim_digits (l : Bs) : (trimS l digitSet = []) ↔ l.all isDigit = true := by
  rw [trimS_nil, List.all_eq_true]
  constructor
  · intro h x hx; rw [← digitSet_has]; exact h x hx
  · intro h x hx; rw [digitSet_has]; exact h x hx

theorem isDigit_iff (c : UInt8) : isDigit c = true ↔ 48 ≤ c.toNat ∧ c.toNat ≤ 57 := by simp [isDigit]

theorem valOn_ge : ∀ (w : Bs) (n : Nat), n ≤ valOn n w
  | [], n => Nat.le_refl _
  | c :: t, n => by
    have := valOn_ge t (10 * n + (c.toNat - 48))
    show n ≤ valOn (10 * n + (c.toNat - 48)) t
    omega

theorem parseM_digits : ∀ (w : Bs) (acc : Nat), w.all isDigit = true → acc ≤ 18446744073709551615 →
    parseUintM 18446744073709551615 acc w = if valOn acc w ≤ 18446744073709551615 then .ok (valOn acc w) else .range
  | [], acc, _, h => by
    unfold parseUintM valOn
    rw [List.foldl_nil, if_pos h]
  | c :: t, acc, hd, h => by
    simp only [List.all_cons, Bool.and_eq_true] at hd
    have hc := (isDigit_iff c).1 hd.1
    unfold parseUintM
    rw [if_pos hc]
    have e : valOn acc (c :: t) = valOn (10 * acc + (c.toNat - 48)) t := rfl
    have hge := valOn_ge t (10 * acc + (c.toNat - 48))
    rw [e]
    by_cases h1 : 1844674407370955162 ≤ acc
    · rw [if_pos h1, if_neg (by omega)]
    · rw [if_neg h1]
      by_cases h2 : 18446744073709551615 < acc * 10 + (c.toNat - 48)
      · rw [if_pos h2, if_neg (by omega)]
      · rw [if_neg h2, parseM_digits t _ hd.2 (by omega), Nat.mul_comm acc 10]

theorem parseM_ok : ∀ (w : Bs) (acc u : Nat), parseUintM 18446744073709551615 acc w = .ok u → w.all isDigit = true
  | [], _, _, _ => rfl
  | c :: t, acc, u, h => by
    unfold parseUintM at h
    by_cases hc : 48 ≤ c.toNat ∧ c.toNat ≤ 57
    · rw [if_pos hc] at h
      by_cases h1 : 1844674407370955162 ≤ acc
      · rw [if_pos h1] at h; cases h
      · rw [if_neg h1] at h
        by_cases h2 : 18446744073709551615 < acc * 10 + (c.toNat - 48)
        · rw [if_pos h2] at h; cases h
        · rw [if_neg h2] at h
          rw [List.all_cons, (isDigit_iff c).2 hc, parseM_ok t _ u h]; rfl
    · rw [if_neg hc] at h; cases h

theorem digits_iff (w : Bs) : digits w = true ↔ w ≠ [] ∧ w.all isDigit = true := by
  unfold digits
  cases w <;> simp

theorem parseU_digits (w : Bs) (h : digits w = true) : parseUintB 64 w = if val w ≤ 18446744073709551615 then .ok (val w) else .range := by
  obtain ⟨h1, h2⟩ := (digits_iff w).1 h
  unfold parseUintB
  rw [if_neg h1]
  exact parseM_digits w 0 h2 (by decide)

theorem parseU_other (w : Bs) (h : digits w = false) (u : Nat) : parseUintB 64 w ≠ .ok u := by
  intro hu
  unfold parseUintB at hu
  by_cases h1 : w = []
  · rw [if_pos h1] at hu; cases hu
  · rw [if_neg h1] at hu
    have := parseM_ok w 0 u hu
    rw [(digits_iff w).2 ⟨h1, this⟩] at h
    cases h

theorem trimPrefix_dash (t : Bs) : trimPrefix (45 :: t) [45] = t := by simp [trimPrefix, hasPrefix]
theorem trimPrefix_other (c : UInt8) (t : Bs) (h : c ≠ 45) : trimPrefix (c :: t) [45] = c :: t := by
  simp only [trimPrefix, hasPrefix]
  have h' : ¬ (45 = c) := fun e => h e.symm
  simp [h']

theorem dash (c : UInt8) : c.toNat = 45 ↔ c = 45 := by
  constructor
  · intro h; apply UInt8.toNat_inj.1; rw [h]; rfl
  · rintro rfl; rfl

theorem parseI_dash (t : Bs) : parseIntB 64 (45 :: t) = match parseUintB 64 t with
    | .range => .range
    | .ok u => if 9223372036854775808 < u then .range else .ok (-(u : Int))
    | _ => parseIntB 64 [] := by
  simp [parseIntB]
  cases parseUintB 64 t <;> rfl

theorem parseI_other (c : UInt8) (t : Bs) (h : c ≠ 45) : parseIntB 64 (c :: t) = match parseUintB 64 (if c.toNat = 43 then t else c :: t) with
    | .range => .range
    | .ok u => if 9223372036854775808 ≤ u then .range else .ok (u : Int)
    | _ => parseIntB 64 [] := by
  have e2 : ¬ c.toNat = 45 := fun h' => h ((dash c).1 h')
  simp [parseIntB, e2]
  cases parseUintB 64 (if c.toNat = 43 then t else c :: t) <;> rfl

theorem parseI_bound (l : Bs) (v : Int) (h : parseIntB 64 l = .ok v) : -9223372036854775808 ≤ v ∧ v ≤ 9223372036854775807 := by
  cases l with
  | nil => cases h
  | cons c t =>
    by_cases h45 : c = 45
    · subst h45
      rw [parseI_dash] at h
      cases hp : parseUintB 64 t with
      | ok u =>
        rw [hp] at h
        dsimp only at h
        by_cases hu : 9223372036854775808 < u
        · rw [if_pos hu] at h; cases h
        · rw [if_neg hu] at h; injection h with h; omega
      | _ => rw [hp] at h; cases h
    · rw [parseI_other c t h45] at h
      cases hp : parseUintB 64 (if c.toNat = 43 then t else c :: t) with
      | ok u =>
        rw [hp] at h
        dsimp only at h
        by_cases hu : 9223372036854775808 ≤ u
        · rw [if_pos hu] at h; cases h
        · rw [if_neg hu] at h; injection h with h; omega
      | _ => rw [hp] at h; cases h

/-- a time is what ParseInt reads, where digits stand behind the sign -/
theorem timeOf_parse (l : Bs) : timeOf l = match parseIntB 64 l with
    | .ok v => if digits (trimPrefix l [45]) = true then some v else none
    | _ => none := by
  cases l with
  | nil => rfl
  | cons c t =>
    by_cases h45 : c = 45
    · subst h45
      have et : timeOf (45 :: t) = if digits t && decide (val t ≤ 9223372036854775808) then some (- (val t : Int)) else none := rfl
      rw [trimPrefix_dash, parseI_dash, et]
      cases hd : digits t
      · cases hp : parseUintB 64 t with
        | ok u => exact absurd hp (parseU_other t hd u)
        | _ => rfl
      · rw [parseU_digits t hd]
        by_cases hv : val t ≤ 18446744073709551615
        · rw [if_pos hv]
          by_cases h63 : val t ≤ 9223372036854775808
          · have : ¬ 9223372036854775808 < val t := by omega
            simp [h63, this]
          · have : 9223372036854775808 < val t := by omega
            simp [h63, this]
        · rw [if_neg hv]
          have : ¬ val t ≤ 9223372036854775808 := by omega
          simp [this]
    · have et : timeOf (c :: t) = if digits (c :: t) && decide (val (c :: t) ≤ 9223372036854775807) then some (val (c :: t) : Int) else none := by
        unfold timeOf
        split
        · rename_i h; injection h with h; exact absurd h h45
        · rfl
      rw [trimPrefix_other c t h45, parseI_other c t h45, et]
      cases hd : digits (c :: t)
      · cases hp : parseUintB 64 (if c.toNat = 43 then t else c :: t) with
        | ok u =>
          by_cases hu : 9223372036854775808 ≤ u <;> simp [hu]
        | _ => rfl
      · have hc : ¬ c.toNat = 43 := by
          have := ((digits_iff _).1 hd).2
          simp only [List.all_cons, Bool.and_eq_true] at this
          have := (isDigit_iff c).1 this.1
          omega
        rw [if_neg hc, parseU_digits _ hd]
        by_cases hv : val (c :: t) ≤ 18446744073709551615
        · rw [if_pos hv]
          by_cases h63 : val (c :: t) ≤ 9223372036854775807
          · have : ¬ 9223372036854775808 ≤ val (c :: t) := by omega
            simp [h63, this]
          · have : 9223372036854775808 ≤ val (c :: t) := by omega
            simp [h63, this]
        · rw [if_neg hv]
          have : ¬ val (c :: t) ≤ 9223372036854775807 := by omega
          simp [this]
end Go.Proofs.YthgfjafnclklpaaGreatDoor
