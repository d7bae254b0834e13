/- Plain laws of words.All: its steps lie one behind the other. No program in sight. Plain laws of words.All: a beginning of the bytes, one step's bytes, what is behind a step. No program in sight. -/
import Derived.Test.YthgfjafnclklpaaGreatDoorA1
section
namespace Go.Proofs.YthgfjafnclklpaaGreatDoor
open Go.Lib Sp

theorem skipV_in {l : Bs} {k m : Nat} {g : Bool} (h : skipV l k = some (m, g)) : k < m ∧ m ≤ l.length := by
  obtain ⟨hk, hm⟩ := skipV_some h
  refine ⟨hm, ?_⟩
  rw [skipV_cases l k hk] at h
  split at h
  · rename_i h2
    injection h with h; injection h with h _
    have := congrArg List.length h2
    rw [List.length_take, List.length_drop] at this
    simp at this
    omega
  · split at h
    · cases h
    · obtain ⟨i, hi, h⟩ := Option.map_eq_some_iff.1 h
      injection h with h _
      have := indexOf_in hi
      rw [List.length_drop] at this
      omega

theorem oneV_in {lim : Nat} {l : Bs} {t : StepV} {n : Nat} (h : oneV lim l = some (t, n)) : 0 < n ∧ n ≤ l.length := by
  unfold oneV at h
  cases he : indexOf l 10 with
  | none => rw [he] at h; cases h
  | some e =>
    rw [he] at h
    have hel := indexOf_in he
    have hsk : ∀ (k : Nat) (f : Nat × Bool → StepV × Nat), (∀ y, (f y).2 = e + 1 + y.1) → (skipV (l.drop (e + 1)) k).map f = some (t, n) → 0 < n ∧ n ≤ l.length := by
      intro k f hf h
      obtain ⟨y, hy, h⟩ := Option.map_eq_some_iff.1 h
      have h2 := hf y
      rw [h] at h2
      have := skipV_in (m := y.1) (g := y.2) hy
      rw [List.length_drop] at this
      simp only at h2
      omega
    simp only at h
    split at h
    · split at h
      · exact hsk _ _ (fun _ => rfl) h
      · injection h with h; injection h with _ h; omega
    · split at h
      · injection h with h; injection h with _ h; omega
      · exact hsk _ _ (fun _ => rfl) h

/-- steps that lie one behind the other, from a to b -/
def lieV : Nat → List StepV → Nat → Prop
  | a, [], b => a = b
  | a, t :: ts, b => t.frm = a ∧ a < t.to ∧ lieV t.to ts b

theorem lieV_le : ∀ {ts : List StepV} {a b : Nat}, lieV a ts b → a ≤ b
  | [], _, _, h => Nat.le_of_eq h
  | _ :: _, _, _, ⟨_, h2, h3⟩ => Nat.le_of_lt (Nat.lt_of_lt_of_le h2 (lieV_le h3))

/-- All's steps; and where it has not ended, what is left is what lies behind them -/
theorem allV_lies (lim : Nat) : ∀ (r at' : Nat) (l : Bs), l.length < r → ∃ b, lieV at' (allV lim r at' l).1 b ∧ b ≤ at' + l.length ∧
    ((∃ t ∈ (allV lim r at' l).1, t.cmd.verb = 18) ∧ (allV lim r at' l).2 = 0 ∨ (allV lim r at' l).2 = at' + l.length - b)
  | 0, _, _, h => by omega
  | r + 1, at', l, h => by
    unfold allV
    cases ho : oneV lim l with
    | none => exact ⟨at', rfl, by omega, .inr (by simp)⟩
    | some y =>
      obtain ⟨t, n⟩ := y
      have hn := oneV_in ho
      dsimp only
      split
      · rename_i hv
        exact ⟨at' + n, ⟨rfl, by show at' < at' + n; omega, rfl⟩, by omega, .inl ⟨⟨t.span at' (at' + n), by simp, hv⟩, rfl⟩⟩
      · obtain ⟨b, h1, h2, h3⟩ := allV_lies lim r (at' + n) (l.drop n) (by rw [List.length_drop]; omega)
        rw [List.length_drop] at h2 h3
        refine ⟨b, ⟨rfl, by show at' < at' + n; omega, h1⟩, by omega, ?_⟩
        rcases h3 with ⟨⟨t', ht', hv⟩, h0⟩ | h3
        · exact .inl ⟨⟨t', List.mem_cons_of_mem _ ht', hv⟩, h0⟩
        · exact .inr (by rw [h3]; omega)

end Go.Proofs.YthgfjafnclklpaaGreatDoor
end
section
namespace Go.Proofs.YthgfjafnclklpaaGreatDoor
open Go.Lib Sp

theorem indexOf_cons (b : UInt8) (l : Bs) (c : UInt8) : indexOf (b :: l) c = if b = c then some 0 else (indexOf l c).map (· + 1) := by
  unfold indexOf
  rw [List.findIdx?_cons]
  by_cases h : b = c
  · simp [h]
  · simp [h]
/-- the rounds do not matter, if there are enough -/
theorem allV_fuel (lim : Nat) : ∀ (r r' a : Nat) (l : Bs), l.length < r → l.length < r' → allV lim r a l = allV lim r' a l
  | 0, _, _, _, h, _ => by omega
  | _ + 1, 0, _, _, _, h => by omega
  | r + 1, r' + 1, a, l, h, h' => by
    unfold allV
    cases ho : oneV lim l with
    | none => rfl
    | some y =>
      obtain ⟨t, n⟩ := y
      have hn := oneV_in ho
      dsimp only
      split
      · rfl
      · rw [allV_fuel lim r r' (a + n) (l.drop n) (by rw [List.length_drop]; omega) (by rw [List.length_drop]; omega)]

/-- a step, further on by so many bytes -/
def StepV.shifted (t : StepV) (d : Nat) : StepV := t.span (t.frm + d) (t.to + d)

theorem allV_shift (lim d : Nat) : ∀ (r a : Nat) (l : Bs), allV lim r (a + d) l = ((allV lim r a l).1.map fun t => StepV.shifted t d, (allV lim r a l).2)
  | 0, _, _ => rfl
  | r + 1, a, l => by
    unfold allV
    cases ho : oneV lim l with
    | none => rfl
    | some y =>
      obtain ⟨t, n⟩ := y
      dsimp only
      have hsp : t.span (a + d) (a + d + n) = StepV.shifted (t.span a (a + n)) d := by
        show t.span (a + d) (a + d + n) = t.span (a + d) (a + n + d)
        rw [show a + d + n = a + n + d by omega]
      split
      · rw [hsp]; rfl
      · rw [hsp, show a + d + n = (a + n) + d by omega, allV_shift lim d r (a + n) (l.drop n)]
        rfl

/-- what All tells of these bytes -/
def allOf (lim : Nat) (l : Bs) : List StepV × Nat := allV lim (l.length + 1) 0 l

theorem allOf_none {lim : Nat} {l : Bs} (h : oneV lim l = none) : allOf lim l = ([], l.length) := by
  unfold allOf allV
  rw [h]
theorem allOf_some {lim : Nat} {l : Bs} {t : StepV} {n : Nat} (h : oneV lim l = some (t, n)) :
    allOf lim l = if t.cmd.verb = 18 then ([t.span 0 n], 0) else (t.span 0 n :: (allOf lim (l.drop n)).1.map (fun t => StepV.shifted t n), (allOf lim (l.drop n)).2) := by
  have hn := oneV_in h
  unfold allOf
  conv => lhs; unfold allV
  rw [h]
  dsimp only
  rw [Nat.zero_add]
  split
  · rfl
  · have e := allV_shift lim n l.length 0 (l.drop n)
    rw [Nat.zero_add] at e
    rw [e, allV_fuel lim l.length ((l.drop n).length + 1) 0 (l.drop n) (by rw [List.length_drop]; omega) (by omega)]
/-- the steps from the k-th on, and the bytes at which they begin -/
structure AllAt (lim : Nat) (l : Bs) (k a : Nat) (quit : Bool) : Prop where
  le : a ≤ l.length
  kle : k ≤ (allOf lim l).1.length
  rest : quit = false → (allOf lim l).1.drop k = (allOf lim (l.drop a)).1.map (fun t => StepV.shifted t a) ∧ (allOf lim l).2 = (allOf lim (l.drop a)).2
  over : quit = true → (allOf lim l).1.drop k = [] ∧ (allOf lim l).2 = 0
  last : k = 0 → a = 0 ∧ quit = false
  prev : ∀ j, k = j + 1 → ∃ t, (allOf lim l).1[j]? = some t ∧ t.to = a ∧ quit = decide (t.cmd.verb = 18)

theorem AllAt.start (lim : Nat) (l : Bs) : AllAt lim l 0 0 false :=
  ⟨Nat.zero_le _, Nat.zero_le _, fun _ => ⟨by
    rw [List.drop_zero, List.drop_zero]
    have : (fun t : StepV => StepV.shifted t 0) = id := by funext t; rfl
    rw [this, List.map_id], by rw [List.drop_zero]⟩, fun h => (by cases h), fun _ => ⟨rfl, rfl⟩, fun j h => by omega⟩

/-- one step on -/
theorem AllAt.on {lim : Nat} {l : Bs} {k a : Nat} {quit : Bool} (h : AllAt lim l k a quit) (hk : k < (allOf lim l).1.length) :
    ∃ t n, quit = false ∧ oneV lim (l.drop a) = some (t, n) ∧ (allOf lim l).1[k]? = some (t.span a (a + n)) ∧ 0 < n ∧ a + n ≤ l.length ∧ AllAt lim l (k + 1) (a + n) (decide (t.cmd.verb = 18)) := by
  have hq : quit = false := by
    cases quit with
    | false => rfl
    | true =>
      have := (h.over rfl).1
      rw [List.drop_eq_nil_iff] at this
      omega
  subst hq
  obtain ⟨h1, h2⟩ := h.rest rfl
  cases ho : oneV lim (l.drop a) with
  | none =>
    rw [allOf_none ho] at h1
    have := congrArg List.length h1
    simp at this
    omega
  | some y =>
    obtain ⟨t, n⟩ := y
    have hn := oneV_in ho
    rw [List.length_drop] at hn
    have hle := h.le
    rw [allOf_some ho] at h1 h2
    have hsp : StepV.shifted (t.span 0 n) a = t.span a (a + n) := by
      show t.span (0 + a) (n + a) = t.span a (a + n)
      rw [Nat.zero_add, Nat.add_comm]
    have hget : (allOf lim l).1[k]? = some (t.span a (a + n)) := by
      have e : (allOf lim l).1[k]? = ((allOf lim l).1.drop k)[0]? := by rw [List.getElem?_drop, Nat.add_zero]
      rw [e, h1, ← hsp]
      split <;> rfl
    have hd : (allOf lim l).1.drop (k + 1) = ((allOf lim l).1.drop k).drop 1 := by rw [List.drop_drop]
    refine ⟨t, n, rfl, rfl, hget, hn.1, by omega, ⟨by omega, hk, fun hv => ?_, fun hv => ?_, fun h0 => by omega, fun j hj => ?_⟩⟩
    · have hv' := of_decide_eq_false hv
      rw [if_neg hv'] at h1 h2
      rw [hd, h1, h2, List.drop_drop]
      refine ⟨?_, rfl⟩
      simp only [List.map_cons, List.drop_succ_cons, List.drop_zero, List.map_map]
      apply List.map_congr_left
      intro x _
      show x.span (x.frm + n + a) (x.to + n + a) = x.span (x.frm + (a + n)) (x.to + (a + n))
      rw [show x.frm + n + a = x.frm + (a + n) by omega, show x.to + n + a = x.to + (a + n) by omega]
    · have hv' := of_decide_eq_true hv
      rw [if_pos hv'] at h1 h2
      rw [hd, h1, h2]
      exact ⟨rfl, rfl⟩
    · have : j = k := by omega
      subst this
      exact ⟨_, hget, rfl, rfl⟩

end Go.Proofs.YthgfjafnclklpaaGreatDoor
end
