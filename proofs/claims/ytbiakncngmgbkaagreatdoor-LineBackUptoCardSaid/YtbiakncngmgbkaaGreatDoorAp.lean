/- Plain laws of words.All: its steps lie one behind the other. No program in sight. Plain laws of words.All: a beginning of the bytes, one step's bytes, what is behind a step. No program in sight. -/
import Derived.Test.YtbiakncngmgbkaaGreatDoorA1
section
namespace Go.Proofs.YtbiakncngmgbkaaGreatDoor
open Go.Lib Sp

theorem skipV_in {l : Bs} {k m : Nat} {g : Bool} (h : skipV l k = some (m, g)) : k < m ∧ m ≤ l.length := by
  obtain ⟨hk, hm⟩ := skipV_some h
  refine ⟨hm, ?_⟩
  rw [skipV_cases l k hk] at h
  split at h
  · rename_i h2
    injection h with h; injection h with h _
    have := congrArg List.length h2
    rw [List.length_take, List.length_drop] at this
    simp at this
    omega
  · split at h
    · cases h
    · obtain ⟨i, hi, h⟩ := Option.map_eq_some_iff.1 h
      injection h with h _
      have := indexOf_in hi
      rw [List.length_drop] at this
      omega

theorem oneV_in {lim : Nat} {l : Bs} {t : StepV} {n : Nat} (h : oneV lim l = some (t, n)) : 0 < n ∧ n ≤ l.length := by
  unfold oneV at h
  cases he : indexOf l 10 with
  | none => rw [he] at h; cases h
  | some e =>
    rw [he] at h
    have hel := indexOf_in he
    have hsk : ∀ (k : Nat) (f : Nat × Bool → StepV × Nat), (∀ y, (f y).2 = e + 1 + y.1) → (skipV (l.drop (e + 1)) k).map f = some (t, n) → 0 < n ∧ n ≤ l.length := by
      intro k f hf h
      obtain ⟨y, hy, h⟩ := Option.map_eq_some_iff.1 h
      have h2 := hf y
      rw [h] at h2
      have := skipV_in (m := y.1) (g := y.2) hy
      rw [List.length_drop] at this
      simp only at h2
      omega
    simp only at h
    split at h
    · split at h
      · exact hsk _ _ (fun _ => rfl) h
      · injection h with h; injection h with _ h; omega
    · split at h
      · injection h with h; injection h with _ h; omega
      · exact hsk _ _ (fun _ => rfl) h

/-- steps that lie one behind the other, from a to b -/
def lieV : Nat → List StepV → Nat → Prop
  | a, [], b => a = b
  | a, t :: ts, b => t.frm = a ∧ a < t.to ∧ lieV t.to ts b

theorem lieV_le : ∀ {ts : List StepV} {a b : Nat}, lieV a ts b → a ≤ b
  | [], _, _, h => Nat.le_of_eq h
  | _ :: _, _, _, ⟨_, h2, h3⟩ => Nat.le_of_lt (Nat.lt_of_lt_of_le h2 (lieV_le h3))

/-- All's steps; and where it has not ended, what is left is what lies behind them -/
theorem allV_lies (lim : Nat) : ∀ (r at' : Nat) (l : Bs), l.length < r → ∃ b, lieV at' (allV lim r at' l).1 b ∧ b ≤ at' + l.length ∧
    ((∃ t ∈ (allV lim r at' l).1, t.cmd.verb = 18) ∧ (allV lim r at' l).2 = 0 ∨ (allV lim r at' l).2 = at' + l.length - b)
  | 0, _, _, h => by omega
  | r + 1, at', l, h => by
    unfold allV
    cases ho : oneV lim l with
    | none => exact ⟨at', rfl, by omega, .inr (by simp)⟩
    | some y =>
      obtain ⟨t, n⟩ := y
      have hn := oneV_in ho
      dsimp only
      split
      · rename_i hv
        exact ⟨at' + n, ⟨rfl, by show at' < at' + n; omega, rfl⟩, by omega, .inl ⟨⟨t.span at' (at' + n), by simp, hv⟩, rfl⟩⟩
      · obtain ⟨b, h1, h2, h3⟩ := allV_lies lim r (at' + n) (l.drop n) (by rw [List.length_drop]; omega)
        rw [List.length_drop] at h2 h3
        refine ⟨b, ⟨rfl, by show at' < at' + n; omega, h1⟩, by omega, ?_⟩
        rcases h3 with ⟨⟨t', ht', hv⟩, h0⟩ | h3
        · exact .inl ⟨⟨t', List.mem_cons_of_mem _ ht', hv⟩, h0⟩
        · exact .inr (by rw [h3]; omega)

theorem keptV_is (lim : Nat) (l : Bs) : keptV lim l = 0 ∨ keptV lim l = l.length := by
  unfold keptV
  split
  · split
    · exact .inr rfl
    · exact .inl rfl
  · split
    · exact .inl rfl
    · split
      · exact .inl rfl
      · split
        · exact .inr rfl
        · exact .inl rfl

/-- where All tells a Quit the Feeder has ended -/
theorem quit_ends (lim : Nat) : ∀ (r : Nat) (l : Bs) {s : FeedV}, Fresh s → l.length < r → (∃ t ∈ (allV lim r s.taken l).1, t.cmd.verb = 18) → (s.bytes lim l).ended = true
  | 0, _, _, _, h, _ => by omega
  | r + 1, l, s, hf, hr, hq => by
    have h := one_goes lim hf l
    unfold allV at hq
    cases ho : oneV lim l with
    | none => rw [ho] at hq; simp at hq
    | some x =>
      obtain ⟨t, n⟩ := x
      rw [ho] at h hq
      obtain ⟨h1, h2, h3⟩ := h
      have hby : s.bytes lim l = (s.bytes lim (l.take n)).bytes lim (l.drop n) := by
        conv => lhs; rw [← List.take_append_drop n l, bytes_append]
      rw [hby]
      dsimp only at hq
      by_cases hv : t.cmd.verb = 18
      · obtain ⟨o1, o2, o3⟩ := h3.over hv
        rw [over_bytes lim _ o1]
        exact o2
      · rw [if_neg hv] at hq
        have hld : (l.drop n).length = l.length - n := List.length_drop
        refine quit_ends lim r (l.drop n) (h3.fresh hv) (by omega) ?_
        rw [h3.taken]
        obtain ⟨t2, ht2, hv2⟩ := hq
        rcases List.mem_cons.1 ht2 with rfl | ht2
        · exact absurd hv2 hv
        · exact ⟨t2, ht2, hv2⟩

/-- what a Feeder holds and has told, and what All tells and leaves, of the same bytes -/
theorem whole_law (lim : Nat) (raw : Bs) : ∃ b, lieV 0 (allV lim (raw.length + 1) 0 raw).1 b ∧ b ≤ raw.length ∧
    ((({} : FeedV).bytes lim raw).ended = true → (({} : FeedV).bytes lim raw).held = 0 ∧ (allV lim (raw.length + 1) 0 raw).2 = 0) ∧
    ((({} : FeedV).bytes lim raw).ended = false → ((({} : FeedV).bytes lim raw).held = 0 ∨ (({} : FeedV).bytes lim raw).held = (allV lim (raw.length + 1) 0 raw).2) ∧ (allV lim (raw.length + 1) 0 raw).2 = raw.length - b) := by
  obtain ⟨b, h1, h2, h3⟩ := allV_lies lim (raw.length + 1) 0 raw (Nat.lt_succ_self _)
  have hg := all_goes lim (raw.length + 1) raw Fresh.new (Nat.lt_succ_self _)
  have hq := quit_ends lim (raw.length + 1) raw Fresh.new (Nat.lt_succ_self _)
  refine ⟨b, h1, by omega, hg.2.1, fun he => ?_⟩
  obtain ⟨g1, g2, g3⟩ := hg.2.2 he
  have g1' : (allV lim (raw.length + 1) 0 raw).2 ≤ raw.length := g1
  refine ⟨?_, ?_⟩
  · have hk := keptV_is lim (raw.drop (raw.length - (allV lim (raw.length + 1) 0 raw).2))
    rw [List.length_drop] at hk
    have g2' : (({} : FeedV).bytes lim raw).held = keptV lim (raw.drop (raw.length - (allV lim (raw.length + 1) 0 raw).2)) := g2
    rcases hk with hk | hk
    · exact .inl (g2'.trans hk)
    · exact .inr (by rw [g2', hk]; omega)
  · rcases h3 with ⟨h3, _⟩ | h3
    · have := hq h3
      rw [he] at this
      cases this
    · omega
end Go.Proofs.YtbiakncngmgbkaaGreatDoor
end
section
namespace Go.Proofs.YtbiakncngmgbkaaGreatDoor
open Go.Lib Sp

theorem indexOf_cons (b : UInt8) (l : Bs) (c : UInt8) : indexOf (b :: l) c = if b = c then some 0 else (indexOf l c).map (· + 1) := by
  unfold indexOf
  rw [List.findIdx?_cons]
  by_cases h : b = c
  · simp [h]
  · simp [h]
theorem indexOf_ext {p q : Bs} {c : UInt8} {i : Nat} (h : indexOf p c = some i) : indexOf (p ++ q) c = some i := by
  induction p generalizing i with
  | nil => cases h
  | cons b t ih =>
    rw [indexOf_cons] at h
    rw [List.cons_append, indexOf_cons]
    by_cases hb : b = c
    · rw [if_pos hb] at h ⊢; exact h
    · rw [if_neg hb] at h ⊢
      cases ht : indexOf t c with
      | none => rw [ht] at h; cases h
      | some j => rw [ht] at h; rw [ih ht]; exact h
theorem indexOf_cut {l : Bs} {c : UInt8} {i : Nat} (h : indexOf l c = some i) {m : Nat} (hm : i < m) : indexOf (l.take m) c = some i := by
  induction l generalizing i m with
  | nil => cases h
  | cons b t ih =>
    cases m with
    | zero => omega
    | succ m =>
      rw [indexOf_cons] at h
      rw [List.take_succ_cons, indexOf_cons]
      by_cases hb : b = c
      · rw [if_pos hb] at h ⊢; exact h
      · rw [if_neg hb] at h ⊢
        cases ht : indexOf t c with
        | none => rw [ht] at h; cases h
        | some j =>
          rw [ht] at h
          simp only [Option.map_some, Option.some.injEq] at h
          rw [ih ht (by omega)]
          simpa using h

theorem skipV_ext {p q : Bs} {k : Nat} {r : Nat × Bool} (h : skipV p k = some r) : skipV (p ++ q) k = some r := by
  unfold skipV at h ⊢
  split at h
  · cases h
  · rename_i hk
    have hl : ¬ (p ++ q).length ≤ k := by rw [List.length_append]; omega
    have hd : (p ++ q).drop k = p.drop k ++ q := by rw [List.drop_append_of_le_length (by omega)]
    rw [if_neg hl, hd]
    have hpl : (p.drop k).length = p.length - k := List.length_drop
    split at h
    · rename_i h2
      have h2l : 2 ≤ (p.drop k).length := by
        have := congrArg List.length h2
        rw [List.length_take] at this
        simp at this
        rw [List.length_drop]; omega
      rw [if_pos (by rw [List.take_append_of_le_length h2l]; exact h2)]
      exact h
    · rename_i h2
      split at h
      · cases h
      · rename_i h3
        cases hi : indexOf (p.drop k) 10 with
        | none => rw [hi] at h; cases h
        | some i =>
          rw [hi] at h
          have n2 : ¬ (p.drop k ++ q).take 2 = [13, 10] := by
            intro e
            cases hp : p.drop k with
            | nil => rw [hp] at hpl; simp at hpl; omega
            | cons x t =>
              rw [hp] at e hi h2
              cases t with
              | nil =>
                simp at e
                rw [indexOf_cons, if_neg (by rw [e.1]; decide)] at hi
                cases hi
              | cons y u => exact h2 (by simpa using e)
          have n3 : ¬ p.drop k ++ q = [13] := by
            intro e
            cases hp : p.drop k with
            | nil => rw [hp] at hpl; simp at hpl; omega
            | cons x t =>
              rw [hp] at e h3
              simp at e
              exact h3 (by simp [e.1, e.2.1])
          rw [if_neg n2, if_neg n3, indexOf_ext hi]
          exact h

theorem skipV_cut {l : Bs} {k m : Nat} {g : Bool} (h : skipV l k = some (m, g)) : skipV (l.take m) k = some (m, g) := by
  have hin := skipV_in h
  unfold skipV at h ⊢
  rw [if_neg (by omega)] at h
  rw [if_neg (by rw [List.length_take]; omega)]
  have hd : (l.take m).drop k = (l.drop k).take (m - k) := by rw [List.drop_take]
  rw [hd]
  split at h
  · rename_i h2
    injection h with h; injection h with h1 h3
    subst h1
    rw [show k + 2 - k = 2 by omega, h2, ← h3]
    rfl
  · rename_i h2
    split at h
    · cases h
    · rename_i h3
      cases hi : indexOf (l.drop k) 10 with
      | none => rw [hi] at h; cases h
      | some i =>
        rw [hi] at h
        injection h with h; injection h with h1 h4
        subst h1
        rw [show k + i + 1 - k = i + 1 by omega]
        have hc := indexOf_cut hi (Nat.lt_succ_self i)
        have n2 : ¬ ((l.drop k).take (i + 1)).take 2 = [13, 10] := by
          intro e
          apply h2
          rw [List.take_take] at e
          by_cases h0 : i = 0
          · subst h0
            have := congrArg List.length e
            rw [List.length_take] at this
            simp at this
            omega
          · rwa [Nat.min_eq_left (by omega)] at e
        have n3 : ¬ (l.drop k).take (i + 1) = [13] := by
          intro e
          rw [e] at hc
          exact absurd hc (by simp [indexOf])
        rw [if_neg n2, if_neg n3, hc, ← h4]

/-- a step is the same whatever stands behind it -/
theorem oneV_ext {lim : Nat} {p q : Bs} {r : StepV × Nat} (h : oneV lim p = some r) : oneV lim (p ++ q) = some r := by
  unfold oneV at h ⊢
  cases he : indexOf p 10 with
  | none => rw [he] at h; cases h
  | some e =>
    have hel := indexOf_in he
    rw [he] at h
    rw [indexOf_ext he]
    dsimp only at h ⊢
    rw [List.take_append_of_le_length (by omega), List.drop_append_of_le_length (by omega)]
    have hsk : ∀ (k : Nat) (f : Nat × Bool → StepV × Nat) (f' : Nat × Bool → StepV × Nat), (∀ y, skipV (p.drop (e + 1)) k = some y → f' y = f y) → (skipV (p.drop (e + 1)) k).map f = some r → (skipV (p.drop (e + 1) ++ q) k).map f' = some r := by
      intro k f f' hf h
      obtain ⟨y, hy, h⟩ := Option.map_eq_some_iff.1 h
      rw [skipV_ext hy, Option.map_some, hf y hy, h]
    split at h
    · split at h
      · rename_i w _ hw
        rw [if_pos hw]
        exact hsk _ _ _ (fun _ _ => rfl) h
      · rename_i w _ hw
        rw [if_neg hw]
        exact h
    · rename_i c n _
      split at h
      · rename_i hn
        rw [if_pos hn]
        exact h
      · rename_i hn
        rw [if_neg hn]
        refine hsk _ _ _ (fun y hy => ?_) h
        have hin := skipV_in (m := y.1) (g := y.2) hy
        rw [List.take_append_of_le_length (by omega)]

/-- a step's own bytes are enough -/
theorem oneV_cut {lim : Nat} {l : Bs} {t : StepV} {n : Nat} (h : oneV lim l = some (t, n)) : oneV lim (l.take n) = some (t, n) := by
  unfold oneV at h ⊢
  cases he : indexOf l 10 with
  | none => rw [he] at h; cases h
  | some e =>
    have hel := indexOf_in he
    rw [he] at h
    dsimp only at h
    have key : e < n → (∀ (k : Nat) (f f' : Nat × Bool → StepV × Nat), (∀ y, (f y).2 = e + 1 + y.1) → (∀ y, skipV (l.drop (e + 1)) k = some y → f' y = f y) → (skipV (l.drop (e + 1)) k).map f = some (t, n) → (skipV ((l.take n).drop (e + 1)) k).map f' = some (t, n)) := by
      intro _ k f f' hf hff h
      obtain ⟨y, hy, h⟩ := Option.map_eq_some_iff.1 h
      have h2 := hf y
      rw [h] at h2
      simp only at h2
      rw [List.drop_take, show n - (e + 1) = y.1 by omega, skipV_cut (m := y.1) (g := y.2) hy, Option.map_some, hff y hy, h]
    have line : e < n → (l.take n).take e = l.take e := fun hn => by rw [List.take_take, Nat.min_eq_left (by omega)]
    have big : ∀ (k : Nat) (f : Nat × Bool → StepV × Nat), (∀ y, (f y).2 = e + 1 + y.1) → (skipV (l.drop (e + 1)) k).map f = some (t, n) → e < n := by
      intro k f hf h
      obtain ⟨y, hy, h⟩ := Option.map_eq_some_iff.1 h
      have h2 := hf y
      rw [h] at h2
      simp only at h2
      omega
    split at h
    · rename_i w hw
      split at h
      · rename_i hp
        have hn := big _ _ (fun _ => rfl) h
        rw [indexOf_cut he hn]
        dsimp only
        rw [line hn, hw]
        dsimp only
        rw [if_pos hp]
        exact key hn _ _ _ (fun _ => rfl) (fun _ _ => rfl) h
      · rename_i hp
        injection h with h; injection h with h1 h2
        subst h2
        rw [indexOf_cut he (Nat.lt_succ_self e)]
        dsimp only
        rw [line (Nat.lt_succ_self e), hw]
        dsimp only
        rw [if_neg hp, h1]
    · rename_i c k hw
      split at h
      · rename_i hp
        injection h with h; injection h with h1 h2
        subst h2
        rw [indexOf_cut he (Nat.lt_succ_self e)]
        dsimp only
        rw [line (Nat.lt_succ_self e), hw]
        dsimp only
        rw [if_pos hp, h1]
      · rename_i hp
        have hn := big _ _ (fun _ => rfl) h
        rw [indexOf_cut he hn]
        dsimp only
        rw [line hn, hw]
        dsimp only
        rw [if_neg hp]
        refine key hn _ _ _ (fun _ => rfl) (fun y hy => ?_) h
        obtain ⟨y', hy', h'⟩ := Option.map_eq_some_iff.1 h
        rw [hy] at hy'
        injection hy' with hy'
        subst hy'
        have hin := skipV_in (m := y.1) (g := y.2) hy
        have h2 : e + 1 + y.1 = n := congrArg Prod.snd h'
        rw [List.drop_take, List.take_take, Nat.min_eq_left (by omega)]

/-- a beginning of the bytes -/
theorem oneV_take {lim : Nat} {l : Bs} {t : StepV} {n : Nat} (h : oneV lim l = some (t, n)) (m : Nat) : oneV lim (l.take m) = if n ≤ m then some (t, n) else none := by
  have hin := oneV_in h
  split
  · rename_i hm
    have e : l.take m = l.take n ++ (l.drop n).take (m - n) := by
      conv => lhs; rw [show m = n + (m - n) by omega, List.take_add]
    rw [e]
    exact oneV_ext (oneV_cut h)
  · rename_i hm
    cases ho : oneV lim (l.take m) with
    | none => rfl
    | some r =>
      obtain ⟨t', n'⟩ := r
      have h1 := oneV_in ho
      rw [List.length_take] at h1
      have h2 := oneV_ext (q := l.drop m) ho
      rw [List.take_append_drop, h] at h2
      injection h2 with h2; injection h2 with _ h2
      omega
theorem oneV_take_none {lim : Nat} {l : Bs} (h : oneV lim l = none) (m : Nat) : oneV lim (l.take m) = none := by
  cases ho : oneV lim (l.take m) with
  | none => rfl
  | some r =>
    have h2 := oneV_ext (q := l.drop m) ho
    rw [List.take_append_drop, h] at h2
    cases h2

/-- the rounds do not matter, if there are enough -/
theorem allV_fuel (lim : Nat) : ∀ (r r' a : Nat) (l : Bs), l.length < r → l.length < r' → allV lim r a l = allV lim r' a l
  | 0, _, _, _, h, _ => by omega
  | _ + 1, 0, _, _, _, h => by omega
  | r + 1, r' + 1, a, l, h, h' => by
    unfold allV
    cases ho : oneV lim l with
    | none => rfl
    | some y =>
      obtain ⟨t, n⟩ := y
      have hn := oneV_in ho
      dsimp only
      split
      · rfl
      · rw [allV_fuel lim r r' (a + n) (l.drop n) (by rw [List.length_drop]; omega) (by rw [List.length_drop]; omega)]

/-- a step, further on by so many bytes -/
def StepV.shifted (t : StepV) (d : Nat) : StepV := t.span (t.frm + d) (t.to + d)

theorem allV_shift (lim d : Nat) : ∀ (r a : Nat) (l : Bs), allV lim r (a + d) l = ((allV lim r a l).1.map fun t => StepV.shifted t d, (allV lim r a l).2)
  | 0, _, _ => rfl
  | r + 1, a, l => by
    unfold allV
    cases ho : oneV lim l with
    | none => rfl
    | some y =>
      obtain ⟨t, n⟩ := y
      dsimp only
      have hsp : t.span (a + d) (a + d + n) = StepV.shifted (t.span a (a + n)) d := by
        show t.span (a + d) (a + d + n) = t.span (a + d) (a + n + d)
        rw [show a + d + n = a + n + d by omega]
      split
      · rw [hsp]; rfl
      · rw [hsp, show a + d + n = (a + n) + d by omega, allV_shift lim d r (a + n) (l.drop n)]
        rfl

/-- what All tells of these bytes -/
def allOf (lim : Nat) (l : Bs) : List StepV × Nat := allV lim (l.length + 1) 0 l

theorem allOf_none {lim : Nat} {l : Bs} (h : oneV lim l = none) : allOf lim l = ([], l.length) := by
  unfold allOf allV
  rw [h]
theorem allOf_some {lim : Nat} {l : Bs} {t : StepV} {n : Nat} (h : oneV lim l = some (t, n)) :
    allOf lim l = if t.cmd.verb = 18 then ([t.span 0 n], 0) else (t.span 0 n :: (allOf lim (l.drop n)).1.map (fun t => StepV.shifted t n), (allOf lim (l.drop n)).2) := by
  have hn := oneV_in h
  unfold allOf
  conv => lhs; unfold allV
  rw [h]
  dsimp only
  rw [Nat.zero_add]
  split
  · rfl
  · have e := allV_shift lim n l.length 0 (l.drop n)
    rw [Nat.zero_add] at e
    rw [e, allV_fuel lim l.length ((l.drop n).length + 1) 0 (l.drop n) (by rw [List.length_drop]; omega) (by omega)]
theorem allOf_nil (lim : Nat) : allOf lim [] = ([], 0) := allOf_none (by unfold oneV indexOf; rfl)

/-- one step's bytes alone -/
theorem allOf_one {lim : Nat} {l : Bs} {t : StepV} {n : Nat} (h : oneV lim l = some (t, n)) : allOf lim (l.take n) = ([t.span 0 n], 0) := by
  have hn := oneV_in h
  rw [allOf_some (oneV_cut h)]
  split
  · rfl
  · have e : (l.take n).drop n = [] := by rw [List.drop_eq_nil_iff, List.length_take]; omega
    rw [e, allOf_nil]
    rfl

/-- the steps from the k-th on, and the bytes at which they begin -/
structure AllAt (lim : Nat) (l : Bs) (k a : Nat) (quit : Bool) : Prop where
  le : a ≤ l.length
  kle : k ≤ (allOf lim l).1.length
  rest : quit = false → (allOf lim l).1.drop k = (allOf lim (l.drop a)).1.map (fun t => StepV.shifted t a) ∧ (allOf lim l).2 = (allOf lim (l.drop a)).2
  over : quit = true → (allOf lim l).1.drop k = [] ∧ (allOf lim l).2 = 0
  last : k = 0 → a = 0 ∧ quit = false
  prev : ∀ j, k = j + 1 → ∃ t, (allOf lim l).1[j]? = some t ∧ t.to = a ∧ quit = decide (t.cmd.verb = 18)

theorem AllAt.start (lim : Nat) (l : Bs) : AllAt lim l 0 0 false :=
  ⟨Nat.zero_le _, Nat.zero_le _, fun _ => ⟨by
    rw [List.drop_zero, List.drop_zero]
    have : (fun t : StepV => StepV.shifted t 0) = id := by funext t; rfl
    rw [this, List.map_id], by rw [List.drop_zero]⟩, fun h => (by cases h), fun _ => ⟨rfl, rfl⟩, fun j h => by omega⟩

/-- one step on -/
theorem AllAt.on {lim : Nat} {l : Bs} {k a : Nat} {quit : Bool} (h : AllAt lim l k a quit) (hk : k < (allOf lim l).1.length) :
    ∃ t n, quit = false ∧ oneV lim (l.drop a) = some (t, n) ∧ (allOf lim l).1[k]? = some (t.span a (a + n)) ∧ 0 < n ∧ a + n ≤ l.length ∧ AllAt lim l (k + 1) (a + n) (decide (t.cmd.verb = 18)) := by
  have hq : quit = false := by
    cases quit with
    | false => rfl
    | true =>
      have := (h.over rfl).1
      rw [List.drop_eq_nil_iff] at this
      omega
  subst hq
  obtain ⟨h1, h2⟩ := h.rest rfl
  cases ho : oneV lim (l.drop a) with
  | none =>
    rw [allOf_none ho] at h1
    have := congrArg List.length h1
    simp at this
    omega
  | some y =>
    obtain ⟨t, n⟩ := y
    have hn := oneV_in ho
    rw [List.length_drop] at hn
    have hle := h.le
    rw [allOf_some ho] at h1 h2
    have hsp : StepV.shifted (t.span 0 n) a = t.span a (a + n) := by
      show t.span (0 + a) (n + a) = t.span a (a + n)
      rw [Nat.zero_add, Nat.add_comm]
    have hget : (allOf lim l).1[k]? = some (t.span a (a + n)) := by
      have e : (allOf lim l).1[k]? = ((allOf lim l).1.drop k)[0]? := by rw [List.getElem?_drop, Nat.add_zero]
      rw [e, h1, ← hsp]
      split <;> rfl
    have hd : (allOf lim l).1.drop (k + 1) = ((allOf lim l).1.drop k).drop 1 := by rw [List.drop_drop]
    refine ⟨t, n, rfl, rfl, hget, hn.1, by omega, ⟨by omega, hk, fun hv => ?_, fun hv => ?_, fun h0 => by omega, fun j hj => ?_⟩⟩
    · have hv' := of_decide_eq_false hv
      rw [if_neg hv'] at h1 h2
      rw [hd, h1, h2, List.drop_drop]
      refine ⟨?_, rfl⟩
      simp only [List.map_cons, List.drop_succ_cons, List.drop_zero, List.map_map]
      apply List.map_congr_left
      intro x _
      show x.span (x.frm + n + a) (x.to + n + a) = x.span (x.frm + (a + n)) (x.to + (a + n))
      rw [show x.frm + n + a = x.frm + (a + n) by omega, show x.to + n + a = x.to + (a + n) by omega]
    · have hv' := of_decide_eq_true hv
      rw [if_pos hv'] at h1 h2
      rw [hd, h1, h2]
      exact ⟨rfl, rfl⟩
    · have : j = k := by omega
      subst this
      exact ⟨_, hget, rfl, rfl⟩

/-- a beginning of the bytes: just the steps that end in it -/
theorem allOf_take (lim : Nat) : ∀ (N : Nat) (l : Bs), l.length ≤ N → ∀ (m : Nat), m ≤ l.length → ∃ n, n ≤ (allOf lim l).1.length ∧ (∀ j t, j < n → (allOf lim l).1[j]? = some t → t.to ≤ m) ∧ (∀ t, (allOf lim l).1[n]? = some t → m < t.to) ∧
    (allOf lim (l.take m)).1 = (allOf lim l).1.take n ∧ (n = 0 → (allOf lim (l.take m)).2 = m) ∧ (∀ j t, n = j + 1 → (allOf lim l).1[j]? = some t → t.cmd.verb ≠ 18 → (allOf lim (l.take m)).2 = m - t.to)
  | N, l, hN, m, hm => by
    cases ho : oneV lim l with
    | none =>
      rw [allOf_none ho, allOf_none (oneV_take_none ho m)]
      refine ⟨0, Nat.zero_le _, fun j t h => by omega, fun t h => by simp at h, rfl, fun _ => by simp; omega, fun j t h => by omega⟩
    | some y =>
      obtain ⟨t, n⟩ := y
      have hn := oneV_in ho
      have ht := oneV_take ho m
      by_cases hnm : n ≤ m
      · rw [if_pos hnm] at ht
        rw [allOf_some ho, allOf_some ht]
        by_cases hv : t.cmd.verb = 18
        · rw [if_pos hv, if_pos hv]
          refine ⟨1, by simp, fun j t' h h2 => ?_, fun t' h2 => by simp at h2, by simp, fun h => by omega, fun j t' h1 h2 h3 => ?_⟩
          · have : j = 0 := by omega
            subst this
            simp at h2
            subst h2
            exact hnm
          · have : j = 0 := by omega
            subst this
            simp at h2
            subst h2
            exact absurd hv h3
        · rw [if_neg hv, if_neg hv]
          cases N with
          | zero => omega
          | succ N =>
            obtain ⟨q, q1, q2, q3, q4, q5, q6⟩ := allOf_take lim N (l.drop n) (by rw [List.length_drop]; omega) (m - n) (by rw [List.length_drop]; omega)
            have hdt : (l.take m).drop n = (l.drop n).take (m - n) := by rw [List.drop_take]
            rw [hdt, q4]
            have hcons : ∀ (j : Nat) (t' : StepV), (t.span 0 n :: (allOf lim (l.drop n)).1.map fun t => StepV.shifted t n)[j + 1]? = some t' → ∃ u, (allOf lim (l.drop n)).1[j]? = some u ∧ t' = StepV.shifted u n := by
              intro j t' h
              rw [List.getElem?_cons_succ, List.getElem?_map] at h
              obtain ⟨u, h1, h2⟩ := Option.map_eq_some_iff.1 h
              exact ⟨u, h1, h2.symm⟩
            refine ⟨q + 1, by simp; exact q1, fun j t' h h2 => ?_, fun t' h2 => ?_, ?_, fun h => by omega, fun j t' h1 h2 h3 => ?_⟩
            · cases j with
              | zero => simp at h2; subst h2; exact hnm
              | succ j =>
                obtain ⟨u, h3, rfl⟩ := hcons j t' h2
                have := q2 j u (by omega) h3
                show u.to + n ≤ m
                omega
            · obtain ⟨u, h3, rfl⟩ := hcons q t' h2
              have := q3 u h3
              show m < u.to + n
              omega
            · rw [List.take_succ_cons, List.map_take]
            · dsimp only
              have : j = q := by omega
              subst this
              cases j with
              | zero =>
                simp at h2
                subst h2
                rw [q5 rfl]
                rfl
              | succ j =>
                obtain ⟨u, h4, rfl⟩ := hcons j t' h2
                rw [q6 j u rfl h4 h3]
                show m - n - u.to = m - (u.to + n)
                omega
      · rw [if_neg hnm] at ht
        rw [allOf_none ht]
        refine ⟨0, Nat.zero_le _, fun j t h => by omega, fun t' h2 => ?_, by simp, fun _ => by simp; omega, fun j t h => by omega⟩
        rw [allOf_some ho] at h2
        have : t' = t.span 0 n := by
          split at h2 <;> simp at h2 <;> exact h2.symm
        subst this
        show m < n
        omega
end Go.Proofs.YtbiakncngmgbkaaGreatDoor
end
