/- What is told is right: a wrong line's texts, a command's keys, their count, its flags; each step's own bytes. In Lean alone. -/
import Derived.Test.YticigfpieeoolaaGreatDoorPj
import Derived.Test.YticigfpieeoolaaGreatDoorZ2
namespace Go.Proofs.YticigfpieeoolaaGreatDoor
open Go.Lib Sp

/-- the texts of a wrong line or block -/
def textsV (w : WrongV) : Bool :=
  if w.text = [] then decide (w.kind = 1) && decide (w.pass = -1)
  else if w.text = tooLong ∨ w.text = badChunk then decide (w.kind = 2) && decide (w.pass = -1)
  else if w.text = badFormat ∨ w.text = badTime ∨ w.text = badDelta ∨ w.text = invalidFlag ∨ w.text = twiceFlag ∨ w.text = opaqueLong ∨ w.text = badToken then decide (w.kind = 2) && decide (-1 ≤ w.pass) && decide (w.pass ≤ 2147483647)
  else false
def midTexts : List Bs := [badFormat, badTime, badDelta, invalidFlag, twiceFlag, opaqueLong, badToken]
theorem mid_texts : ∀ e ∈ midTexts, e ≠ [] ∧ ¬(e = tooLong ∨ e = badChunk) ∧ (e = badFormat ∨ e = badTime ∨ e = badDelta ∨ e = invalidFlag ∨ e = twiceFlag ∨ e = opaqueLong ∨ e = badToken) := by decide
theorem texts_mid {e : Bs} {p : Int} (h : e ∈ midTexts) (h1 : -1 ≤ p) (h2 : p ≤ 2147483647) : textsV ⟨2, e, p⟩ = true := by
  obtain ⟨a, b, c⟩ := mid_texts e h
  unfold textsV
  dsimp only
  rw [if_neg a, if_neg b, if_pos c]
  simp [h1, h2]
theorem flagOf_mid (v : Nat) (ah : List FlagV) (f : FlagV) : flagOf v ah f = [] ∨ flagOf v ah f ∈ midTexts := by
  unfold flagOf
  split
  · exact .inr (by decide)
  · split
    · exact .inr (by decide)
    · split
      · exact .inr (by decide)
      · split
        · exact .inr (by decide)
        · exact .inl rfl
theorem flagsGo_mid (v : Nat) : ∀ (l ah : List FlagV), flagsGo v ah l = [] ∨ flagsGo v ah l ∈ midTexts
  | [], _ => .inl rfl
  | f :: t, ah => by
    unfold flagsGo
    split
    · exact flagsGo_mid v t _
    · rename_i h
      rcases flagOf_mid v ah f with h1 | h1
      · exact absurd h1 h
      · exact .inr h1
theorem wordAt_mid {c : CmdV} {b : Int} {k : UInt8} {w e : Bs} (h : wordAt c b k w = .error e) : e ∈ midTexts := by
  unfold wordAt at h
  by_cases k0 : k = 75
  · rw [if_pos k0] at h
    by_cases hq : legal w = true
    · rw [if_pos hq] at h; cases h
    · rw [if_neg hq] at h; injection h with h; rw [← h]; decide
  rw [if_neg k0] at h
  by_cases k1 : k = 70
  · rw [if_pos k1] at h
    cases hn : number w 4294967295 with
    | some n => rw [hn] at h; cases h
    | none => rw [hn] at h; injection h with h; rw [← h]; decide
  rw [if_neg k1] at h
  by_cases k2 : k = 78
  · rw [if_pos k2] at h
    cases hn : number w 2147483647 with
    | some n => rw [hn] at h; cases h
    | none => rw [hn] at h; injection h with h; rw [← h]; decide
  rw [if_neg k2] at h
  by_cases k3 : k = 86
  · rw [if_pos k3] at h
    cases hn : number w 2147483647 with
    | some n => rw [hn] at h; cases h
    | none => rw [hn] at h; injection h with h; rw [← h]; decide
  rw [if_neg k3] at h
  by_cases k4 : k = 67
  · rw [if_pos k4] at h
    cases hn : number w 18446744073709551615 with
    | some n => rw [hn] at h; cases h
    | none => rw [hn] at h; injection h with h; rw [← h]; decide
  rw [if_neg k4] at h
  by_cases k5 : k = 68
  · rw [if_pos k5] at h
    cases hn : number w 18446744073709551615 with
    | some n => rw [hn] at h; cases h
    | none => rw [hn] at h; injection h with h; rw [← h]; decide
  rw [if_neg k5] at h
  by_cases k6 : k = 48
  · rw [if_pos k6] at h
    by_cases hq : w = [48]
    · rw [if_pos hq] at h; cases h
    · rw [if_neg hq] at h; injection h with h; rw [← h]; decide
  rw [if_neg k6] at h
  by_cases k7 : k = 87
  · rw [if_pos k7] at h
    by_cases hq : w = slabsW ∨ w = resetW
    · rw [if_pos hq] at h; cases h
    · rw [if_neg hq] at h; injection h with h; rw [← h]; decide
  rw [if_neg k7] at h
  by_cases k8 : k = 71
  · rw [if_pos k8] at h
    dsimp only at h
    by_cases hq : flagsOf c.verb (c.metas ++ [{ letter := w.headD 0, arg := w.drop 1, has := decide (1 < w.length) }]) = []
    · rw [if_pos hq] at h; cases h
    · rw [if_neg hq] at h
      injection h with h
      rcases flagsGo_mid c.verb (c.metas ++ [{ letter := w.headD 0, arg := w.drop 1, has := decide (1 < w.length) }]) [] with h1 | h1
      · exact absurd h1 hq
      · rw [← h]; exact h1
  rw [if_neg k8] at h
  cases hn : timeOf w with
  | none => rw [hn] at h; injection h with h; rw [← h]; decide
  | some t =>
    rw [hn] at h
    dsimp only at h
    by_cases hq : k = 83 ∧ t < 0
    · rw [if_pos hq] at h; injection h with h; rw [← h]; decide
    · rw [if_neg hq] at h; cases h
theorem wordsAt_mid {ps : Bs} : ∀ (ws : List Bs) (i : Nat) (c : CmdV) (b : Int) {e : Bs}, wordsAt ps i c b ws = .error e → e ∈ midTexts
  | [], _, _, _, _, h => by cases h
  | w :: t, i, c, b, e, h => by
    unfold wordsAt at h
    cases hw : wordAt c b (ps.getD (min i (ps.length - 1)) 0) w with
    | ok y => rw [hw] at h; exact wordsAt_mid t _ _ _ h
    | error e' =>
      rw [hw] at h
      injection h with h
      subst h
      exact wordAt_mid hw
theorem passOf_bounds (r : RowV) (ws : List Bs) : -1 ≤ passOf r ws ∧ passOf r ws ≤ 2147483647 := by
  unfold passOf
  split
  · split
    · split
      · rename_i h
        have := number_fit h
        omega
      · decide
    · decide
  · decide
theorem line_bad {l : Bs} {w : WrongV} (h : lineOf l = .bad w) : textsV w = true := by
  unfold lineOf at h
  split at h
  · injection h with h; subst h; decide
  · split at h
    · injection h with h; subst h; decide
    · split at h
      · injection h with h; subst h; decide
      · unfold rest at h
        dsimp only at h
        generalize (if isNoreply _ _ = true then _ else _ : List Bs) = ar at h
        split at h
        · injection h with h; subst h
          exact texts_mid (by decide) (passOf_bounds _ _).1 (passOf_bounds _ _).2
        · split at h
          · cases h
          · rename_i he
            injection h with h; subst h
            exact texts_mid (wordsAt_mid _ _ _ _ he) (passOf_bounds _ _).1 (passOf_bounds _ _).2
theorem one_wrong {lim : Nat} {l : Bs} {t : StepV} {n : Nat} (h : oneV lim l = some (t, n)) (hv : t.cmd.verb = 0) : t.cmd = {} ∧ textsV t.wrong = true := by
  unfold oneV at h
  cases he : indexOf l 10 with
  | none => rw [he] at h; cases h
  | some e =>
    rw [he] at h
    dsimp only at h
    cases hr : lineOf (chop (l.take e)) with
    | bad w =>
      rw [hr] at h
      dsimp only at h
      split at h
      · obtain ⟨y, _, hy⟩ := Option.map_eq_some_iff.1 h
        injection hy with hy _
        subst hy; exact ⟨rfl, line_bad hr⟩
      · injection h with h; injection h with h _
        subst h; exact ⟨rfl, line_bad hr⟩
    | ok c k =>
      rw [hr] at h
      dsimp only at h
      obtain ⟨m1, _⟩ := line_may hr
      split at h
      · injection h with h; injection h with g1 _
        subst g1
        exact absurd hv (by show c.verb ≠ 0; omega)
      · obtain ⟨y, hy, h⟩ := Option.map_eq_some_iff.1 h
        injection h with g1 g2
        split at g1
        · subst g1
          exact absurd hv (by show c.verb ≠ 0; omega)
        · split at g1
          · subst g1
            exact absurd hv (by show c.verb ≠ 0; omega)
          · subst g1
            exact ⟨rfl, by decide⟩

/-- each step is told of its own bytes -/
theorem told_step {lim k : Nat} {l : Bs} {t : StepV} (h : (allOf lim l).1[k]? = some t) :
    ∃ n t0, oneV lim (l.drop t.frm) = some (t0, n) ∧ t.cmd = t0.cmd ∧ t.wrong = t0.wrong ∧ t.to = t.frm + n ∧ t.to ≤ l.length := by
  have hk := (List.getElem?_eq_some_iff.1 h).1
  obtain ⟨a, q, hA⟩ := AllAt.upto (lim := lim) (l := l) k (by omega)
  cases q with
  | true =>
    have := (hA.over rfl).1
    have h2 : ((allOf lim l).1.drop k)[0]? = some t := by rw [List.getElem?_drop]; exact h
    rw [this] at h2; cases h2
  | false =>
    have h1 := (hA.rest rfl).1
    have h2 : ((allOf lim l).1.drop k)[0]? = some t := by rw [List.getElem?_drop]; exact h
    rw [h1, List.getElem?_map] at h2
    obtain ⟨t1, ht1, hs⟩ := Option.map_eq_some_iff.1 h2
    have hu : allOf lim (l.drop a) = allV lim ((l.drop a).length + 1) 0 (l.drop a) := rfl
    rw [hu] at ht1
    unfold allV at ht1
    cases ho : oneV lim (l.drop a) with
    | none => rw [ho] at ht1; cases ht1
    | some y =>
      obtain ⟨t0, n⟩ := y
      rw [ho] at ht1
      dsimp only at ht1
      have e1 : t1 = t0.span 0 (0 + n) := by
        split at ht1 <;> (injection ht1 with ht1; exact ht1.symm)
      subst e1
      subst hs
      have hf : (StepV.shifted (t0.span 0 (0 + n)) a).frm = a := by simp [StepV.shifted, StepV.span]
      have hto : (StepV.shifted (t0.span 0 (0 + n)) a).to = a + n := by simp [StepV.shifted, StepV.span]; omega
      rw [hf]
      exact ⟨n, t0, ho, rfl, rfl, hto, (allOf_in h).2⟩

/-- how many keys a verb has -/
def countedV (v n : Nat) : Bool :=
  if v = 1 ∨ v = 2 ∨ v = 3 ∨ v = 4 then decide (1 ≤ n)
  else if v = 15 ∨ v = 16 ∨ v = 17 ∨ v = 18 ∨ v = 19 ∨ v = 24 then decide (n = 0)
  else decide (n = 1)
theorem keyed_rows : ∀ v : Fin 24, (75 ∈ (rowBy (v.val + 1)).places) ↔ ¬(v.val + 1 = 15 ∨ v.val + 1 = 16 ∨ v.val + 1 = 17 ∨ v.val + 1 = 18 ∨ v.val + 1 = 19 ∨ v.val + 1 = 24) := by decide
theorem block_rows : ∀ v : Fin 24, (rowBy (v.val + 1)).block = true → v.val + 1 = 21 ∨ (5 ≤ v.val + 1 ∧ v.val + 1 ≤ 10) := by decide
theorem counted_may {c : CmdV} (h1 : 1 ≤ c.verb) (h2 : c.verb ≤ 24) (h : MayR (rowBy c.verb) c) : countedV c.verb c.keys.length = true := by
  have hk := keyed_rows ⟨c.verb - 1, by omega⟩
  rw [show (⟨c.verb - 1, by omega⟩ : Fin 24).val + 1 = c.verb by show c.verb - 1 + 1 = c.verb; omega] at hk
  unfold countedV
  by_cases hin : (75 : UInt8) ∈ (rowBy c.verb).places
  · have hn := hk.1 hin
    have hne : 1 ≤ c.keys.length := by
      rcases Nat.eq_zero_or_pos c.keys.length with h0 | h0
      · exact absurd (List.length_eq_zero_iff.1 h0) (h.keyed1 hin)
      · exact h0
    split
    · exact decide_eq_true hne
    · rename_i h4
      have := h.one (by omega)
      exact decide_eq_true (by omega)
  · have hn := Decidable.not_not.1 fun hx => hin (hk.2 hx)
    have h0 := h.keyed0 hin
    rw [if_neg (by omega), if_pos hn, h0]
    rfl
theorem block_may {v : Nat} (h1 : 1 ≤ v) (h2 : v ≤ 24) (h : (rowBy v).block = true) : v = 21 ∨ (5 ≤ v ∧ v ≤ 10) := by
  have hk := block_rows ⟨v - 1, by omega⟩
  rw [show (⟨v - 1, by omega⟩ : Fin 24).val + 1 = v by show v - 1 + 1 = v; omega] at hk
  exact hk h

theorem tails_has : ∀ {l : List Bs} {x : Bs}, x ∈ l → x.length < tails l
  | y :: t, x, h => by
    rw [tails]
    rcases List.mem_cons.1 h with rfl | h
    · omega
    · have := tails_has h; omega
theorem line_args {l : Bs} {c : CmdV} {n : Int} (h : lineOf l = .ok c n) : ∀ f ∈ c.metas, f.arg.length ≤ 2048 := fun f hf => by
  obtain ⟨_, _, _, _, m5, _, m7, m8⟩ := line_may h
  have h8 := m8 (List.replicate n.toNat 0) (fun hb => by
    rcases m7 with ⟨_, h1, _⟩ | ⟨h0, _⟩
    · rw [List.length_replicate]; omega
    · rw [h0] at hb; cases hb)
  have hj := join_tails (partsV (rowBy c.verb) (wordBy c.verb) { c with data := List.replicate n.toNat 0 }) (by rw [parts_args]; simp)
  have hp : (71 : UInt8) ∈ (rowBy c.verb).places := by
    rcases Decidable.em ((71 : UInt8) ∈ (rowBy c.verb).places) with h0 | h0
    · exact h0
    · rw [m5.metas0 h0] at hf; cases hf
  have hin : (f.letter :: f.arg) ∈ partsV (rowBy c.verb) (wordBy c.verb) { c with data := List.replicate n.toNat 0 } := by
    rw [parts_args]
    refine List.mem_cons_of_mem _ (List.mem_append_left _ ?_)
    unfold argsV
    refine List.mem_flatMap.2 ⟨71, hp, ?_⟩
    unfold putV
    simp only [if_neg (show ¬ (71 : UInt8) = 75 by decide), if_pos]
    exact List.mem_map.2 ⟨f, hf, rfl⟩
  have := tails_has hin
  rw [List.length_cons] at this
  omega
theorem one_args {lim : Nat} {l : Bs} {t : StepV} {n : Nat} (h : oneV lim l = some (t, n)) : ∀ f ∈ t.cmd.metas, f.arg.length ≤ 2048 := by
  unfold oneV at h
  cases he : indexOf l 10 with
  | none => rw [he] at h; cases h
  | some e =>
    rw [he] at h
    dsimp only at h
    cases hr : lineOf (chop (l.take e)) with
    | bad w =>
      rw [hr] at h
      dsimp only at h
      split at h
      · obtain ⟨y, _, hy⟩ := Option.map_eq_some_iff.1 h
        injection hy with hy _
        subst hy; exact fun f hf => by cases hf
      · injection h with h; injection h with h _
        subst h; exact fun f hf => by cases hf
    | ok c k =>
      rw [hr] at h
      dsimp only at h
      have ha := line_args hr
      split at h
      · injection h with h; injection h with g1 _
        subst g1
        exact ha
      · obtain ⟨y, hy, h⟩ := Option.map_eq_some_iff.1 h
        injection h with g1 g2
        split at g1
        · subst g1; exact ha
        · split at g1
          · subst g1; exact ha
          · subst g1; exact fun f hf => by cases hf

/-- what WordsRight asks of each command that is told -/
structure RightV (l : Bs) (c : CmdV) (wr : WrongV) (frm fin : Nat) : Prop where
  v1 : 1 ≤ c.verb
  v2 : c.verb ≤ 24
  wrong : wr = {}
  count : countedV c.verb c.keys.length = true
  flags : c.flags ≤ 4294967295
  metas : flagsOf c.verb c.metas = []
  what : c.what ≠ [] → c.verb = 19 ∧ (c.what = slabsW ∨ c.what = resetW)
  keys : ∀ k ∈ c.keys, keyV k = true
  large : c.large = true → c.data = [] ∧ (c.verb = 21 ∨ (5 ≤ c.verb ∧ c.verb ≤ 10))
  again : c.large = false → againV c = true
  range : Range c
  dlen : c.data.length ≤ 2147483647
  line : c.large = false → (lineV c).length ≤ 2048
  args : ∀ f ∈ c.metas, f.arg.length ≤ 2048
  data : c.data ≠ [] → frm + c.data.length + 2 ≤ fin ∧ fin ≤ l.length ∧ c.data = (l.drop (fin - 2 - c.data.length)).take c.data.length
theorem told_right {lim k : Nat} {l : Bs} {t : StepV} (h : (allOf lim l).1[k]? = some t) (hv : t.cmd.verb ≠ 0) : RightV l t.cmd t.wrong t.frm t.to := by
  obtain ⟨n, t0, ho, hc, hw, hto, hle⟩ := told_step h
  have hv0 : t0.cmd.verb ≠ 0 := by rw [← hc]; exact hv
  obtain ⟨k1, k2, k3, k4, k5, k6, k7, k8, k9⟩ := one_told ho hv0
  have ha : t0.cmd.large = false → againV t0.cmd = true := told_again ho hv0
  have hargs := one_args ho
  rw [← hc] at k1 k2 k3 k4 k5 k7 k8 k9 ha hargs
  refine ⟨k1, k2, by rw [hw, k6], counted_may k1 k2 k3, k3.flags, k3.metas, fun hx => ⟨?_, k3.what hx⟩, k3.keys, fun hx => ⟨(k8 hx).1, block_may k1 k2 (k8 hx).2⟩, ha, k4, k5, k7, hargs, fun hx => ?_⟩
  · rcases Nat.decEq t.cmd.verb 19 with h0 | h0
    · exact absurd (k3.what0 h0) hx
    · exact h0
  · obtain ⟨g1, g2⟩ := k9 hx
    refine ⟨by omega, hle, ?_⟩
    rw [List.drop_drop] at g2
    rw [show t.to - 2 - t.cmd.data.length = t.frm + (n - 2 - t.cmd.data.length) by omega]
    exact g2
/-- its writing is not long -/
theorem RightV.small {l : Bs} {c : CmdV} {wr : WrongV} {frm fin : Nat} (h : RightV l c wr frm fin) (hl : c.large = false) (hlen : l.length ≤ 65536) :
    (outV c).length ≤ 100000000 ∧ (partsV (rowBy c.verb) (wordBy c.verb) c).length ≤ 100000000 ∧ c.data.length ≤ 65536 := by
  have h1 := h.line hl
  unfold lineV at h1
  have hj := join_tails (partsV (rowBy c.verb) (wordBy c.verb) c) (by rw [parts_args]; simp)
  have hc : ∀ l : List Bs, l.length ≤ tails l := fun l => by
    induction l with
    | nil => exact Nat.zero_le _
    | cons y r ih => rw [tails, List.length_cons]; omega
  have hc1 := hc (partsV (rowBy c.verb) (wordBy c.verb) c)
  have hd : c.data.length ≤ 65536 := by
    rcases Decidable.em (c.data = []) with h0 | h0
    · rw [h0]; simp
    · have := h.data h0; omega
  refine ⟨?_, by omega, hd⟩
  unfold outV
  rw [List.length_append, List.length_append]
  have : (if (rowBy c.verb).block = true then c.data ++ [13, 10] else []).length ≤ c.data.length + 2 := by split <;> simp
  simp only [List.length_cons, List.length_nil]
  omega
theorem told_wrong {lim k : Nat} {l : Bs} {t : StepV} (h : (allOf lim l).1[k]? = some t) (hv : t.cmd.verb = 0) : t.cmd = {} ∧ textsV t.wrong = true := by
  obtain ⟨n, t0, ho, hc, hw, _, _⟩ := told_step h
  have := one_wrong ho (by rw [← hc]; exact hv)
  rw [hc, hw]
  exact this
end Go.Proofs.YticigfpieeoolaaGreatDoor
