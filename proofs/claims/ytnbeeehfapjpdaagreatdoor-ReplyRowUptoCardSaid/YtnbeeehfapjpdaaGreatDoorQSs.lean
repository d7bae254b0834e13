/- Plain laws of reading replies: what is told stays told, whatever comes behind. No program in sight. Plain laws of reading replies: the whole of Read; what is told is what stands there. No program in sight. Plain laws of reading replies: what is told stands there; what is written is read. No program in sight. Plain laws of reading replies: an answer that is told fits, and its bytes are those that were read. No program in sight. Plain laws of reading replies: what is written of an answer that fits is read again. No program in sight. Plain laws of reading replies: what is written is read, whole. No program in sight. Plain laws of reading replies: an answer that fits comes out again, whatever stands behind it. No program in sight. -/
import Derived.Test.YtnbeeehfapjpdaaGreatDoorSr
import Derived.Lib.ItoaNum
section
namespace Go.Proofs.YtnbeeehfapjpdaaGreatDoor
namespace Sp

/-- what a reader tells (but that more is wanted) it tells whatever stands behind; and no byte behind the end is counted -/
def SteadyAt {α : Type} (r : Bs → Nat → RdV α) (raw : Bs) (p : Nat) : Prop :=
  match r raw p with
  | .got x q => p ≤ q ∧ q ≤ raw.length ∧ ∀ b, r (raw ++ b) p = .got x q
  | .fail => ∀ b, r (raw ++ b) p = .fail
  | .more => True
def Steady {α : Type} (r : Bs → Nat → RdV α) : Prop := ∀ raw p, p ≤ raw.length → SteadyAt r raw p
section
variable {α β : Type} {raw : Bs} {p : Nat}
theorem SteadyAt.got {r : Bs → Nat → RdV α} (h : SteadyAt r raw p) {x : α} {q : Nat} (e : r raw p = .got x q) : p ≤ q ∧ q ≤ raw.length ∧ ∀ b, r (raw ++ b) p = .got x q := by
  unfold SteadyAt at h; rw [e] at h; exact h
theorem SteadyAt.fail {r : Bs → Nat → RdV α} (h : SteadyAt r raw p) (e : r raw p = .fail) : ∀ b, r (raw ++ b) p = .fail := by
  unfold SteadyAt at h; rw [e] at h; exact h
theorem SteadyAt.next {r : Bs → Nat → RdV α} {k : α → Bs → Nat → RdV β} (h : SteadyAt r raw p) (hk : ∀ x q, r raw p = .got x q → SteadyAt (k x) raw q) : SteadyAt (fun raw p => (r raw p).next fun x q => k x raw q) raw p := by
  unfold SteadyAt
  dsimp only
  cases e : r raw p with
  | more => exact trivial
  | fail =>
    show ∀ b, _
    intro b
    rw [h.fail e b]; rfl
  | got x q =>
    obtain ⟨h1, h2, h3⟩ := h.got e
    have hq := hk x q e
    show match k x raw q with | .got x q => _ | .fail => _ | .more => _
    cases e2 : k x raw q with
    | more => exact trivial
    | fail =>
      show ∀ b, _
      intro b
      rw [h3 b]
      exact hq.fail e2 b
    | got y q' =>
      obtain ⟨g1, g2, g3⟩ := hq.got e2
      refine ⟨by omega, g2, fun b => ?_⟩
      rw [h3 b]
      exact g3 b
theorem Steady.next {r : Bs → Nat → RdV α} {k : α → Bs → Nat → RdV β} (h : Steady r) (hk : ∀ x, Steady (k x)) : Steady fun raw p => (r raw p).next fun x q => k x raw q := fun raw p hp =>
  (h raw p hp).next fun x q e => hk x raw q ((h raw p hp).got e).2.1
theorem Steady.ret (x : α) : Steady fun _ p => RdV.got x p := fun _ _ hp => ⟨Nat.le_refl _, hp, fun _ => rfl⟩
theorem Steady.no : Steady fun _ _ => (RdV.fail : RdV α) := fun _ _ _ => fun _ => rfl
theorem Steady.ite {r r' : Bs → Nat → RdV α} {c : Prop} [Decidable c] (h : Steady r) (h' : Steady r') : Steady fun raw p => if c then r raw p else r' raw p := by
  by_cases hc : c
  · simpa [hc] using h
  · simpa [hc] using h'
theorem drop_more (hp : p ≤ raw.length) (b : Bs) : (raw ++ b).drop p = raw.drop p ++ b := List.drop_append_of_le_length hp
theorem prefix_either {s d b : Bs} (h : s <+: d ++ b) : s <+: d ∨ d <+: s := List.prefix_or_prefix_of_prefix h (List.prefix_append d b)
theorem steady_want (s : Bs) : Steady fun raw p => wantV raw p s := fun raw p hp => by
  unfold SteadyAt wantV
  simp only [List.isPrefixOf_iff_prefix]
  have hd : (raw.drop p).length = raw.length - p := List.length_drop
  by_cases h1 : s <+: raw.drop p
  · rw [if_pos h1]
    have := h1.length_le
    refine ⟨by omega, by omega, fun b => ?_⟩
    rw [drop_more hp, if_pos (h1.trans (List.prefix_append _ _))]
  · rw [if_neg h1]
    by_cases h2 : raw.drop p <+: s
    · rw [if_pos h2]; exact trivial
    · rw [if_neg h2]
      intro b
      rw [drop_more hp, if_neg (fun e => (prefix_either e).elim h1 h2), if_neg (fun e => h2 ((List.prefix_append _ _).trans e))]
/-- no text begins another one -/
def Parted (ts : List Bs) : Prop := ∀ (i j : Nat) (s t : Bs), ts[i]? = some s → ts[j]? = some t → s <+: t → i = j
theorem steady_choose {ts : List Bs} (ht : Parted ts) : Steady fun raw p => chooseV raw p ts := fun raw p hp => by
  unfold SteadyAt chooseV
  have hd : (raw.drop p).length = raw.length - p := List.length_drop
  dsimp only
  cases e : ts.findIdx? fun s => s.isPrefixOf (raw.drop p) with
  | some i =>
    obtain ⟨hi, h1, h2⟩ := List.findIdx?_eq_some_iff_getElem.1 e
    rw [List.isPrefixOf_iff_prefix] at h1
    have hg : ts.getD i [] = ts[i] := by rw [List.getD_eq_getElem?_getD, List.getElem?_eq_getElem hi]; rfl
    have := h1.length_le
    show p ≤ p + _ ∧ _ ∧ _
    rw [hg]
    refine ⟨by omega, by omega, fun b => ?_⟩
    have e' : (ts.findIdx? fun s => s.isPrefixOf ((raw ++ b).drop p)) = some i := by
      rw [drop_more hp]
      refine List.findIdx?_eq_some_iff_getElem.2 ⟨hi, by rw [List.isPrefixOf_iff_prefix]; exact h1.trans (List.prefix_append _ _), fun j hj => ?_⟩
      intro hc
      rw [List.isPrefixOf_iff_prefix] at hc
      have hj2 := h2 j hj
      rw [Bool.not_eq_true, Bool.eq_false_iff, Ne, List.isPrefixOf_iff_prefix] at hj2
      rcases prefix_either hc with h3 | h3
      · exact hj2 h3
      · have := ht i j _ _ (List.getElem?_eq_getElem hi) (List.getElem?_eq_getElem (by omega)) (h1.trans h3)
        omega
    rw [e']
    dsimp only
    rw [hg]
  | none =>
    have hn : ∀ t ∈ ts, ¬ t <+: raw.drop p := fun t hm => by
      have := List.findIdx?_eq_none_iff.1 e t hm
      rw [← List.isPrefixOf_iff_prefix, this]; simp
    by_cases ha : (ts.any fun s => (raw.drop p).isPrefixOf s) = true
    · simp only [ha, if_true]
    · have ha' : ∀ t ∈ ts, ¬ raw.drop p <+: t := fun t hm h => ha (by rw [List.any_eq_true]; exact ⟨t, hm, by rw [List.isPrefixOf_iff_prefix]; exact h⟩)
      simp only [ha, Bool.false_eq_true, if_false]
      intro b
      have e' : (ts.findIdx? fun s => s.isPrefixOf ((raw ++ b).drop p)) = none := by
        rw [drop_more hp]
        refine List.findIdx?_eq_none_iff.2 fun t hm => ?_
        rw [Bool.eq_false_iff, Ne, List.isPrefixOf_iff_prefix]
        exact fun h => (prefix_either h).elim (hn t hm) (ha' t hm)
      have a' : (ts.any fun s => ((raw ++ b).drop p).isPrefixOf s) = false := by
        rw [drop_more hp, Bool.eq_false_iff, Ne, List.any_eq_true]
        rintro ⟨t, hm, h⟩
        rw [List.isPrefixOf_iff_prefix] at h
        exact ha' t hm ((List.prefix_append _ _).trans h)
      rw [e']
      dsimp only
      rw [a']; rfl
theorem number_more (most p : Nat) (b : Bs) : ∀ (l : Bs) (i n : Nat), (numberFrom most p i n l = .more) ∨ (numberFrom most p i n (l ++ b) = numberFrom most p i n l ∧ ∀ x q, numberFrom most p i n l = .got x q → p + i ≤ q ∧ q ≤ p + i + l.length)
  | [], i, n => .inl rfl
  | c :: t, i, n => by
    show (numberFrom most p i n (c :: t) = .more) ∨ (numberFrom most p i n (c :: (t ++ b)) = numberFrom most p i n (c :: t) ∧ _)
    unfold numberFrom
    by_cases h1 : c < 48 ∨ 57 < c
    · rw [if_pos h1, if_pos h1]
      refine .inr ⟨rfl, fun x q h => ?_⟩
      split at h
      · cases h
      · injection h with _ h
        simp only [List.length_cons]; omega
    · rw [if_neg h1, if_neg h1]
      by_cases h2 : (0 < i ∧ n = 0) ∨ (most - (c.toNat - 48)) / 10 < n
      · rw [if_pos h2, if_pos h2]
        exact .inr ⟨rfl, fun x q h => by cases h⟩
      · rw [if_neg h2, if_neg h2]
        rcases number_more most p b t (i + 1) (10 * n + (c.toNat - 48)) with h | ⟨h3, h4⟩
        · exact .inl h
        · refine .inr ⟨h3, fun x q h => ?_⟩
          have := h4 x q h
          simp only [List.length_cons]; omega
theorem steady_number (most : Nat) : Steady fun raw p => numberR raw most p := fun raw p hp => by
  unfold SteadyAt
  dsimp only
  have hd : (raw.drop p).length = raw.length - p := List.length_drop
  have hb : ∀ b, numberR raw most p ≠ .more → numberR (raw ++ b) most p = numberR raw most p := fun b hn => by
    unfold numberR at hn ⊢
    rw [drop_more hp]
    exact ((number_more most p b (raw.drop p) 0 0).resolve_left hn).1
  cases e : numberR raw most p with
  | more => exact trivial
  | fail =>
    show ∀ b, _
    intro b
    rw [hb b (by rw [e]; simp), e]
  | got x q =>
    have := ((number_more most p [] (raw.drop p) 0 0).resolve_left (by show numberR raw most p ≠ _; rw [e]; simp)).2 x q e
    exact ⟨by omega, by omega, fun b => by rw [hb b (by rw [e]; simp), e]⟩
theorem steady_data (n : Nat) : Steady fun raw p => dataR raw n p := fun raw p hp => by
  unfold SteadyAt dataR
  have hd : (raw.drop p).length = raw.length - p := List.length_drop
  dsimp only
  by_cases h : (raw.drop p).length < n
  · rw [if_pos h]; exact trivial
  · rw [if_neg h]
    refine ⟨by omega, by omega, fun b => ?_⟩
    rw [drop_more hp, if_neg (by rw [List.length_append]; omega), List.take_append_of_le_length (by omega)]
theorem plain_last {s : Bs} (h : plainV s = true) : s.length ≤ 512 ∧ s.head? ≠ some 32 ∧ s.getLast? ≠ some 32 := by
  unfold plainV at h
  simp only [Bool.and_eq_true, decide_eq_true_eq] at h
  exact ⟨h.1.1.2, h.1.2.1, h.1.2.2⟩
theorem steady_text : Steady fun raw p => textR raw p := fun raw p hp => by
  unfold SteadyAt textR
  have hd : (raw.drop p).length = raw.length - p := List.length_drop
  obtain ⟨d, hdd⟩ : ∃ d, d = raw.drop p := ⟨_, rfl⟩
  have hb : ∀ b, (raw ++ b).drop p = d ++ b := fun b => by rw [drop_more hp, hdd]
  simp only [hb]
  rw [← hdd] at hd ⊢
  cases e : d.findIdx? fun c => decide (c < 32 ∨ 126 < c) with
  | some i =>
    obtain ⟨hi, h1, h2⟩ := List.findIdx?_eq_some_iff_getElem.1 e
    have e' : ∀ b, ((d ++ b).findIdx? fun c => decide (c < 32 ∨ 126 < c)) = some i := fun b => by rw [List.findIdx?_append, e]; rfl
    have ht : ∀ b, (d ++ b).take i = d.take i := fun b => List.take_append_of_le_length (by omega)
    dsimp only
    by_cases hpl : plainV (d.take i) = true
    · rw [if_pos hpl]
      refine ⟨by omega, by omega, fun b => ?_⟩
      rw [e' b]
      dsimp only
      rw [ht b, if_pos hpl]
    · rw [if_neg hpl]
      intro b
      rw [e' b]
      dsimp only
      rw [ht b, if_neg hpl]
  | none =>
    dsimp only
    by_cases hc : 512 < d.length ∨ (d.length = 512 ∧ d.getLast? = some 32) ∨ d.head? = some 32
    · rw [if_pos hc]
      intro b
      cases e' : (d ++ b).findIdx? fun c => decide (c < 32 ∨ 126 < c) with
      | none =>
        dsimp only
        rw [if_pos]
        rcases hc with h | ⟨h1, h2⟩ | h
        · left; rw [List.length_append]; omega
        · cases b with
          | nil => rw [List.append_nil]; exact .inr (.inl ⟨h1, h2⟩)
          | cons x t => left; rw [List.length_append, List.length_cons]; omega
        · right; right
          cases d with
          | nil => cases h
          | cons x t => exact h
      | some i =>
        dsimp only
        have hi : d.length ≤ i := by
          rcases Nat.lt_or_ge i d.length with h | h
          · obtain ⟨_, h1, _⟩ := List.findIdx?_eq_some_iff_getElem.1 e'
            rw [List.getElem_append_left h] at h1
            have := List.findIdx?_eq_none_iff.1 e d[i] (List.getElem_mem h)
            rw [this] at h1; cases h1
          · exact h
        have ht : (d ++ b).take i = d ++ b.take (i - d.length) := by rw [List.take_append, List.take_of_length_le hi]
        rw [ht, if_neg]
        intro hpl
        obtain ⟨p1, p2, p3⟩ := plain_last hpl
        rw [List.length_append] at p1
        rcases hc with h | ⟨h1, h2⟩ | h
        · omega
        · have hz : b.take (i - d.length) = [] := List.eq_nil_of_length_eq_zero (by omega)
          rw [hz, List.append_nil] at p3
          exact p3 h2
        · cases d with
          | nil => cases h
          | cons x t => exact p2 h
    · rw [if_neg hc]; exact trivial
/-- the texts that may stand where an entry may -/
def Nice (ts : List Bs) : Prop := ∃ ks : List Bs, ts = (endV ++ crlf) :: ks.map (fun k => valueV ++ [32] ++ k ++ [32]) ∧ ks.Nodup ∧ ∀ k ∈ ks, legalR k = true
theorem legal_blank {k : Bs} (h : legalR k = true) : (32 : UInt8) ∉ k := fun hm => by
  unfold legalR at h
  simp only [Bool.and_eq_true, List.all_eq_true] at h
  have := h.2 32 hm
  simp [oddV] at this
theorem key_alone : ∀ {k1 k2 : Bs}, (32 : UInt8) ∉ k2 → k1 ++ [32] <+: k2 ++ [32] → k1 = k2
  | [], [], _, _ => rfl
  | [], c :: k2, h, ⟨t, e⟩ => by
    simp only [List.nil_append, List.cons_append, List.cons.injEq] at e
    exact absurd (by rw [e.1]; exact List.mem_cons_self ..) h
  | c :: k1, [], _, ⟨t, e⟩ => by
    simp only [List.nil_append, List.cons_append, List.cons.injEq] at e
    have := congrArg List.length e.2
    simp at this
  | c :: k1, c' :: k2, h, ⟨t, e⟩ => by
    simp only [List.cons_append, List.cons.injEq] at e
    have := key_alone (k1 := k1) (k2 := k2) (fun hm => h (List.mem_cons_of_mem _ hm)) ⟨t, e.2⟩
    rw [e.1, this]
theorem Nice.parted {ts : List Bs} (h : Nice ts) : Parted ts := by
  obtain ⟨ks, rfl, hn, hl⟩ := h
  intro i j s t hi hj hst
  have hval : ∀ (i : Nat) (s : Bs), (ks.map (fun k => valueV ++ [32] ++ k ++ [32]))[i]? = some s → ∃ k, ks[i]? = some k ∧ s = valueV ++ [32] ++ k ++ [32] := fun i s h => by
    rw [List.getElem?_map, Option.map_eq_some_iff] at h
    obtain ⟨k, h1, h2⟩ := h
    exact ⟨k, h1, h2.symm⟩
  cases i with
  | zero =>
    cases j with
    | zero => rfl
    | succ j =>
      obtain rfl : endV ++ crlf = s := by simpa using hi
      obtain ⟨k, _, rfl⟩ := hval j t (by simpa using hj)
      obtain ⟨r, e⟩ := hst
      simp [endV, valueV] at e
  | succ i =>
    obtain ⟨k1, h1, rfl⟩ := hval i s (by simpa using hi)
    cases j with
    | zero =>
      obtain rfl : endV ++ crlf = t := by simpa using hj
      obtain ⟨r, e⟩ := hst
      simp [endV, valueV] at e
    | succ j =>
      obtain ⟨k2, h2, rfl⟩ := hval j t (by simpa using hj)
      have : k1 = k2 := key_alone (legal_blank (hl k2 (List.mem_of_getElem? h2))) (by
        obtain ⟨r, e⟩ := hst
        refine ⟨r, ?_⟩
        simp only [List.append_assoc] at e ⊢
        exact List.append_cancel_left (List.append_cancel_left e))
      subst this
      obtain ⟨a1, b1⟩ := List.getElem?_eq_some_iff.1 h1
      obtain ⟨a2, b2⟩ := List.getElem?_eq_some_iff.1 h2
      have := (List.getElem_inj hn).1 (b1.trans b2.symm)
      omega
theorem valueTexts_nice : ∀ (ks : List Bs) {ts : List Bs}, Nice ts → Nice (valueTexts ts ks)
  | [], _, h => h
  | k :: ks, ts, h => by
    unfold valueTexts
    by_cases hc : legalR k = true ∧ (valueV ++ [32] ++ k ++ [32]) ∉ ts.drop 1
    · rw [if_pos hc]
      refine valueTexts_nice ks ?_
      obtain ⟨ls, rfl, hn, hl⟩ := h
      refine ⟨ls ++ [k], by simp, ?_, fun x hx => ?_⟩
      · rw [List.nodup_append]
        refine ⟨hn, by simp, fun a ha b hb e => ?_⟩
        rw [List.mem_singleton] at hb
        subst hb e
        refine hc.2 ?_
        show _ ∈ ls.map _
        exact List.mem_map.2 ⟨a, ha, rfl⟩
      · rcases List.mem_append.1 hx with hx | hx
        · exact hl x hx
        · rw [List.mem_singleton.1 hx]; exact hc.1
    · rw [if_neg hc]
      exact valueTexts_nice ks h
theorem texts_parted (ks : List Bs) : Parted (valueTexts [endV ++ crlf] ks) := (valueTexts_nice ks ⟨[], rfl, List.nodup_nil, fun _ h => by cases h⟩).parted
theorem steady_values (v : Int) : ∀ (r : Nat) (keys : List Bs) (out : List EntryV), Steady fun raw p => valuesFrom raw v r keys out p
  | 0, _, _ => fun _ _ _ => trivial
  | r + 1, keys, out => by
    unfold valuesFrom
    dsimp only
    refine (steady_choose (texts_parted keys)).next fun i => ?_
    refine Steady.ite (Steady.ret _) ?_
    refine (steady_number _).next fun fl => (steady_want _).next fun _ => (steady_number _).next fun n => ?_
    refine Steady.next (Steady.ite ((steady_want _).next fun _ => steady_number _) (Steady.ret _)) fun tk => ?_
    exact (steady_want _).next fun _ => (steady_data n).next fun d => (steady_want _).next fun _ => steady_values v r _ _
theorem name_more {d b : Bs} (hd : d ≠ []) (h : nameR d = false) : nameR (d ++ b) = false := by
  unfold nameR at h ⊢
  by_cases h1 : d.length ≤ 250
  · have h2 : (d.all fun c => decide (32 < c ∧ c ≤ 126)) = false := by
      rw [decide_eq_true hd, decide_eq_true h1] at h
      simpa using h
    rw [List.all_append, h2]; simp
  · rw [decide_eq_false (p := (d ++ b).length ≤ 250) (by rw [List.length_append]; omega)]; simp
theorem steady_statName : Steady fun raw p => statNameR raw p := fun raw p hp => by
  unfold SteadyAt statNameR
  have hd : (raw.drop p).length = raw.length - p := List.length_drop
  obtain ⟨d, hdd⟩ : ∃ d, d = raw.drop p := ⟨_, rfl⟩
  have hb : ∀ b, (raw ++ b).drop p = d ++ b := fun b => by rw [drop_more hp, hdd]
  simp only [hb]
  rw [← hdd] at hd ⊢
  cases e : d.findIdx? fun c => decide (c = 32) with
  | some i =>
    obtain ⟨hi, _, _⟩ := List.findIdx?_eq_some_iff_getElem.1 e
    have e' : ∀ b, ((d ++ b).findIdx? fun c => decide (c = 32)) = some i := fun b => by rw [List.findIdx?_append, e]; rfl
    have ht : ∀ b, (d ++ b).take i = d.take i := fun b => List.take_append_of_le_length (by omega)
    dsimp only
    by_cases hn : nameR (d.take i) = false
    · rw [if_pos hn]
      intro b
      rw [e' b]
      dsimp only
      rw [ht b, if_pos hn]
    · rw [if_neg hn]
      refine ⟨by omega, by omega, fun b => ?_⟩
      rw [e' b]
      dsimp only
      rw [ht b, if_neg hn]
  | none =>
    dsimp only
    by_cases hc : d ≠ [] ∧ nameR d = false
    · rw [if_pos hc]
      intro b
      cases e' : (d ++ b).findIdx? fun c => decide (c = 32) with
      | none =>
        dsimp only
        rw [if_pos ⟨by simp [hc.1], name_more hc.1 hc.2⟩]
      | some i =>
        dsimp only
        have hi : d.length ≤ i := by
          rcases Nat.lt_or_ge i d.length with h | h
          · obtain ⟨_, h1, _⟩ := List.findIdx?_eq_some_iff_getElem.1 e'
            rw [List.getElem_append_left h] at h1
            have := List.findIdx?_eq_none_iff.1 e d[i] (List.getElem_mem h)
            rw [this] at h1; cases h1
          · exact h
        have ht : (d ++ b).take i = d ++ b.take (i - d.length) := by rw [List.take_append, List.take_of_length_le hi]
        rw [ht, if_pos (name_more hc.1 hc.2)]
    · rw [if_neg hc]; exact trivial
theorem steady_stats : ∀ (r : Nat) (out : List (Bs × Nat)), Steady fun raw p => statsFrom raw r out p
  | 0, _ => fun _ _ _ => trivial
  | r + 1, out => by
    unfold statsFrom
    refine (steady_choose (ts := [endV ++ crlf, statV ++ [32]]) ?_).next fun i => Steady.ite (Steady.ret _) (steady_statName.next fun s => (steady_number _).next fun n => (steady_want _).next fun _ => steady_stats r _)
    intro i j s t hi hj hst
    match i, j with
    | 0, 0 => rfl
    | 1, 1 => rfl
    | 0, 1 => simp at hi hj; subst hi hj; exact absurd hst (by decide)
    | 1, 0 => simp at hi hj; subst hi hj; exact absurd hst (by decide)
    | i + 2, _ => simp at hi
    | _, j + 2 => simp at hj
theorem steady_flagHead (b : Nat) : Steady fun raw p => flagHead raw b p := fun raw p hp => by
  unfold SteadyAt flagHead
  obtain ⟨d, hdd⟩ : ∃ d, d = raw.drop p := ⟨_, rfl⟩
  have hb : ∀ b, (raw ++ b).drop p = d ++ b := fun b => by rw [drop_more hp, hdd]
  simp only [hb]
  rw [← hdd]
  by_cases h0 : d = []
  · rw [if_pos h0]
    by_cases h1 : 2048 < p - b
    · rw [if_pos h1]
      intro b'
      by_cases h2 : d ++ b' = []
      · simp [h2]
      · simp [h2, h1]
    · rw [if_neg h1]; exact trivial
  · rw [if_neg h0]
    by_cases h1 : 2048 < p - b
    · rw [if_pos h1]
      intro b'
      rw [if_neg (by simp [h0]), if_pos h1]
    · rw [if_neg h1]
      refine ⟨Nat.le_refl _, hp, fun b' => ?_⟩
      rw [if_neg (by simp [h0]), if_neg h1]
      cases d with
      | nil => exact absurd rfl h0
      | cons c t => rfl
theorem findIdx_more {f : UInt8 → Bool} {d : Bs} (b : Bs) : (d.findIdx f < d.length → (d ++ b).findIdx f = d.findIdx f) ∧ (¬ d.findIdx f < d.length → d.findIdx f = d.length ∧ (d ++ b).findIdx f = d.length + b.findIdx f) := by
  have h := List.findIdx_append (p := f) (l₁ := d) (l₂ := b)
  refine ⟨fun h1 => ?_, fun h1 => ?_⟩
  · rw [h, if_pos h1]
  · refine ⟨Nat.le_antisymm List.findIdx_le_length (by omega), ?_⟩
    rw [h, if_neg h1]; omega
theorem steady_flagStep (b : Nat) : Steady fun raw p => flagStep raw b p := fun raw p hp => by
  unfold SteadyAt flagStep
  have hd : (raw.drop p).length = raw.length - p := List.length_drop
  obtain ⟨d, hdd⟩ : ∃ d, d = raw.drop p := ⟨_, rfl⟩
  have hb : ∀ b, (raw ++ b).drop p = d ++ b := fun b => by rw [drop_more hp, hdd]
  simp only [hb]
  rw [← hdd] at hd ⊢
  by_cases hw : d.findIdx oddV < d.length
  · have hm := fun b => (findIdx_more (f := oddV) (d := d) b).1 hw
    have hw2 : ∀ b : Bs, d.findIdx oddV < (d ++ b).length := fun b => by rw [List.length_append]; omega
    simp only [hm, if_pos hw, if_pos (hw2 _)]
    by_cases h1 : 251 < d.findIdx oddV ∨ d.findIdx oddV = 0 ∨ 2048 < p + d.findIdx oddV - b
    · simp only [if_pos h1]; intro _; trivial
    · simp only [if_neg h1]
      exact ⟨by omega, by omega, fun _ => trivial⟩
  · have hm := fun b => (findIdx_more (f := oddV) (d := d) b).2 hw
    have hm2 : ∀ b : Bs, (d ++ b).findIdx oddV = d.length + b.findIdx oddV := fun b => (hm b).2
    rw [if_neg hw]
    by_cases h1 : 251 < d.length ∨ 2048 < p + d.length - b ∨ (d.length = 0 ∧ p - b = 2048)
    · rw [if_pos h1]
      intro b'
      rw [hm2 b', List.length_append]
      have hb0 : b'.findIdx oddV ≤ b'.length := List.findIdx_le_length
      by_cases h3 : d.length + b'.findIdx oddV < d.length + b'.length
      · rw [if_pos h3, if_pos]
        rcases h1 with h | h | ⟨h, h'⟩
        · left; omega
        · right; right; omega
        · by_cases h4 : b'.findIdx oddV = 0
          · right; left; omega
          · right; right; omega
      · rw [if_neg h3, if_pos]
        rcases h1 with h | h | ⟨h, h'⟩
        · left; omega
        · right; left; omega
        · by_cases h4 : b'.length = 0
          · right; right; exact ⟨by omega, h'⟩
          · right; left; omega
    · rw [if_neg h1]; exact trivial
theorem steady_flags (b : Nat) : ∀ r : Nat, Steady fun raw p => flagsFrom raw b r p
  | 0 => fun _ _ _ => trivial
  | r + 1 => by
    unfold flagsFrom
    exact (steady_flagHead b).next fun done => Steady.ite (Steady.ret _) ((steady_want _).next fun _ => (steady_flagStep b).next fun _ => steady_flags b r)
theorem next_keep {a : RdV α} {k k' : α → Nat → RdV β} (h : ∀ x q, k x q ≠ .more → k' x q = k x q) (hn : a.next k ≠ .more) : a.next k' = a.next k := by
  cases a with
  | got x q => exact h x q hn
  | more => rfl
  | fail => rfl
theorem stats_step (raw : Bs) : ∀ (r : Nat) (out : List (Bs × Nat)) (p : Nat), statsFrom raw r out p ≠ .more → statsFrom raw (r + 1) out p = statsFrom raw r out p
  | 0, _, _, h => absurd rfl h
  | r + 1, out, p, h => by
    have e : ∀ r, statsFrom raw (r + 1) out p = (chooseV raw p [endV ++ crlf, statV ++ [32]]).next fun i p1 => if i = 0 then .got out p1 else (statNameR raw p1).next fun s p2 => (numberR raw 18446744073709551615 p2).next fun n p3 => (wantV raw p3 crlf).next fun _ p4 => statsFrom raw r (out ++ [(s, n)]) p4 := fun _ => rfl
    rw [e r] at h
    rw [e (r + 1), e r]
    refine next_keep (fun i q hn => ?_) h
    by_cases hi : i = 0
    · rw [if_pos hi, if_pos hi]
    · rw [if_neg hi] at hn ⊢
      rw [if_neg hi]
      exact next_keep (fun s q2 hn => next_keep (fun n q3 hn => next_keep (fun _ q4 hn => stats_step raw r _ _ hn) hn) hn) hn
theorem stats_fuel (raw : Bs) (out : List (Bs × Nat)) (p : Nat) {r : Nat} (h : statsFrom raw r out p ≠ .more) : ∀ k, statsFrom raw (r + k) out p = statsFrom raw r out p
  | 0 => rfl
  | k + 1 => by rw [← stats_fuel raw out p h k]; exact stats_step raw (r + k) out p (by rw [stats_fuel raw out p h k]; exact h)
theorem flags_step (raw : Bs) (b : Nat) : ∀ (r : Nat) (p : Nat), flagsFrom raw b r p ≠ .more → flagsFrom raw b (r + 1) p = flagsFrom raw b r p
  | 0, _, h => absurd rfl h
  | r + 1, p, h => by
    have e : ∀ r, flagsFrom raw b (r + 1) p = (flagHead raw b p).next fun done p0 => if done then .got () p0 else (wantV raw p0 [32]).next fun _ p1 => (flagStep raw b p1).next fun _ p2 => flagsFrom raw b r p2 := fun _ => rfl
    rw [e r] at h
    rw [e (r + 1), e r]
    refine next_keep (fun i q hn => ?_) h
    cases i with
    | true => rfl
    | false => exact next_keep (fun s q2 hn => next_keep (fun n q3 hn => flags_step raw b r _ hn) hn) hn
theorem flags_fuel (raw : Bs) (b p : Nat) {r : Nat} (h : flagsFrom raw b r p ≠ .more) : ∀ k, flagsFrom raw b (r + k) p = flagsFrom raw b r p
  | 0 => rfl
  | k + 1 => by rw [← flags_fuel raw b p h k]; exact flags_step raw b (r + k) p (by rw [flags_fuel raw b p h k]; exact h)
theorem steady_statsAll (out : List (Bs × Nat)) : Steady fun raw p => statsFrom raw (raw.length + 1) out p := fun raw p hp => by
  have h := steady_stats (raw.length + 1) out raw p hp
  unfold SteadyAt at h ⊢
  dsimp only at h ⊢
  cases e : statsFrom raw (raw.length + 1) out p with
  | more => exact trivial
  | fail =>
    rw [e] at h
    show ∀ b, _
    intro b
    have := stats_fuel (raw ++ b) out p (r := raw.length + 1) (by rw [h b]; simp) b.length
    rw [h b] at this
    rw [← this]
    congr 1; rw [List.length_append]; omega
  | got x q =>
    rw [e] at h
    refine ⟨h.1, h.2.1, fun b => ?_⟩
    have := stats_fuel (raw ++ b) out p (r := raw.length + 1) (by rw [h.2.2 b]; simp) b.length
    rw [h.2.2 b] at this
    rw [← this]
    congr 1; rw [List.length_append]; omega
theorem steady_flagsAll (b : Nat) : Steady fun raw p => flagsFrom raw b (raw.length + 1) p := fun raw p hp => by
  have h := steady_flags b (raw.length + 1) raw p hp
  unfold SteadyAt at h ⊢
  dsimp only at h ⊢
  cases e : flagsFrom raw b (raw.length + 1) p with
  | more => exact trivial
  | fail =>
    rw [e] at h
    show ∀ b, _
    intro b'
    have := flags_fuel (raw ++ b') b p (r := raw.length + 1) (by rw [h b']; simp) b'.length
    rw [h b'] at this
    rw [← this]
    congr 1; rw [List.length_append]; omega
  | got x q =>
    rw [e] at h
    refine ⟨h.1, h.2.1, fun b' => ?_⟩
    have := flags_fuel (raw ++ b') b p (r := raw.length + 1) (by rw [h.2.2 b']; simp) b'.length
    rw [h.2.2 b'] at this
    rw [← this]
    congr 1; rw [List.length_append]; omega
theorem SteadyAt.ret {g : Bs → Nat → α} (hp : p ≤ raw.length) (hg : ∀ b, g (raw ++ b) p = g raw p) : SteadyAt (fun raw p => RdV.got (g raw p) p) raw p := ⟨Nat.le_refl _, hp, fun b => by show RdV.got (g (raw ++ b) p) p = _; rw [hg b]⟩
/-- parted, to be decided -/
def partedB (ts : List Bs) : Bool := (List.range ts.length).all fun i => (List.range ts.length).all fun j => !(ts.getD i []).isPrefixOf (ts.getD j []) || decide (i = j)
theorem parted_of {ts : List Bs} (h : partedB ts = true) : Parted ts := fun i j s t hi hj hst => by
  obtain ⟨h1, h2⟩ := List.getElem?_eq_some_iff.1 hi
  obtain ⟨h3, h4⟩ := List.getElem?_eq_some_iff.1 hj
  unfold partedB at h
  have := List.all_eq_true.1 (List.all_eq_true.1 h i (List.mem_range.2 h1)) j (List.mem_range.2 h3)
  rw [List.getD_eq_getElem?_getD, List.getD_eq_getElem?_getD, hi, hj] at this
  simp only [Option.getD_some, Bool.or_eq_true, Bool.not_eq_true', decide_eq_true_eq] at this
  rcases this with h5 | h5
  · rw [← List.isPrefixOf_iff_prefix, h5] at hst; cases hst
  · exact h5
theorem codes_parted (v : Int) : Parted (codesV v) := by
  refine parted_of ?_
  unfold codesV
  split
  · decide
  · split
    · decide
    · split
      · decide
      · split <;> decide
theorem steady_coded (v : Int) : Steady fun raw b => codedR raw v b := fun raw b hb => by
  have key : SteadyAt (fun raw p => (chooseV raw p (codesV v)).next fun i p => codedRest raw v b i p) raw b := ?_
  exact key
  refine (steady_choose (codes_parted v) raw b hb).next (k := fun i raw p => codedRest raw v b i p) fun i p hi => ?_
  unfold codedRest
  have h1 := ((steady_choose (codes_parted v) raw b hb).got hi)
  have hp := h1.2.1
  by_cases hc : (codesV v).getD i [] = [69, 78] ∨ (codesV v).getD i [] = [77, 78]
  · simp only [if_pos hc]
    exact ((steady_want crlf).next fun _ => Steady.ret _) raw p hp
  · simp only [if_neg hc]
    have hn : Steady fun raw p => (if (codesV v).getD i [] = [86, 65] then (wantV raw p [32]).next fun _ p1 => numberR raw 1048576 p1 else RdV.got 0 p : RdV Nat) := Steady.ite ((steady_want _).next fun _ => steady_number _) (Steady.ret _)
    refine (hn raw p hp).next fun n p2 h2 => ?_
    have hp2 := (hn raw p hp).got h2
    refine (steady_flagsAll b raw p2 hp2.2.1).next fun _ p3 h3 => ?_
    have hp3 := (steady_flagsAll b raw p2 hp2.2.1).got h3
    have hbp : b ≤ p3 := by omega
    have htake : ∀ b', ((raw ++ b').drop b).take (p3 - b) = (raw.drop b).take (p3 - b) := fun b' => by
      rw [drop_more hb, List.take_append_of_le_length (by rw [List.length_drop]; omega)]
    have key2 : SteadyAt (fun raw p => (wantV raw p crlf).next fun _ p4 => codedLast raw v b i n p3 p4) raw p3 := ?_
    exact key2
    refine (steady_want crlf raw p3 hp3.2.1).next (k := fun _ raw p4 => codedLast raw v b i n p3 p4) fun _ p4 h4 => ?_
    unfold codedLast
    have hp4 := (steady_want crlf raw p3 hp3.2.1).got h4
    by_cases hva : (codesV v).getD i [] = [86, 65]
    · simp only [if_pos hva]
      refine (steady_data n raw p4 hp4.2.1).next fun d p5 h5 => ?_
      have hp5 := (steady_data n raw p4 hp4.2.1).got h5
      refine (steady_want crlf raw p5 hp5.2.1).next fun _ p6 h6 => ?_
      exact SteadyAt.ret (g := fun raw _ => ({ kind := 15, text := (raw.drop b).take (p3 - b), entries := [{ value := d }] } : AnswerV)) ((steady_want crlf raw p5 hp5.2.1).got h6).2.1 (fun b' => by simp only [htake])
    · simp only [if_neg hva]
      exact SteadyAt.ret (g := fun raw _ => ({ kind := 15, text := (raw.drop b).take (p3 - b) } : AnswerV)) hp4.2.1 (fun b' => by simp only [htake])
end
end Sp
end Go.Proofs.YtnbeeehfapjpdaaGreatDoor
end
section
namespace Go.Proofs.YtnbeeehfapjpdaaGreatDoor
namespace Sp
section
variable {α β : Type} {raw : Bs} {p : Nat}
theorem Steady.ite' {r r' : Bs → Nat → RdV α} {c : Prop} [Decidable c] (h : c → Steady r) (h' : ¬ c → Steady r') : Steady fun raw p => if c then r raw p else r' raw p := by
  by_cases hc : c
  · simpa [hc] using h hc
  · simpa [hc] using h' hc
theorem kinds_cases (v : Int) (what : Bs) : kindsV v what ∈ ([[], [9], [1, 2], [1, 3, 4], [5, 4], [7, 4], [6, 4], [8], [10], [12], [14], [13], [15, 12], [15]] : List (List Int)) := by
  unfold kindsV
  by_cases h1 : v = 1 ∨ v = 2 ∨ v = 3 ∨ v = 4
  · rw [if_pos h1]; decide
  rw [if_neg h1]
  by_cases h2 : v = 5 ∨ v = 6 ∨ v = 7 ∨ v = 8 ∨ v = 9
  · rw [if_pos h2]; decide
  rw [if_neg h2]
  by_cases h3 : v = 10
  · rw [if_pos h3]; decide
  rw [if_neg h3]
  by_cases h4 : v = 11
  · rw [if_pos h4]; decide
  rw [if_neg h4]
  by_cases h5 : v = 12 ∨ v = 13
  · rw [if_pos h5]; decide
  rw [if_neg h5]
  by_cases h6 : v = 14
  · rw [if_pos h6]; decide
  rw [if_neg h6]
  by_cases h7 : v = 15 ∨ v = 17
  · rw [if_pos h7]; decide
  rw [if_neg h7]
  by_cases h8 : v = 16
  · rw [if_pos h8]; decide
  rw [if_neg h8]
  by_cases h9 : v = 18
  · rw [if_pos h9]; decide
  rw [if_neg h9]
  by_cases h10 : v = 19
  · rw [if_pos h10]
    by_cases hw : what = [114, 101, 115, 101, 116]
    · rw [if_pos hw]; decide
    · rw [if_neg hw]; decide
  rw [if_neg h10]
  by_cases h11 : v = 20 ∨ v = 21 ∨ v = 22 ∨ v = 23
  · rw [if_pos h11]; decide
  rw [if_neg h11]
  by_cases h12 : v = 24
  · rw [if_pos h12]; decide
  · rw [if_neg h12]; decide
theorem texts_nice (ks : List Bs) : Nice (valueTexts [endV ++ crlf] ks) := valueTexts_nice ks ⟨[], rfl, List.nodup_nil, fun _ h => by cases h⟩
theorem kinds_parted {v : Int} {what : Bs} (h : (kindsV v what).headD 0 ≠ 15) : Parted ((kindsV v what).map fun k => fixedV k ++ crlf) ∧ Parted (((kindsV v what).drop 1).map fun k => fixedV k ++ crlf) := by
  have hk := kinds_cases v what
  generalize kindsV v what = l at h hk
  simp only [List.mem_cons, List.not_mem_nil, or_false] at hk
  rcases hk with rfl | rfl | rfl | rfl | rfl | rfl | rfl | rfl | rfl | rfl | rfl | rfl | rfl | rfl
  all_goals first | exact ⟨parted_of (by decide), parted_of (by decide)⟩ | exact absurd rfl h
theorem kinds_seven {v : Int} {what : Bs} (h : (kindsV v what).headD 0 = 7) : kindsV v what = [7, 4] := by
  have hk := kinds_cases v what
  generalize kindsV v what = l at h hk
  simp only [List.mem_cons, List.not_mem_nil, or_false] at hk
  rcases hk with rfl | rfl | rfl | rfl | rfl | rfl | rfl | rfl | rfl | rfl | rfl | rfl | rfl | rfl
  all_goals first | rfl | exact absurd h (by decide)
theorem steady_refused : Steady fun raw b => refusedR raw b := by
  unfold refusedR
  exact (steady_choose (parted_of (by decide))).next fun i => Steady.ite (Steady.ret _) (steady_text.next fun s => (steady_want _).next fun _ => Steady.ret _)
theorem steady_digit {r r' : Bs → Nat → RdV α} (h : Steady r) (h' : Steady r') (h0 : ∀ raw p, raw.drop p = [] → r' raw p = .more) : Steady fun raw p => if digitAt raw p then r raw p else r' raw p := fun raw p hp => by
  by_cases hd : raw.drop p = []
  · unfold SteadyAt
    dsimp only
    have : digitAt raw p = false := by unfold digitAt; rw [hd]; rfl
    rw [this, if_neg (by decide), h0 raw p hd]; exact trivial
  · have he : ∀ b, digitAt (raw ++ b) p = digitAt raw p := fun b => by
      unfold digitAt
      rw [drop_more hp]
      cases e : raw.drop p with
      | nil => exact absurd e hd
      | cons c t => rfl
    cases hc : digitAt raw p with
    | true =>
      have := h raw p hp
      unfold SteadyAt at this ⊢
      simpa only [he, hc, if_true] using this
    | false =>
      have := h' raw p hp
      unfold SteadyAt at this ⊢
      simpa only [he, hc, Bool.false_eq_true, if_false] using this
theorem steady_read (v : Int) (keys : List Bs) (what : Bs) : Steady fun raw b => readR raw v keys what b := by
  unfold readR
  refine Steady.ite ((steady_statsAll []).next fun x => Steady.ret _) (Steady.ite' (fun _ => steady_coded v) fun hne => ?_)
  obtain ⟨h1, h2⟩ := kinds_parted hne
  refine Steady.ite ((steady_values v _ keys []).next fun x => Steady.ret _) (Steady.ite ((steady_want _).next fun _ => steady_text.next fun s => (steady_want _).next fun _ => Steady.ret _) (Steady.ite' (fun h7 => ?_) fun _ => (steady_choose h1).next fun i => Steady.ret _))
  refine steady_digit ((steady_number _).next fun n => (steady_want _).next fun _ => Steady.ret _) ((steady_choose h2).next fun i => Steady.ret _) fun raw p hd => ?_
  rw [kinds_seven h7]
  unfold chooseV
  rw [hd]
  rfl

/-- what Read comes to, where it looks -/
def outcomeR (raw : Bs) (v : Int) (keys : List Bs) (what : Bs) : RdV AnswerV :=
  match readR raw v keys what 0 with
  | .got a p => .got a p
  | .more => match refusedR raw 0 with
    | .got b m => .got b m
    | _ => .more
  | .fail => refusedR raw 0
theorem answer_outcome {v : Int} {keys : List Bs} {what : Bs} (h : kindsV v what ≠ []) (hq : v ≠ 18) : answerR raw v keys what false = match outcomeR raw v keys what with
    | .got a p => (a, p, 0)
    | .more => ({}, 0, 0)
    | .fail => ({}, 0, 7) := by
  unfold answerR outcomeR
  rw [if_neg h, if_neg (by simp [hq])]
  cases readR raw v keys what 0 with
  | got a p => rfl
  | more => cases refusedR raw 0 <;> rfl
  | fail => cases refusedR raw 0 <;> rfl
/-- a text that begins with other letters -/
def away (c d : UInt8) (s : Bs) : Bool := match s with
  | x :: y :: _ => !(decide (x = c) && decide (y = d))
  | _ => false
theorem away_no {c d : UInt8} {s t : Bs} (h : away c d s = true) : ¬ s <+: c :: d :: t ∧ ¬ (c :: d :: t) <+: s := by
  match s, h with
  | x :: y :: s', h =>
    unfold away at h
    refine ⟨fun ⟨r, e⟩ => ?_, fun ⟨r, e⟩ => ?_⟩
    · simp only [List.cons_append, List.cons.injEq] at e
      simp [e.1, e.2.1] at h
    · simp only [List.cons_append, List.cons.injEq] at e
      simp [← e.1, ← e.2.1] at h
theorem choose_away {c d : UInt8} {t : Bs} {ts : List Bs} (h : ∀ s ∈ ts, away c d s = true) : chooseV (c :: d :: t) 0 ts = .fail := by
  unfold chooseV
  rw [List.drop_zero]
  have e : (ts.findIdx? fun s => s.isPrefixOf (c :: d :: t)) = none := List.findIdx?_eq_none_iff.2 fun s hs => by
    rw [Bool.eq_false_iff, Ne, List.isPrefixOf_iff_prefix]
    exact (away_no (h s hs)).1
  have a : (ts.any fun s => (c :: d :: t).isPrefixOf s) = false := by
    rw [Bool.eq_false_iff, Ne, List.any_eq_true]
    rintro ⟨s, hs, hp⟩
    rw [List.isPrefixOf_iff_prefix] at hp
    exact (away_no (h s hs)).2 hp
  rw [e]
  dsimp only
  rw [a]; rfl
theorem want_away {c d : UInt8} {t s : Bs} (h : away c d s = true) : wantV (c :: d :: t) 0 s = .fail := by
  obtain ⟨h1, h2⟩ := away_no (t := t) h
  unfold wantV
  rw [List.drop_zero, if_neg (by rw [List.isPrefixOf_iff_prefix]; exact h1), if_neg (by rw [List.isPrefixOf_iff_prefix]; exact h2)]
/-- the two letters at a refusal's head -/
def RefLet (c d : UInt8) : Prop := (c = 69 ∧ d = 82) ∨ (c = 67 ∧ d = 76) ∨ (c = 83 ∧ d = 69)
theorem refused_letters {a : AnswerV} {q : Nat} (h : refusedR raw 0 = .got a q) : ∃ c d t, raw = c :: d :: t ∧ RefLet c d := by
  unfold refusedR chooseV at h
  rw [List.drop_zero] at h
  cases e : refusals.findIdx? fun s => s.isPrefixOf raw with
  | none =>
    rw [e] at h
    dsimp only at h
    split at h <;> cases h
  | some i =>
    obtain ⟨hi, h1, _⟩ := List.findIdx?_eq_some_iff_getElem.1 e
    rw [List.isPrefixOf_iff_prefix] at h1
    have hi3 : i < 3 := hi
    obtain ⟨r, hr⟩ := h1
    match i, hi3 with
    | 0, _ => exact ⟨69, 82, [82, 79, 82, 13, 10] ++ r, by rw [← hr]; rfl, .inl ⟨rfl, rfl⟩⟩
    | 1, _ => exact ⟨67, 76, [73, 69, 78, 84, 95, 69, 82, 82, 79, 82, 32] ++ r, by rw [← hr]; rfl, .inr (.inl ⟨rfl, rfl⟩)⟩
    | 2, _ => exact ⟨83, 69, [82, 86, 69, 82, 95, 69, 82, 82, 79, 82, 32] ++ r, by rw [← hr]; rfl, .inr (.inr ⟨rfl, rfl⟩)⟩
theorem nice_away {ts : List Bs} (h : Nice ts) {c d : UInt8} (hcd : RefLet c d) : ∀ s ∈ ts, away c d s = true := fun s hs => by
  obtain ⟨ks, rfl, _, _⟩ := h
  rcases List.mem_cons.1 hs with rfl | hs
  · rcases hcd with ⟨rfl, rfl⟩ | ⟨rfl, rfl⟩ | ⟨rfl, rfl⟩ <;> rfl
  · obtain ⟨k, _, rfl⟩ := List.mem_map.1 hs
    rcases hcd with ⟨rfl, rfl⟩ | ⟨rfl, rfl⟩ | ⟨rfl, rfl⟩ <;> rfl
/-- a refusal is no other reply's beginning -/
theorem read_refused {v : Int} {keys : List Bs} {what : Bs} {c d : UInt8} {t : Bs} (h : RefLet c d) : readR (c :: d :: t) v keys what 0 = .fail := by
  have hfix : ∀ l : List Bs, (l.all fun s => away 69 82 s && away 67 76 s && away 83 69 s) = true → chooseV (c :: d :: t) 0 l = .fail := fun l hl => choose_away fun s hs => by
    have := List.all_eq_true.1 hl s hs
    simp only [Bool.and_eq_true] at this
    rcases h with ⟨rfl, rfl⟩ | ⟨rfl, rfl⟩ | ⟨rfl, rfl⟩
    · exact this.1.1
    · exact this.1.2
    · exact this.2
  have hdig : digitAt (c :: d :: t) 0 = false := by
    rcases h with ⟨rfl, rfl⟩ | ⟨rfl, rfl⟩ | ⟨rfl, rfl⟩ <;> rfl
  have hstat : statsFrom (c :: d :: t) ((c :: d :: t).length + 1) [] 0 = .fail := by
    show RdV.next (chooseV (c :: d :: t) 0 [endV ++ crlf, statV ++ [32]]) _ = _
    rw [hfix _ (by decide)]; rfl
  have hval : valuesFrom (c :: d :: t) v (keys.length + 1) keys [] 0 = .fail := by
    show RdV.next (chooseV (c :: d :: t) 0 (valueTexts [endV ++ crlf] keys)) _ = _
    rw [choose_away (nice_away (texts_nice keys) h)]; rfl
  have hcode : codedR (c :: d :: t) v 0 = .fail := by
    unfold codedR
    rw [hfix]
    · rfl
    · unfold codesV
      repeat' split
      all_goals decide
  have hver : wantV (c :: d :: t) 0 (versionV ++ [32]) = .fail := by
    rcases h with ⟨rfl, rfl⟩ | ⟨rfl, rfl⟩ | ⟨rfl, rfl⟩ <;> exact want_away rfl
  unfold readR
  rw [hstat, hcode, hval, hver, hdig]
  have hk := kinds_cases v what
  generalize kindsV v what = l at hk
  simp only [List.mem_cons, List.not_mem_nil, or_false] at hk
  rcases hk with rfl | rfl | rfl | rfl | rfl | rfl | rfl | rfl | rfl | rfl | rfl | rfl | rfl | rfl
  all_goals first | rfl | (simp only [List.headD, Int.reduceEq, if_false, if_true, Bool.false_eq_true]; first | rfl | (rw [hfix _ (by decide)]; rfl))
/-- what Read comes to stays, whatever comes behind -/
theorem outcome_steady (v : Int) (keys : List Bs) (what : Bs) : match outcomeR raw v keys what with
    | .got a q => q ≤ raw.length ∧ ∀ b, outcomeR (raw ++ b) v keys what = .got a q
    | .fail => ∀ b, outcomeR (raw ++ b) v keys what = .fail
    | .more => True := by
  have h1 := steady_read v keys what raw 0 (Nat.zero_le _)
  have h2 := steady_refused raw 0 (Nat.zero_le _)
  unfold outcomeR
  cases e1 : readR raw v keys what 0 with
  | got a q =>
    obtain ⟨_, g2, g3⟩ := h1.got e1
    exact ⟨g2, fun b => by rw [g3 b]⟩
  | more =>
    dsimp only
    cases e2 : refusedR raw 0 with
    | got b m =>
      obtain ⟨c, d, t, rfl, hcd⟩ := refused_letters e2
      rw [read_refused hcd] at e1; cases e1
    | more => exact trivial
    | fail => exact trivial
  | fail =>
    have g1 := h1.fail e1
    dsimp only
    cases e2 : refusedR raw 0 with
    | got b m =>
      obtain ⟨_, k2, k3⟩ := h2.got e2
      exact ⟨k2, fun b => by rw [g1 b]; exact k3 b⟩
    | more => exact trivial
    | fail =>
      have k := h2.fail e2
      show ∀ b, _
      intro b
      rw [g1 b]; exact k b
end
end Sp
end Go.Proofs.YtnbeeehfapjpdaaGreatDoor
end
section
namespace Go.Proofs.YtnbeeehfapjpdaaGreatDoor
namespace Sp
section
variable {raw : Bs} {p q : Nat}
theorem drop_add {s r : Bs} (h : raw.drop p = s ++ r) : raw.drop (p + s.length) = r := by
  rw [← List.drop_drop, h, List.drop_left]
theorem want_reads {s : Bs} {u : Unit} (h : wantV raw p s = .got u q) : raw.drop p = s ++ raw.drop q ∧ q = p + s.length := by
  unfold wantV at h
  by_cases h1 : s.isPrefixOf (raw.drop p) = true
  · rw [if_pos h1] at h
    injection h with _ h
    rw [List.isPrefixOf_iff_prefix] at h1
    obtain ⟨r, hr⟩ := h1
    subst h
    exact ⟨by rw [drop_add hr.symm]; exact hr.symm, rfl⟩
  · rw [if_neg h1] at h
    split at h <;> cases h
theorem want_exact {s r : Bs} (h : raw.drop p = s ++ r) : wantV raw p s = .got () (p + s.length) := by
  unfold wantV
  rw [if_pos (by rw [List.isPrefixOf_iff_prefix]; exact ⟨r, h.symm⟩)]
theorem choose_reads {ts : List Bs} {i : Nat} (h : chooseV raw p ts = .got i q) : ∃ s, ts[i]? = some s ∧ raw.drop p = s ++ raw.drop q ∧ q = p + s.length := by
  unfold chooseV at h
  cases e : ts.findIdx? fun s => s.isPrefixOf (raw.drop p) with
  | none =>
    rw [e] at h
    dsimp only at h
    split at h <;> cases h
  | some j =>
    rw [e] at h
    obtain ⟨hj, h1, _⟩ := List.findIdx?_eq_some_iff_getElem.1 e
    injection h with h2 h3
    subst h2
    rw [List.isPrefixOf_iff_prefix] at h1
    obtain ⟨r, hr⟩ := h1
    have hg : ts.getD j [] = ts[j] := by rw [List.getD_eq_getElem?_getD, List.getElem?_eq_getElem hj]; rfl
    rw [hg] at h3
    subst h3
    exact ⟨ts[j], List.getElem?_eq_getElem hj, by rw [drop_add hr.symm]; exact hr.symm, rfl⟩
theorem choose_exact {ts : List Bs} (ht : Parted ts) {i : Nat} {s r : Bs} (hi : ts[i]? = some s) (h : raw.drop p = s ++ r) : chooseV raw p ts = .got i (p + s.length) := by
  obtain ⟨h1, h2⟩ := List.getElem?_eq_some_iff.1 hi
  have e : (ts.findIdx? fun s => s.isPrefixOf (raw.drop p)) = some i := by
    refine List.findIdx?_eq_some_iff_getElem.2 ⟨h1, by rw [List.isPrefixOf_iff_prefix, h2]; exact ⟨r, h.symm⟩, fun j hj hp => ?_⟩
    rw [List.isPrefixOf_iff_prefix, h] at hp
    rcases prefix_either hp with h3 | h3
    · have := ht j i _ _ (List.getElem?_eq_getElem (by omega)) hi h3
      omega
    · have := ht i j _ _ hi (List.getElem?_eq_getElem (by omega)) h3
      omega
  unfold chooseV
  rw [e]
  dsimp only
  rw [List.getD_eq_getElem?_getD, hi]; rfl
def isDig (c : UInt8) : Prop := ¬ (c < 48 ∨ 57 < c)
theorem dig_val {c : UInt8} (h : isDig c) : 48 ≤ c.toNat ∧ c.toNat ≤ 57 ∧ UInt8.ofNat (48 + (c.toNat - 48)) = c := by
  unfold isDig at h
  rw [not_or, UInt8.not_lt, UInt8.not_lt, UInt8.le_iff_toNat_le, UInt8.le_iff_toNat_le] at h
  have e1 : (48 : UInt8).toNat = 48 := rfl
  have e2 : (57 : UInt8).toNat = 57 := rfl
  rw [e1, e2] at h
  refine ⟨h.1, h.2, ?_⟩
  rw [show 48 + (c.toNat - 48) = c.toNat by omega]
  exact UInt8.ofNat_toNat
theorem dec_one {n : Nat} (h : n < 10) : Lib.decDigits n = [UInt8.ofNat (48 + n)] := Lib.decDigits_one h
theorem dec_more {n d : Nat} (hn : 0 < n) (hd : d < 10) : Lib.decDigits (10 * n + d) = Lib.decDigits n ++ [UInt8.ofNat (48 + d)] := by
  rw [Lib.decDigits, dif_neg (by omega), show (10 * n + d) / 10 = n by omega, show (10 * n + d) % 10 = d by omega]
/-- digits that were read, behind those of n -/
theorem number_from {most p : Nat} (hm : 9 ≤ most) : ∀ (l : Bs) (i n x q : Nat), (0 < i → n ≤ most) → numberFrom most p i n l = .got x q →
    (i = 0 → n = 0) → ∃ ds r, l = ds ++ r ∧ q = p + i + ds.length ∧ x ≤ most ∧ (∃ c t, r = c :: t ∧ ¬ isDig c) ∧ (if i = 0 then ds = Lib.decDigits x else if n = 0 then ds = [] ∧ x = 0 else Lib.decDigits n ++ ds = Lib.decDigits x)
  | [], i, n, x, q, _, h, _ => by unfold numberFrom at h; cases h
  | c :: t, i, n, x, q, hin, h, h0 => by
    unfold numberFrom at h
    by_cases h1 : c < 48 ∨ 57 < c
    · rw [if_pos h1] at h
      by_cases hi : i = 0
      · rw [if_pos hi] at h; cases h
      · rw [if_neg hi] at h
        injection h with h2 h3
        subst h2
        refine ⟨[], c :: t, rfl, by rw [← h3]; rfl, hin (by omega), ⟨c, t, rfl, fun e => e h1⟩, ?_⟩
        rw [if_neg hi]
        by_cases hn : n = 0
        · rw [if_pos hn]; exact ⟨rfl, hn⟩
        · rw [if_neg hn, List.append_nil]
    · rw [if_neg h1] at h
      obtain ⟨d1, d2, d3⟩ := dig_val h1
      by_cases h2 : (0 < i ∧ n = 0) ∨ (most - (c.toNat - 48)) / 10 < n
      · rw [if_pos h2] at h; cases h
      · rw [if_neg h2] at h
        have hle : 10 * n + (c.toNat - 48) ≤ most := by omega
        obtain ⟨ds, r, g1, g2, g3, g4, g5⟩ := number_from hm t (i + 1) (10 * n + (c.toNat - 48)) x q (fun _ => hle) h (fun e => by omega)
        refine ⟨c :: ds, r, by rw [g1]; rfl, by rw [g2, List.length_cons]; omega, g3, g4, ?_⟩
        rw [if_neg (by omega)] at g5
        by_cases hi : i = 0
        · rw [if_pos hi]
          have hn := h0 hi
          subst hn
          rw [Nat.mul_zero, Nat.zero_add] at g5
          by_cases hz : c.toNat - 48 = 0
          · rw [if_pos hz] at g5
            rw [g5.1, g5.2, dec_one (by decide)]
            rw [hz] at d3
            rw [← d3]
          · rw [if_neg hz, dec_one (by omega), d3] at g5
            exact g5
        · rw [if_neg hi]
          have hn : n ≠ 0 := fun e => h2 (.inl ⟨by omega, e⟩)
          rw [if_neg hn]
          rw [if_neg (by omega), dec_more (by omega) (by omega), d3, List.append_assoc] at g5
          exact g5
theorem number_reads {most n : Nat} (hm : 9 ≤ most) (h : numberR raw most p = .got n q) : raw.drop p = Lib.decDigits n ++ raw.drop q ∧ q = p + (Lib.decDigits n).length ∧ n ≤ most := by
  obtain ⟨ds, r, g1, g2, g3, _, g5⟩ := number_from hm (raw.drop p) 0 0 n q (fun h => by omega) h (fun _ => rfl)
  rw [if_pos rfl] at g5
  subst g5
  rw [Nat.add_zero] at g2
  subst g2
  exact ⟨by rw [drop_add g1]; exact g1, rfl, g3⟩
theorem text_reads {s : Bs} (h : textR raw p = .got s q) : raw.drop p = s ++ raw.drop q ∧ q = p + s.length ∧ plainV s = true := by
  unfold textR at h
  cases e : (raw.drop p).findIdx? fun c => decide (c < 32 ∨ 126 < c) with
  | none => rw [e] at h; dsimp only at h; split at h <;> cases h
  | some i =>
    rw [e] at h
    dsimp only at h
    obtain ⟨hi, _, _⟩ := List.findIdx?_eq_some_iff_getElem.1 e
    by_cases hp : plainV ((raw.drop p).take i) = true
    · rw [if_pos hp] at h
      injection h with h1 h2
      subst h1 h2
      have hl : ((raw.drop p).take i).length = i := by rw [List.length_take]; omega
      have hs : raw.drop p = (raw.drop p).take i ++ (raw.drop p).drop i := (List.take_append_drop i _).symm
      refine ⟨?_, by rw [hl], hp⟩
      rw [← List.drop_drop]; exact hs
    · rw [if_neg hp] at h; cases h
theorem data_reads {n : Nat} {d : Bs} (h : dataR raw n p = .got d q) : raw.drop p = d ++ raw.drop q ∧ q = p + d.length ∧ d.length = n := by
  unfold dataR at h
  by_cases hn : (raw.drop p).length < n
  · rw [if_pos hn] at h; cases h
  · rw [if_neg hn] at h
    injection h with h1 h2
    subst h1 h2
    have hl : ((raw.drop p).take n).length = n := by rw [List.length_take]; omega
    refine ⟨?_, by rw [hl], hl⟩
    rw [← List.drop_drop]; exact (List.take_append_drop n _).symm
theorem statName_reads {s : Bs} (h : statNameR raw p = .got s q) : raw.drop p = s ++ [32] ++ raw.drop q ∧ q = p + s.length + 1 ∧ nameR s = true := by
  unfold statNameR at h
  cases e : (raw.drop p).findIdx? fun c => decide (c = 32) with
  | none => rw [e] at h; dsimp only at h; split at h <;> cases h
  | some i =>
    rw [e] at h
    dsimp only at h
    obtain ⟨hi, h1, _⟩ := List.findIdx?_eq_some_iff_getElem.1 e
    by_cases hp : nameR ((raw.drop p).take i) = false
    · rw [if_pos hp] at h; cases h
    · rw [if_neg hp] at h
      injection h with h2 h3
      subst h2 h3
      have hl : ((raw.drop p).take i).length = i := by rw [List.length_take]; omega
      refine ⟨?_, by rw [hl], by simpa using hp⟩
      have hs : raw.drop p = (raw.drop p).take i ++ (raw.drop p).drop i := (List.take_append_drop i _).symm
      have hd : (raw.drop p).drop i = 32 :: (raw.drop p).drop (i + 1) := by
        rw [List.drop_eq_getElem_cons hi]
        congr 1
        simpa using h1
      rw [hd, List.drop_drop] at hs
      rw [List.append_assoc]
      show raw.drop p = _ ++ (32 :: raw.drop (p + i + 1))
      rw [Nat.add_assoc]; exact hs
theorem next_got {α β : Type} {a : RdV α} {k : α → Nat → RdV β} {y : β} (h : a.next k = .got y q) : ∃ x p', a = .got x p' ∧ k x p' = .got y q := by
  cases a with
  | got x p' => exact ⟨x, p', rfl, h⟩
  | more => cases h
  | fail => cases h
theorem digF_dec : ∀ (r n : Nat), n < 10 ^ r → 0 < r → digF r n = Lib.decDigits n
  | 0, _, _, h => by omega
  | r + 1, n, h, _ => by
    unfold digF
    rw [Lib.decDigits]
    by_cases hn : n < 10
    · rw [if_pos hn, dif_pos hn]
    · rw [if_neg hn, dif_neg hn]
      have hr : 0 < r := by
        rcases Nat.eq_zero_or_pos r with rfl | h'
        · simp at h; omega
        · exact h'
      rw [digF_dec r (n / 10) (by rw [Nat.pow_succ] at h; omega) hr]
theorem digits_dec {n : Nat} (h : n ≤ 18446744073709551615) : digitsV n = Lib.decDigits n := digF_dec 20 n (Nat.lt_of_le_of_lt h (by decide)) (by decide)
theorem valueTexts_mem : ∀ (ks : List Bs) {ts : List Bs} {s : Bs}, s ∈ valueTexts ts ks → s ∈ ts ∨ ∃ k ∈ ks, legalR k = true ∧ s = valueV ++ [32] ++ k ++ [32]
  | [], _, _, h => .inl h
  | k :: ks, ts, s, h => by
    unfold valueTexts at h
    by_cases hc : legalR k = true ∧ (valueV ++ [32] ++ k ++ [32]) ∉ ts.drop 1
    · rw [if_pos hc] at h
      rcases valueTexts_mem ks h with h | ⟨k', h1, h2⟩
      · rcases List.mem_append.1 h with h | h
        · exact .inl h
        · exact .inr ⟨k, List.mem_cons_self .., hc.1, List.mem_singleton.1 h⟩
      · exact .inr ⟨k', List.mem_cons_of_mem _ h1, h2⟩
    · rw [if_neg hc] at h
      rcases valueTexts_mem ks h with h | ⟨k', h1, h2⟩
      · exact .inl h
      · exact .inr ⟨k', List.mem_cons_of_mem _ h1, h2⟩
theorem valueTexts_head : ∀ (ks : List Bs) (a : Bs) (ts : List Bs), ∃ us, valueTexts (a :: ts) ks = a :: us
  | [], a, ts => ⟨ts, rfl⟩
  | k :: ks, a, ts => by
    unfold valueTexts
    split
    · exact valueTexts_head ks a _
    · exact valueTexts_head ks a ts
/-- an entry as it is read -/
def EntryFit (v : Int) (e : EntryV) : Prop := e = { key := e.key, value := e.value, flags := e.flags, token := if tokensV v then e.token else 0 } ∧ e.flags ≤ 4294967295 ∧ e.token ≤ 18446744073709551615 ∧ e.value.length ≤ 1048576
theorem entry_text {v : Int} {e : EntryV} (h : EntryFit v e) : entryW v e = valueV ++ [32] ++ e.key ++ [32] ++ Lib.decDigits e.flags ++ [32] ++ Lib.decDigits e.value.length ++ (if tokensV v then [32] ++ Lib.decDigits e.token else []) ++ crlf ++ e.value ++ crlf := by
  obtain ⟨_, h1, h2, h3⟩ := h
  unfold entryW lineR
  rw [digits_dec (by omega), digits_dec (by omega), digits_dec h2]
  cases tokensV v <;> simp [List.intercalate, List.intersperse, crlf]
theorem values_reads (v : Int) : ∀ (r : Nat) (keys : List Bs) (out : List EntryV) (p : Nat) (x : List EntryV) (q : Nat), valuesFrom raw v r keys out p = .got x q →
    ∃ l, x = out ++ l ∧ raw.drop p = l.flatMap (entryW v) ++ (endV ++ crlf) ++ raw.drop q ∧ entriesV keys l = true ∧ ∀ e ∈ l, EntryFit v e
  | 0, _, _, _, _, _, h => by unfold valuesFrom at h; cases h
  | r + 1, keys, out, p, x, q, h => by
    unfold valuesFrom at h
    dsimp only at h
    obtain ⟨i, p1, h1, h⟩ := next_got h
    obtain ⟨s, g1, g2, _⟩ := choose_reads h1
    obtain ⟨us, hus⟩ := valueTexts_head keys (endV ++ crlf) []
    by_cases hi : i = 0
    · rw [if_pos hi] at h
      injection h with h2 h3
      subst h2 h3 hi
      rw [hus] at g1
      have hs : endV ++ crlf = s := by simpa using g1
      refine ⟨[], (List.append_nil _).symm, by rw [g2, hs]; rfl, rfl, fun e he => by cases he⟩
    · rw [if_neg hi] at h
      have hmem := List.mem_of_getElem? g1
      have hk : ∃ k ∈ keys, legalR k = true ∧ s = valueV ++ [32] ++ k ++ [32] := by
        rcases valueTexts_mem keys hmem with hm | hm
        · exfalso
          rw [List.mem_singleton] at hm
          have h0 : (valueTexts [endV ++ crlf] keys)[0]? = some s := by rw [hus, hm]; rfl
          exact hi (texts_parted keys i 0 s s g1 h0 (List.prefix_refl _))
        · exact hm
      obtain ⟨k, hkm, hkl, rfl⟩ := hk
      have hg : ((valueTexts [endV ++ crlf] keys).getD i []) = valueV ++ [32] ++ k ++ [32] := by rw [List.getD_eq_getElem?_getD, g1]; rfl
      rw [hg] at h
      have hkey : ((valueV ++ [32] ++ k ++ [32]).drop 6).dropLast = k := by
        show (k ++ [32]).dropLast = k
        simp
      rw [hkey] at h
      obtain ⟨fl, p2, h2, h⟩ := next_got h
      obtain ⟨_, p3, h3, h⟩ := next_got h
      obtain ⟨n, p4, h4, h⟩ := next_got h
      obtain ⟨tk, p6, h6, h⟩ := next_got h
      obtain ⟨_, p7, h7, h⟩ := next_got h
      obtain ⟨d, p8, h8, h⟩ := next_got h
      obtain ⟨_, p9, h9, h⟩ := next_got h
      obtain ⟨a1, _, a2⟩ := number_reads (by decide) h2
      obtain ⟨b1, _⟩ := want_reads h3
      obtain ⟨c1, _, c2⟩ := number_reads (by decide) h4
      obtain ⟨d1, _⟩ := want_reads h7
      obtain ⟨e1, _, e2⟩ := data_reads h8
      obtain ⟨f1, _⟩ := want_reads h9
      have ht : raw.drop p4 = (if tokensV v then [32] ++ Lib.decDigits tk else []) ++ raw.drop p6 ∧ tk ≤ 18446744073709551615 ∧ (tokensV v = false → tk = 0) := by
        cases hv : tokensV v with
        | true =>
          rw [hv, if_pos rfl] at h6
          obtain ⟨_, p5, k1, k2⟩ := next_got h6
          obtain ⟨l1, _⟩ := want_reads k1
          obtain ⟨l2, _, l3⟩ := number_reads (by decide) k2
          exact ⟨by rw [if_pos rfl, l1, l2, List.append_assoc], l3, fun e => by cases e⟩
        | false =>
          rw [hv, if_neg (by decide)] at h6
          injection h6 with k1 k2
          subst k1 k2
          exact ⟨rfl, by omega, fun _ => rfl⟩
      obtain ⟨ht1, ht2, ht3⟩ := ht
      obtain ⟨l, m1, m2, m3, m4⟩ := values_reads v r _ _ _ _ _ h
      have hfit : EntryFit v { key := k, value := d, flags := fl, token := tk } := by
        refine ⟨?_, a2, ht2, by show d.length ≤ _; omega⟩
        cases hv : tokensV v with
        | true => rfl
        | false => rw [ht3 hv]; rfl
      refine ⟨{ key := k, value := d, flags := fl, token := tk } :: l, by rw [m1, List.append_assoc]; rfl, ?_, ?_, fun e he => ?_⟩
      · rw [List.flatMap_cons, entry_text hfit, g2, a1, b1, c1, ht1, d1, e1, f1, m2, e2]
        simp only [List.append_assoc]
      · unfold entriesV
        rw [if_pos hkm]
        dsimp only
        rw [hkl, decide_eq_true a2, decide_eq_true (show d.length ≤ 1048576 by omega), m3]; rfl
      · rcases List.mem_cons.1 he with rfl | he
        · exact hfit
        · exact m4 e he
theorem stats_reads : ∀ (r : Nat) (out : List (Bs × Nat)) (p : Nat) (x : List (Bs × Nat)) (q : Nat), statsFrom raw r out p = .got x q →
    ∃ l, x = out ++ l ∧ raw.drop p = (l.flatMap fun x => lineR [statV, x.1, digitsV x.2]) ++ (endV ++ crlf) ++ raw.drop q ∧ ∀ x ∈ l, nameR x.1 = true ∧ x.2 ≤ 18446744073709551615
  | 0, _, _, _, _, h => by unfold statsFrom at h; cases h
  | r + 1, out, p, x, q, h => by
    unfold statsFrom at h
    obtain ⟨i, p1, h1, h⟩ := next_got h
    obtain ⟨s, g1, g2, _⟩ := choose_reads h1
    by_cases hi : i = 0
    · rw [if_pos hi] at h
      injection h with h2 h3
      subst h2 h3 hi
      have hs : endV ++ crlf = s := by simpa using g1
      exact ⟨[], (List.append_nil _).symm, by rw [g2, hs]; rfl, fun e he => by cases he⟩
    · rw [if_neg hi] at h
      have hs : s = statV ++ [32] := by
        match i, hi, g1 with
        | 1, _, g1 => simpa using g1.symm
        | i + 2, _, g1 => simp at g1
      obtain ⟨nm, p2, h2, h⟩ := next_got h
      obtain ⟨n, p3, h3, h⟩ := next_got h
      obtain ⟨_, p4, h4, h⟩ := next_got h
      obtain ⟨a1, _, a2⟩ := statName_reads h2
      obtain ⟨b1, _, b2⟩ := number_reads (by decide) h3
      obtain ⟨c1, _⟩ := want_reads h4
      obtain ⟨l, m1, m2, m3⟩ := stats_reads r _ _ _ _ h
      refine ⟨(nm, n) :: l, by rw [m1, List.append_assoc]; rfl, ?_, fun e he => ?_⟩
      · rw [List.flatMap_cons, g2, hs, a1, b1, c1, m2]
        unfold lineR
        dsimp only
        rw [digits_dec b2]
        simp [List.intercalate, List.intersperse, crlf]
      · rcases List.mem_cons.1 he with rfl | he
        · exact ⟨a2, b2⟩
        · exact m3 e he
theorem flagStep_reads {b : Nat} {u : Unit} (h : flagStep raw b p = .got u q) : ∃ w, raw.drop p = w ++ raw.drop q ∧ q = p + w.length ∧ flagR w = true ∧ q - b ≤ 2048 := by
  unfold flagStep at h
  by_cases hw : (raw.drop p).findIdx oddV < (raw.drop p).length
  · rw [if_pos hw] at h
    by_cases hc : 251 < (raw.drop p).findIdx oddV ∨ (raw.drop p).findIdx oddV = 0 ∨ 2048 < p + (raw.drop p).findIdx oddV - b
    · rw [if_pos hc] at h; cases h
    · rw [if_neg hc] at h
      injection h with _ h
      subst h
      have hl : ((raw.drop p).take ((raw.drop p).findIdx oddV)).length = (raw.drop p).findIdx oddV := by rw [List.length_take]; omega
      refine ⟨(raw.drop p).take ((raw.drop p).findIdx oddV), ?_, by rw [hl], ?_, by omega⟩
      · rw [← List.drop_drop]; exact (List.take_append_drop _ _).symm
      · unfold flagR
        rw [Bool.and_eq_true, Bool.and_eq_true, decide_eq_true_eq, decide_eq_true_eq, List.all_eq_true]
        refine ⟨⟨fun e => ?_, by omega⟩, fun c hm => ?_⟩
        · have := congrArg List.length e
          rw [hl] at this
          exact hc (.inr (.inl this))
        · obtain ⟨j, hj, rfl⟩ := List.getElem_of_mem hm
          rw [hl] at hj
          rw [List.getElem_take]
          have := List.not_of_lt_findIdx hj
          simpa using this
  · rw [if_neg hw] at h
    split at h <;> cases h
theorem flags_reads {b : Nat} : ∀ (r p q : Nat) (u : Unit), flagsFrom raw b r p = .got u q → ∃ ws : List Bs, raw.drop p = (ws.flatMap fun w => [32] ++ w) ++ raw.drop q ∧ (∀ w ∈ ws, flagR w = true) ∧ q - b ≤ 2048 ∧ q = p + (ws.flatMap fun w => [32] ++ w).length
  | 0, _, _, _, h => by unfold flagsFrom at h; cases h
  | r + 1, p, q, u, h => by
    unfold flagsFrom at h
    obtain ⟨done, p0, h1, h⟩ := next_got h
    have hh : p0 = p ∧ p - b ≤ 2048 := by
      unfold flagHead at h1
      split at h1
      · split at h1 <;> cases h1
      · split at h1
        · cases h1
        · injection h1 with _ h1
          exact ⟨h1.symm, by omega⟩
    obtain ⟨rfl, hle⟩ := hh
    cases done with
    | true =>
      injection h with _ h
      subst h
      exact ⟨[], rfl, fun w hw => (by cases hw), hle, rfl⟩
    | false =>
      obtain ⟨_, p1, h2, h⟩ := next_got h
      obtain ⟨_, p2, h3, h⟩ := next_got h
      obtain ⟨a1, a2⟩ := want_reads h2
      obtain ⟨w, b1, b2, b3, b4⟩ := flagStep_reads h3
      obtain ⟨ws, c1, c2, c3, c4⟩ := flags_reads r p2 q u h
      refine ⟨w :: ws, ?_, fun x hx => ?_, c3, ?_⟩
      · rw [List.flatMap_cons, a1, b1, c1]
        simp only [List.append_assoc]
      · rcases List.mem_cons.1 hx with rfl | hx
        · exact b3
        · exact c2 x hx
      · rw [List.flatMap_cons, List.length_append, List.length_append, c4, b2, a2]
        simp only [List.length_singleton]; omega
end
end Sp
end Go.Proofs.YtnbeeehfapjpdaaGreatDoor
end
section
namespace Go.Proofs.YtnbeeehfapjpdaaGreatDoor
namespace Sp
section
variable {raw : Bs} {p q : Nat}
theorem split_word : ∀ {w : Bs}, (32 : UInt8) ∉ w → splitV w = [w]
  | [], _ => rfl
  | c :: w, h => by
    unfold splitV
    rw [if_neg (fun e => h (by rw [e]; exact List.mem_cons_self ..)), split_word (w := w) (fun e => h (List.mem_cons_of_mem _ e))]
theorem split_more {r : Bs} : ∀ {w : Bs}, (32 : UInt8) ∉ w → splitV (w ++ 32 :: r) = w :: splitV r
  | [], _ => by
    show splitV (32 :: r) = _
    rw [splitV, if_pos rfl]
  | c :: w, h => by
    show splitV (c :: (w ++ 32 :: r)) = _
    rw [splitV, if_neg (fun e => h (by rw [e]; exact List.mem_cons_self ..)), split_more (w := w) (fun e => h (List.mem_cons_of_mem _ e))]
theorem split_words : ∀ (ws : List Bs) {w : Bs}, (32 : UInt8) ∉ w → (∀ x ∈ ws, (32 : UInt8) ∉ x) → splitV (w ++ ws.flatMap fun w => [32] ++ w) = w :: ws
  | [], w, h, _ => by rw [List.flatMap_nil, List.append_nil]; exact split_word h
  | x :: ws, w, h, hx => by
    rw [List.flatMap_cons, List.append_assoc]
    show splitV (w ++ 32 :: (x ++ ws.flatMap fun w => [32] ++ w)) = _
    rw [split_more h, split_words ws (hx x (List.mem_cons_self ..)) (fun y hy => hx y (List.mem_cons_of_mem _ hy))]
theorem flag_blank {w : Bs} (h : flagR w = true) : (32 : UInt8) ∉ w := fun hm => by
  unfold flagR at h
  simp only [Bool.and_eq_true, List.all_eq_true] at h
  have := h.2 32 hm
  simp [oddV] at this
theorem dec_blank (n : Nat) : ∀ c ∈ Lib.decDigits n, 48 ≤ c.toNat ∧ c.toNat ≤ 57 := by
  induction n using Nat.strongRecOn with
  | _ n ih =>
    intro c hc
    rw [Lib.decDigits] at hc
    have hb : ∀ d, d < 10 → (UInt8.ofNat (48 + d)).toNat = 48 + d := fun d hd => by rw [UInt8.toNat_ofNat']; exact Nat.mod_eq_of_lt (by have : (2 : Nat) ^ 8 = 256 := rfl; omega)
    by_cases h : n < 10
    · rw [dif_pos h, List.mem_singleton] at hc
      rw [hc, hb n h]; omega
    · rw [dif_neg h] at hc
      rcases List.mem_append.1 hc with hc | hc
      · exact ih (n / 10) (by omega) c hc
      · rw [List.mem_singleton] at hc
        rw [hc, hb _ (by omega)]; omega
theorem codes_two (v : Int) : ∀ c ∈ codesV v, c.length = 2 ∧ (32 : UInt8) ∉ c := by
  unfold codesV
  repeat' split
  all_goals decide
theorem coded_reads {v : Int} {a : AnswerV} (h : codedR raw v 0 = .got a q) : a.kind = 15 ∧ a.number = 0 ∧ a.stats = [] ∧ metaV v a.text a.entries = true ∧ raw = a.text ++ crlf ++ a.entries.flatMap (fun e => e.value ++ crlf) ++ raw.drop q ∧ (∀ e ∈ a.entries, e = { value := e.value }) := by
  unfold codedR at h
  obtain ⟨i, p1, h1, h⟩ := next_got h
  obtain ⟨s, g1, g2, g3⟩ := choose_reads h1
  rw [List.drop_zero] at g2
  rw [Nat.zero_add] at g3
  have hg : (codesV v).getD i [] = s := by rw [List.getD_eq_getElem?_getD, g1]; rfl
  have hs := List.mem_of_getElem? g1
  obtain ⟨s2, sb⟩ := codes_two v s hs
  unfold codedRest at h
  rw [hg] at h
  by_cases hc : s = [69, 78] ∨ s = [77, 78]
  · rw [if_pos hc] at h
    obtain ⟨_, p2, h2, h⟩ := next_got h
    injection h with h3 h4
    subst h3 h4
    obtain ⟨a1, _⟩ := want_reads h2
    have hva : s ≠ [86, 65] := fun e => by rcases hc with rfl | rfl <;> cases e
    refine ⟨rfl, rfl, rfl, ?_, ?_, fun e he => by cases he⟩
    · unfold metaV
      rw [split_word sb]
      dsimp only
      rw [if_neg, if_neg hva]
      · rfl
      · rintro (h | h | ⟨h, _⟩ | ⟨_, h⟩)
        · omega
        · exact h hs
        · exact h rfl
        · exact h rfl
    · show raw = s ++ crlf ++ [] ++ raw.drop p2
      rw [List.append_nil, List.append_assoc, ← a1]; exact g2
  · rw [if_neg hc] at h
    obtain ⟨n, p2, h2, h⟩ := next_got h
    obtain ⟨_, p3, h3, h⟩ := next_got h
    obtain ⟨ws, f1, f2, f3, f4⟩ := flags_reads _ _ _ _ h3
    rw [Nat.sub_zero] at f3
    unfold codedEnd at h
    obtain ⟨_, p4, h4, h⟩ := next_got h
    obtain ⟨b1, _⟩ := want_reads h4
    unfold codedLast at h
    rw [hg, List.drop_zero, Nat.sub_zero] at h
    have hwb : ∀ x ∈ ws, (32 : UInt8) ∉ x := fun x hx => flag_blank (f2 x hx)
    by_cases hva : s = [86, 65]
    · rw [if_pos hva] at h2 h
      obtain ⟨_, p5, h5, h2⟩ := next_got h2
      obtain ⟨c1, c2⟩ := want_reads h5
      obtain ⟨d1, d2, d3⟩ := number_reads (by decide) h2
      obtain ⟨d, p6, h6, h⟩ := next_got h
      obtain ⟨_, p7, h7, h⟩ := next_got h
      injection h with h8 h9
      obtain ⟨e1, _, e2⟩ := data_reads h6
      obtain ⟨k1, _⟩ := want_reads h7
      have htx : raw.take p3 = s ++ ((Lib.decDigits n :: ws).flatMap fun w => [32] ++ w) := by
        have e : raw = (s ++ ((Lib.decDigits n :: ws).flatMap fun w => [32] ++ w)) ++ raw.drop p3 := by
          rw [List.flatMap_cons]
          conv => lhs; rw [g2, c1, d1, f1]
          simp only [List.append_assoc]
        have hl : (s ++ ((Lib.decDigits n :: ws).flatMap fun w => [32] ++ w)).length = p3 := by
          rw [List.flatMap_cons, List.length_append, List.length_append, List.length_append]
          simp only [List.length_cons, List.length_nil] at c2 ⊢
          rw [f4, d2, c2, g3, s2]
          simp only [Nat.add_assoc, Nat.zero_add]
        conv => lhs; rw [e]
        rw [← hl, List.take_left]
      have hdb : (32 : UInt8) ∉ Lib.decDigits n := fun hm => by have := dec_blank n 32 hm; have e : (32 : UInt8).toNat = 32 := rfl; omega
      rw [htx] at h8
      subst h8 h9
      refine ⟨rfl, rfl, rfl, ?_, ?_, fun e he => ?_⟩
      · unfold metaV
        rw [split_words _ sb (fun x hx => by
          rcases List.mem_cons.1 hx with rfl | hx
          · exact hdb
          · exact hwb x hx)]
        dsimp only
        rw [if_neg, if_pos hva]
        · rw [decide_eq_true (show d.length ≤ 1048576 by omega), decide_eq_true (show Lib.decDigits n = digitsV d.length by rw [e2, digits_dec (by omega)]), List.all_eq_true.2 f2]; rfl
        · rintro (h | h | ⟨_, h⟩ | ⟨h, _⟩)
          · rw [← htx, List.length_take] at h; omega
          · exact h hs
          · exact hc h
          · exact h hva
      · show raw = _ ++ crlf ++ ([{ value := d : EntryV }].flatMap fun e => e.value ++ crlf) ++ raw.drop p7
        rw [← htx, List.flatMap_cons, List.flatMap_nil, List.append_nil]
        conv => lhs; rw [← List.take_append_drop p3 raw, b1, e1, k1]
        simp only [List.append_assoc]
      · rw [List.mem_singleton.1 he]
    · rw [if_neg hva] at h2 h
      injection h with h8 h9
      injection h2 with h2 h5
      subst h5
      have htx : raw.take p3 = s ++ (ws.flatMap fun w => [32] ++ w) := by
        have e : raw = (s ++ (ws.flatMap fun w => [32] ++ w)) ++ raw.drop p3 := by
          conv => lhs; rw [g2, f1]
          simp only [List.append_assoc]
        have hl : (s ++ (ws.flatMap fun w => [32] ++ w)).length = p3 := by rw [List.length_append, f4, g3]
        conv => lhs; rw [e]
        rw [← hl, List.take_left]
      rw [htx] at h8
      subst h8 h9
      refine ⟨rfl, rfl, rfl, ?_, ?_, fun e he => by cases he⟩
      · unfold metaV
        rw [split_words _ sb hwb]
        dsimp only
        rw [if_neg, if_neg hva]
        · exact List.all_eq_true.2 f2
        · rintro (h | h | ⟨_, h⟩ | ⟨_, h⟩)
          · rw [← htx, List.length_take] at h; omega
          · exact h hs
          · exact hc h
          · exact h rfl
      · show raw = _ ++ crlf ++ [] ++ raw.drop p4
        rw [← htx, List.append_nil, List.append_assoc, ← b1, List.take_append_drop]
theorem fixed_reads {l : List Int} {a : AnswerV} (h : ((chooseV raw 0 (l.map fun k => fixedV k ++ crlf)).next fun i p => (RdV.got ({ kind := l.getD i 0 } : AnswerV) p)) = .got a q) : ∃ k ∈ l, a = { kind := k } ∧ raw = fixedV k ++ crlf ++ raw.drop q := by
  obtain ⟨i, p1, h1, h⟩ := next_got h
  obtain ⟨s, g1, g2, _⟩ := choose_reads h1
  rw [List.drop_zero] at g2
  injection h with h2 h3
  subst h2 h3
  rw [List.getElem?_map, Option.map_eq_some_iff] at g1
  obtain ⟨k, k1, k2⟩ := g1
  subst k2
  exact ⟨k, List.mem_of_getElem? k1, by rw [List.getD_eq_getElem?_getD, k1]; rfl, g2⟩
theorem line_one (s : Bs) : lineR [s] = s ++ crlf := by simp [lineR, List.intercalate, List.intersperse, crlf]
/-- an answer as it is told -/
def Told (v : Int) (a : AnswerV) : Prop := (a.kind = 9 → ∀ e ∈ a.entries, EntryFit v e) ∧ (a.kind ≠ 9 → ∀ e ∈ a.entries, e = { value := e.value }) ∧ (a.number ≤ 18446744073709551615) ∧ ∀ x ∈ a.stats, x.2 ≤ 18446744073709551615
theorem told_plain (v : Int) (k : Int) : Told v { kind := k } := ⟨fun _ e h => (by cases h), fun _ e h => (by cases h), Nat.zero_le _, fun x h => by cases h⟩
theorem meta_reads {v : Int} {keys : List Bs} {what : Bs} {a : AnswerV} (hl : kindsV v what = [15, 12] ∨ kindsV v what = [15]) (h : codedR raw v 0 = .got a q) : fitsV v keys what a = true ∧ a.kind ≠ 12 ∧ raw = answerW v a ++ raw.drop q ∧ Told v a := by
  obtain ⟨h1, h2, h3, h4, h5, h6⟩ := coded_reads h
  refine ⟨?_, by rw [h1]; decide, ?_, ⟨fun h => absurd (h1.symm.trans h) (by decide), fun _ => h6, by rw [h2]; exact Nat.zero_le _, fun x h => by rw [h3] at h; cases h⟩⟩
  · unfold fitsV
    rw [h1, h2, h3]
    rcases hl with hl | hl <;> rw [hl] <;> simp [h4]
  · unfold answerW
    rw [h1, if_neg (by decide), if_neg (by decide), if_neg (by decide), if_neg (by decide), if_neg (by decide), if_pos rfl, line_one]
    exact h5
theorem read_reads {v : Int} {keys : List Bs} {what : Bs} {a : AnswerV} (hv : kindsV v what ≠ [12]) (h : readR raw v keys what 0 = .got a q) : fitsV v keys what a = true ∧ a.kind ≠ 12 ∧ raw = answerW v a ++ raw.drop q ∧ Told v a := by
  have hk := kinds_cases v what
  obtain ⟨l, hl⟩ : ∃ l, l = kindsV v what := ⟨_, rfl⟩
  unfold readR at h
  rw [← hl] at h hk hv
  have hfix : ∀ k : Int, k ∈ l → fixedV k ≠ [] → k ≠ 7 → k ≠ 9 → k ≠ 10 → k ≠ 11 → k ≠ 13 → k ≠ 15 → k ≠ 12 → a = { kind := k } → raw = fixedV k ++ crlf ++ raw.drop q → fitsV v keys what a = true ∧ a.kind ≠ 12 ∧ raw = answerW v a ++ raw.drop q ∧ Told v a := by
    intro k hm hf h7 h9 h10 h11 h13 h15 h12 ha hr
    subst ha
    refine ⟨?_, h12, ?_, told_plain v k⟩
    · unfold fitsV
      rw [← hl]
      have hne : l ≠ [] := fun e => by rw [e] at hm; cases hm
      simp [hne, hm, h9, h10, h11, h13, h15]
    · unfold answerW
      rw [if_neg h9, if_neg h7, if_neg h10, if_neg h11, if_neg h13, if_neg h15, line_one]
      exact hr
  simp only [List.mem_cons, List.not_mem_nil, or_false] at hk
  rcases hk with rfl | rfl | rfl | rfl | rfl | rfl | rfl | rfl | rfl | rfl | rfl | rfl | rfl | rfl
  · obtain ⟨k, hm, _⟩ := fixed_reads (raw := raw) (l := []) h
    cases hm
  · have h' : ((valuesFrom raw v (keys.length + 1) keys [] 0).next fun x p => RdV.got ({ kind := 9, entries := x } : AnswerV) p) = .got a q := h
    obtain ⟨x, p1, h1, h2⟩ := next_got h'
    injection h2 with h3 h4
    subst h3 h4
    obtain ⟨l, m1, m2, m3, m4⟩ := values_reads v _ _ _ _ _ _ h1
    rw [List.nil_append] at m1
    subst m1
    refine ⟨?_, by show (9 : Int) ≠ 12; decide, ?_, ⟨fun _ => m4, fun h => absurd rfl h, Nat.zero_le _, fun x h => by cases h⟩⟩
    · unfold fitsV
      rw [← hl]
      simp [m3]
    · unfold answerW
      rw [if_pos rfl, line_one]
      rw [List.drop_zero] at m2
      exact m2
  · obtain ⟨k, hm, h1, h2⟩ := fixed_reads (l := [1, 2]) h
    simp only [List.mem_cons, List.not_mem_nil, or_false] at hm
    rcases hm with rfl | rfl
    · exact hfix _ (by decide) (by decide) (by decide) (by decide) (by decide) (by decide) (by decide) (by decide) (by decide) h1 h2
    · exact hfix _ (by decide) (by decide) (by decide) (by decide) (by decide) (by decide) (by decide) (by decide) (by decide) h1 h2
  · obtain ⟨k, hm, h1, h2⟩ := fixed_reads (l := [1, 3, 4]) h
    simp only [List.mem_cons, List.not_mem_nil, or_false] at hm
    rcases hm with rfl | rfl | rfl
    · exact hfix _ (by decide) (by decide) (by decide) (by decide) (by decide) (by decide) (by decide) (by decide) (by decide) h1 h2
    · exact hfix _ (by decide) (by decide) (by decide) (by decide) (by decide) (by decide) (by decide) (by decide) (by decide) h1 h2
    · exact hfix _ (by decide) (by decide) (by decide) (by decide) (by decide) (by decide) (by decide) (by decide) (by decide) h1 h2
  · obtain ⟨k, hm, h1, h2⟩ := fixed_reads (l := [5, 4]) h
    simp only [List.mem_cons, List.not_mem_nil, or_false] at hm
    rcases hm with rfl | rfl
    · exact hfix _ (by decide) (by decide) (by decide) (by decide) (by decide) (by decide) (by decide) (by decide) (by decide) h1 h2
    · exact hfix _ (by decide) (by decide) (by decide) (by decide) (by decide) (by decide) (by decide) (by decide) (by decide) h1 h2
  · have h' : (if digitAt raw 0 = true then (numberR raw 18446744073709551615 0).next fun n p => (wantV raw p crlf).next fun _ p1 => RdV.got ({ kind := 7, number := n } : AnswerV) p1 else (chooseV raw 0 (([4] : List Int).map fun k => fixedV k ++ crlf)).next fun i p => RdV.got ({ kind := ([4] : List Int).getD i 0 } : AnswerV) p) = .got a q := h
    by_cases hd : digitAt raw 0 = true
    · rw [if_pos hd] at h'
      obtain ⟨n, p1, h1, h2⟩ := next_got h'
      obtain ⟨_, p2, h3, h4⟩ := next_got h2
      injection h4 with h5 h6
      subst h5 h6
      obtain ⟨g1, _, g2⟩ := number_reads (by decide) h1
      obtain ⟨g3, _⟩ := want_reads h3
      rw [List.drop_zero] at g1
      refine ⟨?_, by show (7 : Int) ≠ 12; decide, ?_, ⟨fun (h : (7 : Int) = 9) => absurd h (by decide), fun _ e h => (by cases h), g2, fun x h => by cases h⟩⟩
      · unfold fitsV
        rw [← hl]
        simp
      · unfold answerW
        dsimp only
        rw [if_neg (by decide), if_pos rfl, line_one, digits_dec g2, List.append_assoc, ← g3]
        exact g1
    · rw [if_neg hd] at h'
      obtain ⟨k, hm, h1, h2⟩ := fixed_reads (l := [4]) h'
      simp only [List.mem_cons, List.not_mem_nil, or_false] at hm
      subst hm
      exact hfix _ (by decide) (by decide) (by decide) (by decide) (by decide) (by decide) (by decide) (by decide) (by decide) h1 h2
  · obtain ⟨k, hm, h1, h2⟩ := fixed_reads (l := [6, 4]) h
    simp only [List.mem_cons, List.not_mem_nil, or_false] at hm
    rcases hm with rfl | rfl
    · exact hfix _ (by decide) (by decide) (by decide) (by decide) (by decide) (by decide) (by decide) (by decide) (by decide) h1 h2
    · exact hfix _ (by decide) (by decide) (by decide) (by decide) (by decide) (by decide) (by decide) (by decide) (by decide) h1 h2
  · obtain ⟨k, hm, h1, h2⟩ := fixed_reads (l := [8]) h
    simp only [List.mem_cons, List.not_mem_nil, or_false] at hm
    subst hm
    exact hfix _ (by decide) (by decide) (by decide) (by decide) (by decide) (by decide) (by decide) (by decide) (by decide) h1 h2
  · have h' : ((wantV raw 0 (versionV ++ [32])).next fun _ p => (textR raw p).next fun s p1 => (wantV raw p1 crlf).next fun _ p2 => RdV.got ({ kind := 10, text := s } : AnswerV) p2) = .got a q := h
    obtain ⟨_, p1, h1, h2⟩ := next_got h'
    obtain ⟨s, p2, h3, h4⟩ := next_got h2
    obtain ⟨_, p3, h5, h6⟩ := next_got h4
    injection h6 with h7 h8
    subst h7 h8
    obtain ⟨g1, _⟩ := want_reads h1
    obtain ⟨g2, _, g3⟩ := text_reads h3
    obtain ⟨g4, _⟩ := want_reads h5
    rw [List.drop_zero] at g1
    refine ⟨?_, by show (10 : Int) ≠ 12; decide, ?_, ⟨fun (h : (10 : Int) = 9) => absurd h (by decide), fun _ e h => (by cases h), Nat.zero_le _, fun x h => by cases h⟩⟩
    · unfold fitsV
      rw [← hl]
      simp [g3]
    · unfold answerW
      dsimp only
      rw [if_neg (by decide), if_neg (by decide), if_pos rfl]
      have e : lineR [versionV, s] = versionV ++ [32] ++ s ++ crlf := by simp [lineR, List.intercalate, List.intersperse, crlf]
      show raw = lineR [versionV, s] ++ raw.drop p3
      rw [e]
      conv => lhs; rw [g1, g2, g4]
      simp only [List.append_assoc]
  · exact absurd rfl hv
  · obtain ⟨k, hm, h1, h2⟩ := fixed_reads (l := [14]) h
    simp only [List.mem_cons, List.not_mem_nil, or_false] at hm
    subst hm
    exact hfix _ (by decide) (by decide) (by decide) (by decide) (by decide) (by decide) (by decide) (by decide) (by decide) h1 h2
  · have h' : ((statsFrom raw (raw.length + 1) [] 0).next fun x p => RdV.got ({ kind := 13, stats := x } : AnswerV) p) = .got a q := h
    obtain ⟨x, p1, h1, h2⟩ := next_got h'
    injection h2 with h3 h4
    subst h3 h4
    obtain ⟨l, m1, m2, m3⟩ := stats_reads _ _ _ _ _ h1
    rw [List.nil_append] at m1
    subst m1
    refine ⟨?_, by show (13 : Int) ≠ 12; decide, ?_, ⟨fun (h : (13 : Int) = 9) => absurd h (by decide), fun _ e h => (by cases h), Nat.zero_le _, fun x h => (m3 x h).2⟩⟩
    · unfold fitsV
      rw [← hl]
      have hall : (x.all fun x => nameR x.1) = true := List.all_eq_true.2 fun x hx => (m3 x hx).1
      simp only [hall]
      simp
    · unfold answerW
      dsimp only
      rw [if_neg (by decide), if_neg (by decide), if_neg (by decide), if_neg (by decide), if_pos rfl, line_one]
      rw [List.drop_zero] at m2
      exact m2
  · exact meta_reads (by rw [← hl]; exact .inl rfl) h
  · exact meta_reads (by rw [← hl]; exact .inr rfl) h
end
end Sp
end Go.Proofs.YtnbeeehfapjpdaaGreatDoor
end
section
namespace Go.Proofs.YtnbeeehfapjpdaaGreatDoor
namespace Sp
section
variable {raw : Bs} {p q : Nat}
theorem kinds_quit {v : Int} {what : Bs} (h : v ≠ 18) : kindsV v what ≠ [12] := by
  unfold kindsV
  by_cases h1 : v = 1 ∨ v = 2 ∨ v = 3 ∨ v = 4
  · rw [if_pos h1]; decide
  rw [if_neg h1]
  by_cases h2 : v = 5 ∨ v = 6 ∨ v = 7 ∨ v = 8 ∨ v = 9
  · rw [if_pos h2]; decide
  rw [if_neg h2]
  by_cases h3 : v = 10
  · rw [if_pos h3]; decide
  rw [if_neg h3]
  by_cases h4 : v = 11
  · rw [if_pos h4]; decide
  rw [if_neg h4]
  by_cases h5 : v = 12 ∨ v = 13
  · rw [if_pos h5]; decide
  rw [if_neg h5]
  by_cases h6 : v = 14
  · rw [if_pos h6]; decide
  rw [if_neg h6]
  by_cases h7 : v = 15 ∨ v = 17
  · rw [if_pos h7]; decide
  rw [if_neg h7]
  by_cases h8 : v = 16
  · rw [if_pos h8]; decide
  rw [if_neg h8, if_neg h]
  by_cases h10 : v = 19
  · rw [if_pos h10]
    by_cases hw : what = [114, 101, 115, 101, 116]
    · rw [if_pos hw]; decide
    · rw [if_neg hw]; decide
  rw [if_neg h10]
  by_cases h11 : v = 20 ∨ v = 21 ∨ v = 22 ∨ v = 23
  · rw [if_pos h11]; decide
  rw [if_neg h11]
  by_cases h12 : v = 24
  · rw [if_pos h12]; decide
  · rw [if_neg h12]; decide
theorem refused_reads {a : AnswerV} (h : refusedR raw 0 = .got a q) : a = { kind := 11, text := a.text } ∧ refusalV a.text = true ∧ raw = a.text ++ crlf ++ raw.drop q := by
  unfold refusedR at h
  obtain ⟨i, p1, h1, h⟩ := next_got h
  obtain ⟨s, g1, g2, _⟩ := choose_reads h1
  rw [List.drop_zero] at g2
  by_cases hi : i = 0
  · rw [if_pos hi] at h
    injection h with h2 h3
    subst h2 h3 hi
    have hs : s = errorV ++ crlf := by simpa [refusals] using g1.symm
    subst hs
    exact ⟨rfl, by decide, g2⟩
  · rw [if_neg hi] at h
    obtain ⟨t, p2, h2, h⟩ := next_got h
    obtain ⟨_, p3, h3, h⟩ := next_got h
    injection h with h4 h5
    subst h4 h5
    have hg : refusals.getD i [] = s := by rw [List.getD_eq_getElem?_getD, g1]; rfl
    obtain ⟨a1, _, a2⟩ := text_reads h2
    obtain ⟨b1, _⟩ := want_reads h3
    have hs : s = clientErr ∨ s = serverErr := by
      match i, hi, g1 with
      | 1, _, g1 => left; simpa [refusals] using g1.symm
      | 2, _, g1 => right; simpa [refusals] using g1.symm
      | i + 3, _, g1 => simp [refusals] at g1
    rw [hg]
    refine ⟨rfl, ?_, ?_⟩
    · show refusalV (s ++ t) = true
      have hp : s.isPrefixOf (s ++ t) = true := by rw [List.isPrefixOf_iff_prefix]; exact List.prefix_append _ _
      unfold refusalV
      rw [Bool.or_eq_true]
      right
      rw [List.any_eq_true]
      refine ⟨s, ?_, by rw [hp, List.drop_left, a2]; rfl⟩
      rcases hs with rfl | rfl <;> decide
    · show raw = s ++ t ++ crlf ++ raw.drop p3
      conv => lhs; rw [g2, a1, b1]
      simp only [List.append_assoc]
/-- what is told is an answer that fits, and its bytes are those that were read -/
theorem outcome_reads {v : Int} {keys : List Bs} {what : Bs} {a : AnswerV} (hk : kindsV v what ≠ []) (hv : v ≠ 18) (h : outcomeR raw v keys what = .got a q) : fitsV v keys what a = true ∧ a.kind ≠ 12 ∧ raw = answerW v a ++ raw.drop q ∧ Told v a := by
  have hr : refusedR raw 0 = .got a q → fitsV v keys what a = true ∧ a.kind ≠ 12 ∧ raw = answerW v a ++ raw.drop q ∧ Told v a := fun h => by
    obtain ⟨h1, h2, h3⟩ := refused_reads h
    rw [h1]
    refine ⟨?_, by show (11 : Int) ≠ 12; decide, ?_, ⟨fun (h : (11 : Int) = 9) => absurd h (by decide), fun _ e h => (by cases h), Nat.zero_le _, fun x h => by cases h⟩⟩
    · unfold fitsV
      dsimp only
      rw [if_neg, if_neg, if_neg (by decide), if_neg (by decide), if_pos rfl, h2]
      · rintro (⟨h, _⟩ | ⟨h, _⟩ | ⟨h, _⟩ | ⟨_, _, h, _⟩)
        · exact h rfl
        · exact h rfl
        · omega
        · exact h rfl
      · rintro (h | ⟨_, h | h⟩)
        · exact hk h
        · exact h rfl
        · exact hv h
    · unfold answerW
      dsimp only
      rw [if_neg (by decide), if_neg (by decide), if_neg (by decide), if_pos rfl, line_one]
      exact h3
  unfold outcomeR at h
  cases e1 : readR raw v keys what 0 with
  | got x p =>
    rw [e1] at h
    injection h with h1 h2
    subst h1 h2
    exact read_reads (kinds_quit hv) e1
  | more =>
    rw [e1] at h
    dsimp only at h
    cases e2 : refusedR raw 0 with
    | got b m =>
      rw [e2] at h
      injection h with h1 h2
      subst h1 h2
      exact hr e2
    | more => rw [e2] at h; cases h
    | fail => rw [e2] at h; cases h
  | fail =>
    rw [e1] at h
    exact hr h

theorem text_exact {s r : Bs} (hs : plainV s = true) (h : raw.drop p = s ++ 13 :: r) : textR raw p = .got s (p + s.length) := by
  have hall : ∀ c ∈ s, decide (c < 32 ∨ 126 < c) = false := fun c hc => by
    have h' := hs
    unfold plainV at h'
    simp only [Bool.and_eq_true, List.all_eq_true] at h'
    have := h'.2 c hc
    rw [decide_eq_true_eq] at this
    rw [decide_eq_false_iff_not, not_or, UInt8.not_lt, UInt8.not_lt]
    exact this
  have e : (raw.drop p).findIdx? (fun c => decide (c < 32 ∨ 126 < c)) = some s.length := by
    have e0 : (13 :: r).findIdx? (fun c => decide (c < 32 ∨ 126 < c)) = some 0 := by rw [List.findIdx?_cons, if_pos (by decide)]
    rw [h, List.findIdx?_append, List.findIdx?_eq_none_iff.2 hall, e0]
    simp
  unfold textR
  rw [e]
  dsimp only
  rw [h, List.take_left, if_pos hs]
theorem statName_exact {s r : Bs} (hs : nameR s = true) (h : raw.drop p = s ++ 32 :: r) : statNameR raw p = .got s (p + s.length + 1) := by
  have hall : ∀ c ∈ s, decide (c = 32) = false := fun c hc => by
    have h' := hs
    unfold nameR at h'
    simp only [Bool.and_eq_true, List.all_eq_true] at h'
    have := h'.2 c hc
    rw [decide_eq_true_eq] at this
    rw [decide_eq_false_iff_not]
    rintro rfl
    exact absurd this.1 (by decide)
  have e : (raw.drop p).findIdx? (fun c => decide (c = 32)) = some s.length := by
    have e0 : (32 :: r).findIdx? (fun c => decide (c = 32)) = some 0 := by rw [List.findIdx?_cons, if_pos (by decide)]
    rw [h, List.findIdx?_append, List.findIdx?_eq_none_iff.2 hall, e0]
    simp
  unfold statNameR
  rw [e]
  dsimp only
  rw [h, List.take_left, if_neg (by rw [hs]; decide)]
theorem data_exact {d r : Bs} {n : Nat} (hn : d.length = n) (h : raw.drop p = d ++ r) : dataR raw n p = .got d (p + n) := by
  subst hn
  unfold dataR
  rw [h, if_neg (by rw [List.length_append]; omega), List.take_left]
theorem dig_of {d : Nat} (h : d < 10) : (UInt8.ofNat (48 + d)).toNat = 48 + d ∧ ¬ (UInt8.ofNat (48 + d) < 48 ∨ 57 < UInt8.ofNat (48 + d)) := by
  have e : (UInt8.ofNat (48 + d)).toNat = 48 + d := by rw [UInt8.toNat_ofNat']; exact Nat.mod_eq_of_lt (by have : (2 : Nat) ^ 8 = 256 := rfl; omega)
  refine ⟨e, ?_⟩
  rw [not_or, UInt8.not_lt, UInt8.not_lt, UInt8.le_iff_toNat_le, UInt8.le_iff_toNat_le, e]
  have e1 : (48 : UInt8).toNat = 48 := rfl
  have e2 : (57 : UInt8).toNat = 57 := rfl
  omega
theorem number_run {most p : Nat} : ∀ (n : Nat) (l : Bs), n ≤ most → 9 ≤ most → numberFrom most p 0 0 (Lib.decDigits n ++ l) = numberFrom most p (Lib.decDigits n).length n l := by
  intro n
  induction n using Nat.strongRecOn with
  | _ n ih =>
    intro l hn hm
    by_cases h : n < 10
    · obtain ⟨d1, d2⟩ := dig_of h
      rw [dec_one h]
      show numberFrom most p 0 0 (UInt8.ofNat (48 + n) :: l) = numberFrom most p 1 n l
      rw [numberFrom, if_neg d2, d1, if_neg (by omega), show 10 * 0 + (48 + n - 48) = n by omega]
    · obtain ⟨d1, d2⟩ := dig_of (d := n % 10) (by omega)
      have e : Lib.decDigits n = Lib.decDigits (n / 10) ++ [UInt8.ofNat (48 + n % 10)] := by
        have := dec_more (n := n / 10) (d := n % 10) (by omega) (by omega)
        rwa [show 10 * (n / 10) + n % 10 = n by omega] at this
      have hpos : 0 < (Lib.decDigits (n / 10)).length := by
        rw [Lib.decDigits]
        split
        · exact Nat.one_pos
        · rw [List.length_append]; exact Nat.succ_pos _
      rw [e, List.append_assoc, ih (n / 10) (by omega) _ (by omega) hm, List.length_append]
      show numberFrom most p _ (n / 10) (UInt8.ofNat (48 + n % 10) :: l) = numberFrom most p (_ + 1) n l
      rw [numberFrom, if_neg d2, d1, if_neg (by omega), show 10 * (n / 10) + (48 + n % 10 - 48) = n by omega]
theorem number_exact {most n : Nat} {c : UInt8} {r : Bs} (hn : n ≤ most) (hm : 9 ≤ most) (hc : c < 48 ∨ 57 < c) (h : raw.drop p = Lib.decDigits n ++ c :: r) : numberR raw most p = .got n (p + (Lib.decDigits n).length) := by
  have hpos : (Lib.decDigits n).length ≠ 0 := by
    rw [Lib.decDigits]
    split
    · simp
    · simp
  unfold numberR
  rw [h, number_run n _ hn hm, numberFrom, if_pos hc, if_neg hpos]
theorem got_next {α β : Type} {a : RdV α} {x : α} (h : a = .got x q) (k : α → Nat → RdV β) : a.next k = k x q := by rw [h]; rfl
/-- a flag is read, and what stands behind it -/
theorem flagStep_exact {b : Nat} {w r : Bs} {c : UInt8} (hw : flagR w = true) (hc : oddV c = true) (h : raw.drop p = w ++ c :: r) (hl : p + w.length - b ≤ 2048) : flagStep raw b p = .got () (p + w.length) := by
  unfold flagR at hw
  simp only [Bool.and_eq_true, decide_eq_true_eq, List.all_eq_true] at hw
  obtain ⟨⟨h1, h2⟩, h3⟩ := hw
  have hall : ¬ w.findIdx oddV < w.length := fun hlt => by
    obtain ⟨x, hx, ho⟩ := List.findIdx_lt_length.1 hlt
    have := h3 x hx
    rw [ho] at this; cases this
  have e : (raw.drop p).findIdx oddV = w.length := by
    rw [h, (findIdx_more (f := oddV) (d := w) (c :: r)).2 hall |>.2, List.findIdx_cons, hc]
    rfl
  have hne : w.length ≠ 0 := fun e0 => h1 (List.eq_nil_of_length_eq_zero e0)
  unfold flagStep
  rw [e, h, if_pos (by rw [List.length_append, List.length_cons]; omega), if_neg (by omega)]
theorem flags_exact {b : Nat} {r : Bs} : ∀ (ws : List Bs) (r0 p : Nat), ws.length < r0 → (∀ w ∈ ws, flagR w = true) → raw.drop p = (ws.flatMap fun w => [32] ++ w) ++ 13 :: r → p + (ws.flatMap fun w => [32] ++ w).length - b ≤ 2048 →
    flagsFrom raw b r0 p = .got () (p + (ws.flatMap fun w => [32] ++ w).length)
  | [], r0 + 1, p, _, _, h, hl => by
    have h' : raw.drop p = 13 :: r := h
    have hl' : p - b ≤ 2048 := by simpa using hl
    unfold flagsFrom
    have e : flagHead raw b p = .got true p := by
      unfold flagHead
      rw [h', if_neg (by simp), if_neg (by omega)]; rfl
    rw [got_next e]; rfl
  | w :: ws, r0 + 1, p, h0, hf, h, hl => by
    rw [List.flatMap_cons] at h hl ⊢
    have h' : raw.drop p = [32] ++ (w ++ ((ws.flatMap fun w => [32] ++ w) ++ 13 :: r)) := by rw [h]; simp only [List.append_assoc]
    rw [List.length_append, List.length_append] at hl ⊢
    have e32 : ([32] : Bs).length = 1 := rfl
    have e : flagHead raw b p = .got false p := by
      unfold flagHead
      rw [h', if_neg (by simp), if_neg (by omega)]; rfl
    unfold flagsFrom
    rw [got_next e]
    show ((wantV raw p [32]).next fun _ p1 => (flagStep raw b p1).next fun _ p2 => flagsFrom raw b r0 p2) = _
    rw [got_next (want_exact h')]
    have h1 := drop_add h'
    obtain ⟨c, r', hc, hr⟩ : ∃ c r', oddV c = true ∧ ((ws.flatMap fun w => [32] ++ w) ++ 13 :: r) = c :: r' := by
      cases ws with
      | nil => exact ⟨13, r, rfl, rfl⟩
      | cons x ws => exact ⟨32, x ++ ((ws.flatMap fun w => [32] ++ w) ++ 13 :: r), rfl, by rw [List.flatMap_cons]; simp only [List.append_assoc]; rfl⟩
    have h1' := h1
    rw [hr] at h1
    rw [got_next (flagStep_exact (hf w (List.mem_cons_self ..)) hc h1 (by omega))]
    rw [flags_exact ws r0 _ (by simp only [List.length_cons] at h0; omega) (fun x hx => hf x (List.mem_cons_of_mem _ hx)) (drop_add h1') (by omega)]
    congr 1
    omega
theorem texts_grow : ∀ (ks : List Bs) {ts : List Bs} {s : Bs}, s ∈ ts → s ∈ valueTexts ts ks
  | [], _, _, h => h
  | k :: ks, ts, s, h => by
    unfold valueTexts
    split
    · exact texts_grow ks (List.mem_append_left _ h)
    · exact texts_grow ks h
theorem texts_key : ∀ (ks : List Bs) {ts : List Bs} {k : Bs}, k ∈ ks → legalR k = true → (valueV ++ [32] ++ k ++ [32]) ∈ valueTexts ts ks
  | k' :: ks, ts, k, hk, hl => by
    unfold valueTexts
    rcases List.mem_cons.1 hk with rfl | hk
    · split
      · exact texts_grow ks (List.mem_append_right _ (List.mem_singleton.2 rfl))
      · rename_i hn
        have : (valueV ++ [32] ++ k ++ [32]) ∈ ts.drop 1 := by
          by_cases hm : (valueV ++ [32] ++ k ++ [32]) ∈ ts.drop 1
          · exact hm
          · exact absurd ⟨hl, hm⟩ hn
        exact texts_grow ks (List.mem_of_mem_drop this)
    · split
      · exact texts_key ks hk hl
      · exact texts_key ks hk hl
/-- what is told of an entry of keys -/
def keptE (v : Int) (e : EntryV) : EntryV := { key := e.key, value := e.value, flags := e.flags, token := if tokensV v then e.token else 0 }
theorem entry_text' {v : Int} {e : EntryV} (h1 : e.flags ≤ 4294967295) (h2 : e.token ≤ 18446744073709551615) (h3 : e.value.length ≤ 1048576) : entryW v e = valueV ++ [32] ++ e.key ++ [32] ++ Lib.decDigits e.flags ++ [32] ++ Lib.decDigits e.value.length ++ (if tokensV v then [32] ++ Lib.decDigits e.token else []) ++ crlf ++ e.value ++ crlf := by
  unfold entryW lineR
  rw [digits_dec (by omega), digits_dec (by omega), digits_dec h2]
  cases tokensV v <;> simp [List.intercalate, List.intersperse, crlf]
theorem values_exact (v : Int) {r : Bs} : ∀ (l : List EntryV) (r0 : Nat) (keys : List Bs) (out : List EntryV) (p : Nat), keys.length < r0 → entriesV keys l = true → (∀ e ∈ l, e.token ≤ 18446744073709551615) → raw.drop p = l.flatMap (entryW v) ++ (endV ++ crlf ++ r) →
    ∃ q, valuesFrom raw v r0 keys out p = .got (out ++ l.map (keptE v)) q ∧ raw.drop q = r ∧ q = p + (l.flatMap (entryW v)).length + 5
  | [], r0 + 1, keys, out, p, _, _, _, h => by
    have h' : raw.drop p = (endV ++ crlf) ++ r := h
    obtain ⟨us, hus⟩ := valueTexts_head keys (endV ++ crlf) []
    have e := choose_exact (texts_parted keys) (i := 0) (s := endV ++ crlf) (by rw [hus]; rfl) h'
    refine ⟨p + (endV ++ crlf).length, ?_, drop_add h', rfl⟩
    unfold valuesFrom
    dsimp only
    rw [got_next e, if_pos rfl, List.map_nil, List.append_nil]
  | e :: l, r0 + 1, keys, out, p, h0, hf, ht, h => by
    unfold entriesV at hf
    by_cases hk : e.key ∈ keys
    · rw [if_pos hk] at hf
      simp only [Bool.and_eq_true, decide_eq_true_eq] at hf
      obtain ⟨⟨⟨f1, f2⟩, f3⟩, f4⟩ := hf
      have f5 := ht e (List.mem_cons_self ..)
      have hw := entry_text' (v := v) f2 f5 f3
      obtain ⟨i, hi⟩ := List.getElem?_of_mem (texts_key keys (ts := [endV ++ crlf]) hk f1)
      have hi0 : i ≠ 0 := fun e0 => by
        subst e0
        obtain ⟨us, hus⟩ := valueTexts_head keys (endV ++ crlf) []
        rw [hus] at hi
        have : endV ++ crlf = valueV ++ [32] ++ e.key ++ [32] := by simpa using hi
        simp [endV, valueV] at this
      rw [List.flatMap_cons, hw] at h
      simp only [List.append_assoc] at h
      have h1 : raw.drop p = (valueV ++ [32] ++ e.key ++ [32]) ++ (Lib.decDigits e.flags ++ ([32] ++ (Lib.decDigits e.value.length ++ ((if tokensV v then [32] ++ Lib.decDigits e.token else []) ++ (crlf ++ (e.value ++ (crlf ++ (l.flatMap (entryW v) ++ (endV ++ (crlf ++ r))))))))) ) := by
        rw [h]; simp only [List.append_assoc]
      have e1 := choose_exact (texts_parted keys) hi h1
      have h2 := drop_add h1
      have e2 := number_exact (most := 4294967295) f2 (by decide) (c := 32) (.inl (by decide)) h2
      have h3 := drop_add h2
      have e3 := want_exact h3
      have h4 := drop_add h3
      have hg : (valueTexts [endV ++ crlf] keys).getD i [] = valueV ++ [32] ++ e.key ++ [32] := by rw [List.getD_eq_getElem?_getD, hi]; rfl
      have hkey : ((valueV ++ [32] ++ e.key ++ [32]).drop 6).dropLast = e.key := by
        show (e.key ++ [32]).dropLast = e.key
        simp
      have hlen : (keys.drop (keys.idxOf e.key + 1)).length < r0 := by
        have := List.idxOf_lt_length_of_mem hk
        rw [List.length_drop]; omega
      have htk : ∃ q4, (((numberR raw 1048576 (p + (valueV ++ [32] ++ e.key ++ [32]).length + (Lib.decDigits e.flags).length + ([32] : Bs).length)).next fun n p4 => ((if tokensV v then (wantV raw p4 [32]).next fun _ p5 => numberR raw 18446744073709551615 p5 else RdV.got 0 p4 : RdV Nat)).next fun tk p6 => (RdV.got (n, tk) p6)) = .got (e.value.length, if tokensV v then e.token else 0) q4) ∧
          raw.drop q4 = crlf ++ (e.value ++ (crlf ++ (l.flatMap (entryW v) ++ (endV ++ (crlf ++ r))))) ∧ q4 = p + (valueV ++ [32] ++ e.key ++ [32]).length + (Lib.decDigits e.flags).length + ([32] : Bs).length + (Lib.decDigits e.value.length).length + (if tokensV v then [32] ++ Lib.decDigits e.token else []).length := by
        cases hv : tokensV v with
        | true =>
          rw [hv, if_pos rfl] at h4
          have e4 := number_exact (most := 1048576) f3 (by decide) (c := 32) (.inl (by decide)) h4
          have h5 := drop_add h4
          have h5' : raw.drop (p + (valueV ++ [32] ++ e.key ++ [32]).length + (Lib.decDigits e.flags).length + ([32] : Bs).length + (Lib.decDigits e.value.length).length) = [32] ++ (Lib.decDigits e.token ++ (crlf ++ (e.value ++ (crlf ++ (l.flatMap (entryW v) ++ (endV ++ (crlf ++ r))))))) := by rw [h5]; simp only [List.append_assoc]
          have e5 := want_exact h5'
          have h6 := drop_add h5'
          have e6 := number_exact (most := 18446744073709551615) f5 (by decide) (c := 13) (.inl (by decide)) h6
          have h7 := drop_add h6
          refine ⟨_, ?_, h7, ?_⟩
          · rw [got_next e4, if_pos rfl, got_next e5, got_next e6, if_pos rfl]
          · rw [if_pos rfl]
            simp only [List.length_append, List.length_cons, List.length_nil]
            omega
        | false =>
          rw [hv, if_neg (by decide)] at h4
          have e4 := number_exact (most := 1048576) f3 (by decide) (c := 13) (.inl (by decide)) h4
          have h5 := drop_add h4
          refine ⟨_, ?_, h5, ?_⟩
          · rw [got_next e4, if_neg (by decide), if_neg (by decide)]; rfl
          · rw [if_neg (by decide)]; rfl
      obtain ⟨q4, t1, t2, t3⟩ := htk
      have e7 := want_exact t2
      have h8 := drop_add t2
      have e8 := data_exact (n := e.value.length) rfl h8
      have h9 := drop_add h8
      have e9 := want_exact h9
      have h10 := drop_add h9
      have h10' : raw.drop (q4 + crlf.length + e.value.length + crlf.length) = l.flatMap (entryW v) ++ (endV ++ crlf ++ r) := by rw [h10]; simp only [List.append_assoc]
      obtain ⟨q, v1, v2, v3⟩ := values_exact v l r0 _ (out ++ [keptE v e]) _ hlen f4 (fun x hx => ht x (List.mem_cons_of_mem _ hx)) h10'
      refine ⟨q, ?_, v2, ?_⟩
      · unfold valuesFrom
        dsimp only
        rw [got_next e1, if_neg hi0, hg, hkey, got_next e2, got_next e3]
        obtain ⟨n, p4, k1, k2⟩ := next_got t1
        obtain ⟨tk, p6, k3, k4⟩ := next_got k2
        injection k4 with k5 k6
        injection k5 with k7 k8
        subst k6 k7 k8
        rw [got_next k1, got_next k3, got_next e7, got_next e8, got_next e9, List.map_cons]
        rw [List.append_assoc] at v1
        exact v1
      · rw [v3, t3, List.flatMap_cons, hw]
        simp only [List.length_append, List.length_cons, List.length_nil]
        omega
    · rw [if_neg hk] at hf; cases hf
end
end Sp
end Go.Proofs.YtnbeeehfapjpdaaGreatDoor
end
section
namespace Go.Proofs.YtnbeeehfapjpdaaGreatDoor
namespace Sp
section
variable {raw : Bs} {p q : Nat}
theorem stat_text {x : Bs × Nat} (h : x.2 ≤ 18446744073709551615) : lineR [statV, x.1, digitsV x.2] = statV ++ [32] ++ x.1 ++ [32] ++ Lib.decDigits x.2 ++ crlf := by
  unfold lineR
  rw [digits_dec h]
  simp [List.intercalate, List.intersperse, crlf]
theorem stats_exact {r : Bs} : ∀ (l : List (Bs × Nat)) (r0 : Nat) (out : List (Bs × Nat)) (p : Nat), l.length < r0 → (∀ x ∈ l, nameR x.1 = true ∧ x.2 ≤ 18446744073709551615) → raw.drop p = (l.flatMap fun x => lineR [statV, x.1, digitsV x.2]) ++ (endV ++ crlf ++ r) →
    ∃ q, statsFrom raw r0 out p = .got (out ++ l) q ∧ raw.drop q = r ∧ q = p + (l.flatMap fun x => lineR [statV, x.1, digitsV x.2]).length + 5
  | [], r0 + 1, out, p, _, _, h => by
    have h' : raw.drop p = (endV ++ crlf) ++ r := h
    have e := choose_exact (ts := [endV ++ crlf, statV ++ [32]]) (parted_of (by decide)) (i := 0) (s := endV ++ crlf) rfl h'
    refine ⟨p + (endV ++ crlf).length, ?_, drop_add h', rfl⟩
    unfold statsFrom
    rw [got_next e, if_pos rfl, List.append_nil]
  | x :: l, r0 + 1, out, p, h0, hl, h => by
    obtain ⟨f1, f2⟩ := hl x (List.mem_cons_self ..)
    rw [List.flatMap_cons, stat_text f2] at h
    have h1 : raw.drop p = (statV ++ [32]) ++ (x.1 ++ 32 :: (Lib.decDigits x.2 ++ 13 :: 10 :: ((l.flatMap fun x => lineR [statV, x.1, digitsV x.2]) ++ (endV ++ crlf ++ r)))) := by
      rw [h]; simp [crlf]
    have e1 := choose_exact (ts := [endV ++ crlf, statV ++ [32]]) (parted_of (by decide)) (i := 1) (s := statV ++ [32]) rfl h1
    have h2 := drop_add h1
    have e2 := statName_exact f1 h2
    have h3 : raw.drop (p + (statV ++ [32]).length + x.1.length + 1) = Lib.decDigits x.2 ++ 13 :: 10 :: ((l.flatMap fun x => lineR [statV, x.1, digitsV x.2]) ++ (endV ++ crlf ++ r)) := by
      have := drop_add (s := x.1 ++ [32]) (r := Lib.decDigits x.2 ++ 13 :: 10 :: ((l.flatMap fun x => lineR [statV, x.1, digitsV x.2]) ++ (endV ++ crlf ++ r))) (by rw [h2]; simp)
      have e9 : (x.1 ++ [32]).length = x.1.length + 1 := by rw [List.length_append]; rfl
      rw [e9] at this
      exact this
    have e3 := number_exact (most := 18446744073709551615) f2 (by decide) (c := 13) (.inl (by decide)) h3
    have h4 : raw.drop (p + (statV ++ [32]).length + x.1.length + 1 + (Lib.decDigits x.2).length) = crlf ++ ((l.flatMap fun x => lineR [statV, x.1, digitsV x.2]) ++ (endV ++ crlf ++ r)) := drop_add h3
    have e4 := want_exact h4
    have h5 := drop_add h4
    obtain ⟨q, v1, v2, v3⟩ := stats_exact l r0 (out ++ [x]) _ (by simp only [List.length_cons] at h0; omega) (fun y hy => hl y (List.mem_cons_of_mem _ hy)) h5
    refine ⟨q, ?_, v2, ?_⟩
    · unfold statsFrom
      rw [got_next e1, if_neg (by decide), got_next e2, got_next e3, got_next e4]
      rw [List.append_assoc] at v1
      exact v1
    · rw [v3, List.flatMap_cons, stat_text f2]
      simp only [List.length_append, List.length_cons, List.length_nil]
      omega
theorem split_ne : ∀ t : Bs, splitV t ≠ []
  | [] => by simp [splitV]
  | c :: t => by
    unfold splitV
    split
    · simp
    · split <;> simp
theorem split_join : ∀ (t : Bs) {w : Bs} {ws : List Bs}, splitV t = w :: ws → t = w ++ ws.flatMap fun w => [32] ++ w
  | [], w, ws, h => by
    simp only [splitV, List.cons.injEq] at h
    rw [← h.1, ← h.2]; rfl
  | c :: t, w, ws, h => by
    cases e : splitV t with
    | nil => exact absurd e (split_ne t)
    | cons w' ws' =>
      have ih := split_join t e
      unfold splitV at h
      by_cases hc : c = 32
      · rw [if_pos hc, e] at h
        injection h with h1 h2
        rw [← h1, ← h2, List.flatMap_cons, hc, ih]; rfl
      · rw [if_neg hc, e] at h
        injection h with h1 h2
        rw [← h1, ← h2, ih]; rfl
theorem flat_count : ∀ ws : List Bs, ws.length ≤ (ws.flatMap fun w => [32] ++ w).length
  | [] => Nat.le_refl _
  | w :: ws => by
    have := flat_count ws
    rw [List.flatMap_cons, List.length_append, List.length_append]
    simp only [List.length_cons, List.length_nil]; omega
theorem coded_exact {v : Int} {text r : Bs} {es : List EntryV} (hm : metaV v text es = true) (h : raw = text ++ (crlf ++ (es.flatMap (fun e => e.value ++ crlf) ++ r))) :
    ∃ q, codedR raw v 0 = .got { kind := 15, text := text, entries := es.map fun e => { value := e.value } } q ∧ raw.drop q = r := by
  unfold metaV at hm
  cases e : splitV text with
  | nil => exact absurd e (split_ne text)
  | cons code words =>
    rw [e] at hm
    dsimp only at hm
    by_cases hc : 2048 < text.length ∨ code ∉ codesV v ∨ (words ≠ [] ∧ (code = [69, 78] ∨ code = [77, 78])) ∨ (code ≠ [86, 65] ∧ es ≠ [])
    · rw [if_pos hc] at hm; cases hm
    · rw [if_neg hc] at hm
      simp only [not_or, not_and, Decidable.not_not] at hc
      obtain ⟨c1, c2, c3, c4⟩ := hc
      have hj := split_join text e
      obtain ⟨i, hi⟩ := List.getElem?_of_mem c2
      have hg : (codesV v).getD i [] = code := by rw [List.getD_eq_getElem?_getD, hi]; rfl
      have h0 : raw.drop 0 = code ++ ((words.flatMap fun w => [32] ++ w) ++ (crlf ++ (es.flatMap (fun e => e.value ++ crlf) ++ r))) := by
        rw [List.drop_zero, h]
        conv => lhs; rw [hj]
        simp only [List.append_assoc]
      have e1 := choose_exact (codes_parted v) hi h0
      have h1 := drop_add h0
      rw [Nat.zero_add] at e1 h1
      have htx : ∀ n, n = text.length → (raw.drop 0).take (n - 0) = text := fun n hn => by rw [hn, List.drop_zero, Nat.sub_zero, h, List.take_left]
      have hlen : text.length = code.length + (words.flatMap fun w => [32] ++ w).length := by
        conv => lhs; rw [hj]
        rw [List.length_append]
      have hrl : text.length ≤ raw.length := by rw [h, List.length_append]; omega
      unfold codedR
      rw [got_next e1]
      unfold codedRest
      rw [hg]
      by_cases hen : code = [69, 78] ∨ code = [77, 78]
      · have hw : words = [] := by
          by_cases hw : words = []
          · exact hw
          · exact absurd hen (by simpa using c3 hw)
        have hva : code ≠ [86, 65] := fun e => by rcases hen with h | h <;> (rw [h] at e; cases e)
        have hes : es = [] := by
          by_cases he : es = []
          · exact he
          · exact absurd (c4 hva) (by simpa using he)
        subst hw hes
        have ht : text = code := by rw [hj]; simp
        rw [if_pos hen]
        have h1' : raw.drop code.length = crlf ++ r := h1
        refine ⟨_, ?_, drop_add h1'⟩
        rw [got_next (want_exact h1'), ht]; rfl
      · rw [if_neg hen]
        by_cases hva : code = [86, 65]
        · rw [if_pos hva] at hm ⊢
          match es, words, hm, h, h1, hlen, e, hj, c3, c4, h0 with
          | [x], w :: ws, hm, h, h1, hlen, e, hj, c3, c4, h0 =>
            simp only [Bool.and_eq_true, decide_eq_true_eq] at hm
            obtain ⟨⟨m1, m2⟩, m3⟩ := hm
            rw [digits_dec (by omega)] at m2
            subst m2
            rw [List.flatMap_cons] at h1 hlen
            have h2 : raw.drop code.length = [32] ++ (Lib.decDigits x.value.length ++ ((ws.flatMap fun w => [32] ++ w) ++ (crlf ++ ((x.value ++ crlf) ++ r)))) := by
              rw [h1]; simp only [List.append_assoc, List.flatMap_cons, List.flatMap_nil, List.append_nil]
            have e2 := want_exact h2
            have h3 := drop_add h2
            obtain ⟨c, r', hcc, hr⟩ : ∃ c r', (c < 48 ∨ 57 < c) ∧ ((ws.flatMap fun w => [32] ++ w) ++ (crlf ++ ((x.value ++ crlf) ++ r))) = c :: r' := by
              cases ws with
              | nil => exact ⟨13, 10 :: ((x.value ++ crlf) ++ r), .inl (by decide), rfl⟩
              | cons y ws => exact ⟨32, y ++ ((ws.flatMap fun w => [32] ++ w) ++ (crlf ++ ((x.value ++ crlf) ++ r))), .inl (by decide), by rw [List.flatMap_cons]; simp only [List.append_assoc]; rfl⟩
            have h3' := h3
            rw [hr] at h3'
            have e3 := number_exact (most := 1048576) m1 (by decide) hcc h3'
            have h4 := drop_add h3
            have h4' : raw.drop (code.length + ([32] : Bs).length + (Lib.decDigits x.value.length).length) = (ws.flatMap fun w => [32] ++ w) ++ 13 :: (10 :: ((x.value ++ crlf) ++ r)) := h4
            have hfl := flat_count ws
            rw [List.length_append, List.length_append] at hlen
            have e4 := flags_exact (raw := raw) (b := 0) ws (raw.length + 1) _ (by omega) (fun y hy => List.all_eq_true.1 m3 y hy) h4' (by omega)
            have h5 := drop_add h4
            have e5 := want_exact h5
            have h6 := drop_add h5
            rw [List.append_assoc] at h6
            have e6 := data_exact (n := x.value.length) rfl h6
            have h7 := drop_add h6
            have e7 := want_exact h7
            have h8 := drop_add h7
            refine ⟨_, ?_, h8⟩
            have ek : ((if code = [86, 65] then (wantV raw code.length [32]).next fun _ p1 => numberR raw 1048576 p1 else RdV.got 0 code.length : RdV Nat)) = .got x.value.length (code.length + ([32] : Bs).length + (Lib.decDigits x.value.length).length) := by
              rw [if_pos hva, got_next e2]; exact e3
            rw [if_pos hva] at ek
            rw [got_next ek, got_next e4]
            unfold codedEnd
            rw [got_next e5]
            unfold codedLast
            rw [hg, if_pos hva, got_next e6, got_next e7, htx _ (by omega)]
            rfl
        · have hes : es = [] := by
            by_cases he : es = []
            · exact he
            · exact absurd (c4 hva) (by simpa using he)
          subst hes
          rw [if_neg hva] at hm ⊢
          have h1' : raw.drop code.length = (words.flatMap fun w => [32] ++ w) ++ 13 :: (10 :: r) := h1
          have hfl := flat_count words
          have e4 := flags_exact (raw := raw) (b := 0) words (raw.length + 1) _ (by omega) (fun y hy => List.all_eq_true.1 hm y hy) h1' (by omega)
          have h5 := drop_add h1
          have h5' : raw.drop (code.length + (words.flatMap fun w => [32] ++ w).length) = crlf ++ r := h5
          have e5 := want_exact h5'
          refine ⟨_, ?_, drop_add h5'⟩
          show ((flagsFrom raw 0 (raw.length + 1) code.length).next fun _ p3 => codedEnd raw v 0 i 0 p3) = _
          rw [got_next e4]
          unfold codedEnd
          rw [got_next e5]
          unfold codedLast
          rw [hg, if_neg hva, htx _ (by omega)]
          rfl
end
end Sp
end Go.Proofs.YtnbeeehfapjpdaaGreatDoor
end
section
namespace Go.Proofs.YtnbeeehfapjpdaaGreatDoor
namespace Sp
section
variable {raw r : Bs} {p q : Nat}
theorem refused_exact {text : Bs} (ht : refusalV text = true) (h : raw = text ++ (crlf ++ r)) : ∃ q, refusedR raw 0 = .got { kind := 11, text := text } q ∧ raw.drop q = r := by
  unfold refusalV at ht
  rw [Bool.or_eq_true, decide_eq_true_eq, List.any_eq_true] at ht
  have hp : Parted refusals := parted_of (by decide)
  rcases ht with rfl | ⟨s, hs, ht⟩
  · have h0 : raw.drop 0 = (errorV ++ crlf) ++ r := by rw [List.drop_zero, h, List.append_assoc]
    have e1 := choose_exact hp (i := 0) (s := errorV ++ crlf) rfl h0
    refine ⟨_, ?_, drop_add h0⟩
    unfold refusedR
    rw [got_next e1, if_pos rfl]
  · rw [Bool.and_eq_true, List.isPrefixOf_iff_prefix] at ht
    obtain ⟨⟨t, rfl⟩, ht⟩ := ht
    rw [List.drop_left] at ht
    obtain ⟨i, hi, hi0⟩ : ∃ i, refusals[i]? = some s ∧ i ≠ 0 := by
      simp only [List.mem_cons, List.not_mem_nil, or_false] at hs
      rcases hs with rfl | rfl
      · exact ⟨1, rfl, by decide⟩
      · exact ⟨2, rfl, by decide⟩
    have hg : refusals.getD i [] = s := by rw [List.getD_eq_getElem?_getD, hi]; rfl
    have h0 : raw.drop 0 = s ++ (t ++ (crlf ++ r)) := by rw [List.drop_zero, h, List.append_assoc]
    have e1 := choose_exact hp hi h0
    have h1 := drop_add h0
    have h1' : raw.drop (0 + s.length) = t ++ 13 :: (10 :: r) := h1
    have e2 := text_exact ht h1'
    have h2 := drop_add h1
    have e3 := want_exact h2
    refine ⟨_, ?_, drop_add h2⟩
    unfold refusedR
    rw [got_next e1, if_neg hi0, got_next e2, got_next e3, hg]
/-- what is told of an answer -/
def keptR (v : Int) (a : AnswerV) : AnswerV := { a with entries := a.entries.map fun e => { key := if a.kind = 9 then e.key else [], value := e.value, flags := if a.kind = 9 then e.flags else 0, token := if tokensV v then e.token else 0 } }
/-- numbers are unsigned ones of 64 bits -/
structure Sized (a : AnswerV) : Prop where
  number : a.number ≤ 18446744073709551615
  tokens : ∀ e ∈ a.entries, e.token ≤ 18446744073709551615
  stats : ∀ x ∈ a.stats, x.2 ≤ 18446744073709551615
theorem fits_form {v : Int} {keys : List Bs} {what : Bs} {a : AnswerV} (h : fitsV v keys what a = true) : (a.kind ∈ kindsV v what ∨ (a.kind = 11 ∧ v ≠ 18)) ∧ kindsV v what ≠ [] ∧ (a.kind ≠ 13 → a.stats = []) ∧ (a.kind ≠ 9 → a.kind ≠ 15 → a.entries = []) ∧ (a.kind ≠ 7 → a.number = 0) ∧ (a.kind ≠ 10 → a.kind ≠ 11 → a.kind ≠ 15 → a.text = []) ∧
    (a.kind = 9 → entriesV keys a.entries = true) ∧ (a.kind = 10 → plainV a.text = true) ∧ (a.kind = 11 → refusalV a.text = true) ∧ (a.kind = 13 → ∀ x ∈ a.stats, nameR x.1 = true) ∧ (a.kind = 15 → metaV v a.text a.entries = true) := by
  unfold fitsV at h
  dsimp only at h
  by_cases h1 : kindsV v what = [] ∨ (a.kind ∉ kindsV v what ∧ (a.kind ≠ 11 ∨ v = 18))
  · rw [if_pos h1] at h; cases h
  · rw [if_neg h1] at h
    by_cases h2 : (a.stats ≠ [] ∧ a.kind ≠ 13) ∨ (a.entries ≠ [] ∧ a.kind ≠ 9 ∧ a.kind ≠ 15) ∨ (0 < a.number ∧ a.kind ≠ 7) ∨ (a.text ≠ [] ∧ a.kind ≠ 10 ∧ a.kind ≠ 11 ∧ a.kind ≠ 15)
    · rw [if_pos h2] at h; cases h
    · rw [if_neg h2] at h
      refine ⟨?_, fun e => h1 (.inl e), ?_, ?_, ?_, ?_, ?_, ?_, ?_, ?_, ?_⟩
      · by_cases hk : a.kind ∈ kindsV v what
        · exact .inl hk
        · refine .inr ⟨?_, ?_⟩
          · by_cases h3 : a.kind = 11
            · exact h3
            · exact absurd (.inr ⟨hk, .inl h3⟩) h1
          · intro h3
            exact h1 (.inr ⟨hk, .inr h3⟩)
      · intro h3
        by_cases h4 : a.stats = []
        · exact h4
        · exact absurd (.inl ⟨h4, h3⟩) h2
      · intro h3 h5
        by_cases h4 : a.entries = []
        · exact h4
        · exact absurd (.inr (.inl ⟨h4, h3, h5⟩)) h2
      · intro h3
        by_cases h4 : a.number = 0
        · exact h4
        · exact absurd (.inr (.inr (.inl ⟨by omega, h3⟩))) h2
      · intro h3 h5 h6
        by_cases h4 : a.text = []
        · exact h4
        · exact absurd (.inr (.inr (.inr ⟨h4, h3, h5, h6⟩))) h2
      · intro h3
        rw [if_pos h3] at h; exact h
      · intro h3
        rw [h3] at h; exact h
      · intro h3
        rw [h3] at h; exact h
      · intro h3
        rw [h3] at h
        exact fun x hx => List.all_eq_true.1 h x hx
      · intro h3
        rw [h3] at h; exact h
theorem meta_tokens {v : Int} {what : Bs} (h : (15 : Int) ∈ kindsV v what) : tokensV v = false := by
  unfold tokensV
  rw [decide_eq_false_iff_not]
  rintro (rfl | rfl) <;> exact absurd h (by simp [kindsV])
theorem fixed_exact {l : List Int} (hp : Parted (l.map fun k => fixedV k ++ crlf)) {k : Int} (hk : k ∈ l) (h : raw = fixedV k ++ (crlf ++ r)) : ∃ q, ((chooseV raw 0 (l.map fun k => fixedV k ++ crlf)).next fun i p => (RdV.got ({ kind := l.getD i 0 } : AnswerV) p)) = .got { kind := k } q ∧ raw.drop q = r := by
  obtain ⟨i, hi⟩ := List.getElem?_of_mem hk
  have h0 : raw.drop 0 = (fixedV k ++ crlf) ++ r := by rw [List.drop_zero, h, List.append_assoc]
  have e1 := choose_exact hp (i := i) (s := fixedV k ++ crlf) (by rw [List.getElem?_map, hi]; rfl) h0
  refine ⟨_, ?_, drop_add h0⟩
  rw [got_next e1, List.getD_eq_getElem?_getD, hi]; rfl
theorem answer_eq {v : Int} {a : AnswerV} (he : a.entries = []) : keptR v a = a := by
  unfold keptR
  rw [he]
  cases a
  simp at he
  simp [he]
theorem read_exact {v : Int} {keys : List Bs} {what : Bs} {a : AnswerV} (hf : fitsV v keys what a = true) (h11 : a.kind ≠ 11) (h12 : a.kind ≠ 12) (hs : Sized a) (h : raw = answerW v a ++ r) : ∃ q, readR raw v keys what 0 = .got (keptR v a) q ∧ raw.drop q = r := by
  obtain ⟨g0, _, g2, g3, g4, g5, g6, g7, _, g9, g10⟩ := fits_form hf
  have hkm : a.kind ∈ kindsV v what := g0.resolve_right fun e => h11 e.1
  have hk := kinds_cases v what
  obtain ⟨l, hl⟩ : ∃ l, l = kindsV v what := ⟨_, rfl⟩
  have hpart := fun hne : (kindsV v what).headD 0 ≠ 15 => (kinds_parted hne).1
  have hpart2 := fun hne : (kindsV v what).headD 0 ≠ 15 => (kinds_parted hne).2
  unfold readR
  rw [← hl] at hkm hk hpart hpart2 ⊢
  have hfix : a.kind ≠ 7 → a.kind ≠ 9 → a.kind ≠ 10 → a.kind ≠ 13 → a.kind ≠ 15 → a = { kind := a.kind } ∧ raw = fixedV a.kind ++ (crlf ++ r) ∧ keptR v a = { kind := a.kind } := fun k7 k9 k10 k13 k15 => by
    have ha : a = { kind := a.kind } := by
      have e1 := g2 k13
      have e2 := g3 k9 k15
      have e3 := g4 k7
      have e4 := g5 k10 h11 k15
      cases a
      simp at e1 e2 e3 e4
      simp [e1, e2, e3, e4]
    refine ⟨ha, ?_, (answer_eq (g3 k9 k15)).trans ha⟩
    rw [h]
    unfold answerW
    rw [if_neg k9, if_neg k7, if_neg k10, if_neg h11, if_neg k13, if_neg k15, line_one, List.append_assoc]
  have hgo : ∀ {l' : List Int}, Parted (l'.map fun k => fixedV k ++ crlf) → a.kind ∈ l' → a.kind ≠ 7 → a.kind ≠ 9 → a.kind ≠ 10 → a.kind ≠ 13 → a.kind ≠ 15 → ∃ q, ((chooseV raw 0 (l'.map fun k => fixedV k ++ crlf)).next fun i p => (RdV.got ({ kind := l'.getD i 0 } : AnswerV) p)) = .got (keptR v a) q ∧ raw.drop q = r := fun hp hm k7 k9 k10 k13 k15 => by
    obtain ⟨_, e2, e3⟩ := hfix k7 k9 k10 k13 k15
    rw [e3]
    exact fixed_exact hp hm e2
  have hmeta : l = [15, 12] ∨ l = [15] → ∃ q, codedR raw v 0 = .got (keptR v a) q ∧ raw.drop q = r := fun hll => by
    have h15 : a.kind = 15 := by
      rcases hll with e | e <;> rw [e] at hkm <;> simp at hkm
      · exact hkm.resolve_right h12
      · exact hkm
    have htk := meta_tokens (v := v) (what := what) (by rw [← hl]; rcases hll with e | e <;> rw [e] <;> simp)
    have hw : raw = a.text ++ (crlf ++ (a.entries.flatMap (fun e => e.value ++ crlf) ++ r)) := by
      rw [h]
      unfold answerW
      rw [h15, if_neg (by decide), if_neg (by decide), if_neg (by decide), if_neg (by decide), if_neg (by decide), if_pos rfl, line_one]
      simp only [List.append_assoc]; rfl
    obtain ⟨q, k1, k2⟩ := coded_exact (g10 h15) hw
    refine ⟨q, ?_, k2⟩
    rw [k1]
    congr 1
    have e1 := g2 (by rw [h15]; decide)
    have e3 := g4 (by rw [h15]; decide)
    unfold keptR
    rw [htk, h15]
    cases a
    simp at h15 e1 e3
    simp [e1, e3]
  simp only [List.mem_cons, List.not_mem_nil, or_false] at hk
  rcases hk with rfl | rfl | rfl | rfl | rfl | rfl | rfl | rfl | rfl | rfl | rfl | rfl | rfl | rfl
  · simp at hkm
  · have h9 : a.kind = 9 := by simpa using hkm
    have hw : raw.drop 0 = a.entries.flatMap (entryW v) ++ (endV ++ crlf ++ r) := by
      rw [List.drop_zero, h]
      unfold answerW
      rw [if_pos h9, line_one]
      simp only [List.append_assoc]
    obtain ⟨q, k1, k2, _⟩ := values_exact v a.entries (keys.length + 1) keys [] 0 (Nat.lt_succ_self _) (g6 h9) hs.tokens hw
    refine ⟨q, ?_, k2⟩
    show ((valuesFrom raw v (keys.length + 1) keys [] 0).next fun x p => RdV.got ({ kind := 9, entries := x } : AnswerV) p) = _
    rw [got_next k1, List.nil_append]
    congr 1
    have e1 := g2 (by rw [h9]; decide)
    have e3 := g4 (by rw [h9]; decide)
    have e4 := g5 (by rw [h9]; decide) (by rw [h9]; decide) (by rw [h9]; decide)
    unfold keptR keptE
    rw [h9]
    cases a
    simp at h9 e1 e3 e4
    simp [e1, e3, e4]
  · have hm := hkm
    simp at hkm
    exact hgo (hpart (by decide)) hm (by omega) (by omega) (by omega) (by omega) (by omega)
  · have hm := hkm
    simp at hkm
    exact hgo (hpart (by decide)) hm (by omega) (by omega) (by omega) (by omega) (by omega)
  · have hm := hkm
    simp at hkm
    exact hgo (hpart (by decide)) hm (by omega) (by omega) (by omega) (by omega) (by omega)
  · show ∃ q, (if digitAt raw 0 = true then (numberR raw 18446744073709551615 0).next fun n p => (wantV raw p crlf).next fun _ p1 => RdV.got ({ kind := 7, number := n } : AnswerV) p1 else (chooseV raw 0 (([4] : List Int).map fun k => fixedV k ++ crlf)).next fun i p => RdV.got ({ kind := ([4] : List Int).getD i 0 } : AnswerV) p) = .got (keptR v a) q ∧ raw.drop q = r
    by_cases h7 : a.kind = 7
    · have hw : raw.drop 0 = Lib.decDigits a.number ++ 13 :: (10 :: r) := by
        rw [List.drop_zero, h]
        unfold answerW
        rw [if_neg (by rw [h7]; decide), if_pos h7, line_one, digits_dec hs.number, List.append_assoc]; rfl
      have e1 := number_exact (most := 18446744073709551615) hs.number (by decide) (c := 13) (.inl (by decide)) hw
      have h1 : raw.drop (0 + (Lib.decDigits a.number).length) = crlf ++ r := drop_add hw
      have e2 := want_exact h1
      have hd : digitAt raw 0 = true := by
        unfold digitAt
        rw [hw]
        have hb := dec_blank a.number
        cases e : Lib.decDigits a.number with
        | nil =>
          rw [Lib.decDigits] at e
          split at e <;> simp at e
        | cons c t =>
          have := hb c (by rw [e]; exact List.mem_cons_self ..)
          show decide (48 ≤ c ∧ c ≤ 57) = true
          rw [decide_eq_true_eq, UInt8.le_iff_toNat_le, UInt8.le_iff_toNat_le]
          exact this
      refine ⟨_, ?_, drop_add h1⟩
      rw [if_pos hd, got_next e1, got_next e2, answer_eq (g3 (by rw [h7]; decide) (by rw [h7]; decide))]
      congr 1
      have e1 := g2 (by rw [h7]; decide)
      have e3 := g3 (by rw [h7]; decide) (by rw [h7]; decide)
      have e4 := g5 (by rw [h7]; decide) h11 (by rw [h7]; decide)
      cases a
      simp at h7 e1 e3 e4
      simp [h7, e1, e3, e4]
    · have h4 : a.kind = 4 := by
        simp at hkm
        exact hkm.resolve_left h7
      obtain ⟨_, e2, _⟩ := hfix h7 (by omega) (by omega) (by omega) (by omega)
      have hd : digitAt raw 0 = false := by
        rw [e2, h4]; rfl
      rw [hd, if_neg (by decide)]
      exact hgo (l' := [4]) (parted_of (by decide)) (by rw [h4]; simp) (by omega) (by omega) (by omega) (by omega) (by omega)
  · have hm := hkm
    simp at hkm
    exact hgo (hpart (by decide)) hm (by omega) (by omega) (by omega) (by omega) (by omega)
  · have hm := hkm
    simp at hkm
    exact hgo (hpart (by decide)) hm (by omega) (by omega) (by omega) (by omega) (by omega)
  · have h10 : a.kind = 10 := by simpa using hkm
    have hw : raw.drop 0 = (versionV ++ [32]) ++ (a.text ++ (crlf ++ r)) := by
      rw [List.drop_zero, h]
      unfold answerW
      rw [if_neg (by rw [h10]; decide), if_neg (by rw [h10]; decide), if_pos h10]
      have e : lineR [versionV, a.text] = versionV ++ [32] ++ a.text ++ crlf := by simp [lineR, List.intercalate, List.intersperse, crlf]
      rw [e]; simp only [List.append_assoc]
    have e1 := want_exact hw
    have h1 := drop_add hw
    have h1' : raw.drop (0 + (versionV ++ [32]).length) = a.text ++ 13 :: (10 :: r) := h1
    have e2 := text_exact (g7 h10) h1'
    have h2 := drop_add h1
    have e3 := want_exact h2
    refine ⟨_, ?_, drop_add h2⟩
    show ((wantV raw 0 (versionV ++ [32])).next fun _ p => (textR raw p).next fun s p1 => (wantV raw p1 crlf).next fun _ p2 => RdV.got ({ kind := 10, text := s } : AnswerV) p2) = _
    rw [got_next e1, got_next e2, got_next e3, answer_eq (g3 (by rw [h10]; decide) (by rw [h10]; decide))]
    congr 1
    have e1 := g2 (by rw [h10]; decide)
    have e3 := g3 (by rw [h10]; decide) (by rw [h10]; decide)
    have e4 := g4 (by rw [h10]; decide)
    cases a
    simp at h10 e1 e3 e4
    simp [h10, e1, e3, e4]
  · exact absurd (by simpa using hkm) h12
  · have hm := hkm
    simp at hkm
    exact hgo (hpart (by decide)) hm (by omega) (by omega) (by omega) (by omega) (by omega)
  · have h13 : a.kind = 13 := by simpa using hkm
    have hw : raw.drop 0 = (a.stats.flatMap fun x => lineR [statV, x.1, digitsV x.2]) ++ (endV ++ crlf ++ r) := by
      rw [List.drop_zero, h]
      unfold answerW
      rw [if_neg (by rw [h13]; decide), if_neg (by rw [h13]; decide), if_neg (by rw [h13]; decide), if_neg h11, if_pos h13, line_one]
      simp only [List.append_assoc]
    have hcount : ∀ l : List (Bs × Nat), l.length ≤ (l.flatMap fun x => lineR [statV, x.1, digitsV x.2]).length := fun l => by
      induction l with
      | nil => exact Nat.le_refl _
      | cons x l ih =>
        rw [List.flatMap_cons, List.length_append]
        have : 1 ≤ (lineR [statV, x.1, digitsV x.2]).length := by unfold lineR; rw [List.length_append]; simp only [List.length_cons]; omega
        rw [List.length_cons]; omega
    have hlen : a.stats.length < raw.length + 1 := by
      have := hcount a.stats
      have hw2 := hw
      rw [List.drop_zero] at hw2
      rw [hw2, List.length_append]; omega
    obtain ⟨q, k1, k2, _⟩ := stats_exact a.stats (raw.length + 1) [] 0 hlen (fun x hx => ⟨g9 h13 x hx, hs.stats x hx⟩) hw
    refine ⟨q, ?_, k2⟩
    show ((statsFrom raw (raw.length + 1) [] 0).next fun x p => RdV.got ({ kind := 13, stats := x } : AnswerV) p) = _
    rw [got_next k1, List.nil_append, answer_eq (g3 (by rw [h13]; decide) (by rw [h13]; decide))]
    congr 1
    have e1 := g3 (by rw [h13]; decide) (by rw [h13]; decide)
    have e3 := g4 (by rw [h13]; decide)
    have e4 := g5 (by rw [h13]; decide) h11 (by rw [h13]; decide)
    cases a
    simp at h13 e1 e3 e4
    simp [h13, e1, e3, e4]
  · exact hmeta (.inl rfl)
  · exact hmeta (.inr rfl)
/-- an answer that fits is read again, whatever stands behind it -/
theorem outcome_exact {v : Int} {keys : List Bs} {what : Bs} {a : AnswerV} (hf : fitsV v keys what a = true) (h12 : a.kind ≠ 12) (hs : Sized a) (h : raw = answerW v a ++ r) : ∃ q, outcomeR raw v keys what = .got (keptR v a) q ∧ raw.drop q = r := by
  unfold outcomeR
  by_cases h11 : a.kind = 11
  · obtain ⟨g0, _, g2, g3, g4, _, _, _, g8, _, _⟩ := fits_form hf
    have hw : raw = a.text ++ (crlf ++ r) := by
      rw [h]
      unfold answerW
      rw [if_neg (by rw [h11]; decide), if_neg (by rw [h11]; decide), if_neg (by rw [h11]; decide), if_pos h11, line_one, List.append_assoc]
    obtain ⟨q, k1, k2⟩ := refused_exact (g8 h11) hw
    obtain ⟨c, d, t, hr, hcd⟩ := refused_letters k1
    have e : readR raw v keys what 0 = .fail := by rw [hr]; exact read_refused hcd
    refine ⟨q, ?_, k2⟩
    rw [e]
    dsimp only
    rw [k1, answer_eq (g3 (by rw [h11]; decide) (by rw [h11]; decide))]
    congr 1
    have e1 := g2 (by rw [h11]; decide)
    have e3 := g3 (by rw [h11]; decide) (by rw [h11]; decide)
    have e4 := g4 (by rw [h11]; decide)
    cases a
    simp at h11 e1 e3 e4
    simp [h11, e1, e3, e4]
  · obtain ⟨q, k1, k2⟩ := read_exact hf h11 h12 hs h
    exact ⟨q, by rw [k1], k2⟩
end
end Sp
end Go.Proofs.YtnbeeehfapjpdaaGreatDoor
end
