/- Plain laws of reading replies: what is told stays told, whatever comes behind. No program in sight. Plain laws of reading replies: the whole of Read; what is told is what stands there. No program in sight. Plain laws of reading replies: what is told stands there; what is written is read. No program in sight. -/
import Derived.Test.YtnbeeehfapjpdaaGreatDoorSr
import Derived.Lib.ItoaNum
section
namespace Go.Proofs.YtnbeeehfapjpdaaGreatDoor
namespace Sp

/-- what a reader tells (but that more is wanted) it tells whatever stands behind; and no byte behind the end is counted -/
def SteadyAt {α : Type} (r : Bs → Nat → RdV α) (raw : Bs) (p : Nat) : Prop :=
  match r raw p with
  | .got x q => p ≤ q ∧ q ≤ raw.length ∧ ∀ b, r (raw ++ b) p = .got x q
  | .fail => ∀ b, r (raw ++ b) p = .fail
  | .more => True
def Steady {α : Type} (r : Bs → Nat → RdV α) : Prop := ∀ raw p, p ≤ raw.length → SteadyAt r raw p
section
variable {α β : Type} {raw : Bs} {p : Nat}
theorem SteadyAt.got {r : Bs → Nat → RdV α} (h : SteadyAt r raw p) {x : α} {q : Nat} (e : r raw p = .got x q) : p ≤ q ∧ q ≤ raw.length ∧ ∀ b, r (raw ++ b) p = .got x q := by
  unfold SteadyAt at h; rw [e] at h; exact h
theorem SteadyAt.fail {r : Bs → Nat → RdV α} (h : SteadyAt r raw p) (e : r raw p = .fail) : ∀ b, r (raw ++ b) p = .fail := by
  unfold SteadyAt at h; rw [e] at h; exact h
theorem SteadyAt.next {r : Bs → Nat → RdV α} {k : α → Bs → Nat → RdV β} (h : SteadyAt r raw p) (hk : ∀ x q, r raw p = .got x q → SteadyAt (k x) raw q) : SteadyAt (fun raw p => (r raw p).next fun x q => k x raw q) raw p := by
  unfold SteadyAt
  dsimp only
  cases e : r raw p with
  | more => exact trivial
  | fail =>
    show ∀ b, _
    intro b
    rw [h.fail e b]; rfl
  | got x q =>
    obtain ⟨h1, h2, h3⟩ := h.got e
    have hq := hk x q e
    show match k x raw q with | .got x q => _ | .fail => _ | .more => _
    cases e2 : k x raw q with
    | more => exact trivial
    | fail =>
      show ∀ b, _
      intro b
      rw [h3 b]
      exact hq.fail e2 b
    | got y q' =>
      obtain ⟨g1, g2, g3⟩ := hq.got e2
      refine ⟨by omega, g2, fun b => ?_⟩
      rw [h3 b]
      exact g3 b
theorem Steady.next {r : Bs → Nat → RdV α} {k : α → Bs → Nat → RdV β} (h : Steady r) (hk : ∀ x, Steady (k x)) : Steady fun raw p => (r raw p).next fun x q => k x raw q := fun raw p hp =>
  (h raw p hp).next fun x q e => hk x raw q ((h raw p hp).got e).2.1
theorem Steady.ret (x : α) : Steady fun _ p => RdV.got x p := fun _ _ hp => ⟨Nat.le_refl _, hp, fun _ => rfl⟩
theorem Steady.no : Steady fun _ _ => (RdV.fail : RdV α) := fun _ _ _ => fun _ => rfl
theorem Steady.ite {r r' : Bs → Nat → RdV α} {c : Prop} [Decidable c] (h : Steady r) (h' : Steady r') : Steady fun raw p => if c then r raw p else r' raw p := by
  by_cases hc : c
  · simpa [hc] using h
  · simpa [hc] using h'
theorem drop_more (hp : p ≤ raw.length) (b : Bs) : (raw ++ b).drop p = raw.drop p ++ b := List.drop_append_of_le_length hp
theorem prefix_either {s d b : Bs} (h : s <+: d ++ b) : s <+: d ∨ d <+: s := List.prefix_or_prefix_of_prefix h (List.prefix_append d b)
theorem steady_want (s : Bs) : Steady fun raw p => wantV raw p s := fun raw p hp => by
  unfold SteadyAt wantV
  simp only [List.isPrefixOf_iff_prefix]
  have hd : (raw.drop p).length = raw.length - p := List.length_drop
  by_cases h1 : s <+: raw.drop p
  · rw [if_pos h1]
    have := h1.length_le
    refine ⟨by omega, by omega, fun b => ?_⟩
    rw [drop_more hp, if_pos (h1.trans (List.prefix_append _ _))]
  · rw [if_neg h1]
    by_cases h2 : raw.drop p <+: s
    · rw [if_pos h2]; exact trivial
    · rw [if_neg h2]
      intro b
      rw [drop_more hp, if_neg (fun e => (prefix_either e).elim h1 h2), if_neg (fun e => h2 ((List.prefix_append _ _).trans e))]
/-- no text begins another one -/
def Parted (ts : List Bs) : Prop := ∀ (i j : Nat) (s t : Bs), ts[i]? = some s → ts[j]? = some t → s <+: t → i = j
theorem plain_last {s : Bs} (h : plainV s = true) : s.length ≤ 512 ∧ s.head? ≠ some 32 ∧ s.getLast? ≠ some 32 := by
  unfold plainV at h
  simp only [Bool.and_eq_true, decide_eq_true_eq] at h
  exact ⟨h.1.1.2, h.1.2.1, h.1.2.2⟩
/-- the texts that may stand where an entry may -/
def Nice (ts : List Bs) : Prop := ∃ ks : List Bs, ts = (endV ++ crlf) :: ks.map (fun k => valueV ++ [32] ++ k ++ [32]) ∧ ks.Nodup ∧ ∀ k ∈ ks, legalR k = true
theorem legal_blank {k : Bs} (h : legalR k = true) : (32 : UInt8) ∉ k := fun hm => by
  unfold legalR at h
  simp only [Bool.and_eq_true, List.all_eq_true] at h
  have := h.2 32 hm
  simp [oddV] at this
theorem key_alone : ∀ {k1 k2 : Bs}, (32 : UInt8) ∉ k2 → k1 ++ [32] <+: k2 ++ [32] → k1 = k2
  | [], [], _, _ => rfl
  | [], c :: k2, h, ⟨t, e⟩ => by
    simp only [List.nil_append, List.cons_append, List.cons.injEq] at e
    exact absurd (by rw [e.1]; exact List.mem_cons_self ..) h
  | c :: k1, [], _, ⟨t, e⟩ => by
    simp only [List.nil_append, List.cons_append, List.cons.injEq] at e
    have := congrArg List.length e.2
    simp at this
  | c :: k1, c' :: k2, h, ⟨t, e⟩ => by
    simp only [List.cons_append, List.cons.injEq] at e
    have := key_alone (k1 := k1) (k2 := k2) (fun hm => h (List.mem_cons_of_mem _ hm)) ⟨t, e.2⟩
    rw [e.1, this]
theorem Nice.parted {ts : List Bs} (h : Nice ts) : Parted ts := by
  obtain ⟨ks, rfl, hn, hl⟩ := h
  intro i j s t hi hj hst
  have hval : ∀ (i : Nat) (s : Bs), (ks.map (fun k => valueV ++ [32] ++ k ++ [32]))[i]? = some s → ∃ k, ks[i]? = some k ∧ s = valueV ++ [32] ++ k ++ [32] := fun i s h => by
    rw [List.getElem?_map, Option.map_eq_some_iff] at h
    obtain ⟨k, h1, h2⟩ := h
    exact ⟨k, h1, h2.symm⟩
  cases i with
  | zero =>
    cases j with
    | zero => rfl
    | succ j =>
      obtain rfl : endV ++ crlf = s := by simpa using hi
      obtain ⟨k, _, rfl⟩ := hval j t (by simpa using hj)
      obtain ⟨r, e⟩ := hst
      simp [endV, valueV] at e
  | succ i =>
    obtain ⟨k1, h1, rfl⟩ := hval i s (by simpa using hi)
    cases j with
    | zero =>
      obtain rfl : endV ++ crlf = t := by simpa using hj
      obtain ⟨r, e⟩ := hst
      simp [endV, valueV] at e
    | succ j =>
      obtain ⟨k2, h2, rfl⟩ := hval j t (by simpa using hj)
      have : k1 = k2 := key_alone (legal_blank (hl k2 (List.mem_of_getElem? h2))) (by
        obtain ⟨r, e⟩ := hst
        refine ⟨r, ?_⟩
        simp only [List.append_assoc] at e ⊢
        exact List.append_cancel_left (List.append_cancel_left e))
      subst this
      obtain ⟨a1, b1⟩ := List.getElem?_eq_some_iff.1 h1
      obtain ⟨a2, b2⟩ := List.getElem?_eq_some_iff.1 h2
      have := (List.getElem_inj hn).1 (b1.trans b2.symm)
      omega
theorem valueTexts_nice : ∀ (ks : List Bs) {ts : List Bs}, Nice ts → Nice (valueTexts ts ks)
  | [], _, h => h
  | k :: ks, ts, h => by
    unfold valueTexts
    by_cases hc : legalR k = true ∧ (valueV ++ [32] ++ k ++ [32]) ∉ ts.drop 1
    · rw [if_pos hc]
      refine valueTexts_nice ks ?_
      obtain ⟨ls, rfl, hn, hl⟩ := h
      refine ⟨ls ++ [k], by simp, ?_, fun x hx => ?_⟩
      · rw [List.nodup_append]
        refine ⟨hn, by simp, fun a ha b hb e => ?_⟩
        rw [List.mem_singleton] at hb
        subst hb e
        refine hc.2 ?_
        show _ ∈ ls.map _
        exact List.mem_map.2 ⟨a, ha, rfl⟩
      · rcases List.mem_append.1 hx with hx | hx
        · exact hl x hx
        · rw [List.mem_singleton.1 hx]; exact hc.1
    · rw [if_neg hc]
      exact valueTexts_nice ks h
theorem texts_parted (ks : List Bs) : Parted (valueTexts [endV ++ crlf] ks) := (valueTexts_nice ks ⟨[], rfl, List.nodup_nil, fun _ h => by cases h⟩).parted
theorem steady_flagHead (b : Nat) : Steady fun raw p => flagHead raw b p := fun raw p hp => by
  unfold SteadyAt flagHead
  obtain ⟨d, hdd⟩ : ∃ d, d = raw.drop p := ⟨_, rfl⟩
  have hb : ∀ b, (raw ++ b).drop p = d ++ b := fun b => by rw [drop_more hp, hdd]
  simp only [hb]
  rw [← hdd]
  by_cases h0 : d = []
  · rw [if_pos h0]
    by_cases h1 : 2048 < p - b
    · rw [if_pos h1]
      intro b'
      by_cases h2 : d ++ b' = []
      · simp [h2]
      · simp [h2, h1]
    · rw [if_neg h1]; exact trivial
  · rw [if_neg h0]
    by_cases h1 : 2048 < p - b
    · rw [if_pos h1]
      intro b'
      rw [if_neg (by simp [h0]), if_pos h1]
    · rw [if_neg h1]
      refine ⟨Nat.le_refl _, hp, fun b' => ?_⟩
      rw [if_neg (by simp [h0]), if_neg h1]
      cases d with
      | nil => exact absurd rfl h0
      | cons c t => rfl
theorem findIdx_more {f : UInt8 → Bool} {d : Bs} (b : Bs) : (d.findIdx f < d.length → (d ++ b).findIdx f = d.findIdx f) ∧ (¬ d.findIdx f < d.length → d.findIdx f = d.length ∧ (d ++ b).findIdx f = d.length + b.findIdx f) := by
  have h := List.findIdx_append (p := f) (l₁ := d) (l₂ := b)
  refine ⟨fun h1 => ?_, fun h1 => ?_⟩
  · rw [h, if_pos h1]
  · refine ⟨Nat.le_antisymm List.findIdx_le_length (by omega), ?_⟩
    rw [h, if_neg h1]; omega
theorem steady_flagStep (b : Nat) : Steady fun raw p => flagStep raw b p := fun raw p hp => by
  unfold SteadyAt flagStep
  have hd : (raw.drop p).length = raw.length - p := List.length_drop
  obtain ⟨d, hdd⟩ : ∃ d, d = raw.drop p := ⟨_, rfl⟩
  have hb : ∀ b, (raw ++ b).drop p = d ++ b := fun b => by rw [drop_more hp, hdd]
  simp only [hb]
  rw [← hdd] at hd ⊢
  by_cases hw : d.findIdx oddV < d.length
  · have hm := fun b => (findIdx_more (f := oddV) (d := d) b).1 hw
    have hw2 : ∀ b : Bs, d.findIdx oddV < (d ++ b).length := fun b => by rw [List.length_append]; omega
    simp only [hm, if_pos hw, if_pos (hw2 _)]
    by_cases h1 : 251 < d.findIdx oddV ∨ d.findIdx oddV = 0 ∨ 2048 < p + d.findIdx oddV - b
    · simp only [if_pos h1]; intro _; trivial
    · simp only [if_neg h1]
      exact ⟨by omega, by omega, fun _ => trivial⟩
  · have hm := fun b => (findIdx_more (f := oddV) (d := d) b).2 hw
    have hm2 : ∀ b : Bs, (d ++ b).findIdx oddV = d.length + b.findIdx oddV := fun b => (hm b).2
    rw [if_neg hw]
    by_cases h1 : 251 < d.length ∨ 2048 < p + d.length - b ∨ (d.length = 0 ∧ p - b = 2048)
    · rw [if_pos h1]
      intro b'
      rw [hm2 b', List.length_append]
      have hb0 : b'.findIdx oddV ≤ b'.length := List.findIdx_le_length
      by_cases h3 : d.length + b'.findIdx oddV < d.length + b'.length
      · rw [if_pos h3, if_pos]
        rcases h1 with h | h | ⟨h, h'⟩
        · left; omega
        · right; right; omega
        · by_cases h4 : b'.findIdx oddV = 0
          · right; left; omega
          · right; right; omega
      · rw [if_neg h3, if_pos]
        rcases h1 with h | h | ⟨h, h'⟩
        · left; omega
        · right; left; omega
        · by_cases h4 : b'.length = 0
          · right; right; exact ⟨by omega, h'⟩
          · right; left; omega
    · rw [if_neg h1]; exact trivial
theorem steady_flags (b : Nat) : ∀ r : Nat, Steady fun raw p => flagsFrom raw b r p
  | 0 => fun _ _ _ => trivial
  | r + 1 => by
    unfold flagsFrom
    exact (steady_flagHead b).next fun done => Steady.ite (Steady.ret _) ((steady_want _).next fun _ => (steady_flagStep b).next fun _ => steady_flags b r)
theorem next_keep {a : RdV α} {k k' : α → Nat → RdV β} (h : ∀ x q, k x q ≠ .more → k' x q = k x q) (hn : a.next k ≠ .more) : a.next k' = a.next k := by
  cases a with
  | got x q => exact h x q hn
  | more => rfl
  | fail => rfl
theorem flags_step (raw : Bs) (b : Nat) : ∀ (r : Nat) (p : Nat), flagsFrom raw b r p ≠ .more → flagsFrom raw b (r + 1) p = flagsFrom raw b r p
  | 0, _, h => absurd rfl h
  | r + 1, p, h => by
    have e : ∀ r, flagsFrom raw b (r + 1) p = (flagHead raw b p).next fun done p0 => if done then .got () p0 else (wantV raw p0 [32]).next fun _ p1 => (flagStep raw b p1).next fun _ p2 => flagsFrom raw b r p2 := fun _ => rfl
    rw [e r] at h
    rw [e (r + 1), e r]
    refine next_keep (fun i q hn => ?_) h
    cases i with
    | true => rfl
    | false => exact next_keep (fun s q2 hn => next_keep (fun n q3 hn => flags_step raw b r _ hn) hn) hn
theorem flags_fuel (raw : Bs) (b p : Nat) {r : Nat} (h : flagsFrom raw b r p ≠ .more) : ∀ k, flagsFrom raw b (r + k) p = flagsFrom raw b r p
  | 0 => rfl
  | k + 1 => by rw [← flags_fuel raw b p h k]; exact flags_step raw b (r + k) p (by rw [flags_fuel raw b p h k]; exact h)
theorem steady_flagsAll (b : Nat) : Steady fun raw p => flagsFrom raw b (raw.length + 1) p := fun raw p hp => by
  have h := steady_flags b (raw.length + 1) raw p hp
  unfold SteadyAt at h ⊢
  dsimp only at h ⊢
  cases e : flagsFrom raw b (raw.length + 1) p with
  | more => exact trivial
  | fail =>
    rw [e] at h
    show ∀ b, _
    intro b'
    have := flags_fuel (raw ++ b') b p (r := raw.length + 1) (by rw [h b']; simp) b'.length
    rw [h b'] at this
    rw [← this]
    congr 1; rw [List.length_append]; omega
  | got x q =>
    rw [e] at h
    refine ⟨h.1, h.2.1, fun b' => ?_⟩
    have := flags_fuel (raw ++ b') b p (r := raw.length + 1) (by rw [h.2.2 b']; simp) b'.length
    rw [h.2.2 b'] at this
    rw [← this]
    congr 1; rw [List.length_append]; omega
theorem SteadyAt.ret {g : Bs → Nat → α} (hp : p ≤ raw.length) (hg : ∀ b, g (raw ++ b) p = g raw p) : SteadyAt (fun raw p => RdV.got (g raw p) p) raw p := ⟨Nat.le_refl _, hp, fun b => by show RdV.got (g (raw ++ b) p) p = _; rw [hg b]⟩
/-- parted, to be decided -/
def partedB (ts : List Bs) : Bool := (List.range ts.length).all fun i => (List.range ts.length).all fun j => !(ts.getD i []).isPrefixOf (ts.getD j []) || decide (i = j)
end
end Sp
end Go.Proofs.YtnbeeehfapjpdaaGreatDoor
end
section
namespace Go.Proofs.YtnbeeehfapjpdaaGreatDoor
namespace Sp
section
variable {α β : Type} {raw : Bs} {p : Nat}
theorem kinds_cases (v : Int) (what : Bs) : kindsV v what ∈ ([[], [9], [1, 2], [1, 3, 4], [5, 4], [7, 4], [6, 4], [8], [10], [12], [14], [13], [15, 12], [15]] : List (List Int)) := by
  unfold kindsV
  by_cases h1 : v = 1 ∨ v = 2 ∨ v = 3 ∨ v = 4
  · rw [if_pos h1]; decide
  rw [if_neg h1]
  by_cases h2 : v = 5 ∨ v = 6 ∨ v = 7 ∨ v = 8 ∨ v = 9
  · rw [if_pos h2]; decide
  rw [if_neg h2]
  by_cases h3 : v = 10
  · rw [if_pos h3]; decide
  rw [if_neg h3]
  by_cases h4 : v = 11
  · rw [if_pos h4]; decide
  rw [if_neg h4]
  by_cases h5 : v = 12 ∨ v = 13
  · rw [if_pos h5]; decide
  rw [if_neg h5]
  by_cases h6 : v = 14
  · rw [if_pos h6]; decide
  rw [if_neg h6]
  by_cases h7 : v = 15 ∨ v = 17
  · rw [if_pos h7]; decide
  rw [if_neg h7]
  by_cases h8 : v = 16
  · rw [if_pos h8]; decide
  rw [if_neg h8]
  by_cases h9 : v = 18
  · rw [if_pos h9]; decide
  rw [if_neg h9]
  by_cases h10 : v = 19
  · rw [if_pos h10]
    by_cases hw : what = [114, 101, 115, 101, 116]
    · rw [if_pos hw]; decide
    · rw [if_neg hw]; decide
  rw [if_neg h10]
  by_cases h11 : v = 20 ∨ v = 21 ∨ v = 22 ∨ v = 23
  · rw [if_pos h11]; decide
  rw [if_neg h11]
  by_cases h12 : v = 24
  · rw [if_pos h12]; decide
  · rw [if_neg h12]; decide
/-- what Read comes to, where it looks -/
def outcomeR (raw : Bs) (v : Int) (keys : List Bs) (what : Bs) : RdV AnswerV :=
  match readR raw v keys what 0 with
  | .got a p => .got a p
  | .more => match refusedR raw 0 with
    | .got b m => .got b m
    | _ => .more
  | .fail => refusedR raw 0
/-- a text that begins with other letters -/
def away (c d : UInt8) (s : Bs) : Bool := match s with
  | x :: y :: _ => !(decide (x = c) && decide (y = d))
  | _ => false
/-- the two letters at a refusal's head -/
def RefLet (c d : UInt8) : Prop := (c = 69 ∧ d = 82) ∨ (c = 67 ∧ d = 76) ∨ (c = 83 ∧ d = 69)
end
end Sp
end Go.Proofs.YtnbeeehfapjpdaaGreatDoor
end
section
namespace Go.Proofs.YtnbeeehfapjpdaaGreatDoor
namespace Sp
section
variable {raw : Bs} {p q : Nat}
theorem drop_add {s r : Bs} (h : raw.drop p = s ++ r) : raw.drop (p + s.length) = r := by
  rw [← List.drop_drop, h, List.drop_left]
theorem want_reads {s : Bs} {u : Unit} (h : wantV raw p s = .got u q) : raw.drop p = s ++ raw.drop q ∧ q = p + s.length := by
  unfold wantV at h
  by_cases h1 : s.isPrefixOf (raw.drop p) = true
  · rw [if_pos h1] at h
    injection h with _ h
    rw [List.isPrefixOf_iff_prefix] at h1
    obtain ⟨r, hr⟩ := h1
    subst h
    exact ⟨by rw [drop_add hr.symm]; exact hr.symm, rfl⟩
  · rw [if_neg h1] at h
    split at h <;> cases h
theorem choose_reads {ts : List Bs} {i : Nat} (h : chooseV raw p ts = .got i q) : ∃ s, ts[i]? = some s ∧ raw.drop p = s ++ raw.drop q ∧ q = p + s.length := by
  unfold chooseV at h
  cases e : ts.findIdx? fun s => s.isPrefixOf (raw.drop p) with
  | none =>
    rw [e] at h
    dsimp only at h
    split at h <;> cases h
  | some j =>
    rw [e] at h
    obtain ⟨hj, h1, _⟩ := List.findIdx?_eq_some_iff_getElem.1 e
    injection h with h2 h3
    subst h2
    rw [List.isPrefixOf_iff_prefix] at h1
    obtain ⟨r, hr⟩ := h1
    have hg : ts.getD j [] = ts[j] := by rw [List.getD_eq_getElem?_getD, List.getElem?_eq_getElem hj]; rfl
    rw [hg] at h3
    subst h3
    exact ⟨ts[j], List.getElem?_eq_getElem hj, by rw [drop_add hr.symm]; exact hr.symm, rfl⟩
def isDig (c : UInt8) : Prop := ¬ (c < 48 ∨ 57 < c)
theorem dig_val {c : UInt8} (h : isDig c) : 48 ≤ c.toNat ∧ c.toNat ≤ 57 ∧ UInt8.ofNat (48 + (c.toNat - 48)) = c := by
  unfold isDig at h
  rw [not_or, UInt8.not_lt, UInt8.not_lt, UInt8.le_iff_toNat_le, UInt8.le_iff_toNat_le] at h
  have e1 : (48 : UInt8).toNat = 48 := rfl
  have e2 : (57 : UInt8).toNat = 57 := rfl
  rw [e1, e2] at h
  refine ⟨h.1, h.2, ?_⟩
  rw [show 48 + (c.toNat - 48) = c.toNat by omega]
  exact UInt8.ofNat_toNat
theorem dec_one {n : Nat} (h : n < 10) : Lib.decDigits n = [UInt8.ofNat (48 + n)] := Lib.decDigits_one h
theorem dec_more {n d : Nat} (hn : 0 < n) (hd : d < 10) : Lib.decDigits (10 * n + d) = Lib.decDigits n ++ [UInt8.ofNat (48 + d)] := by
  rw [Lib.decDigits, dif_neg (by omega), show (10 * n + d) / 10 = n by omega, show (10 * n + d) % 10 = d by omega]
/-- digits that were read, behind those of n -/
theorem number_from {most p : Nat} (hm : 9 ≤ most) : ∀ (l : Bs) (i n x q : Nat), (0 < i → n ≤ most) → numberFrom most p i n l = .got x q →
    (i = 0 → n = 0) → ∃ ds r, l = ds ++ r ∧ q = p + i + ds.length ∧ x ≤ most ∧ (∃ c t, r = c :: t ∧ ¬ isDig c) ∧ (if i = 0 then ds = Lib.decDigits x else if n = 0 then ds = [] ∧ x = 0 else Lib.decDigits n ++ ds = Lib.decDigits x)
  | [], i, n, x, q, _, h, _ => by unfold numberFrom at h; cases h
  | c :: t, i, n, x, q, hin, h, h0 => by
    unfold numberFrom at h
    by_cases h1 : c < 48 ∨ 57 < c
    · rw [if_pos h1] at h
      by_cases hi : i = 0
      · rw [if_pos hi] at h; cases h
      · rw [if_neg hi] at h
        injection h with h2 h3
        subst h2
        refine ⟨[], c :: t, rfl, by rw [← h3]; rfl, hin (by omega), ⟨c, t, rfl, fun e => e h1⟩, ?_⟩
        rw [if_neg hi]
        by_cases hn : n = 0
        · rw [if_pos hn]; exact ⟨rfl, hn⟩
        · rw [if_neg hn, List.append_nil]
    · rw [if_neg h1] at h
      obtain ⟨d1, d2, d3⟩ := dig_val h1
      by_cases h2 : (0 < i ∧ n = 0) ∨ (most - (c.toNat - 48)) / 10 < n
      · rw [if_pos h2] at h; cases h
      · rw [if_neg h2] at h
        have hle : 10 * n + (c.toNat - 48) ≤ most := by omega
        obtain ⟨ds, r, g1, g2, g3, g4, g5⟩ := number_from hm t (i + 1) (10 * n + (c.toNat - 48)) x q (fun _ => hle) h (fun e => by omega)
        refine ⟨c :: ds, r, by rw [g1]; rfl, by rw [g2, List.length_cons]; omega, g3, g4, ?_⟩
        rw [if_neg (by omega)] at g5
        by_cases hi : i = 0
        · rw [if_pos hi]
          have hn := h0 hi
          subst hn
          rw [Nat.mul_zero, Nat.zero_add] at g5
          by_cases hz : c.toNat - 48 = 0
          · rw [if_pos hz] at g5
            rw [g5.1, g5.2, dec_one (by decide)]
            rw [hz] at d3
            rw [← d3]
          · rw [if_neg hz, dec_one (by omega), d3] at g5
            exact g5
        · rw [if_neg hi]
          have hn : n ≠ 0 := fun e => h2 (.inl ⟨by omega, e⟩)
          rw [if_neg hn]
          rw [if_neg (by omega), dec_more (by omega) (by omega), d3, List.append_assoc] at g5
          exact g5
theorem number_reads {most n : Nat} (hm : 9 ≤ most) (h : numberR raw most p = .got n q) : raw.drop p = Lib.decDigits n ++ raw.drop q ∧ q = p + (Lib.decDigits n).length ∧ n ≤ most := by
  obtain ⟨ds, r, g1, g2, g3, _, g5⟩ := number_from hm (raw.drop p) 0 0 n q (fun h => by omega) h (fun _ => rfl)
  rw [if_pos rfl] at g5
  subst g5
  rw [Nat.add_zero] at g2
  subst g2
  exact ⟨by rw [drop_add g1]; exact g1, rfl, g3⟩
theorem text_reads {s : Bs} (h : textR raw p = .got s q) : raw.drop p = s ++ raw.drop q ∧ q = p + s.length ∧ plainV s = true := by
  unfold textR at h
  cases e : (raw.drop p).findIdx? fun c => decide (c < 32 ∨ 126 < c) with
  | none => rw [e] at h; dsimp only at h; split at h <;> cases h
  | some i =>
    rw [e] at h
    dsimp only at h
    obtain ⟨hi, _, _⟩ := List.findIdx?_eq_some_iff_getElem.1 e
    by_cases hp : plainV ((raw.drop p).take i) = true
    · rw [if_pos hp] at h
      injection h with h1 h2
      subst h1 h2
      have hl : ((raw.drop p).take i).length = i := by rw [List.length_take]; omega
      have hs : raw.drop p = (raw.drop p).take i ++ (raw.drop p).drop i := (List.take_append_drop i _).symm
      refine ⟨?_, by rw [hl], hp⟩
      rw [← List.drop_drop]; exact hs
    · rw [if_neg hp] at h; cases h
theorem data_reads {n : Nat} {d : Bs} (h : dataR raw n p = .got d q) : raw.drop p = d ++ raw.drop q ∧ q = p + d.length ∧ d.length = n := by
  unfold dataR at h
  by_cases hn : (raw.drop p).length < n
  · rw [if_pos hn] at h; cases h
  · rw [if_neg hn] at h
    injection h with h1 h2
    subst h1 h2
    have hl : ((raw.drop p).take n).length = n := by rw [List.length_take]; omega
    refine ⟨?_, by rw [hl], hl⟩
    rw [← List.drop_drop]; exact (List.take_append_drop n _).symm
theorem statName_reads {s : Bs} (h : statNameR raw p = .got s q) : raw.drop p = s ++ [32] ++ raw.drop q ∧ q = p + s.length + 1 ∧ nameR s = true := by
  unfold statNameR at h
  cases e : (raw.drop p).findIdx? fun c => decide (c = 32) with
  | none => rw [e] at h; dsimp only at h; split at h <;> cases h
  | some i =>
    rw [e] at h
    dsimp only at h
    obtain ⟨hi, h1, _⟩ := List.findIdx?_eq_some_iff_getElem.1 e
    by_cases hp : nameR ((raw.drop p).take i) = false
    · rw [if_pos hp] at h; cases h
    · rw [if_neg hp] at h
      injection h with h2 h3
      subst h2 h3
      have hl : ((raw.drop p).take i).length = i := by rw [List.length_take]; omega
      refine ⟨?_, by rw [hl], by simpa using hp⟩
      have hs : raw.drop p = (raw.drop p).take i ++ (raw.drop p).drop i := (List.take_append_drop i _).symm
      have hd : (raw.drop p).drop i = 32 :: (raw.drop p).drop (i + 1) := by
        rw [List.drop_eq_getElem_cons hi]
        congr 1
        simpa using h1
      rw [hd, List.drop_drop] at hs
      rw [List.append_assoc]
      show raw.drop p = _ ++ (32 :: raw.drop (p + i + 1))
      rw [Nat.add_assoc]; exact hs
theorem next_got {α β : Type} {a : RdV α} {k : α → Nat → RdV β} {y : β} (h : a.next k = .got y q) : ∃ x p', a = .got x p' ∧ k x p' = .got y q := by
  cases a with
  | got x p' => exact ⟨x, p', rfl, h⟩
  | more => cases h
  | fail => cases h
theorem digF_dec : ∀ (r n : Nat), n < 10 ^ r → 0 < r → digF r n = Lib.decDigits n
  | 0, _, _, h => by omega
  | r + 1, n, h, _ => by
    unfold digF
    rw [Lib.decDigits]
    by_cases hn : n < 10
    · rw [if_pos hn, dif_pos hn]
    · rw [if_neg hn, dif_neg hn]
      have hr : 0 < r := by
        rcases Nat.eq_zero_or_pos r with rfl | h'
        · simp at h; omega
        · exact h'
      rw [digF_dec r (n / 10) (by rw [Nat.pow_succ] at h; omega) hr]
theorem digits_dec {n : Nat} (h : n ≤ 18446744073709551615) : digitsV n = Lib.decDigits n := digF_dec 20 n (Nat.lt_of_le_of_lt h (by decide)) (by decide)
theorem valueTexts_mem : ∀ (ks : List Bs) {ts : List Bs} {s : Bs}, s ∈ valueTexts ts ks → s ∈ ts ∨ ∃ k ∈ ks, legalR k = true ∧ s = valueV ++ [32] ++ k ++ [32]
  | [], _, _, h => .inl h
  | k :: ks, ts, s, h => by
    unfold valueTexts at h
    by_cases hc : legalR k = true ∧ (valueV ++ [32] ++ k ++ [32]) ∉ ts.drop 1
    · rw [if_pos hc] at h
      rcases valueTexts_mem ks h with h | ⟨k', h1, h2⟩
      · rcases List.mem_append.1 h with h | h
        · exact .inl h
        · exact .inr ⟨k, List.mem_cons_self .., hc.1, List.mem_singleton.1 h⟩
      · exact .inr ⟨k', List.mem_cons_of_mem _ h1, h2⟩
    · rw [if_neg hc] at h
      rcases valueTexts_mem ks h with h | ⟨k', h1, h2⟩
      · exact .inl h
      · exact .inr ⟨k', List.mem_cons_of_mem _ h1, h2⟩
theorem valueTexts_head : ∀ (ks : List Bs) (a : Bs) (ts : List Bs), ∃ us, valueTexts (a :: ts) ks = a :: us
  | [], a, ts => ⟨ts, rfl⟩
  | k :: ks, a, ts => by
    unfold valueTexts
    split
    · exact valueTexts_head ks a _
    · exact valueTexts_head ks a ts
/-- an entry as it is read -/
def EntryFit (v : Int) (e : EntryV) : Prop := e = { key := e.key, value := e.value, flags := e.flags, token := if tokensV v then e.token else 0 } ∧ e.flags ≤ 4294967295 ∧ e.token ≤ 18446744073709551615 ∧ e.value.length ≤ 1048576
theorem entry_text {v : Int} {e : EntryV} (h : EntryFit v e) : entryW v e = valueV ++ [32] ++ e.key ++ [32] ++ Lib.decDigits e.flags ++ [32] ++ Lib.decDigits e.value.length ++ (if tokensV v then [32] ++ Lib.decDigits e.token else []) ++ crlf ++ e.value ++ crlf := by
  obtain ⟨_, h1, h2, h3⟩ := h
  unfold entryW lineR
  rw [digits_dec (by omega), digits_dec (by omega), digits_dec h2]
  cases tokensV v <;> simp [List.intercalate, List.intersperse, crlf]
theorem values_reads (v : Int) : ∀ (r : Nat) (keys : List Bs) (out : List EntryV) (p : Nat) (x : List EntryV) (q : Nat), valuesFrom raw v r keys out p = .got x q →
    ∃ l, x = out ++ l ∧ raw.drop p = l.flatMap (entryW v) ++ (endV ++ crlf) ++ raw.drop q ∧ entriesV keys l = true ∧ ∀ e ∈ l, EntryFit v e
  | 0, _, _, _, _, _, h => by unfold valuesFrom at h; cases h
  | r + 1, keys, out, p, x, q, h => by
    unfold valuesFrom at h
    dsimp only at h
    obtain ⟨i, p1, h1, h⟩ := next_got h
    obtain ⟨s, g1, g2, _⟩ := choose_reads h1
    obtain ⟨us, hus⟩ := valueTexts_head keys (endV ++ crlf) []
    by_cases hi : i = 0
    · rw [if_pos hi] at h
      injection h with h2 h3
      subst h2 h3 hi
      rw [hus] at g1
      have hs : endV ++ crlf = s := by simpa using g1
      refine ⟨[], (List.append_nil _).symm, by rw [g2, hs]; rfl, rfl, fun e he => by cases he⟩
    · rw [if_neg hi] at h
      have hmem := List.mem_of_getElem? g1
      have hk : ∃ k ∈ keys, legalR k = true ∧ s = valueV ++ [32] ++ k ++ [32] := by
        rcases valueTexts_mem keys hmem with hm | hm
        · exfalso
          rw [List.mem_singleton] at hm
          have h0 : (valueTexts [endV ++ crlf] keys)[0]? = some s := by rw [hus, hm]; rfl
          exact hi (texts_parted keys i 0 s s g1 h0 (List.prefix_refl _))
        · exact hm
      obtain ⟨k, hkm, hkl, rfl⟩ := hk
      have hg : ((valueTexts [endV ++ crlf] keys).getD i []) = valueV ++ [32] ++ k ++ [32] := by rw [List.getD_eq_getElem?_getD, g1]; rfl
      rw [hg] at h
      have hkey : ((valueV ++ [32] ++ k ++ [32]).drop 6).dropLast = k := by
        show (k ++ [32]).dropLast = k
        simp
      rw [hkey] at h
      obtain ⟨fl, p2, h2, h⟩ := next_got h
      obtain ⟨_, p3, h3, h⟩ := next_got h
      obtain ⟨n, p4, h4, h⟩ := next_got h
      obtain ⟨tk, p6, h6, h⟩ := next_got h
      obtain ⟨_, p7, h7, h⟩ := next_got h
      obtain ⟨d, p8, h8, h⟩ := next_got h
      obtain ⟨_, p9, h9, h⟩ := next_got h
      obtain ⟨a1, _, a2⟩ := number_reads (by decide) h2
      obtain ⟨b1, _⟩ := want_reads h3
      obtain ⟨c1, _, c2⟩ := number_reads (by decide) h4
      obtain ⟨d1, _⟩ := want_reads h7
      obtain ⟨e1, _, e2⟩ := data_reads h8
      obtain ⟨f1, _⟩ := want_reads h9
      have ht : raw.drop p4 = (if tokensV v then [32] ++ Lib.decDigits tk else []) ++ raw.drop p6 ∧ tk ≤ 18446744073709551615 ∧ (tokensV v = false → tk = 0) := by
        cases hv : tokensV v with
        | true =>
          rw [hv, if_pos rfl] at h6
          obtain ⟨_, p5, k1, k2⟩ := next_got h6
          obtain ⟨l1, _⟩ := want_reads k1
          obtain ⟨l2, _, l3⟩ := number_reads (by decide) k2
          exact ⟨by rw [if_pos rfl, l1, l2, List.append_assoc], l3, fun e => by cases e⟩
        | false =>
          rw [hv, if_neg (by decide)] at h6
          injection h6 with k1 k2
          subst k1 k2
          exact ⟨rfl, by omega, fun _ => rfl⟩
      obtain ⟨ht1, ht2, ht3⟩ := ht
      obtain ⟨l, m1, m2, m3, m4⟩ := values_reads v r _ _ _ _ _ h
      have hfit : EntryFit v { key := k, value := d, flags := fl, token := tk } := by
        refine ⟨?_, a2, ht2, by show d.length ≤ _; omega⟩
        cases hv : tokensV v with
        | true => rfl
        | false => rw [ht3 hv]; rfl
      refine ⟨{ key := k, value := d, flags := fl, token := tk } :: l, by rw [m1, List.append_assoc]; rfl, ?_, ?_, fun e he => ?_⟩
      · rw [List.flatMap_cons, entry_text hfit, g2, a1, b1, c1, ht1, d1, e1, f1, m2, e2]
        simp only [List.append_assoc]
      · unfold entriesV
        rw [if_pos hkm]
        dsimp only
        rw [hkl, decide_eq_true a2, decide_eq_true (show d.length ≤ 1048576 by omega), m3]; rfl
      · rcases List.mem_cons.1 he with rfl | he
        · exact hfit
        · exact m4 e he
theorem stats_reads : ∀ (r : Nat) (out : List (Bs × Nat)) (p : Nat) (x : List (Bs × Nat)) (q : Nat), statsFrom raw r out p = .got x q →
    ∃ l, x = out ++ l ∧ raw.drop p = (l.flatMap fun x => lineR [statV, x.1, digitsV x.2]) ++ (endV ++ crlf) ++ raw.drop q ∧ ∀ x ∈ l, nameR x.1 = true ∧ x.2 ≤ 18446744073709551615
  | 0, _, _, _, _, h => by unfold statsFrom at h; cases h
  | r + 1, out, p, x, q, h => by
    unfold statsFrom at h
    obtain ⟨i, p1, h1, h⟩ := next_got h
    obtain ⟨s, g1, g2, _⟩ := choose_reads h1
    by_cases hi : i = 0
    · rw [if_pos hi] at h
      injection h with h2 h3
      subst h2 h3 hi
      have hs : endV ++ crlf = s := by simpa using g1
      exact ⟨[], (List.append_nil _).symm, by rw [g2, hs]; rfl, fun e he => by cases he⟩
    · rw [if_neg hi] at h
      have hs : s = statV ++ [32] := by
        match i, hi, g1 with
        | 1, _, g1 => simpa using g1.symm
        | i + 2, _, g1 => simp at g1
      obtain ⟨nm, p2, h2, h⟩ := next_got h
      obtain ⟨n, p3, h3, h⟩ := next_got h
      obtain ⟨_, p4, h4, h⟩ := next_got h
      obtain ⟨a1, _, a2⟩ := statName_reads h2
      obtain ⟨b1, _, b2⟩ := number_reads (by decide) h3
      obtain ⟨c1, _⟩ := want_reads h4
      obtain ⟨l, m1, m2, m3⟩ := stats_reads r _ _ _ _ h
      refine ⟨(nm, n) :: l, by rw [m1, List.append_assoc]; rfl, ?_, fun e he => ?_⟩
      · rw [List.flatMap_cons, g2, hs, a1, b1, c1, m2]
        unfold lineR
        dsimp only
        rw [digits_dec b2]
        simp [List.intercalate, List.intersperse, crlf]
      · rcases List.mem_cons.1 he with rfl | he
        · exact ⟨a2, b2⟩
        · exact m3 e he
theorem flagStep_reads {b : Nat} {u : Unit} (h : flagStep raw b p = .got u q) : ∃ w, raw.drop p = w ++ raw.drop q ∧ q = p + w.length ∧ flagR w = true ∧ q - b ≤ 2048 := by
  unfold flagStep at h
  by_cases hw : (raw.drop p).findIdx oddV < (raw.drop p).length
  · rw [if_pos hw] at h
    by_cases hc : 251 < (raw.drop p).findIdx oddV ∨ (raw.drop p).findIdx oddV = 0 ∨ 2048 < p + (raw.drop p).findIdx oddV - b
    · rw [if_pos hc] at h; cases h
    · rw [if_neg hc] at h
      injection h with _ h
      subst h
      have hl : ((raw.drop p).take ((raw.drop p).findIdx oddV)).length = (raw.drop p).findIdx oddV := by rw [List.length_take]; omega
      refine ⟨(raw.drop p).take ((raw.drop p).findIdx oddV), ?_, by rw [hl], ?_, by omega⟩
      · rw [← List.drop_drop]; exact (List.take_append_drop _ _).symm
      · unfold flagR
        rw [Bool.and_eq_true, Bool.and_eq_true, decide_eq_true_eq, decide_eq_true_eq, List.all_eq_true]
        refine ⟨⟨fun e => ?_, by omega⟩, fun c hm => ?_⟩
        · have := congrArg List.length e
          rw [hl] at this
          exact hc (.inr (.inl this))
        · obtain ⟨j, hj, rfl⟩ := List.getElem_of_mem hm
          rw [hl] at hj
          rw [List.getElem_take]
          have := List.not_of_lt_findIdx hj
          simpa using this
  · rw [if_neg hw] at h
    split at h <;> cases h
theorem flags_reads {b : Nat} : ∀ (r p q : Nat) (u : Unit), flagsFrom raw b r p = .got u q → ∃ ws : List Bs, raw.drop p = (ws.flatMap fun w => [32] ++ w) ++ raw.drop q ∧ (∀ w ∈ ws, flagR w = true) ∧ q - b ≤ 2048 ∧ q = p + (ws.flatMap fun w => [32] ++ w).length
  | 0, _, _, _, h => by unfold flagsFrom at h; cases h
  | r + 1, p, q, u, h => by
    unfold flagsFrom at h
    obtain ⟨done, p0, h1, h⟩ := next_got h
    have hh : p0 = p ∧ p - b ≤ 2048 := by
      unfold flagHead at h1
      split at h1
      · split at h1 <;> cases h1
      · split at h1
        · cases h1
        · injection h1 with _ h1
          exact ⟨h1.symm, by omega⟩
    obtain ⟨rfl, hle⟩ := hh
    cases done with
    | true =>
      injection h with _ h
      subst h
      exact ⟨[], rfl, fun w hw => (by cases hw), hle, rfl⟩
    | false =>
      obtain ⟨_, p1, h2, h⟩ := next_got h
      obtain ⟨_, p2, h3, h⟩ := next_got h
      obtain ⟨a1, a2⟩ := want_reads h2
      obtain ⟨w, b1, b2, b3, b4⟩ := flagStep_reads h3
      obtain ⟨ws, c1, c2, c3, c4⟩ := flags_reads r p2 q u h
      refine ⟨w :: ws, ?_, fun x hx => ?_, c3, ?_⟩
      · rw [List.flatMap_cons, a1, b1, c1]
        simp only [List.append_assoc]
      · rcases List.mem_cons.1 hx with rfl | hx
        · exact b3
        · exact c2 x hx
      · rw [List.flatMap_cons, List.length_append, List.length_append, c4, b2, a2]
        simp only [List.length_singleton]; omega
end
end Sp
end Go.Proofs.YtnbeeehfapjpdaaGreatDoor
end
