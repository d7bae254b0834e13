/- Plain laws of words.All: its steps lie one behind the other. No program in sight. -/
import Derived.Test.YticigfpieeoolaaGreatDoorA1
namespace Go.Proofs.YticigfpieeoolaaGreatDoor
open Go.Lib Sp

theorem skipV_in {l : Bs} {k m : Nat} {g : Bool} (h : skipV l k = some (m, g)) : k < m ∧ m ≤ l.length := by
  obtain ⟨hk, hm⟩ := skipV_some h
  refine ⟨hm, ?_⟩
  rw [skipV_cases l k hk] at h
  split at h
  · rename_i h2
    injection h with h; injection h with h _
    have := congrArg List.length h2
    rw [List.length_take, List.length_drop] at this
    simp at this
    omega
  · split at h
    · cases h
    · obtain ⟨i, hi, h⟩ := Option.map_eq_some_iff.1 h
      injection h with h _
      have := indexOf_in hi
      rw [List.length_drop] at this
      omega

theorem oneV_in {lim : Nat} {l : Bs} {t : StepV} {n : Nat} (h : oneV lim l = some (t, n)) : 0 < n ∧ n ≤ l.length := by
  unfold oneV at h
  cases he : indexOf l 10 with
  | none => rw [he] at h; cases h
  | some e =>
    rw [he] at h
    have hel := indexOf_in he
    have hsk : ∀ (k : Nat) (f : Nat × Bool → StepV × Nat), (∀ y, (f y).2 = e + 1 + y.1) → (skipV (l.drop (e + 1)) k).map f = some (t, n) → 0 < n ∧ n ≤ l.length := by
      intro k f hf h
      obtain ⟨y, hy, h⟩ := Option.map_eq_some_iff.1 h
      have h2 := hf y
      rw [h] at h2
      have := skipV_in (m := y.1) (g := y.2) hy
      rw [List.length_drop] at this
      simp only at h2
      omega
    simp only at h
    split at h
    · split at h
      · exact hsk _ _ (fun _ => rfl) h
      · injection h with h; injection h with _ h; omega
    · split at h
      · injection h with h; injection h with _ h; omega
      · exact hsk _ _ (fun _ => rfl) h

/-- steps that lie one behind the other, from a to b -/
def lieV : Nat → List StepV → Nat → Prop
  | a, [], b => a = b
  | a, t :: ts, b => t.frm = a ∧ a < t.to ∧ lieV t.to ts b

theorem lieV_le : ∀ {ts : List StepV} {a b : Nat}, lieV a ts b → a ≤ b
  | [], _, _, h => Nat.le_of_eq h
  | _ :: _, _, _, ⟨_, h2, h3⟩ => Nat.le_of_lt (Nat.lt_of_lt_of_le h2 (lieV_le h3))

/-- All's steps; and where it has not ended, what is left is what lies behind them -/
theorem allV_lies (lim : Nat) : ∀ (r at' : Nat) (l : Bs), l.length < r → ∃ b, lieV at' (allV lim r at' l).1 b ∧ b ≤ at' + l.length ∧
    ((∃ t ∈ (allV lim r at' l).1, t.cmd.verb = 18) ∧ (allV lim r at' l).2 = 0 ∨ (allV lim r at' l).2 = at' + l.length - b)
  | 0, _, _, h => by omega
  | r + 1, at', l, h => by
    unfold allV
    cases ho : oneV lim l with
    | none => exact ⟨at', rfl, by omega, .inr (by simp)⟩
    | some y =>
      obtain ⟨t, n⟩ := y
      have hn := oneV_in ho
      dsimp only
      split
      · rename_i hv
        exact ⟨at' + n, ⟨rfl, by show at' < at' + n; omega, rfl⟩, by omega, .inl ⟨⟨t.span at' (at' + n), by simp, hv⟩, rfl⟩⟩
      · obtain ⟨b, h1, h2, h3⟩ := allV_lies lim r (at' + n) (l.drop n) (by rw [List.length_drop]; omega)
        rw [List.length_drop] at h2 h3
        refine ⟨b, ⟨rfl, by show at' < at' + n; omega, h1⟩, by omega, ?_⟩
        rcases h3 with ⟨⟨t', ht', hv⟩, h0⟩ | h3
        · exact .inl ⟨⟨t', List.mem_cons_of_mem _ ht', hv⟩, h0⟩
        · exact .inr (by rw [h3]; omega)

theorem keptV_is (lim : Nat) (l : Bs) : keptV lim l = 0 ∨ keptV lim l = l.length := by
  unfold keptV
  split
  · split
    · exact .inr rfl
    · exact .inl rfl
  · split
    · exact .inl rfl
    · split
      · exact .inl rfl
      · split
        · exact .inr rfl
        · exact .inl rfl

/-- where All tells a Quit the Feeder has ended -/
theorem quit_ends (lim : Nat) : ∀ (r : Nat) (l : Bs) {s : FeedV}, Fresh s → l.length < r → (∃ t ∈ (allV lim r s.taken l).1, t.cmd.verb = 18) → (s.bytes lim l).ended = true
  | 0, _, _, _, h, _ => by omega
  | r + 1, l, s, hf, hr, hq => by
    have h := one_goes lim hf l
    unfold allV at hq
    cases ho : oneV lim l with
    | none => rw [ho] at hq; simp at hq
    | some x =>
      obtain ⟨t, n⟩ := x
      rw [ho] at h hq
      obtain ⟨h1, h2, h3⟩ := h
      have hby : s.bytes lim l = (s.bytes lim (l.take n)).bytes lim (l.drop n) := by
        conv => lhs; rw [← List.take_append_drop n l, bytes_append]
      rw [hby]
      dsimp only at hq
      by_cases hv : t.cmd.verb = 18
      · obtain ⟨o1, o2, o3⟩ := h3.over hv
        rw [over_bytes lim _ o1]
        exact o2
      · rw [if_neg hv] at hq
        have hld : (l.drop n).length = l.length - n := List.length_drop
        refine quit_ends lim r (l.drop n) (h3.fresh hv) (by omega) ?_
        rw [h3.taken]
        obtain ⟨t2, ht2, hv2⟩ := hq
        rcases List.mem_cons.1 ht2 with rfl | ht2
        · exact absurd hv2 hv
        · exact ⟨t2, ht2, hv2⟩

/-- what a Feeder holds and has told, and what All tells and leaves, of the same bytes -/
theorem whole_law (lim : Nat) (raw : Bs) : ∃ b, lieV 0 (allV lim (raw.length + 1) 0 raw).1 b ∧ b ≤ raw.length ∧
    ((({} : FeedV).bytes lim raw).ended = true → (({} : FeedV).bytes lim raw).held = 0 ∧ (allV lim (raw.length + 1) 0 raw).2 = 0) ∧
    ((({} : FeedV).bytes lim raw).ended = false → ((({} : FeedV).bytes lim raw).held = 0 ∨ (({} : FeedV).bytes lim raw).held = (allV lim (raw.length + 1) 0 raw).2) ∧ (allV lim (raw.length + 1) 0 raw).2 = raw.length - b) := by
  obtain ⟨b, h1, h2, h3⟩ := allV_lies lim (raw.length + 1) 0 raw (Nat.lt_succ_self _)
  have hg := all_goes lim (raw.length + 1) raw Fresh.new (Nat.lt_succ_self _)
  have hq := quit_ends lim (raw.length + 1) raw Fresh.new (Nat.lt_succ_self _)
  refine ⟨b, h1, by omega, hg.2.1, fun he => ?_⟩
  obtain ⟨g1, g2, g3⟩ := hg.2.2 he
  have g1' : (allV lim (raw.length + 1) 0 raw).2 ≤ raw.length := g1
  refine ⟨?_, ?_⟩
  · have hk := keptV_is lim (raw.drop (raw.length - (allV lim (raw.length + 1) 0 raw).2))
    rw [List.length_drop] at hk
    have g2' : (({} : FeedV).bytes lim raw).held = keptV lim (raw.drop (raw.length - (allV lim (raw.length + 1) 0 raw).2)) := g2
    rcases hk with hk | hk
    · exact .inl (g2'.trans hk)
    · exact .inr (by rw [g2', hk]; omega)
  · rcases h3 with ⟨h3, _⟩ | h3
    · have := hq h3
      rw [he] at this
      cases this
    · omega
end Go.Proofs.YticigfpieeoolaaGreatDoor
