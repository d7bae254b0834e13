/- Plain laws for a Feeder: what it tells ends in the bytes that it is fed; how much it holds. No program in sight. -/
import Derived.Test.YticigfpieeoolaaGreatDoorFe
namespace Go.Proofs.YticigfpieeoolaaGreatDoor
open Go.Lib Sp

/-- one byte tells one step at most, and that ends in it -/
def Tells (s s' : FeedV) : Prop := s'.taken = s.taken ∧ (s'.out = s.out ∨ ∃ t, s'.out = s.out ++ [t] ∧ t.to = s.taken)

theorem tells_done (s : FeedV) (t : StepV) : Tells s (s.done t) := ⟨rfl, .inr ⟨_, rfl, rfl⟩⟩

theorem tells_next (lim : Nat) (s : FeedV) (b : UInt8) : Tells s (s.next lim b) := by
  have hd : ∀ (s1 : FeedV) (t : StepV), s1.taken = s.taken → s1.out = s.out → Tells s (s1.done t) := by
    intro s1 t h1 h2
    refine ⟨h1, .inr ⟨t.span s1.frm s1.taken, ?_, h1⟩⟩
    show s1.out ++ _ = _
    rw [h2]
  unfold FeedV.next
  split
  · unfold FeedV.inLine
    split
    · unfold FeedV.lineEnds
      split
      · exact hd _ _ rfl rfl
      · split
        · split
          · exact ⟨rfl, .inl rfl⟩
          · exact hd _ _ rfl rfl
        · split
          · exact hd _ _ rfl rfl
          · split
            · exact ⟨rfl, .inl rfl⟩
            · exact ⟨rfl, .inl rfl⟩
    · split
      · exact ⟨rfl, .inl rfl⟩
      · split
        · exact ⟨rfl, .inl rfl⟩
        · exact ⟨rfl, .inl rfl⟩
  · unfold FeedV.passing
    split
    · exact hd _ _ rfl rfl
    · exact ⟨rfl, .inl rfl⟩
  · unfold FeedV.inBlock
    split
    · exact ⟨rfl, .inl rfl⟩
    · split
      · unfold FeedV.blockEnds
        split <;> exact hd _ _ rfl rfl
      · split
        · exact ⟨rfl, .inl rfl⟩
        · exact ⟨rfl, .inl rfl⟩
  · exact ⟨rfl, .inl rfl⟩

theorem bytes_tells (lim : Nat) : ∀ (l : Bs) (s : FeedV), (s.bytes lim l).taken = s.taken + l.length ∧ ∃ ts, (s.bytes lim l).out = s.out ++ ts ∧ ∀ t ∈ ts, s.taken < t.to ∧ t.to ≤ s.taken + l.length
  | [], s => ⟨rfl, [], by simp [FeedV.bytes], by simp⟩
  | b :: l, s => by
    have h1 := tells_next lim { s with taken := s.taken + 1 } b
    have h2 := bytes_tells lim l (s.byte lim b)
    obtain ⟨e1, e2⟩ := h1
    obtain ⟨f1, ts, f2, f3⟩ := h2
    have e1' : (s.byte lim b).taken = s.taken + 1 := e1
    refine ⟨?_, ?_⟩
    · show ((s.byte lim b).bytes lim l).taken = _
      rw [f1, e1', List.length_cons]; omega
    · rcases e2 with e2 | ⟨t, e2, e3⟩
      · refine ⟨ts, ?_, fun t ht => ?_⟩
        · show ((s.byte lim b).bytes lim l).out = _
          rw [f2]
          show (FeedV.next lim _ b).out ++ ts = _
          rw [e2]
        · have := f3 t ht
          rw [e1'] at this
          simp; omega
      · refine ⟨t :: ts, ?_, fun t' ht => ?_⟩
        · show ((s.byte lim b).bytes lim l).out = _
          rw [f2]
          show (FeedV.next lim _ b).out ++ ts = _
          rw [e2]; simp
        · rcases List.mem_cons.1 ht with rfl | ht
          · simp at e3; simp; omega
          · have := f3 t' ht
            rw [e1'] at this
            simp; omega

theorem told_ends (lim : Nat) (s : FeedV) (h : s.out = []) (l : Bs) : ∀ t ∈ s.told lim l, s.taken < t.to ∧ t.to ≤ s.taken + l.length := by
  obtain ⟨_, ts, h2, h3⟩ := bytes_tells lim l s
  intro t ht
  unfold FeedV.told at ht
  rw [h2, h] at ht
  exact h3 t (by simpa using ht)

/-- what a Feeder's parts have to do with each other -/
structure Keeps (lim : Nat) (s : FeedV) : Prop where
  frm : s.frm + s.held ≤ s.taken
  over : s.ended = true ↔ s.mode = .over
  line : s.mode = .inLine → s.held ≤ 2049 ∧ s.held = s.line.length ∧ s.data = []
  passing : s.mode = .passing → s.held = 0 ∧ s.data = []
  over0 : s.mode = .over → s.held = 0 ∧ s.line = [] ∧ s.data = []
  block : s.mode = .inBlock → s.need ≤ lim ∧ (s.good = true → s.got ≤ s.need + 1 ∧ s.held ≤ 2050 + s.got) ∧ (s.good = false → s.held = 0 ∧ s.need < s.got)

theorem keeps_new (lim : Nat) : Keeps lim {} := ⟨by decide, by decide, fun _ => ⟨by decide, rfl, rfl⟩, by decide, by decide, fun h => by cases h⟩

theorem keeps_done {lim : Nat} {s : FeedV} (t : StepV) (he : s.ended = false) : Keeps lim (s.done t) := by
  by_cases hq : t.cmd.verb = 18
  · exact ⟨by simp [FeedV.done], by simp [FeedV.done, hq], by simp [FeedV.done, hq], by simp [FeedV.done, hq], by simp [FeedV.done, hq], by simp [FeedV.done, hq]⟩
  · exact ⟨by simp [FeedV.done], by simp [FeedV.done, hq, he], by simp [FeedV.done, hq], by simp [FeedV.done, hq], by simp [FeedV.done, hq], by simp [FeedV.done, hq]⟩

theorem keeps_passTo {lim n : Nat} {s : FeedV} (hf : s.frm ≤ s.taken) (he : s.ended = false) (hd : s.data = []) : Keeps lim (s.passTo n) :=
  ⟨by simp [FeedV.passTo]; exact hf, by simp [FeedV.passTo, he], by simp [FeedV.passTo], by simp [FeedV.passTo, hd], by simp [FeedV.passTo], by simp [FeedV.passTo]⟩

/-- behind the count of a byte there is room for one more -/
theorem keeps_next {lim : Nat} {s : FeedV} (h : Keeps lim s) (hr : s.frm + s.held < s.taken) (b : UInt8) : Keeps lim (s.next lim b) := by
  have hne : s.mode ≠ .over → s.ended = false := fun hm => by
    cases he : s.ended
    · rfl
    · exact absurd (h.over.1 he) hm
  unfold FeedV.next
  split
  · rename_i hm
    have he := hne (by rw [hm]; decide)
    have hl := h.line hm
    unfold FeedV.inLine
    split
    · unfold FeedV.lineEnds
      split
      · exact keeps_done _ he
      · split
        · split
          · exact keeps_passTo (by simp; omega) he hl.2.2
          · exact keeps_done _ he
        · split
          · exact keeps_done _ he
          · split
            · exact keeps_passTo (by simp; omega) he hl.2.2
            · rename_i hn1 hn2
              exact ⟨by simp; omega, by simp [he], by simp, by simp, by simp, fun _ => ⟨by simp; omega, fun _ => ⟨by simp, by simp; omega⟩, by simp⟩⟩
    · split
      · exact h
      · split
        · exact ⟨by simp; omega, by simp [he, hm], fun _ => ⟨by simp, by simp, hl.2.2⟩, by simp [hm], by simp [hm], by simp [hm]⟩
        · rename_i h1 h2 h3
          exact ⟨by simp; omega, by simp [he, hm], fun _ => ⟨by simp; omega, by simp; omega, hl.2.2⟩, by simp [hm], by simp [hm], by simp [hm]⟩
  · rename_i hm
    have he := hne (by rw [hm]; decide)
    have hp := h.passing hm
    unfold FeedV.passing
    split
    · exact keeps_done _ he
    · exact ⟨by simp; omega, by simp [he, hm], by simp [hm], fun _ => hp, by simp [hm], by simp [hm]⟩
  · rename_i hm
    have he := hne (by rw [hm]; decide)
    obtain ⟨b1, b2, b3⟩ := h.block hm
    unfold FeedV.inBlock
    split
    · rename_i hg
      exact ⟨by simp; omega, by simp [he, hm], by simp [hm], by simp [hm], by simp [hm], fun _ => ⟨b1, fun hgd => ⟨by simp; omega, by have := (b2 hgd).2; simp; omega⟩, fun hgd => by have := (b3 hgd).2; omega⟩⟩
    · split
      · unfold FeedV.blockEnds
        split <;> exact keeps_done _ he
      · split
        · rename_i h1 h2 h3
          have := b2 h3.1
          exact ⟨by simp; omega, by simp [he, hm], by simp [hm], by simp [hm], by simp [hm], fun _ => ⟨b1, fun hgd => ⟨by simp; omega, by simp; omega⟩, fun hgd => by simp [h3.1] at hgd⟩⟩
        · exact ⟨by simp; omega, by simp [he, hm], by simp [hm], by simp [hm], by simp [hm], fun _ => ⟨b1, by simp, fun _ => ⟨by simp, by simp; omega⟩⟩⟩
  · exact h

theorem keeps_byte {lim : Nat} {s : FeedV} (h : Keeps lim s) (b : UInt8) : Keeps lim (s.byte lim b) :=
  keeps_next (s := { s with taken := s.taken + 1 }) ⟨by have := h.frm; simp; omega, h.over, h.line, h.passing, h.over0, h.block⟩ (by have := h.frm; simp; omega) b

theorem keeps_bytes {lim : Nat} : ∀ (l : Bs) {s : FeedV}, Keeps lim s → Keeps lim (s.bytes lim l)
  | [], _, h => h
  | b :: l, _, h => keeps_bytes l (keeps_byte h b)

theorem keeps_feed {lim : Nat} {s : FeedV} (h : Keeps lim s) (l : Bs) : Keeps lim (s.feed lim l) := by
  have := keeps_bytes l h
  exact ⟨this.frm, this.over, this.line, this.passing, this.over0, this.block⟩

/-- never more is held than a line, the limit and three bytes -/
theorem held_bound {lim : Nat} {s : FeedV} (h : Keeps lim s) : s.held ≤ 2051 + lim ∧ s.held ≤ s.taken := by
  refine ⟨?_, by have := h.frm; omega⟩
  cases hm : s.mode with
  | inLine => have := (h.line hm).1; omega
  | passing => have := (h.passing hm).1; omega
  | over => have := (h.over0 hm).1; omega
  | inBlock =>
    obtain ⟨b1, b2, b3⟩ := h.block hm
    cases hg : s.good with
    | true => have := b2 hg; omega
    | false => have := b3 hg; omega

/-- behind a quit nothing is told -/
theorem over_stays (lim : Nat) : ∀ (l : Bs) (s : FeedV), s.mode = .over → (s.bytes lim l).mode = .over ∧ (s.bytes lim l).out = s.out
  | [], _, h => ⟨h, rfl⟩
  | b :: l, s, h => by
    have e : s.byte lim b = { s with taken := s.taken + 1 } := by
      unfold FeedV.byte FeedV.next
      simp [h]
    show ((s.byte lim b).bytes lim l).mode = _ ∧ ((s.byte lim b).bytes lim l).out = _
    rw [e]
    exact over_stays lim l _ h

theorem ended_tells {lim : Nat} {s : FeedV} (h : Keeps lim s) (he : s.ended = true) (ho : s.out = []) (l : Bs) : s.told lim l = [] := by
  unfold FeedV.told
  rw [(over_stays lim l s (h.over.1 he)).2, ho]

theorem feed_taken (lim : Nat) (s : FeedV) (l : Bs) : (s.feed lim l).taken = s.taken + l.length := (bytes_tells lim l s).1
end Go.Proofs.YticigfpieeoolaaGreatDoor
