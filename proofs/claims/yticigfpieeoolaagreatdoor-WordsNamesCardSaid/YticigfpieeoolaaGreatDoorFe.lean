/- Plain laws for a Feeder: what a line's reading keeps to; the bounds that a Feeder keeps to. No program in sight. -/
import Derived.Test.YticigfpieeoolaaGreatDoorPr
import Derived.Test.YticigfpieeoolaaGreatDoorFd
namespace Go.Proofs.YticigfpieeoolaaGreatDoor
open Go.Lib Sp

theorem wordsAt_grows (p : Bs) : ∀ (qs : List Bs) (i : Nat) (c : CmdV) (b : Int) (c' : CmdV) (b' : Int), wordsAt p i c b qs = .ok (c', b') →
    c'.data = c.data ∧ c'.large = c.large ∧ c'.verb = c.verb ∧ (b' = b ∨ (0 ≤ b' ∧ b' ≤ 2147483647)) ∧ c'.keys.length ≤ c.keys.length + qs.length ∧ c'.metas.length ≤ c.metas.length + qs.length
  | [], i, c, b, c', b', h => by
    unfold wordsAt at h
    injection h with h; injection h with h1 h2
    subst h1; subst h2
    exact ⟨rfl, rfl, rfl, .inl rfl, by simp, by simp⟩
  | q :: qs, i, c, b, c', b', h => by
    unfold wordsAt at h
    split at h
    · rename_i c1 b1 h1
      have g := wordAt_grows h1
      have r := wordsAt_grows p qs (i + 1) c1 b1 c' b' h
      refine ⟨r.1.trans g.2.2.2.2.1, r.2.1.trans g.2.2.2.2.2.1, r.2.2.1.trans g.2.2.1, ?_, ?_, ?_⟩
      · rcases r.2.2.2.1 with h | h
        · rw [h]; exact g.2.2.2.2.2.2.2
        · exact .inr h
      · have := r.2.2.2.2.1; have := g.1; simp; omega
      · have := r.2.2.2.2.2; have := g.2.1; simp; omega
    · cases h

theorem passOf_bound (r : RowV) (ws : List Bs) : -1 ≤ passOf r ws ∧ passOf r ws ≤ 2147483647 := by
  unfold passOf
  split
  · split
    · split
      · rename_i n hn
        have := number_le hn
        omega
      · omega
    · omega
  · omega

theorem rest_bad {r : RowV} {ws : List Bs} {x : WrongV} (h : rest r ws = .bad x) : x.kind = 2 ∧ -1 ≤ x.pass ∧ x.pass ≤ 2147483647 := by
  have hp := passOf_bound r ws
  unfold rest at h
  dsimp only at h
  generalize (if isNoreply r ws = true then ws.dropLast else ws) = qs at h
  split at h
  · injection h with h; subst h; exact ⟨rfl, hp⟩
  · split at h
    · cases h
    · injection h with h; subst h; exact ⟨rfl, hp⟩

theorem rest_ok {r : RowV} {ws : List Bs} {c : CmdV} {n : Int} (h : rest r ws = .ok c n) : -1 ≤ n ∧ n ≤ 2147483647 ∧ c.data = [] ∧ c.large = false ∧ c.verb = r.verb ∧ c.keys.length ≤ ws.length ∧ c.metas.length ≤ ws.length := by
  unfold rest at h
  dsimp only at h
  have hq : (if isNoreply r ws = true then ws.dropLast else ws).length ≤ ws.length := by split <;> simp
  generalize (if isNoreply r ws = true then ws.dropLast else ws) = qs at h hq
  split at h
  · cases h
  · split at h
    · rename_i c1 b1 h1
      injection h with h2 h3
      subst h2; subst h3
      have g := wordsAt_grows _ _ _ _ _ _ _ h1
      refine ⟨?_, ?_, g.1, g.2.1, g.2.2.1, ?_, ?_⟩
      · rcases g.2.2.2.1 with h | h <;> omega
      · rcases g.2.2.2.1 with h | h <;> omega
      · have := g.2.2.2.2.1; simp at this; omega
      · have := g.2.2.2.2.2; simp at this; omega
    · cases h

theorem lineOf_bad {l : Bs} {x : WrongV} (h : lineOf l = .bad x) : (x.kind = 1 ∨ x.kind = 2) ∧ -1 ≤ x.pass ∧ x.pass ≤ 2147483647 := by
  unfold lineOf at h
  split at h
  · injection h with h; subst h; exact ⟨.inr rfl, by decide, by decide⟩
  · split at h
    · injection h with h; subst h; exact ⟨.inl rfl, by decide, by decide⟩
    · split at h
      · injection h with h; subst h; exact ⟨.inl rfl, by decide, by decide⟩
      · have := rest_bad h; exact ⟨.inr this.1, this.2⟩

theorem lineOf_ok {l : Bs} {c : CmdV} {n : Int} (h : lineOf l = .ok c n) : -1 ≤ n ∧ n ≤ 2147483647 ∧ c.data = [] ∧ c.large = false ∧ 1 ≤ c.verb ∧ c.verb ≤ 24 ∧ c.keys.length ≤ 2048 ∧ c.metas.length ≤ 2048 := by
  unfold lineOf at h
  split at h
  · cases h
  · rename_i hl
    split at h
    · cases h
    · rename_i v ws hw
      split at h
      · cases h
      · rename_i r hr
        have g := rest_ok h
        have ok := rowOf_ok hr
        have hc := wordsOf_count l
        rw [hw] at hc
        simp at hc
        exact ⟨g.1, g.2.1, g.2.2.1, g.2.2.2.1, by rw [g.2.2.2.2.1]; exact ok.2.1, by rw [g.2.2.2.2.1]; exact ok.2.2.1, by omega, by omega⟩

theorem chop_length (l : Bs) : (chop l).length ≤ l.length := by unfold chop; split <;> simp

theorem fits_count {s : FeedV} {N : Nat} (h : s.Fits N) : ({ s with taken := s.taken + 1 } : FeedV).Fits (N + 1) :=
  ⟨by have := h.taken; simp; omega, by have := h.frm; simp; omega, by have := h.held; simp; omega, by have := h.line; simp; omega, by have := h.data; simp; omega, by have := h.got; simp; omega, by have := h.out; simp; omega, h.need⟩

theorem fits_got {s : FeedV} {N : Nat} (h : s.Fits N) : ({ s with got := s.got + 1 } : FeedV).Fits (N + 1) :=
  ⟨by have := h.taken; simp; omega, by have := h.frm; simp; omega, by have := h.held; simp; omega, by have := h.line; simp; omega, by have := h.data; simp; omega, by have := h.got; simp; omega, by have := h.out; simp; omega, h.need⟩

theorem fits_done {s : FeedV} {N : Nat} (h : s.Fits N) (t : StepV) : (s.done t).Fits (N + 1) :=
  ⟨by have := h.taken; simp [FeedV.done]; omega, by have := h.taken; simp [FeedV.done]; omega, by simp [FeedV.done], by simp [FeedV.done], by simp [FeedV.done], by have := h.got; simp [FeedV.done]; omega,
    by have := h.out; simp [FeedV.done]; omega, h.need⟩

theorem fits_passTo {s : FeedV} {N n : Nat} (h : s.Fits N) (hn : n ≤ 2147483647) : (s.passTo n).Fits (N + 1) :=
  ⟨by have := h.taken; simp [FeedV.passTo]; omega, by have := h.frm; simp [FeedV.passTo]; omega, by simp [FeedV.passTo], by simp [FeedV.passTo], by have := h.data; simp [FeedV.passTo]; omega, by have := h.got; simp [FeedV.passTo]; omega,
    by have := h.out; simp [FeedV.passTo]; omega, hn⟩

theorem fits_lineEnds {s : FeedV} {N lim : Nat} (h : s.Fits N) : (s.lineEnds lim).Fits (N + 1) := by
  unfold FeedV.lineEnds
  split
  · exact fits_done h _
  · have h0 : ∀ t, ({ s with step := t, got := 0 } : FeedV).Fits N := fun t => ⟨h.taken, h.frm, h.held, h.line, h.data, Nat.zero_le _, h.out, h.need⟩
    split
    · rename_i w hw
      have g := lineOf_bad hw
      split
      · exact fits_passTo (h0 _) (by omega)
      · exact fits_done (h0 _) _
    · rename_i c n hc
      have g := lineOf_ok hc
      split
      · exact fits_done (h0 _) _
      · split
        · exact fits_passTo (h0 _) (by omega)
        · exact ⟨by have := h.taken; simp; omega, by have := h.frm; simp; omega, by have := h.held; simp; omega, by have := h.line; simp; omega, by have := h.data; simp; omega, by simp, by have := h.out; simp; omega, by simp; omega⟩

theorem fits_more {s : FeedV} {N M : Nat} (h : s.Fits N) (hM : N ≤ M) : s.Fits M :=
  ⟨Nat.le_trans h.taken hM, Nat.le_trans h.frm hM, Nat.le_trans h.held hM, Nat.le_trans h.line hM, Nat.le_trans h.data hM, Nat.le_trans h.got hM, Nat.le_trans h.out hM, h.need⟩

theorem fits_next {s : FeedV} {N lim : Nat} (h : s.Fits N) (b : UInt8) : (s.next lim b).Fits (N + 2) := by
  have hg : ({ s with got := s.got + 1 } : FeedV).Fits (N + 1) :=
    ⟨by have := h.taken; simp; omega, by have := h.frm; simp; omega, by have := h.held; simp; omega, by have := h.line; simp; omega, by have := h.data; simp; omega, by have := h.got; simp; omega, by have := h.out; simp; omega, h.need⟩
  unfold FeedV.next
  split
  · unfold FeedV.inLine
    split
    · exact fits_more (fits_lineEnds h) (by omega)
    · split
      · exact fits_more h (by omega)
      · split
        · exact ⟨by have := h.taken; simp; omega, by have := h.frm; simp; omega, by simp, by simp, by have := h.data; simp; omega, by have := h.got; simp; omega, by have := h.out; simp; omega, h.need⟩
        · exact ⟨by have := h.taken; simp; omega, by have := h.frm; simp; omega, by have := h.held; simp; omega, by have := h.line; simp; omega, by have := h.data; simp; omega, by have := h.got; simp; omega, by have := h.out; simp; omega, h.need⟩
  · unfold FeedV.passing
    split
    · exact fits_done hg _
    · exact fits_more hg (by omega)
  · unfold FeedV.inBlock
    split
    · exact ⟨by have := h.taken; simp; omega, by have := h.frm; simp; omega, by have := h.held; simp; omega, by have := h.line; simp; omega, by have := h.data; simp; omega, by have := h.got; simp; omega, by have := h.out; simp; omega, h.need⟩
    · split
      · unfold FeedV.blockEnds
        split <;> exact fits_done hg _
      · split
        · exact ⟨by have := h.taken; simp; omega, by have := h.frm; simp; omega, by have := h.held; simp; omega, by have := h.line; simp; omega, by have := h.data; simp; omega, by have := h.got; simp; omega, by have := h.out; simp; omega, h.need⟩
        · exact ⟨by have := h.taken; simp; omega, by have := h.frm; simp; omega, by simp, by simp, by simp, by have := h.got; simp; omega, by have := h.out; simp; omega, h.need⟩
  · exact fits_more h (by omega)

theorem fits_byte {s : FeedV} {N lim : Nat} (h : s.Fits N) (b : UInt8) : (s.byte lim b).Fits (N + 3) := fits_next (fits_count h) b
end Go.Proofs.YticigfpieeoolaaGreatDoor
