/- The plain model of package line: a Feeder, byte by byte. No program in sight. Plain laws for a Feeder: what a line's reading keeps to; the bounds that a Feeder keeps to. No program in sight. Plain laws for a Feeder: what it tells ends in the bytes that it is fed; how much it holds. No program in sight. The plain model of words.All, and how a Feeder tells the same. No program in sight. Plain laws for the statements' helpers: Within, Pieces. No program in sight. Plain laws for a Feeder fed by pieces: what it tells, what it holds. No program in sight. -/
import Derived.Test.YthgfjafnclklpaaGreatDoorSp
import Derived.Test.YthgfjafnclklpaaGreatDoorPr
section
namespace Go.Proofs.YthgfjafnclklpaaGreatDoor
namespace Sp

inductive Mode where
  | inLine | passing | inBlock | over
  deriving DecidableEq

structure FeedV where
  mode : Mode := .inLine
  taken : Nat := 0
  frm : Nat := 0
  held : Nat := 0
  ended : Bool := false
  line : Bs := []
  long : Bool := false
  step : StepV := {}
  data : Bs := []
  need : Nat := 0
  got : Nat := 0
  good : Bool := false
  out : List StepV := []

/-- a step with its place -/
def StepV.span (t : StepV) (a b : Nat) : StepV := { t with frm := a, to := b }

def FeedV.done (s : FeedV) (t : StepV) : FeedV :=
  { s with
    out := s.out ++ [t.span s.frm s.taken], frm := s.taken, line := [], data := [], step := {}, held := 0, long := false
    ended := s.ended || decide (t.cmd.verb = 18)
    mode := if t.cmd.verb = 18 then .over else .inLine }

def FeedV.passTo (s : FeedV) (n : Nat) : FeedV := { s with need := n, line := [], held := 0, mode := .passing }

/-- a line without the 13 at its end -/
def chop (l : Bs) : Bs := if l.getLast? = some 13 then l.dropLast else l

def FeedV.lineEnds (lim : Nat) (s : FeedV) : FeedV :=
  if s.long then s.done { wrong := ⟨2, tooLong, -1⟩ }
  else match lineOf (chop s.line) with
    | .bad w =>
      if 0 ≤ w.pass ∧ w.pass ≤ lim then { s with step := { wrong := w }, got := 0 }.passTo w.pass.toNat
      else { s with step := { wrong := w }, got := 0 }.done { wrong := w }
    | .ok c n =>
      if n < 0 then { s with step := { cmd := c }, got := 0 }.done { cmd := c }
      else if lim < n then { s with step := { cmd := { c with large := true } }, got := 0 }.passTo n.toNat
      else { s with step := { cmd := c }, got := 0, need := n.toNat, good := true, held := s.held + 1, mode := .inBlock }

def FeedV.inLine (lim : Nat) (s : FeedV) (b : UInt8) : FeedV :=
  if b = 10 then s.lineEnds lim
  else if s.long then s
  else if 2048 < s.line.length ∨ (s.line.length = 2048 ∧ b ≠ 13) then { s with long := true, line := [], held := 0 }
  else { s with line := s.line ++ [b], held := s.held + 1 }

def FeedV.passing (s : FeedV) (b : UInt8) : FeedV :=
  if s.need < s.got + 1 ∧ b = 10 then { s with got := s.got + 1 }.done s.step else { s with got := s.got + 1 }

def FeedV.blockEnds (s : FeedV) : FeedV :=
  if s.good = true ∧ s.got = s.need + 2 then s.done { s.step with cmd := { s.step.cmd with data := s.data } }
  else s.done { wrong := ⟨2, badChunk, -1⟩ }

def FeedV.inBlock (s : FeedV) (b : UInt8) : FeedV :=
  if s.got + 1 ≤ s.need then { s with got := s.got + 1, data := s.data ++ [b], held := s.held + 1 }
  else if b = 10 then { s with got := s.got + 1 }.blockEnds
  else if s.good = true ∧ s.got = s.need ∧ b = 13 then { s with got := s.got + 1, held := s.held + 1 }
  else { s with got := s.got + 1, good := false, data := [], line := [], held := 0 }

/-- what is done with a byte, once it is counted -/
def FeedV.next (lim : Nat) (s : FeedV) (b : UInt8) : FeedV :=
  match s.mode with
  | .inLine => s.inLine lim b
  | .passing => s.passing b
  | .inBlock => s.inBlock b
  | .over => s

def FeedV.byte (lim : Nat) (s : FeedV) (b : UInt8) : FeedV := { s with taken := s.taken + 1 }.next lim b
def FeedV.bytes (lim : Nat) (s : FeedV) (l : Bs) : FeedV := l.foldl (FeedV.byte lim) s
/-- a chunk is fed: what was told is handed out -/
def FeedV.feed (lim : Nat) (s : FeedV) (l : Bs) : FeedV := { s.bytes lim l with out := [] }
def FeedV.told (lim : Nat) (s : FeedV) (l : Bs) : List StepV := (s.bytes lim l).out

/-- no count is beyond N -/
structure FeedV.Fits (s : FeedV) (N : Nat) : Prop where
  taken : s.taken ≤ N
  frm : s.frm ≤ N
  held : s.held ≤ N
  line : s.line.length ≤ N
  data : s.data.length ≤ N
  got : s.got ≤ N
  out : s.out.length ≤ N
  need : s.need ≤ 2147483647
end Sp
end Go.Proofs.YthgfjafnclklpaaGreatDoor
end
section
namespace Go.Proofs.YthgfjafnclklpaaGreatDoor
open Go.Lib Sp

theorem wordsAt_grows (p : Bs) : ∀ (qs : List Bs) (i : Nat) (c : CmdV) (b : Int) (c' : CmdV) (b' : Int), wordsAt p i c b qs = .ok (c', b') →
    c'.data = c.data ∧ c'.large = c.large ∧ c'.verb = c.verb ∧ (b' = b ∨ (0 ≤ b' ∧ b' ≤ 2147483647)) ∧ c'.keys.length ≤ c.keys.length + qs.length ∧ c'.metas.length ≤ c.metas.length + qs.length
  | [], i, c, b, c', b', h => by
    unfold wordsAt at h
    injection h with h; injection h with h1 h2
    subst h1; subst h2
    exact ⟨rfl, rfl, rfl, .inl rfl, by simp, by simp⟩
  | q :: qs, i, c, b, c', b', h => by
    unfold wordsAt at h
    split at h
    · rename_i c1 b1 h1
      have g := wordAt_grows h1
      have r := wordsAt_grows p qs (i + 1) c1 b1 c' b' h
      refine ⟨r.1.trans g.2.2.2.2.1, r.2.1.trans g.2.2.2.2.2.1, r.2.2.1.trans g.2.2.1, ?_, ?_, ?_⟩
      · rcases r.2.2.2.1 with h | h
        · rw [h]; exact g.2.2.2.2.2.2.2
        · exact .inr h
      · have := r.2.2.2.2.1; have := g.1; simp; omega
      · have := r.2.2.2.2.2; have := g.2.1; simp; omega
    · cases h

theorem passOf_bound (r : RowV) (ws : List Bs) : -1 ≤ passOf r ws ∧ passOf r ws ≤ 2147483647 := by
  unfold passOf
  split
  · split
    · split
      · rename_i n hn
        have := number_le hn
        omega
      · omega
    · omega
  · omega

theorem rest_bad {r : RowV} {ws : List Bs} {x : WrongV} (h : rest r ws = .bad x) : x.kind = 2 ∧ -1 ≤ x.pass ∧ x.pass ≤ 2147483647 := by
  have hp := passOf_bound r ws
  unfold rest at h
  dsimp only at h
  generalize (if isNoreply r ws = true then ws.dropLast else ws) = qs at h
  split at h
  · injection h with h; subst h; exact ⟨rfl, hp⟩
  · split at h
    · cases h
    · injection h with h; subst h; exact ⟨rfl, hp⟩

theorem rest_ok {r : RowV} {ws : List Bs} {c : CmdV} {n : Int} (h : rest r ws = .ok c n) : -1 ≤ n ∧ n ≤ 2147483647 ∧ c.data = [] ∧ c.large = false ∧ c.verb = r.verb ∧ c.keys.length ≤ ws.length ∧ c.metas.length ≤ ws.length := by
  unfold rest at h
  dsimp only at h
  have hq : (if isNoreply r ws = true then ws.dropLast else ws).length ≤ ws.length := by split <;> simp
  generalize (if isNoreply r ws = true then ws.dropLast else ws) = qs at h hq
  split at h
  · cases h
  · split at h
    · rename_i c1 b1 h1
      injection h with h2 h3
      subst h2; subst h3
      have g := wordsAt_grows _ _ _ _ _ _ _ h1
      refine ⟨?_, ?_, g.1, g.2.1, g.2.2.1, ?_, ?_⟩
      · rcases g.2.2.2.1 with h | h <;> omega
      · rcases g.2.2.2.1 with h | h <;> omega
      · have := g.2.2.2.2.1; simp at this; omega
      · have := g.2.2.2.2.2; simp at this; omega
    · cases h

theorem lineOf_bad {l : Bs} {x : WrongV} (h : lineOf l = .bad x) : (x.kind = 1 ∨ x.kind = 2) ∧ -1 ≤ x.pass ∧ x.pass ≤ 2147483647 := by
  unfold lineOf at h
  split at h
  · injection h with h; subst h; exact ⟨.inr rfl, by decide, by decide⟩
  · split at h
    · injection h with h; subst h; exact ⟨.inl rfl, by decide, by decide⟩
    · split at h
      · injection h with h; subst h; exact ⟨.inl rfl, by decide, by decide⟩
      · have := rest_bad h; exact ⟨.inr this.1, this.2⟩

theorem lineOf_ok {l : Bs} {c : CmdV} {n : Int} (h : lineOf l = .ok c n) : -1 ≤ n ∧ n ≤ 2147483647 ∧ c.data = [] ∧ c.large = false ∧ 1 ≤ c.verb ∧ c.verb ≤ 24 ∧ c.keys.length ≤ 2048 ∧ c.metas.length ≤ 2048 := by
  unfold lineOf at h
  split at h
  · cases h
  · rename_i hl
    split at h
    · cases h
    · rename_i v ws hw
      split at h
      · cases h
      · rename_i r hr
        have g := rest_ok h
        have ok := rowOf_ok hr
        have hc := wordsOf_count l
        rw [hw] at hc
        simp at hc
        exact ⟨g.1, g.2.1, g.2.2.1, g.2.2.2.1, by rw [g.2.2.2.2.1]; exact ok.2.1, by rw [g.2.2.2.2.1]; exact ok.2.2.1, by omega, by omega⟩

theorem chop_length (l : Bs) : (chop l).length ≤ l.length := by unfold chop; split <;> simp

theorem fits_count {s : FeedV} {N : Nat} (h : s.Fits N) : ({ s with taken := s.taken + 1 } : FeedV).Fits (N + 1) :=
  ⟨by have := h.taken; simp; omega, by have := h.frm; simp; omega, by have := h.held; simp; omega, by have := h.line; simp; omega, by have := h.data; simp; omega, by have := h.got; simp; omega, by have := h.out; simp; omega, h.need⟩

theorem fits_got {s : FeedV} {N : Nat} (h : s.Fits N) : ({ s with got := s.got + 1 } : FeedV).Fits (N + 1) :=
  ⟨by have := h.taken; simp; omega, by have := h.frm; simp; omega, by have := h.held; simp; omega, by have := h.line; simp; omega, by have := h.data; simp; omega, by have := h.got; simp; omega, by have := h.out; simp; omega, h.need⟩

theorem fits_done {s : FeedV} {N : Nat} (h : s.Fits N) (t : StepV) : (s.done t).Fits (N + 1) :=
  ⟨by have := h.taken; simp [FeedV.done]; omega, by have := h.taken; simp [FeedV.done]; omega, by simp [FeedV.done], by simp [FeedV.done], by simp [FeedV.done], by have := h.got; simp [FeedV.done]; omega,
    by have := h.out; simp [FeedV.done]; omega, h.need⟩

theorem fits_passTo {s : FeedV} {N n : Nat} (h : s.Fits N) (hn : n ≤ 2147483647) : (s.passTo n).Fits (N + 1) :=
  ⟨by have := h.taken; simp [FeedV.passTo]; omega, by have := h.frm; simp [FeedV.passTo]; omega, by simp [FeedV.passTo], by simp [FeedV.passTo], by have := h.data; simp [FeedV.passTo]; omega, by have := h.got; simp [FeedV.passTo]; omega,
    by have := h.out; simp [FeedV.passTo]; omega, hn⟩

theorem fits_lineEnds {s : FeedV} {N lim : Nat} (h : s.Fits N) : (s.lineEnds lim).Fits (N + 1) := by
  unfold FeedV.lineEnds
  split
  · exact fits_done h _
  · have h0 : ∀ t, ({ s with step := t, got := 0 } : FeedV).Fits N := fun t => ⟨h.taken, h.frm, h.held, h.line, h.data, Nat.zero_le _, h.out, h.need⟩
    split
    · rename_i w hw
      have g := lineOf_bad hw
      split
      · exact fits_passTo (h0 _) (by omega)
      · exact fits_done (h0 _) _
    · rename_i c n hc
      have g := lineOf_ok hc
      split
      · exact fits_done (h0 _) _
      · split
        · exact fits_passTo (h0 _) (by omega)
        · exact ⟨by have := h.taken; simp; omega, by have := h.frm; simp; omega, by have := h.held; simp; omega, by have := h.line; simp; omega, by have := h.data; simp; omega, by simp, by have := h.out; simp; omega, by simp; omega⟩

theorem fits_more {s : FeedV} {N M : Nat} (h : s.Fits N) (hM : N ≤ M) : s.Fits M :=
  ⟨Nat.le_trans h.taken hM, Nat.le_trans h.frm hM, Nat.le_trans h.held hM, Nat.le_trans h.line hM, Nat.le_trans h.data hM, Nat.le_trans h.got hM, Nat.le_trans h.out hM, h.need⟩

theorem fits_next {s : FeedV} {N lim : Nat} (h : s.Fits N) (b : UInt8) : (s.next lim b).Fits (N + 2) := by
  have hg : ({ s with got := s.got + 1 } : FeedV).Fits (N + 1) :=
    ⟨by have := h.taken; simp; omega, by have := h.frm; simp; omega, by have := h.held; simp; omega, by have := h.line; simp; omega, by have := h.data; simp; omega, by have := h.got; simp; omega, by have := h.out; simp; omega, h.need⟩
  unfold FeedV.next
  split
  · unfold FeedV.inLine
    split
    · exact fits_more (fits_lineEnds h) (by omega)
    · split
      · exact fits_more h (by omega)
      · split
        · exact ⟨by have := h.taken; simp; omega, by have := h.frm; simp; omega, by simp, by simp, by have := h.data; simp; omega, by have := h.got; simp; omega, by have := h.out; simp; omega, h.need⟩
        · exact ⟨by have := h.taken; simp; omega, by have := h.frm; simp; omega, by have := h.held; simp; omega, by have := h.line; simp; omega, by have := h.data; simp; omega, by have := h.got; simp; omega, by have := h.out; simp; omega, h.need⟩
  · unfold FeedV.passing
    split
    · exact fits_done hg _
    · exact fits_more hg (by omega)
  · unfold FeedV.inBlock
    split
    · exact ⟨by have := h.taken; simp; omega, by have := h.frm; simp; omega, by have := h.held; simp; omega, by have := h.line; simp; omega, by have := h.data; simp; omega, by have := h.got; simp; omega, by have := h.out; simp; omega, h.need⟩
    · split
      · unfold FeedV.blockEnds
        split <;> exact fits_done hg _
      · split
        · exact ⟨by have := h.taken; simp; omega, by have := h.frm; simp; omega, by have := h.held; simp; omega, by have := h.line; simp; omega, by have := h.data; simp; omega, by have := h.got; simp; omega, by have := h.out; simp; omega, h.need⟩
        · exact ⟨by have := h.taken; simp; omega, by have := h.frm; simp; omega, by simp, by simp, by simp, by have := h.got; simp; omega, by have := h.out; simp; omega, h.need⟩
  · exact fits_more h (by omega)

theorem fits_byte {s : FeedV} {N lim : Nat} (h : s.Fits N) (b : UInt8) : (s.byte lim b).Fits (N + 3) := fits_next (fits_count h) b
end Go.Proofs.YthgfjafnclklpaaGreatDoor
end
section
namespace Go.Proofs.YthgfjafnclklpaaGreatDoor
open Go.Lib Sp

/-- one byte tells one step at most, and that ends in it -/
def Tells (s s' : FeedV) : Prop := s'.taken = s.taken ∧ (s'.out = s.out ∨ ∃ t, s'.out = s.out ++ [t] ∧ t.to = s.taken)

theorem tells_next (lim : Nat) (s : FeedV) (b : UInt8) : Tells s (s.next lim b) := by
  have hd : ∀ (s1 : FeedV) (t : StepV), s1.taken = s.taken → s1.out = s.out → Tells s (s1.done t) := by
    intro s1 t h1 h2
    refine ⟨h1, .inr ⟨t.span s1.frm s1.taken, ?_, h1⟩⟩
    show s1.out ++ _ = _
    rw [h2]
  unfold FeedV.next
  split
  · unfold FeedV.inLine
    split
    · unfold FeedV.lineEnds
      split
      · exact hd _ _ rfl rfl
      · split
        · split
          · exact ⟨rfl, .inl rfl⟩
          · exact hd _ _ rfl rfl
        · split
          · exact hd _ _ rfl rfl
          · split
            · exact ⟨rfl, .inl rfl⟩
            · exact ⟨rfl, .inl rfl⟩
    · split
      · exact ⟨rfl, .inl rfl⟩
      · split
        · exact ⟨rfl, .inl rfl⟩
        · exact ⟨rfl, .inl rfl⟩
  · unfold FeedV.passing
    split
    · exact hd _ _ rfl rfl
    · exact ⟨rfl, .inl rfl⟩
  · unfold FeedV.inBlock
    split
    · exact ⟨rfl, .inl rfl⟩
    · split
      · unfold FeedV.blockEnds
        split <;> exact hd _ _ rfl rfl
      · split
        · exact ⟨rfl, .inl rfl⟩
        · exact ⟨rfl, .inl rfl⟩
  · exact ⟨rfl, .inl rfl⟩

theorem bytes_tells (lim : Nat) : ∀ (l : Bs) (s : FeedV), (s.bytes lim l).taken = s.taken + l.length ∧ ∃ ts, (s.bytes lim l).out = s.out ++ ts ∧ ∀ t ∈ ts, s.taken < t.to ∧ t.to ≤ s.taken + l.length
  | [], s => ⟨rfl, [], by simp [FeedV.bytes], by simp⟩
  | b :: l, s => by
    have h1 := tells_next lim { s with taken := s.taken + 1 } b
    have h2 := bytes_tells lim l (s.byte lim b)
    obtain ⟨e1, e2⟩ := h1
    obtain ⟨f1, ts, f2, f3⟩ := h2
    have e1' : (s.byte lim b).taken = s.taken + 1 := e1
    refine ⟨?_, ?_⟩
    · show ((s.byte lim b).bytes lim l).taken = _
      rw [f1, e1', List.length_cons]; omega
    · rcases e2 with e2 | ⟨t, e2, e3⟩
      · refine ⟨ts, ?_, fun t ht => ?_⟩
        · show ((s.byte lim b).bytes lim l).out = _
          rw [f2]
          show (FeedV.next lim _ b).out ++ ts = _
          rw [e2]
        · have := f3 t ht
          rw [e1'] at this
          simp; omega
      · refine ⟨t :: ts, ?_, fun t' ht => ?_⟩
        · show ((s.byte lim b).bytes lim l).out = _
          rw [f2]
          show (FeedV.next lim _ b).out ++ ts = _
          rw [e2]; simp
        · rcases List.mem_cons.1 ht with rfl | ht
          · simp at e3; simp; omega
          · have := f3 t' ht
            rw [e1'] at this
            simp; omega

/-- what a Feeder's parts have to do with each other -/
structure Keeps (lim : Nat) (s : FeedV) : Prop where
  frm : s.frm + s.held ≤ s.taken
  over : s.ended = true ↔ s.mode = .over
  line : s.mode = .inLine → s.held ≤ 2049 ∧ s.held = s.line.length ∧ s.data = []
  passing : s.mode = .passing → s.held = 0 ∧ s.data = []
  over0 : s.mode = .over → s.held = 0 ∧ s.line = [] ∧ s.data = []
  block : s.mode = .inBlock → s.need ≤ lim ∧ (s.good = true → s.got ≤ s.need + 1 ∧ s.held ≤ 2050 + s.got) ∧ (s.good = false → s.held = 0 ∧ s.need < s.got)

end Go.Proofs.YthgfjafnclklpaaGreatDoor
end
section
namespace Go.Proofs.YthgfjafnclklpaaGreatDoor
open Go.Lib Sp

namespace Sp
/-- where a block of n bytes ends, with its line's end; whether that is as it should be -/
def skipV (body : Bs) (n : Nat) : Option (Nat × Bool) :=
  if body.length ≤ n then none
  else if (body.drop n).take 2 = [13, 10] then some (n + 2, true)
  else if body.drop n = [13] then none
  else match indexOf (body.drop n) 10 with
    | none => none
    | some i => some (n + i + 1, false)

/-- the step at the head of these bytes, and how many of them it takes -/
def oneV (lim : Nat) (l : Bs) : Option (StepV × Nat) :=
  match indexOf l 10 with
  | none => none
  | some e => match lineOf (chop (l.take e)) with
    | .bad w =>
      if 0 ≤ w.pass ∧ w.pass ≤ lim then (skipV (l.drop (e + 1)) w.pass.toNat).map fun x => ({ wrong := w }, e + 1 + x.1)
      else some ({ wrong := w }, e + 1)
    | .ok c n =>
      if n < 0 then some ({ cmd := c }, e + 1)
      else (skipV (l.drop (e + 1)) n.toNat).map fun x =>
        (if lim < n then { cmd := { c with large := true } }
         else if x.2 then { cmd := { c with data := (l.drop (e + 1)).take n.toNat } }
         else { wrong := ⟨2, badChunk, -1⟩ }, e + 1 + x.1)

/-- all steps: the place of the first byte; rounds -/
def allV (lim : Nat) : Nat → Nat → Bs → List StepV × Nat
  | 0, _, l => ([], l.length)
  | r + 1, at', l => match oneV lim l with
    | none => ([], l.length)
    | some (t, n) =>
      if t.cmd.verb = 18 then ([t.span at' (at' + n)], 0)
      else (t.span at' (at' + n) :: (allV lim r (at' + n) (l.drop n)).1, (allV lim r (at' + n) (l.drop n)).2)
end Sp

/-- behind a done step: the state in which a line begins -/
def fresh (a : Nat) (out : List StepV) (need got : Nat) (good : Bool) : FeedV := { taken := a, frm := a, need := need, got := got, good := good, out := out }

/-- the Feeder's state is that in which a line begins, but for what the next line sets anew -/
structure Fresh (s : FeedV) : Prop where
  mode : s.mode = .inLine
  frm : s.frm = s.taken
  held : s.held = 0
  ended : s.ended = false
  line : s.line = []
  long : s.long = false
  data : s.data = []

theorem Fresh.new : Fresh {} := ⟨rfl, rfl, rfl, rfl, rfl, rfl, rfl⟩

theorem indexOf_none {l : Bs} (h : indexOf l 10 = none) : ∀ b ∈ l, b ≠ 10 := by
  unfold indexOf at h
  rw [List.findIdx?_eq_none_iff] at h
  intro b hb e
  have := h b hb
  simp [e] at this
theorem indexOf_some {l : Bs} {e : Nat} (h : indexOf l 10 = some e) : ∃ r, l = l.take e ++ 10 :: r ∧ (∀ b ∈ l.take e, b ≠ 10) ∧ l.drop (e + 1) = r ∧ (l.take e).length = e := by
  unfold indexOf at h
  obtain ⟨hlt, h1, h2⟩ := List.findIdx?_eq_some_iff_getElem.1 h
  have h10 : l[e] = 10 := by simpa using h1
  refine ⟨l.drop (e + 1), ?_, ?_, rfl, by rw [List.length_take]; omega⟩
  · conv => lhs; rw [← List.take_append_drop e l]
    rw [List.drop_eq_getElem_cons hlt, h10]
  · intro b hb e10
    obtain ⟨i, hi, he⟩ := List.getElem_of_mem hb
    rw [List.length_take] at hi
    have := h2 i (by omega)
    rw [List.getElem_take] at he
    simp [he, e10] at this

theorem bytes_append (lim : Nat) (s : FeedV) (a b : Bs) : s.bytes lim (a ++ b) = (s.bytes lim a).bytes lim b := by unfold FeedV.bytes; rw [List.foldl_append]
theorem bytes_cons (lim : Nat) (s : FeedV) (b : UInt8) (l : Bs) : s.bytes lim (b :: l) = (s.byte lim b).bytes lim l := rfl

/-- what is kept of a line -/
def keptLine (l : Bs) : Bool := decide (l.length ≤ 2048) || (decide (l.length = 2049) && decide (l.getLast? = some 13))

theorem long_goes (lim : Nat) : ∀ (l : Bs) (s : FeedV), s.mode = .inLine → (∀ b ∈ l, b ≠ 10) → s.long = true → s.bytes lim l = { s with taken := s.taken + l.length }
  | [], s, _, _, _ => rfl
  | b :: l, s, hm, hb, hl => by
    have e : s.byte lim b = { s with taken := s.taken + 1 } := by
      unfold FeedV.byte FeedV.next
      simp only [hm]
      unfold FeedV.inLine
      rw [if_neg (hb b (by simp)), if_pos (by exact hl)]
    rw [bytes_cons, e, long_goes lim l { s with taken := s.taken + 1 } hm (fun b h => hb b (by simp [h])) hl]
    simp
    omega

/-- a line's bytes go in, one by one -/
theorem line_goes (lim : Nat) : ∀ (l : Bs) (s : FeedV), s.mode = .inLine → (∀ b ∈ l, b ≠ 10) → s.long = false → s.held = s.line.length → keptLine s.line = true →
    s.bytes lim l = if keptLine (s.line ++ l) = true then { s with taken := s.taken + l.length, line := s.line ++ l, held := (s.line ++ l).length } else { s with taken := s.taken + l.length, line := [], held := 0, long := true }
  | [], s, hm, hb, hl, hh, hk => by
    rw [List.append_nil, if_pos hk]
    show s = _
    cases s
    simp only at hh
    simp [hh]
  | b :: l, s, hm, hb, hl, hh, hk => by
    have hb10 := hb b (by simp)
    have hbl : ∀ b ∈ l, b ≠ 10 := fun b h => hb b (by simp [h])
    rw [bytes_cons]
    by_cases hc : 2048 < s.line.length ∨ (s.line.length = 2048 ∧ b ≠ 13)
    · have e : s.byte lim b = { s with taken := s.taken + 1, long := true, line := [], held := 0 } := by
        unfold FeedV.byte FeedV.next
        simp only [hm]
        unfold FeedV.inLine
        rw [if_neg hb10, if_neg (by simp [hl]), if_pos hc]
      have hn : keptLine (s.line ++ b :: l) = false := by
        unfold keptLine at hk ⊢
        simp only [Bool.or_eq_true, Bool.and_eq_true, decide_eq_true_eq] at hk
        simp only [Bool.or_eq_false_iff, Bool.and_eq_false_iff, decide_eq_false_iff_not, List.length_append, List.length_cons]
        refine ⟨by omega, ?_⟩
        rcases hc with hc | ⟨hc, hb13⟩
        · left; omega
        · cases l with
          | nil => right; simp [hb13]
          | cons x y => left; simp; omega
      rw [e, hn, long_goes lim l { s with taken := s.taken + 1, long := true, line := [], held := 0 } hm hbl rfl]
      simp
      omega
    · have e : s.byte lim b = { s with taken := s.taken + 1, line := s.line ++ [b], held := s.held + 1 } := by
        unfold FeedV.byte FeedV.next
        simp only [hm]
        unfold FeedV.inLine
        rw [if_neg hb10, if_neg (by simp [hl]), if_neg hc]
      have hk1 : keptLine (s.line ++ [b]) = true := by
        unfold keptLine
        simp only [Bool.or_eq_true, Bool.and_eq_true, decide_eq_true_eq, List.length_append, List.length_singleton]
        by_cases h2 : s.line.length < 2048
        · left; omega
        · right
          have h3 : s.line.length = 2048 := by omega
          have hb13 : b = 13 := Decidable.not_not.1 fun h => hc (.inr ⟨h3, h⟩)
          exact ⟨by omega, by simp [hb13]⟩
      rw [e, line_goes lim l { s with taken := s.taken + 1, line := s.line ++ [b], held := s.held + 1 } hm hbl hl (by simp [hh]) hk1]
      simp only [List.append_assoc, List.singleton_append]
      split
      · simp; omega
      · simp; omega

theorem chop_long {l : Bs} (h : keptLine l = false) : lineOf (chop l) = .bad ⟨2, tooLong, -1⟩ := by
  have hl : 2048 < (chop l).length := by
    unfold keptLine at h
    simp only [Bool.or_eq_false_iff, Bool.and_eq_false_iff, decide_eq_false_iff_not] at h
    unfold chop
    split
    · rename_i h13
      rw [List.length_dropLast]
      rcases h.2 with h2 | h2
      · omega
      · exact absurd h13 h2
    · omega
  unfold lineOf
  rw [if_pos hl]

/-- a step has been told -/
structure ToldOne (s0 : FeedV) (a : Nat) (t : StepV) (s : FeedV) : Prop where
  out : s.out = s0.out ++ [t.span s0.taken (s0.taken + a)]
  taken : s.taken = s0.taken + a
  over : t.cmd.verb = 18 → s.mode = .over ∧ s.ended = true ∧ s.held = 0
  fresh : t.cmd.verb ≠ 18 → Fresh s

/-- a block is passed over -/
structure InPass (s0 : FeedV) (a n g : Nat) (t : StepV) (s : FeedV) : Prop where
  mode : s.mode = .passing
  taken : s.taken = s0.taken + a
  frm : s.frm = s0.taken
  held : s.held = 0
  ended : s.ended = false
  need : s.need = n
  got : s.got = g
  step : s.step = t
  out : s.out = s0.out

/-- a block is kept -/
structure InBlk (s0 : FeedV) (a n g : Nat) (c : CmdV) (d : Bs) (gd : Bool) (s : FeedV) : Prop where
  mode : s.mode = .inBlock
  taken : s.taken = s0.taken + a
  frm : s.frm = s0.taken
  held : s.held = if gd = true then a else 0
  ended : s.ended = false
  need : s.need = n
  got : s.got = g
  good : s.good = gd
  step : s.step = { cmd := c }
  data : gd = true → s.data = d
  out : s.out = s0.out

theorem done_told {s0 s : FeedV} {a : Nat} (t : StepV) (ho : s.out = s0.out) (hf : s.frm = s0.taken) (ht : s.taken = s0.taken + a) (he : s.ended = false) : ToldOne s0 a t (s.done t) := by
  refine ⟨?_, ht, fun hv => ?_, fun hv => ?_⟩
  · show s.out ++ _ = _
    rw [ho, hf, ht]
  · simp [FeedV.done, hv]
  · exact ⟨by simp [FeedV.done, hv], rfl, rfl, by simp [FeedV.done, hv, he], rfl, rfl, rfl⟩

/-- a line and its end -/
theorem line_end (lim : Nat) {s : FeedV} (hf : Fresh s) (l : Bs) (hb : ∀ b ∈ l, b ≠ 10) :
    match lineOf (chop l) with
    | .bad w => if 0 ≤ w.pass ∧ w.pass ≤ lim then InPass s (l.length + 1) w.pass.toNat 0 { wrong := w } (s.bytes lim (l ++ [10])) else ToldOne s (l.length + 1) { wrong := w } (s.bytes lim (l ++ [10]))
    | .ok c n => if n < 0 then ToldOne s (l.length + 1) { cmd := c } (s.bytes lim (l ++ [10])) else if lim < n then InPass s (l.length + 1) n.toNat 0 { cmd := { c with large := true } } (s.bytes lim (l ++ [10]))
        else InBlk s (l.length + 1) n.toNat 0 c [] true (s.bytes lim (l ++ [10])) := by
  have h1 := line_goes lim l s hf.mode hb hf.long (by rw [hf.held, hf.line]; rfl) (by rw [hf.line]; rfl)
  rw [hf.line, List.nil_append] at h1
  rw [bytes_append, h1]
  cases hk : keptLine l with
  | true =>
    rw [if_pos rfl]
    have e : ∀ s1 : FeedV, s1.mode = .inLine → s1.long = false → s1.bytes lim [10] = ({ s1 with taken := s1.taken + 1 } : FeedV).lineEnds lim := by
      intro s1 hm _
      show FeedV.byte lim _ 10 = _
      unfold FeedV.byte FeedV.next
      simp only [hm]
      unfold FeedV.inLine
      rw [if_pos rfl]
    rw [e { s with taken := s.taken + l.length, line := l, held := l.length } hf.mode hf.long]
    unfold FeedV.lineEnds
    simp only [hf.long, Bool.false_eq_true, if_false]
    cases hr : lineOf (chop l) with
    | bad w =>
      dsimp only
      split
      · exact ⟨rfl, by simp [FeedV.passTo]; omega, hf.frm, rfl, hf.ended, rfl, rfl, rfl, rfl⟩
      · exact done_told _ rfl hf.frm (by simp; omega) hf.ended
    | ok c n =>
      dsimp only
      split
      · exact done_told _ rfl hf.frm (by simp; omega) hf.ended
      · split
        · exact ⟨rfl, by simp [FeedV.passTo]; omega, hf.frm, rfl, hf.ended, rfl, rfl, rfl, rfl⟩
        · exact ⟨rfl, by simp; omega, hf.frm, by simp, hf.ended, rfl, rfl, rfl, rfl, fun _ => hf.data, rfl⟩
  | false =>
    rw [if_neg (by decide), chop_long hk]
    dsimp only
    rw [if_neg (by rintro ⟨h, _⟩; exact absurd h (by decide))]
    have e : ∀ s1 : FeedV, s1.mode = .inLine → s1.long = true → s1.bytes lim [10] = ({ s1 with taken := s1.taken + 1 } : FeedV).done { wrong := ⟨2, tooLong, -1⟩ } := by
      intro s1 hm hl
      show FeedV.byte lim _ 10 = _
      unfold FeedV.byte FeedV.next
      simp only [hm]
      unfold FeedV.inLine
      rw [if_pos rfl]
      unfold FeedV.lineEnds
      simp only [hl, if_true]
    rw [e { s with taken := s.taken + l.length, line := [], held := 0, long := true } hf.mode rfl]
    exact done_told _ rfl hf.frm (by simp; omega) hf.ended

theorem pass_byte {lim : Nat} {s0 s : FeedV} {a n g : Nat} {t : StepV} (h : InPass s0 a n g t s) (b : UInt8) (hb : ¬ (n < g + 1 ∧ b = 10)) : InPass s0 (a + 1) n (g + 1) t (s.byte lim b) := by
  have e : s.byte lim b = { s with taken := s.taken + 1, got := s.got + 1 } := by
    unfold FeedV.byte FeedV.next
    simp only [h.mode]
    unfold FeedV.passing
    rw [if_neg (by simpa [h.need, h.got] using hb)]
  rw [e]
  exact ⟨h.mode, by have := h.taken; simp; omega, h.frm, h.held, h.ended, h.need, by simp [h.got], h.step, h.out⟩

theorem pass_end {lim : Nat} {s0 s : FeedV} {a n g : Nat} {t : StepV} (h : InPass s0 a n g t s) (hb : n < g + 1) : ToldOne s0 (a + 1) t (s.byte lim 10) := by
  have e : s.byte lim 10 = ({ s with taken := s.taken + 1, got := s.got + 1 } : FeedV).done t := by
    unfold FeedV.byte FeedV.next
    simp only [h.mode]
    unfold FeedV.passing
    rw [if_pos (by simpa [h.need, h.got] using hb)]
    simp [h.step]
  rw [e]
  exact done_told _ h.out h.frm (by have := h.taken; simp; omega) h.ended

theorem pass_goes {lim : Nat} {s0 : FeedV} {n : Nat} {t : StepV} : ∀ (l : Bs) {s : FeedV} {a g : Nat}, InPass s0 a n g t s → (∀ (i : Nat) (b : UInt8), l[i]? = some b → n < g + i + 1 → b ≠ 10) → InPass s0 (a + l.length) n (g + l.length) t (s.bytes lim l)
  | [], _, _, _, h, _ => h
  | b :: l, s, a, g, h, hb => by
    have h1 := pass_byte (lim := lim) h b (fun hc => hb 0 b rfl (by omega) hc.2)
    have h2 := pass_goes (lim := lim) l h1 (fun i c hi hn => hb (i + 1) c (by simpa using hi) (by omega))
    rw [bytes_cons, List.length_cons, show a + (l.length + 1) = a + 1 + l.length by omega, show g + (l.length + 1) = g + 1 + l.length by omega]
    exact h2

/-- where a block ends, by its place alone -/
theorem skipV_end (body : Bs) (n : Nat) : (skipV body n).map (·.1) = (indexOf (body.drop n) 10).map (fun i => n + i + 1) := by
  unfold skipV
  split
  · rename_i h
    rw [List.drop_eq_nil_iff.2 h]; rfl
  · split
    · rename_i h
      obtain ⟨r, hr⟩ : ∃ r, body.drop n = 13 :: 10 :: r := by
        match hd : body.drop n, h with
        | [], h => simp at h
        | [x], h => simp at h
        | x :: y :: r, h => simp at h; exact ⟨r, by rw [h.1, h.2]⟩
      rw [hr]
      simp [indexOf, List.findIdx?_cons]
    · split
      · rename_i h
        rw [h]; simp [indexOf, List.findIdx?_cons]
      · cases indexOf (body.drop n) 10 <;> rfl

/-- a block that is passed over -/
theorem pass_all {lim : Nat} {s0 s : FeedV} {a n : Nat} {t : StepV} (h : InPass s0 a n 0 t s) (body : Bs) :
    match skipV body n with
    | some (m, _) => 0 < m ∧ m ≤ body.length ∧ ToldOne s0 (a + m) t (s.bytes lim (body.take m))
    | none => InPass s0 (a + body.length) n body.length t (s.bytes lim body) := by
  have he := skipV_end body n
  cases hs : skipV body n with
  | none =>
    rw [hs] at he
    cases hi : indexOf (body.drop n) 10 with
    | some i => rw [hi] at he; cases he
    | none =>
      have hno := indexOf_none hi
      have := pass_goes (lim := lim) body h (fun i b hb hn => hno b (by
        have : (body.drop n)[i - n]? = some b := by rw [List.getElem?_drop, show n + (i - n) = i by omega]; exact hb
        exact List.mem_of_getElem? this))
      simpa using this
  | some x =>
    obtain ⟨m, gd⟩ := x
    rw [hs] at he
    cases hi : indexOf (body.drop n) 10 with
    | none => rw [hi] at he; cases he
    | some i =>
      rw [hi] at he
      simp only [Option.map_some, Option.some.injEq] at he
      subst he
      obtain ⟨r, h1, h2, _, h4⟩ := indexOf_some hi
      have hlt : n + i < body.length := by
        have := congrArg List.length h1
        rw [List.length_append, h4, List.length_drop, List.length_cons] at this
        omega
      refine ⟨by omega, by omega, ?_⟩
      have hsplit : body.take (n + i + 1) = body.take (n + i) ++ [10] := by
        rw [List.take_add_one]
        congr 1
        have : (body.drop n)[i]? = some 10 := by rw [h1, List.getElem?_append_right (by omega), h4]; simp
        rw [List.getElem?_drop] at this
        rw [this]; rfl
      rw [hsplit, bytes_append]
      have hg := pass_goes (lim := lim) (body.take (n + i)) h (fun j b hb hn => h2 b (by
        rw [List.getElem?_take] at hb
        split at hb
        · have : ((body.drop n).take i)[j - n]? = some b := by rw [List.getElem?_take, if_pos (by omega), List.getElem?_drop, show n + (j - n) = j by omega]; exact hb
          exact List.mem_of_getElem? this
        · cases hb))
      have hl : (body.take (n + i)).length = n + i := by rw [List.length_take]; omega
      rw [hl] at hg
      have := pass_end (lim := lim) hg (by omega)
      rw [show a + (n + i) + 1 = a + (n + i + 1) by omega] at this
      exact this

def badStep : StepV := { wrong := ⟨2, badChunk, -1⟩ }
/-- what stands behind the block's bytes so far is 13 10, or its beginning -/
def keepsBlock (body : Bs) (n : Nat) : Bool := !((body[n]?).any (fun x => x != 13) || (body[n + 1]?).any (fun x => x != 10))

theorem blk_data {lim : Nat} {s0 s : FeedV} {a n g : Nat} {c : CmdV} {d : Bs} (h : InBlk s0 a n g c d true s) (hg : g < n) (b : UInt8) : InBlk s0 (a + 1) n (g + 1) c (d ++ [b]) true (s.byte lim b) := by
  have e : s.byte lim b = { s with taken := s.taken + 1, got := s.got + 1, data := s.data ++ [b], held := s.held + 1 } := by
    unfold FeedV.byte FeedV.next
    simp only [h.mode]
    unfold FeedV.inBlock
    rw [if_pos (by simp [h.need, h.got]; omega)]
  rw [e]
  exact ⟨h.mode, by have := h.taken; simp; omega, h.frm, by have := h.held; simp at this ⊢; omega, h.ended, h.need, by simp [h.got], h.good, h.step, fun _ => by simp [h.data rfl], h.out⟩

theorem blk_datas {lim : Nat} {s0 : FeedV} {n : Nat} {c : CmdV} : ∀ (l : Bs) {s : FeedV} {a g : Nat} {d : Bs}, InBlk s0 a n g c d true s → g + l.length ≤ n → InBlk s0 (a + l.length) n (g + l.length) c (d ++ l) true (s.bytes lim l)
  | [], s, a, g, d, h, _ => by rw [List.append_nil]; exact h
  | b :: l, s, a, g, d, h, hn => by
    rw [List.length_cons] at hn
    have h1 := blk_data (lim := lim) h (by omega) b
    have h2 := blk_datas (lim := lim) l h1 (by omega)
    rw [bytes_cons, List.length_cons, show a + (l.length + 1) = a + 1 + l.length by omega, show g + (l.length + 1) = g + 1 + l.length by omega]
    rw [List.append_assoc] at h2
    exact h2

theorem blk_13 {lim : Nat} {s0 s : FeedV} {a n : Nat} {c : CmdV} {d : Bs} (h : InBlk s0 a n n c d true s) : InBlk s0 (a + 1) n (n + 1) c d true (s.byte lim 13) := by
  have e : s.byte lim 13 = { s with taken := s.taken + 1, got := s.got + 1, held := s.held + 1 } := by
    unfold FeedV.byte FeedV.next
    simp only [h.mode]
    unfold FeedV.inBlock
    rw [if_neg (by simp [h.need, h.got]), if_neg (by decide), if_pos (by simp [h.need, h.got, h.good])]
  rw [e]
  exact ⟨h.mode, by have := h.taken; simp; omega, h.frm, by have := h.held; simp at this ⊢; omega, h.ended, h.need, by simp [h.got], h.good, h.step, h.data, h.out⟩

theorem blk_bad {lim : Nat} {s0 s : FeedV} {a n g : Nat} {c : CmdV} {d : Bs} {gd : Bool} (h : InBlk s0 a n g c d gd s) (hg : n ≤ g) (b : UInt8) (hb : b ≠ 10) (hn : ¬ (gd = true ∧ g = n ∧ b = 13)) : InBlk s0 (a + 1) n (g + 1) c [] false (s.byte lim b) := by
  have e : s.byte lim b = { s with taken := s.taken + 1, got := s.got + 1, good := false, data := [], line := [], held := 0 } := by
    unfold FeedV.byte FeedV.next
    simp only [h.mode]
    unfold FeedV.inBlock
    rw [if_neg (by simp [h.need, h.got]; omega), if_neg hb, if_neg (by simpa [h.need, h.got, h.good] using hn)]
  rw [e]
  exact ⟨h.mode, by have := h.taken; simp; omega, h.frm, by simp, h.ended, h.need, by simp [h.got], rfl, h.step, fun _ => rfl, h.out⟩

theorem blk_end {lim : Nat} {s0 s : FeedV} {a n g : Nat} {c : CmdV} {d : Bs} {gd : Bool} (h : InBlk s0 a n g c d gd s) (hg : n ≤ g) : ToldOne s0 (a + 1) (if gd = true ∧ g = n + 1 then { cmd := { c with data := d } } else badStep) (s.byte lim 10) := by
  have e : s.byte lim 10 = ({ s with taken := s.taken + 1, got := s.got + 1 } : FeedV).done (if gd = true ∧ g = n + 1 then { cmd := { c with data := d } } else badStep) := by
    unfold FeedV.byte FeedV.next
    simp only [h.mode]
    unfold FeedV.inBlock
    rw [if_neg (by simp [h.need, h.got]; omega), if_pos rfl]
    unfold FeedV.blockEnds
    simp only [h.need, h.got, h.good, h.step]
    by_cases hc : gd = true ∧ g = n + 1
    · rw [if_pos ⟨hc.1, by omega⟩, if_pos hc, h.data hc.1]
    · rw [if_neg (by intro hx; exact hc ⟨hx.1, by omega⟩), if_neg hc]; rfl
  rw [e]
  exact done_told _ h.out h.frm (by have := h.taken; simp; omega) h.ended

theorem bad_all {lim : Nat} {s0 : FeedV} {n : Nat} {c : CmdV} : ∀ (r : Bs) {s : FeedV} {a g : Nat} {d : Bs}, InBlk s0 a n g c d false s → n ≤ g →
    match indexOf r 10 with
    | some i => i + 1 ≤ r.length ∧ ToldOne s0 (a + (i + 1)) badStep (s.bytes lim (r.take (i + 1)))
    | none => ∃ d', InBlk s0 (a + r.length) n (g + r.length) c d' false (s.bytes lim r)
  | [], s, a, g, d, h, _ => ⟨d, h⟩
  | b :: r, s, a, g, d, h, hg => by
    unfold indexOf
    rw [List.findIdx?_cons]
    by_cases hb : b = 10
    · subst hb
      have := blk_end (lim := lim) h hg
      simp only [Bool.false_eq_true, false_and, if_false] at this
      simp only [beq_self_eq_true, if_true]
      exact ⟨by simp, this⟩
    · have hb' : (b == 10) = false := by simp [hb]
      have h1 := blk_bad (lim := lim) h hg b hb (by simp)
      have ih := bad_all (lim := lim) r h1 (by omega)
      unfold indexOf at ih
      simp only [hb', Bool.false_eq_true, if_false]
      cases hi : List.findIdx? (fun x => x == 10) r with
      | none =>
        rw [hi] at ih
        obtain ⟨d', h2⟩ := ih
        refine ⟨d', ?_⟩
        rw [bytes_cons, List.length_cons, show a + (r.length + 1) = a + 1 + r.length by omega, show g + (r.length + 1) = g + 1 + r.length by omega]
        exact h2
      | some i =>
        rw [hi] at ih
        obtain ⟨h2, h3⟩ := ih
        refine ⟨by simp; omega, ?_⟩
        show ToldOne s0 (a + (i + 1 + 1)) badStep (s.bytes lim ((b :: r).take (i + 1 + 1)))
        rw [List.take_succ_cons, bytes_cons, show a + (i + 1 + 1) = a + 1 + (i + 1) by omega]
        exact h3

/-- a block that is kept -/
theorem block_all {lim : Nat} {s0 s : FeedV} {a n : Nat} {c : CmdV} (h : InBlk s0 a n 0 c [] true s) (body : Bs) :
    match skipV body n with
    | some (m, gd) => 0 < m ∧ m ≤ body.length ∧ ToldOne s0 (a + m) (if gd = true then { cmd := { c with data := body.take n } } else badStep) (s.bytes lim (body.take m))
    | none => ∃ g d, InBlk s0 (a + body.length) n g c d (keepsBlock body n) (s.bytes lim body) := by
  unfold skipV
  by_cases hle : body.length ≤ n
  · rw [if_pos hle]
    have := blk_datas (lim := lim) body h (by omega)
    have hk : keepsBlock body n = true := by
      unfold keepsBlock
      rw [List.getElem?_eq_none hle, List.getElem?_eq_none (by omega)]; rfl
    dsimp only
    rw [hk]
    exact ⟨_, _, this⟩
  · rw [if_neg hle]
    have htl : (body.take n).length = n := by rw [List.length_take]; omega
    have hd := blk_datas (lim := lim) (body.take n) h (by omega)
    rw [htl, List.nil_append, Nat.zero_add] at hd
    have hbn : ∀ j, body[n + j]? = (body.drop n)[j]? := fun j => (List.getElem?_drop).symm
    have hsp : ∀ m, body.take (n + m) = body.take n ++ (body.drop n).take m := fun m => List.take_add
    have hbody : body = body.take n ++ body.drop n := (List.take_append_drop n body).symm
    have hlen : body.length = n + (body.drop n).length := by rw [List.length_drop]; omega
    have hbn0 := hbn 0
    have hbn1 := hbn 1
    rw [Nat.add_zero] at hbn0
    cases ht : body.drop n with
    | nil => rw [List.drop_eq_nil_iff] at ht; omega
    | cons x r =>
      rw [ht] at hlen hbn0 hbn1
      by_cases hx10 : x = 10
      · subst hx10
        have h1 := blk_end (lim := lim) hd (Nat.le_refl _)
        rw [if_neg (by simp)] at h1
        rw [if_neg (by simp), if_neg (by simp)]
        have hi : indexOf (10 :: r) 10 = some 0 := by simp [indexOf, List.findIdx?_cons]
        rw [hi]
        refine ⟨by omega, by simp at hlen; omega, ?_⟩
        rw [hsp 1, ht, bytes_append]
        simp only [Bool.false_eq_true, if_false, Nat.add_zero]
        exact h1
      · by_cases hx13 : x = 13
        · subst hx13
          have h1 := blk_13 (lim := lim) hd
          cases r with
          | nil =>
            rw [if_neg (by simp), if_pos rfl]
            have hk : keepsBlock body n = true := by
              unfold keepsBlock
              rw [hbn0, hbn1]; rfl
            dsimp only
            rw [hk]
            refine ⟨n + 1, body.take n, ?_⟩
            have e : s.bytes lim body = (s.bytes lim (body.take n)).byte lim 13 := by
              conv => lhs; rw [hbody, ht, bytes_append]
              rfl
            rw [e, hlen]
            exact h1
          | cons y r =>
            by_cases hy : y = 10
            · subst hy
              have h2 := blk_end (lim := lim) h1 (by omega)
              rw [if_pos ⟨rfl, rfl⟩] at h2
              rw [if_pos (by simp)]
              refine ⟨by omega, by simp at hlen; omega, ?_⟩
              rw [hsp 2, ht, bytes_append]
              simp only [if_true]
              rw [show a + (n + 2) = a + n + 1 + 1 by omega]
              exact h2
            · have h2 := blk_bad (lim := lim) h1 (by omega) y hy (by intro hc; omega)
              have h3 := bad_all (lim := lim) r h2 (by omega)
              rw [if_neg (by simp [hy]), if_neg (by simp)]
              have hi : indexOf (13 :: y :: r) 10 = (indexOf r 10).map (fun i => i + 1 + 1) := by
                have e1 : ((13 : UInt8) == 10) = false := by decide
                have e2 : (y == 10) = false := by simp [hy]
                unfold indexOf
                rw [List.findIdx?_cons, List.findIdx?_cons]
                simp only [e1, e2, Bool.false_eq_true, if_false, Option.map_map]
                rfl
              rw [hi]
              cases hr : indexOf r 10 with
              | none =>
                rw [hr] at h3
                obtain ⟨d', h4⟩ := h3
                have hk : keepsBlock body n = false := by
                  unfold keepsBlock
                  rw [hbn0, hbn1]; simp [hy]
                dsimp only [Option.map_none]
                rw [hk]
                refine ⟨n + 1 + 1 + r.length, d', ?_⟩
                have e : s.bytes lim body = (((s.bytes lim (body.take n)).byte lim 13).byte lim y).bytes lim r := by
                  conv => lhs; rw [hbody, ht, bytes_append]
                  rfl
                rw [e, hlen, show a + (n + (13 :: y :: r).length) = a + n + 1 + 1 + r.length by simp; omega]
                exact h4
              | some i =>
                rw [hr] at h3
                obtain ⟨h4, h5⟩ := h3
                dsimp only [Option.map_some]
                refine ⟨by omega, by simp at hlen; omega, ?_⟩
                rw [show n + (i + 1 + 1) + 1 = n + (i + 1 + 1 + 1) by omega, hsp, ht, bytes_append]
                simp only [Bool.false_eq_true, if_false]
                rw [show a + (n + (i + 1 + 1 + 1)) = a + n + 1 + 1 + (i + 1) by omega]
                exact h5
        · have h1 := blk_bad (lim := lim) hd (Nat.le_refl _) x hx10 (by intro hc; exact hx13 hc.2.2)
          have h3 := bad_all (lim := lim) r h1 (by omega)
          rw [if_neg (by cases r <;> simp [hx13]), if_neg (by simp [hx13])]
          have hi : indexOf (x :: r) 10 = (indexOf r 10).map (fun i => i + 1) := by
            have e2 : (x == 10) = false := by simp [hx10]
            unfold indexOf
            rw [List.findIdx?_cons]
            simp only [e2, Bool.false_eq_true, if_false]
          rw [hi]
          cases hr : indexOf r 10 with
          | none =>
            rw [hr] at h3
            obtain ⟨d', h4⟩ := h3
            have hk : keepsBlock body n = false := by
              unfold keepsBlock
              rw [hbn0]; simp [hx13]
            dsimp only [Option.map_none]
            rw [hk]
            refine ⟨n + 1 + r.length, d', ?_⟩
            have e : s.bytes lim body = ((s.bytes lim (body.take n)).byte lim x).bytes lim r := by
              conv => lhs; rw [hbody, ht, bytes_append]
              rfl
            rw [e, hlen, show a + (n + (x :: r).length) = a + n + 1 + r.length by simp; omega]
            exact h4
          | some i =>
            rw [hr] at h3
            obtain ⟨h4, h5⟩ := h3
            dsimp only [Option.map_some]
            refine ⟨by omega, by simp at hlen; omega, ?_⟩
            rw [show n + (i + 1) + 1 = n + (i + 1 + 1) by omega, hsp, ht, bytes_append]
            simp only [Bool.false_eq_true, if_false]
            rw [show a + (n + (i + 1 + 1)) = a + n + 1 + (i + 1) by omega]
            exact h5

/-- how many bytes are held of what is no whole step -/
def keptV (lim : Nat) (l : Bs) : Nat :=
  match indexOf l 10 with
  | none => if keptLine l = true then l.length else 0
  | some e => match lineOf (chop (l.take e)) with
    | .bad _ => 0
    | .ok _ n => if (lim : Int) < n then 0 else if keepsBlock (l.drop (e + 1)) n.toNat = true then l.length else 0

/-- the Feeder tells the step at the head as soon as its last byte is there; else it holds -/
theorem one_goes (lim : Nat) {s : FeedV} (hf : Fresh s) (l : Bs) :
    match oneV lim l with
    | some (t, n) => 0 < n ∧ n ≤ l.length ∧ ToldOne s n t (s.bytes lim (l.take n))
    | none => (s.bytes lim l).out = s.out ∧ (s.bytes lim l).ended = false ∧ (s.bytes lim l).held = keptV lim l := by
  unfold oneV keptV
  cases hi : indexOf l 10 with
  | none =>
    have h1 := line_goes lim l s hf.mode (indexOf_none hi) hf.long (by rw [hf.held, hf.line]; rfl) (by rw [hf.line]; rfl)
    rw [hf.line, List.nil_append] at h1
    dsimp only
    rw [h1]
    split
    · exact ⟨rfl, hf.ended, rfl⟩
    · exact ⟨rfl, hf.ended, rfl⟩
  | some e =>
    obtain ⟨r, h1, h2, h3, h4⟩ := indexOf_some hi
    have hle := line_end lim hf (l.take e) h2
    rw [h4] at hle
    have hlt : e + 1 ≤ l.length := by
      have := congrArg List.length h1
      rw [List.length_append, h4, List.length_cons] at this
      omega
    have htake : l.take (e + 1) = l.take e ++ [10] := by
      rw [List.take_add_one]
      congr 1
      have : l[e]? = some 10 := by rw [h1, List.getElem?_append_right (by omega), h4]; simp
      rw [this]; rfl
    have hsp : ∀ m, l.take (e + 1 + m) = (l.take e ++ [10]) ++ (l.drop (e + 1)).take m := fun m => by rw [List.take_add, htake]
    have hall : l = (l.take e ++ [10]) ++ l.drop (e + 1) := by rw [← htake, List.take_append_drop]
    have hlen : l.length = e + 1 + (l.drop (e + 1)).length := by rw [List.length_drop]; omega
    have hby : s.bytes lim l = (s.bytes lim (l.take e ++ [10])).bytes lim (l.drop (e + 1)) := by
      conv => lhs; rw [hall, bytes_append]
    have hpass : ∀ {n : Nat} {t : StepV}, InPass s (e + 1) n 0 t (s.bytes lim (l.take e ++ [10])) →
        match (skipV (l.drop (e + 1)) n).map (fun x => (t, e + 1 + x.1)) with
        | some (t, n) => 0 < n ∧ n ≤ l.length ∧ ToldOne s n t (s.bytes lim (l.take n))
        | none => (s.bytes lim l).out = s.out ∧ (s.bytes lim l).ended = false ∧ (s.bytes lim l).held = 0 := by
      intro n t hp
      have h := pass_all (lim := lim) hp (l.drop (e + 1))
      cases hs : skipV (l.drop (e + 1)) n with
      | none =>
        rw [hs] at h
        dsimp only [Option.map_none] at h ⊢
        rw [hby]
        exact ⟨h.out, h.ended, h.held⟩
      | some x =>
        rw [hs] at h
        obtain ⟨g1, g2, g3⟩ := h
        dsimp only [Option.map_some]
        refine ⟨by omega, by omega, ?_⟩
        rw [hsp, bytes_append]
        exact g3
    dsimp only
    cases hr : lineOf (chop (l.take e)) with
    | bad w =>
      rw [hr] at hle
      dsimp only at hle ⊢
      by_cases hw : 0 ≤ w.pass ∧ w.pass ≤ (lim : Int)
      · rw [if_pos hw] at hle ⊢
        exact hpass hle
      · rw [if_neg hw] at hle ⊢
        dsimp only
        rw [htake]
        exact ⟨by omega, hlt, hle⟩
    | ok c n =>
      rw [hr] at hle
      dsimp only at hle ⊢
      by_cases hn : n < 0
      · rw [if_pos hn] at hle ⊢
        dsimp only
        rw [htake]
        exact ⟨by omega, hlt, hle⟩
      · rw [if_neg hn] at hle ⊢
        by_cases hlim : (lim : Int) < n
        · rw [if_pos hlim] at hle
          simp only [if_pos hlim]
          exact hpass hle
        · rw [if_neg hlim] at hle
          simp only [if_neg hlim]
          have h := block_all (lim := lim) hle (l.drop (e + 1))
          cases hs : skipV (l.drop (e + 1)) n.toNat with
          | none =>
            rw [hs] at h
            dsimp only [Option.map_none] at h ⊢
            obtain ⟨g, d, h⟩ := h
            rw [hby]
            refine ⟨h.out, h.ended, ?_⟩
            rw [h.held, ← hlen]
          | some x =>
            obtain ⟨m, gd⟩ := x
            rw [hs] at h
            obtain ⟨g1, g2, g3⟩ := h
            dsimp only [Option.map_some]
            refine ⟨by omega, by omega, ?_⟩
            rw [hsp, bytes_append]
            exact g3

theorem over_bytes (lim : Nat) (l : Bs) {s : FeedV} (h : s.mode = .over) : s.bytes lim l = { s with taken := s.taken + l.length } := by
  induction l generalizing s with
  | nil => rfl
  | cons b l ih =>
    have e : s.byte lim b = { s with taken := s.taken + 1 } := by unfold FeedV.byte FeedV.next; simp [h]
    rw [bytes_cons, e, ih (by exact h)]
    simp; omega

/-- a Feeder tells what All tells, however its bytes come -/
theorem all_goes (lim : Nat) : ∀ (r : Nat) (l : Bs) {s : FeedV}, Fresh s → l.length < r →
    (s.bytes lim l).out = s.out ++ (allV lim r s.taken l).1 ∧
    ((s.bytes lim l).ended = true → (s.bytes lim l).held = 0 ∧ (allV lim r s.taken l).2 = 0) ∧
    ((s.bytes lim l).ended = false → (allV lim r s.taken l).2 ≤ l.length ∧ (s.bytes lim l).held = keptV lim (l.drop (l.length - (allV lim r s.taken l).2)) ∧ oneV lim (l.drop (l.length - (allV lim r s.taken l).2)) = none)
  | 0, l, s, _, h => by omega
  | r + 1, l, s, hf, hr => by
    have h := one_goes lim hf l
    unfold allV
    cases ho : oneV lim l with
    | none =>
      rw [ho] at h
      obtain ⟨h1, h2, h3⟩ := h
      dsimp only
      refine ⟨by rw [h1, List.append_nil], (fun he => by rw [h2] at he; cases he), fun _ => ⟨Nat.le_refl _, ?_, ?_⟩⟩
      · rw [Nat.sub_self, List.drop_zero]; exact h3
      · rw [Nat.sub_self, List.drop_zero]; exact ho
    | some x =>
      obtain ⟨t, n⟩ := x
      rw [ho] at h
      obtain ⟨h1, h2, h3⟩ := h
      have hby : s.bytes lim l = (s.bytes lim (l.take n)).bytes lim (l.drop n) := by
        conv => lhs; rw [← List.take_append_drop n l, bytes_append]
      dsimp only
      by_cases hv : t.cmd.verb = 18
      · rw [if_pos hv]
        obtain ⟨o1, o2, o3⟩ := h3.over hv
        rw [hby, over_bytes lim _ o1]
        exact ⟨h3.out, fun _ => ⟨o3, rfl⟩, (fun he => by rw [show _ = true from o2] at he; cases he)⟩
      · rw [if_neg hv]
        have hf1 := h3.fresh hv
        have hld : (l.drop n).length = l.length - n := List.length_drop
        have ih := all_goes lim r (l.drop n) hf1 (by omega)
        rw [h3.taken, h3.out] at ih
        rw [hby]
        refine ⟨by rw [ih.1]; simp, ih.2.1, fun he => ?_⟩
        obtain ⟨g1, g2, g3⟩ := ih.2.2 he
        have hd : (l.drop n).drop ((l.drop n).length - (allV lim r (s.taken + n) (l.drop n)).2) = l.drop (l.length - (allV lim r (s.taken + n) (l.drop n)).2) := by
          rw [List.drop_drop]
          congr 1
          omega
        rw [hd] at g2 g3
        exact ⟨by omega, g2, g3⟩
end Go.Proofs.YthgfjafnclklpaaGreatDoor
end
section
namespace Go.Proofs.YthgfjafnclklpaaGreatDoor
open Go.Lib Sp

/-- a number taken into 0 to 40 -/
def within41 (i : Int) : Int := (i.tmod 41 + 41) % 41

/-- a piece's length -/
def cutLen (c : Int) (raw : Bs) : Nat := min (within41 c).toNat raw.length

/-- bytes, cut behind these lengths; the rest is a piece of its own -/
def piecesGo : Bs → List Int → List Bs
  | raw, [] => [raw]
  | raw, c :: cs => if raw = [] then [raw] else raw.take (cutLen c raw) :: piecesGo (raw.drop (cutLen c raw)) cs
def piecesOf (raw : Bs) (cuts : List Int) : List Bs := piecesGo raw (cuts.take 400)

/-- where the loop of Pieces stands: what is cut already, and the rest -/
structure Cutting (raw : Bs) (cuts : List Int) (i at' : Nat) (out : List Bs) : Prop where
  le : at' ≤ raw.length
  all : out ++ piecesGo (raw.drop at') ((cuts.take 400).drop i) = piecesOf raw cuts
  count : out.length = i

theorem Cutting.start (raw : Bs) (cuts : List Int) : Cutting raw cuts 0 0 [] := ⟨Nat.zero_le _, by simp [piecesOf], rfl⟩
theorem Cutting.on {raw : Bs} {cuts : List Int} {i a : Nat} {out : List Bs} (h : Cutting raw cuts i a out) {c : Int} (hc : cuts[i]? = some c) (hi : i < 400) (ha : a < raw.length) :
    Cutting raw cuts (i + 1) (a + cutLen c (raw.drop a)) (out ++ [(raw.drop a).take (cutLen c (raw.drop a))]) := by
  have h1 : cutLen c (raw.drop a) ≤ raw.length - a := by unfold cutLen; rw [List.length_drop]; omega
  refine ⟨by omega, ?_, by simp [h.count]⟩
  rw [← h.all]
  have hd : (cuts.take 400).drop i = c :: (cuts.take 400).drop (i + 1) := by
    have hc' : (cuts.take 400)[i]? = some c := by rw [List.getElem?_take, if_pos hi]; exact hc
    obtain ⟨hlt, he⟩ := List.getElem?_eq_some_iff.1 hc'
    rw [List.drop_eq_getElem_cons hlt, he]
  rw [hd]
  conv => rhs; rw [piecesGo]
  rw [if_neg (by intro e; have := congrArg List.length e; rw [List.length_drop] at this; simp at this; omega)]
  rw [List.append_assoc, List.drop_drop]
  simp
theorem Cutting.stop {raw : Bs} {cuts : List Int} {i a : Nat} {out : List Bs} (h : Cutting raw cuts i a out) (hs : cuts.length ≤ i ∨ 400 ≤ i ∨ raw.length ≤ a) : out ++ [raw.drop a] = piecesOf raw cuts := by
  rw [← h.all]
  rcases hs with hs | hs | hs
  · have : (cuts.take 400).drop i = [] := by rw [List.drop_eq_nil_iff, List.length_take]; omega
    rw [this]; rfl
  · have : (cuts.take 400).drop i = [] := by rw [List.drop_eq_nil_iff, List.length_take]; omega
    rw [this]; rfl
  · have : raw.drop a = [] := List.drop_eq_nil_iff.2 hs
    rw [this]
    cases (cuts.take 400).drop i with
    | nil => rfl
    | cons c cs => simp [piecesGo]
end Go.Proofs.YthgfjafnclklpaaGreatDoor
end
section
namespace Go.Proofs.YthgfjafnclklpaaGreatDoor
open Go.Lib Sp

theorem fits_bytes' {lim : Nat} : ∀ (l : Sp.Bs) {s : Sp.FeedV} {N : Nat}, s.Fits N → (s.bytes lim l).Fits (N + 3 * l.length)
  | [], _, _, h => h
  | b :: l, s, N, h => by
    have := fits_bytes' (lim := lim) l (fits_byte (lim := lim) h b)
    have e : N + 3 + 3 * l.length = N + 3 * (b :: l).length := by simp; omega
    rw [e] at this
    exact this
theorem fits_feed' {lim : Nat} {s : Sp.FeedV} {N : Nat} (h : s.Fits N) (l : Sp.Bs) : (s.feed lim l).Fits (N + 3 * l.length) := by
  have := fits_bytes' (lim := lim) l h
  exact ⟨this.taken, this.frm, this.held, this.line, this.data, this.got, Nat.zero_le _, this.need⟩

/-- a Feeder behind some pieces -/
def fedBy (lim : Nat) (ps : List Sp.Bs) : Sp.FeedV := ps.foldl (fun s p => s.feed lim p) {}

/-- what is told hangs on nothing that was told before -/
theorem byte_out (lim : Nat) (s : FeedV) (h : s.out = []) (o : List StepV) (b : UInt8) : ({ s with out := o } : FeedV).byte lim b = { s.byte lim b with out := o ++ (s.byte lim b).out } := by
  have hd : ∀ (s1 : FeedV) (t : StepV), s1.out = [] → ({ s1 with out := o } : FeedV).done t = { s1.done t with out := o ++ (s1.done t).out } := by
    intro s1 t h1
    unfold FeedV.done
    simp [h1]
  have h0 : ∀ s1 : FeedV, s1.out = [] → ({ s1 with out := o } : FeedV) = { s1 with out := o ++ s1.out } := by
    intro s1 h1; rw [h1, List.append_nil]
  unfold FeedV.byte FeedV.next
  cases hm : s.mode with
  | inLine =>
    dsimp only
    unfold FeedV.inLine
    dsimp only
    split
    · unfold FeedV.lineEnds
      dsimp only
      split
      · exact hd { s with taken := s.taken + 1, mode := Mode.inLine } _ h
      · split
        · split
          · unfold FeedV.passTo; simp [h]
          · exact hd { s with taken := s.taken + 1, mode := Mode.inLine, step := _, got := 0 } _ h
        · split
          · exact hd { s with taken := s.taken + 1, mode := Mode.inLine, step := _, got := 0 } _ h
          · split
            · unfold FeedV.passTo; simp [h]
            · simp [h]
    · split
      · simp [h]
      · split
        · simp [h]
        · simp [h]
  | passing =>
    dsimp only
    unfold FeedV.passing
    dsimp only
    split
    · exact hd { s with taken := s.taken + 1, mode := Mode.passing, got := s.got + 1 } _ h
    · simp [h]
  | inBlock =>
    dsimp only
    unfold FeedV.inBlock
    dsimp only
    split
    · simp [h]
    · split
      · unfold FeedV.blockEnds
        dsimp only
        split
        · exact hd { s with taken := s.taken + 1, mode := Mode.inBlock, got := s.got + 1 } _ h
        · exact hd { s with taken := s.taken + 1, mode := Mode.inBlock, got := s.got + 1 } _ h
      · split
        · simp [h]
        · simp [h]
  | over => simp [h]

theorem bytes_out (lim : Nat) : ∀ (l : Bs) (s : FeedV) (o : List StepV), s.out = [] → ({ s with out := o } : FeedV).bytes lim l = { s.bytes lim l with out := o ++ (s.bytes lim l).out }
  | [], s, o, h => by
    show ({ s with out := o } : FeedV) = { s with out := o ++ s.out }
    rw [h, List.append_nil]
  | b :: l, s, o, h => by
    have h1 := byte_out lim s h o b
    rw [bytes_cons, bytes_cons, h1]
    have e1 : ({ s.byte lim b with out := o ++ (s.byte lim b).out } : FeedV) = { ({ s.byte lim b with out := [] } : FeedV) with out := o ++ (s.byte lim b).out } := rfl
    have e2 : s.byte lim b = { ({ s.byte lim b with out := [] } : FeedV) with out := (s.byte lim b).out } := rfl
    have i1 := bytes_out lim l { s.byte lim b with out := [] } (o ++ (s.byte lim b).out) rfl
    have i2 := bytes_out lim l { s.byte lim b with out := [] } (s.byte lim b).out rfl
    rw [e1, i1]
    conv => rhs; rw [e2, i2]
    simp

theorem bytes_parts (lim : Nat) (s : FeedV) (l : Bs) : s.bytes lim l = { ({ s with out := [] } : FeedV).bytes lim l with out := s.out ++ (({ s with out := [] } : FeedV).bytes lim l).out } := by
  have := bytes_out lim l { s with out := [] } s.out rfl
  exact this

/-- what is told of some pieces in all -/
def toldBy (lim : Nat) (ps : List Bs) : List StepV := (({} : FeedV).bytes lim ps.flatten).out

/-- what is held behind so many bytes -/
def heldAt (lim : Nat) (raw : Bs) (j : Nat) : Int := ((({} : FeedV).bytes lim (raw.take j)).held : Int)

/-- the lists of what is told are short -/
theorem lineOf_short {l : Bs} : (∀ (c : CmdV) (n : Int), lineOf l = .ok c n → c.keys.length ≤ 2048 ∧ c.metas.length ≤ 2048) := fun _ _ h => ⟨(lineOf_ok h).2.2.2.2.2.2.1, (lineOf_ok h).2.2.2.2.2.2.2⟩
def ShortStep (t : StepV) : Prop := t.cmd.keys.length ≤ 2048 ∧ t.cmd.metas.length ≤ 2048
theorem oneV_short {lim : Nat} {l : Bs} {t : StepV} {n : Nat} (h : oneV lim l = some (t, n)) : ShortStep t := by
  unfold oneV at h
  split at h
  · cases h
  · split at h
    · split at h
      · rw [Option.map_eq_some_iff] at h
        obtain ⟨x, _, e⟩ := h
        injection e with e1 _
        subst e1; exact ⟨Nat.zero_le _, Nat.zero_le _⟩
      · injection h with h; injection h with e1 _
        subst e1; exact ⟨Nat.zero_le _, Nat.zero_le _⟩
    · rename_i c m hr
      have hs := lineOf_short c m hr
      split at h
      · injection h with h; injection h with e1 _
        subst e1; exact hs
      · rw [Option.map_eq_some_iff] at h
        obtain ⟨x, _, e⟩ := h
        injection e with e1 _
        subst e1
        split
        · exact hs
        · split
          · exact hs
          · exact ⟨Nat.zero_le _, Nat.zero_le _⟩
theorem allV_short (lim : Nat) : ∀ (r a : Nat) (l : Bs), ∀ t ∈ (allV lim r a l).1, ShortStep t
  | 0, _, _, t, h => by simp [allV] at h
  | r + 1, a, l, t, h => by
    unfold allV at h
    split at h
    · simp at h
    · rename_i t0 n ho
      have hs := oneV_short ho
      split at h
      · simp at h; subst h; exact hs
      · rcases List.mem_cons.1 h with rfl | h
        · exact hs
        · exact allV_short lim r _ _ t h
/-- what is told of some bytes, and the state behind them -/
def toldAll (lim : Nat) (raw : Bs) : List StepV := (({} : FeedV).bytes lim raw).out
def endAll (lim : Nat) (raw : Bs) : FeedV := { ({} : FeedV).bytes lim raw with out := [] }
end Go.Proofs.YthgfjafnclklpaaGreatDoor
end
