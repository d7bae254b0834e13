/- Plain laws for a Feeder fed by pieces: what it tells, what it holds. No program in sight. -/
import Derived.Test.YtbiakncngmgbkaaGreatDoorAl
import Derived.Test.YtbiakncngmgbkaaGreatDoorP0
namespace Go.Proofs.YtbiakncngmgbkaaGreatDoor
open Go.Lib Sp

theorem fits_bytes' {lim : Nat} : ∀ (l : Sp.Bs) {s : Sp.FeedV} {N : Nat}, s.Fits N → (s.bytes lim l).Fits (N + 3 * l.length)
  | [], _, _, h => h
  | b :: l, s, N, h => by
    have := fits_bytes' (lim := lim) l (fits_byte (lim := lim) h b)
    have e : N + 3 + 3 * l.length = N + 3 * (b :: l).length := by simp; omega
    rw [e] at this
    exact this
theorem fits_new' : ({} : Sp.FeedV).Fits 0 := ⟨by decide, by decide, by decide, by decide, by decide, by decide, by decide, by decide⟩
theorem fits_feed' {lim : Nat} {s : Sp.FeedV} {N : Nat} (h : s.Fits N) (l : Sp.Bs) : (s.feed lim l).Fits (N + 3 * l.length) := by
  have := fits_bytes' (lim := lim) l h
  exact ⟨this.taken, this.frm, this.held, this.line, this.data, this.got, Nat.zero_le _, this.need⟩

/-- a Feeder behind some pieces -/
def fedBy (lim : Nat) (ps : List Sp.Bs) : Sp.FeedV := ps.foldl (fun s p => s.feed lim p) {}

theorem fedBy_succ (lim : Nat) {ps : List Sp.Bs} {k : Nat} {p : Sp.Bs} (h : ps[k]? = some p) : fedBy lim (ps.take (k + 1)) = (fedBy lim (ps.take k)).feed lim p := by
  unfold fedBy
  rw [List.take_add_one, h, List.foldl_append]
  rfl
theorem fedBy_snoc (lim : Nat) (ps : List Sp.Bs) (p : Sp.Bs) : fedBy lim (ps ++ [p]) = (fedBy lim ps).feed lim p := by
  unfold fedBy
  rw [List.foldl_append]
  rfl
theorem feed_nil (lim : Nat) (s : Sp.FeedV) (p : Sp.Bs) : (s.feed lim p).feed lim [] = s.feed lim p := rfl

theorem fedBy_ok (lim : Nat) : ∀ (n : Nat) (ps : List Sp.Bs), ps.length = n → Keeps lim (fedBy lim ps) ∧ (fedBy lim ps).Fits (3 * ps.flatten.length) ∧ (fedBy lim ps).out = [] ∧ (fedBy lim ps).taken = ps.flatten.length
  | 0, ps, h => by
    obtain rfl : ps = [] := List.eq_nil_of_length_eq_zero h
    exact ⟨keeps_new lim, fits_new', rfl, rfl⟩
  | n + 1, ps, h => by
    obtain ⟨l, p, rfl⟩ : ∃ l p, ps = l ++ [p] := ⟨ps.dropLast, ps.getLast (by intro e; subst e; cases h), (List.dropLast_concat_getLast _).symm⟩
    have ih := fedBy_ok lim n l (by simpa using h)
    rw [fedBy_snoc]
    refine ⟨keeps_feed ih.1 p, ?_, rfl, ?_⟩
    · have := fits_feed' (lim := lim) ih.2.1 p
      have e : 3 * l.flatten.length + 3 * p.length = 3 * (l ++ [p]).flatten.length := by simp; omega
      rw [← e]; exact this
    · rw [feed_taken, ih.2.2.2]; simp

theorem feed_none {lim : Nat} {s : Sp.FeedV} (h : s.out = []) : s.feed lim [] = s := by
  cases s
  simp only at h
  subst h
  rfl
theorem told_none {lim : Nat} {s : Sp.FeedV} (h : s.out = []) : s.told lim [] = [] := h

/-- what is told hangs on nothing that was told before -/
theorem byte_out (lim : Nat) (s : FeedV) (h : s.out = []) (o : List StepV) (b : UInt8) : ({ s with out := o } : FeedV).byte lim b = { s.byte lim b with out := o ++ (s.byte lim b).out } := by
  have hd : ∀ (s1 : FeedV) (t : StepV), s1.out = [] → ({ s1 with out := o } : FeedV).done t = { s1.done t with out := o ++ (s1.done t).out } := by
    intro s1 t h1
    unfold FeedV.done
    simp [h1]
  have h0 : ∀ s1 : FeedV, s1.out = [] → ({ s1 with out := o } : FeedV) = { s1 with out := o ++ s1.out } := by
    intro s1 h1; rw [h1, List.append_nil]
  unfold FeedV.byte FeedV.next
  cases hm : s.mode with
  | inLine =>
    dsimp only
    unfold FeedV.inLine
    dsimp only
    split
    · unfold FeedV.lineEnds
      dsimp only
      split
      · exact hd { s with taken := s.taken + 1, mode := Mode.inLine } _ h
      · split
        · split
          · unfold FeedV.passTo; simp [h]
          · exact hd { s with taken := s.taken + 1, mode := Mode.inLine, step := _, got := 0 } _ h
        · split
          · exact hd { s with taken := s.taken + 1, mode := Mode.inLine, step := _, got := 0 } _ h
          · split
            · unfold FeedV.passTo; simp [h]
            · simp [h]
    · split
      · simp [h]
      · split
        · simp [h]
        · simp [h]
  | passing =>
    dsimp only
    unfold FeedV.passing
    dsimp only
    split
    · exact hd { s with taken := s.taken + 1, mode := Mode.passing, got := s.got + 1 } _ h
    · simp [h]
  | inBlock =>
    dsimp only
    unfold FeedV.inBlock
    dsimp only
    split
    · simp [h]
    · split
      · unfold FeedV.blockEnds
        dsimp only
        split
        · exact hd { s with taken := s.taken + 1, mode := Mode.inBlock, got := s.got + 1 } _ h
        · exact hd { s with taken := s.taken + 1, mode := Mode.inBlock, got := s.got + 1 } _ h
      · split
        · simp [h]
        · simp [h]
  | over => simp [h]

theorem bytes_out (lim : Nat) : ∀ (l : Bs) (s : FeedV) (o : List StepV), s.out = [] → ({ s with out := o } : FeedV).bytes lim l = { s.bytes lim l with out := o ++ (s.bytes lim l).out }
  | [], s, o, h => by
    show ({ s with out := o } : FeedV) = { s with out := o ++ s.out }
    rw [h, List.append_nil]
  | b :: l, s, o, h => by
    have h1 := byte_out lim s h o b
    rw [bytes_cons, bytes_cons, h1]
    have e1 : ({ s.byte lim b with out := o ++ (s.byte lim b).out } : FeedV) = { ({ s.byte lim b with out := [] } : FeedV) with out := o ++ (s.byte lim b).out } := rfl
    have e2 : s.byte lim b = { ({ s.byte lim b with out := [] } : FeedV) with out := (s.byte lim b).out } := rfl
    have i1 := bytes_out lim l { s.byte lim b with out := [] } (o ++ (s.byte lim b).out) rfl
    have i2 := bytes_out lim l { s.byte lim b with out := [] } (s.byte lim b).out rfl
    rw [e1, i1]
    conv => rhs; rw [e2, i2]
    simp

theorem bytes_parts (lim : Nat) (s : FeedV) (l : Bs) : s.bytes lim l = { ({ s with out := [] } : FeedV).bytes lim l with out := s.out ++ (({ s with out := [] } : FeedV).bytes lim l).out } := by
  have := bytes_out lim l { s with out := [] } s.out rfl
  exact this

/-- what is told of some pieces in all -/
def toldBy (lim : Nat) (ps : List Bs) : List StepV := (({} : FeedV).bytes lim ps.flatten).out

theorem fedBy_eq (lim : Nat) : ∀ (n : Nat) (ps : List Bs), ps.length = n → fedBy lim ps = { ({} : FeedV).bytes lim ps.flatten with out := [] }
  | 0, ps, h => by
    obtain rfl : ps = [] := List.eq_nil_of_length_eq_zero h
    rfl
  | n + 1, ps, h => by
    obtain ⟨l, p, rfl⟩ : ∃ l p, ps = l ++ [p] := ⟨ps.dropLast, ps.getLast (by intro e; subst e; cases h), (List.dropLast_concat_getLast _).symm⟩
    have ih := fedBy_eq lim n l (by simpa using h)
    rw [fedBy_snoc, ih, List.flatten_append, bytes_append]
    unfold FeedV.feed
    rw [bytes_parts lim (({} : FeedV).bytes lim l.flatten)]
    simp

theorem toldBy_snoc (lim : Nat) (ps : List Bs) (p : Bs) : toldBy lim (ps ++ [p]) = toldBy lim ps ++ (fedBy lim ps).told lim p := by
  unfold toldBy FeedV.told
  rw [fedBy_eq lim _ ps rfl, List.flatten_append, bytes_append, bytes_parts lim (({} : FeedV).bytes lim ps.flatten)]
  simp
theorem toldBy_succ (lim : Nat) {ps : List Bs} {k : Nat} {p : Bs} (h : ps[k]? = some p) : toldBy lim (ps.take (k + 1)) = toldBy lim (ps.take k) ++ (fedBy lim (ps.take k)).told lim p := by
  rw [List.take_add_one, h]
  exact toldBy_snoc lim _ p

/-- what is held behind so many bytes -/
def heldAt (lim : Nat) (raw : Bs) (j : Nat) : Int := ((({} : FeedV).bytes lim (raw.take j)).held : Int)

theorem fedBy_held (lim : Nat) {ps : List Bs} {raw : Bs} (h : ps.flatten = raw) (k : Nat) : ((fedBy lim (ps.take k)).held : Int) = heldAt lim raw (ps.take k).flatten.length := by
  unfold heldAt
  rw [fedBy_eq lim _ (ps.take k) rfl]
  have : raw.take (ps.take k).flatten.length = (ps.take k).flatten := by
    have e : raw = (ps.take k).flatten ++ (ps.drop k).flatten := by rw [← h, ← List.flatten_append, List.take_append_drop]
    rw [e, List.take_append_of_le_length (Nat.le_refl _), List.take_length]
  rw [this]

theorem told_count (lim : Nat) (l : Bs) (s : FeedV) : (s.bytes lim l).out.length ≤ s.out.length + l.length := by
  induction l generalizing s with
  | nil => exact Nat.le_refl _
  | cons b l ih =>
    have h1 := tells_next lim { s with taken := s.taken + 1 } b
    have h2 := ih (s.byte lim b)
    rw [bytes_cons, List.length_cons]
    have h3 : (s.byte lim b).out.length ≤ s.out.length + 1 := by
      rcases h1.2 with e | ⟨t, e, _⟩
      · show (FeedV.next lim _ b).out.length ≤ _
        rw [e]; simp
      · show (FeedV.next lim _ b).out.length ≤ _
        rw [e]; simp
    omega
theorem toldBy_count (lim : Nat) (ps : List Bs) : (toldBy lim ps).length ≤ ps.flatten.length := by
  have := told_count lim ps.flatten {}
  unfold toldBy
  simpa using this

/-- the lists of what is told are short -/
theorem lineOf_short {l : Bs} : (∀ (c : CmdV) (n : Int), lineOf l = .ok c n → c.keys.length ≤ 2048 ∧ c.metas.length ≤ 2048) := fun _ _ h => ⟨(lineOf_ok h).2.2.2.2.2.2.1, (lineOf_ok h).2.2.2.2.2.2.2⟩
def ShortStep (t : StepV) : Prop := t.cmd.keys.length ≤ 2048 ∧ t.cmd.metas.length ≤ 2048
theorem oneV_short {lim : Nat} {l : Bs} {t : StepV} {n : Nat} (h : oneV lim l = some (t, n)) : ShortStep t := by
  unfold oneV at h
  split at h
  · cases h
  · split at h
    · split at h
      · rw [Option.map_eq_some_iff] at h
        obtain ⟨x, _, e⟩ := h
        injection e with e1 _
        subst e1; exact ⟨Nat.zero_le _, Nat.zero_le _⟩
      · injection h with h; injection h with e1 _
        subst e1; exact ⟨Nat.zero_le _, Nat.zero_le _⟩
    · rename_i c m hr
      have hs := lineOf_short c m hr
      split at h
      · injection h with h; injection h with e1 _
        subst e1; exact hs
      · rw [Option.map_eq_some_iff] at h
        obtain ⟨x, _, e⟩ := h
        injection e with e1 _
        subst e1
        split
        · exact hs
        · split
          · exact hs
          · exact ⟨Nat.zero_le _, Nat.zero_le _⟩
theorem allV_short (lim : Nat) : ∀ (r a : Nat) (l : Bs), ∀ t ∈ (allV lim r a l).1, ShortStep t
  | 0, _, _, t, h => by simp [allV] at h
  | r + 1, a, l, t, h => by
    unfold allV at h
    split at h
    · simp at h
    · rename_i t0 n ho
      have hs := oneV_short ho
      split at h
      · simp at h; subst h; exact hs
      · rcases List.mem_cons.1 h with rfl | h
        · exact hs
        · exact allV_short lim r _ _ t h
theorem toldBy_all (lim : Nat) (ps : List Bs) : toldBy lim ps = (allV lim (ps.flatten.length + 1) 0 ps.flatten).1 := by
  have := (all_goes lim (ps.flatten.length + 1) ps.flatten Fresh.new (by omega)).1
  unfold toldBy
  rw [this]; rfl
theorem toldBy_short (lim : Nat) (ps : List Bs) : ∀ t ∈ toldBy lim ps, ShortStep t := by rw [toldBy_all]; exact allV_short _ _ _ _

/-- what is told of some bytes, and the state behind them -/
def toldAll (lim : Nat) (raw : Bs) : List StepV := (({} : FeedV).bytes lim raw).out
def endAll (lim : Nat) (raw : Bs) : FeedV := { ({} : FeedV).bytes lim raw with out := [] }
theorem toldBy_flat (lim : Nat) {ps : List Bs} {raw : Bs} (h : ps.flatten = raw) : toldBy lim ps = toldAll lim raw := by unfold toldBy toldAll; rw [h]
theorem fedBy_flat (lim : Nat) {ps : List Bs} {raw : Bs} (h : ps.flatten = raw) : fedBy lim ps = endAll lim raw := by rw [fedBy_eq lim _ ps rfl, h]; rfl
theorem toldAll_short (lim : Nat) (raw : Bs) : ∀ t ∈ toldAll lim raw, ShortStep t := by
  have := toldBy_short lim [raw]
  rwa [toldBy_flat lim (raw := raw) (by simp)] at this
theorem toldAll_count (lim : Nat) (raw : Bs) : (toldAll lim raw).length ≤ raw.length := by
  have := toldBy_count lim [raw]
  rw [toldBy_flat lim (raw := raw) (by simp)] at this
  simpa using this
theorem toldAll_all (lim : Nat) (raw : Bs) : toldAll lim raw = (allV lim (raw.length + 1) 0 raw).1 := by
  have := toldBy_all lim [raw]
  rw [toldBy_flat lim (raw := raw) (by simp)] at this
  simpa using this
end Go.Proofs.YtbiakncngmgbkaaGreatDoor
