/- Words for statements over words.Bytes and words.All: rows of commands, of bytes and of places. -/
import Derived.Test.YticigfpieeoolaaGreatDoorYc
import Derived.Test.YticigfpieeoolaaGreatDoorYn
import Derived.Test.YticigfpieeoolaaGreatDoorOc
import Derived.Test.YticigfpieeoolaaGreatDoorZ2
import Derived.Test.YticigfpieeoolaaGreatDoorA9
import Derived.Lib.SlBytesRow
namespace Go.Proofs.YticigfpieeoolaaGreatDoor
open Go.Lib Sp Go.RowKit

theorem own_room3 {w : World} {base : Nat} {e : TypeId} {size n c : Nat} {A : Option Addr} {xs : List Value} (h : w.ownsRow base e size (.slice A n c) n xs) : n ≤ c ∧ c ≤ 9223372036854775807 ∧ (A = none → c = 0) := by
  rcases h.2 with ⟨h1, h2⟩ | ⟨g', cap, cur, h1, _, _, h2, h4, _⟩
  · injection h1 with h0 h3 h4
    exact ⟨by omega, by omega, fun _ => h4⟩
  · injection h1 with h0 _ h3
    subst h3
    exact ⟨h2, by unfold maxLen at h4; exact h4, fun h => by rw [h] at h0; cases h0⟩
/-- what All tells, in the words of the comparisons -/
theorem AllPost.told2 {W : World} {ts : List StepV} {lp n : Nat} (hn : ts.length = n) {e : Ending} {w' : World} (h : AllPost W (ts, lp) e w') :
    ∃ A c tcs, e = .returned (.tuple #[.slice A n c, .int .i64 lp]) ∧ n ≤ c ∧ RowAt w' A tcs ∧ StepsAt w' ts tcs ∧ Below W.heap.size W w' := by
  subst hn
  obtain ⟨A, c, tcs, bl, rfl, ho, hs, _, _, hb⟩ := h
  exact ⟨A, c, tcs, rfl, (own_room3 ho).1, RowAt.of_own ho, hs.at, hb⟩
theorem range_below {w w' : World} {b o : Nat} {cs : List Value} (h : w.rangeAt b o cs) (hb : Below w.heap.size w w') : w'.rangeAt b o cs := fun j v hv => by
  have := h j v hv
  rw [hb.cell (p := ⟨b, o + j, none⟩) (World.block_lt_of_cell? w _ this)]
  exact this
theorem cell_below2 {w w' : World} {p : Addr} {u : Value} (h : w.cell? p = some u) (hb : Below w.heap.size w w') : w'.cell? p = some u := by
  rw [hb.cell (World.block_lt_of_cell? w _ h)]
  exact h
theorem loadVar_int2 (a : Addr) : type_of% (loadVar.eq_1 3 a) := loadVar.eq_1 3 a
theorem loadVar_bytes2 (a : Addr) : type_of% (loadVar.eq_1 38 a) := loadVar.eq_1 38 a

/-- what Bytes tells of a command that came in -/
def CmdX.out (x : CmdX) : Option Bs := if 1 ≤ x.v ∧ x.v ≤ 24 then bytesV' x.c else none
theorem CmdX.out_some {w : World} {x : CmdX} (h : CmdGood w x) {out : Bs} (ho : x.out = some out) : out = outV x.c ∧ againV x.c = true ∧ 1 ≤ x.c.verb ∧ x.c.verb ≤ 24 ∧ x.c.large = false ∧ x.v = (x.c.verb : Int) := by
  unfold CmdX.out at ho
  split at ho
  · rename_i hv
    unfold bytesV' at ho
    split at ho
    · rename_i hb
      injection ho with ho
      exact ⟨ho.symm, hb.2.2.2, hb.1, hb.2.1, hb.2.2.1, by rw [h.verb]; omega⟩
    · cases ho
  · cases ho

/-- Bytes of a command that came in -/
def BytesEndX (w : World) (x : CmdX) (e : Ending) (w' : World) : Prop := match x.out with
  | some out => BytesOwn w out e w'
  | none => e = .returned (.tuple #[nilRow, .int .i64 7]) ∧ Below w.heap.size w w'

theorem bytes_cmd {w : World} (hg : Glob w) (ht : TabAt w) {x : CmdX} (h : CmdGood w x) : Calls Tryz.prog 31 #[.agg x.cells.toArray] w (BytesEndX w x) := by
  by_cases hv : 1 ≤ x.v ∧ x.v ≤ 24
  · have e : x.v = (x.c.verb : Int) := by rw [h.verb]; omega
    have h1 : 1 ≤ x.c.verb := by omega
    have h2 : x.c.verb ≤ 24 := by omega
    have ec : Value.agg x.cells.toArray = cmdV x.c (.slice x.K x.c.keys.length x.kc) (.slice x.D x.c.data.length x.dc) (.slice x.M x.c.metas.length x.mc) := by
      unfold CmdX.cells
      rw [e]
    rw [ec]
    cases hl : x.c.large with
    | true =>
      refine (bytes_large h1 h2 hl).mono fun e w' hp => ?_
      unfold BytesEndX CmdX.out
      rw [if_pos hv]
      unfold bytesV'
      rw [if_neg (by rw [hl]; exact fun h => absurd h.2.2.1 (by decide))]
      exact hp
    | false =>
      have hs := h.small h1 h2
      refine (bytes_some hg ht h.mem (h.fit h2) h1 hl (by omega) (by omega)).mono fun e w' hp => ?_
      unfold BytesEndX CmdX.out
      rw [if_pos hv]
      exact hp
  · refine (bytes_no (c := x.c) (by omega)).mono fun e w' hp => ?_
    unfold BytesEndX CmdX.out
    rw [if_neg hv]
    exact hp

/-- bytes, commands and places, gathered in rows of the call's own -/
structure BackRows (w : World) (l : Bs) (vs es : List Value) (n m : Nat) (av rv ev : Value) (wr : World) : Prop where
  all : wr.ownsRow w.heap.size 5 1 av l.length (bytesV l)
  row : wr.ownsRow w.heap.size 41 11 rv n vs
  ends : wr.ownsRow w.heap.size 3 1 ev m es
  below : Below w.heap.size w wr
section
variable {w wr w2 : World} {l k : Bs} {vs es vs' es' : List Value} {n m n' m' : Nat} {av rv ev v' : Value}
theorem BackRows.later (h : BackRows w l vs es n m av rv ev wr) (hb : Below wr.heap.size wr w2) : BackRows w l vs es n m av rv ev w2 :=
  ⟨own_later h.all hb, own_later h.row hb, own_later h.ends hb, h.below.trans (hb.mono h.below.size)⟩
theorem BackRows.onAll (h : BackRows w l vs es n m av rv ev wr) (hg : wr.grownBy w2 av.ownBlock) (ho : w2.ownsRow w.heap.size 5 1 v' (l.length + k.length) (bytesV l ++ bytesV k)) : BackRows w (l ++ k) vs es n m v' rv ev w2 :=
  ⟨by rw [List.length_append, show bytesV (l ++ k) = bytesV l ++ bytesV k by simp [bytesV]]; exact ho, h.row.kept hg (own_own_apart h.row h.all (by decide)), h.ends.kept hg (own_own_apart h.ends h.all (by decide)),
    h.below.grown hg h.below.size (fun k hk => own_ge h.all k (mem_rowBlock.2 hk))⟩
theorem BackRows.onRow (h : BackRows w l vs es n m av rv ev wr) (hg : wr.grownBy w2 rv.ownBlock) (ho : w2.ownsRow w.heap.size 41 11 v' n' vs') : BackRows w l vs' es n' m av v' ev w2 :=
  ⟨h.all.kept hg (own_own_apart h.all h.row (by decide)), ho, h.ends.kept hg (own_own_apart h.ends h.row (by decide)), h.below.grown hg h.below.size (fun k hk => own_ge h.row k (mem_rowBlock.2 hk))⟩
theorem BackRows.onEnds (h : BackRows w l vs es n m av rv ev wr) (hg : wr.grownBy w2 ev.ownBlock) (ho : w2.ownsRow w.heap.size 3 1 v' m' es') : BackRows w l vs es' n m' av rv v' w2 :=
  ⟨h.all.kept hg (own_own_apart h.all h.ends (by decide)), h.row.kept hg (own_own_apart h.row h.ends (by decide)), ho, h.below.grown hg h.below.size (fun k hk => own_ge h.ends k (mem_rowBlock.2 hk))⟩
end

/-- commands that were kept: their bytes, their cells, their ends -/
def backAll (cs : List CmdX) : Bs := (cs.map (·.c)).flatMap outV
def backEnds (cs : List CmdX) : List Value := (List.range cs.length).map fun i => Value.int .i64 (backEnd (cs.map (·.c)) (i + 1))
theorem backAll_snoc (cs : List CmdX) (x : CmdX) : backAll (cs ++ [x]) = backAll cs ++ outV x.c := by simp [backAll]
theorem backEnd_all (cs : List CmdX) : backEnd (cs.map (·.c)) cs.length = (backAll cs).length := by
  unfold backEnd backAll
  rw [List.take_of_length_le (by simp)]
theorem backEnd_old (cs : List CmdX) (x : CmdX) {i : Nat} (h : i ≤ cs.length) : backEnd ((cs ++ [x]).map (·.c)) i = backEnd (cs.map (·.c)) i := by
  unfold backEnd
  rw [List.map_append, List.take_append_of_le_length (by simpa using h)]
theorem backEnds_snoc (cs : List CmdX) (x : CmdX) : backEnds (cs ++ [x]) = backEnds cs ++ [Value.int .i64 (backAll cs ++ outV x.c).length] := by
  unfold backEnds
  rw [List.length_append, List.length_singleton, List.range_succ, List.map_append]
  congr 1
  · refine List.map_congr_left fun i hi => ?_
    rw [backEnd_old cs x (by have := List.mem_range.1 hi; omega)]
  · have := backEnd_all (cs ++ [x])
    rw [List.length_append, List.length_singleton, backAll_snoc] at this
    simp only [List.map_cons, List.map_nil]
    rw [this]
theorem backEnds_length (cs : List CmdX) : (backEnds cs).length = cs.length := by simp [backEnds]
theorem backEnds_at {cs : List CmdX} {i : Nat} (h : i < cs.length) : (backEnds cs)[i]? = some (.int .i64 (backEnd (cs.map (·.c)) (i + 1))) := by
  unfold backEnds
  rw [List.getElem?_map, List.getElem?_range h]
  rfl
theorem line_small {x : CmdX} {w : World} (h : CmdGood w x) (ha : againV x.c = true) (h1 : 1 ≤ x.c.verb) (h2 : x.c.verb ≤ 24) (hl : x.c.large = false) : (outV x.c).length ≤ 2052 + x.c.data.length := by
  have := ((again_iff h1 h2 hl h.range).1 ha).2.2
  rw [outV_line, List.length_append, List.length_append, List.length_cons]
  have hb : (if (rowBy x.c.verb).block = true then x.c.data ++ [13, 10] else []).length ≤ x.c.data.length + 2 := by split <;> simp
  simp only [List.length_cons, List.length_nil]
  omega

/-- where the first loop stands -/
structure BackMid (w : World) (cs : List CmdX) (M : Nat) (av rv ev : Value) (wr : World) : Prop where
  rows : BackRows w (backAll cs) (cs.flatMap CmdX.cells) (backEnds cs) cs.length cs.length av rv ev wr
  good : ∀ x ∈ cs, CmdGood w x ∧ againV x.c = true ∧ 1 ≤ x.c.verb ∧ x.c.verb ≤ 24 ∧ x.c.large = false ∧ x.c.data.length ≤ M ∧ x.v = (x.c.verb : Int)
  M : M ≤ 65536
  small : (backAll cs).length ≤ cs.length * 70000
theorem BackMid.start (w : World) : BackMid w [] 0 nilRow nilRow nilRow w :=
  ⟨⟨World.ownsRow_nil _ _ _ 1, World.ownsRow_nil _ _ _ 11, World.ownsRow_nil _ _ _ 1, Below.refl _ _⟩, fun x hx => by (cases hx), by omega, Nat.le_refl _⟩
theorem BackMid.later {w wr w2 : World} {cs : List CmdX} {M : Nat} {av rv ev : Value} (h : BackMid w cs M av rv ev wr) (hb : Below wr.heap.size wr w2) : BackMid w cs M av rv ev w2 := ⟨h.rows.later hb, h.good, h.M, h.small⟩
theorem BackMid.on {w wr w2 : World} {cs : List CmdX} {M M' : Nat} {av rv ev av' rv' ev' : Value} (h : BackMid w cs M av rv ev wr) {x : CmdX} (hx : CmdGood w x) (ha : againV x.c = true) (h1 : 1 ≤ x.c.verb) (h2 : x.c.verb ≤ 24) (hl : x.c.large = false) (hv : x.v = (x.c.verb : Int)) (hd : x.c.data.length ≤ M') (hM : M ≤ M') (hM' : M' ≤ 65536)
    (hr : BackRows w (backAll cs ++ outV x.c) (cs.flatMap CmdX.cells ++ x.cells) (backEnds cs ++ [Value.int .i64 (backAll cs ++ outV x.c).length]) (cs.length + 1) (cs.length + 1) av' rv' ev' w2) : BackMid w (cs ++ [x]) M' av' rv' ev' w2 := by
  refine ⟨?_, fun y hy => ?_, hM', ?_⟩
  · rw [backAll_snoc, backEnds_snoc, List.flatMap_append, show (cs ++ [x]).length = cs.length + 1 by simp, show [x].flatMap CmdX.cells = x.cells by simp]
    exact hr
  · rcases List.mem_append.1 hy with hy | hy
    · obtain ⟨g1, g2, g3, g4, g5, g6, g7⟩ := h.good y hy
      exact ⟨g1, g2, g3, g4, g5, by omega, g7⟩
    · rw [List.mem_singleton.1 hy]
      exact ⟨hx, ha, h1, h2, hl, hd, hv⟩
  · have := line_small hx ha h1 h2 hl
    have h0 := h.small
    rw [backAll_snoc, List.length_append, List.length_append, List.length_singleton]
    omega
end Go.Proofs.YticigfpieeoolaaGreatDoor
