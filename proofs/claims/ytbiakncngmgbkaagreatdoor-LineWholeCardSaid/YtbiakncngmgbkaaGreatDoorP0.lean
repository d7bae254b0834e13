/- Plain laws for the statements' helpers: Within, Pieces. No program in sight. -/
import Derived.Test.YtbiakncngmgbkaaGreatDoorFh
namespace Go.Proofs.YtbiakncngmgbkaaGreatDoor
open Go.Lib Sp

/-- a number taken into 0 to 40 -/
def within41 (i : Int) : Int := (i.tmod 41 + 41) % 41

theorem within_bounds (i : Int) : 0 ≤ within41 i ∧ within41 i < 41 := by
  unfold within41
  omega

/-- a piece's length -/
def cutLen (c : Int) (raw : Bs) : Nat := min (within41 c).toNat raw.length

/-- bytes, cut behind these lengths; the rest is a piece of its own -/
def piecesGo : Bs → List Int → List Bs
  | raw, [] => [raw]
  | raw, c :: cs => if raw = [] then [raw] else raw.take (cutLen c raw) :: piecesGo (raw.drop (cutLen c raw)) cs
def piecesOf (raw : Bs) (cuts : List Int) : List Bs := piecesGo raw (cuts.take 400)

theorem piecesGo_flat : ∀ (cs : List Int) (raw : Bs), (piecesGo raw cs).flatten = raw
  | [], raw => by simp [piecesGo]
  | c :: cs, raw => by
    unfold piecesGo
    split
    · rename_i h; simp [h]
    · rw [List.flatten_cons, piecesGo_flat cs, List.take_append_drop]

theorem piecesOf_flat (raw : Bs) (cuts : List Int) : (piecesOf raw cuts).flatten = raw := piecesGo_flat _ _

theorem piecesGo_count : ∀ (cs : List Int) (raw : Bs), (piecesGo raw cs).length ≤ cs.length + 1 ∧ 1 ≤ (piecesGo raw cs).length
  | [], raw => by simp [piecesGo]
  | c :: cs, raw => by
    unfold piecesGo
    split
    · simp
    · have := piecesGo_count cs (raw.drop (cutLen c raw))
      simp; omega

theorem piecesOf_count (raw : Bs) (cuts : List Int) : (piecesOf raw cuts).length ≤ 401 ∧ 1 ≤ (piecesOf raw cuts).length := by
  have := piecesGo_count (cuts.take 400) raw
  have h2 : (cuts.take 400).length ≤ 400 := by rw [List.length_take]; omega
  unfold piecesOf
  omega

theorem flat_take_le (ps : List Bs) (i : Nat) : (ps.take i).flatten.length ≤ ps.flatten.length := by
  conv => rhs; rw [← List.take_append_drop i ps]
  rw [List.flatten_append, List.length_append]; omega

theorem flat_take_succ {ps : List Bs} {i : Nat} {p : Bs} (h : ps[i]? = some p) : (ps.take (i + 1)).flatten = (ps.take i).flatten ++ p := by
  rw [List.take_add_one, h]; simp

/-- where the loop of Pieces stands: what is cut already, and the rest -/
structure Cutting (raw : Bs) (cuts : List Int) (i at' : Nat) (out : List Bs) : Prop where
  le : at' ≤ raw.length
  all : out ++ piecesGo (raw.drop at') ((cuts.take 400).drop i) = piecesOf raw cuts
  count : out.length = i

theorem Cutting.start (raw : Bs) (cuts : List Int) : Cutting raw cuts 0 0 [] := ⟨Nat.zero_le _, by simp [piecesOf], rfl⟩
theorem Cutting.on {raw : Bs} {cuts : List Int} {i a : Nat} {out : List Bs} (h : Cutting raw cuts i a out) {c : Int} (hc : cuts[i]? = some c) (hi : i < 400) (ha : a < raw.length) :
    Cutting raw cuts (i + 1) (a + cutLen c (raw.drop a)) (out ++ [(raw.drop a).take (cutLen c (raw.drop a))]) := by
  have h1 : cutLen c (raw.drop a) ≤ raw.length - a := by unfold cutLen; rw [List.length_drop]; omega
  refine ⟨by omega, ?_, by simp [h.count]⟩
  rw [← h.all]
  have hd : (cuts.take 400).drop i = c :: (cuts.take 400).drop (i + 1) := by
    have hc' : (cuts.take 400)[i]? = some c := by rw [List.getElem?_take, if_pos hi]; exact hc
    obtain ⟨hlt, he⟩ := List.getElem?_eq_some_iff.1 hc'
    rw [List.drop_eq_getElem_cons hlt, he]
  rw [hd]
  conv => rhs; rw [piecesGo]
  rw [if_neg (by intro e; have := congrArg List.length e; rw [List.length_drop] at this; simp at this; omega)]
  rw [List.append_assoc, List.drop_drop]
  simp
theorem Cutting.stop {raw : Bs} {cuts : List Int} {i a : Nat} {out : List Bs} (h : Cutting raw cuts i a out) (hs : cuts.length ≤ i ∨ 400 ≤ i ∨ raw.length ≤ a) : out ++ [raw.drop a] = piecesOf raw cuts := by
  rw [← h.all]
  rcases hs with hs | hs | hs
  · have : (cuts.take 400).drop i = [] := by rw [List.drop_eq_nil_iff, List.length_take]; omega
    rw [this]; rfl
  · have : (cuts.take 400).drop i = [] := by rw [List.drop_eq_nil_iff, List.length_take]; omega
    rw [this]; rfl
  · have : raw.drop a = [] := List.drop_eq_nil_iff.2 hs
    rw [this]
    cases (cuts.take 400).drop i with
    | nil => rfl
    | cons c cs => simp [piecesGo]
end Go.Proofs.YtbiakncngmgbkaaGreatDoor
