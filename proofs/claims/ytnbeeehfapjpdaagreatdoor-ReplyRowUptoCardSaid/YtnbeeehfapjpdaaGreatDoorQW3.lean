/- Walks of package words: digits, number, time, legal. Walks of package words: want, behind. Walks of package words: flag, Flags. Walk of package words: Flags. Walks of package words: word, letter by letter. Walks of package words: word at K, 0, W and the times. Walks of package words: word at T, S and G. -/
import Derived.Test.YtnbeeehfapjpdaaGreatDoorQMp
import Derived.Test.YtnbeeehfapjpdaaGreatDoorPl
import Derived.Test.YtnbeeehfapjpdaaGreatDoorShelf
import Derived.Shelf.Strings.SlTrimAscii
import Derived.Lib.IfaceEq
import Derived.LaidEql
import Derived.Lib.SmallJoins
import Derived.Deep.QuietTactic
import Derived.BigQuiet
import Derived.BigGuardPart
import Derived.Deep.LoopGhost
import Derived.Deep.RegionWith
import Derived.Test.YtnbeeehfapjpdaaGreatDoorMem
import Derived.Maps.AppendAt
import Derived.Deep.RegionLaw
import Derived.Deep.DeepCutAuto
section
namespace Go.Proofs.YtnbeeehfapjpdaaGreatDoor
open Go.RowKit

theorem str_size (l : Sp.Bs) : (⟨l.toArray⟩ : ByteArray).size = l.length := by simp [ByteArray.size]

/-- what a call that told only new memory leaves: an answer of this shape -/
def NumNo (w : World) (e : Ending) (w' : World) : Prop := ∃ n : Int, e = .returned (.tuple #[.int .u64 n, .bool false]) ∧ Below w.heap.size w w'

def TimeNo (w : World) (e : Ending) (w' : World) : Prop := ∃ n : Int, e = .returned (.tuple #[.int .i64 n, .bool false]) ∧ Below w.heap.size w w'

end Go.Proofs.YtnbeeehfapjpdaaGreatDoor
end
section
namespace Go.Proofs.YtnbeeehfapjpdaaGreatDoor
open Go.RowKit

/-- a flag as it lies in memory -/
abbrev flagV (f : Sp.FlagV) : Value := .agg #[.int .u8 f.letter.toNat, str f.arg, .bool f.has]

end Go.Proofs.YtnbeeehfapjpdaaGreatDoor
end
section
namespace Go.Proofs.YtnbeeehfapjpdaaGreatDoor
open Go.RowKit

/-- from this address on lie these cells (no matter where, if there is none) -/
def RowAt (w : World) (A : Option Addr) (xs : List Value) : Prop :=
  xs = [] ∨ ∃ b o, A = some ⟨b, o, none⟩ ∧ b < w.heap.size ∧ ∀ j u, xs[j]? = some u → w.cell? ⟨b, o + j, none⟩ = some u

theorem RowAt.keep {w w' : World} {A : Option Addr} {xs : List Value} (h : RowAt w A xs) (hs : w.heap.size ≤ w'.heap.size) (hk : ∀ p : Addr, p.block < w.heap.size → w'.cell? p = w.cell? p) : RowAt w' A xs := by
  rcases h with h | ⟨b, o, h1, h2, h3⟩
  · exact .inl h
  · exact .inr ⟨b, o, h1, by omega, fun j u hu => (hk ⟨b, o + j, none⟩ h2).trans (h3 j u hu)⟩
theorem RowAt.below {w w' : World} {A : Option Addr} {xs : List Value} (h : RowAt w A xs) (hb : Below w.heap.size w w') : RowAt w' A xs := h.keep hb.size fun _ hp => hb.cell hp
theorem RowAt.alloc {w : World} {A : Option Addr} {xs : List Value} (h : RowAt w A xs) (o : Obj) : RowAt (w.alloc o) A xs := h.below ((Below.refl _ _).alloc (Nat.le_refl _) o)

def flagCells (f : Sp.FlagV) : List Value := [.int .u8 f.letter.toNat, str f.arg, .bool f.has]
def flagsCells (l : List Sp.FlagV) : List Value := l.flatMap flagCells

theorem flagsCells_at : ∀ (l : List Sp.FlagV) (i : Nat) (f : Sp.FlagV), l[i]? = some f →
    (flagsCells l)[i * 3]? = some (.int .u8 f.letter.toNat) ∧ (flagsCells l)[i * 3 + 1]? = some (str f.arg) ∧ (flagsCells l)[i * 3 + 2]? = some (.bool f.has)
  | [], i, f, h => by simp at h
  | g :: t, 0, f, h => by
    simp at h
    subst h
    simp [flagsCells, flagCells]
  | g :: t, i + 1, f, h => by
    have ih := flagsCells_at t i f (by simpa using h)
    have e : flagsCells (g :: t) = .int .u8 g.letter.toNat :: str g.arg :: .bool g.has :: flagsCells t := by simp [flagsCells, flagCells]
    rw [e]
    have e0 : (i + 1) * 3 = i * 3 + 3 := by omega
    rw [e0]
    refine ⟨?_, ?_, ?_⟩
    · rw [show i * 3 + 3 = (i * 3) + 1 + 1 + 1 by omega]; simpa using ih.1
    · rw [show i * 3 + 3 + 1 = (i * 3 + 1) + 1 + 1 + 1 by omega]; simpa using ih.2.1
    · rw [show i * 3 + 3 + 2 = (i * 3 + 2) + 1 + 1 + 1 by omega]; simpa using ih.2.2

theorem RowAt.flag {w : World} {A : Option Addr} {l : List Sp.FlagV} (h : RowAt w A (flagsCells l)) {i : Nat} {f : Sp.FlagV} (hf : l[i]? = some f) :
    ∃ b o, A = some ⟨b, o, none⟩ ∧ b < w.heap.size ∧ w.cell? ⟨b, o + i * 3, none⟩ = some (.int .u8 f.letter.toNat) ∧ w.cell? ⟨b, o + i * 3 + 1, none⟩ = some (str f.arg) ∧ w.cell? ⟨b, o + i * 3 + 2, none⟩ = some (.bool f.has) := by
  obtain ⟨h1, h2, h3⟩ := flagsCells_at l i f hf
  rcases h with h | ⟨b, o, hA, hb, hc⟩
  · rw [h] at h1; simp at h1
  · exact ⟨b, o, hA, hb, hc _ _ h1, hc _ _ h2, hc _ _ h3⟩

/-- what flag tells behind its look at the flags ahead -/
def flagEnd (bare isO argE long has beh : Bool) : Sp.Bs :=
  if isO && (argE || long) then Sp.opaqueLong
  else if (has != !argE) || (bare && has) || (!bare && !beh) then Sp.badToken
  else []

end Go.Proofs.YtnbeeehfapjpdaaGreatDoor
end
section
namespace Go.Proofs.YtnbeeehfapjpdaaGreatDoor
open Go.RowKit

theorem RowAt.take {w : World} {A : Option Addr} {xs : List Value} (h : RowAt w A xs) (k : Nat) : RowAt w A (xs.take k) := by
  rcases h with h | ⟨b, o, h1, h2, h3⟩
  · exact .inl (by rw [h]; simp)
  · exact .inr ⟨b, o, h1, h2, fun j u hu => h3 j u (by
      rw [List.getElem?_take] at hu
      split at hu
      · exact hu
      · cases hu)⟩

end Go.Proofs.YtnbeeehfapjpdaaGreatDoor
end
section
namespace Go.Proofs.YtnbeeehfapjpdaaGreatDoor
open Go.RowKit

/-- a reader's cells -/
def rdCells (c : Sp.CmdV) (kv mv : Value) (block pass : Int) : Array Value :=
  #[.int .i64 c.verb, kv, .int .u64 c.flags, .int .i64 c.exptime, .int .u64 c.token, .int .u64 c.delta, .slice none 0 0, .bool c.noreply, .bool false, mv, str c.what, .int .i64 block, .int .i64 pass]

section
variable {base rb : Nat} {c : Sp.CmdV} {block pass : Int} {kv mv : Value} {w : World}

end
end Go.Proofs.YtnbeeehfapjpdaaGreatDoor
end
section
namespace Go.Proofs.YtnbeeehfapjpdaaGreatDoor
open Go.RowKit

section
variable {base rb : Nat} {c : Sp.CmdV} {block pass : Int} {kv mv : Value} {w : World}

end
end Go.Proofs.YtnbeeehfapjpdaaGreatDoor
end
section
namespace Go.Proofs.YtnbeeehfapjpdaaGreatDoor
open Go.RowKit

section
variable {base rb : Nat} {c : Sp.CmdV} {block pass : Int} {kv mv : Value} {w : World}

/-- the new flag of a word -/
def flagOfWord (l : Sp.Bs) : Sp.FlagV := { letter := l.headD 0, arg := l.drop 1, has := decide (1 < l.length) }

theorem RowAt.of_own {w : World} {base : Nat} {e : TypeId} {size n c : Nat} {A : Option Addr} {xs : List Value} (h : w.ownsRow base e size (.slice A n c) n xs) : RowAt w A xs := by
  rcases h.2 with ⟨hv, hn⟩ | ⟨g, cap, cur, hv, hg, hb, h1, h2, h3, h4⟩
  · left
    have := h.1
    rw [hn, Nat.zero_mul] at this
    exact List.eq_nil_of_length_eq_zero this
  · right
    injection hv with hA
    refine ⟨g, 0, hA, Blk.lt hb, fun j u hu => ?_⟩
    have hc := Blk.cell (t := e) hb (0 + j)
    rw [hc, Nat.zero_add]
    rw [← h4, List.getElem?_take] at hu
    split at hu
    · simpa using hu
    · cases hu

end
end Go.Proofs.YtnbeeehfapjpdaaGreatDoor
end
