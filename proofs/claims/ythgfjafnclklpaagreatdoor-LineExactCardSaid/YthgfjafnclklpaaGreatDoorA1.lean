/- The library's functions over rows of bytes: IndexByte, HasPrefix, TrimSuffix, Clone. Walk of package words: skip. -/
import Derived.Test.YthgfjafnclklpaaGreatDoorPc
import Derived.Test.YthgfjafnclklpaaGreatDoorL2
import Derived.Test.YthgfjafnclklpaaGreatDoorShelf
import Derived.Test.YthgfjafnclklpaaGreatDoorFd
import Derived.Lib.SlBytesConst
section
namespace Go.Proofs.YthgfjafnclklpaaGreatDoor
open Go.RowKit

def numsOf (l : Sp.Bs) : List Int := l.map fun b => (b.toNat : Int)
end Go.Proofs.YthgfjafnclklpaaGreatDoor
end
section
namespace Go.Proofs.YthgfjafnclklpaaGreatDoor
attribute [local go_sem ↓] Go.wp_at_zero Go.wp_at_succ
open Go.RowKit

theorem skipV_cases (l : Sp.Bs) (k : Nat) (hk : k < l.length) :
    Sp.skipV l k = if (l.drop k).take 2 = [13, 10] then some (k + 2, true) else if l.drop k = [13] then none else (Sp.indexOf (l.drop k) 10).map fun i => (k + i + 1, false) := by
  unfold Sp.skipV
  rw [if_neg (by omega)]
  split
  · rfl
  · split
    · rfl
    · cases Sp.indexOf (l.drop k) 10 <;> rfl

theorem indexOf_in {l : Sp.Bs} {c : UInt8} {i : Nat} (h : Sp.indexOf l c = some i) : i < l.length := by
  unfold Sp.indexOf at h
  exact (List.findIdx?_eq_some_iff_getElem.1 h).1

theorem skipV_some {l : Sp.Bs} {k m : Nat} {g : Bool} (h : Sp.skipV l k = some (m, g)) : k < l.length ∧ k < m := by
  by_cases hk : k < l.length
  · rw [skipV_cases l k hk] at h
    refine ⟨hk, ?_⟩
    split at h
    · injection h with h; injection h with h; omega
    · split at h
      · cases h
      · obtain ⟨i, _, h⟩ := Option.map_eq_some_iff.1 h
        injection h with h; omega
  · unfold Sp.skipV at h
    rw [if_pos (by omega)] at h
    cases h

def SkipPost (w : World) (at' : Nat) (r : Option (Nat × Bool)) (e : Ending) (w' : World) : Prop :=
  ∃ (v : Nat) (gd : Bool), e = .returned (.tuple #[.int .i64 v, .bool gd, .bool r.isSome]) ∧ (∀ m g, r = some (m, g) → v = at' + m ∧ gd = g) ∧ (r = none → gd = false) ∧ Below w.heap.size w w'

end Go.Proofs.YthgfjafnclklpaaGreatDoor
end
