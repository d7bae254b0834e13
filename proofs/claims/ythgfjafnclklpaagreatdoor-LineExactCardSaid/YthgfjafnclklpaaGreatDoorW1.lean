/- Walks of package words' smallest functions: which letters, which modes, the two predicates on runes. -/
import Derived.Test.YthgfjafnclklpaaGreatDoorProg
import Derived.Test.YthgfjafnclklpaaGreatDoorSp
import Derived.WalkKit
import Derived.WalkLawsBesides
import Derived.WalkSpells
namespace Go.Proofs.YthgfjafnclklpaaGreatDoor
open Go.RowKit

/-- a Go string of these bytes -/
abbrev str (l : Sp.Bs) : Value := .string ⟨l.toArray⟩

theorem modes_any (v : Nat) (w : World) :
    Calls Tryz.prog 192 #[.int .i64 v] w fun e w' => e = .returned (str (Sp.modes v)) ∧ w = w' := by
  by_cases h : v = 23
  · subst h
    go_enter Tryz.func192, Tryz.ntmps192
    go_wp2
    go_ret
    exact ⟨rfl, rfl⟩
  · have h2 : ((v : Int) == 23) = false := by simp; omega
    have h3 : Sp.modes v = [83, 69, 65, 80, 82, 115, 101, 97, 112, 114] := by unfold Sp.modes; rw [if_neg h]
    rw [h3]; clear h3
    go_enter Tryz.func192, Tryz.ntmps192
    go_wp2
    go_ret
    exact ⟨rfl, rfl⟩

theorem letters_any (v : Nat) (w : World) :
    Calls Tryz.prog 179 #[.int .i64 v] w fun e w' => e = .returned (.tuple #[str (Sp.alone v), str (Sp.withs v)]) ∧ w = w' := by
  by_cases h0 : v = 20
  · subst h0
    go_enter Tryz.func179, Tryz.ntmps179
    go_wp2
    go_ret2
    exact ⟨rfl, rfl⟩
  by_cases h1 : v = 21
  · subst h1
    go_enter Tryz.func179, Tryz.ntmps179
    go_wp2
    go_ret2
    exact ⟨rfl, rfl⟩
  by_cases h2 : v = 22
  · subst h2
    go_enter Tryz.func179, Tryz.ntmps179
    go_wp2
    go_ret2
    exact ⟨rfl, rfl⟩
  by_cases h3 : v = 23
  · subst h3
    go_enter Tryz.func179, Tryz.ntmps179
    go_wp2
    go_ret2
    exact ⟨rfl, rfl⟩
  have g0 : ((v : Int) == 20) = false := by simp; omega
  have g1 : ((v : Int) == 21) = false := by simp; omega
  have g2 : ((v : Int) == 22) = false := by simp; omega
  have g3 : ((v : Int) == 23) = false := by simp; omega
  have ea : Sp.alone v = [] := by unfold Sp.alone; rw [if_neg h0, if_neg h1, if_neg h2, if_neg h3]
  have ew : Sp.withs v = [] := by unfold Sp.withs; rw [if_neg h0, if_neg h1, if_neg h2, if_neg h3]
  rw [ea, ew]; clear ea ew
  go_enter Tryz.func179, Tryz.ntmps179
  go_wp2
  go_ret2
  exact ⟨rfl, rfl⟩

/-- the predicate of legal: is this no byte of a key? -/
theorem legal1_any (c : Int) (w : World) :
    Calls Tryz.prog 153 #[.int .i32 c] w fun e w' => e = .returned (.bool (decide (c ≤ 32) || decide (c = 127))) ∧ w = w' := by
  by_cases h : c ≤ 32
  · have e : (decide (c ≤ 32) || decide (c = 127)) = true := by simp [h]
    rw [e]; clear e
    have h1 : decide (c ≤ 32) = true := by simpa using h
    go_enter Tryz.func153, Tryz.ntmps153
    go_wp2
    go_ret
    exact ⟨rfl, rfl⟩
  · have h1 : decide (c ≤ 32) = false := by simpa using h
    by_cases h2 : c = 127
    · subst h2
      go_enter Tryz.func153, Tryz.ntmps153
      go_wp2
      go_ret
      exact ⟨rfl, rfl⟩
    · have h3 : (c == 127) = false := by simpa using h2
      have e : (decide (c ≤ 32) || decide (c = 127)) = false := by simp [h, h2]
      rw [e]; clear e
      go_enter Tryz.func153, Tryz.ntmps153
      go_wp2
      go_ret
      exact ⟨rfl, rfl⟩

/-- the predicate of read: is this a blank? -/
theorem read1_any (c : Int) (w : World) :
    Calls Tryz.prog 107 #[.int .i32 c] w fun e w' => e = .returned (.bool (decide (c = 32))) ∧ w = w' := by
  by_cases h2 : c = 32
  · subst h2
    go_enter Tryz.func107, Tryz.ntmps107
    go_wp2
    go_ret
    exact ⟨rfl, rfl⟩
  · have h3 : (c == 32) = false := by simpa using h2
    have e : decide (c = 32) = false := by simpa using h2
    rw [e]; clear e
    go_enter Tryz.func107, Tryz.ntmps107
    go_wp2
    go_ret
    exact ⟨rfl, rfl⟩
end Go.Proofs.YthgfjafnclklpaaGreatDoor
