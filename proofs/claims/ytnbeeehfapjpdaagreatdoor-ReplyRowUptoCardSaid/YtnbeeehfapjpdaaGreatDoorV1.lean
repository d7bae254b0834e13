/- Walks of package reply's smallest functions: fixed, tokens, odd, the predicates on runes, codes, refusals, kinds. Printed by gen/genV1.py. -/
import Derived.Test.YtnbeeehfapjpdaaGreatDoorW1
import Derived.Test.YtnbeeehfapjpdaaGreatDoorSr
import Derived.Test.YtnbeeehfapjpdaaGreatDoorMem
namespace Go.Proofs.YtnbeeehfapjpdaaGreatDoor
open Go.RowKit

theorem fixed_any (k : Int) (w : World) : Calls Tryz.prog 50 #[.int .i64 k] w fun e w' => e = .returned (str (Sp.fixedV k)) ∧ w = w' := by
  by_cases h1 : k = 1
  · subst h1
    go_enter Tryz.func50, Tryz.ntmps50
    go_wp2
    go_ret
    exact ⟨rfl, rfl⟩
  by_cases h2 : k = 2
  · subst h2
    go_enter Tryz.func50, Tryz.ntmps50
    go_wp2
    go_ret
    exact ⟨rfl, rfl⟩
  by_cases h3 : k = 3
  · subst h3
    go_enter Tryz.func50, Tryz.ntmps50
    go_wp2
    go_ret
    exact ⟨rfl, rfl⟩
  by_cases h4 : k = 4
  · subst h4
    go_enter Tryz.func50, Tryz.ntmps50
    go_wp2
    go_ret
    exact ⟨rfl, rfl⟩
  by_cases h5 : k = 5
  · subst h5
    go_enter Tryz.func50, Tryz.ntmps50
    go_wp2
    go_ret
    exact ⟨rfl, rfl⟩
  by_cases h6 : k = 6
  · subst h6
    go_enter Tryz.func50, Tryz.ntmps50
    go_wp2
    go_ret
    exact ⟨rfl, rfl⟩
  by_cases h8 : k = 8
  · subst h8
    go_enter Tryz.func50, Tryz.ntmps50
    go_wp2
    go_ret
    exact ⟨rfl, rfl⟩
  by_cases h14 : k = 14
  · subst h14
    go_enter Tryz.func50, Tryz.ntmps50
    go_wp2
    go_ret
    exact ⟨rfl, rfl⟩
  have g1 : (k == 1) = false := by simpa using h1
  have g2 : (k == 2) = false := by simpa using h2
  have g3 : (k == 3) = false := by simpa using h3
  have g4 : (k == 4) = false := by simpa using h4
  have g5 : (k == 5) = false := by simpa using h5
  have g6 : (k == 6) = false := by simpa using h6
  have g8 : (k == 8) = false := by simpa using h8
  have g14 : (k == 14) = false := by simpa using h14
  have e : Sp.fixedV k = [] := by unfold Sp.fixedV; rw [if_neg h1, if_neg h2, if_neg h3, if_neg h4, if_neg h5, if_neg h6, if_neg h8, if_neg h14]
  rw [e]
  clear e h1 h2 h3 h4 h5 h6 h8 h14
  go_enter Tryz.func50, Tryz.ntmps50
  go_wp2
  go_ret
  exact ⟨rfl, rfl⟩
theorem tokens_any (v : Int) (w : World) : Calls Tryz.prog 48 #[.int .i64 v] w fun e w' => e = .returned (.bool (Sp.tokensV v)) ∧ w = w' := by
  by_cases h2 : v = 2
  · subst h2
    go_enter Tryz.func48, Tryz.ntmps48
    go_wp2
    go_ret
    exact ⟨rfl, rfl⟩
  by_cases h4 : v = 4
  · subst h4
    go_enter Tryz.func48, Tryz.ntmps48
    go_wp2
    go_ret
    exact ⟨rfl, rfl⟩
  have g2 : (v == 2) = false := by simpa using h2
  have g4 : (v == 4) = false := by simpa using h4
  have e : Sp.tokensV v = false := by unfold Sp.tokensV; rw [decide_eq_false_iff_not]; omega
  rw [e]
  clear e h2 h4
  go_enter Tryz.func48, Tryz.ntmps48
  go_wp2
  go_ret
  exact ⟨rfl, rfl⟩
theorem odd_any (c : Int) (w : World) : Calls Tryz.prog 125 #[.int .i32 c] w fun e w' => e = .returned (.bool (decide (c ≤ 32) || decide (c = 127))) ∧ w = w' := by
  by_cases h : c ≤ 32
  · have e : (decide (c ≤ 32) || decide (c = 127)) = true := by simp [h]
    rw [e]
    clear e
    have h1 : decide (c ≤ 32) = true := by simpa using h
    go_enter Tryz.func125, Tryz.ntmps125
    go_wp2
    go_ret
    exact ⟨rfl, rfl⟩
  · have h1 : decide (c ≤ 32) = false := by simpa using h
    by_cases h2 : c = 127
    · subst h2
      go_enter Tryz.func125, Tryz.ntmps125
      go_wp2
      go_ret
      exact ⟨rfl, rfl⟩
    · have h3 : (c == 127) = false := by simpa using h2
      have e : (decide (c ≤ 32) || decide (c = 127)) = false := by simp [h, h2]
      rw [e]
      clear e
      go_enter Tryz.func125, Tryz.ntmps125
      go_wp2
      go_ret
      exact ⟨rfl, rfl⟩
theorem replyLegal1_any (c : Int) (w : World) : Calls Tryz.prog 113 #[.int .i32 c] w fun e w' => e = .returned (.bool (decide (c ≤ 32) || decide (c = 127))) ∧ w = w' := by
  by_cases h : c ≤ 32
  · have e : (decide (c ≤ 32) || decide (c = 127)) = true := by simp [h]
    rw [e]
    clear e
    have h1 : decide (c ≤ 32) = true := by simpa using h
    go_enter Tryz.func113, Tryz.ntmps113
    go_wp2
    go_ret
    exact ⟨rfl, rfl⟩
  · have h1 : decide (c ≤ 32) = false := by simpa using h
    by_cases h2 : c = 127
    · subst h2
      go_enter Tryz.func113, Tryz.ntmps113
      go_wp2
      go_ret
      exact ⟨rfl, rfl⟩
    · have h3 : (c == 127) = false := by simpa using h2
      have e : (decide (c ≤ 32) || decide (c = 127)) = false := by simp [h, h2]
      rw [e]
      clear e
      go_enter Tryz.func113, Tryz.ntmps113
      go_wp2
      go_ret
      exact ⟨rfl, rfl⟩
theorem plain1_any (c : Int) (w : World) : Calls Tryz.prog 78 #[.int .i32 c] w fun e w' => e = .returned (.bool (decide (c < 32) || decide (126 < c))) ∧ w = w' := by
  by_cases h : c < 32
  · have e : (decide (c < 32) || decide (126 < c)) = true := by simp [h]
    rw [e]
    clear e
    have h1 : decide (c < 32) = true := by simpa using h
    go_enter Tryz.func78, Tryz.ntmps78
    go_wp2
    go_ret
    exact ⟨rfl, rfl⟩
  · have h1 : decide (c < 32) = false := by simpa using h
    by_cases h2 : 126 < c
    · have e : (decide (c < 32) || decide (126 < c)) = true := by simp [h2]
      rw [e]
      clear e
      go_enter Tryz.func78, Tryz.ntmps78
      go_wp2
      go_ret
      exact ⟨rfl, rfl⟩
    · have h3 : decide (126 < c) = false := by simpa using h2
      have e : (decide (c < 32) || decide (126 < c)) = false := by simp [h1, h3]
      rw [e]
      clear e
      go_enter Tryz.func78, Tryz.ntmps78
      go_wp2
      go_ret
      exact ⟨rfl, rfl⟩
theorem name1_any (c : Int) (w : World) : Calls Tryz.prog 84 #[.int .i32 c] w fun e w' => e = .returned (.bool (decide (c ≤ 32) || decide (126 < c))) ∧ w = w' := by
  by_cases h : c ≤ 32
  · have e : (decide (c ≤ 32) || decide (126 < c)) = true := by simp [h]
    rw [e]
    clear e
    have h1 : decide (c ≤ 32) = true := by simpa using h
    go_enter Tryz.func84, Tryz.ntmps84
    go_wp2
    go_ret
    exact ⟨rfl, rfl⟩
  · have h1 : decide (c ≤ 32) = false := by simpa using h
    by_cases h2 : 126 < c
    · have e : (decide (c ≤ 32) || decide (126 < c)) = true := by simp [h2]
      rw [e]
      clear e
      go_enter Tryz.func84, Tryz.ntmps84
      go_wp2
      go_ret
      exact ⟨rfl, rfl⟩
    · have h3 : decide (126 < c) = false := by simpa using h2
      have e : (decide (c ≤ 32) || decide (126 < c)) = false := by simp [h1, h3]
      rw [e]
      clear e
      go_enter Tryz.func84, Tryz.ntmps84
      go_wp2
      go_ret
      exact ⟨rfl, rfl⟩
/-- a row of texts that was built just now -/
theorem built_texts (w : World) (ls : List Sp.Bs) (cs : Array Value) (hc : cs.toList = ls.map str) (n : Nat) (hn : ls.length = n) (h : n ≤ 1000) : (w.alloc (.cells cs 9)).ownsRow w.heap.size 9 1 (.slice (some ⟨w.heap.size, 0, none⟩) n n) n (ls.map str) := by
  have hs : cs.size = n := by rw [← Array.length_toList, hc, List.length_map, hn]
  have := World.ownsRow_lit (base := w.heap.size) (e := 9) (size := 1) w cs n (Nat.le_refl _) (by unfold maxLen; omega) (by rw [hs]; omega)
  rw [hc] at this
  exact this
/-- what codes tells: a row of its own -/
theorem codes_any (v : Int) (w : World) : Calls Tryz.prog 87 #[.int .i64 v] w fun e w' => ∃ g c, e = .returned (.slice (some ⟨g, 0, none⟩) (Sp.codesV v).length c) ∧ w'.ownsRow w.heap.size 9 1 (.slice (some ⟨g, 0, none⟩) (Sp.codesV v).length c) (Sp.codesV v).length ((Sp.codesV v).map str) ∧ Below w.heap.size w w' := by
  by_cases h20 : v = 20
  · subst h20
    go_enter Tryz.func87, Tryz.ntmps87
    go_wp2
    go_ret
    exact ⟨_, _, rfl, built_texts w [[72, 68], [86, 65], [69, 78]] #[str [72, 68], str [86, 65], str [69, 78]] rfl 3 rfl (by decide), (Below.refl _ _).alloc (Nat.le_refl _) _⟩
  by_cases h21 : v = 21
  · subst h21
    go_enter Tryz.func87, Tryz.ntmps87
    go_wp2
    go_ret
    exact ⟨_, _, rfl, built_texts w [[72, 68], [78, 83], [69, 88], [78, 70]] #[str [72, 68], str [78, 83], str [69, 88], str [78, 70]] rfl 4 rfl (by decide), (Below.refl _ _).alloc (Nat.le_refl _) _⟩
  by_cases h22 : v = 22
  · subst h22
    go_enter Tryz.func87, Tryz.ntmps87
    go_wp2
    go_ret
    exact ⟨_, _, rfl, built_texts w [[72, 68], [69, 88], [78, 70]] #[str [72, 68], str [69, 88], str [78, 70]] rfl 3 rfl (by decide), (Below.refl _ _).alloc (Nat.le_refl _) _⟩
  by_cases h23 : v = 23
  · subst h23
    go_enter Tryz.func87, Tryz.ntmps87
    go_wp2
    go_ret
    exact ⟨_, _, rfl, built_texts w [[72, 68], [86, 65], [78, 70], [78, 83], [69, 88]] #[str [72, 68], str [86, 65], str [78, 70], str [78, 83], str [69, 88]] rfl 5 rfl (by decide), (Below.refl _ _).alloc (Nat.le_refl _) _⟩
  have g20 : (v == 20) = false := by simpa using h20
  have g21 : (v == 21) = false := by simpa using h21
  have g22 : (v == 22) = false := by simpa using h22
  have g23 : (v == 23) = false := by simpa using h23
  have e : Sp.codesV v = [[77, 78]] := by unfold Sp.codesV; rw [if_neg h20, if_neg h21, if_neg h22, if_neg h23]
  rw [e]
  clear e h20 h21 h22 h23
  go_enter Tryz.func87, Tryz.ntmps87
  go_wp2
  go_ret
  exact ⟨_, _, rfl, built_texts w [[77, 78]] #[str [77, 78]] rfl 1 rfl (by decide), (Below.refl _ _).alloc (Nat.le_refl _) _⟩
theorem refusals_any (w : World) : Calls Tryz.prog 80 #[] w fun e w' => ∃ g c, e = .returned (.slice (some ⟨g, 0, none⟩) 2 c) ∧ w'.ownsRow w.heap.size 9 1 (.slice (some ⟨g, 0, none⟩) 2 c) 2 ([Sp.clientErr, Sp.serverErr].map str) ∧ Below w.heap.size w w' := by
  go_enter Tryz.func80, Tryz.ntmps80
  go_wp2
  go_ret
  exact ⟨_, _, rfl, built_texts w [Sp.clientErr, Sp.serverErr] #[str Sp.clientErr, str Sp.serverErr] rfl 2 rfl (by decide), (Below.refl _ _).alloc (Nat.le_refl _) _⟩
end Go.Proofs.YtnbeeehfapjpdaaGreatDoor
