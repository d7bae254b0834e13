/- Walk of package reply: kinds. Printed by gen/genV2.py. -/
import Derived.Test.YtnbeeehfapjpdaaGreatDoorV1
namespace Go.Proofs.YtnbeeehfapjpdaaGreatDoor
open Go.RowKit

/-- a command, as it is handed to package reply -/
abbrev cmdA (v : Int) (K : Option Addr) (kn kc : Nat) (fl ex tk dl : Int) (D : Option Addr) (dn dc : Nat) (nr lg : Bool) (M : Option Addr) (mn mc : Nat) (what : Sp.Bs) : Value :=
  .agg #[.int .i64 v, .slice K kn kc, .int .u64 fl, .int .i64 ex, .int .u64 tk, .int .u64 dl, .slice D dn dc, .bool nr, .bool lg, .slice M mn mc, str what]
def intsR (l : List Int) : List Value := l.map fun k => .int .i64 k
/-- a row of numbers that was built just now -/
theorem built_ints (w : World) {base : Nat} (hb : base ≤ w.heap.size) (ls : List Int) (cs : Array Value) (hc : cs.toList = intsR ls) (n : Nat) (hn : ls.length = n) (h : n ≤ 1000) : (w.alloc (.cells cs 3)).ownsRow base 3 1 (.slice (some ⟨w.heap.size, 0, none⟩) n n) n (intsR ls) := by
  have hs : cs.size = n := by rw [← Array.length_toList, hc, intsR, List.length_map, hn]
  have := World.ownsRow_lit (base := base) (e := 3) (size := 1) w cs n hb (by unfold maxLen; omega) (by rw [hs]; omega)
  rw [hc] at this
  exact this
/-- what kinds tells -/
def KindsPost (w : World) (l : List Int) (e : Ending) (w' : World) : Prop :=
  ∃ A c, e = .returned (.slice A l.length c) ∧ w'.ownsRow w.heap.size 3 1 (.slice A l.length c) l.length (intsR l) ∧ (A = none ↔ l = []) ∧ Below w.heap.size w w'
theorem kinds_made (w : World) (o : Obj) (ls : List Int) (hne : ls ≠ []) (cs : Array Value) (hc : cs.toList = intsR ls) (n : Nat) (hn : ls.length = n) (h : n ≤ 1000) (g : Nat) (hg : g = w.heap.size + 1) : KindsPost w ls (.returned (.slice (some ⟨g, 0, none⟩) n n)) ((w.alloc o).alloc (.cells cs 3)) := by
  subst hn
  have hs : (w.alloc o).heap.size = w.heap.size + 1 := by simp
  have hb : Below w.heap.size w (w.alloc o) := (Below.refl _ _).alloc (Nat.le_refl _) _
  have h1 := built_ints (w.alloc o) hb.size ls cs hc ls.length rfl h
  rw [hs, ← hg] at h1
  exact ⟨_, _, rfl, h1, ⟨fun e => (by cases e), fun e => absurd e hne⟩, hb.alloc hb.size _⟩
set_option maxHeartbeats 4000000 in
set_option maxRecDepth 100000 in
theorem kinds_any (v : Int) (K : Option Addr) (kn kc : Nat) (fl ex tk dl : Int) (D : Option Addr) (dn dc : Nat) (nr lg : Bool) (M : Option Addr) (mn mc : Nat) (what : Sp.Bs) (w : World) :
    Calls Tryz.prog 37 #[cmdA v K kn kc fl ex tk dl D dn dc nr lg M mn mc what] w (KindsPost w (Sp.kindsV v what)) := by
  by_cases h1 : v = 1
  · subst h1
    rw [show Sp.kindsV 1 what = [9] from rfl]
    go_enter Tryz.func37, Tryz.ntmps37
    go_wp2
    go_ret
    exact kinds_made w _ [9] (by decide) #[Value.int .i64 9] rfl 1 rfl (by decide) _ (by first | rfl | simp)
  by_cases h2 : v = 2
  · subst h2
    rw [show Sp.kindsV 2 what = [9] from rfl]
    go_enter Tryz.func37, Tryz.ntmps37
    go_wp2
    go_ret
    exact kinds_made w _ [9] (by decide) #[Value.int .i64 9] rfl 1 rfl (by decide) _ (by first | rfl | simp)
  by_cases h3 : v = 3
  · subst h3
    rw [show Sp.kindsV 3 what = [9] from rfl]
    go_enter Tryz.func37, Tryz.ntmps37
    go_wp2
    go_ret
    exact kinds_made w _ [9] (by decide) #[Value.int .i64 9] rfl 1 rfl (by decide) _ (by first | rfl | simp)
  by_cases h4 : v = 4
  · subst h4
    rw [show Sp.kindsV 4 what = [9] from rfl]
    go_enter Tryz.func37, Tryz.ntmps37
    go_wp2
    go_ret
    exact kinds_made w _ [9] (by decide) #[Value.int .i64 9] rfl 1 rfl (by decide) _ (by first | rfl | simp)
  by_cases h5 : v = 5
  · subst h5
    rw [show Sp.kindsV 5 what = [1, 2] from rfl]
    go_enter Tryz.func37, Tryz.ntmps37
    go_wp2
    go_ret
    exact kinds_made w _ [1, 2] (by decide) #[Value.int .i64 1, Value.int .i64 2] rfl 2 rfl (by decide) _ (by first | rfl | simp)
  by_cases h6 : v = 6
  · subst h6
    rw [show Sp.kindsV 6 what = [1, 2] from rfl]
    go_enter Tryz.func37, Tryz.ntmps37
    go_wp2
    go_ret
    exact kinds_made w _ [1, 2] (by decide) #[Value.int .i64 1, Value.int .i64 2] rfl 2 rfl (by decide) _ (by first | rfl | simp)
  by_cases h7 : v = 7
  · subst h7
    rw [show Sp.kindsV 7 what = [1, 2] from rfl]
    go_enter Tryz.func37, Tryz.ntmps37
    go_wp2
    go_ret
    exact kinds_made w _ [1, 2] (by decide) #[Value.int .i64 1, Value.int .i64 2] rfl 2 rfl (by decide) _ (by first | rfl | simp)
  by_cases h8 : v = 8
  · subst h8
    rw [show Sp.kindsV 8 what = [1, 2] from rfl]
    go_enter Tryz.func37, Tryz.ntmps37
    go_wp2
    go_ret
    exact kinds_made w _ [1, 2] (by decide) #[Value.int .i64 1, Value.int .i64 2] rfl 2 rfl (by decide) _ (by first | rfl | simp)
  by_cases h9 : v = 9
  · subst h9
    rw [show Sp.kindsV 9 what = [1, 2] from rfl]
    go_enter Tryz.func37, Tryz.ntmps37
    go_wp2
    go_ret
    exact kinds_made w _ [1, 2] (by decide) #[Value.int .i64 1, Value.int .i64 2] rfl 2 rfl (by decide) _ (by first | rfl | simp)
  by_cases h10 : v = 10
  · subst h10
    rw [show Sp.kindsV 10 what = [1, 3, 4] from rfl]
    go_enter Tryz.func37, Tryz.ntmps37
    go_wp2
    go_ret
    exact kinds_made w _ [1, 3, 4] (by decide) #[Value.int .i64 1, Value.int .i64 3, Value.int .i64 4] rfl 3 rfl (by decide) _ (by first | rfl | simp)
  by_cases h11 : v = 11
  · subst h11
    rw [show Sp.kindsV 11 what = [5, 4] from rfl]
    go_enter Tryz.func37, Tryz.ntmps37
    go_wp2
    go_ret
    exact kinds_made w _ [5, 4] (by decide) #[Value.int .i64 5, Value.int .i64 4] rfl 2 rfl (by decide) _ (by first | rfl | simp)
  by_cases h12 : v = 12
  · subst h12
    rw [show Sp.kindsV 12 what = [7, 4] from rfl]
    go_enter Tryz.func37, Tryz.ntmps37
    go_wp2
    go_ret
    exact kinds_made w _ [7, 4] (by decide) #[Value.int .i64 7, Value.int .i64 4] rfl 2 rfl (by decide) _ (by first | rfl | simp)
  by_cases h13 : v = 13
  · subst h13
    rw [show Sp.kindsV 13 what = [7, 4] from rfl]
    go_enter Tryz.func37, Tryz.ntmps37
    go_wp2
    go_ret
    exact kinds_made w _ [7, 4] (by decide) #[Value.int .i64 7, Value.int .i64 4] rfl 2 rfl (by decide) _ (by first | rfl | simp)
  by_cases h14 : v = 14
  · subst h14
    rw [show Sp.kindsV 14 what = [6, 4] from rfl]
    go_enter Tryz.func37, Tryz.ntmps37
    go_wp2
    go_ret
    exact kinds_made w _ [6, 4] (by decide) #[Value.int .i64 6, Value.int .i64 4] rfl 2 rfl (by decide) _ (by first | rfl | simp)
  by_cases h15 : v = 15
  · subst h15
    rw [show Sp.kindsV 15 what = [8] from rfl]
    go_enter Tryz.func37, Tryz.ntmps37
    go_wp2
    go_ret
    exact kinds_made w _ [8] (by decide) #[Value.int .i64 8] rfl 1 rfl (by decide) _ (by first | rfl | simp)
  by_cases h16 : v = 16
  · subst h16
    rw [show Sp.kindsV 16 what = [10] from rfl]
    go_enter Tryz.func37, Tryz.ntmps37
    go_wp2
    go_ret
    exact kinds_made w _ [10] (by decide) #[Value.int .i64 10] rfl 1 rfl (by decide) _ (by first | rfl | simp)
  by_cases h17 : v = 17
  · subst h17
    rw [show Sp.kindsV 17 what = [8] from rfl]
    go_enter Tryz.func37, Tryz.ntmps37
    go_wp2
    go_ret
    exact kinds_made w _ [8] (by decide) #[Value.int .i64 8] rfl 1 rfl (by decide) _ (by first | rfl | simp)
  by_cases h18 : v = 18
  · subst h18
    rw [show Sp.kindsV 18 what = [12] from rfl]
    go_enter Tryz.func37, Tryz.ntmps37
    go_wp2
    go_ret
    exact kinds_made w _ [12] (by decide) #[Value.int .i64 12] rfl 1 rfl (by decide) _ (by first | rfl | simp)
  by_cases h19 : v = 19
  · subst h19
    by_cases hw : what = [114, 101, 115, 101, 116]
    · subst hw
      rw [show Sp.kindsV 19 [114, 101, 115, 101, 116] = [14] from rfl]
      go_enter Tryz.func37, Tryz.ntmps37
      go_wp2
      go_ret
      exact kinds_made w _ [14] (by decide) #[Value.int .i64 14] rfl 1 rfl (by decide) _ (by first | rfl | simp)
    · have e : Sp.kindsV 19 what = [13] := by show (if what = [114, 101, 115, 101, 116] then _ else _) = _; rw [if_neg hw]
      rw [e]
      have hw2 : (what == [114, 101, 115, 101, 116]) = false := by simpa using hw
      clear e hw
      go_enter Tryz.func37, Tryz.ntmps37
      go_wp2
      go_ret
      exact kinds_made w _ [13] (by decide) #[Value.int .i64 13] rfl 1 rfl (by decide) _ (by first | rfl | simp)
  by_cases h20 : v = 20
  · subst h20
    rw [show Sp.kindsV 20 what = [15, 12] from rfl]
    go_enter Tryz.func37, Tryz.ntmps37
    go_wp2
    go_ret
    exact kinds_made w _ [15, 12] (by decide) #[Value.int .i64 15, Value.int .i64 12] rfl 2 rfl (by decide) _ (by first | rfl | simp)
  by_cases h21 : v = 21
  · subst h21
    rw [show Sp.kindsV 21 what = [15, 12] from rfl]
    go_enter Tryz.func37, Tryz.ntmps37
    go_wp2
    go_ret
    exact kinds_made w _ [15, 12] (by decide) #[Value.int .i64 15, Value.int .i64 12] rfl 2 rfl (by decide) _ (by first | rfl | simp)
  by_cases h22 : v = 22
  · subst h22
    rw [show Sp.kindsV 22 what = [15, 12] from rfl]
    go_enter Tryz.func37, Tryz.ntmps37
    go_wp2
    go_ret
    exact kinds_made w _ [15, 12] (by decide) #[Value.int .i64 15, Value.int .i64 12] rfl 2 rfl (by decide) _ (by first | rfl | simp)
  by_cases h23 : v = 23
  · subst h23
    rw [show Sp.kindsV 23 what = [15, 12] from rfl]
    go_enter Tryz.func37, Tryz.ntmps37
    go_wp2
    go_ret
    exact kinds_made w _ [15, 12] (by decide) #[Value.int .i64 15, Value.int .i64 12] rfl 2 rfl (by decide) _ (by first | rfl | simp)
  by_cases h24 : v = 24
  · subst h24
    rw [show Sp.kindsV 24 what = [15] from rfl]
    go_enter Tryz.func37, Tryz.ntmps37
    go_wp2
    go_ret
    exact kinds_made w _ [15] (by decide) #[Value.int .i64 15] rfl 1 rfl (by decide) _ (by first | rfl | simp)
  have g1 : (v == 1) = false := by simpa using h1
  have g2 : (v == 2) = false := by simpa using h2
  have g3 : (v == 3) = false := by simpa using h3
  have g4 : (v == 4) = false := by simpa using h4
  have g5 : (v == 5) = false := by simpa using h5
  have g6 : (v == 6) = false := by simpa using h6
  have g7 : (v == 7) = false := by simpa using h7
  have g8 : (v == 8) = false := by simpa using h8
  have g9 : (v == 9) = false := by simpa using h9
  have g10 : (v == 10) = false := by simpa using h10
  have g11 : (v == 11) = false := by simpa using h11
  have g12 : (v == 12) = false := by simpa using h12
  have g13 : (v == 13) = false := by simpa using h13
  have g14 : (v == 14) = false := by simpa using h14
  have g15 : (v == 15) = false := by simpa using h15
  have g16 : (v == 16) = false := by simpa using h16
  have g17 : (v == 17) = false := by simpa using h17
  have g18 : (v == 18) = false := by simpa using h18
  have g19 : (v == 19) = false := by simpa using h19
  have g20 : (v == 20) = false := by simpa using h20
  have g21 : (v == 21) = false := by simpa using h21
  have g22 : (v == 22) = false := by simpa using h22
  have g23 : (v == 23) = false := by simpa using h23
  have g24 : (v == 24) = false := by simpa using h24
  have e : Sp.kindsV v what = [] := by
    unfold Sp.kindsV
    rw [if_neg (by omega), if_neg (by omega), if_neg (by omega), if_neg (by omega), if_neg (by omega), if_neg (by omega), if_neg (by omega), if_neg (by omega), if_neg (by omega), if_neg (by omega), if_neg (by omega), if_neg (by omega)]
  rw [e]
  clear e h1 h2 h3 h4 h5 h6 h7 h8 h9 h10 h11 h12 h13 h14 h15 h16 h17 h18 h19 h20 h21 h22 h23 h24
  go_enter Tryz.func37, Tryz.ntmps37
  go_wp2
  go_ret
  exact ⟨none, 0, rfl, World.ownsRow_nil _ _ _ 1, ⟨fun _ => rfl, fun _ => rfl⟩, (Below.refl _ _).alloc (Nat.le_refl _) _⟩
end Go.Proofs.YtnbeeehfapjpdaaGreatDoor
