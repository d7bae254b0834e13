/- Walks of the document's reading of lines: what stands behind a flag's letter. -/
import Derived.Test.YticigfpieeoolaaGreatDoorR2
namespace Go.Proofs.YticigfpieeoolaaGreatDoor
open Go.RowKit

theorem numR_form (o : Option Nat) : ∃ m : Nat, numR o = .tuple #[.int .u64 m, .bool o.isSome] := by
  cases o with
  | none => exact ⟨0, rfl⟩
  | some n => exact ⟨n, rfl⟩
theorem timeR_form (o : Option Int) : ∃ m : Int, timeR o = .tuple #[.int .i64 m, .bool o.isSome] := by
  cases o with
  | none => exact ⟨0, rfl⟩
  | some n => exact ⟨n, rfl⟩
theorem letter_ne {x : UInt8} {n : Nat} (h : ¬ x.toNat = n) : ((x.toNat : Int) == (n : Int)) = false := by
  rw [beq_eq_false_iff_ne]
  omega

section
set_option maxHeartbeats 8000000
set_option maxRecDepth 100000
theorem behind_key {v : Nat} {arg : Sp.Bs} {has : Bool} (w : World) (hl : arg.length ≤ 4611686018427387904) :
    Calls Tryz.prog 76 #[.int .i64 v, .agg #[.int .u8 79, str arg, .bool has]] w fun e w' => e = .returned (.bool (keyV arg)) ∧ Below w.heap.size w w' := by
  have hb0 : Below w.heap.size w (w.alloc (.cells #[.int .u8 79, str arg, .bool has] 79)) := (Below.refl _ _).alloc (Nat.le_refl _) _
  have hk := fun W : World => refKey_any arg W hl
  generalize keyV arg = V at *
  have HK := Lib.hid hk
  have HB := Lib.hid hb0
  clear hk hb0
  go_enter Tryz.func76, Tryz.ntmps76
  go_wp2_with (refine (HK.out _).mono ?_; rintro e w' ⟨rfl, rfl⟩)
  go_ret
  exact ⟨rfl, HB.out⟩
theorem behind_time {v n : Nat} {arg : Sp.Bs} {has : Bool} (w : World) (hl : arg.length ≤ 4611686018427387904) (hn : n = 84 ∨ n = 78) :
    Calls Tryz.prog 76 #[.int .i64 v, .agg #[.int .u8 n, str arg, .bool has]] w fun e w' => e = .returned (.bool (Sp.timeOf arg).isSome) ∧ Below w.heap.size w w' := by
  have hb0 : Below w.heap.size w (w.alloc (.cells #[.int .u8 n, str arg, .bool has] 79)) := (Below.refl _ _).alloc (Nat.le_refl _) _
  have hk := fun W : World => refTimeOf_any arg W hl
  obtain ⟨m, hm⟩ := timeR_form (Sp.timeOf arg)
  rw [hm] at hk
  generalize (Sp.timeOf arg).isSome = V at *
  have HK := Lib.hid hk
  have HB := Lib.hid hb0
  clear hk hb0 hm
  rcases hn with rfl | rfl
  all_goals
    go_enter Tryz.func76, Tryz.ntmps76
    go_wp2_with (refine (HK.out _).mono ?_; rintro e w' ⟨rfl, rfl⟩)
    go_ret
    exact ⟨rfl, HB.out⟩
theorem behind_flags {v : Nat} {arg : Sp.Bs} {has : Bool} (w : World) (hl : arg.length ≤ 4611686018427387904) :
    Calls Tryz.prog 76 #[.int .i64 v, .agg #[.int .u8 70, str arg, .bool has]] w fun e w' => e = .returned (.bool (Sp.number arg 4294967295).isSome) ∧ Below w.heap.size w w' := by
  have hb0 : Below w.heap.size w (w.alloc (.cells #[.int .u8 70, str arg, .bool has] 79)) := (Below.refl _ _).alloc (Nat.le_refl _) _
  have hk := fun W : World => refNumber_any arg 4294967295 W hl (by omega)
  obtain ⟨m, hm⟩ := numR_form (Sp.number arg 4294967295)
  rw [hm] at hk
  generalize (Sp.number arg 4294967295).isSome = V at *
  have HK := Lib.hid hk
  have HB := Lib.hid hb0
  clear hk hb0 hm
  go_enter Tryz.func76, Tryz.ntmps76
  go_wp2_with (refine (HK.out _).mono ?_; rintro e w' ⟨rfl, rfl⟩)
  go_ret
  exact ⟨rfl, HB.out⟩
theorem behind_number {v n : Nat} {arg : Sp.Bs} {has : Bool} (w : World) (hl : arg.length ≤ 4611686018427387904) (hn : n = 82 ∨ n = 67 ∨ n = 68 ∨ n = 74) :
    Calls Tryz.prog 76 #[.int .i64 v, .agg #[.int .u8 n, str arg, .bool has]] w fun e w' => e = .returned (.bool (Sp.number arg 18446744073709551615).isSome) ∧ Below w.heap.size w w' := by
  have hb0 : Below w.heap.size w (w.alloc (.cells #[.int .u8 n, str arg, .bool has] 79)) := (Below.refl _ _).alloc (Nat.le_refl _) _
  have hk := fun W : World => refNumber_any arg 18446744073709551615 W hl (by omega)
  obtain ⟨m, hm⟩ := numR_form (Sp.number arg 18446744073709551615)
  rw [hm] at hk
  generalize (Sp.number arg 18446744073709551615).isSome = V at *
  have HK := Lib.hid hk
  have HB := Lib.hid hb0
  clear hk hb0 hm
  rcases hn with rfl | rfl | rfl | rfl
  all_goals
    go_enter Tryz.func76, Tryz.ntmps76
    go_wp2_with (refine (HK.out _).mono ?_; rintro e w' ⟨rfl, rfl⟩)
    go_ret
    exact ⟨rfl, HB.out⟩
theorem behind_mode {v n : Nat} {arg : Sp.Bs} {has : Bool} (w : World) (hl : arg.length ≤ 4611686018427387904) (h1 : ((n : Int) == 79) = false) (h2 : ((n : Int) == 84) = false) (h3 : ((n : Int) == 78) = false) (h4 : ((n : Int) == 70) = false)
    (h5 : ((n : Int) == 82) = false) (h6 : ((n : Int) == 67) = false) (h7 : ((n : Int) == 68) = false) (h8 : ((n : Int) == 74) = false) :
    Calls Tryz.prog 76 #[.int .i64 v, .agg #[.int .u8 n, str arg, .bool has]] w fun e w' =>
      e = .returned (.bool (if arg.length ≠ 1 then false else if v = 21 then ([83, 69, 65, 80, 82, 115, 101, 97, 112, 114] : Sp.Bs).contains (arg.getD 0 0) else ([73, 68, 105, 100] : Sp.Bs).contains (arg.getD 0 0))) ∧ Below w.heap.size w w' := by
  have hb0 : Below w.heap.size w (w.alloc (.cells #[.int .u8 n, str arg, .bool has] 79)) := (Below.refl _ _).alloc (Nat.le_refl _) _
  have HB := Lib.hid hb0
  clear hb0
  by_cases hlen : arg.length = 1
  · obtain ⟨c, rfl⟩ : ∃ c, arg = [c] := List.length_eq_one_iff.1 hlen
    rw [if_neg (by simp)]
    have hb1 : (⟨([c] : Sp.Bs).toArray⟩ : ByteArray)[0]'(by rw [str_size]; simp) = c := rfl
    have hsz : (⟨([c] : Sp.Bs).toArray⟩ : ByteArray).size = 1 := rfl
    have hh := fun (l : Sp.Bs) (W : World) (h : l.length ≤ 4611686018427387904) => refHolds_any l c W h
    change Calls _ _ _ _ fun e w' => e = .returned (.bool (if v = 21 then ([83, 69, 65, 80, 82, 115, 101, 97, 112, 114] : Sp.Bs).contains c else ([73, 68, 105, 100] : Sp.Bs).contains c)) ∧ _
    by_cases hv : v = 21
    · subst hv
      rw [if_pos rfl]
      have hk := fun W => hh [83, 69, 65, 80, 82, 115, 101, 97, 112, 114] W (by decide)
      generalize ([83, 69, 65, 80, 82, 115, 101, 97, 112, 114] : Sp.Bs).contains c = V at *
      have HK := Lib.hid hk
      clear hk hh hlen
      go_enter Tryz.func76, Tryz.ntmps76
      go_wp2_with (refine (HK.out _).mono ?_; rintro e w' ⟨rfl, rfl⟩)
      go_ret
      exact ⟨rfl, HB.out⟩
    · rw [if_neg hv]
      have hv2 : ((v : Int) == 21) = false := by rw [beq_eq_false_iff_ne]; omega
      have hk := fun W => hh [73, 68, 105, 100] W (by decide)
      generalize ([73, 68, 105, 100] : Sp.Bs).contains c = V at *
      have HK := Lib.hid hk
      clear hk hh hlen hv
      go_enter Tryz.func76, Tryz.ntmps76
      go_wp2_with (refine (HK.out _).mono ?_; rintro e w' ⟨rfl, rfl⟩)
      go_ret
      exact ⟨rfl, HB.out⟩
  · rw [if_pos hlen]
    have hsz := str_size arg
    have hne : ((arg.length : Int) != 1) = true := by simp; omega
    clear hlen
    go_enter Tryz.func76, Tryz.ntmps76
    go_wp2
    go_ret
    exact ⟨rfl, HB.out⟩
end

/-- may this stand behind that letter? -/
theorem refBehind_any (v : Nat) (f : Sp.FlagV) (w : World) (hl : f.arg.length ≤ 4611686018427387904) :
    Calls Tryz.prog 76 #[.int .i64 v, .agg (flagCells f).toArray] w fun e w' => e = .returned (.bool (behindR v f)) ∧ Below w.heap.size w w' := by
  obtain ⟨x, arg, has⟩ := f
  change Calls _ _ #[.int .i64 v, .agg #[.int .u8 (x.toNat : Nat), str arg, .bool has]] _ _
  have hx : ∀ c : UInt8, x = c ↔ x.toNat = c.toNat := fun c => UInt8.toNat_inj.symm
  unfold behindR
  dsimp only
  by_cases h1 : x.toNat = 79
  · rw [if_pos ((hx 79).2 h1), h1]; exact behind_key w hl
  rw [if_neg (fun h => h1 ((hx 79).1 h))]
  by_cases h2 : x.toNat = 84 ∨ x.toNat = 78
  · rw [if_pos (h2.imp (hx 84).2 (hx 78).2)]; exact behind_time w hl h2
  rw [if_neg (fun h => h2 (h.imp (hx 84).1 (hx 78).1))]
  by_cases h3 : x.toNat = 70
  · rw [if_pos ((hx 70).2 h3), h3]; exact behind_flags w hl
  rw [if_neg (fun h => h3 ((hx 70).1 h))]
  by_cases h4 : x.toNat = 82 ∨ x.toNat = 67 ∨ x.toNat = 68 ∨ x.toNat = 74
  · rw [if_pos (h4.imp (hx 82).2 (Or.imp (hx 67).2 (Or.imp (hx 68).2 (hx 74).2)))]; exact behind_number w hl h4
  rw [if_neg (fun h => h4 (h.imp (hx 82).1 (Or.imp (hx 67).1 (Or.imp (hx 68).1 (hx 74).1))))]
  exact behind_mode w hl (letter_ne h1) (letter_ne fun h => h2 (.inl h)) (letter_ne fun h => h2 (.inr h)) (letter_ne h3) (letter_ne fun h => h4 (.inl h)) (letter_ne fun h => h4 (.inr (.inl h))) (letter_ne fun h => h4 (.inr (.inr (.inl h)))) (letter_ne fun h => h4 (.inr (.inr (.inr h))))
end Go.Proofs.YticigfpieeoolaaGreatDoor
