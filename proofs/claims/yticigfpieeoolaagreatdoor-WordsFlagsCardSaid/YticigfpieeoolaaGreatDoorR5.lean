/- Flags of any verb, negative ones too: the program's and the document's. -/
import Derived.Test.YticigfpieeoolaaGreatDoorR4
import Derived.Test.YticigfpieeoolaaGreatDoorW6
namespace Go.Proofs.YticigfpieeoolaaGreatDoor
attribute [local go_sem ↓] Go.wp_at_zero Go.wp_at_succ
open Go.RowKit

/-- what Flags tells -/
def flagsOfI (v : Int) (l : List Sp.FlagV) : Sp.Bs := if v < 0 then (if l = [] then [] else Sp.invalidFlag) else Sp.flagsOf v.toNat l

section
set_option maxHeartbeats 4000000
set_option maxRecDepth 100000
theorem letters_neg (v : Int) (h : v < 0) (w : World) : Calls Tryz.prog 117 #[.int .i64 v] w fun e w' => e = .returned (.tuple #[str [], str []]) ∧ w = w' := by
  have g1 : ((v : Int) == 20) = false := by rw [beq_eq_false_iff_ne]; omega
  have g2 : ((v : Int) == 21) = false := by rw [beq_eq_false_iff_ne]; omega
  have g3 : ((v : Int) == 22) = false := by rw [beq_eq_false_iff_ne]; omega
  have g4 : ((v : Int) == 23) = false := by rw [beq_eq_false_iff_ne]; omega
  clear h
  go_enter Tryz.func117, Tryz.ntmps117; go_wp2; go_ret2; exact ⟨rfl, rfl⟩
theorem refLetters_neg (v : Int) (h : v < 0) (w : World) : Calls Tryz.prog 74 #[.int .i64 v] w fun e w' => e = .returned (.tuple #[str [], str []]) ∧ w = w' := by
  have g1 : ((v : Int) == 20) = false := by rw [beq_eq_false_iff_ne]; omega
  have g2 : ((v : Int) == 21) = false := by rw [beq_eq_false_iff_ne]; omega
  have g3 : ((v : Int) == 22) = false := by rw [beq_eq_false_iff_ne]; omega
  have g4 : ((v : Int) == 23) = false := by rw [beq_eq_false_iff_ne]; omega
  clear h
  go_enter Tryz.func74, Tryz.ntmps74; go_wp2; go_ret2; exact ⟨rfl, rfl⟩
theorem flag_neg (v : Int) (h : v < 0) (f : Sp.FlagV) (A : Option Addr) (n cap : Nat) (w : World) :
    Calls Tryz.prog 73 #[.int .i64 v, .slice A n cap, flagV f] w fun e w' => e = .returned (str Sp.invalidFlag) ∧ Below w.heap.size w w' := by
  obtain ⟨L, a, H⟩ := f
  have h1 := fun wx => letters_neg v h wx
  have h2 := fun wx => idx_byte [] L wx
  have e0 : Lib.indexByte ([] : Sp.Bs) L = -1 := by rfl
  rw [e0] at h2
  have H1 := Lib.hid h1
  have H2 := Lib.hid h2
  clear h1 h2 e0
  go_enter Tryz.func73, Tryz.ntmps73
  go_wp2_with fail
  refine (H1.out _).mono ?_
  rintro e w1 ⟨rfl, rfl⟩
  go_wp2_with fail
  refine (H2.out _).mono ?_
  rintro e w1 ⟨rfl, rfl⟩
  go_wp2_with fail
  refine (H2.out _).mono ?_
  rintro e w1 ⟨rfl, rfl⟩
  go_wp2
  go_ret
  exact ⟨rfl, (Below.refl _ w).alloc (Nat.le_refl _) _⟩
theorem Flags_neg (v : Int) (h : v < 0) (l : List Sp.FlagV) (A : Option Addr) (cap : Nat) (w : World) (hA : RowAt w A (flagsCells l)) (hc : l.length ≤ cap) (hn : l.length ≤ 140737488355328) :
    Calls Tryz.prog 35 #[.int .i64 v, .slice A l.length cap] w fun e w' => e = .returned (str (if l = [] then [] else Sp.invalidFlag)) ∧ Below w.heap.size w w' := by
  have hf := fun (f : Sp.FlagV) (B : Option Addr) (n c : Nat) (W : World) => flag_neg v h f B n c W
  have HF := Lib.hid hf
  have HA := Lib.hid hA
  clear hf hA h
  go_enter Tryz.func35, Tryz.ntmps35
  go_wp2
  go_loopw [10] (fun i wr => i = .int .i64 0 ∧ wr = w) (fun i _ => 0)
  case atStart => exact ⟨rfl, rfl⟩
  case round =>
    obtain ⟨rfl, rfl⟩ := hrel
    cases l with
    | nil =>
      go_wp2
      go_ret
      exact ⟨rfl, Below.refl _ _⟩
    | cons f t =>
      obtain ⟨b, o, rfl, hb, x0, x1, x2⟩ := HA.out.flag (i := 0) (f := f) rfl
      rw [Nat.zero_mul, Nat.add_zero] at x0
      rw [Nat.zero_mul, Nat.add_zero] at x1 x2
      have hlen : (f :: t).length = t.length + 1 := rfl
      have hl0 : (0 : Int) < ((f :: t).length : Int) := by rw [hlen]; omega
      obtain ⟨n, hn'⟩ : ∃ n, n = (f :: t).length := ⟨_, rfl⟩
      have HN := Lib.hid hn'
      rw [← hn'] at hl0 hn hc
      clear hlen hn'
      rw [← HN.out]
      go_wp2
      go_region_with (go_at_call 73; refine (HF.out _ _ _ _ _).mono ?_; rintro e w1 ⟨rfl, hb1⟩)
      all_goals
        have hbw : Below wr.heap.size wr w1 := ((below_box wr _)).trans (hb1.mono (by simp))
        clear hb1
        go_wp2
        go_ret
        exact ⟨rfl, hbw⟩
theorem refFlags_neg (v : Int) (h : v < 0) (l : List Sp.FlagV) (A : Option Addr) (cap : Nat) (w : World) (hA : RowAt w A (flagsCells l)) (hn : l.length ≤ 4611686018427387904) :
    Calls Tryz.prog 36 #[.int .i64 v, .slice A l.length cap] w fun e w' => e = .returned (str (if l = [] then [] else Sp.invalidFlag)) ∧ Below w.heap.size w w' := by
  have hf := fun (W : World) => refLetters_neg v h W
  have hh := fun (c : UInt8) (W : World) => refHolds_any [] c W (by decide)
  have HF := Lib.hid hf
  have HH := Lib.hid hh
  have HA := Lib.hid hA
  clear hf hA h hh
  go_enter Tryz.func36, Tryz.ntmps36
  go_wp2_with (refine (HF.out _).mono ?_; rintro e w' ⟨rfl, rfl⟩)
  go_loopw [7] (fun i wr => i = .int .i64 0 ∧ wr = w) (fun i _ => 0)
  case atStart => exact ⟨rfl, rfl⟩
  case round =>
    obtain ⟨rfl, rfl⟩ := hrel
    cases l with
    | nil =>
      go_wp2
      go_ret
      exact ⟨rfl, Below.refl _ _⟩
    | cons f t =>
      obtain ⟨b, o, rfl, hb, x0, x1, x2⟩ := HA.out.flag (i := 0) (f := f) rfl
      rw [Nat.zero_mul, Nat.add_zero] at x0
      rw [Nat.zero_mul, Nat.add_zero] at x1 x2
      obtain ⟨x, arg, has⟩ := f
      dsimp only at x0 x1 x2
      have hhx := fun W : World => HH.out x W
      have e0 : ([] : Sp.Bs).contains x = false := rfl
      rw [e0] at hhx
      have HHX := Lib.hid hhx
      obtain ⟨n, hn'⟩ : ∃ n, n = ((⟨x, arg, has⟩ : Sp.FlagV) :: t).length := ⟨_, rfl⟩
      have hl0 : (0 : Int) < (n : Int) := by rw [hn', List.length_cons]; omega
      have HN := Lib.hid hn'
      clear hhx e0 hn'
      rw [← HN.out]
      go_wp2_with (refine (HHX.out _).mono ?_; rintro e w' ⟨rfl, rfl⟩)
      go_ret
      exact ⟨rfl, below_one _ _⟩
end

theorem Flags_int (v : Int) (l : List Sp.FlagV) (A : Option Addr) (cap : Nat) (w : World) (hg : Glob w) (hA : RowAt w A (flagsCells l)) (hc : l.length ≤ cap) (hn : l.length ≤ 140737488355328) (hl : ∀ f ∈ l, f.arg.length ≤ 140737488355328) :
    Calls Tryz.prog 35 #[.int .i64 v, .slice A l.length cap] w fun e w' => e = .returned (str (flagsOfI v l)) ∧ Below w.heap.size w w' := by
  unfold flagsOfI
  by_cases h : v < 0
  · rw [if_pos h]; exact Flags_neg v h l A cap w hA hc hn
  · rw [if_neg h]
    obtain ⟨n, rfl⟩ := Int.eq_ofNat_of_zero_le (Int.not_lt.1 h)
    exact Flags_any n l A cap w hg hA hc hn hl
theorem refFlags_int (v : Int) (l : List Sp.FlagV) (A : Option Addr) (cap : Nat) (w : World) (hA : RowAt w A (flagsCells l)) (hn : l.length ≤ 4611686018427387904) (hl : ∀ f ∈ l, f.arg.length ≤ 4611686018427387904) :
    Calls Tryz.prog 36 #[.int .i64 v, .slice A l.length cap] w fun e w' => e = .returned (str (flagsOfI v l)) ∧ Below w.heap.size w w' := by
  unfold flagsOfI
  by_cases h : v < 0
  · rw [if_pos h]; exact refFlags_neg v h l A cap w hA hn
  · rw [if_neg h]
    obtain ⟨n, rfl⟩ := Int.eq_ofNat_of_zero_le (Int.not_lt.1 h)
    exact refFlags_any n l A cap w hA hn hl
end Go.Proofs.YticigfpieeoolaaGreatDoor
