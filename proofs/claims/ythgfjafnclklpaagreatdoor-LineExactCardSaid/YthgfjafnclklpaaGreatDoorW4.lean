/- Walks of package words: want, behind. -/
import Derived.Test.YthgfjafnclklpaaGreatDoorW3
import Derived.Deep.QuietTactic
import Derived.BigQuiet
namespace Go.Proofs.YthgfjafnclklpaaGreatDoor
open Go.RowKit

/-- the line is given up: what is thrown -/
abbrev thrown (text : Sp.Bs) (pass : Int) : Ending := .panicked [{ v := .iface 112 (.agg #[.int .i64 2, str text, .int .i64 pass]), recovered := false }]

theorem want_yes (b : Nat) (l text : Sp.Bs) (most m : Nat) (w : World) (hl : l.length ≤ 140737488355328) (hm : most ≤ 18446744073709551615) (h : Sp.number l most = some m) :
    Calls Tryz.prog 132 #[.pointer (some ⟨b, 0, none⟩), str l, .int .u64 most, str text] w fun e w' => e = .returned (.int .u64 m) ∧ Below w.heap.size w w' := by
  have h1 := number_yes l most m w hl hm h
  have H1 := Lib.hid h1
  clear h1 h
  go_enter Tryz.func132, Tryz.ntmps132
  go_wp2_with fail
  refine H1.out.mono ?_
  rintro e w1 ⟨rfl, hb1⟩
  go_wp2
  go_ret
  exact ⟨rfl, hb1⟩

theorem want_no (b : Nat) (l text : Sp.Bs) (most : Nat) (pass : Int) (w : World) (hl : l.length ≤ 140737488355328) (hw : Glob w) (hp : w.cell? ⟨b, 12, none⟩ = some (.int .i64 pass)) (hb : b < w.heap.size)
    (h : Sp.number l most = none) :
    Calls Tryz.prog 132 #[.pointer (some ⟨b, 0, none⟩), str l, .int .u64 most, str text] w fun e w' => e = thrown text pass ∧ Below w.heap.size w w' := by
  have h1 := number_no l most w hl hw h
  have H1 := Lib.hid h1
  have Hp := Lib.hid hp
  clear h1 h hp hw
  go_enter Tryz.func132, Tryz.ntmps132
  go_wp2_with fail
  refine H1.out.mono ?_
  rintro e w1 ⟨n, rfl, hb1⟩
  go_wp2_with fail
  refine (fail_any b pass _ w1 ((hb1.cell (p := ⟨b, 12, none⟩) hb).trans Hp.out)).mono ?_
  rintro e w2 ⟨rfl, rfl⟩
  go_wp2
  exact ⟨rfl, rfl, hb1⟩

theorem u8_ne {L k : UInt8} (h : L ≠ k) : (((L.toNat : Nat) : Int) == ((k.toNat : Nat) : Int)) = false := by
  simp only [beq_eq_false_iff_ne, ne_eq]
  intro e
  apply h
  apply UInt8.toNat_inj.1
  omega

/-- a flag as it lies in memory -/
abbrev flagV (f : Sp.FlagV) : Value := .agg #[.int .u8 f.letter.toNat, str f.arg, .bool f.has]

theorem contains_byte (l : Sp.Bs) (c : UInt8) : decide (0 ≤ Lib.indexByte l c) = l.contains c := (Lib.contains_iff_indexByte l c).symm

theorem below_drawn {B : Nat} {a w : World} (n : Nat) (h : Below B a w) : Below B a (w.drewN n) := ⟨h.os, h.tape, h.output, h.size, h.block⟩
theorem below_after {w w1 : World} (o : Obj) (h : Below (w.alloc o).heap.size (w.alloc o) w1) : Below w.heap.size w w1 :=
  ((Below.refl _ w).alloc (Nat.le_refl _) o).trans (h.mono (by simp))

/-- a call for the answer's bool alone -/
theorem number_flag (l : Sp.Bs) (most : Nat) (w : World) (hl : l.length ≤ 140737488355328) (hm : most ≤ 18446744073709551615) (hw : Glob w) :
    Calls Tryz.prog 109 #[str l, .int .u64 most] w fun e w' => ∃ n : Int, e = .returned (.tuple #[.int .u64 n, .bool (Sp.number l most).isSome]) ∧ Below w.heap.size w w' := by
  cases h : Sp.number l most with
  | none => exact (number_no l most w hl hw h).mono fun e w' h => h
  | some m => exact (number_yes l most m w hl hm h).mono fun e w' ⟨h1, h2⟩ => ⟨m, h1, h2⟩

theorem time_flag (l : Sp.Bs) (w : World) (hl : l.length ≤ 140737488355328) (hw : Glob w) :
    Calls Tryz.prog 134 #[str l] w fun e w' => ∃ n : Int, e = .returned (.tuple #[.int .i64 n, .bool (Sp.timeOf l).isSome]) ∧ Below w.heap.size w w' := by
  cases h : Sp.timeOf l with
  | none => exact (time_none l w hl hw h).mono fun e w' h => h
  | some m => exact (time_yes l m w hl h).mono fun e w' ⟨h1, h2⟩ => ⟨m, h1, h2⟩

theorem modes_same (v : Nat) (w : World) : Calls Tryz.prog 192 #[.int .i64 v] w fun e w' => e = .returned (str (Sp.modes v)) ∧ w' = w :=
  (modes_any v w).mono fun _ _ ⟨h1, h2⟩ => ⟨h1, h2.symm⟩

set_option maxHeartbeats 2000000 in
theorem behind_any (v : Nat) (f : Sp.FlagV) (w : World) (hl : f.arg.length ≤ 140737488355328) (hw : Glob w) :
    Calls Tryz.prog 180 #[.int .i64 v, flagV f] w fun e w' => e = .returned (.bool (Sp.behind v f)) ∧ Below w.heap.size w w' := by
  obtain ⟨L, A, H⟩ := f
  dsimp only at hl
  unfold Sp.behind flagV
  dsimp only
  have hnum := fun (most : Nat) (hm : most ≤ 18446744073709551615) wx hg => number_flag A most wx hl hm hg
  have htim := fun wx hg => time_flag A wx hl hg
  have hleg := fun wx => legal_any A wx hl
  have Hg := fun o => hw.alloc o
  have Hnum := Lib.hid hnum
  have Htim := Lib.hid htim
  have Hleg := Lib.hid hleg
  have HG := Lib.hid Hg
  clear hnum htim hleg Hg hw
  by_cases h79 : L = 79
  · subst h79
    rw [if_pos rfl]
    go_enter Tryz.func180, Tryz.ntmps180
    go_wp2_with fail
    refine (Hleg.out _).mono ?_
    rintro e w1 ⟨rfl, hb1⟩
    go_wp2
    go_ret
    exact ⟨rfl, below_after _ hb1⟩
  rw [if_neg h79]
  have t79 := u8_ne h79
  change ((L.toNat : Int) == 79) = false at t79
  by_cases h84 : L = 84
  · subst h84
    rw [if_pos (.inl rfl)]
    go_enter Tryz.func180, Tryz.ntmps180
    go_wp2_with fail
    refine (Htim.out _ (HG.out _)).mono ?_
    rintro e w1 ⟨n, rfl, hb1⟩
    go_wp2
    go_ret
    exact ⟨rfl, below_after _ hb1⟩
  have t84 := u8_ne h84
  change ((L.toNat : Int) == 84) = false at t84
  by_cases h78 : L = 78
  · subst h78
    rw [if_pos (.inr rfl)]
    go_enter Tryz.func180, Tryz.ntmps180
    go_wp2_with fail
    refine (Htim.out _ (HG.out _)).mono ?_
    rintro e w1 ⟨n, rfl, hb1⟩
    go_wp2
    go_ret
    exact ⟨rfl, below_after _ hb1⟩
  rw [if_neg (by rintro (h | h); exact h84 h; exact h78 h)]
  have t78 := u8_ne h78
  change ((L.toNat : Int) == 78) = false at t78
  by_cases h70 : L = 70
  · subst h70
    rw [if_pos rfl]
    go_enter Tryz.func180, Tryz.ntmps180
    go_wp2_with fail
    refine (Hnum.out 4294967295 (by decide) _ (HG.out _)).mono ?_
    rintro e w1 ⟨n, rfl, hb1⟩
    go_wp2
    go_ret
    exact ⟨rfl, below_after _ hb1⟩
  rw [if_neg h70]
  have t70 := u8_ne h70
  change ((L.toNat : Int) == 70) = false at t70
  by_cases h77 : L = 77
  · subst h77
    rw [if_pos rfl]
    match A, hl with
    | [], _ =>
      dsimp only
      go_enter Tryz.func180, Tryz.ntmps180
      go_wp2
      go_quiet (fail)
      go_wp2
      go_ret
      exact ⟨rfl, below_drawn _ ((Below.refl _ w).alloc (Nat.le_refl _) _)⟩
    | [c], _ =>
      dsimp only
      have hmod := fun wx => modes_same v wx
      have hcon := fun wx => (Tryz.strings_Contains_one ⟨(Sp.modes v).toArray⟩ c wx)
      rw [str_list, contains_byte] at hcon
      generalize Sp.modes v = M at hmod hcon ⊢
      generalize M.contains c = q at hcon ⊢
      have Hmod := Lib.hid hmod
      have Hcon := Lib.hid hcon
      clear hmod hcon
      go_enter Tryz.func180, Tryz.ntmps180
      go_wp2
      go_quiet (first | (go_at_call 192; exact Calls.quiet_of_same (Hmod.out _)) | (go_at_call 191; exact Calls.quiet_of_same (Hcon.out _)))
      go_wp2
      go_ret
      exact ⟨rfl, below_drawn _ ((Below.refl _ w).alloc (Nat.le_refl _) _)⟩
    | a :: b :: t, _ =>
      dsimp only
      have hlen : 2 ≤ (a :: b :: t).length := by simp
      have hlen2 : (((a :: b :: t).length : Int) == 1) = false := by simp; omega
      go_enter Tryz.func180, Tryz.ntmps180
      go_wp2
      go_quiet (fail)
      go_wp2
      go_ret
      exact ⟨rfl, below_drawn _ ((Below.refl _ w).alloc (Nat.le_refl _) _)⟩
  rw [if_neg h77]
  have t77 := u8_ne h77
  change ((L.toNat : Int) == 77) = false at t77
  go_enter Tryz.func180, Tryz.ntmps180
  go_wp2_with fail
  refine (Hnum.out 18446744073709551615 (by decide) _ (HG.out _)).mono ?_
  rintro e w1 ⟨n, rfl, hb1⟩
  go_wp2
  go_ret
  exact ⟨rfl, below_after _ hb1⟩
end Go.Proofs.YthgfjafnclklpaaGreatDoor
