/- Walks of package words: digits, number, time, legal. -/
import Derived.Test.YthgfjafnclklpaaGreatDoorW2
import Derived.Test.YthgfjafnclklpaaGreatDoorPl
import Derived.Test.YthgfjafnclklpaaGreatDoorGl
import Derived.Test.YthgfjafnclklpaaGreatDoorShelf
import Derived.Shelf.Strings.SlTrimAscii
import Derived.Lib.IfaceEq
import Derived.LaidEql
import Derived.Lib.SmallJoins
namespace Go.Proofs.YthgfjafnclklpaaGreatDoor
open Go.RowKit

theorem str_list (l : Sp.Bs) : (⟨l.toArray⟩ : ByteArray).data.toList = l := by simp
theorem str_size (l : Sp.Bs) : (⟨l.toArray⟩ : ByteArray).size = l.length := by simp [ByteArray.size]

theorem trim_any (l : Sp.Bs) (w : World) (hl : l.length ≤ 140737488355328) :
    Calls Tryz.prog 149 #[str l, .string ⟨#[48, 49, 50, 51, 52, 53, 54, 55, 56, 57]⟩] w fun e w' =>
      e = .returned (str (Lib.trimS l digitSet)) ∧ Below w.heap.size w w' :=
  (Any.strings_Trim_laid Tryz.lays160 (by kernel_rfl) ⟨l.toArray⟩ ⟨#[48, 49, 50, 51, 52, 53, 54, 55, 56, 57]⟩ w (by rw [str_size]; omega) (by decide) (ascii_of_all (by decide))).mono
    fun e w' ⟨h1, h2⟩ => ⟨by rw [h1]; rfl, h2⟩

theorem digits_any (l : Sp.Bs) (w : World) (hl : l.length ≤ 140737488355328) :
    Calls Tryz.prog 129 #[str l] w fun e w' => e = .returned (.bool (Sp.digits l)) ∧ Below w.heap.size w w' := by
  cases l with
  | nil =>
    go_enter Tryz.func129, Tryz.ntmps129
    go_wp2
    go_ret
    exact ⟨rfl, Below.refl _ _⟩
  | cons c t =>
    have hd : Sp.digits (c :: t) = (Lib.trimS (c :: t) digitSet).isEmpty := by
      rw [Bool.eq_iff_iff, digits_iff, List.isEmpty_iff, trim_digits]
      simp
    rw [hd]
    have hc := trim_any (c :: t) w hl
    generalize Lib.trimS (c :: t) digitSet = r at hc ⊢
    cases r with
    | nil =>
      have Hc := Lib.hid hc
      clear hc hd
      go_enter Tryz.func129, Tryz.ntmps129
      go_wp2_with fail
      refine Hc.out.mono ?_
      rintro e w' ⟨rfl, hb⟩
      go_wp2
      go_ret
      exact ⟨rfl, hb⟩
    | cons x y =>
      have Hc := Lib.hid hc
      clear hc hd
      go_enter Tryz.func129, Tryz.ntmps129
      go_wp2_with fail
      refine Hc.out.mono ?_
      rintro e w' ⟨rfl, hb⟩
      go_wp2
      go_ret
      exact ⟨rfl, hb⟩

/-- number where it is one -/
theorem number_yes (l : Sp.Bs) (most m : Nat) (w : World) (hl : l.length ≤ 140737488355328) (hm : most ≤ 18446744073709551615) (h : Sp.number l most = some m) :
    Calls Tryz.prog 109 #[str l, .int .u64 most] w fun e w' => e = .returned (.tuple #[.int .u64 m, .bool true]) ∧ Below w.heap.size w w' := by
  unfold Sp.number at h
  cases hd : Sp.digits l with
  | false => rw [hd] at h; simp at h
  | true =>
    rw [hd] at h
    simp only [Bool.true_and, decide_eq_true_eq] at h
    by_cases hv : Sp.val l ≤ most
    · rw [if_pos hv] at h
      injection h with h
      have h1 := digits_any l w hl
      rw [hd] at h1
      have h2 := fun wx => Tryz.strconv_ParseUint_10_at64_ok ⟨l.toArray⟩ (by rw [str_size]; omega) m (by rw [str_list, parseU_digits l hd, if_pos (by omega), h]) wx
      have hq : (m : Int) ≤ (most : Int) := by omega
      have H1 := Lib.hid h1
      have H2 := Lib.hid h2
      clear h1 h2 h hv hd hm
      go_enter Tryz.func109, Tryz.ntmps109
      go_wp2_with fail
      refine H1.out.mono ?_
      rintro e w1 ⟨rfl, hb1⟩
      go_wp2_with fail
      refine (H2.out w1).mono ?_
      rintro e w2 ⟨rfl, hw2⟩
      have hb2 : Below w1.heap.size w1 w2 := by
        rcases hw2 with rfl | rfl
        · exact Below.refl _ _
        · exact Joins.below_bytesWorld _ _ _ _ (Nat.le_refl _)
      clear hw2
      go_wp2
      go_ret2
      exact ⟨rfl, hb1.trans (hb2.mono hb1.size)⟩
    · rw [if_neg hv] at h; cases h

/-- what a call that told only new memory leaves: an answer of this shape -/
def NumNo (w : World) (e : Ending) (w' : World) : Prop := ∃ n : Int, e = .returned (.tuple #[.int .u64 n, .bool false]) ∧ Below w.heap.size w w'

/-- number where it is none -/
theorem number_no (l : Sp.Bs) (most : Nat) (w : World) (hl : l.length ≤ 140737488355328) (hw : Glob w) (h : Sp.number l most = none) :
    Calls Tryz.prog 109 #[str l, .int .u64 most] w (NumNo w) := by
  unfold Sp.number at h
  have h1 := digits_any l w hl
  cases hd : Sp.digits l with
  | false =>
    rw [hd] at h1
    have H1 := Lib.hid h1
    clear h1 h hd
    go_enter Tryz.func109, Tryz.ntmps109
    go_wp2_with fail
    refine H1.out.mono ?_
    rintro e w1 ⟨rfl, hb1⟩
    go_wp2
    go_ret2
    exact ⟨0, rfl, hb1⟩
  | true =>
    rw [hd] at h h1
    simp only [Bool.true_and, decide_eq_true_eq] at h
    by_cases hv : Sp.val l ≤ most
    · rw [if_pos hv] at h; cases h
    · by_cases hv2 : Sp.val l ≤ 18446744073709551615
      · have h2 := fun wx => Tryz.strconv_ParseUint_10_at64_ok ⟨l.toArray⟩ (by rw [str_size]; omega) (Sp.val l) (by rw [str_list, parseU_digits l hd, if_pos hv2]) wx
        have hq : decide (Sp.val l ≤ most) = false := by simpa using hv
        generalize Sp.val l = v at h2 hq
        have H1 := Lib.hid h1
        have H2 := Lib.hid h2
        clear h1 h2 h hv hd hv2
        go_enter Tryz.func109, Tryz.ntmps109
        go_wp2_with fail
        refine H1.out.mono ?_
        rintro e w1 ⟨rfl, hb1⟩
        go_wp2_with fail
        refine (H2.out w1).mono ?_
        rintro e w2 ⟨rfl, hw2⟩
        have hb2 : Below w1.heap.size w1 w2 := by
          rcases hw2 with rfl | rfl
          · exact Below.refl _ _
          · exact Joins.below_bytesWorld _ _ _ _ (Nat.le_refl _)
        clear hw2
        go_wp2
        go_ret2
        exact ⟨_, rfl, hb1.trans (hb2.mono hb1.size)⟩
      · have hr : Lib.parseUintB 64 (⟨l.toArray⟩ : ByteArray).data.toList = .range := by rw [str_list, parseU_digits l hd, if_neg hv2]
        have h2 := fun wx ev hv hev => Tryz.strconv_ParseUint_10_at64_range ⟨l.toArray⟩ (by rw [str_size]; omega) hr ev wx hv hev
        have H1 := Lib.hid h1
        have H2 := Lib.hid h2
        clear h1 h2 h hv hd hv2 hr
        have Hw := Lib.hid hw
        clear hw
        go_enter Tryz.func109, Tryz.ntmps109
        go_wp2_with fail
        refine H1.out.mono ?_
        rintro e w1 ⟨rfl, hb1⟩
        go_wp2_with fail
        obtain ⟨ev, he1, he2⟩ := (Hw.out.later hb1).errRange
        refine (H2.out w1 ev he1 he2).mono ?_
        rintro e w2 ⟨N, rfl, hN, hblk, hb2⟩
        have Hblk := Lib.hid hblk
        clear hblk he1 he2
        go_wp2
        go_ret2
        exact ⟨_, rfl, hb1.trans (hb2.mono hb1.size)⟩

def TimeNo (w : World) (e : Ending) (w' : World) : Prop := ∃ n : Int, e = .returned (.tuple #[.int .i64 n, .bool false]) ∧ Below w.heap.size w w'

theorem dash_any (l : Sp.Bs) (w : World) : Calls Tryz.prog 156 #[str l, .string ⟨#[45]⟩] w fun e w' => e = .returned (str (Lib.trimPrefix l [45])) ∧ w = w' :=
  (Tryz.strings_TrimPrefix ⟨l.toArray⟩ ⟨#[45]⟩ w).mono fun e w' ⟨h1, h2⟩ => ⟨by rw [h1], h2.symm⟩

theorem dash_len (l : Sp.Bs) : (Lib.trimPrefix l [45]).length ≤ l.length := by
  unfold Lib.trimPrefix
  split <;> simp

/-- time, where ParseInt reads a number: its value, and whether digits stand behind the sign -/
theorem time_ok (l : Sp.Bs) (v : Int) (b : Bool) (w : World) (hl : l.length ≤ 140737488355328) (h : Lib.parseIntB 64 l = .ok v) (hd : Sp.digits (Lib.trimPrefix l [45]) = b) :
    Calls Tryz.prog 134 #[str l] w fun e w' => e = .returned (.tuple #[.int .i64 v, .bool b]) ∧ Below w.heap.size w w' := by
  have h1 := fun wx => Tryz.strconv_ParseInt_10_at64_ok ⟨l.toArray⟩ (by rw [str_size]; omega) v (by rw [str_list]; exact h) wx
  have h2 := fun wx => dash_any l wx
  have h3 := fun wx => digits_any (Lib.trimPrefix l [45]) wx (by have := dash_len l; omega)
  rw [hd] at h3
  generalize Lib.trimPrefix l [45] = t at h2 h3
  have hconv : IntKind.i64.wrap v = v := by
    rw [IntKind.wrap_i64]
    have hb : -9223372036854775808 ≤ v ∧ v ≤ 9223372036854775807 := parseI_bound l v h
    omega
  have H1 := Lib.hid h1
  have H2 := Lib.hid h2
  have H3 := Lib.hid h3
  have HC := Lib.hid hconv
  clear h1 h2 h3 h hd hconv
  go_enter Tryz.func134, Tryz.ntmps134
  go_wp2_with fail
  refine (H1.out w).mono ?_
  rintro e w1 ⟨rfl, hw1⟩
  have hb1 : Below w.heap.size w w1 := by
    rcases hw1 with rfl | ⟨t, rfl⟩
    · exact Below.refl _ _
    · exact Joins.below_bytesWorld _ _ _ _ (Nat.le_refl _)
  clear hw1
  go_wp2_with fail
  refine (H2.out w1).mono ?_
  rintro e w2 ⟨rfl, rfl⟩
  go_wp2_with fail
  refine (H3.out w1).mono ?_
  rintro e w2 ⟨rfl, hb2⟩
  go_wp2
  go_ret2
  exact ⟨rfl, hb1.trans (hb2.mono hb1.size)⟩

theorem time_no (l : Sp.Bs) (w : World) (hl : l.length ≤ 140737488355328) (hw : Glob w) (h : ∀ v, Lib.parseIntB 64 l ≠ .ok v) :
    Calls Tryz.prog 134 #[str l] w (TimeNo w) := by
  cases hp : Lib.parseIntB 64 l with
  | ok v => exact absurd hp (h v)
  | range =>
    obtain ⟨ev, he1, he2⟩ := hw.errRange
    have h1 := Tryz.strconv_ParseInt_10_at64_range ⟨l.toArray⟩ (by rw [str_size]; omega) (by rw [str_list]; exact hp) ev w he1 he2
    generalize Lib.intSat 64 (⟨l.toArray⟩ : ByteArray).data.toList = q at h1
    have H1 := Lib.hid h1
    clear h1 h hp hw he1 he2
    go_enter Tryz.func134, Tryz.ntmps134
    go_wp2_with fail
    refine H1.out.mono ?_
    rintro e w1 ⟨N, rfl, hN, hblk, hb1⟩
    have Hblk := Lib.hid hblk
    clear hblk
    go_wp2
    go_ret2
    exact ⟨_, rfl, hb1⟩
  | _ =>
    obtain ⟨ev, he1, he2⟩ := hw.errSyntax
    have h1 := Tryz.strconv_ParseInt_10_at64_bad ⟨l.toArray⟩ (by rw [str_size]; omega) (by rw [str_list]; exact hp.trans rfl) ev w he1 he2
    have H1 := Lib.hid h1
    clear h1 h hp hw he1 he2
    go_enter Tryz.func134, Tryz.ntmps134
    go_wp2_with fail
    refine H1.out.mono ?_
    rintro e w1 ⟨N, rfl, hN, hblk, hb1⟩
    have Hblk := Lib.hid hblk
    clear hblk
    go_wp2
    go_ret2
    exact ⟨_, rfl, hb1⟩

theorem time_yes (l : Sp.Bs) (v : Int) (w : World) (hl : l.length ≤ 140737488355328) (h : Sp.timeOf l = some v) :
    Calls Tryz.prog 134 #[str l] w fun e w' => e = .returned (.tuple #[.int .i64 v, .bool true]) ∧ Below w.heap.size w w' := by
  rw [timeOf_parse] at h
  cases hp : Lib.parseIntB 64 l with
  | ok u =>
    rw [hp] at h
    dsimp only at h
    cases hd : Sp.digits (Lib.trimPrefix l [45]) with
    | true => rw [hd] at h; simp at h; subst h; exact time_ok l u true w hl hp hd
    | false => rw [hd] at h; simp at h
  | _ => rw [hp] at h; cases h

theorem time_none (l : Sp.Bs) (w : World) (hl : l.length ≤ 140737488355328) (hw : Glob w) (h : Sp.timeOf l = none) : Calls Tryz.prog 134 #[str l] w (TimeNo w) := by
  rw [timeOf_parse] at h
  cases hp : Lib.parseIntB 64 l with
  | ok u =>
    rw [hp] at h
    dsimp only at h
    cases hd : Sp.digits (Lib.trimPrefix l [45]) with
    | true => rw [hd] at h; simp at h
    | false => exact (time_ok l u false w hl hp hd).mono fun e w' ⟨h1, h2⟩ => ⟨u, h1, h2⟩
  | _ => exact time_no l w hl hw (fun v h' => by rw [hp] at h'; cases h')

theorem legal_any (l : Sp.Bs) (w : World) (hl : l.length ≤ 140737488355328) :
    Calls Tryz.prog 131 #[str l] w fun e w' => e = .returned (.bool (Sp.legal l)) ∧ Below w.heap.size w w' := by
  have hp : PredAt Tryz.prog 153 #[] encR offKey w := fun W r _ => (legal1_any r W).mono fun e w' ⟨h1, h2⟩ => ⟨h1, 0, h2.symm⟩
  have h1 := Tryz.strings_IndexFunc 153 #[] (enters_of Tryz.func153 (by kernel_rfl) rfl) offKey ⟨l.toArray⟩ w hp
  have hk := idx_key ⟨l.toArray⟩
  rw [str_list] at hk
  unfold Sp.legal
  rw [← hk]
  generalize Lib.idxFunc offKey true ⟨l.toArray⟩ = r at h1
  by_cases hn : l.length ≤ 250
  · have hn' : decide (l.length ≤ 250) = true := by simpa using hn
    rw [hn', Bool.true_and]
    have H1 := Lib.hid h1
    clear h1 hk hp hn'
    go_enter Tryz.func131, Tryz.ntmps131
    go_wp2_with fail
    refine H1.out.mono ?_
    rintro e w1 ⟨rfl, hb1⟩
    go_wp2
    go_ret
    exact ⟨rfl, hb1⟩
  · have hn' : decide (l.length ≤ 250) = false := by simpa using hn
    rw [hn', Bool.false_and]
    have hs : 250 < l.length := by omega
    clear h1 hk hp hn' hn
    go_enter Tryz.func131, Tryz.ntmps131
    go_wp2
    go_ret
    exact ⟨rfl, Below.refl _ _⟩
end Go.Proofs.YthgfjafnclklpaaGreatDoor
