/- Walks of package reply: legal, flag, name, plain. Printed by gen/genV3.py. Walk of package reply: plain. Walks of package reply: refusal's predicate. -/
import Derived.Test.YtnbeeehfapjpdaaGreatDoorV1
import Derived.Test.YtnbeeehfapjpdaaGreatDoorPl
import Derived.Test.YtnbeeehfapjpdaaGreatDoorShelf
import Derived.Lib.TrimByte
section
namespace Go.Proofs.YtnbeeehfapjpdaaGreatDoor
open Go.RowKit

theorem strR_list (l : Sp.Bs) : (⟨l.toArray⟩ : ByteArray).data.toList = l := by simp
theorem strR_size (l : Sp.Bs) : (⟨l.toArray⟩ : ByteArray).size = l.length := by simp [ByteArray.size]
open Lib in
/-- a predicate that every rune above 127 meets -/
theorem idx_high {off : Nat → Bool} (hhi : ∀ c, 128 ≤ c → off c = true) (s : ByteArray) : ∀ (f pos : Nat), s.size ≤ pos + f → (decide (idxFuncFrom off true s f pos < 0)) = (s.data.toList.drop pos).all fun c => !off c.toNat
  | 0, pos, h => by
    rw [List.drop_eq_nil_of_le (by rw [bytes_size]; omega)]
    simp [idxFuncFrom]
  | f + 1, pos, h => by
    unfold idxFuncFrom
    by_cases hp : pos < s.size
    · rw [if_pos hp]
      have hl : pos < s.data.toList.length := by rw [bytes_size]; exact hp
      by_cases hb : (s.data.toList.getD pos 0).toNat < 128
      · rw [dec_low s pos hb]
        dsimp only
        rw [drop_cons hl, List.all_cons, ← idx_high hhi s f (pos + 1) (by omega)]
        cases hk : off (s.data.toList.getD pos 0).toNat
        · simp
        · simp
      · obtain ⟨h1, h2, h3, h4⟩ := dec_high s pos hp (by omega)
        rw [hhi _ h1]
        rw [drop_cons hl, List.all_cons, hhi _ (by omega)]
        simp
    · rw [if_neg hp, List.drop_eq_nil_of_le (by rw [bytes_size]; omega)]
      simp
theorem idx_high0 {off : Nat → Bool} (hhi : ∀ c, 128 ≤ c → off c = true) (l : Sp.Bs) : decide (Lib.idxFunc off true ⟨l.toArray⟩ < 0) = l.all fun c => !off c.toNat := by
  have := idx_high hhi ⟨l.toArray⟩ (⟨l.toArray⟩ : ByteArray).size 0 (by omega)
  rw [List.drop_zero, strR_list] at this
  exact this
def offPlain (c : Nat) : Bool := decide ((c : Int) < 32) || decide (126 < (c : Int))
def offName (c : Nat) : Bool := decide ((c : Int) ≤ 32) || decide (126 < (c : Int))
theorem plain_byte (c : UInt8) : (!offPlain c.toNat) = decide (32 ≤ c ∧ c ≤ 126) := by
  unfold offPlain
  rw [Bool.eq_iff_iff, decide_eq_true_eq, UInt8.le_iff_toNat_le, UInt8.le_iff_toNat_le]
  have e1 : (32 : UInt8).toNat = 32 := rfl
  have e2 : (126 : UInt8).toNat = 126 := rfl
  rw [e1, e2]
  simp only [Bool.not_eq_true', Bool.or_eq_false_iff, decide_eq_false_iff_not]
  omega
theorem name_byte (c : UInt8) : (!offName c.toNat) = decide (32 < c ∧ c ≤ 126) := by
  unfold offName
  rw [Bool.eq_iff_iff, decide_eq_true_eq, UInt8.lt_iff_toNat_lt, UInt8.le_iff_toNat_le]
  have e1 : (32 : UInt8).toNat = 32 := rfl
  have e2 : (126 : UInt8).toNat = 126 := rfl
  rw [e1, e2]
  simp only [Bool.not_eq_true', Bool.or_eq_false_iff, decide_eq_false_iff_not]
  omega
theorem key_byte (c : UInt8) : Sp.keyByte c = !Sp.oddV c := by
  unfold Sp.keyByte Sp.oddV
  have e1 : (32 : UInt8).toNat = 32 := rfl
  have e2 : (127 : UInt8).toNat = 127 := rfl
  rw [Bool.eq_iff_iff]
  simp only [Bool.and_eq_true, Bool.not_eq_true', decide_eq_true_eq, decide_eq_false_iff_not, not_or]
  rw [UInt8.le_iff_toNat_le, e1]
  constructor
  · rintro ⟨h1, h2⟩
    exact ⟨by omega, fun e => h2 (by rw [e]; rfl)⟩
  · rintro ⟨h1, h2⟩
    exact ⟨by omega, fun e => h2 (UInt8.toNat.inj (e.trans e2.symm))⟩
theorem key_bytes (l : Sp.Bs) : l.all Sp.keyByte = l.all fun c => !Sp.oddV c := by
  congr 1
  funext c
  exact key_byte c
/-- not trimmed: no blank at either end -/
theorem trim_blank {s : Sp.Bs} (hs : s ≠ []) : (s == Lib.trimB s 32) = decide (s.head? ≠ some 32 ∧ s.getLast? ≠ some 32) := by
  have hlen : ∀ l : Sp.Bs, (Lib.trimLeftB l 32).length ≤ l.length := fun l => by unfold Lib.trimLeftB; exact (List.dropWhile_sublist _).length_le
  have hr : ∀ l : Sp.Bs, (Lib.trimRightB l 32).length ≤ l.length := fun l => by
    unfold Lib.trimRightB
    rw [List.length_reverse]
    have := (List.dropWhile_sublist (fun x : UInt8 => x == 32) (l := l.reverse)).length_le
    rwa [List.length_reverse] at this
  rw [Bool.eq_iff_iff, beq_iff_eq, decide_eq_true_eq]
  constructor
  · intro h
    refine ⟨fun hh => ?_, fun hl => ?_⟩
    · cases s with
      | nil => cases hh
      | cons c t =>
        have hc : c = 32 := by simpa using hh
        subst hc
        have h1 : (Lib.trimB (32 :: t) 32).length < (32 :: t).length := by
          unfold Lib.trimB
          have h2 := hr (32 :: t)
          cases e : Lib.trimRightB (32 :: t) 32 with
          | nil => simp [Lib.trimLeftB]
          | cons d u =>
            rw [e] at h2
            have hd : d = 32 := by
              have hp : Lib.trimRightB (32 :: t) 32 <+: 32 :: t := by
                unfold Lib.trimRightB
                have := (List.dropWhile_suffix (l := (32 :: t).reverse) (fun x : UInt8 => x == 32))
                exact List.reverse_suffix.1 (by rw [List.reverse_reverse]; exact this)
              rw [e] at hp
              obtain ⟨r, hp⟩ := hp
              simp only [List.cons_append, List.cons.injEq] at hp
              exact hp.1
            subst hd
            have : Lib.trimLeftB (32 :: u) 32 = Lib.trimLeftB u 32 := by unfold Lib.trimLeftB; simp
            rw [this]
            have := hlen u
            simp only [List.length_cons] at h2 ⊢
            omega
        rw [← h] at h1; omega
    · have h1 : (Lib.trimRightB s 32).length < s.length := by
        obtain ⟨t, rfl⟩ : ∃ t, s = t ++ [32] := List.getLast?_eq_some_iff.1 hl
        unfold Lib.trimRightB
        rw [List.reverse_append, List.length_reverse]
        show (List.dropWhile _ (32 :: t.reverse)).length < _
        rw [List.dropWhile_cons_of_pos (by rfl)]
        have := (List.dropWhile_sublist (fun x : UInt8 => x == 32) (l := t.reverse)).length_le
        rw [List.length_reverse] at this
        rw [List.length_append, List.length_singleton]; omega
      have h2 := hlen (Lib.trimRightB s 32)
      have h3 := congrArg List.length h
      unfold Lib.trimB at h3
      omega
  · rintro ⟨h1, h2⟩
    have e1 : Lib.trimRightB s 32 = s := by
      unfold Lib.trimRightB
      cases e : s.reverse with
      | nil => rw [List.reverse_eq_nil_iff.1 e]; rfl
      | cons c t =>
        have hs' : s = t.reverse ++ [c] := by rw [← List.reverse_reverse s, e]; simp
        have hc : c ≠ 32 := fun hc => h2 (by rw [hs', hc]; simp)
        rw [List.dropWhile_cons_of_neg (by simpa using hc), ← e, List.reverse_reverse]
    unfold Lib.trimB
    rw [e1]
    unfold Lib.trimLeftB
    cases s with
    | nil => rfl
    | cons c t =>
      have hc : c ≠ 32 := fun hc => h1 (by rw [hc]; rfl)
      rw [List.dropWhile_cons_of_neg (by simpa using hc)]
theorem replyLegal_any (l : Sp.Bs) (w : World) (hl : l.length ≤ 140737488355328) : Calls Tryz.prog 75 #[str l] w fun e w' => e = .returned (.bool (Sp.legalR l)) ∧ Below w.heap.size w w' := by
  have hp : PredAt Tryz.prog 113 #[] encR offKey w := fun W r _ => (replyLegal1_any r W).mono fun e w' ⟨h1, h2⟩ => ⟨h1, 0, h2.symm⟩
  have h1 := Tryz.strings_IndexFunc 113 #[] (enters_of Tryz.func113 (by kernel_rfl) rfl) offKey ⟨l.toArray⟩ w hp
  have hk := (show decide (Lib.idxFunc offKey true ⟨l.toArray⟩ < 0) = l.all fun c => !Sp.oddV c by rw [idx_key, strR_list, key_bytes])
  unfold Sp.legalR
  rw [← hk]
  generalize Lib.idxFunc offKey true ⟨l.toArray⟩ = r at h1
  clear hk hp
  cases l with
  | nil =>
    clear h1
    rw [decide_eq_false (p := ([] : Sp.Bs) ≠ []) (by simp), Bool.false_and, Bool.false_and]
    go_enter Tryz.func75, Tryz.ntmps75
    go_wp2
    go_ret
    exact ⟨rfl, Below.refl _ _⟩
  | cons c t =>
    rw [decide_eq_true (p := (c :: t) ≠ []) (by simp), Bool.true_and]
    obtain ⟨s, hs⟩ : ∃ s, s = c :: t := ⟨_, rfl⟩
    rw [← hs] at h1 hl ⊢
    have hne : (s != ([] : List UInt8)) = true := by rw [hs]; rfl
    have hne2 : s.isEmpty = false := by rw [hs]; rfl
    clear hs
    by_cases hn : s.length ≤ 250
    · have hn' : decide (s.length ≤ 250) = true := by simpa using hn
      rw [hn', Bool.true_and]
      have H1 := Lib.hid h1
      clear h1 hn'
      go_enter Tryz.func75, Tryz.ntmps75
      go_wp2_with fail
      refine H1.out.mono ?_
      rintro e w1 ⟨rfl, hb1⟩
      go_wp2
      go_ret
      exact ⟨rfl, hb1⟩
    · have hn' : decide (s.length ≤ 250) = false := by simpa using hn
      rw [hn', Bool.false_and]
      have hs2 : 250 < s.length := by omega
      clear h1 hn' hn
      go_enter Tryz.func75, Tryz.ntmps75
      go_wp2
      go_ret
      exact ⟨rfl, Below.refl _ _⟩
theorem replyFlag_any (l : Sp.Bs) (w : World) (hl : l.length ≤ 140737488355328) : Calls Tryz.prog 89 #[str l] w fun e w' => e = .returned (.bool (Sp.flagR l)) ∧ Below w.heap.size w w' := by
  have hp : PredAt Tryz.prog 125 #[] encR offKey w := fun W r _ => (odd_any r W).mono fun e w' ⟨h1, h2⟩ => ⟨h1, 0, h2.symm⟩
  have h1 := Tryz.strings_IndexFunc 125 #[] (enters_of Tryz.func125 (by kernel_rfl) rfl) offKey ⟨l.toArray⟩ w hp
  have hk := (show decide (Lib.idxFunc offKey true ⟨l.toArray⟩ < 0) = l.all fun c => !Sp.oddV c by rw [idx_key, strR_list, key_bytes])
  unfold Sp.flagR
  rw [← hk]
  generalize Lib.idxFunc offKey true ⟨l.toArray⟩ = r at h1
  clear hk hp
  cases l with
  | nil =>
    clear h1
    rw [decide_eq_false (p := ([] : Sp.Bs) ≠ []) (by simp), Bool.false_and, Bool.false_and]
    go_enter Tryz.func89, Tryz.ntmps89
    go_wp2
    go_ret
    exact ⟨rfl, Below.refl _ _⟩
  | cons c t =>
    rw [decide_eq_true (p := (c :: t) ≠ []) (by simp), Bool.true_and]
    obtain ⟨s, hs⟩ : ∃ s, s = c :: t := ⟨_, rfl⟩
    rw [← hs] at h1 hl ⊢
    have hne : (s != ([] : List UInt8)) = true := by rw [hs]; rfl
    have hne2 : s.isEmpty = false := by rw [hs]; rfl
    clear hs
    by_cases hn : s.length ≤ 251
    · have hn' : decide (s.length ≤ 251) = true := by simpa using hn
      rw [hn', Bool.true_and]
      have H1 := Lib.hid h1
      clear h1 hn'
      go_enter Tryz.func89, Tryz.ntmps89
      go_wp2_with fail
      refine H1.out.mono ?_
      rintro e w1 ⟨rfl, hb1⟩
      go_wp2
      go_ret
      exact ⟨rfl, hb1⟩
    · have hn' : decide (s.length ≤ 251) = false := by simpa using hn
      rw [hn', Bool.false_and]
      have hs2 : 251 < s.length := by omega
      clear h1 hn' hn
      go_enter Tryz.func89, Tryz.ntmps89
      go_wp2
      go_ret
      exact ⟨rfl, Below.refl _ _⟩
theorem replyName_any (l : Sp.Bs) (w : World) (hl : l.length ≤ 140737488355328) : Calls Tryz.prog 44 #[str l] w fun e w' => e = .returned (.bool (Sp.nameR l)) ∧ Below w.heap.size w w' := by
  have hp : PredAt Tryz.prog 84 #[] encR offName w := fun W r _ => (name1_any r W).mono fun e w' ⟨h1, h2⟩ => ⟨h1, 0, h2.symm⟩
  have h1 := Tryz.strings_IndexFunc 84 #[] (enters_of Tryz.func84 (by kernel_rfl) rfl) offName ⟨l.toArray⟩ w hp
  have hk := (show decide (Lib.idxFunc offName true ⟨l.toArray⟩ < 0) = l.all fun c => decide (32 < c ∧ c ≤ 126) by rw [idx_high0 (fun c hc => by unfold offName; rw [decide_eq_true (p := (126 : Int) < (c : Int)) (by omega), Bool.or_true])]; congr 1; funext c; exact name_byte c)
  unfold Sp.nameR
  rw [← hk]
  generalize Lib.idxFunc offName true ⟨l.toArray⟩ = r at h1
  clear hk hp
  cases l with
  | nil =>
    clear h1
    rw [decide_eq_false (p := ([] : Sp.Bs) ≠ []) (by simp), Bool.false_and, Bool.false_and]
    go_enter Tryz.func44, Tryz.ntmps44
    go_wp2
    go_ret
    exact ⟨rfl, Below.refl _ _⟩
  | cons c t =>
    rw [decide_eq_true (p := (c :: t) ≠ []) (by simp), Bool.true_and]
    obtain ⟨s, hs⟩ : ∃ s, s = c :: t := ⟨_, rfl⟩
    rw [← hs] at h1 hl ⊢
    have hne : (s != ([] : List UInt8)) = true := by rw [hs]; rfl
    have hne2 : s.isEmpty = false := by rw [hs]; rfl
    clear hs
    by_cases hn : s.length ≤ 250
    · have hn' : decide (s.length ≤ 250) = true := by simpa using hn
      rw [hn', Bool.true_and]
      have H1 := Lib.hid h1
      clear h1 hn'
      go_enter Tryz.func44, Tryz.ntmps44
      go_wp2_with fail
      refine H1.out.mono ?_
      rintro e w1 ⟨rfl, hb1⟩
      go_wp2
      go_ret
      exact ⟨rfl, hb1⟩
    · have hn' : decide (s.length ≤ 250) = false := by simpa using hn
      rw [hn', Bool.false_and]
      have hs2 : 250 < s.length := by omega
      clear h1 hn' hn
      go_enter Tryz.func44, Tryz.ntmps44
      go_wp2
      go_ret
      exact ⟨rfl, Below.refl _ _⟩
end Go.Proofs.YtnbeeehfapjpdaaGreatDoor
end
section
namespace Go.Proofs.YtnbeeehfapjpdaaGreatDoor
open Go.RowKit

theorem plain_law (l : Sp.Bs) : decide (Lib.idxFunc offPlain true ⟨l.toArray⟩ < 0) = l.all fun c => decide (32 ≤ c ∧ c ≤ 126) := by
  rw [idx_high0 (fun c hc => by unfold offPlain; rw [decide_eq_true (p := (126 : Int) < (c : Int)) (by omega), Bool.or_true])]
  congr 1
  funext c
  exact plain_byte c
theorem plain_any (l : Sp.Bs) (w : World) (hl : l.length ≤ 140737488355328) : Calls Tryz.prog 40 #[str l] w fun e w' => e = .returned (.bool (Sp.plainV l)) ∧ Below w.heap.size w w' := by
  have hp : ∀ W : World, PredAt Tryz.prog 78 #[] encR offPlain W := fun W W' r _ => (plain1_any r W').mono fun e w' ⟨h1, h2⟩ => ⟨h1, 0, h2.symm⟩
  have h1 := fun W : World => Tryz.strings_IndexFunc 78 #[] (enters_of Tryz.func78 (by kernel_rfl) rfl) offPlain ⟨l.toArray⟩ W (hp W)
  have h2 := Tryz.strings_Trim_one ⟨l.toArray⟩ 32 (by decide) w (by rw [strR_size]; omega)
  rw [strR_list] at h2
  have hk := plain_law l
  unfold Sp.plainV
  rw [← hk]
  generalize Lib.idxFunc offPlain true ⟨l.toArray⟩ = r at h1
  clear hk hp
  by_cases hnil : l = []
  · subst hnil
    clear h1 h2
    rw [decide_eq_false (p := ([] : Sp.Bs) ≠ []) (by simp), Bool.false_and, Bool.false_and, Bool.false_and]
    go_enter Tryz.func40, Tryz.ntmps40
    go_wp2
    go_ret
    exact ⟨rfl, Below.refl _ _⟩
  · have ht := trim_blank hnil
    rw [decide_eq_true hnil, Bool.true_and, ← ht]
    have hne : (l != ([] : List UInt8)) = true := by simpa using hnil
    have hne2 : l.isEmpty = false := by simpa using hnil
    generalize Lib.trimB l 32 = tr at h2 ⊢
    clear ht hnil
    by_cases hn : l.length ≤ 512
    · have hn' : decide (l.length ≤ 512) = true := by simpa using hn
      rw [hn', Bool.true_and]
      have H1 := Lib.hid h1
      have H2 := Lib.hid h2
      clear h1 h2 hn'
      by_cases htr : (l == tr) = true
      · rw [htr, Bool.true_and]
        go_enter Tryz.func40, Tryz.ntmps40
        go_wp2_with (first | (go_at_call 76; refine H2.out.mono ?_; rintro e w1 ⟨rfl, hw1⟩; have hb1 : Below w.heap.size w w1 := (by rcases hw1 with rfl | rfl; exact Below.refl _ _; exact (Below.refl _ _).drew); have HB1 := Lib.hid hb1; clear hw1 hb1) | (go_at_call 77; refine (H1.out _).mono ?_; rintro e w2 ⟨rfl, hb2⟩; have HB2 := Lib.hid hb2; clear hb2))
        go_ret
        exact ⟨rfl, HB1.out.trans (HB2.out.mono HB1.out.size)⟩
      · have htr2 : (l == tr) = false := by simpa using htr
        rw [htr2, Bool.false_and]
        clear htr
        go_enter Tryz.func40, Tryz.ntmps40
        go_wp2_with (first | (go_at_call 76; refine H2.out.mono ?_; rintro e w1 ⟨rfl, hw1⟩; have hb1 : Below w.heap.size w w1 := (by rcases hw1 with rfl | rfl; exact Below.refl _ _; exact (Below.refl _ _).drew); have HB1 := Lib.hid hb1; clear hw1 hb1))
        go_ret
        exact ⟨rfl, HB1.out⟩
    · have hn' : decide (l.length ≤ 512) = false := by simpa using hn
      rw [hn', Bool.false_and, Bool.false_and]
      have hs2 : 512 < l.length := by omega
      clear h1 h2 hn' hn
      go_enter Tryz.func40, Tryz.ntmps40
      go_wp2
      go_ret
      exact ⟨rfl, Below.refl _ _⟩
end Go.Proofs.YtnbeeehfapjpdaaGreatDoor
end
section
namespace Go.Proofs.YtnbeeehfapjpdaaGreatDoor
open Go.RowKit

theorem str_behind (l : Sp.Bs) (k : Nat) : Value.string ((⟨l.toArray⟩ : ByteArray).extract k l.length) = str (l.drop k) := by
  have : ((⟨l.toArray⟩ : ByteArray).extract k l.length) = ⟨(l.drop k).toArray⟩ := by
    rw [← bytes_mk ((⟨l.toArray⟩ : ByteArray).extract k l.length), Lib.extract_data, strR_list]
    congr 2
    rw [List.take_of_length_le (by rw [List.length_drop]; exact Nat.le_refl _)]
  rw [this]
theorem refusal1_any {w : World} {sb : Nat} {s : Sp.Bs} (hs : w.cell? ⟨sb, 0, none⟩ = some (str s)) (hl : s.length ≤ 140737488355328) (p : Sp.Bs) (hp : p.length ≤ 1000) :
    Calls Tryz.prog 81 #[str p, .pointer (some ⟨sb, 0, none⟩)] w fun e w' => e = .returned (.bool (p.isPrefixOf s && Sp.plainV (s.drop p.length))) ∧ Below w.heap.size w w' := by
  have h1 := Tryz.strings_HasPrefix ⟨s.toArray⟩ ⟨p.toArray⟩ w
  rw [strR_list, strR_list] at h1
  have h2 := fun W : World => plain_any (s.drop p.length) W (by rw [List.length_drop]; omega)
  by_cases hpre : Lib.hasPrefix s p = true
  · have hlen : p.length ≤ s.length := (List.isPrefixOf_iff_prefix.1 hpre).length_le
    have hlen2 : (p.length : Int) ≤ (s.length : Int) := by omega
    rw [show p.isPrefixOf s = true from hpre, Bool.true_and]
    rw [hpre] at h1
    have H1 := Lib.hid h1
    have H2 := Lib.hid h2
    clear h1 h2 hpre
    go_enter Tryz.func81, Tryz.ntmps81
    go_wp2_with (first | (go_at_call 82; refine H1.out.mono ?_; rintro e w1 ⟨rfl, rfl⟩) | (go_at_call 40; rw [str_behind]; refine (H2.out _).mono ?_; rintro e w2 ⟨rfl, hb2⟩; have HB2 := Lib.hid hb2; clear hb2))
    go_ret
    exact ⟨rfl, HB2.out⟩
  · have hpre2 : Lib.hasPrefix s p = false := by simpa using hpre
    rw [show p.isPrefixOf s = false from hpre2, Bool.false_and]
    rw [hpre2] at h1
    have H1 := Lib.hid h1
    clear h1 h2 hpre hpre2
    go_enter Tryz.func81, Tryz.ntmps81
    go_wp2_with (go_at_call 82; refine H1.out.mono ?_; rintro e w1 ⟨rfl, rfl⟩)
    go_ret
    exact ⟨rfl, Below.refl _ _⟩
end Go.Proofs.YtnbeeehfapjpdaaGreatDoor
end
