/- Walks of the document's reading of lines: numbers, times, keys, letters. Walks of the document's reading of lines: times, keys, the verbs' words and rows. Walks of the document's reading of lines: what stands behind a flag's letter. -/
import Derived.Test.YthgfjafnclklpaaGreatDoorR0
import Derived.Test.YthgfjafnclklpaaGreatDoorW6
import Derived.Lib.Hide
import Derived.Test.YthgfjafnclklpaaGreatDoorW9
section
namespace Go.Proofs.YthgfjafnclklpaaGreatDoor
open Go.RowKit

theorem byte_getD' (l : Sp.Bs) (m : Nat) (h : m < (⟨l.toArray⟩ : ByteArray).size) : (⟨l.toArray⟩ : ByteArray)[m]'h = l.getD m 0 := by
  rw [List.getD_eq_getElem?_getD, List.getElem?_eq_getElem (by simpa [ByteArray.size] using h)]
  rfl

def numR (o : Option Nat) : Value := match o with | some n => .tuple #[.int .u64 n, .bool true] | none => .tuple #[.int .u64 0, .bool false]
def timeR (o : Option Int) : Value := match o with | some n => .tuple #[.int .i64 n, .bool true] | none => .tuple #[.int .i64 0, .bool false]

set_option maxHeartbeats 4000000 in
set_option maxRecDepth 100000 in
theorem refNumber_any (l : Sp.Bs) (most : Nat) (w : World) (hl : l.length ≤ 4611686018427387904) (hm : most ≤ 18446744073709551615) :
    Calls Tryz.prog 103 #[str l, .int .u64 most] w fun e w' => e = .returned (numR (Sp.number l most)) ∧ w = w' := by
  have hbad : ∀ k, k < l.length → Sp.isDigit (l.getD k 0) = false → numR (Sp.number l most) = .tuple #[.int .u64 0, .bool false] := fun k h1 h2 => by rw [number_bad h1 h2]; rfl
  have hend : ∀ m b, NumMid l most l.length m b → numR (Sp.number l most) = .tuple #[.int .u64 (if b = true then m else 0 : Nat), .bool b] := fun m b h => by rw [h.end]; cases b <;> rfl
  have hst := NumMid.start l most
  have hsz := str_size l
  generalize numR (Sp.number l most) = V at *
  have HB := Lib.hid hbad
  have HE := Lib.hid hend
  have HS := Lib.hid hst
  have HM := Lib.hid hm
  clear hbad hend hst hm
  go_enter Tryz.func103, Tryz.ntmps103
  go_wp2
  go_loop [6, 7, 8] (fun n ok i => ∃ (k m : Nat) (b : Bool), k ≤ l.length ∧ n = .int .u64 m ∧ ok = .bool b ∧ i = .int .i64 k ∧ NumMid l most k m b) (fun _ _ i => l.length - (intOf i).toNat)
  case atStart => exact ⟨0, 0, !l.isEmpty, Nat.zero_le _, rfl, rfl, rfl, HS.out⟩
  case round =>
    obtain ⟨k, m, b, hk, rfl, rfl, rfl, hn⟩ := hrel
    have HN := Lib.hid hn
    clear hn
    by_cases hlt : k < l.length
    · have hby := byte_getD' l k (by rw [str_size]; exact hlt)
      obtain ⟨c, hc⟩ : ∃ c, c = l.getD k 0 := ⟨_, rfl⟩
      rw [← hc] at hby
      have HC := Lib.hid hc
      clear hc
      have hc256 := c.toNat_lt
      by_cases h1 : c.toNat < 48
      · go_wp2
        go_ret2
        exact ⟨congrArg Ending.returned (HB.out k hlt (by rw [← HC.out]; exact isDigit_no (.inl h1))).symm, rfl⟩
      · have h1' : 48 ≤ c.toNat := by omega
        clear h1
        by_cases h2 : 57 < c.toNat
        · go_wp2
          all_goals
            go_ret2
            exact ⟨congrArg Ending.returned (HB.out k hlt (by rw [← HC.out]; exact isDigit_no (.inr h2))).symm, rfl⟩
        · have h2' : c.toNat ≤ 57 := by omega
          clear h2
          obtain ⟨d, hd⟩ : ∃ d : Nat, c.toNat = d + 48 := ⟨c.toNat - 48, by omega⟩
          have hd9 : d ≤ 9 := by omega
          have hx1 : decide ((c.toNat : Int) < 48) = false := decide_eq_false (by omega)
          have hx2 : decide ((57 : Int) < (c.toNat : Int)) = false := decide_eq_false (by omega)
          have hm := HN.out.fit
          have hsub : (c.toNat : Int) - 48 = (d : Int) := by omega
          have hdig : Sp.isDigit (l.getD k 0) = true := by rw [← HC.out]; exact isDigit_yes (by omega) (by omega)
          have HDIG := Lib.hid hdig
          have HD := Lib.hid hd
          clear hdig hd
          have hd' : d = (l.getD k 0).toNat - 48 := by rw [← HC.out, HD.out]; omega
          have HD' := Lib.hid hd'
          clear hd'
          by_cases hov : (18446744073709551615 - d) / 10 < m
          · go_wp2
            all_goals exact ⟨⟨k + 1, 0, false, by omega, rfl, rfl, by go_num, HN.out.over hlt HDIG.out HD'.out hd9 hov HM.out⟩, by show l.length - ((k : Int) + 1).toNat < l.length - (k : Int).toNat; omega⟩
          · have hov' : m ≤ (18446744073709551615 - d) / 10 := by omega
            clear hov
            have hon := HN.out.on hlt HDIG.out HD'.out hd9 hov'
            have hme : l.length - ((k : Int) + 1).toNat < l.length - (k : Int).toNat := by omega
            have HON := Lib.hid hon
            have HME := Lib.hid hme
            clear hon hme
            cases b with
            | true =>
              have HON2 : Hid (NumMid l most (k + 1) (10 * m + d) (decide (10 * m + d ≤ most))) := Lib.hid (by have := HON.out; rwa [Bool.true_and] at this)
              clear HON
              go_wp2
              all_goals exact ⟨⟨k + 1, 10 * m + d, decide (10 * m + d ≤ most), by omega, by go_num, congrArg Value.bool (by rw [Bool.eq_iff_iff, decide_eq_true_eq, decide_eq_true_eq]; omega), by go_num, HON2.out⟩, HME.out⟩
            | false =>
              have HON2 : Hid (NumMid l most (k + 1) (10 * m + d) false) := Lib.hid (by have := HON.out; rwa [Bool.false_and] at this)
              clear HON
              go_wp2
              all_goals exact ⟨⟨k + 1, 10 * m + d, false, by omega, by go_num, rfl, by go_num, HON2.out⟩, HME.out⟩
    · obtain rfl : k = l.length := by omega
      have he := HE.out _ _ HN.out
      have HE2 := Lib.hid he
      clear he
      cases b with
      | true =>
        go_wp2
        go_ret2
        exact ⟨congrArg Ending.returned HE2.out.symm, rfl⟩
      | false =>
        go_wp2
        go_ret2
        exact ⟨congrArg Ending.returned HE2.out.symm, rfl⟩
end Go.Proofs.YthgfjafnclklpaaGreatDoor
end
section
namespace Go.Proofs.YthgfjafnclklpaaGreatDoor
open Go.RowKit

theorem refFlagsOf_any (v : Nat) (w : World) :
    Calls Tryz.prog 120 #[.int .i64 v] w fun e w' => e = .returned (.tuple #[str (Sp.alone v), str (Sp.withs v)]) ∧ w = w' := by
  unfold Sp.alone Sp.withs
  by_cases h1 : v = 20
  · subst h1; go_enter Tryz.func120, Tryz.ntmps120; go_wp2; go_ret2; exact ⟨rfl, rfl⟩
  · by_cases h2 : v = 21
    · subst h2; go_enter Tryz.func120, Tryz.ntmps120; go_wp2; go_ret2; exact ⟨rfl, rfl⟩
    · by_cases h3 : v = 22
      · subst h3; go_enter Tryz.func120, Tryz.ntmps120; go_wp2; go_ret2; exact ⟨rfl, rfl⟩
      · by_cases h4 : v = 23
        · subst h4; go_enter Tryz.func120, Tryz.ntmps120; go_wp2; go_ret2; exact ⟨rfl, rfl⟩
        · rw [if_neg h1, if_neg h2, if_neg h3, if_neg h4, if_neg h1, if_neg h2, if_neg h3, if_neg h4]
          have g1 : ((v : Int) == 20) = false := by simp; omega
          have g2 : ((v : Int) == 21) = false := by simp; omega
          have g3 : ((v : Int) == 22) = false := by simp; omega
          have g4 : ((v : Int) == 23) = false := by simp; omega
          clear h1 h2 h3 h4
          go_enter Tryz.func120, Tryz.ntmps120; go_wp2; go_ret2; exact ⟨rfl, rfl⟩

/-- a text from its second byte on -/
theorem run_str_tail (W : World) (c : UInt8) (t : Sp.Bs) : (Instr.slice 9 (str (c :: t)) (some (.int .i64 1)) none none).run Tryz.prog W = .ok (str t) W := by
  have h := run_slice_string_l (P := Tryz.prog) W 9 (⟨(c :: t).toArray⟩ : ByteArray) Tryz.underlying9 .i64 1 (by omega) (by rw [str_size, List.length_cons]; omega)
  rw [h, str_size, List.length_cons]
  exact congrArg (fun v => Result.ok v W) (str_tail c t)

set_option maxHeartbeats 4000000 in
set_option maxRecDepth 100000 in
theorem refHolds_any (l : Sp.Bs) (c : UInt8) (w : World) (hl : l.length ≤ 4611686018427387904) :
    Calls Tryz.prog 121 #[str l, .int .u8 c.toNat] w fun e w' => e = .returned (.bool (l.contains c)) ∧ w = w' := by
  have hsz := str_size l
  have hyes : ∀ k, k < l.length → l.getD k 0 = c → l.contains c = true := fun k h1 h2 => by
    rw [List.contains_iff_mem, ← h2, List.getD_eq_getElem?_getD, List.getElem?_eq_getElem h1]
    exact List.getElem_mem h1
  have hno : (∀ k, k < l.length → l.getD k 0 ≠ c) → l.contains c = false := fun h => by
    rw [← Bool.not_eq_true, List.contains_iff_mem]
    intro hm
    obtain ⟨k, hk, e⟩ := List.mem_iff_getElem.1 hm
    exact h k hk (by rw [List.getD_eq_getElem?_getD, List.getElem?_eq_getElem hk]; exact e)
  generalize l.contains c = V at hyes hno
  have HY := Lib.hid hyes
  have HN := Lib.hid hno
  clear hyes hno
  go_enter Tryz.func121, Tryz.ntmps121
  go_wp2
  go_loop [5] (fun i => ∃ k : Nat, k ≤ l.length ∧ i = .int .i64 k ∧ ∀ j, j < k → l.getD j 0 ≠ c) (fun i => l.length - (intOf i).toNat)
  case atStart => exact ⟨0, Nat.zero_le _, rfl, fun j h => by omega⟩
  case round =>
    obtain ⟨k, hk, rfl, hd⟩ := hrel
    have HD := Lib.hid hd
    clear hd
    by_cases hlt : k < l.length
    · have hby := byte_getD' l k (by rw [str_size]; exact hlt)
      by_cases he : l.getD k 0 = c
      · have hv := HY.out k hlt he
        subst hv
        rw [he] at hby
        go_wp2
        go_ret
        exact ⟨rfl, rfl⟩
      · obtain ⟨d, hdd⟩ : ∃ d, d = l.getD k 0 := ⟨_, rfl⟩
        rw [← hdd] at hby he
        have hne : ((d.toNat : Int) == (c.toNat : Int)) = false := by
          rw [beq_eq_false_iff_ne]
          intro h
          exact he (UInt8.toNat_inj.1 (by omega))
        have HDD := Lib.hid hdd
        have HNE := Lib.hid he
        clear hdd he
        go_wp2
        exact ⟨⟨k + 1, by omega, by go_num, fun j hj => by
          rcases Nat.lt_succ_iff_lt_or_eq.1 hj with h | h
          · exact HD.out j h
          · rw [h, ← HDD.out]; exact HNE.out⟩, by show l.length - ((k : Int) + 1).toNat < l.length - (k : Int).toNat; omega⟩
    · have hv := HN.out fun j hj => HD.out j (by omega)
      subst hv
      go_wp2
      go_ret
      exact ⟨rfl, rfl⟩

set_option maxHeartbeats 4000000 in
set_option maxRecDepth 100000 in
theorem refKey_any (l : Sp.Bs) (w : World) (hl : l.length ≤ 4611686018427387904) :
    Calls Tryz.prog 78 #[str l] w fun e w' => e = .returned (.bool (keyV l)) ∧ w = w' := by
  have hsz := str_size l
  have hbad : ∀ k, k < l.length → Sp.keyByte (l.getD k 0) = false → keyV l = false := fun k h1 h2 => keyV_bad h1 h2
  have hend : (∀ c ∈ l.take l.length, Sp.keyByte c = true) → keyV l = (decide (1 ≤ l.length) && decide (l.length ≤ 250)) := fun h => keyV_end h
  generalize keyV l = V at hbad hend
  have HB := Lib.hid hbad
  have HE := Lib.hid hend
  clear hbad hend
  go_enter Tryz.func78, Tryz.ntmps78
  go_wp2
  go_loop [3] (fun i => ∃ k : Nat, k ≤ l.length ∧ i = .int .i64 k ∧ ∀ c ∈ l.take k, Sp.keyByte c = true) (fun i => l.length - (intOf i).toNat)
  case atStart => exact ⟨0, Nat.zero_le _, rfl, fun c h => by simp at h⟩
  case round =>
    obtain ⟨k, hk, rfl, hd⟩ := hrel
    have HD := Lib.hid hd
    clear hd
    by_cases hlt : k < l.length
    · have hby := byte_getD' l k (by rw [str_size]; exact hlt)
      have hkb := keyByte_is (l.getD k 0)
      obtain ⟨c, hc⟩ : ∃ c, c = l.getD k 0 := ⟨_, rfl⟩
      rw [← hc] at hby hkb
      have HC := Lib.hid hc
      clear hc
      by_cases h1 : (c.toNat : Int) ≤ 32
      · have hv := HB.out k hlt (by rw [← HC.out, hkb, decide_eq_true h1]; rfl)
        subst hv
        clear hkb
        go_wp2
        go_ret
        exact ⟨rfl, rfl⟩
      · have hd1 : decide ((c.toNat : Int) ≤ 32) = false := decide_eq_false h1
        by_cases h2 : (c.toNat : Int) = 127
        · have hv := HB.out k hlt (by rw [← HC.out, hkb, decide_eq_true h2, hd1]; rfl)
          subst hv
          have hd2 : ((c.toNat : Int) == 127) = true := by simp [h2]
          clear hkb h1
          go_wp2
          go_ret
          exact ⟨rfl, rfl⟩
        · have hd2 : ((c.toNat : Int) == 127) = false := by simpa using h2
          have hok : Sp.keyByte (l.getD k 0) = true := by rw [← HC.out, hkb, hd1, decide_eq_false h2]; rfl
          have HOK := Lib.hid hok
          clear hkb h1 h2 hok
          go_wp2
          exact ⟨⟨k + 1, by omega, by go_num, all_snoc HD.out hlt HOK.out⟩, by show l.length - ((k : Int) + 1).toNat < l.length - (k : Int).toNat; omega⟩
    · obtain rfl : k = l.length := by omega
      have hv := HE.out HD.out
      have HV := Lib.hid hv
      clear hv
      by_cases h1 : 1 ≤ l.length
      · have hd1 : decide ((1 : Int) ≤ (l.length : Int)) = true := decide_eq_true (by omega)
        have hd2 : decide ((l.length : Int) ≤ 250) = decide (l.length ≤ 250) := by rw [Bool.eq_iff_iff, decide_eq_true_eq, decide_eq_true_eq]; omega
        have hfin : decide ((l.length : Int) ≤ 250) = V := by rw [HV.out, decide_eq_true h1, Bool.true_and, hd2]
        have HF := Lib.hid hfin
        clear hd2 hfin
        go_wp2
        go_ret
        exact ⟨congrArg (fun b => Ending.returned (.bool b)) HF.out, rfl⟩
      · have hd1 : decide ((1 : Int) ≤ (l.length : Int)) = false := decide_eq_false (by omega)
        have hfin : false = V := by rw [HV.out, decide_eq_false h1, Bool.false_and]
        have HF := Lib.hid hfin
        clear hfin
        go_wp2
        go_ret
        exact ⟨congrArg (fun b => Ending.returned (.bool b)) HF.out, rfl⟩

set_option maxHeartbeats 4000000 in
set_option maxRecDepth 100000 in
theorem refTimeOf_any (l : Sp.Bs) (w : World) (hl : l.length ≤ 4611686018427387904) :
    Calls Tryz.prog 104 #[str l] w fun e w' => e = .returned (timeR (Sp.timeOf l)) ∧ w = w' := by
  have hn := fun (x : Sp.Bs) (m : Nat) (h1 : x.length ≤ 4611686018427387904) (h2 : m ≤ 18446744073709551615) => refNumber_any x m w h1 h2
  have HN := Lib.hid hn
  clear hn
  by_cases hd : l.head? = some 45
  · obtain ⟨t, rfl⟩ : ∃ t, l = 45 :: t := by
      cases l with
      | nil => cases hd
      | cons a t => simp at hd; exact ⟨t, by rw [hd]⟩
    rw [timeOf_dash]
    have hc := HN.out t 9223372036854775808 (by rw [List.length_cons] at hl; omega) (by omega)
    have hsl := fun W : World => run_str_tail W 45 t
    have hb0 : (⟨(45 :: t).toArray⟩ : ByteArray)[0]'(by rw [str_size, List.length_cons]; omega) = 45 := rfl
    have hsz : (⟨(45 :: t).toArray⟩ : ByteArray).size = t.length + 1 := by rw [str_size, List.length_cons]
    have hfit : ∀ n, Sp.number t 9223372036854775808 = some n → n ≤ 9223372036854775808 := fun n h => number_fit h
    generalize Sp.number t 9223372036854775808 = V at *
    clear HN hd
    cases V with
    | none =>
      have HC := Lib.hid hc
      clear hc hfit
      go_enter Tryz.func104, Tryz.ntmps104
      go_wp2_with (refine HC.out.mono ?_; rintro e w' ⟨rfl, rfl⟩; dsimp only [numR])
      go_ret2
      exact ⟨rfl, rfl⟩
    | some n =>
      have hn := hfit n rfl
      have hwr : wrap64 (IntKind.u64.wrap (-(n : Int))) = -(n : Int) := by
        rw [IntKind.wrap_u64]; unfold wrap64; omega
      have HWR := Lib.hid hwr
      clear hwr
      have HC := Lib.hid hc
      clear hc hfit
      go_enter Tryz.func104, Tryz.ntmps104
      go_wp2_with (refine HC.out.mono ?_; rintro e w' ⟨rfl, rfl⟩; dsimp only [numR])
      go_ret2
      exact ⟨congrArg (fun z => Ending.returned (.tuple #[.int .i64 z, .bool true])) HWR.out, rfl⟩
  · rw [timeOf_plain hd]
    have hc := HN.out l 9223372036854775807 hl (by omega)
    have hfit : ∀ n, Sp.number l 9223372036854775807 = some n → n ≤ 9223372036854775807 := fun n h => number_fit h
    generalize Sp.number l 9223372036854775807 = V at *
    clear HN
    have hR : ∀ (v : Value), v = (match V with | some n => .tuple #[.int .i64 n, .bool true] | none => .tuple #[.int .i64 0, .bool false]) → timeR (V.map fun n : Nat => (n : Int)) = v := fun v h => by rw [h]; cases V <;> rfl
    have hval : ∃ (m : Nat) (b : Bool), numR V = .tuple #[.int .u64 m, .bool b] ∧ m ≤ 9223372036854775807 ∧ timeR (V.map fun n : Nat => (n : Int)) = .tuple #[.int .i64 m, .bool b] := by
      cases V with
      | none => exact ⟨0, false, rfl, by omega, rfl⟩
      | some n => exact ⟨n, true, rfl, hfit n rfl, rfl⟩
    obtain ⟨m, b, hv1, hm, hv2⟩ := hval
    rw [hv1] at hc
    rw [hv2]
    have HC := Lib.hid hc
    clear hc hfit hR hv1 hv2
    cases l with
    | nil =>
      go_enter Tryz.func104, Tryz.ntmps104
      go_wp2_with (refine HC.out.mono ?_; rintro e w' ⟨rfl, rfl⟩)
      go_ret2
      exact ⟨rfl, rfl⟩
    | cons c t =>
      have hb0 : (⟨(c :: t).toArray⟩ : ByteArray)[0]'(by rw [str_size, List.length_cons]; omega) = c := rfl
      have hsz : (⟨(c :: t).toArray⟩ : ByteArray).size = t.length + 1 := by rw [str_size, List.length_cons]
      have hne : ((c.toNat : Int) == 45) = false := by
        rw [beq_eq_false_iff_ne]
        intro h
        apply hd
        have : c = 45 := UInt8.toNat_inj.1 (by show c.toNat = 45; omega)
        rw [this]; rfl
      clear hd
      go_enter Tryz.func104, Tryz.ntmps104
      go_wp2_with (refine HC.out.mono ?_; rintro e w' ⟨rfl, rfl⟩)
      go_ret2
      exact ⟨rfl, rfl⟩
end Go.Proofs.YthgfjafnclklpaaGreatDoor
end
section
namespace Go.Proofs.YthgfjafnclklpaaGreatDoor
open Go.RowKit

theorem numR_form (o : Option Nat) : ∃ m : Nat, numR o = .tuple #[.int .u64 m, .bool o.isSome] := by
  cases o with
  | none => exact ⟨0, rfl⟩
  | some n => exact ⟨n, rfl⟩
theorem timeR_form (o : Option Int) : ∃ m : Int, timeR o = .tuple #[.int .i64 m, .bool o.isSome] := by
  cases o with
  | none => exact ⟨0, rfl⟩
  | some n => exact ⟨n, rfl⟩
theorem letter_ne {x : UInt8} {n : Nat} (h : ¬ x.toNat = n) : ((x.toNat : Int) == (n : Int)) = false := by
  rw [beq_eq_false_iff_ne]
  omega

section
set_option maxHeartbeats 8000000
set_option maxRecDepth 100000
theorem behind_key {v : Nat} {arg : Sp.Bs} {has : Bool} (w : World) (hl : arg.length ≤ 4611686018427387904) :
    Calls Tryz.prog 122 #[.int .i64 v, .agg #[.int .u8 79, str arg, .bool has]] w fun e w' => e = .returned (.bool (keyV arg)) ∧ Below w.heap.size w w' := by
  have hb0 : Below w.heap.size w (w.alloc (.cells #[.int .u8 79, str arg, .bool has] 94)) := (Below.refl _ _).alloc (Nat.le_refl _) _
  have hk := fun W : World => refKey_any arg W hl
  generalize keyV arg = V at *
  have HK := Lib.hid hk
  have HB := Lib.hid hb0
  clear hk hb0
  go_enter Tryz.func122, Tryz.ntmps122
  go_wp2_with (refine (HK.out _).mono ?_; rintro e w' ⟨rfl, rfl⟩)
  go_ret
  exact ⟨rfl, HB.out⟩
theorem behind_time {v n : Nat} {arg : Sp.Bs} {has : Bool} (w : World) (hl : arg.length ≤ 4611686018427387904) (hn : n = 84 ∨ n = 78) :
    Calls Tryz.prog 122 #[.int .i64 v, .agg #[.int .u8 n, str arg, .bool has]] w fun e w' => e = .returned (.bool (Sp.timeOf arg).isSome) ∧ Below w.heap.size w w' := by
  have hb0 : Below w.heap.size w (w.alloc (.cells #[.int .u8 n, str arg, .bool has] 94)) := (Below.refl _ _).alloc (Nat.le_refl _) _
  have hk := fun W : World => refTimeOf_any arg W hl
  obtain ⟨m, hm⟩ := timeR_form (Sp.timeOf arg)
  rw [hm] at hk
  generalize (Sp.timeOf arg).isSome = V at *
  have HK := Lib.hid hk
  have HB := Lib.hid hb0
  clear hk hb0 hm
  rcases hn with rfl | rfl
  all_goals
    go_enter Tryz.func122, Tryz.ntmps122
    go_wp2_with (refine (HK.out _).mono ?_; rintro e w' ⟨rfl, rfl⟩)
    go_ret
    exact ⟨rfl, HB.out⟩
theorem behind_flags {v : Nat} {arg : Sp.Bs} {has : Bool} (w : World) (hl : arg.length ≤ 4611686018427387904) :
    Calls Tryz.prog 122 #[.int .i64 v, .agg #[.int .u8 70, str arg, .bool has]] w fun e w' => e = .returned (.bool (Sp.number arg 4294967295).isSome) ∧ Below w.heap.size w w' := by
  have hb0 : Below w.heap.size w (w.alloc (.cells #[.int .u8 70, str arg, .bool has] 94)) := (Below.refl _ _).alloc (Nat.le_refl _) _
  have hk := fun W : World => refNumber_any arg 4294967295 W hl (by omega)
  obtain ⟨m, hm⟩ := numR_form (Sp.number arg 4294967295)
  rw [hm] at hk
  generalize (Sp.number arg 4294967295).isSome = V at *
  have HK := Lib.hid hk
  have HB := Lib.hid hb0
  clear hk hb0 hm
  go_enter Tryz.func122, Tryz.ntmps122
  go_wp2_with (refine (HK.out _).mono ?_; rintro e w' ⟨rfl, rfl⟩)
  go_ret
  exact ⟨rfl, HB.out⟩
theorem behind_number {v n : Nat} {arg : Sp.Bs} {has : Bool} (w : World) (hl : arg.length ≤ 4611686018427387904) (hn : n = 82 ∨ n = 67 ∨ n = 68 ∨ n = 74) :
    Calls Tryz.prog 122 #[.int .i64 v, .agg #[.int .u8 n, str arg, .bool has]] w fun e w' => e = .returned (.bool (Sp.number arg 18446744073709551615).isSome) ∧ Below w.heap.size w w' := by
  have hb0 : Below w.heap.size w (w.alloc (.cells #[.int .u8 n, str arg, .bool has] 94)) := (Below.refl _ _).alloc (Nat.le_refl _) _
  have hk := fun W : World => refNumber_any arg 18446744073709551615 W hl (by omega)
  obtain ⟨m, hm⟩ := numR_form (Sp.number arg 18446744073709551615)
  rw [hm] at hk
  generalize (Sp.number arg 18446744073709551615).isSome = V at *
  have HK := Lib.hid hk
  have HB := Lib.hid hb0
  clear hk hb0 hm
  rcases hn with rfl | rfl | rfl | rfl
  all_goals
    go_enter Tryz.func122, Tryz.ntmps122
    go_wp2_with (refine (HK.out _).mono ?_; rintro e w' ⟨rfl, rfl⟩)
    go_ret
    exact ⟨rfl, HB.out⟩
theorem behind_mode {v n : Nat} {arg : Sp.Bs} {has : Bool} (w : World) (hl : arg.length ≤ 4611686018427387904) (h1 : ((n : Int) == 79) = false) (h2 : ((n : Int) == 84) = false) (h3 : ((n : Int) == 78) = false) (h4 : ((n : Int) == 70) = false)
    (h5 : ((n : Int) == 82) = false) (h6 : ((n : Int) == 67) = false) (h7 : ((n : Int) == 68) = false) (h8 : ((n : Int) == 74) = false) :
    Calls Tryz.prog 122 #[.int .i64 v, .agg #[.int .u8 n, str arg, .bool has]] w fun e w' =>
      e = .returned (.bool (if arg.length ≠ 1 then false else if v = 21 then ([83, 69, 65, 80, 82, 115, 101, 97, 112, 114] : Sp.Bs).contains (arg.getD 0 0) else ([73, 68, 105, 100] : Sp.Bs).contains (arg.getD 0 0))) ∧ Below w.heap.size w w' := by
  have hb0 : Below w.heap.size w (w.alloc (.cells #[.int .u8 n, str arg, .bool has] 94)) := (Below.refl _ _).alloc (Nat.le_refl _) _
  have HB := Lib.hid hb0
  clear hb0
  by_cases hlen : arg.length = 1
  · obtain ⟨c, rfl⟩ : ∃ c, arg = [c] := List.length_eq_one_iff.1 hlen
    rw [if_neg (by simp)]
    have hb1 : (⟨([c] : Sp.Bs).toArray⟩ : ByteArray)[0]'(by rw [str_size]; simp) = c := rfl
    have hsz : (⟨([c] : Sp.Bs).toArray⟩ : ByteArray).size = 1 := rfl
    have hh := fun (l : Sp.Bs) (W : World) (h : l.length ≤ 4611686018427387904) => refHolds_any l c W h
    change Calls _ _ _ _ fun e w' => e = .returned (.bool (if v = 21 then ([83, 69, 65, 80, 82, 115, 101, 97, 112, 114] : Sp.Bs).contains c else ([73, 68, 105, 100] : Sp.Bs).contains c)) ∧ _
    by_cases hv : v = 21
    · subst hv
      rw [if_pos rfl]
      have hk := fun W => hh [83, 69, 65, 80, 82, 115, 101, 97, 112, 114] W (by decide)
      generalize ([83, 69, 65, 80, 82, 115, 101, 97, 112, 114] : Sp.Bs).contains c = V at *
      have HK := Lib.hid hk
      clear hk hh hlen
      go_enter Tryz.func122, Tryz.ntmps122
      go_wp2_with (refine (HK.out _).mono ?_; rintro e w' ⟨rfl, rfl⟩)
      go_ret
      exact ⟨rfl, HB.out⟩
    · rw [if_neg hv]
      have hv2 : ((v : Int) == 21) = false := by rw [beq_eq_false_iff_ne]; omega
      have hk := fun W => hh [73, 68, 105, 100] W (by decide)
      generalize ([73, 68, 105, 100] : Sp.Bs).contains c = V at *
      have HK := Lib.hid hk
      clear hk hh hlen hv
      go_enter Tryz.func122, Tryz.ntmps122
      go_wp2_with (refine (HK.out _).mono ?_; rintro e w' ⟨rfl, rfl⟩)
      go_ret
      exact ⟨rfl, HB.out⟩
  · rw [if_pos hlen]
    have hsz := str_size arg
    have hne : ((arg.length : Int) != 1) = true := by simp; omega
    clear hlen
    go_enter Tryz.func122, Tryz.ntmps122
    go_wp2
    go_ret
    exact ⟨rfl, HB.out⟩
end

/-- may this stand behind that letter? -/
theorem refBehind_any (v : Nat) (f : Sp.FlagV) (w : World) (hl : f.arg.length ≤ 4611686018427387904) :
    Calls Tryz.prog 122 #[.int .i64 v, .agg (flagCells f).toArray] w fun e w' => e = .returned (.bool (behindR v f)) ∧ Below w.heap.size w w' := by
  obtain ⟨x, arg, has⟩ := f
  change Calls _ _ #[.int .i64 v, .agg #[.int .u8 (x.toNat : Nat), str arg, .bool has]] _ _
  have hx : ∀ c : UInt8, x = c ↔ x.toNat = c.toNat := fun c => UInt8.toNat_inj.symm
  unfold behindR
  dsimp only
  by_cases h1 : x.toNat = 79
  · rw [if_pos ((hx 79).2 h1), h1]; exact behind_key w hl
  rw [if_neg (fun h => h1 ((hx 79).1 h))]
  by_cases h2 : x.toNat = 84 ∨ x.toNat = 78
  · rw [if_pos (h2.imp (hx 84).2 (hx 78).2)]; exact behind_time w hl h2
  rw [if_neg (fun h => h2 (h.imp (hx 84).1 (hx 78).1))]
  by_cases h3 : x.toNat = 70
  · rw [if_pos ((hx 70).2 h3), h3]; exact behind_flags w hl
  rw [if_neg (fun h => h3 ((hx 70).1 h))]
  by_cases h4 : x.toNat = 82 ∨ x.toNat = 67 ∨ x.toNat = 68 ∨ x.toNat = 74
  · rw [if_pos (h4.imp (hx 82).2 (Or.imp (hx 67).2 (Or.imp (hx 68).2 (hx 74).2)))]; exact behind_number w hl h4
  rw [if_neg (fun h => h4 (h.imp (hx 82).1 (Or.imp (hx 67).1 (Or.imp (hx 68).1 (hx 74).1))))]
  exact behind_mode w hl (letter_ne h1) (letter_ne fun h => h2 (.inl h)) (letter_ne fun h => h2 (.inr h)) (letter_ne h3) (letter_ne fun h => h4 (.inl h)) (letter_ne fun h => h4 (.inr (.inl h))) (letter_ne fun h => h4 (.inr (.inr (.inl h)))) (letter_ne fun h => h4 (.inr (.inr (.inr h))))
end Go.Proofs.YthgfjafnclklpaaGreatDoor
end
