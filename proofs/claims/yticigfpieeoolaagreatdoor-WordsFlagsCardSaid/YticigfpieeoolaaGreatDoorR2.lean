/- Walks of the document's reading of lines: times, keys, the verbs' words and rows. -/
import Derived.Test.YticigfpieeoolaaGreatDoorR1
import Derived.Test.YticigfpieeoolaaGreatDoorW9
namespace Go.Proofs.YticigfpieeoolaaGreatDoor
open Go.RowKit

theorem refFlagsOf_any (v : Nat) (w : World) :
    Calls Tryz.prog 74 #[.int .i64 v] w fun e w' => e = .returned (.tuple #[str (Sp.alone v), str (Sp.withs v)]) ∧ w = w' := by
  unfold Sp.alone Sp.withs
  by_cases h1 : v = 20
  · subst h1; go_enter Tryz.func74, Tryz.ntmps74; go_wp2; go_ret2; exact ⟨rfl, rfl⟩
  · by_cases h2 : v = 21
    · subst h2; go_enter Tryz.func74, Tryz.ntmps74; go_wp2; go_ret2; exact ⟨rfl, rfl⟩
    · by_cases h3 : v = 22
      · subst h3; go_enter Tryz.func74, Tryz.ntmps74; go_wp2; go_ret2; exact ⟨rfl, rfl⟩
      · by_cases h4 : v = 23
        · subst h4; go_enter Tryz.func74, Tryz.ntmps74; go_wp2; go_ret2; exact ⟨rfl, rfl⟩
        · rw [if_neg h1, if_neg h2, if_neg h3, if_neg h4, if_neg h1, if_neg h2, if_neg h3, if_neg h4]
          have g1 : ((v : Int) == 20) = false := by simp; omega
          have g2 : ((v : Int) == 21) = false := by simp; omega
          have g3 : ((v : Int) == 22) = false := by simp; omega
          have g4 : ((v : Int) == 23) = false := by simp; omega
          clear h1 h2 h3 h4
          go_enter Tryz.func74, Tryz.ntmps74; go_wp2; go_ret2; exact ⟨rfl, rfl⟩

/-- a text from its second byte on -/
theorem run_str_tail (W : World) (c : UInt8) (t : Sp.Bs) : (Instr.slice 9 (str (c :: t)) (some (.int .i64 1)) none none).run Tryz.prog W = .ok (str t) W := by
  have h := run_slice_string_l (P := Tryz.prog) W 9 (⟨(c :: t).toArray⟩ : ByteArray) Tryz.underlying9 .i64 1 (by omega) (by rw [str_size, List.length_cons]; omega)
  rw [h, str_size, List.length_cons]
  exact congrArg (fun v => Result.ok v W) (str_tail c t)

set_option maxHeartbeats 4000000 in
set_option maxRecDepth 100000 in
theorem refHolds_any (l : Sp.Bs) (c : UInt8) (w : World) (hl : l.length ≤ 4611686018427387904) :
    Calls Tryz.prog 75 #[str l, .int .u8 c.toNat] w fun e w' => e = .returned (.bool (l.contains c)) ∧ w = w' := by
  have hsz := str_size l
  have hyes : ∀ k, k < l.length → l.getD k 0 = c → l.contains c = true := fun k h1 h2 => by
    rw [List.contains_iff_mem, ← h2, List.getD_eq_getElem?_getD, List.getElem?_eq_getElem h1]
    exact List.getElem_mem h1
  have hno : (∀ k, k < l.length → l.getD k 0 ≠ c) → l.contains c = false := fun h => by
    rw [← Bool.not_eq_true, List.contains_iff_mem]
    intro hm
    obtain ⟨k, hk, e⟩ := List.mem_iff_getElem.1 hm
    exact h k hk (by rw [List.getD_eq_getElem?_getD, List.getElem?_eq_getElem hk]; exact e)
  generalize l.contains c = V at hyes hno
  have HY := Lib.hid hyes
  have HN := Lib.hid hno
  clear hyes hno
  go_enter Tryz.func75, Tryz.ntmps75
  go_wp2
  go_loop [5] (fun i => ∃ k : Nat, k ≤ l.length ∧ i = .int .i64 k ∧ ∀ j, j < k → l.getD j 0 ≠ c) (fun i => l.length - (intOf i).toNat)
  case atStart => exact ⟨0, Nat.zero_le _, rfl, fun j h => by omega⟩
  case round =>
    obtain ⟨k, hk, rfl, hd⟩ := hrel
    have HD := Lib.hid hd
    clear hd
    by_cases hlt : k < l.length
    · have hby := byte_getD' l k (by rw [str_size]; exact hlt)
      by_cases he : l.getD k 0 = c
      · have hv := HY.out k hlt he
        subst hv
        rw [he] at hby
        go_wp2
        go_ret
        exact ⟨rfl, rfl⟩
      · obtain ⟨d, hdd⟩ : ∃ d, d = l.getD k 0 := ⟨_, rfl⟩
        rw [← hdd] at hby he
        have hne : ((d.toNat : Int) == (c.toNat : Int)) = false := by
          rw [beq_eq_false_iff_ne]
          intro h
          exact he (UInt8.toNat_inj.1 (by omega))
        have HDD := Lib.hid hdd
        have HNE := Lib.hid he
        clear hdd he
        go_wp2
        exact ⟨⟨k + 1, by omega, by go_num, fun j hj => by
          rcases Nat.lt_succ_iff_lt_or_eq.1 hj with h | h
          · exact HD.out j h
          · rw [h, ← HDD.out]; exact HNE.out⟩, by show l.length - ((k : Int) + 1).toNat < l.length - (k : Int).toNat; omega⟩
    · have hv := HN.out fun j hj => HD.out j (by omega)
      subst hv
      go_wp2
      go_ret
      exact ⟨rfl, rfl⟩

set_option maxHeartbeats 4000000 in
set_option maxRecDepth 100000 in
theorem refKey_any (l : Sp.Bs) (w : World) (hl : l.length ≤ 4611686018427387904) :
    Calls Tryz.prog 79 #[str l] w fun e w' => e = .returned (.bool (keyV l)) ∧ w = w' := by
  have hsz := str_size l
  have hbad : ∀ k, k < l.length → Sp.keyByte (l.getD k 0) = false → keyV l = false := fun k h1 h2 => keyV_bad h1 h2
  have hend : (∀ c ∈ l.take l.length, Sp.keyByte c = true) → keyV l = (decide (1 ≤ l.length) && decide (l.length ≤ 250)) := fun h => keyV_end h
  generalize keyV l = V at hbad hend
  have HB := Lib.hid hbad
  have HE := Lib.hid hend
  clear hbad hend
  go_enter Tryz.func79, Tryz.ntmps79
  go_wp2
  go_loop [3] (fun i => ∃ k : Nat, k ≤ l.length ∧ i = .int .i64 k ∧ ∀ c ∈ l.take k, Sp.keyByte c = true) (fun i => l.length - (intOf i).toNat)
  case atStart => exact ⟨0, Nat.zero_le _, rfl, fun c h => by simp at h⟩
  case round =>
    obtain ⟨k, hk, rfl, hd⟩ := hrel
    have HD := Lib.hid hd
    clear hd
    by_cases hlt : k < l.length
    · have hby := byte_getD' l k (by rw [str_size]; exact hlt)
      have hkb := keyByte_is (l.getD k 0)
      obtain ⟨c, hc⟩ : ∃ c, c = l.getD k 0 := ⟨_, rfl⟩
      rw [← hc] at hby hkb
      have HC := Lib.hid hc
      clear hc
      by_cases h1 : (c.toNat : Int) ≤ 32
      · have hv := HB.out k hlt (by rw [← HC.out, hkb, decide_eq_true h1]; rfl)
        subst hv
        clear hkb
        go_wp2
        go_ret
        exact ⟨rfl, rfl⟩
      · have hd1 : decide ((c.toNat : Int) ≤ 32) = false := decide_eq_false h1
        by_cases h2 : (c.toNat : Int) = 127
        · have hv := HB.out k hlt (by rw [← HC.out, hkb, decide_eq_true h2, hd1]; rfl)
          subst hv
          have hd2 : ((c.toNat : Int) == 127) = true := by simp [h2]
          clear hkb h1
          go_wp2
          go_ret
          exact ⟨rfl, rfl⟩
        · have hd2 : ((c.toNat : Int) == 127) = false := by simpa using h2
          have hok : Sp.keyByte (l.getD k 0) = true := by rw [← HC.out, hkb, hd1, decide_eq_false h2]; rfl
          have HOK := Lib.hid hok
          clear hkb h1 h2 hok
          go_wp2
          exact ⟨⟨k + 1, by omega, by go_num, all_snoc HD.out hlt HOK.out⟩, by show l.length - ((k : Int) + 1).toNat < l.length - (k : Int).toNat; omega⟩
    · obtain rfl : k = l.length := by omega
      have hv := HE.out HD.out
      have HV := Lib.hid hv
      clear hv
      by_cases h1 : 1 ≤ l.length
      · have hd1 : decide ((1 : Int) ≤ (l.length : Int)) = true := decide_eq_true (by omega)
        have hd2 : decide ((l.length : Int) ≤ 250) = decide (l.length ≤ 250) := by rw [Bool.eq_iff_iff, decide_eq_true_eq, decide_eq_true_eq]; omega
        have hfin : decide ((l.length : Int) ≤ 250) = V := by rw [HV.out, decide_eq_true h1, Bool.true_and, hd2]
        have HF := Lib.hid hfin
        clear hd2 hfin
        go_wp2
        go_ret
        exact ⟨congrArg (fun b => Ending.returned (.bool b)) HF.out, rfl⟩
      · have hd1 : decide ((1 : Int) ≤ (l.length : Int)) = false := decide_eq_false (by omega)
        have hfin : false = V := by rw [HV.out, decide_eq_false h1, Bool.false_and]
        have HF := Lib.hid hfin
        clear hfin
        go_wp2
        go_ret
        exact ⟨congrArg (fun b => Ending.returned (.bool b)) HF.out, rfl⟩

set_option maxHeartbeats 4000000 in
set_option maxRecDepth 100000 in
theorem refTimeOf_any (l : Sp.Bs) (w : World) (hl : l.length ≤ 4611686018427387904) :
    Calls Tryz.prog 80 #[str l] w fun e w' => e = .returned (timeR (Sp.timeOf l)) ∧ w = w' := by
  have hn := fun (x : Sp.Bs) (m : Nat) (h1 : x.length ≤ 4611686018427387904) (h2 : m ≤ 18446744073709551615) => refNumber_any x m w h1 h2
  have HN := Lib.hid hn
  clear hn
  by_cases hd : l.head? = some 45
  · obtain ⟨t, rfl⟩ : ∃ t, l = 45 :: t := by
      cases l with
      | nil => cases hd
      | cons a t => simp at hd; exact ⟨t, by rw [hd]⟩
    rw [timeOf_dash]
    have hc := HN.out t 9223372036854775808 (by rw [List.length_cons] at hl; omega) (by omega)
    have hsl := fun W : World => run_str_tail W 45 t
    have hb0 : (⟨(45 :: t).toArray⟩ : ByteArray)[0]'(by rw [str_size, List.length_cons]; omega) = 45 := rfl
    have hsz : (⟨(45 :: t).toArray⟩ : ByteArray).size = t.length + 1 := by rw [str_size, List.length_cons]
    have hfit : ∀ n, Sp.number t 9223372036854775808 = some n → n ≤ 9223372036854775808 := fun n h => number_fit h
    generalize Sp.number t 9223372036854775808 = V at *
    clear HN hd
    cases V with
    | none =>
      have HC := Lib.hid hc
      clear hc hfit
      go_enter Tryz.func80, Tryz.ntmps80
      go_wp2_with (refine HC.out.mono ?_; rintro e w' ⟨rfl, rfl⟩; dsimp only [numR])
      go_ret2
      exact ⟨rfl, rfl⟩
    | some n =>
      have hn := hfit n rfl
      have hwr : wrap64 (IntKind.u64.wrap (-(n : Int))) = -(n : Int) := by
        rw [IntKind.wrap_u64]; unfold wrap64; omega
      have HWR := Lib.hid hwr
      clear hwr
      have HC := Lib.hid hc
      clear hc hfit
      go_enter Tryz.func80, Tryz.ntmps80
      go_wp2_with (refine HC.out.mono ?_; rintro e w' ⟨rfl, rfl⟩; dsimp only [numR])
      go_ret2
      exact ⟨congrArg (fun z => Ending.returned (.tuple #[.int .i64 z, .bool true])) HWR.out, rfl⟩
  · rw [timeOf_plain hd]
    have hc := HN.out l 9223372036854775807 hl (by omega)
    have hfit : ∀ n, Sp.number l 9223372036854775807 = some n → n ≤ 9223372036854775807 := fun n h => number_fit h
    generalize Sp.number l 9223372036854775807 = V at *
    clear HN
    have hR : ∀ (v : Value), v = (match V with | some n => .tuple #[.int .i64 n, .bool true] | none => .tuple #[.int .i64 0, .bool false]) → timeR (V.map fun n : Nat => (n : Int)) = v := fun v h => by rw [h]; cases V <;> rfl
    have hval : ∃ (m : Nat) (b : Bool), numR V = .tuple #[.int .u64 m, .bool b] ∧ m ≤ 9223372036854775807 ∧ timeR (V.map fun n : Nat => (n : Int)) = .tuple #[.int .i64 m, .bool b] := by
      cases V with
      | none => exact ⟨0, false, rfl, by omega, rfl⟩
      | some n => exact ⟨n, true, rfl, hfit n rfl, rfl⟩
    obtain ⟨m, b, hv1, hm, hv2⟩ := hval
    rw [hv1] at hc
    rw [hv2]
    have HC := Lib.hid hc
    clear hc hfit hR hv1 hv2
    cases l with
    | nil =>
      go_enter Tryz.func80, Tryz.ntmps80
      go_wp2_with (refine HC.out.mono ?_; rintro e w' ⟨rfl, rfl⟩)
      go_ret2
      exact ⟨rfl, rfl⟩
    | cons c t =>
      have hb0 : (⟨(c :: t).toArray⟩ : ByteArray)[0]'(by rw [str_size, List.length_cons]; omega) = c := rfl
      have hsz : (⟨(c :: t).toArray⟩ : ByteArray).size = t.length + 1 := by rw [str_size, List.length_cons]
      have hne : ((c.toNat : Int) == 45) = false := by
        rw [beq_eq_false_iff_ne]
        intro h
        apply hd
        have : c = 45 := UInt8.toNat_inj.1 (by show c.toNat = 45; omega)
        rw [this]; rfl
      clear hd
      go_enter Tryz.func80, Tryz.ntmps80
      go_wp2_with (refine HC.out.mono ?_; rintro e w' ⟨rfl, rfl⟩)
      go_ret2
      exact ⟨rfl, rfl⟩
end Go.Proofs.YticigfpieeoolaaGreatDoor
