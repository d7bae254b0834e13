/- Walks of the document's reading of lines: numbers, times, keys, letters. -/
import Derived.Test.YticigfpieeoolaaGreatDoorR0
import Derived.Test.YticigfpieeoolaaGreatDoorW6
import Derived.Lib.Hide
namespace Go.Proofs.YticigfpieeoolaaGreatDoor
open Go.RowKit

theorem byte_getD' (l : Sp.Bs) (m : Nat) (h : m < (⟨l.toArray⟩ : ByteArray).size) : (⟨l.toArray⟩ : ByteArray)[m]'h = l.getD m 0 := by
  rw [List.getD_eq_getElem?_getD, List.getElem?_eq_getElem (by simpa [ByteArray.size] using h)]
  rfl

def numR (o : Option Nat) : Value := match o with | some n => .tuple #[.int .u64 n, .bool true] | none => .tuple #[.int .u64 0, .bool false]
def timeR (o : Option Int) : Value := match o with | some n => .tuple #[.int .i64 n, .bool true] | none => .tuple #[.int .i64 0, .bool false]

set_option maxHeartbeats 4000000 in
set_option maxRecDepth 100000 in
theorem refNumber_any (l : Sp.Bs) (most : Nat) (w : World) (hl : l.length ≤ 4611686018427387904) (hm : most ≤ 18446744073709551615) :
    Calls Tryz.prog 78 #[str l, .int .u64 most] w fun e w' => e = .returned (numR (Sp.number l most)) ∧ w = w' := by
  have hbad : ∀ k, k < l.length → Sp.isDigit (l.getD k 0) = false → numR (Sp.number l most) = .tuple #[.int .u64 0, .bool false] := fun k h1 h2 => by rw [number_bad h1 h2]; rfl
  have hend : ∀ m b, NumMid l most l.length m b → numR (Sp.number l most) = .tuple #[.int .u64 (if b = true then m else 0 : Nat), .bool b] := fun m b h => by rw [h.end]; cases b <;> rfl
  have hst := NumMid.start l most
  have hsz := str_size l
  generalize numR (Sp.number l most) = V at *
  have HB := Lib.hid hbad
  have HE := Lib.hid hend
  have HS := Lib.hid hst
  have HM := Lib.hid hm
  clear hbad hend hst hm
  go_enter Tryz.func78, Tryz.ntmps78
  go_wp2
  go_loop [6, 7, 8] (fun n ok i => ∃ (k m : Nat) (b : Bool), k ≤ l.length ∧ n = .int .u64 m ∧ ok = .bool b ∧ i = .int .i64 k ∧ NumMid l most k m b) (fun _ _ i => l.length - (intOf i).toNat)
  case atStart => exact ⟨0, 0, !l.isEmpty, Nat.zero_le _, rfl, rfl, rfl, HS.out⟩
  case round =>
    obtain ⟨k, m, b, hk, rfl, rfl, rfl, hn⟩ := hrel
    have HN := Lib.hid hn
    clear hn
    by_cases hlt : k < l.length
    · have hby := byte_getD' l k (by rw [str_size]; exact hlt)
      obtain ⟨c, hc⟩ : ∃ c, c = l.getD k 0 := ⟨_, rfl⟩
      rw [← hc] at hby
      have HC := Lib.hid hc
      clear hc
      have hc256 := c.toNat_lt
      by_cases h1 : c.toNat < 48
      · go_wp2
        go_ret2
        exact ⟨congrArg Ending.returned (HB.out k hlt (by rw [← HC.out]; exact isDigit_no (.inl h1))).symm, rfl⟩
      · have h1' : 48 ≤ c.toNat := by omega
        clear h1
        by_cases h2 : 57 < c.toNat
        · go_wp2
          all_goals
            go_ret2
            exact ⟨congrArg Ending.returned (HB.out k hlt (by rw [← HC.out]; exact isDigit_no (.inr h2))).symm, rfl⟩
        · have h2' : c.toNat ≤ 57 := by omega
          clear h2
          obtain ⟨d, hd⟩ : ∃ d : Nat, c.toNat = d + 48 := ⟨c.toNat - 48, by omega⟩
          have hd9 : d ≤ 9 := by omega
          have hx1 : decide ((c.toNat : Int) < 48) = false := decide_eq_false (by omega)
          have hx2 : decide ((57 : Int) < (c.toNat : Int)) = false := decide_eq_false (by omega)
          have hm := HN.out.fit
          have hsub : (c.toNat : Int) - 48 = (d : Int) := by omega
          have hdig : Sp.isDigit (l.getD k 0) = true := by rw [← HC.out]; exact isDigit_yes (by omega) (by omega)
          have HDIG := Lib.hid hdig
          have HD := Lib.hid hd
          clear hdig hd
          have hd' : d = (l.getD k 0).toNat - 48 := by rw [← HC.out, HD.out]; omega
          have HD' := Lib.hid hd'
          clear hd'
          by_cases hov : (18446744073709551615 - d) / 10 < m
          · go_wp2
            all_goals exact ⟨⟨k + 1, 0, false, by omega, rfl, rfl, by go_num, HN.out.over hlt HDIG.out HD'.out hd9 hov HM.out⟩, by show l.length - ((k : Int) + 1).toNat < l.length - (k : Int).toNat; omega⟩
          · have hov' : m ≤ (18446744073709551615 - d) / 10 := by omega
            clear hov
            have hon := HN.out.on hlt HDIG.out HD'.out hd9 hov'
            have hme : l.length - ((k : Int) + 1).toNat < l.length - (k : Int).toNat := by omega
            have HON := Lib.hid hon
            have HME := Lib.hid hme
            clear hon hme
            cases b with
            | true =>
              have HON2 : Hid (NumMid l most (k + 1) (10 * m + d) (decide (10 * m + d ≤ most))) := Lib.hid (by have := HON.out; rwa [Bool.true_and] at this)
              clear HON
              go_wp2
              all_goals exact ⟨⟨k + 1, 10 * m + d, decide (10 * m + d ≤ most), by omega, by go_num, congrArg Value.bool (by rw [Bool.eq_iff_iff, decide_eq_true_eq, decide_eq_true_eq]; omega), by go_num, HON2.out⟩, HME.out⟩
            | false =>
              have HON2 : Hid (NumMid l most (k + 1) (10 * m + d) false) := Lib.hid (by have := HON.out; rwa [Bool.false_and] at this)
              clear HON
              go_wp2
              all_goals exact ⟨⟨k + 1, 10 * m + d, false, by omega, by go_num, rfl, by go_num, HON2.out⟩, HME.out⟩
    · obtain rfl : k = l.length := by omega
      have he := HE.out _ _ HN.out
      have HE2 := Lib.hid he
      clear he
      cases b with
      | true =>
        go_wp2
        go_ret2
        exact ⟨congrArg Ending.returned HE2.out.symm, rfl⟩
      | false =>
        go_wp2
        go_ret2
        exact ⟨congrArg Ending.returned HE2.out.symm, rfl⟩
end Go.Proofs.YticigfpieeoolaaGreatDoor
