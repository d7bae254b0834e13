/- Plain laws: the library's plain functions (fields, index of a rune, trim, numbers) against the plain model of package words. No program in sight. -/
import Derived.Test.YtnbeeehfapjpdaaGreatDoorSp
import Derived.Lib.FieldsP
import Derived.Lib.MapLaws
import Derived.Lib.TrimUEq
import Derived.Lib.ParseIntB
import Derived.Lib.SlTrimSet
import Derived.Shelf.GgClosure.StringsIndexFunc
namespace Go.Proofs.YtnbeeehfapjpdaaGreatDoor
open Go.Lib Sp

theorem bytes_size (s : ByteArray) : s.data.toList.length = s.size := (size_eq s).symm
theorem bytes_mk (s : ByteArray) : (⟨s.data.toList.toArray⟩ : ByteArray) = s := by cases s; simp
theorem dec_low (s : ByteArray) (pos : Nat) (hb : (s.data.toList.getD pos 0).toNat < 128) : Utf8.decode s pos = ((s.data.toList.getD pos 0).toNat, 1) := by
  rw [decode_N, decodeN_ascii _ _ _ _ _ hb]

theorem dec_high (s : ByteArray) (pos : Nat) (h : pos < s.size) (hb : 128 ≤ (s.data.toList.getD pos 0).toNat) :
    128 ≤ (Utf8.decode s pos).1 ∧ 1 ≤ (Utf8.decode s pos).2 ∧ pos + (Utf8.decode s pos).2 ≤ s.size ∧ ∀ j, pos ≤ j → j < pos + (Utf8.decode s pos).2 → 128 ≤ (s.data.toList.getD j 0).toNat := by
  have hl : s.data.toList.length = s.size := bytes_size s
  rw [decode_N]
  rcases decodeN_shape (s.data.toList.length - pos) (s.data.toList.getD pos 0).toNat (s.data.toList.getD (pos + 1) 0).toNat (s.data.toList.getD (pos + 2) 0).toNat (s.data.toList.getD (pos + 3) 0).toNat with ⟨c, e⟩ | ⟨c1, c2, c3, cv, e⟩ | ⟨c1, c2, c3, c4, cv, cs, e⟩ | ⟨c1, c2, c3, c4, c5, cv, cw, e⟩ | e
  · omega
  · rw [e]
    refine ⟨cv, by dsimp only; omega, by dsimp only; omega, fun j h1 h2 => ?_⟩
    dsimp only at h2
    have : j = pos ∨ j = pos + 1 := by omega
    rcases this with rfl | rfl <;> omega
  · rw [e]
    refine ⟨by dsimp only; omega, by dsimp only; omega, by dsimp only; omega, fun j h1 h2 => ?_⟩
    dsimp only at h2
    have : j = pos ∨ j = pos + 1 ∨ j = pos + 2 := by omega
    rcases this with rfl | rfl | rfl <;> omega
  · rw [e]
    refine ⟨by dsimp only; omega, by dsimp only; omega, by dsimp only; omega, fun j h1 h2 => ?_⟩
    dsimp only at h2
    have : j = pos ∨ j = pos + 1 ∨ j = pos + 2 ∨ j = pos + 3 := by omega
    rcases this with rfl | rfl | rfl | rfl <;> omega
  · rw [e]
    refine ⟨by decide, by decide, by dsimp only; omega, fun j h1 h2 => ?_⟩
    dsimp only at h2
    obtain rfl : j = pos := by omega
    exact hb

theorem drop_cons {l : List UInt8} {pos : Nat} (h : pos < l.length) : l.drop pos = l.getD pos 0 :: l.drop (pos + 1) := by
  rw [List.drop_eq_getElem_cons h]
  simp [List.getD, h]

theorem mem_take_drop {l : List UInt8} {pos n : Nat} {x : UInt8} (h : x ∈ (l.drop pos).take n) : ∃ j, pos ≤ j ∧ j < pos + n ∧ j < l.length ∧ l.getD j 0 = x := by
  obtain ⟨i, hi, hx⟩ := List.mem_iff_getElem.1 h
  simp only [List.length_take, List.length_drop] at hi
  refine ⟨pos + i, by omega, by omega, by omega, ?_⟩
  rw [← hx]
  have : pos + i < l.length := by omega
  simp [List.getD, this]

/-- the rune is no byte of a key -/
def offKey (c : Nat) : Bool := decide ((c : Int) ≤ 32) || decide ((c : Int) = 127)
theorem offKey_low (c : UInt8) : offKey c.toNat = !keyByte c := by
  unfold offKey keyByte
  by_cases h1 : c.toNat ≤ 32
  · have h2 : ((c.toNat : Nat) : Int) ≤ 32 := by omega
    have h3 : ¬ 32 < c.toNat := by omega
    simp [h2, h3]
  · have h2 : ¬ ((c.toNat : Nat) : Int) ≤ 32 := by omega
    have h3 : 32 < c.toNat := by omega
    by_cases h4 : c.toNat = 127
    · have h5 : ((c.toNat : Nat) : Int) = 127 := by omega
      simp [h4]
    · have h5 : ¬ ((c.toNat : Nat) : Int) = 127 := by omega
      simp [h2, h3, h4, h5]
theorem offKey_high (c : Nat) (h : 128 ≤ c) : offKey c = false := by
  unfold offKey
  have h2 : ¬ ((c : Nat) : Int) ≤ 32 := by omega
  have h5 : ¬ ((c : Nat) : Int) = 127 := by omega
  simp [h2, h5]
theorem keyByte_high (c : UInt8) (h : 128 ≤ c.toNat) : keyByte c = true := by
  unfold keyByte
  simp; omega

theorem idx_all (s : ByteArray) : ∀ (f pos : Nat), s.size ≤ pos + f → (decide (idxFuncFrom offKey true s f pos < 0)) = (s.data.toList.drop pos).all keyByte
  | 0, pos, h => by
    rw [List.drop_eq_nil_of_le (by rw [bytes_size]; omega)]
    simp [idxFuncFrom]
  | f + 1, pos, h => by
    unfold idxFuncFrom
    by_cases hp : pos < s.size
    · rw [if_pos hp]
      have hl : pos < s.data.toList.length := by rw [bytes_size]; exact hp
      by_cases hb : (s.data.toList.getD pos 0).toNat < 128
      · rw [dec_low s pos hb]
        dsimp only
        rw [drop_cons hl, List.all_cons, ← idx_all s f (pos + 1) (by omega), offKey_low]
        cases hk : keyByte (s.data.toList.getD pos 0)
        · simp
        · simp
      · obtain ⟨h1, h2, h3, h4⟩ := dec_high s pos hp (by omega)
        rw [offKey_high _ h1]
        simp only [Bool.false_eq_true, if_false]
        rw [idx_all s f _ (by omega)]
        have e : s.data.toList.drop pos = (s.data.toList.drop pos).take (Utf8.decode s pos).2 ++ s.data.toList.drop (pos + (Utf8.decode s pos).2) := by
          rw [← List.drop_drop, List.take_append_drop]
        rw [e, List.all_append]
        have ea : ((s.data.toList.drop pos).take (Utf8.decode s pos).2).all keyByte = true := by
          rw [List.all_eq_true]
          intro x hx
          obtain ⟨j, j1, j2, _, rfl⟩ := mem_take_drop hx
          exact keyByte_high _ (h4 j j1 j2)
        rw [ea, Bool.true_and]
    · rw [if_neg hp, List.drop_eq_nil_of_le (by rw [bytes_size]; omega)]
      simp

theorem idx_key (s : ByteArray) : decide (idxFunc offKey true s < 0) = s.data.toList.all keyByte := by
  have := idx_all s s.size 0 (by omega)
  rw [List.drop_zero] at this
  exact this

/-! ### fields -/
def isBlank (c : Nat) : Bool := decide ((c : Int) = 32)

def pieces (l : List UInt8) (acc : List (Nat × Nat)) : List Bs := acc.map fun x => (l.take x.2).drop x.1
def curOf (l : List UInt8) (st : Option Nat) (pos : Nat) : Bs := match st with | some a => (l.take pos).drop a | none => []

/-! ### numbers -/
def digitSet : Bs := [48, 49, 50, 51, 52, 53, 54, 55, 56, 57]
end Go.Proofs.YtnbeeehfapjpdaaGreatDoor
