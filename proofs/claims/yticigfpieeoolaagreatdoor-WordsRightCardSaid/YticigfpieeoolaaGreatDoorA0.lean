/- The library's functions over rows of bytes: IndexByte, HasPrefix, TrimSuffix, Clone. -/
import Derived.Test.YticigfpieeoolaaGreatDoorPc
import Derived.Test.YticigfpieeoolaaGreatDoorL2
import Derived.Test.YticigfpieeoolaaGreatDoorShelf
namespace Go.Proofs.YticigfpieeoolaaGreatDoor
open Go.RowKit

def numsOf (l : Sp.Bs) : List Int := l.map fun b => (b.toNat : Int)
theorem numsOf_length (l : Sp.Bs) : (numsOf l).length = l.length := by simp [numsOf]
theorem bytesOf_nums (l : Sp.Bs) : Lib.bytesOf (numsOf l) = l := by
  unfold Lib.bytesOf numsOf
  rw [List.map_map]
  conv => rhs; rw [← List.map_id l]
  exact List.map_congr_left fun b _ => by simp
theorem nums_cells {w : World} {a : Addr} {l : Sp.Bs} (h : RowAt w (some a) (bytesV l)) : ∀ i, i < l.length → w.cell? (a.add i) = some (.int .u8 ((numsOf l).getD i 0)) := by
  intro i hi
  refine h.cells i _ ?_
  simp [bytesV, numsOf, hi]

theorem index_any {w : World} {A : Option Addr} {cap : Nat} {l : Sp.Bs} (h : RowAt w A (bytesV l)) (hA : A = none → cap = 0) (c : UInt8) :
    Calls Tryz.prog 103 #[.slice A l.length cap, .int .u8 c.toNat] w fun e w' => e = .returned (.int .i64 (Lib.indexByte l c)) ∧ w = w' := by
  cases A with
  | none =>
    obtain rfl := hA rfl
    obtain rfl := h.none_nil
    exact (Tryz.bytes_IndexByte_nil c.toNat w).mono fun e w' ⟨h1, h2⟩ => ⟨h1, h2.symm⟩
  | some a =>
    have := Tryz.bytes_IndexByte_at a l.length cap (numsOf l) c.toNat w (numsOf_length l) (nums_cells h)
    rw [bytesOf_nums] at this
    refine this.mono fun e w' ⟨h1, h2⟩ => ⟨?_, h2.symm⟩
    rw [h1]
    simp

theorem bytesIn_row {w : World} {A : Option Addr} {l : Sp.Bs} (h : RowAt w A (bytesV l)) : Lib.BytesIn w A l.length (numsOf l) := by
  intro hn
  rcases h with h | ⟨b, o, h1, _, h3⟩
  · have : l = [] := by simpa [bytesV] using h
    rw [this] at hn; simp at hn
  · refine ⟨b, o, h1, fun i hi => h3 i _ ?_⟩
    simp [bytesV, numsOf, hi]

theorem hasPrefix_eq (l p : Sp.Bs) : Lib.hasPrefix l p = decide (l.take p.length = p) := by
  unfold Lib.hasPrefix
  rw [Bool.eq_iff_iff, List.isPrefixOf_iff_prefix, List.prefix_iff_eq_take, decide_eq_true_eq]
  exact eq_comm

theorem prefix_any {w : World} {A B : Option Addr} {cap d : Nat} {l p : Sp.Bs} (h : RowAt w A (bytesV l)) (hp : RowAt w B (bytesV p)) (hc : l.length ≤ cap) :
    Calls Tryz.prog 128 #[.slice A l.length cap, .slice B p.length d] w fun e w' => e = .returned (.bool (decide (l.take p.length = p))) ∧ w = w' := by
  refine (Tryz.bytes_HasPrefix_all A B l.length cap p.length d (numsOf l) (numsOf p) w (numsOf_length l) (numsOf_length p) hc (bytesIn_row h) (bytesIn_row hp)).mono ?_
  rintro e w' ⟨h1, h2⟩
  rw [bytesOf_nums, bytesOf_nums, hasPrefix_eq] at h1
  exact ⟨h1, h2.symm⟩

theorem hasSuffix_13 (l : Sp.Bs) : Lib.hasSuffix l [13] = decide (l.getLast? = some 13) := by
  unfold Lib.hasSuffix
  rw [Bool.eq_iff_iff, List.isSuffixOf_iff_suffix, decide_eq_true_eq]
  constructor
  · rintro ⟨t, rfl⟩; simp
  · intro h
    refine ⟨l.dropLast, ?_⟩
    obtain ⟨a, rfl⟩ := List.getLast?_eq_some_iff.1 h
    simp

theorem chop_any {w : World} {A B : Option Addr} {cap d : Nat} {l : Sp.Bs} (h : RowAt w A (bytesV l)) (hB : RowAt w B (bytesV [13])) (hc : l.length ≤ cap) (hbig : l.length ≤ 9223372036854775807) (hA : A = none → cap = 0) :
    Calls Tryz.prog 104 #[.slice A l.length cap, .slice B 1 d] w fun e w' => e = .returned (.slice A (Sp.chop l).length cap) ∧ w = w' := by
  refine (Tryz.bytes_TrimSuffix_all A B l.length cap 1 d (numsOf l) (numsOf [13]) w (numsOf_length l) rfl hc hbig (bytesIn_row h) (bytesIn_row hB)).mono ?_
  rintro e w' ⟨h1, h2⟩
  refine ⟨h1.trans (congrArg _ ?_), h2.symm⟩
  rcases h with h | ⟨b, o, e1, _, _⟩
  · have : l = [] := by simpa [bytesV] using h
    subst this
    cases A with
    | none => rfl
    | some a =>
      obtain ⟨b, o, s⟩ := a
      cases s with
      | none => rfl
      | some x => rfl
  · subst e1
    show Lib.bytesTrimSuffix b o l.length cap (numsOf l) (numsOf [13]) = _
    unfold Lib.bytesTrimSuffix Sp.chop
    rw [bytesOf_nums, bytesOf_nums, hasSuffix_13]
    by_cases hl : l.getLast? = some 13
    · rw [if_pos (by simpa using hl), if_pos hl]
      unfold Lib.sliceTo
      simp [numsOf]
    · rw [if_neg (by simpa using hl), if_neg hl]

theorem clone_any {w : World} {A : Option Addr} {cap : Nat} {l : Sp.Bs} (h : RowAt w A (bytesV l)) (hn : l.length ≤ 100000000000) :
    Calls Tryz.prog 106 #[.slice A l.length cap] w fun e w' => ∃ v, e = .returned v ∧ w'.ownsRow w.heap.size 5 1 v l.length (bytesV l) ∧ Below w.heap.size w w' := by
  cases A with
  | none =>
    obtain rfl := h.none_nil
    refine (Tryz.bytes_Clone_nil 0 cap w).mono ?_
    rintro e w' ⟨rfl, rfl⟩
    exact ⟨_, rfl, World.ownsRow_nil _ _ _ 1, Below.refl _ _⟩
  | some a =>
    refine (Tryz.bytes_Clone_at a l.length cap (numsOf l) w (numsOf_length l) (by omega) (nums_cells h)).mono ?_
    rintro e w' ⟨v, rfl, h1, _, h2⟩
    refine ⟨v, rfl, ?_, h2⟩
    have e : (numsOf l).map (Value.int .u8) = bytesV l := by simp [numsOf, bytesV]
    rw [e] at h1
    exact h1
end Go.Proofs.YticigfpieeoolaaGreatDoor
