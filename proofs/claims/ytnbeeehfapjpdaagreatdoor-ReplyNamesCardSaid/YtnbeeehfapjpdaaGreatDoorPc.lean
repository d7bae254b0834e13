/- Walk of the reference's helper Copy. Arguments opened: a slice of bytes, of ints; what a law leaves behind reads as before. Arguments opened: slices of whatever elements, texts, flags. -/
import Derived.Test.YtnbeeehfapjpdaaGreatDoorQ11
import Derived.Test.YtnbeeehfapjpdaaGreatDoorFm
import Derived.Laws.AppendOwnNone
import Derived.Laws.MakeOwn
import Derived.Deep.MidRow
import Derived.Deep.Onto
import Derived.Deep.RegionHeld3
import Derived.Deep.DrawnRows
import Derived.Carry
import Derived.ProofKit
import Derived.OpenShut
import Derived.ChangeSlices
import Derived.Lib.SmallJoins
import Derived.Deep.Slices
import Derived.SizedLaws
section
namespace Go.Proofs.YtnbeeehfapjpdaaGreatDoor
attribute [local go_sem ↓] Go.wp_at_zero Go.wp_at_succ
open Go.RowKit

theorem info_u8 : (Tryz.prog.info? 5).map (fun i => (i.zero, i.size, i.bytes)) = some (some (.int .u8 0), 1, 1) := by kernel_rfl

/-- a row's cells at its address -/
theorem RowAt.cells {w : World} {ad : Addr} {xs : List Value} (h : RowAt w (some ad) xs) : ∀ j u, xs[j]? = some u → w.cell? (ad.add j) = some u := by
  intro j u hu
  rcases h with h | ⟨b, o, h1, _, h3⟩
  · rw [h] at hu; simp at hu
  · injection h1 with h1; subst h1
    rw [Addr.add_mid]; exact h3 j u hu

theorem bytesV_one (l : Sp.Bs) : ∀ u ∈ bytesV l, u.oneCell' = true := by
  intro u hu
  simp [bytesV] at hu
  obtain ⟨b, _, rfl⟩ := hu
  rfl

/-- a stretch of a row -/
theorem RowAt.stretch {w : World} {b o : Nat} {xs : List Value} (h : RowAt w (some ⟨b, o, none⟩) xs) (i j : Nat) : RowAt w (some ⟨b, o + i, none⟩) ((xs.drop i).take j) := by
  rcases h with h | ⟨b', o', h1, h2, h3⟩
  · left; simp [h]
  · injection h1 with h1; injection h1 with e1 e2
    subst e1; subst e2
    refine .inr ⟨b, o + i, rfl, h2, fun n u hu => ?_⟩
    rw [List.getElem?_take] at hu
    split at hu
    · rw [List.getElem?_drop] at hu
      rw [Nat.add_assoc]; exact h3 _ _ hu
    · cases hu
theorem RowAt.none_nil {w : World} {l : Sp.Bs} (h : RowAt w none (bytesV l)) : l = [] := by
  rcases h with h | ⟨b, o, h1, _⟩
  · simpa [bytesV] using h
  · cases h1

/-- where a slice's rest lies -/
def cutAddr (A : Option Addr) (a cap : Nat) : Option Addr := if cap = a then A else A.map (fun x => x.add a)

theorem run_slice_from (W : World) (A : Option Addr) (n cap a : Nat) (h : a ≤ n) :
    (Instr.slice 29 (.slice A n cap) (some (.int .i64 a)) none none).run Tryz.prog W = .ok (.slice (cutAddr A a cap) (n - a) (cap - a)) W := by
  obtain ⟨i0, hi, _, hz1, _⟩ := info_parts info_u8
  have he : Tryz.prog.elem 29 = 5 := by kernel_rfl
  have hu : Tryz.prog.underlying 29 = some (.slice (Tryz.prog.elem 29)) := by kernel_rfl
  rw [run_slice_l (P := Tryz.prog) W 29 A n cap hu .i64 (a : Int) (by omega) (by omega), he]
  have hs : (sizeOf 5).run Tryz.prog W = .ok 1 W := by simp [sizeOf, typeInfo, hi, hz1]
  rw [hs]
  simp [Result.andThen, sliced, cutAddr]

theorem RowAt.cut {w : World} {A : Option Addr} {xs : List Value} (h : RowAt w A xs) {a cap : Nat} (hc : xs.length ≤ cap) : RowAt w (cutAddr A a cap) (xs.drop a) := by
  unfold cutAddr
  split
  · rename_i e
    left
    rw [List.drop_eq_nil_iff]; omega
  · rcases h with h | ⟨b, o, h1, h2, h3⟩
    · left; simp [h]
    · subst h1
      have := RowAt.stretch (.inr ⟨b, o, rfl, h2, h3⟩) a xs.length
      rw [List.take_of_length_le (by rw [List.length_drop]; omega)] at this
      rw [Option.map_some, Addr.add_mid]
      exact this

theorem bytesV_drop (l : Sp.Bs) (i : Nat) : bytesV (l.drop i) = (bytesV l).drop i := by simp [bytesV]

end Go.Proofs.YtnbeeehfapjpdaaGreatDoor
end
section
namespace Go.Proofs.YtnbeeehfapjpdaaGreatDoor
open Go.ChangeShapes Go.WideShapes Go.ChangeAt Go.RowKit

section
variable {H : Type} {enc : TypeId × Value → H} {w : World} {spare : Nat → Bool} {held : Bool}

end

end Go.Proofs.YtnbeeehfapjpdaaGreatDoor
end
section
namespace Go.Proofs.YtnbeeehfapjpdaaGreatDoor
open Go.ChangeShapes Go.WideShapes Go.ChangeAt Go.RowKit

section
variable {H : Type} {enc : TypeId × Value → H} {w : World} {held : Bool}

theorem flatMap_get {α β : Type} {f : α → List β} {k : Nat} : ∀ {l : List α}, (∀ a ∈ l, (f a).length = k) → ∀ {i : Nat} {a : α}, l[i]? = some a → ∀ {r : Nat}, r < k → (l.flatMap f)[i * k + r]? = (f a)[r]?
  | [], _, i, a, h, _, _ => by simp at h
  | x :: t, hf, 0, a, h, r, hr => by
    simp at h; subst h
    rw [List.flatMap_cons, Nat.zero_mul, Nat.zero_add, List.getElem?_append_left (by rw [hf x (by simp)]; exact hr)]
  | x :: t, hf, i + 1, a, h, r, hr => by
    have hx := hf x (by simp)
    rw [List.flatMap_cons, List.getElem?_append_right (by rw [hx, Nat.succ_mul]; omega), hx, show (i + 1) * k + r - k = i * k + r by rw [Nat.succ_mul]; omega]
    exact flatMap_get (fun a ha => hf a (by simp [ha])) (by simpa using h) hr

/-! what the reach bounds -/
end
end Go.Proofs.YtnbeeehfapjpdaaGreatDoor
end
