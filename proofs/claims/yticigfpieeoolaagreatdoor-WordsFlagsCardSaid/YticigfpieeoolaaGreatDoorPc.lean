/- Walk of the reference's helper Copy. -/
import Derived.Test.YticigfpieeoolaaGreatDoorW9
import Derived.Test.YticigfpieeoolaaGreatDoorFm
import Derived.Laws.AppendOwnNone
import Derived.Laws.MakeOwn
import Derived.Deep.MidRow
import Derived.Deep.Onto
import Derived.Deep.RegionHeld3
import Derived.Deep.DrawnRows
namespace Go.Proofs.YticigfpieeoolaaGreatDoor
attribute [local go_sem ↓] Go.wp_at_zero Go.wp_at_succ
open Go.RowKit

theorem info_u8 : (Tryz.prog.info? 5).map (fun i => (i.zero, i.size, i.bytes)) = some (some (.int .u8 0), 1, 1) := by kernel_rfl

/-- a row's cells at its address -/
theorem RowAt.cells {w : World} {ad : Addr} {xs : List Value} (h : RowAt w (some ad) xs) : ∀ j u, xs[j]? = some u → w.cell? (ad.add j) = some u := by
  intro j u hu
  rcases h with h | ⟨b, o, h1, _, h3⟩
  · rw [h] at hu; simp at hu
  · injection h1 with h1; subst h1
    rw [Addr.add_mid]; exact h3 j u hu

theorem bytesV_one (l : Sp.Bs) : ∀ u ∈ bytesV l, u.oneCell' = true := by
  intro u hu
  simp [bytesV] at hu
  obtain ⟨b, _, rfl⟩ := hu
  rfl

/-- a stretch of a row -/
theorem RowAt.stretch {w : World} {b o : Nat} {xs : List Value} (h : RowAt w (some ⟨b, o, none⟩) xs) (i j : Nat) : RowAt w (some ⟨b, o + i, none⟩) ((xs.drop i).take j) := by
  rcases h with h | ⟨b', o', h1, h2, h3⟩
  · left; simp [h]
  · injection h1 with h1; injection h1 with e1 e2
    subst e1; subst e2
    refine .inr ⟨b, o + i, rfl, h2, fun n u hu => ?_⟩
    rw [List.getElem?_take] at hu
    split at hu
    · rw [List.getElem?_drop] at hu
      rw [Nat.add_assoc]; exact h3 _ _ hu
    · cases hu
theorem bytesV_stretch (l : Sp.Bs) (i j : Nat) : bytesV ((l.drop i).take j) = ((bytesV l).drop i).take j := by simp [bytesV]

theorem RowAt.none_nil {w : World} {l : Sp.Bs} (h : RowAt w none (bytesV l)) : l = [] := by
  rcases h with h | ⟨b, o, h1, _⟩
  · simpa [bytesV] using h
  · cases h1

/-- where a slice's rest lies -/
def cutAddr (A : Option Addr) (a cap : Nat) : Option Addr := if cap = a then A else A.map (fun x => x.add a)

theorem run_slice_from (W : World) (A : Option Addr) (n cap a : Nat) (h : a ≤ n) :
    (Instr.slice 38 (.slice A n cap) (some (.int .i64 a)) none none).run Tryz.prog W = .ok (.slice (cutAddr A a cap) (n - a) (cap - a)) W := by
  obtain ⟨i0, hi, _, hz1, _⟩ := info_parts info_u8
  have he : Tryz.prog.elem 38 = 5 := by kernel_rfl
  have hu : Tryz.prog.underlying 38 = some (.slice (Tryz.prog.elem 38)) := by kernel_rfl
  rw [run_slice_l (P := Tryz.prog) W 38 A n cap hu .i64 (a : Int) (by omega) (by omega), he]
  have hs : (sizeOf 5).run Tryz.prog W = .ok 1 W := by simp [sizeOf, typeInfo, hi, hz1]
  rw [hs]
  simp [Result.andThen, sliced, cutAddr]

theorem RowAt.cut {w : World} {A : Option Addr} {xs : List Value} (h : RowAt w A xs) {a cap : Nat} (hc : xs.length ≤ cap) : RowAt w (cutAddr A a cap) (xs.drop a) := by
  unfold cutAddr
  split
  · rename_i e
    left
    rw [List.drop_eq_nil_iff]; omega
  · rcases h with h | ⟨b, o, h1, h2, h3⟩
    · left; simp [h]
    · subst h1
      have := RowAt.stretch (.inr ⟨b, o, rfl, h2, h3⟩) a xs.length
      rw [List.take_of_length_le (by rw [List.length_drop]; omega)] at this
      rw [Option.map_some, Addr.add_mid]
      exact this

theorem cutAddr_none {A : Option Addr} {a cap : Nat} (hA : A = none → cap = 0) (h : cutAddr A a cap = none) : cap - a = 0 := by
  unfold cutAddr at h
  split at h
  · have := hA h; omega
  · cases A with
    | none => have := hA rfl; omega
    | some x => cases h

theorem bytesV_drop (l : Sp.Bs) (i : Nat) : bytesV (l.drop i) = (bytesV l).drop i := by simp [bytesV]

set_option maxHeartbeats 4000000 in
set_option maxRecDepth 100000 in
/-- Copy: the same bytes in new memory -/
theorem copy_any {w : World} {A : Option Addr} {cap : Nat} {l : Sp.Bs} (hn : l.length ≤ 100000000) (hrow : RowAt w A (bytesV l)) (hA : A = none → cap = 0) :
    Calls Tryz.prog 102 #[.slice A l.length cap] w fun e w' => ∃ g c, e = .returned (.slice (some ⟨g, 0, none⟩) l.length c) ∧ w'.ownsRow w.heap.size 5 1 (.slice (some ⟨g, 0, none⟩) l.length c) l.length (bytesV l) ∧ Below w.heap.size w w' := by
  obtain ⟨i0, hi, hz0, hz1, hz2⟩ := info_parts info_u8
  have hmk := run_make (P := Tryz.prog) w 38 5 i0 (.int .u8 0) Tryz.underlying38 hi hz0 .i64 .i64 0 (l.length : Int) (by decide) (by omega) (by rw [hz2]; omega) (by omega)
  have hown : (w.alloc (.cells (madeCells #[.int .u8 0] l.length) 5)).ownsRow w.heap.size 5 1 (.slice (some ⟨w.heap.size, 0, none⟩) 0 l.length) 0 [] := by
    refine ⟨rfl, .inr ⟨w.heap.size, l.length, madeCells #[.int .u8 0] l.length, rfl, Nat.le_refl _, heap_alloc_new w _, Nat.zero_le _, by unfold maxLen; omega, by rw [size_madeCells, Nat.mul_one], by simp⟩⟩
  have hb : Below w.heap.size w (w.alloc (.cells (madeCells #[.int .u8 0] l.length) 5)) := (Below.refl _ _).alloc (Nat.le_refl _) _
  have hrow2 := hrow.below hb
  rw [hz1, Int.toNat_natCast, Nat.mul_one] at hmk
  change _ = Result.ok (Value.slice (some ⟨w.heap.size, 0, none⟩) 0 l.length) (w.alloc (.cells (madeCells #[.int .u8 0] l.length) 5)) at hmk
  have hsz : (w.alloc (.cells (madeCells #[.int .u8 0] l.length) 5)).heap.size = w.heap.size + 1 := by simp
  generalize w.alloc (.cells (madeCells #[.int .u8 0] l.length) 5) = w1 at hmk hown hb hrow2 hsz
  have hone := bytesV_one l
  have hlen := bytesV_length l
  have HO := Lib.hid hown
  have HB := Lib.hid hb
  have HR := Lib.hid hrow2
  have HN := Lib.hid hone
  have HL := Lib.hid hlen
  clear hown hb hrow hrow2 hone hlen
  go_enter Tryz.func102, Tryz.ntmps102
  cases A with
  | none =>
    obtain rfl := hA rfl
    obtain rfl := HR.out.none_nil
    have hmk0 : (Instr.makeSlice 38 (.int .i64 0) (.int .i64 0)).run Tryz.prog w = Result.ok (Value.slice (some ⟨w.heap.size, 0, none⟩) 0 0) w1 := hmk
    clear hmk
    go_wp2_with (at_builtin; refine wpList_append_own_none rfl (.tmp 7) (.tmp 8) _ rfl w.heap.size 5 i0 1 Tryz.underlying38 hi _ 0 [] rfl HO.out rfl ?_)
    go_ret
    exact ⟨_, _, rfl, HO.out, HB.out⟩
  | some ad =>
    go_wp2_with (at_builtin; refine wpList_append_own_at w1 rfl (.tmp 7) (.tmp 8) _ rfl w.heap.size 5 i0 _ 1 1 Tryz.underlying38 hi hz0 hz1 hz2 rfl (by decide) (.slice (some ⟨w.heap.size, 0, none⟩) 0 l.length) 0 [] rfl HO.out ad l.length cap (bytesV l) rfl ?_ ?_ ?_ ?_ ?_ ?_ ?_; (rw [HL.out]; omega); exact HR.out.cells; exact HN.out; (unfold maxLen; omega); omega; omega; intro v' w2 hown2 hg2 hnil hat2; have Hown := Lib.hid hown2; have Hg := Lib.hid hg2; have Hnil := Lib.hid hnil; clear hown2 hg2 hnil hat2)
    obtain ⟨g, c, rfl⟩ : ∃ g c, v' = .slice (some ⟨g, 0, none⟩) l.length c := by
      have h := Hown.out
      rw [Nat.zero_add] at h
      rcases h.2 with ⟨h1, _⟩ | ⟨g, c, cur, h1, _⟩
      · have := (Hnil.out.1 h1).1
        injection this with h2
        cases h2
      · exact ⟨g, c, h1⟩
    have hfin : w2.ownsRow w.heap.size 5 1 (.slice (some ⟨g, 0, none⟩) l.length c) l.length (bytesV l) := by
      have h := Hown.out
      rwa [Nat.zero_add, List.nil_append] at h
    have hb2 : Below w.heap.size w w2 := HB.out.grown Hg.out (by omega) (fun k hk => by simp [Value.ownBlock] at hk; omega)
    have HF := Lib.hid hfin
    have HB2 := Lib.hid hb2
    clear hfin hb2 Hown Hg Hnil
    go_ret
    exact ⟨_, _, rfl, HF.out, HB2.out⟩
end Go.Proofs.YticigfpieeoolaaGreatDoor
