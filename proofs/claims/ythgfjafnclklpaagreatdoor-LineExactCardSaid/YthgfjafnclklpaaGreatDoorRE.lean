/- Walks of the document's reading of lines: digits, the verbs' rows and words. Walk of the document's Signed. -/
import Derived.Test.YthgfjafnclklpaaGreatDoorR3
import Derived.Test.YthgfjafnclklpaaGreatDoorG1
import Derived.Test.YthgfjafnclklpaaGreatDoorPj
section
namespace Go.Proofs.YthgfjafnclklpaaGreatDoor
attribute [local go_sem ↓] Go.wp_at_zero Go.wp_at_succ
open Go.RowKit

def spelledArr : Array Value := #[Value.string ⟨#[103, 101, 116]⟩, Value.string ⟨#[103, 101, 116, 115]⟩, Value.string ⟨#[103, 97, 116]⟩, Value.string ⟨#[103, 97, 116, 115]⟩, Value.string ⟨#[115, 101, 116]⟩, Value.string ⟨#[97, 100, 100]⟩, Value.string ⟨#[114, 101, 112, 108, 97, 99, 101]⟩, Value.string ⟨#[97, 112, 112, 101, 110, 100]⟩, Value.string ⟨#[112, 114, 101, 112, 101, 110, 100]⟩, Value.string ⟨#[99, 97, 115]⟩, Value.string ⟨#[100, 101, 108, 101, 116, 101]⟩, Value.string ⟨#[105, 110, 99, 114]⟩, Value.string ⟨#[100, 101, 99, 114]⟩, Value.string ⟨#[116, 111, 117, 99, 104]⟩, Value.string ⟨#[102, 108, 117, 115, 104, 95, 97, 108, 108]⟩, Value.string ⟨#[118, 101, 114, 115, 105, 111, 110]⟩, Value.string ⟨#[118, 101, 114, 98, 111, 115, 105, 116, 121]⟩, Value.string ⟨#[113, 117, 105, 116]⟩, Value.string ⟨#[115, 116, 97, 116, 115]⟩, Value.string ⟨#[109, 103]⟩, Value.string ⟨#[109, 115]⟩, Value.string ⟨#[109, 100]⟩, Value.string ⟨#[109, 97]⟩, Value.string ⟨#[109, 110]⟩]
theorem spelled_at : ∀ v : Fin 24, spelledArr[v.val]? = some (str (wordBy (v.val + 1))) := by
  intro v
  have h : v = 0 ∨ v = 1 ∨ v = 2 ∨ v = 3 ∨ v = 4 ∨ v = 5 ∨ v = 6 ∨ v = 7 ∨ v = 8 ∨ v = 9 ∨ v = 10 ∨ v = 11 ∨ v = 12 ∨ v = 13 ∨ v = 14 ∨ v = 15 ∨ v = 16 ∨ v = 17 ∨ v = 18 ∨ v = 19 ∨ v = 20 ∨ v = 21 ∨ v = 22 ∨ v = 23 := by omega
  rcases h with rfl | rfl | rfl | rfl | rfl | rfl | rfl | rfl | rfl | rfl | rfl | rfl | rfl | rfl | rfl | rfl | rfl | rfl | rfl | rfl | rfl | rfl | rfl | rfl <;> rfl
set_option maxRecDepth 100000 in
theorem run_store_spelled (w : World) (z : Array Value) (hz : z.size = 24) :
    (storeVar 180 ⟨w.heap.size, 0, none⟩ (.agg #[Value.string ⟨#[103, 101, 116]⟩, Value.string ⟨#[103, 101, 116, 115]⟩, Value.string ⟨#[103, 97, 116]⟩, Value.string ⟨#[103, 97, 116, 115]⟩, Value.string ⟨#[115, 101, 116]⟩, Value.string ⟨#[97, 100, 100]⟩, Value.string ⟨#[114, 101, 112, 108, 97, 99, 101]⟩, Value.string ⟨#[97, 112, 112, 101, 110, 100]⟩, Value.string ⟨#[112, 114, 101, 112, 101, 110, 100]⟩, Value.string ⟨#[99, 97, 115]⟩, Value.string ⟨#[100, 101, 108, 101, 116, 101]⟩, Value.string ⟨#[105, 110, 99, 114]⟩, Value.string ⟨#[100, 101, 99, 114]⟩, Value.string ⟨#[116, 111, 117, 99, 104]⟩, Value.string ⟨#[102, 108, 117, 115, 104, 95, 97, 108, 108]⟩, Value.string ⟨#[118, 101, 114, 115, 105, 111, 110]⟩, Value.string ⟨#[118, 101, 114, 98, 111, 115, 105, 116, 121]⟩, Value.string ⟨#[113, 117, 105, 116]⟩, Value.string ⟨#[115, 116, 97, 116, 115]⟩, Value.string ⟨#[109, 103]⟩, Value.string ⟨#[109, 115]⟩, Value.string ⟨#[109, 100]⟩, Value.string ⟨#[109, 97]⟩, Value.string ⟨#[109, 110]⟩])).run Tryz.prog (w.alloc (.cells z 180)) = .ok () (w.alloc (.cells #[Value.string ⟨#[103, 101, 116]⟩, Value.string ⟨#[103, 101, 116, 115]⟩, Value.string ⟨#[103, 97, 116]⟩, Value.string ⟨#[103, 97, 116, 115]⟩, Value.string ⟨#[115, 101, 116]⟩, Value.string ⟨#[97, 100, 100]⟩, Value.string ⟨#[114, 101, 112, 108, 97, 99, 101]⟩, Value.string ⟨#[97, 112, 112, 101, 110, 100]⟩, Value.string ⟨#[112, 114, 101, 112, 101, 110, 100]⟩, Value.string ⟨#[99, 97, 115]⟩, Value.string ⟨#[100, 101, 108, 101, 116, 101]⟩, Value.string ⟨#[105, 110, 99, 114]⟩, Value.string ⟨#[100, 101, 99, 114]⟩, Value.string ⟨#[116, 111, 117, 99, 104]⟩, Value.string ⟨#[102, 108, 117, 115, 104, 95, 97, 108, 108]⟩, Value.string ⟨#[118, 101, 114, 115, 105, 111, 110]⟩, Value.string ⟨#[118, 101, 114, 98, 111, 115, 105, 116, 121]⟩, Value.string ⟨#[113, 117, 105, 116]⟩, Value.string ⟨#[115, 116, 97, 116, 115]⟩, Value.string ⟨#[109, 103]⟩, Value.string ⟨#[109, 115]⟩, Value.string ⟨#[109, 100]⟩, Value.string ⟨#[109, 97]⟩, Value.string ⟨#[109, 110]⟩] 180)) :=
  run_storeVar_new w _ _ _ (by kernel_rfl) hz (by simp [Value.oneCell'])

section
attribute [-go_sem] storeVar
attribute [local go_sem] run_store_spelled
set_option maxHeartbeats 4000000 in
set_option maxRecDepth 100000 in
theorem refSpelled_any (v : Nat) (w : World) (h1 : 1 ≤ v) (h2 : v ≤ 24) :
    Calls Tryz.prog 80 #[.int .i64 v] w fun e w' => e = .returned (str (wordBy v)) ∧ Below w.heap.size w w' := by
  have hb0 : Below w.heap.size w (w.alloc (.cells spelledArr 180)) := (Below.refl _ _).alloc (Nat.le_refl _) _
  have hbl := Blk.new w 180 spelledArr
  generalize hR : (fun (e : Ending) (w' : World) => e = .returned (str (wordBy v)) ∧ Below w.heap.size w w') = R
  have HR := Lib.hid hR
  have HBL := Lib.hid hbl
  have HB0 := Lib.hid hb0
  clear hR hbl hb0
  go_enter Tryz.func80, Tryz.ntmps80
  go_upto_region 1 with (fail)
  go_cut [3] (fun p wx => p = .pointer (some ⟨w.heap.size, 0, none⟩) ∧ Blk wx w.heap.size 180 spelledArr ∧ Below w.heap.size w wx)
  case first =>
    go_wp2_with fail
    go_meet
    exact ⟨rfl, HBL.out, HB0.out⟩
  case rest =>
    obtain ⟨rfl, hbl, hb⟩ := hcut
    obtain ⟨n, rfl⟩ : ∃ n, v = n + 1 := ⟨v - 1, by omega⟩
    have x := (hbl.cell n).trans (spelled_at ⟨n, by omega⟩)
    have HB := Lib.hid hb
    have hs : ((n + 1 : Nat) : Int) - 1 = (n : Int) := by omega
    have h0 : (0 : Int) ≤ (n : Int) := by omega
    have h24 : (n : Int) < 24 := by omega
    clear hbl hb
    go_wp2_with fail
    rw [← HR.out]
    exact ⟨rfl, HB.out⟩
end

/-- what the document's RowOf tells -/
abbrev refRow (v : Nat) (r : Sp.RowV) : Value := .agg #[.int .i64 v, str (zeds r.places), .int .i64 r.least, .bool r.more, .bool r.noreply, .bool r.block]
theorem refRowOf_one (v : Nat) (w : World) (h : v = 1 ∨ v = 2 ∨ v = 3 ∨ v = 4 ∨ v = 5 ∨ v = 6 ∨ v = 7 ∨ v = 8) :
    Calls Tryz.prog 41 #[.int .i64 v] w fun e w' => e = .returned (refRow v (rowBy v)) ∧ Below w.heap.size w w' := by
  rcases h with rfl | rfl | rfl | rfl | rfl | rfl | rfl | rfl
  all_goals
    go_enter Tryz.func41, Tryz.ntmps41
    go_wp2
    refine ⟨rfl, _, results_cell_row (P := Tryz.prog) (p := 2) (ty := 86) (by kernel_rfl) _ _ w.heap.size 86 _ _ _ rfl (heap_alloc_new _ _) Tryz.underlying86 rfl (by kernel_rfl), ?_⟩
    exact ⟨rfl, (Below.refl _ _).alloc (Nat.le_refl _) _⟩
theorem refRowOf_two (v : Nat) (w : World) (h : v = 9 ∨ v = 10 ∨ v = 11 ∨ v = 12 ∨ v = 13 ∨ v = 14 ∨ v = 15 ∨ v = 16) :
    Calls Tryz.prog 41 #[.int .i64 v] w fun e w' => e = .returned (refRow v (rowBy v)) ∧ Below w.heap.size w w' := by
  rcases h with rfl | rfl | rfl | rfl | rfl | rfl | rfl | rfl
  all_goals
    go_enter Tryz.func41, Tryz.ntmps41
    go_wp2
    refine ⟨rfl, _, results_cell_row (P := Tryz.prog) (p := 2) (ty := 86) (by kernel_rfl) _ _ w.heap.size 86 _ _ _ rfl (heap_alloc_new _ _) Tryz.underlying86 rfl (by kernel_rfl), ?_⟩
    exact ⟨rfl, (Below.refl _ _).alloc (Nat.le_refl _) _⟩
theorem refRowOf_three (v : Nat) (w : World) (h : v = 17 ∨ v = 18 ∨ v = 19 ∨ v = 20 ∨ v = 21 ∨ v = 22 ∨ v = 23 ∨ v = 24) :
    Calls Tryz.prog 41 #[.int .i64 v] w fun e w' => e = .returned (refRow v (rowBy v)) ∧ Below w.heap.size w w' := by
  rcases h with rfl | rfl | rfl | rfl | rfl | rfl | rfl | rfl
  all_goals
    go_enter Tryz.func41, Tryz.ntmps41
    go_wp2
    refine ⟨rfl, _, results_cell_row (P := Tryz.prog) (p := 2) (ty := 86) (by kernel_rfl) _ _ w.heap.size 86 _ _ _ rfl (heap_alloc_new _ _) Tryz.underlying86 rfl (by kernel_rfl), ?_⟩
    exact ⟨rfl, (Below.refl _ _).alloc (Nat.le_refl _) _⟩
theorem refRowOf_any (v : Nat) (w : World) (h1 : 1 ≤ v) (h2 : v ≤ 24) : Calls Tryz.prog 41 #[.int .i64 v] w fun e w' => e = .returned (refRow v (rowBy v)) ∧ Below w.heap.size w w' := by
  rcases Nat.lt_or_ge v 9 with h | h
  · exact refRowOf_one v w (by omega)
  · rcases Nat.lt_or_ge v 17 with h' | h'
    · exact refRowOf_two v w (by omega)
    · exact refRowOf_three v w (by omega)

end Go.Proofs.YthgfjafnclklpaaGreatDoor
end
section
namespace Go.Proofs.YthgfjafnclklpaaGreatDoor
attribute [local go_sem ↓] Go.wp_at_zero Go.wp_at_succ
open Go.RowKit

end Go.Proofs.YthgfjafnclklpaaGreatDoor
end
