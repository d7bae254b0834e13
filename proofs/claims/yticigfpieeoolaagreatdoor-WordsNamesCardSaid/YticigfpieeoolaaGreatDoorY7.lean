/- Walk of the statement WordsNames. -/
import Derived.Test.YticigfpieeoolaaGreatDoorY6
namespace Go.Proofs.YticigfpieeoolaaGreatDoor
open Go.RowKit
attribute [local go_sem ↓] Go.wp_at_zero Go.wp_at_succ

def verbArr : Array Value := #[.int .i64 1, .int .i64 2, .int .i64 3, .int .i64 4, .int .i64 5, .int .i64 6, .int .i64 7, .int .i64 8, .int .i64 9, .int .i64 10, .int .i64 11, .int .i64 12, .int .i64 13, .int .i64 14, .int .i64 15, .int .i64 16, .int .i64 17, .int .i64 18, .int .i64 19, .int .i64 20, .int .i64 21, .int .i64 22, .int .i64 23, .int .i64 24]
theorem verbs_at (k : Nat) (h : k < 24) : verbArr[k]? = some (.int .i64 ((k : Int) + 1)) := by
  have h : k = 0 ∨ k = 1 ∨ k = 2 ∨ k = 3 ∨ k = 4 ∨ k = 5 ∨ k = 6 ∨ k = 7 ∨ k = 8 ∨ k = 9 ∨ k = 10 ∨ k = 11 ∨ k = 12 ∨ k = 13 ∨ k = 14 ∨ k = 15 ∨ k = 16 ∨ k = 17 ∨ k = 18 ∨ k = 19 ∨ k = 20 ∨ k = 21 ∨ k = 22 ∨ k = 23 := by omega
  rcases h with rfl | rfl | rfl | rfl | rfl | rfl | rfl | rfl | rfl | rfl | rfl | rfl | rfl | rfl | rfl | rfl | rfl | rfl | rfl | rfl | rfl | rfl | rfl | rfl <;> rfl

set_option maxRecDepth 100000 in
theorem run_store_verbs (w : World) (z : Array Value) (hz : z.size = 24) :
    (storeVar 82 ⟨w.heap.size, 0, none⟩ (.agg #[.int .i64 1, .int .i64 2, .int .i64 3, .int .i64 4, .int .i64 5, .int .i64 6, .int .i64 7, .int .i64 8, .int .i64 9, .int .i64 10, .int .i64 11, .int .i64 12, .int .i64 13, .int .i64 14, .int .i64 15, .int .i64 16, .int .i64 17, .int .i64 18, .int .i64 19, .int .i64 20, .int .i64 21, .int .i64 22, .int .i64 23, .int .i64 24])).run Tryz.prog (w.alloc (.cells z 82)) = .ok () (w.alloc (.cells #[.int .i64 1, .int .i64 2, .int .i64 3, .int .i64 4, .int .i64 5, .int .i64 6, .int .i64 7, .int .i64 8, .int .i64 9, .int .i64 10, .int .i64 11, .int .i64 12, .int .i64 13, .int .i64 14, .int .i64 15, .int .i64 16, .int .i64 17, .int .i64 18, .int .i64 19, .int .i64 20, .int .i64 21, .int .i64 22, .int .i64 23, .int .i64 24] 82)) :=
  run_storeVar_new w _ _ _ (by kernel_rfl) hz (by simp [Value.oneCell'])

attribute [-go_sem] storeVar
attribute [local go_sem] run_store_verbs

set_option maxHeartbeats 1000000 in
set_option maxRecDepth 100000 in
theorem wordsNames_any {w : World} (hg : Glob w) (ht : TabAt w) : Calls Tryz.prog 7 #[] w fun e w' => e = .returned (.bool true) ∧ Below w.heap.size w w' := by
  have hb0 : Below w.heap.size w (w.alloc (.cells verbArr 82)) := (Below.refl _ _).alloc (Nat.le_refl _) _
  have hbl := Blk.new w 82 verbArr
  generalize hR : (fun (e : Ending) (w' : World) => e = .returned (.bool true) ∧ Below w.heap.size w w') = R
  have hnu := fun (W : World) => num_any 7 W
  have HR := Lib.hid hR
  have HG := Lib.hid hg
  have HT := Lib.hid ht
  have HBL := Lib.hid hbl
  have HB0 := Lib.hid hb0
  have HNU := Lib.hid hnu
  clear hR hg ht hbl hb0 hnu
  go_enter Tryz.func7, Tryz.ntmps7
  go_upto_region 1 with (fail)
  go_cut [1] (fun p wx => p = .pointer (some ⟨w.heap.size, 0, none⟩) ∧ Blk wx w.heap.size 82 verbArr ∧ Below w.heap.size w wx)
  case first =>
    go_wp2_with fail
    go_meet
    exact ⟨rfl, HBL.out, HB0.out⟩
  case rest =>
    obtain ⟨rfl, hbl, hb⟩ := hcut
    have hw := wakes11_any (HG.out.later hb) (HT.out.later HG.out hb)
    have hlt := hbl.lt
    have HW := Lib.hid hw
    have HBX := Lib.hid hbl
    have HBW := Lib.hid hb
    clear hw hbl hb HBL HB0
    go_wp2_with fail
    go_loop [2] (fun i => ∃ k : Nat, k ≤ 24 ∧ i = .int .i64 k) (fun i => 24 - (intOf i).toNat)
    case atStart => exact ⟨0, by omega, rfl⟩
    case round =>
      obtain ⟨k, hk, rfl⟩ := hrel
      by_cases hlt : k < 24
      · have x := (HBX.out.cell k).trans (verbs_at k hlt)
        have h0 : (0 : Int) ≤ (k : Int) := by omega
        have h24 : (k : Int) < 24 := by omega
        go_wp2_with fail
        exact ⟨⟨k + 1, by omega, by go_num⟩, by show 24 - ((k : Int) + 1).toNat < 24 - (k : Int).toNat; omega⟩
      · go_wp2_with (first | (go_at_call 32; refine (HNU.out _).mono ?_; rintro e w7 ⟨rfl, rfl⟩) | (go_at_call 22; refine HW.out.mono ?_; rintro e w1 ⟨rfl, hb⟩; have HB1 := Lib.hid hb; clear hb))
        rw [← HR.out]
        exact ⟨rfl, HBW.out.trans (HB1.out.mono HBW.out.size)⟩
end Go.Proofs.YticigfpieeoolaaGreatDoor
