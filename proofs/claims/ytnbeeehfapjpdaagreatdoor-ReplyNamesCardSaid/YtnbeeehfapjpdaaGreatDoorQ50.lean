/- Walk of the statement ReplyNames. From the listed variables and the world's shape to what the walks of Reply ask. The row ReplyNames; the statement. -/
import Derived.Test.YtnbeeehfapjpdaaGreatDoorU6
import Derived.Test.YtnbeeehfapjpdaaGreatDoorVq
import Derived.Test.YtnbeeehfapjpdaaGreatDoorQ21
import Derived.Lib.LaidTab
section
namespace Go.Proofs.YtnbeeehfapjpdaaGreatDoor
open Go.RowKit
attribute [local go_sem ↓] Go.wp_at_zero Go.wp_at_succ

def kindArr : Array Value := #[.int .i64 1, .int .i64 2, .int .i64 3, .int .i64 4, .int .i64 5, .int .i64 6, .int .i64 7, .int .i64 8, .int .i64 9, .int .i64 10, .int .i64 11, .int .i64 12, .int .i64 13, .int .i64 14, .int .i64 15]
theorem kindsA_at (k : Nat) (h : k < 15) : kindArr[k]? = some (.int .i64 ((k : Int) + 1)) := by
  have h : k = 0 ∨ k = 1 ∨ k = 2 ∨ k = 3 ∨ k = 4 ∨ k = 5 ∨ k = 6 ∨ k = 7 ∨ k = 8 ∨ k = 9 ∨ k = 10 ∨ k = 11 ∨ k = 12 ∨ k = 13 ∨ k = 14 := by omega
  rcases h with rfl | rfl | rfl | rfl | rfl | rfl | rfl | rfl | rfl | rfl | rfl | rfl | rfl | rfl | rfl <;> rfl

set_option maxRecDepth 100000 in
theorem run_store_kinds (w : World) (z : Array Value) (hz : z.size = 15) :
    (storeVar 73 ⟨w.heap.size, 0, none⟩ (.agg #[.int .i64 1, .int .i64 2, .int .i64 3, .int .i64 4, .int .i64 5, .int .i64 6, .int .i64 7, .int .i64 8, .int .i64 9, .int .i64 10, .int .i64 11, .int .i64 12, .int .i64 13, .int .i64 14, .int .i64 15])).run Tryz.prog (w.alloc (.cells z 73)) = .ok () (w.alloc (.cells #[.int .i64 1, .int .i64 2, .int .i64 3, .int .i64 4, .int .i64 5, .int .i64 6, .int .i64 7, .int .i64 8, .int .i64 9, .int .i64 10, .int .i64 11, .int .i64 12, .int .i64 13, .int .i64 14, .int .i64 15] 73)) :=
  run_storeVar_new w _ _ _ (by kernel_rfl) hz (by simp [Value.oneCell'])

attribute [-go_sem] storeVar
attribute [local go_sem] run_store_kinds

set_option maxHeartbeats 1000000 in
set_option maxRecDepth 100000 in
theorem replyNames_any {w : World} (hg : GlobR w) : Calls Tryz.prog 5 #[] w fun e w' => e = .returned (.bool true) ∧ Below w.heap.size w w' := by
  have hb0 : Below w.heap.size w (w.alloc (.cells kindArr 73)) := (Below.refl _ _).alloc (Nat.le_refl _) _
  have hbl := Blk.new w 73 kindArr
  generalize hR : (fun (e : Ending) (w' : World) => e = .returned (.bool true) ∧ Below w.heap.size w w') = R
  have HR := Lib.hid hR
  have HG := Lib.hid hg
  have HBL := Lib.hid hbl
  have HB0 := Lib.hid hb0
  clear hR hg hbl hb0
  go_enter Tryz.func5, Tryz.ntmps5
  go_upto_region 1 with (fail)
  go_cut [1] (fun p wx => p = .pointer (some ⟨w.heap.size, 0, none⟩) ∧ Blk wx w.heap.size 73 kindArr ∧ Below w.heap.size w wx)
  case first =>
    go_wp2_with fail
    go_meet
    exact ⟨rfl, HBL.out, HB0.out⟩
  case rest =>
    obtain ⟨rfl, hbl, hb⟩ := hcut
    have hw := wakes13_any (HG.out.later hb)
    have hlt := hbl.lt
    have HW := Lib.hid hw
    have HBX := Lib.hid hbl
    have HBW := Lib.hid hb
    clear hw hbl hb HBL HB0
    go_wp2_with fail
    go_loop [2] (fun i => ∃ k : Nat, k ≤ 15 ∧ i = .int .i64 k) (fun i => 15 - (intOf i).toNat)
    case atStart => exact ⟨0, by omega, rfl⟩
    case round =>
      obtain ⟨k, hk, rfl⟩ := hrel
      by_cases hlt : k < 15
      · have x := (HBX.out.cell k).trans (kindsA_at k hlt)
        have h0 : (0 : Int) ≤ (k : Int) := by omega
        have h15 : (k : Int) < 15 := by omega
        go_wp2_with fail
        exact ⟨⟨k + 1, by omega, by go_num⟩, by show 15 - ((k : Int) + 1).toNat < 15 - (k : Int).toNat; omega⟩
      · go_wp2_with (go_at_call 23; refine HW.out.mono ?_; rintro e w1 ⟨rfl, hb⟩; have HB1 := Lib.hid hb; clear hb)
        rw [← HR.out]
        exact ⟨rfl, HBW.out.trans (HB1.out.mono HBW.out.size)⟩
end Go.Proofs.YtnbeeehfapjpdaaGreatDoor
end
section
namespace Go.Proofs.YtnbeeehfapjpdaaGreatDoor
open Go.ChangeShapes Go.WideShapes Go.ChangeAt Go.RowKit

/-- the listed table -/
theorem tab_of {W : World} (h : Lib.VarReads Tryz.prog W "internal/strconv.uint64pow10" Rows.laid_internal_strconv_uint64pow10) : TabAt W := by
  obtain ⟨g', t', cs, fuel, p, h1, h2, h3, h4⟩ := h
  obtain rfl := Option.some.inj ((show Tryz.prog.globalNamed "internal/strconv.uint64pow10" = some 0 by kernel_rfl).symm.trans h1)
  obtain rfl := Option.some.inj ((show (Tryz.prog.globals[0]?).map (·.type) = some 195 by kernel_rfl).symm.trans h2)
  unfold TabAt Lib.TabIs
  rw [h3, ← Lib.cells_of_tab Tryz.underlying195 Tryz.underlying28 (by kernel_rfl) (by kernel_rfl) (k := .u64) (zs := Lib.pow10Tab) h4]
theorem globR_of {W : World} (hsh : W.ShapedOpen Tryz.prog) (ht : TabAt W) : GlobR W := by
  refine ⟨?_, ht, ?_⟩
  · exact cell_of_shapedOpen_int (t := 3) (zero := #[.int .i64 0]) hsh (of_decide_eq_true (by kernel_rfl)) (by kernel_rfl) rfl (by kernel_rfl) (by kernel_rfl) Tryz.underlying3
  · have hlt : 6 - 1 < Tryz.prog.globals.size := of_decide_eq_true (by kernel_rfl)
    have h0 : (((begin Tryz.prog (fun _ _ => 0) default).world.heap[6 - 1]?).bind Obj.row?).isSome = true := by kernel_rfl
    obtain ⟨⟨zero, t⟩, hz⟩ := Option.isSome_iff_exists.1 h0
    obtain ⟨cs, hh, _⟩ := hsh.1 (6 - 1) zero t hlt hz
    rcases Nat.lt_or_ge (6 - 1) W.heap.size with h | h
    · omega
    · rw [Array.getElem?_eq_none h] at hh; cases hh
end Go.Proofs.YtnbeeehfapjpdaaGreatDoor
end
section
namespace Go.Proofs.YtnbeeehfapjpdaaGreatDoor
open Go.ChangeShapes Go.WideShapes Go.ChangeAt Go.RowKit

set_option maxRecDepth 100000 in
theorem replyNames_lifted (os : Os) (started : os.Started) (H : Type) (enc : TypeId × Value → H) :
    ReturnsInHanded {} Tryz.checked os 5 .any (fun w args => (Rows.replyNamesSpec.pre enc Tryz.prog Tryz.f5 [] false w args ∧ laidMetH Tryz.prog Rows.replyNamesRow.laid w) ∧ sizedMet enc Tryz.prog Tryz.f5 (OpenSpec.ofChange Rows.replyNamesSpec) false w args)
      (Rows.replyNamesSpec.post enc Tryz.prog Tryz.f5 false true false false) := by
  refine returns_laid_shaped (C := Tryz.checked) (X := fun w _ => laidMetH Tryz.prog Rows.replyNamesRow.laid w) (fun _ _ _ hh h => h.of_heap hh) ownKnob0 started (by kernel_rfl) Tryz.func5
    (ChangeSpec.witness_shaped (enc := enc) (C := Tryz.checked) (os := os) (X := fun w _ => laidMetH Tryz.prog Rows.replyNamesRow.laid w) false (World.laidAll Tryz.prog os Rows.replyNamesRow.laid) #[] 8 (World.laidAll_os _ _ _)
      (World.shaped_of_ZipB (by kernel_rfl) (by kernel_rfl)) (by kernel_rfl) (by kernel_rfl) (by kernel_rfl)
      (by rw [MakeChecks.laidMetH_plain _ _ _ (by kernel_rfl)]; exact laidMet_laidAll _ (by kernel_rfl) (by kernel_rfl))) ?_
  intro W base args ds gs before hval0 hW _ _ hL hsh
  have hW' := hW
  obtain ⟨p, q, hA0, hV, rfl, _, _⟩ := hW
  have hA : DataW.TrodAll enc Tryz.prog W 0 (fun _ => true) true Tryz.f5.params.toList args.toList ds p := hA0
  rw [Tryz.params5] at hA
  obtain ⟨rfl, rfl, rfl⟩ := trodAll_none hA
  obtain ⟨rfl, rfl⟩ := trodVars_none hV
  simp only [List.append_nil] at hW'
  rw [MakeChecks.laidMetH_plain _ _ _ (by kernel_rfl)] at hL
  have hG : GlobR W := globR_of hsh (tab_of (Lib.laidMet.reads hL (.tail _ (.tail _ (.head _)))))
  refine (replyNames_any hG).mono fun e W' ⟨he, hb⟩ => ?_
  subst he
  exact ⟨_, rfl, _, _, _, [], [], [], hW', trodAll_mk1 (shut_bool Tryz.underlying4 _), trodAll_mk0, rfl, hb.frame _, fun h => by cases h⟩

theorem replyNames_row : Rows.replyNamesRow.holds Tryz.pinned (OpenSpec.ofChange Rows.replyNamesSpec) :=
  OpenClaim.holds_of_wide 5 Tryz.f5 rfl rfl rfl rfl rfl rfl rfl ⟨rfl, rfl, rfl, rfl, rfl⟩ rfl rfl rfl rfl rfl (by kernel_rfl) Tryz.func5 (by kernel_rfl)
    (of_decide_eq_true (by kernel_rfl)) (by unfold Func.isWrapper; first | (rw [if_pos (by decide +kernel)]; kernel_rfl) | (rw [if_neg (by decide +kernel)]; exact ⟨rfl, rfl⟩))
    (fun os started H enc _ => replyNames_lifted os started H enc)

/-- the statement -/
theorem replyNames_card : Rows.ReplyNamesCardSaid :=
  Claim7.holds_tied_plain_at .later [] [.data, .data, .data, .data, .pinned] true Rows.replyNamesCard.stood.harness true
    replyNames_row (fun _ h => by cases h) (by kernel_rfl) (fun _ h => by cases h) replyNames_row_tie rfl ⟨rfl, rfl⟩ (by kernel_rfl) rfl
    (fun f fn hf hfn => by
      obtain rfl : f = 5 := Option.some.inj ((show Tryz.prog.funcNamed "granary/granarylaw13.ReplyNames" = some 5 by kernel_rfl).symm.trans hf) |>.symm
      obtain rfl : fn = Tryz.f5 := (Option.some.inj (Tryz.func5.symm.trans hfn)).symm
      exact ⟨by kernel_rfl, fun j t ht => by
        rw [Tryz.params5] at ht
        simp at ht⟩)
    (by kernel_rfl)
#print axioms replyNames_card
end Go.Proofs.YtnbeeehfapjpdaaGreatDoor
end
