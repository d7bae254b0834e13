/- The row WordsFlags; the statement. -/
import Derived.Test.YticigfpieeoolaaGreatDoorR7
import Derived.Test.YticigfpieeoolaaGreatDoorKt
import Derived.Test.YticigfpieeoolaaGreatDoorPc
import Derived.Test.YticigfpieeoolaaGreatDoorKw
namespace Go.Proofs.YticigfpieeoolaaGreatDoor
open Go.ChangeShapes Go.WideShapes Go.ChangeAt Go.RowKit

set_option maxRecDepth 100000 in
theorem wordsFlags_lifted (os : Os) (started : os.Started) (H : Type) (enc : TypeId × Value → H) :
    ReturnsInHanded {} Tryz.checked os 6 .any (fun w args => (Rows.wordsFlagsSpec.pre enc Tryz.prog Tryz.f6 [] false w args ∧ laidMetH Tryz.prog Rows.wordsFlagsRow.laid w) ∧ sizedMet enc Tryz.prog Tryz.f6 (OpenSpec.ofChange Rows.wordsFlagsSpec) false w args)
      (Rows.wordsFlagsSpec.post enc Tryz.prog Tryz.f6 false true false false) := by
  refine returns_laid_shaped (C := Tryz.checked) (X := fun w _ => laidMetH Tryz.prog Rows.wordsFlagsRow.laid w) (fun _ _ _ hh h => h.of_heap hh) ownKnob0 started (by kernel_rfl) Tryz.func6
    (ChangeSpec.witness_shaped (enc := enc) (C := Tryz.checked) (os := os) (X := fun w _ => laidMetH Tryz.prog Rows.wordsFlagsRow.laid w) false (World.laidAll Tryz.prog os Rows.wordsFlagsRow.laid) #[nilRow] 8 (World.laidAll_os _ _ _)
      (World.shaped_of_ZipB (by kernel_rfl) (by kernel_rfl)) (by kernel_rfl) (by kernel_rfl) (by kernel_rfl)
      (by rw [MakeChecks.laidMetH_plain _ _ _ (by kernel_rfl)]; exact laidMet_laidAll _ (by kernel_rfl) (by kernel_rfl))) ?_
  intro W base args ds gs before hval0 hW _ hsz hL hsh
  have hW' := hW
  obtain ⟨p, q, hA0, hV, rfl, _, _⟩ := hW
  have hA : DataW.TrodAll enc Tryz.prog W 0 (fun _ => true) true Tryz.f6.params.toList args.toList ds p := hA0
  rw [Tryz.params6] at hA
  rw [MakeChecks.laidMetH_plain _ _ _ (by kernel_rfl)] at hL
  have hG : Glob W := glob_of hsh ⟨_, Lib.laidMet.reads hL (.tail _ (.tail _ (.tail _ (.tail _ (.tail _ (.head _))))))⟩ ⟨_, Lib.laidMet.reads hL (.tail _ (.tail _ (.tail _ (.tail _ (.head _)))))⟩
  obtain ⟨v, d, rfl, rfl, hd⟩ := trodAll_one hA
  have hv : Value.okWide Tryz.prog W .any base 75 v := hval0 0 _ v (by rw [Tryz.params6]; rfl) rfl
  obtain ⟨A, cap, ls, rfl, h1, h2, h3⟩ := open_flagged hv hd (fun n hn => by
    have := List.all_eq_true.1 hsz n (DataW.weights_mem_each (j := 0) (by rw [Tryz.params6]; rfl) rfl n hn)
    simpa using this)
  have hT : TabAt W := tab_of (Lib.laidMet.reads hL (.tail _ (.tail _ (.head _))))
  refine (wordsFlags_any hG hT h1 h2 (fun p hp => ⟨(h3 p hp).1, fun f hf => by have := (h3 p hp).2 f hf; unfold reachBytes at this; omega⟩)).mono fun e W' ⟨he, hb⟩ => ?_
  subst he
  exact ⟨_, rfl, law_post hW' rfl (by kernel_rfl) rfl (by rw [Tryz.params6]; intro t ht; simp at ht; subst ht; exact ⟨by kernel_rfl, of_decide_eq_true (by kernel_rfl)⟩) hb⟩

theorem wordsFlags_row : Rows.wordsFlagsRow.holds Tryz.pinned (OpenSpec.ofChange Rows.wordsFlagsSpec) :=
  OpenClaim.holds_of_wide 6 Tryz.f6 rfl rfl rfl rfl rfl rfl rfl ⟨rfl, rfl, rfl, rfl, rfl⟩ rfl rfl rfl rfl rfl (by kernel_rfl) Tryz.func6 (by kernel_rfl)
    (of_decide_eq_true (by kernel_rfl)) (by unfold Func.isWrapper; first | (rw [if_pos (by decide +kernel)]; kernel_rfl) | (rw [if_neg (by decide +kernel)]; exact ⟨rfl, rfl⟩))
    (fun os started H enc _ => wordsFlags_lifted os started H enc)

/-- the statement -/
theorem wordsFlags_card : Rows.WordsFlagsCardSaid :=
  Claim7.holds_tied_plain_at .later [] [.data, .data, .data, .data, .sentinel, .sentinel, .pinned] true Rows.wordsFlagsCard.stood.harness true
    wordsFlags_row (fun _ h => by cases h) (by kernel_rfl) (fun _ h => by cases h) wordsFlags_row_tie rfl ⟨rfl, rfl⟩ (by kernel_rfl) rfl
    (fun f fn hf hfn => by
      obtain rfl : f = 6 := Option.some.inj ((show Tryz.prog.funcNamed "granary/granarylaw11.WordsFlags" = some 6 by kernel_rfl).symm.trans hf) |>.symm
      obtain rfl : fn = Tryz.f6 := (Option.some.inj (Tryz.func6.symm.trans hfn)).symm
      exact ⟨by kernel_rfl, fun j t ht => by
        rw [Tryz.params6] at ht
        obtain rfl : t = 75 := by simpa using Array.mem_of_getElem? ht
        kernel_rfl⟩)
    (by kernel_rfl)
#print axioms wordsFlags_card
end Go.Proofs.YticigfpieeoolaaGreatDoor
