/- The row ReplyWrong, where what it reads is of small bulk; the statement. -/
import Derived.Test.YtnbeeehfapjpdaaGreatDoorQT8
import Derived.Test.YtnbeeehfapjpdaaGreatDoorKr
import Derived.Test.YtnbeeehfapjpdaaGreatDoorQKw
import Derived.Test.YtnbeeehfapjpdaaGreatDoorPc
namespace Go.Proofs.YtnbeeehfapjpdaaGreatDoor
open Go.ChangeShapes Go.WideShapes Go.ChangeAt Go.RowKit

set_option maxRecDepth 100000 in
theorem replyWrongUpto_lifted (os : Os) (started : os.Started) (H : Type) (enc : TypeId × Value → H) (F : Stop.Interp) :
    ReturnsInHanded {} Tryz.checked os 9 .any ((Rows.OpenSpec.upto Rows.replyWrongSpec).preRow enc Tryz.prog Tryz.f9 Rows.replyWrongUptoRow.domain false Rows.replyWrongUptoRow.laid)
      (((Rows.OpenSpec.upto Rows.replyWrongSpec).at F).post enc Tryz.prog Tryz.f9 false true false false) := by
  change ReturnsInHanded {} Tryz.checked os 9 .any (fun w args => ((Rows.OpenSpec.upto Rows.replyWrongSpec).pre enc Tryz.prog Tryz.f9 [] false w args ∧ laidMetH Tryz.prog Rows.replyWrongUptoRow.laid w) ∧ sizedMet enc Tryz.prog Tryz.f9 (Rows.OpenSpec.upto Rows.replyWrongSpec) false w args)
    (Rows.replyWrongSpec.post enc Tryz.prog Tryz.f9 false true false false)
  refine returns_laid_cond (C := Tryz.checked) (s := Rows.OpenSpec.upto Rows.replyWrongSpec) (k := Rows.uptoSmall) rfl (X := fun w _ => laidMetH Tryz.prog Rows.replyWrongUptoRow.laid w) (fun _ _ _ hh h => h.of_heap hh) ownKnob0 started (by kernel_rfl) Tryz.func9
    (witness_cond (enc := enc) (C := Tryz.checked) (os := os) (s := Rows.OpenSpec.upto Rows.replyWrongSpec) (k := Rows.uptoSmall) rfl (X := fun w _ => laidMetH Tryz.prog Rows.replyWrongUptoRow.laid w) false (World.laidAll Tryz.prog os Rows.replyWrongUptoRow.laid) #[nilRow] 12 (World.laidAll_os _ _ _)
      (World.shaped_of_ZipB (by kernel_rfl) (by kernel_rfl)) (by kernel_rfl) (x := ([.nil], [], [])) (by kernel_rfl) (by kernel_rfl) (by kernel_rfl) (by kernel_rfl)
      (by rw [MakeChecks.laidMetH_plain _ _ _ (by kernel_rfl)]; exact laidMet_laidAll _ (by kernel_rfl) (by kernel_rfl))) ?_
  intro W base args ds gs before hval0 hW hk hL hsh
  have hW' := hW
  obtain ⟨p, q, hA0, hV, rfl, _, _⟩ := hW
  have hA : DataW.TrodAll enc Tryz.prog W 0 (fun _ => true) true Tryz.f9.params.toList args.toList ds p := hA0
  rw [Tryz.params9] at hA
  rw [MakeChecks.laidMetH_plain _ _ _ (by kernel_rfl)] at hL
  have hG : GlobR W := globR_of hsh (tab_of (Lib.laidMet.reads hL (.tail _ (.tail _ (.head _)))))
  obtain ⟨v, d, rfl, rfl, hd⟩ := trodAll_one hA
  obtain ⟨rfl, _⟩ := trodVars_none hV
  have hv : Value.okWide Tryz.prog W .any base 80 v := hval0 0 _ v (by rw [Tryz.params9]; rfl) rfl
  obtain ⟨A, cap, xs, rfl, h1, h2, h3⟩ := open_wrongs hv hd (small_one hk)
  refine (replyWrong_any hG h1 h3 h2).mono fun e W' ⟨he, hb⟩ => ?_
  subst he
  exact ⟨_, rfl, law_post hW' rfl (by kernel_rfl) rfl (by rw [Tryz.params9]; intro t ht; simp at ht; subst ht; exact ⟨by kernel_rfl, of_decide_eq_true (by kernel_rfl)⟩) hb⟩

theorem replyWrongUpto_row : Rows.replyWrongUptoRow.holds Tryz.pinned (Rows.OpenSpec.upto Rows.replyWrongSpec) :=
  OpenClaim.holds_of_cond 9 Tryz.f9 rfl rfl rfl rfl rfl rfl rfl ⟨rfl, rfl, rfl, rfl, rfl⟩ rfl rfl rfl rfl rfl (by kernel_rfl) Tryz.func9 (by kernel_rfl)
    (of_decide_eq_true (by kernel_rfl)) (by unfold Func.isWrapper; first | (rw [if_pos (by decide +kernel)]; kernel_rfl) | (rw [if_neg (by decide +kernel)]; exact ⟨rfl, rfl⟩))
    (fun os started H enc _ F => by rw [OpenClaim.pre_eq_preRow]; exact replyWrongUpto_lifted os started H enc F)

/-- the statement -/
theorem replyWrongUpto_card : Rows.ReplyWrongUptoCardSaid :=
  Claim7.holds_tied_plain_at .later [] [.data, .data, .data, .data, .pinned] true Rows.replyWrongUptoCard.stood.harness true
    replyWrongUpto_row (fun _ h => by cases h) (by kernel_rfl) (fun _ h => by cases h) replyWrongUpto_row_tie rfl ⟨rfl, rfl⟩ (by kernel_rfl) rfl
    (fun f fn hf hfn => by
      obtain rfl : f = 9 := Option.some.inj ((show Tryz.prog.funcNamed "granary/granarylaw13.ReplyWrong" = some 9 by kernel_rfl).symm.trans hf) |>.symm
      obtain rfl : fn = Tryz.f9 := (Option.some.inj (Tryz.func9.symm.trans hfn)).symm
      exact ⟨by kernel_rfl, fun j t ht => by
        rw [Tryz.params9] at ht
        obtain rfl : t = 80 := by simpa using Array.mem_of_getElem? ht
        kernel_rfl⟩)
    (by kernel_rfl)
#print axioms replyWrongUpto_card
end Go.Proofs.YtnbeeehfapjpdaaGreatDoor
