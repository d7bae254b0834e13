/- The row ReplyRow, where what it reads is of small bulk; the statement. -/
import Derived.Test.YtnbeeehfapjpdaaGreatDoorT7
import Derived.Test.YtnbeeehfapjpdaaGreatDoorKr
import Derived.Test.YtnbeeehfapjpdaaGreatDoorQKw
import Derived.Test.YtnbeeehfapjpdaaGreatDoorPc
namespace Go.Proofs.YtnbeeehfapjpdaaGreatDoor
open Go.ChangeShapes Go.WideShapes Go.ChangeAt Go.RowKit

set_option maxRecDepth 100000 in
theorem replyRowUpto_lifted (os : Os) (started : os.Started) (H : Type) (enc : TypeId × Value → H) (F : Stop.Interp) :
    ReturnsInHanded {} Tryz.checked os 8 .any ((Rows.OpenSpec.upto Rows.replyRowSpec).preRow enc Tryz.prog Tryz.f8 Rows.replyRowUptoRow.domain false Rows.replyRowUptoRow.laid)
      (((Rows.OpenSpec.upto Rows.replyRowSpec).at F).post enc Tryz.prog Tryz.f8 false true false false) := by
  change ReturnsInHanded {} Tryz.checked os 8 .any (fun w args => ((Rows.OpenSpec.upto Rows.replyRowSpec).pre enc Tryz.prog Tryz.f8 [] false w args ∧ laidMetH Tryz.prog Rows.replyRowUptoRow.laid w) ∧ sizedMet enc Tryz.prog Tryz.f8 (Rows.OpenSpec.upto Rows.replyRowSpec) false w args)
    (Rows.replyRowSpec.post enc Tryz.prog Tryz.f8 false true false false)
  refine returns_laid_cond (C := Tryz.checked) (s := Rows.OpenSpec.upto Rows.replyRowSpec) (k := Rows.uptoSmall) rfl (X := fun w _ => laidMetH Tryz.prog Rows.replyRowUptoRow.laid w) (fun _ _ _ hh h => h.of_heap hh) ownKnob0 started (by kernel_rfl) Tryz.func8
    (witness_cond (enc := enc) (C := Tryz.checked) (os := os) (s := Rows.OpenSpec.upto Rows.replyRowSpec) (k := Rows.uptoSmall) rfl (X := fun w _ => laidMetH Tryz.prog Rows.replyRowUptoRow.laid w) false (World.laidAll Tryz.prog os Rows.replyRowUptoRow.laid) #[nilRow] 12 (World.laidAll_os _ _ _)
      (World.shaped_of_ZipB (by kernel_rfl) (by kernel_rfl)) (by kernel_rfl) (x := ([.nil], [], [])) (by kernel_rfl) (by kernel_rfl) (by kernel_rfl) (by kernel_rfl)
      (by rw [MakeChecks.laidMetH_plain _ _ _ (by kernel_rfl)]; exact laidMet_laidAll _ (by kernel_rfl) (by kernel_rfl))) ?_
  intro W base args ds gs before hval0 hW hk hL hsh
  have hW' := hW
  obtain ⟨p, q, hA0, hV, rfl, _, _⟩ := hW
  have hA : DataW.TrodAll enc Tryz.prog W 0 (fun _ => true) true Tryz.f8.params.toList args.toList ds p := hA0
  rw [Tryz.params8] at hA
  rw [MakeChecks.laidMetH_plain _ _ _ (by kernel_rfl)] at hL
  have hG : GlobR W := globR_of hsh (tab_of (Lib.laidMet.reads hL (.tail _ (.tail _ (.head _)))))
  obtain ⟨v, d, rfl, rfl, hd⟩ := trodAll_one hA
  obtain ⟨rfl, _⟩ := trodVars_none hV
  have hv : Value.okWide Tryz.prog W .any base 22 v := hval0 0 _ v (by rw [Tryz.params8]; rfl) rfl
  obtain ⟨A, cap, xs, rfl, h1⟩ := open_pairs hv hd (small_one hk)
  refine (replyRow_any hG h1).mono fun e W' ⟨he, hb⟩ => ?_
  subst he
  exact ⟨_, rfl, law_post hW' rfl (by kernel_rfl) rfl (by rw [Tryz.params8]; intro t ht; simp at ht; subst ht; exact ⟨by kernel_rfl, of_decide_eq_true (by kernel_rfl)⟩) hb⟩

theorem replyRowUpto_row : Rows.replyRowUptoRow.holds Tryz.pinned (Rows.OpenSpec.upto Rows.replyRowSpec) :=
  OpenClaim.holds_of_cond 8 Tryz.f8 rfl rfl rfl rfl rfl rfl rfl ⟨rfl, rfl, rfl, rfl, rfl⟩ rfl rfl rfl rfl rfl (by kernel_rfl) Tryz.func8 (by kernel_rfl)
    (of_decide_eq_true (by kernel_rfl)) (by unfold Func.isWrapper; first | (rw [if_pos (by decide +kernel)]; kernel_rfl) | (rw [if_neg (by decide +kernel)]; exact ⟨rfl, rfl⟩))
    (fun os started H enc _ F => by rw [OpenClaim.pre_eq_preRow]; exact replyRowUpto_lifted os started H enc F)

/-- the statement -/
theorem replyRowUpto_card : Rows.ReplyRowUptoCardSaid :=
  Claim7.holds_tied_plain_at .later [] [.data, .data, .data, .data, .pinned] true Rows.replyRowUptoCard.stood.harness true
    replyRowUpto_row (fun _ h => by cases h) (by kernel_rfl) (fun _ h => by cases h) replyRowUpto_row_tie rfl ⟨rfl, rfl⟩ (by kernel_rfl) rfl
    (fun f fn hf hfn => by
      obtain rfl : f = 8 := Option.some.inj ((show Tryz.prog.funcNamed "granary/granarylaw13.ReplyRow" = some 8 by kernel_rfl).symm.trans hf) |>.symm
      obtain rfl : fn = Tryz.f8 := (Option.some.inj (Tryz.func8.symm.trans hfn)).symm
      exact ⟨by kernel_rfl, fun j t ht => by
        rw [Tryz.params8] at ht
        obtain rfl : t = 22 := by simpa using Array.mem_of_getElem? ht
        kernel_rfl⟩)
    (by kernel_rfl)
#print axioms replyRowUpto_card
end Go.Proofs.YtnbeeehfapjpdaaGreatDoor
