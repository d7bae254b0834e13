/- The row ReplyBack, where what it reads is of small bulk; the statement. -/
import Derived.Test.YtnbeeehfapjpdaaGreatDoorQS2
import Derived.Test.YtnbeeehfapjpdaaGreatDoorKr
import Derived.Test.YtnbeeehfapjpdaaGreatDoorQKw
import Derived.Test.YtnbeeehfapjpdaaGreatDoorPc
namespace Go.Proofs.YtnbeeehfapjpdaaGreatDoor
open Go.ChangeShapes Go.WideShapes Go.ChangeAt Go.RowKit

set_option maxRecDepth 100000 in
theorem replyBackUpto_lifted (os : Os) (started : os.Started) (H : Type) (enc : TypeId × Value → H) (F : Stop.Interp) :
    ReturnsInHanded {} Tryz.checked os 6 .any ((Rows.OpenSpec.upto Rows.replyBackSpec).preRow enc Tryz.prog Tryz.f6 Rows.replyBackUptoRow.domain false Rows.replyBackUptoRow.laid)
      (((Rows.OpenSpec.upto Rows.replyBackSpec).at F).post enc Tryz.prog Tryz.f6 false true false false) := by
  change ReturnsInHanded {} Tryz.checked os 6 .any (fun w args => ((Rows.OpenSpec.upto Rows.replyBackSpec).pre enc Tryz.prog Tryz.f6 [] false w args ∧ laidMetH Tryz.prog Rows.replyBackUptoRow.laid w) ∧ sizedMet enc Tryz.prog Tryz.f6 (Rows.OpenSpec.upto Rows.replyBackSpec) false w args)
    (Rows.replyBackSpec.post enc Tryz.prog Tryz.f6 false true false false)
  refine returns_laid_cond (C := Tryz.checked) (s := Rows.OpenSpec.upto Rows.replyBackSpec) (k := Rows.uptoSmall) rfl (X := fun w _ => laidMetH Tryz.prog Rows.replyBackUptoRow.laid w) (fun _ _ _ hh h => h.of_heap hh) ownKnob0 started (by kernel_rfl) Tryz.func6
    (witness_cond (enc := enc) (C := Tryz.checked) (os := os) (s := Rows.OpenSpec.upto Rows.replyBackSpec) (k := Rows.uptoSmall) rfl (X := fun w _ => laidMetH Tryz.prog Rows.replyBackUptoRow.laid w) false (World.laidAll Tryz.prog os Rows.replyBackUptoRow.laid) #[.agg #[.int .i64 0, .slice none 0 0, .int .u64 0, .int .i64 0, .int .u64 0, .int .u64 0, .slice none 0 0, .bool false, .bool false, .slice none 0 0, .string ⟨#[]⟩, .int .i64 0, .slice none 0 0, .int .u64 0, .string ⟨#[]⟩, .slice none 0 0, .slice none 0 0, .slice none 0 0]] 12 (World.laidAll_os _ _ _)
      (World.shaped_of_ZipB (by kernel_rfl) (by kernel_rfl)) (by kernel_rfl) (x := ([.agg [.agg [.agg [.lit (.int .i64 0), .nil, .lit (.int .u64 0), .lit (.int .i64 0), .lit (.int .u64 0), .lit (.int .u64 0), .nil, .lit (.bool false), .lit (.bool false), .nil, .lit (.string [])], .agg [.lit (.int .i64 0), .nil, .lit (.int .u64 0), .lit (.string []), .nil]], .nil, .nil]], [], [])) (by kernel_rfl) (by kernel_rfl) (by kernel_rfl) (by kernel_rfl)
      (by rw [MakeChecks.laidMetH_plain _ _ _ (by kernel_rfl)]; exact laidMet_laidAll _ (by kernel_rfl) (by kernel_rfl))) ?_
  intro W base args ds gs before hval0 hW hk hL hsh
  have hW' := hW
  obtain ⟨p, q, hA0, hV, rfl, _, _⟩ := hW
  have hA : DataW.TrodAll enc Tryz.prog W 0 (fun _ => true) true Tryz.f6.params.toList args.toList ds p := hA0
  rw [Tryz.params6] at hA
  rw [MakeChecks.laidMetH_plain _ _ _ (by kernel_rfl)] at hL
  have hG : GlobR W := globR_of hsh (tab_of (Lib.laidMet.reads hL (.tail _ (.tail _ (.head _)))))
  obtain ⟨v, d, rfl, rfl, hd⟩ := trodAll_one hA
  obtain ⟨rfl, _⟩ := trodVars_none hV
  have hv : Value.okWide Tryz.prog W .any base 76 v := hval0 0 _ v (by rw [Tryz.params6]; rfl) rfl
  obtain ⟨x, rfl, hx⟩ := open_cutArg hv hd (small_one hk)
  refine (replyBack_any hG hx).mono fun e W' ⟨he, hb⟩ => ?_
  subst he
  exact ⟨_, rfl, law_post hW' rfl (by kernel_rfl) rfl (by rw [Tryz.params6]; intro t ht; simp at ht; subst ht; exact ⟨by kernel_rfl, of_decide_eq_true (by kernel_rfl)⟩) hb⟩

theorem replyBackUpto_row : Rows.replyBackUptoRow.holds Tryz.pinned (Rows.OpenSpec.upto Rows.replyBackSpec) :=
  OpenClaim.holds_of_cond 6 Tryz.f6 rfl rfl rfl rfl rfl rfl rfl ⟨rfl, rfl, rfl, rfl, rfl⟩ rfl rfl rfl rfl rfl (by kernel_rfl) Tryz.func6 (by kernel_rfl)
    (of_decide_eq_true (by kernel_rfl)) (by unfold Func.isWrapper; first | (rw [if_pos (by decide +kernel)]; kernel_rfl) | (rw [if_neg (by decide +kernel)]; exact ⟨rfl, rfl⟩))
    (fun os started H enc _ F => by rw [OpenClaim.pre_eq_preRow]; exact replyBackUpto_lifted os started H enc F)

/-- the statement -/
theorem replyBackUpto_card : Rows.ReplyBackUptoCardSaid :=
  Claim7.holds_tied_plain_at .later [] [.data, .data, .data, .data, .pinned] true Rows.replyBackUptoCard.stood.harness true
    replyBackUpto_row (fun _ h => by cases h) (by kernel_rfl) (fun _ h => by cases h) replyBackUpto_row_tie rfl ⟨rfl, rfl⟩ (by kernel_rfl) rfl
    (fun f fn hf hfn => by
      obtain rfl : f = 6 := Option.some.inj ((show Tryz.prog.funcNamed "granary/granarylaw13.ReplyBack" = some 6 by kernel_rfl).symm.trans hf) |>.symm
      obtain rfl : fn = Tryz.f6 := (Option.some.inj (Tryz.func6.symm.trans hfn)).symm
      exact ⟨by kernel_rfl, fun j t ht => by
        rw [Tryz.params6] at ht
        obtain rfl : t = 76 := by simpa using Array.mem_of_getElem? ht
        kernel_rfl⟩)
    (by kernel_rfl)
#print axioms replyBackUpto_card
end Go.Proofs.YtnbeeehfapjpdaaGreatDoor
