/- The row LineBack, where what it reads is of small bulk; the statement. -/
import Derived.Test.YtbiakncngmgbkaaGreatDoorLb
import Derived.Test.YtbiakncngmgbkaaGreatDoorKw
import Derived.Test.YtbiakncngmgbkaaGreatDoorOc
import Derived.Test.YtbiakncngmgbkaaGreatDoorPc
namespace Go.Proofs.YtbiakncngmgbkaaGreatDoor
open Go.ChangeShapes Go.WideShapes Go.ChangeAt Go.RowKit

theorem small_two {H : Type} {d d' : DataW H} (h : Rows.uptoSmall H ([d, d'] ++ []) = true) : Rows.uptoBulk d ≤ 1048576 := by
  have := of_decide_eq_true h
  rw [List.append_nil] at this
  have h2 := bulk_mem (ds := [d, d']) (d := d) (by simp)
  omega

set_option maxRecDepth 100000 in
theorem lineBackUpto_lifted (os : Os) (started : os.Started) (H : Type) (enc : TypeId × Value → H) (F : Stop.Interp) :
    ReturnsInHanded {} Tryz.checked os 4 .any ((Rows.OpenSpec.upto Rows.lineBackSpec).preRow enc Tryz.prog Tryz.f4 Rows.lineBackUptoRow.domain false Rows.lineBackUptoRow.laid)
      (((Rows.OpenSpec.upto Rows.lineBackSpec).at F).post enc Tryz.prog Tryz.f4 false true false false) := by
  change ReturnsInHanded {} Tryz.checked os 4 .any (fun w args => ((Rows.OpenSpec.upto Rows.lineBackSpec).pre enc Tryz.prog Tryz.f4 [] false w args ∧ laidMetH Tryz.prog Rows.lineBackUptoRow.laid w) ∧ sizedMet enc Tryz.prog Tryz.f4 (Rows.OpenSpec.upto Rows.lineBackSpec) false w args)
    (Rows.lineBackSpec.post enc Tryz.prog Tryz.f4 false true false false)
  refine returns_laid_cond (C := Tryz.checked) (s := Rows.OpenSpec.upto Rows.lineBackSpec) (k := Rows.uptoSmall) rfl (X := fun w _ => laidMetH Tryz.prog Rows.lineBackUptoRow.laid w) (fun _ _ _ hh h => h.of_heap hh) ownKnob0 started (by kernel_rfl) Tryz.func4
    (witness_cond (enc := enc) (C := Tryz.checked) (os := os) (s := Rows.OpenSpec.upto Rows.lineBackSpec) (k := Rows.uptoSmall) rfl (X := fun w _ => laidMetH Tryz.prog Rows.lineBackUptoRow.laid w) false (World.laidAll Tryz.prog os Rows.lineBackUptoRow.laid) #[nilRow, nilRow] 8 (World.laidAll_os _ _ _)
      (World.shaped_of_ZipB (by kernel_rfl) (by kernel_rfl)) (by kernel_rfl) (x := ([.nil, .nil], [], [])) (by kernel_rfl) (by kernel_rfl) (by kernel_rfl) (by kernel_rfl)
      (by rw [MakeChecks.laidMetH_plain _ _ _ (by kernel_rfl)]; exact laidMet_laidAll _ (by kernel_rfl) (by kernel_rfl))) ?_
  intro W base args ds gs before hval0 hW hk hL hsh
  have hW' := hW
  obtain ⟨p, q, hA0, hV, rfl, _, _⟩ := hW
  have hA : DataW.TrodAll enc Tryz.prog W 0 (fun _ => true) true Tryz.f4.params.toList args.toList ds p := hA0
  rw [Tryz.params4] at hA
  rw [MakeChecks.laidMetH_plain _ _ _ (by kernel_rfl)] at hL
  have hG : Glob W := glob_of hsh ⟨_, Lib.laidMet.reads hL (.tail _ (.tail _ (.tail _ (.tail _ (.tail _ (.head _))))))⟩ ⟨_, Lib.laidMet.reads hL (.tail _ (.tail _ (.tail _ (.tail _ (.head _)))))⟩
  obtain ⟨v, v', d, d', q1, q2, rfl, rfl, rfl, hd, hd'⟩ := trodAll_two hA
  obtain ⟨rfl, _⟩ := trodVars_none hV
  have hv : Value.okWide Tryz.prog W .any base 49 v := hval0 0 _ v (by rw [Tryz.params4]; rfl) rfl
  have hv' : Value.okWide Tryz.prog W .any base 50 v' := hval0 1 _ v' (by rw [Tryz.params4]; rfl) rfl
  obtain ⟨A, cap, xs, rfl, h1, h2, h3⟩ := open_cmds hv hd (small_two hk)
  obtain ⟨f2, h4⟩ := hd'
  obtain ⟨a0, n0, c0, rfl⟩ := okWide_slice Tryz.underlying50 hv'
  replace h4 : DataW.trod enc Tryz.prog W 0 (fun _ => true) true f2 50 [.slice a0 n0 c0] = some (d', q2) := h4
  obtain ⟨B, capB, cuts, hB, b1, b2, b3, _, _⟩ := open_introw Tryz.underlying50 Tryz.underlying3 (by kernel_rfl) h4
  rw [hB] at hW' hA0 ⊢
  refine (lineBack_any hG h1 (by omega) (by omega) b1).mono fun e W' ⟨he, hb⟩ => ?_
  subst he
  exact ⟨_, rfl, law_post hW' rfl (by kernel_rfl) rfl (by rw [Tryz.params4]; intro t ht; simp at ht; rcases ht with rfl | rfl <;> exact ⟨by kernel_rfl, of_decide_eq_true (by kernel_rfl)⟩) hb⟩

theorem lineBackUpto_row : Rows.lineBackUptoRow.holds Tryz.pinned (Rows.OpenSpec.upto Rows.lineBackSpec) :=
  OpenClaim.holds_of_cond 4 Tryz.f4 rfl rfl rfl rfl rfl rfl rfl ⟨rfl, rfl, rfl, rfl, rfl⟩ rfl rfl rfl rfl rfl (by kernel_rfl) Tryz.func4 (by kernel_rfl)
    (of_decide_eq_true (by kernel_rfl)) (by unfold Func.isWrapper; first | (rw [if_pos (by decide +kernel)]; kernel_rfl) | (rw [if_neg (by decide +kernel)]; exact ⟨rfl, rfl⟩))
    (fun os started H enc _ F => by rw [OpenClaim.pre_eq_preRow]; exact lineBackUpto_lifted os started H enc F)

/-- the statement -/
theorem lineBackUpto_card : Rows.LineBackUptoCardSaid :=
  Claim7.holds_tied_plain_at .later [] [.data, .data, .data, .data, .sentinel, .sentinel, .pinned] true Rows.lineBackUptoCard.stood.harness true
    lineBackUpto_row (fun _ h => by cases h) (by kernel_rfl) (fun _ h => by cases h) lineBackUpto_row_tie rfl ⟨rfl, rfl⟩ (by kernel_rfl) rfl
    (fun f fn hf hfn => by
      obtain rfl : f = 4 := Option.some.inj ((show Tryz.prog.funcNamed "granary/granarylaw12.LineBack" = some 4 by kernel_rfl).symm.trans hf) |>.symm
      obtain rfl : fn = Tryz.f4 := (Option.some.inj (Tryz.func4.symm.trans hfn)).symm
      exact ⟨by kernel_rfl, fun j t ht => by
        rw [Tryz.params4] at ht
        have hm := Array.mem_of_getElem? ht
        simp at hm
        rcases hm with h | h
        · obtain rfl : t = 49 := h
          first | kernel_rfl | exact (by kernel_rfl) | (show _ = _; kernel_rfl) | trace_state
        · obtain rfl : t = 50 := h
          first | kernel_rfl | exact (by kernel_rfl) | (show _ = _; kernel_rfl) | trace_state⟩)
    (by kernel_rfl)
#print axioms lineBackUpto_card
end Go.Proofs.YtbiakncngmgbkaaGreatDoor
