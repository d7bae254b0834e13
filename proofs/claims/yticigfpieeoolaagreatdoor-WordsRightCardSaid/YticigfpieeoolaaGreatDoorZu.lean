/- The row WordsRight; the statement. -/
import Derived.Test.YticigfpieeoolaaGreatDoorZs
import Derived.Test.YticigfpieeoolaaGreatDoorKt
import Derived.Test.YticigfpieeoolaaGreatDoorPc
import Derived.Test.YticigfpieeoolaaGreatDoorKw
namespace Go.Proofs.YticigfpieeoolaaGreatDoor
open Go.ChangeShapes Go.WideShapes Go.ChangeAt Go.RowKit

set_option maxRecDepth 100000 in
/-- a law's argument of type Row -/
theorem open_row {H : Type} {enc : TypeId × Value → H} {W : World} {base : Nat} {v : Value} {d : DataW H} {p : List MemPlace} (hv : Value.okWide Tryz.prog W .any base 56 v) (h : DataW.Trod enc Tryz.prog W 0 (fun _ => true) true 56 v d p) :
    ∃ (A : Option Addr) (capA : Nat) (raw : Sp.Bs) (limit : Int), v = .agg #[.slice A raw.length capA, .int .i64 limit] ∧
      limit ≤ 9223372036854775807 ∧ RowAt W A (bytesV raw) ∧ raw.length ≤ capA ∧ capA ≤ 9223372036854775807 ∧ (A = none → capA = 0) := by
  obtain ⟨v0, v1, y0, y1, n, rfl, _, _, h0, h1⟩ := Joins.open_agg2 Tryz.underlying56 (by kernel_rfl) (of_decide_eq_true (by kernel_rfl)) hv h
  obtain ⟨A, capA, raw, rfl, a1, a2, a3, a4⟩ := open_byterow Tryz.underlying38 Tryz.underlying5 (by kernel_rfl) h0
  obtain ⟨limit, e1, _, hw⟩ := DataW.trod_int Tryz.underlying3 h1
  injection e1 with e1
  subst e1
  have hl := bounds_i64 hw
  exact ⟨A, capA, raw, limit, rfl, hl.2, a1, a2, a3, a4⟩

set_option maxRecDepth 100000 in
theorem wordsRight_lifted (os : Os) (started : os.Started) (H : Type) (enc : TypeId × Value → H) :
    ReturnsInHanded {} Tryz.checked os 10 .any (fun w args => (Rows.wordsRightSpec.pre enc Tryz.prog Tryz.f10 [] false w args ∧ laidMetH Tryz.prog Rows.wordsRightRow.laid w) ∧ sizedMet enc Tryz.prog Tryz.f10 (OpenSpec.ofChange Rows.wordsRightSpec) false w args)
      (Rows.wordsRightSpec.post enc Tryz.prog Tryz.f10 false true false false) := by
  refine returns_laid_shaped (C := Tryz.checked) (X := fun w _ => laidMetH Tryz.prog Rows.wordsRightRow.laid w) (fun _ _ _ hh h => h.of_heap hh) ownKnob0 started (by kernel_rfl) Tryz.func10
    (ChangeSpec.witness_shaped (enc := enc) (C := Tryz.checked) (os := os) (X := fun w _ => laidMetH Tryz.prog Rows.wordsRightRow.laid w) false (World.laidAll Tryz.prog os Rows.wordsRightRow.laid) #[.agg #[nilRow, .int .i64 0]] 8 (World.laidAll_os _ _ _)
      (World.shaped_of_ZipB (by kernel_rfl) (by kernel_rfl)) (by kernel_rfl) (by kernel_rfl) (by kernel_rfl)
      (by rw [MakeChecks.laidMetH_plain _ _ _ (by kernel_rfl)]; exact laidMet_laidAll _ (by kernel_rfl) (by kernel_rfl))) ?_
  intro W base args ds gs before hval0 hW _ _ hL hsh
  have hW' := hW
  obtain ⟨p, q, hA0, hV, rfl, _, _⟩ := hW
  have hA : DataW.TrodAll enc Tryz.prog W 0 (fun _ => true) true Tryz.f10.params.toList args.toList ds p := hA0
  rw [Tryz.params10] at hA
  rw [MakeChecks.laidMetH_plain _ _ _ (by kernel_rfl)] at hL
  have hG : Glob W := glob_of hsh ⟨_, Lib.laidMet.reads hL (.tail _ (.tail _ (.tail _ (.tail _ (.tail _ (.head _))))))⟩ ⟨_, Lib.laidMet.reads hL (.tail _ (.tail _ (.tail _ (.tail _ (.head _)))))⟩
  obtain ⟨v, d, rfl, rfl, hd⟩ := trodAll_one hA
  have hv : Value.okWide Tryz.prog W .any base 56 v := hval0 0 _ v (by rw [Tryz.params10]; rfl) rfl
  obtain ⟨A, capA, raw, limit, rfl, h1, h2, h3, h4, h5⟩ := open_row hv hd
  have hT : TabAt W := tab_of (Lib.laidMet.reads hL (.tail _ (.tail _ (.head _))))
  refine (wordsRight_any hG hT h1 h3 h4 h2 h5).mono fun e W' ⟨he, hb⟩ => ?_
  subst he
  exact ⟨_, rfl, law_post hW' rfl (by kernel_rfl) rfl (by rw [Tryz.params10]; intro t ht; simp at ht; subst ht; exact ⟨by kernel_rfl, of_decide_eq_true (by kernel_rfl)⟩) hb⟩

theorem wordsRight_row : Rows.wordsRightRow.holds Tryz.pinned (OpenSpec.ofChange Rows.wordsRightSpec) :=
  OpenClaim.holds_of_wide 10 Tryz.f10 rfl rfl rfl rfl rfl rfl rfl ⟨rfl, rfl, rfl, rfl, rfl⟩ rfl rfl rfl rfl rfl (by kernel_rfl) Tryz.func10 (by kernel_rfl)
    (of_decide_eq_true (by kernel_rfl)) (by unfold Func.isWrapper; first | (rw [if_pos (by decide +kernel)]; kernel_rfl) | (rw [if_neg (by decide +kernel)]; exact ⟨rfl, rfl⟩))
    (fun os started H enc _ => wordsRight_lifted os started H enc)

/-- the statement -/
theorem wordsRight_card : Rows.WordsRightCardSaid :=
  Claim7.holds_tied_plain_at .later [] [.data, .data, .data, .data, .sentinel, .sentinel, .pinned] true Rows.wordsRightCard.stood.harness true
    wordsRight_row (fun _ h => by cases h) (by kernel_rfl) (fun _ h => by cases h) wordsRight_row_tie rfl ⟨rfl, rfl⟩ (by kernel_rfl) rfl
    (fun f fn hf hfn => by
      obtain rfl : f = 10 := Option.some.inj ((show Tryz.prog.funcNamed "granary/granarylaw11.WordsRight" = some 10 by kernel_rfl).symm.trans hf) |>.symm
      obtain rfl : fn = Tryz.f10 := (Option.some.inj (Tryz.func10.symm.trans hfn)).symm
      exact ⟨by kernel_rfl, fun j t ht => by
        rw [Tryz.params10] at ht
        obtain rfl : t = 56 := by simpa using Array.mem_of_getElem? ht
        kernel_rfl⟩)
    (by kernel_rfl)
#print axioms wordsRight_card
end Go.Proofs.YticigfpieeoolaaGreatDoor
