/- The row LineHolds; the statement. -/
import Derived.Test.YtbiakncngmgbkaaDoorP2
import Derived.Test.YtbiakncngmgbkaaDoorOp
import Derived.Test.YtbiakncngmgbkaaDoorKw
namespace Go.Proofs.YtbiakncngmgbkaaDoor
open Go.ChangeShapes Go.WideShapes Go.ChangeAt Go.RowKit

set_option maxRecDepth 100000 in
/-- a law's argument of type Row -/
theorem open_row {H : Type} {enc : TypeId × Value → H} {W : World} {base : Nat} {v : Value} {d : DataW H} {p : List MemPlace} (hv : Value.okWide Tryd.prog W .any base 26 v) (h : DataW.Trod enc Tryd.prog W 0 (fun _ => true) true 26 v d p) :
    ∃ (A B C : Option Addr) (capA capB capC : Nat) (raw : Sp.Bs) (one two : List Int) (limit : Int), v = .agg #[.slice A raw.length capA, .int .i64 limit, .slice B one.length capB, .slice C two.length capC] ∧
      -9223372036854775808 ≤ limit ∧ limit ≤ 9223372036854775807 ∧ RowAt W A (bytesV raw) ∧ raw.length ≤ capA ∧ capA ≤ 9223372036854775807 ∧ (A = none → capA = 0) ∧
      RowAt W B (intsV one) ∧ one.length ≤ 9223372036854775807 ∧ RowAt W C (intsV two) ∧ two.length ≤ 9223372036854775807 := by
  obtain ⟨v0, v1, v2, v3, y0, y1, y2, y3, n, rfl, _, _, h0, h1, h2, h3⟩ := Joins.open_agg4 Tryd.underlying26 (by kernel_rfl) (of_decide_eq_true (by kernel_rfl)) hv h
  obtain ⟨A, capA, raw, rfl, a1, a2, a3, a4⟩ := open_byterow Tryd.underlying23 Tryd.underlying5 (by kernel_rfl) h0
  obtain ⟨limit, e1, _, hw⟩ := DataW.trod_int Tryd.underlying3 h1
  obtain ⟨B, capB, one, rfl, b1, b2, b3, _, _⟩ := open_introw Tryd.underlying24 Tryd.underlying3 (by kernel_rfl) h2
  obtain ⟨C, capC, two, rfl, c1, c2, c3, _, _⟩ := open_introw Tryd.underlying24 Tryd.underlying3 (by kernel_rfl) h3
  injection e1 with e1
  subst e1
  have hl := bounds_i64 hw
  exact ⟨A, B, C, capA, capB, capC, raw, one, two, limit, rfl, hl.1, hl.2, a1, a2, a3, a4, b1, Nat.le_trans b2 b3, c1, Nat.le_trans c2 c3⟩

set_option maxRecDepth 100000 in
theorem lineHolds_lifted (os : Os) (started : os.Started) (H : Type) (enc : TypeId × Value → H) :
    ReturnsInHanded {} Tryd.checked os 4 .any (fun w args => (Rows.lineHoldsSpec.pre enc Tryd.prog Tryd.f4 [] false w args ∧ laidMetH Tryd.prog Rows.lineHoldsRow.laid w) ∧ sizedMet enc Tryd.prog Tryd.f4 (OpenSpec.ofChange Rows.lineHoldsSpec) false w args)
      (Rows.lineHoldsSpec.post enc Tryd.prog Tryd.f4 false true false false) := by
  refine returns_laid_shaped (C := Tryd.checked) (X := fun w _ => laidMetH Tryd.prog Rows.lineHoldsRow.laid w) (fun _ _ _ hh h => h.of_heap hh) ownKnob0 started (by kernel_rfl) Tryd.func4
    (ChangeSpec.witness_shaped (enc := enc) (C := Tryd.checked) (os := os) (X := fun w _ => laidMetH Tryd.prog Rows.lineHoldsRow.laid w) false (World.laidAll Tryd.prog os Rows.lineHoldsRow.laid) #[.agg #[nilRow, .int .i64 0, nilRow, nilRow]] 8 (World.laidAll_os _ _ _)
      (World.shaped_of_ZipB (by kernel_rfl) (by kernel_rfl)) (by kernel_rfl) (by kernel_rfl) (by kernel_rfl)
      (by rw [MakeChecks.laidMetH_plain _ _ _ (by kernel_rfl)]; exact laidMet_laidAll _ (by kernel_rfl) (by kernel_rfl))) ?_
  intro W base args ds gs before hval0 hW _ _ hL hsh
  have hW' := hW
  obtain ⟨p, q, hA0, hV, rfl, _, _⟩ := hW
  have hA : DataW.TrodAll enc Tryd.prog W 0 (fun _ => true) true Tryd.f4.params.toList args.toList ds p := hA0
  rw [Tryd.params4] at hA
  obtain ⟨v, d, rfl, rfl, hd⟩ := trodAll_one hA
  have hv : Value.okWide Tryd.prog W .any base 26 v := hval0 0 _ v (by rw [Tryd.params4]; rfl) rfl
  rw [MakeChecks.laidMetH_plain _ _ _ (by kernel_rfl)] at hL
  have hG : Glob W := glob_of hsh ⟨_, Lib.laidMet.reads hL (.tail _ (.tail _ (.tail _ (.tail _ (.tail _ (.head _))))))⟩ ⟨_, Lib.laidMet.reads hL (.tail _ (.tail _ (.tail _ (.tail _ (.head _)))))⟩
  obtain ⟨A, B, C, capA, capB, capC, raw, one, two, limit, rfl, h1, h2, h3, h4, h5, h6, h7, h8, h9, h10⟩ := open_row hv hd
  refine (lineHolds_any hG h1 h2 h4 h5 h10 h3 h6 h9).mono fun e W' ⟨he, hb⟩ => ?_
  subst he
  exact ⟨_, rfl, law_post hW' rfl (by kernel_rfl) rfl (by rw [Tryd.params4]; intro t ht; simp at ht; subst ht; exact ⟨by kernel_rfl, of_decide_eq_true (by kernel_rfl)⟩) hb⟩

theorem lineHolds_row : Rows.lineHoldsRow.holds Tryd.pinned (OpenSpec.ofChange Rows.lineHoldsSpec) :=
  OpenClaim.holds_of_wide 4 Tryd.f4 rfl rfl rfl rfl rfl rfl rfl ⟨rfl, rfl, rfl, rfl, rfl⟩ rfl rfl rfl rfl rfl (by kernel_rfl) Tryd.func4 (by kernel_rfl)
    (of_decide_eq_true (by kernel_rfl)) (by unfold Func.isWrapper; first | (rw [if_pos (by decide +kernel)]; kernel_rfl) | (rw [if_neg (by decide +kernel)]; exact ⟨rfl, rfl⟩))
    (fun os started H enc _ => lineHolds_lifted os started H enc)

/-- the statement -/
theorem lineHolds_card : Rows.LineHoldsCardSaid :=
  Claim7.holds_tied_plain_at .later [] [.data, .data, .data, .data, .sentinel, .sentinel, .pinned] true Rows.lineHoldsCard.stood.harness true
    lineHolds_row (fun _ h => by cases h) (by kernel_rfl) (fun _ h => by cases h) lineHolds_row_tie rfl ⟨rfl, rfl⟩ (by kernel_rfl) rfl
    (fun f fn hf hfn => by
      obtain rfl : f = 4 := Option.some.inj ((show Tryd.prog.funcNamed "granary/granarylaw12.LineHolds" = some 4 by kernel_rfl).symm.trans hf) |>.symm
      obtain rfl : fn = Tryd.f4 := (Option.some.inj (Tryd.func4.symm.trans hfn)).symm
      exact ⟨by kernel_rfl, fun j t ht => by
        rw [Tryd.params4] at ht
        obtain rfl : t = 26 := by simpa using Array.mem_of_getElem? ht
        kernel_rfl⟩)
    (by kernel_rfl)
#print axioms lineHolds_card
end Go.Proofs.YtbiakncngmgbkaaDoor
