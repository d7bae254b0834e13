/- The row WordsWhole; the statement. -/
import Derived.Test.YticigfpieeoolaaGreatDoorZ3
import Derived.Lib.LaidTab
import Derived.Test.YticigfpieeoolaaGreatDoorOp
import Derived.Test.YticigfpieeoolaaGreatDoorKw
namespace Go.Proofs.YticigfpieeoolaaGreatDoor
open Go.ChangeShapes Go.WideShapes Go.ChangeAt Go.RowKit

/-- the listed table -/
theorem tab_of {W : World} (h : Lib.VarReads Tryz.prog W "internal/strconv.uint64pow10" Rows.laid_internal_strconv_uint64pow10) : TabAt W := by
  obtain ⟨g', t', cs, fuel, p, h1, h2, h3, h4⟩ := h
  obtain rfl := Option.some.inj ((show Tryz.prog.globalNamed "internal/strconv.uint64pow10" = some 1 by kernel_rfl).symm.trans h1)
  obtain rfl := Option.some.inj ((show (Tryz.prog.globals[1]?).map (·.type) = some 220 by kernel_rfl).symm.trans h2)
  unfold TabAt Lib.TabIs
  rw [h3, ← Lib.cells_of_tab Tryz.underlying220 Tryz.underlying37 (by kernel_rfl) (by kernel_rfl) (k := .u64) (zs := Lib.pow10Tab) h4]

set_option maxRecDepth 100000 in
/-- a law's argument of type Cut -/
theorem open_cut {H : Type} {enc : TypeId × Value → H} {W : World} {base : Nat} {v : Value} {d : DataW H} {p : List MemPlace} (hv : Value.okWide Tryz.prog W .any base 88 v) (h : DataW.Trod enc Tryz.prog W 0 (fun _ => true) true 88 v d p) :
    ∃ (A C : Option Addr) (capA capC : Nat) (raw : Sp.Bs) (zs : List Int) (limit : Int), v = .agg #[.slice A raw.length capA, .int .i64 limit, .slice C zs.length capC] ∧
      limit ≤ 9223372036854775807 ∧ RowAt W A (bytesV raw) ∧ raw.length ≤ capA ∧ capA ≤ 9223372036854775807 ∧ (A = none → capA = 0) ∧ RowAt W C (zs.map (Value.int .i64)) ∧ zs.length ≤ 9223372036854775807 := by
  obtain ⟨v0, v1, v2, y0, y1, y2, n, rfl, _, _, h0, h1, h2⟩ := Joins.open_agg3 Tryz.underlying88 (by kernel_rfl) (of_decide_eq_true (by kernel_rfl)) hv h
  obtain ⟨A, capA, raw, rfl, a1, a2, a3, a4⟩ := open_byterow Tryz.underlying38 Tryz.underlying5 (by kernel_rfl) h0
  obtain ⟨limit, e1, _, hw⟩ := DataW.trod_int Tryz.underlying3 h1
  obtain ⟨C, capC, zs, rfl, c1, c2, c3, _, _⟩ := open_introw Tryz.underlying83 Tryz.underlying3 (by kernel_rfl) h2
  injection e1 with e1
  subst e1
  have hl := bounds_i64 hw
  exact ⟨A, C, capA, capC, raw, zs, limit, rfl, hl.2, a1, a2, a3, a4, c1, Nat.le_trans c2 c3⟩

set_option maxRecDepth 100000 in
theorem wordsWhole_lifted (os : Os) (started : os.Started) (H : Type) (enc : TypeId × Value → H) :
    ReturnsInHanded {} Tryz.checked os 9 .any (fun w args => (Rows.wordsWholeSpec.pre enc Tryz.prog Tryz.f9 [] false w args ∧ laidMetH Tryz.prog Rows.wordsWholeRow.laid w) ∧ sizedMet enc Tryz.prog Tryz.f9 (OpenSpec.ofChange Rows.wordsWholeSpec) false w args)
      (Rows.wordsWholeSpec.post enc Tryz.prog Tryz.f9 false true false false) := by
  refine returns_laid_shaped (C := Tryz.checked) (X := fun w _ => laidMetH Tryz.prog Rows.wordsWholeRow.laid w) (fun _ _ _ hh h => h.of_heap hh) ownKnob0 started (by kernel_rfl) Tryz.func9
    (ChangeSpec.witness_shaped (enc := enc) (C := Tryz.checked) (os := os) (X := fun w _ => laidMetH Tryz.prog Rows.wordsWholeRow.laid w) false (World.laidAll Tryz.prog os Rows.wordsWholeRow.laid) #[.agg #[nilRow, .int .i64 0, nilRow]] 8 (World.laidAll_os _ _ _)
      (World.shaped_of_ZipB (by kernel_rfl) (by kernel_rfl)) (by kernel_rfl) (by kernel_rfl) (by kernel_rfl)
      (by rw [MakeChecks.laidMetH_plain _ _ _ (by kernel_rfl)]; exact laidMet_laidAll _ (by kernel_rfl) (by kernel_rfl))) ?_
  intro W base args ds gs before hval0 hW _ _ hL hsh
  have hW' := hW
  obtain ⟨p, q, hA0, hV, rfl, _, _⟩ := hW
  have hA : DataW.TrodAll enc Tryz.prog W 0 (fun _ => true) true Tryz.f9.params.toList args.toList ds p := hA0
  rw [Tryz.params9] at hA
  rw [MakeChecks.laidMetH_plain _ _ _ (by kernel_rfl)] at hL
  have hG : Glob W := glob_of hsh ⟨_, Lib.laidMet.reads hL (.tail _ (.tail _ (.tail _ (.tail _ (.tail _ (.head _))))))⟩ ⟨_, Lib.laidMet.reads hL (.tail _ (.tail _ (.tail _ (.tail _ (.head _)))))⟩
  obtain ⟨v, d, rfl, rfl, hd⟩ := trodAll_one hA
  have hv : Value.okWide Tryz.prog W .any base 88 v := hval0 0 _ v (by rw [Tryz.params9]; rfl) rfl
  obtain ⟨A, C, capA, capC, raw, zs, limit, rfl, h1, h2, h3, h4, h5, h6, h7⟩ := open_cut hv hd
  have hT : TabAt W := tab_of (Lib.laidMet.reads hL (.tail _ (.tail _ (.head _))))
  refine (wordsWhole_any hG hT h1 h3 h4 h7 h2 h5 h6).mono fun e W' ⟨he, hb⟩ => ?_
  subst he
  exact ⟨_, rfl, law_post hW' rfl (by kernel_rfl) rfl (by rw [Tryz.params9]; intro t ht; simp at ht; subst ht; exact ⟨by kernel_rfl, of_decide_eq_true (by kernel_rfl)⟩) hb⟩

theorem wordsWhole_row : Rows.wordsWholeRow.holds Tryz.pinned (OpenSpec.ofChange Rows.wordsWholeSpec) :=
  OpenClaim.holds_of_wide 9 Tryz.f9 rfl rfl rfl rfl rfl rfl rfl ⟨rfl, rfl, rfl, rfl, rfl⟩ rfl rfl rfl rfl rfl (by kernel_rfl) Tryz.func9 (by kernel_rfl)
    (of_decide_eq_true (by kernel_rfl)) (by unfold Func.isWrapper; first | (rw [if_pos (by decide +kernel)]; kernel_rfl) | (rw [if_neg (by decide +kernel)]; exact ⟨rfl, rfl⟩))
    (fun os started H enc _ => wordsWhole_lifted os started H enc)

/-- the statement -/
theorem wordsWhole_card : Rows.WordsWholeCardSaid :=
  Claim7.holds_tied_plain_at .later [] [.data, .data, .data, .data, .sentinel, .sentinel, .pinned] true Rows.wordsWholeCard.stood.harness true
    wordsWhole_row (fun _ h => by cases h) (by kernel_rfl) (fun _ h => by cases h) wordsWhole_row_tie rfl ⟨rfl, rfl⟩ (by kernel_rfl) rfl
    (fun f fn hf hfn => by
      obtain rfl : f = 9 := Option.some.inj ((show Tryz.prog.funcNamed "granary/granarylaw11.WordsWhole" = some 9 by kernel_rfl).symm.trans hf) |>.symm
      obtain rfl : fn = Tryz.f9 := (Option.some.inj (Tryz.func9.symm.trans hfn)).symm
      exact ⟨by kernel_rfl, fun j t ht => by
        rw [Tryz.params9] at ht
        obtain rfl : t = 88 := by simpa using Array.mem_of_getElem? ht
        kernel_rfl⟩)
    (by kernel_rfl)
#print axioms wordsWhole_card
end Go.Proofs.YticigfpieeoolaaGreatDoor
