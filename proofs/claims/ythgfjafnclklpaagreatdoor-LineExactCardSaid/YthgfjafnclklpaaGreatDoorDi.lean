/- Arguments int and [][]byte, opened. The row LineExact; the statement. -/
import Derived.Test.YthgfjafnclklpaaGreatDoorQ51
import Derived.Test.YthgfjafnclklpaaGreatDoorPc
import Derived.Test.YthgfjafnclklpaaGreatDoorKw
namespace Go.Proofs.YthgfjafnclklpaaGreatDoor
open Go.ChangeShapes Go.WideShapes Go.ChangeAt Go.RowKit

section
variable {H : Type} {enc : TypeId × Value → H} {w : World} {held : Bool}
/-- bytes that came in -/
theorem open_chunk {n : Nat} {v : Value} {y : DataW H × List MemPlace} (h : DataW.trod enc Tryz.prog w 0 (fun _ => true) held n 35 [v] = some y) :
    ∃ (A : Option Addr) (cap : Nat) (l : Sp.Bs), v = .slice A l.length cap ∧ RowAt w A (bytesV l) ∧ l.length ≤ cap ∧ (A = none → cap = 0) := by
  obtain ⟨A, cap, l, h1, h2, h3, _, h5, h6⟩ := open_list (fun x : UInt8 => [Value.int .u8 (x.toNat : Int)]) (fun _ _ => True) (by decide) (fun _ => rfl) Tryz.underlying35 (by kernel_rfl) (fun _ _ x h hl => by
    obtain ⟨z, rfl, _, hw⟩ := DataW.trod_int Tryz.underlying5 h
    have hbd := bounds_u8 hw
    refine ⟨UInt8.ofNat z.toNat, ?_, trivial⟩
    have hz : ((UInt8.ofNat z.toNat).toNat : Int) = z := by
      rw [UInt8.toNat_ofNat', Nat.mod_eq_of_lt (by have : (2 : Nat) ^ 8 = 256 := rfl; omega), Int.toNat_of_nonneg hbd.1]
    rw [hz]) h
  exact ⟨A, cap, l, h1, by unfold bytesV; rw [List.map_eq_flatMap]; exact h2, h3, h5⟩
set_option maxRecDepth 100000 in
theorem open_int {base : Nat} {v : Value} {d : DataW H} {p : List MemPlace} (hv : Value.okWide Tryz.prog w .any base 3 v) (h : DataW.Trod enc Tryz.prog w 0 (fun _ => true) held 3 v d p) : ∃ z : Int, v = .int .i64 z ∧ z ≤ 9223372036854775807 := by
  obtain ⟨fuel, h⟩ := h
  obtain ⟨z0, rfl⟩ := okWide_int Tryz.underlying3 hv
  replace h : DataW.trod enc Tryz.prog w 0 (fun _ => true) held fuel 3 [.int .i64 z0] = some (d, p) := h
  obtain ⟨z, k1, _, k2⟩ := DataW.trod_int Tryz.underlying3 h
  injection k1 with k1 _
  injection k1 with _ k1
  subst k1
  have hbd := bounds_i64 k2
  exact ⟨z0, rfl, by omega⟩
set_option maxRecDepth 100000 in
theorem open_chunks {base : Nat} {v : Value} {d : DataW H} {p : List MemPlace} (hv : Value.okWide Tryz.prog w .any base 24 v) (h : DataW.Trod enc Tryz.prog w 0 (fun _ => true) held 24 v d p) :
    ∃ (A : Option Addr) (cap : Nat) (xs : List ChunkArg), v = .slice A xs.length cap ∧ ChunkArgs w A xs ∧ xs.length ≤ 9223372036854775807 := by
  obtain ⟨fuel, h⟩ := h
  obtain ⟨a0, n0, c0, rfl⟩ := okWide_slice Tryz.underlying24 hv
  replace h : DataW.trod enc Tryz.prog w 0 (fun _ => true) held fuel 24 [.slice a0 n0 c0] = some (d, p) := h
  obtain ⟨A, cap, l, hv', h1, h2, h3, h4, h5⟩ := open_list (k := 1) (fun a : ChunkArg => [a.val]) (fun a _ => RowAt w a.A (bytesV a.l) ∧ (a.A = none → a.cap = 0) ∧ a.l.length ≤ a.cap) (by decide) (fun _ => rfl) Tryz.underlying24 (by kernel_rfl) (fun n cs x hx hl => by
    match cs, hl with
    | [c0], _ =>
      obtain ⟨B, cp, l, rfl, b1, b2, b3⟩ := open_chunk hx
      exact ⟨⟨B, cp, l⟩, rfl, b1, b3, b2⟩) h
  refine ⟨A, cap, l, hv', ⟨by rw [List.map_eq_flatMap]; exact h1, fun x hx => ?_⟩, by omega⟩
  obtain ⟨i, hi⟩ := List.getElem?_of_mem hx
  rcases h5 with ⟨rfl, _⟩ | ⟨es, sp, _, _, _, hq⟩
  · simp at hi
  · obtain ⟨_, _, q⟩ := hq i x hi
    exact q
end

set_option maxRecDepth 100000 in
theorem lineExact_lifted (os : Os) (started : os.Started) (H : Type) (enc : TypeId × Value → H) :
    ReturnsInHanded {} Tryz.checked os 6 .any (fun w args => (Rows.lineExactSpec.pre enc Tryz.prog Tryz.f6 [] false w args ∧ laidMetH Tryz.prog Rows.lineExactRow.laid w) ∧ sizedMet enc Tryz.prog Tryz.f6 (OpenSpec.ofChange Rows.lineExactSpec) false w args)
      (Rows.lineExactSpec.post enc Tryz.prog Tryz.f6 false true false false) := by
  refine returns_laid_shaped (C := Tryz.checked) (X := fun w _ => laidMetH Tryz.prog Rows.lineExactRow.laid w) (fun _ _ _ hh h => h.of_heap hh) ownKnob0 started (by kernel_rfl) Tryz.func6
    (ChangeSpec.witness_shaped (enc := enc) (C := Tryz.checked) (os := os) (X := fun w _ => laidMetH Tryz.prog Rows.lineExactRow.laid w) false (World.laidAll Tryz.prog os Rows.lineExactRow.laid) #[.int .i64 0, nilRow] 8 (World.laidAll_os _ _ _)
      (World.shaped_of_ZipB (by kernel_rfl) (by kernel_rfl)) (by kernel_rfl) (by kernel_rfl) (by kernel_rfl)
      (by rw [MakeChecks.laidMetH_plain _ _ _ (by kernel_rfl)]; exact laidMet_laidAll _ (by kernel_rfl) (by kernel_rfl))) ?_
  intro W base args ds gs before hval0 hW _ _ hL hsh
  have hW' := hW
  obtain ⟨p, q, hA0, hV, rfl, _, _⟩ := hW
  have hA : DataW.TrodAll enc Tryz.prog W 0 (fun _ => true) true Tryz.f6.params.toList args.toList ds p := hA0
  rw [Tryz.params6] at hA
  rw [MakeChecks.laidMetH_plain _ _ _ (by kernel_rfl)] at hL
  have hG : Glob W := glob_of hsh ⟨_, Lib.laidMet.reads hL (.tail _ (.tail _ (.tail _ (.tail _ (.tail _ (.head _))))))⟩ ⟨_, Lib.laidMet.reads hL (.tail _ (.tail _ (.tail _ (.tail _ (.head _)))))⟩
  obtain ⟨v, v', d, d', q1, q2, rfl, rfl, rfl, hd, hd'⟩ := trodAll_two hA
  have hv' : Value.okWide Tryz.prog W .any base 24 v' := hval0 1 _ v' (by rw [Tryz.params6]; rfl) rfl
  have hv : Value.okWide Tryz.prog W .any base 3 v := hval0 0 _ v (by rw [Tryz.params6]; rfl) rfl
  obtain ⟨limit, rfl, h0⟩ := open_int hv hd
  obtain ⟨A, cap, xs, rfl, h1, h2⟩ := open_chunks hv' hd'
  refine (lineExact_any hG h0 h1 h2).mono fun e W' ⟨he, hb⟩ => ?_
  subst he
  exact ⟨_, rfl, law_post hW' rfl (by kernel_rfl) rfl (by rw [Tryz.params6]; intro t ht; simp at ht; rcases ht with rfl | rfl <;> exact ⟨by kernel_rfl, of_decide_eq_true (by kernel_rfl)⟩) hb⟩

theorem lineExact_row : Rows.lineExactRow.holds Tryz.pinned (OpenSpec.ofChange Rows.lineExactSpec) :=
  OpenClaim.holds_of_wide 6 Tryz.f6 rfl rfl rfl rfl rfl rfl rfl ⟨rfl, rfl, rfl, rfl, rfl⟩ rfl rfl rfl rfl rfl (by kernel_rfl) Tryz.func6 (by kernel_rfl)
    (of_decide_eq_true (by kernel_rfl)) (by unfold Func.isWrapper; first | (rw [if_pos (by decide +kernel)]; kernel_rfl) | (rw [if_neg (by decide +kernel)]; exact ⟨rfl, rfl⟩))
    (fun os started H enc _ => lineExact_lifted os started H enc)

/-- the statement -/
theorem lineExact_card : Rows.LineExactCardSaid :=
  Claim7.holds_tied_plain_at .later [] [.data, .data, .data, .data, .sentinel, .sentinel, .pinned] true Rows.lineExactCard.stood.harness true
    lineExact_row (fun _ h => by cases h) (by kernel_rfl) (fun _ h => by cases h) lineExact_row_tie rfl ⟨rfl, rfl⟩ (by kernel_rfl) rfl
    (fun f fn hf hfn => by
      obtain rfl : f = 6 := Option.some.inj ((show Tryz.prog.funcNamed "granary/granarylaw12.LineExact" = some 6 by kernel_rfl).symm.trans hf) |>.symm
      obtain rfl : fn = Tryz.f6 := (Option.some.inj (Tryz.func6.symm.trans hfn)).symm
      exact ⟨by kernel_rfl, fun j t ht => by
        rw [Tryz.params6] at ht
        have hm := Array.mem_of_getElem? ht
        simp at hm
        rcases hm with h | h
        · obtain rfl : t = 3 := h
          first | kernel_rfl | (show _ = _; kernel_rfl)
        · obtain rfl : t = 24 := h
          first | kernel_rfl | (show _ = _; kernel_rfl)⟩)
    (by kernel_rfl)
#print axioms lineExact_card
end Go.Proofs.YthgfjafnclklpaaGreatDoor
