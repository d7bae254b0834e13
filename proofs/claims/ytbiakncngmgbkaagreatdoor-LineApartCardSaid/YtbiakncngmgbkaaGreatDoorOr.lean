/- An argument of type Row, opened. -/
import Derived.Test.YtbiakncngmgbkaaGreatDoorOp
import Derived.Test.YtbiakncngmgbkaaGreatDoorP1
namespace Go.Proofs.YtbiakncngmgbkaaGreatDoor
open Go.ChangeShapes Go.WideShapes Go.ChangeAt Go.RowKit

set_option maxRecDepth 100000 in
/-- a law's argument of type Row -/
theorem open_row {H : Type} {enc : TypeId × Value → H} {W : World} {base : Nat} {v : Value} {d : DataW H} {p : List MemPlace} (hv : Value.okWide Tryz.prog W .any base 66 v) (h : DataW.Trod enc Tryz.prog W 0 (fun _ => true) true 66 v d p) :
    ∃ (A B C : Option Addr) (capA capB capC : Nat) (raw : Sp.Bs) (one two : List Int) (limit : Int), v = .agg #[.slice A raw.length capA, .int .i64 limit, .slice B one.length capB, .slice C two.length capC] ∧
      -9223372036854775808 ≤ limit ∧ limit ≤ 9223372036854775807 ∧ RowAt W A (bytesV raw) ∧ raw.length ≤ capA ∧ capA ≤ 9223372036854775807 ∧ (A = none → capA = 0) ∧
      RowAt W B (intsV one) ∧ one.length ≤ 9223372036854775807 ∧ RowAt W C (intsV two) ∧ two.length ≤ 9223372036854775807 := by
  obtain ⟨v0, v1, v2, v3, y0, y1, y2, y3, n, rfl, _, _, h0, h1, h2, h3⟩ := Joins.open_agg4 Tryz.underlying66 (by kernel_rfl) (of_decide_eq_true (by kernel_rfl)) hv h
  obtain ⟨A, capA, raw, rfl, a1, a2, a3, a4⟩ := open_byterow Tryz.underlying43 Tryz.underlying5 (by kernel_rfl) h0
  obtain ⟨limit, e1, _, hw⟩ := DataW.trod_int Tryz.underlying3 h1
  obtain ⟨B, capB, one, rfl, b1, b2, b3, _, _⟩ := open_introw Tryz.underlying50 Tryz.underlying3 (by kernel_rfl) h2
  obtain ⟨C, capC, two, rfl, c1, c2, c3, _, _⟩ := open_introw Tryz.underlying50 Tryz.underlying3 (by kernel_rfl) h3
  injection e1 with e1
  subst e1
  have hl := bounds_i64 hw
  exact ⟨A, B, C, capA, capB, capC, raw, one, two, limit, rfl, hl.1, hl.2, a1, a2, a3, a4, b1, Nat.le_trans b2 b3, c1, Nat.le_trans c2 c3⟩

end Go.Proofs.YtbiakncngmgbkaaGreatDoor
