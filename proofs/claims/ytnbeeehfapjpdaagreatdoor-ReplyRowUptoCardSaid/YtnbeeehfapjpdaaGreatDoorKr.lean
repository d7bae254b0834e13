/- From the listed variables and the world's shape to what the walks of Reply ask. -/
import Derived.Test.YtnbeeehfapjpdaaGreatDoorVq
import Derived.Test.YtnbeeehfapjpdaaGreatDoorQKw
import Derived.Lib.LaidTab
namespace Go.Proofs.YtnbeeehfapjpdaaGreatDoor
open Go.ChangeShapes Go.WideShapes Go.ChangeAt Go.RowKit

/-- the listed table -/
theorem tab_of {W : World} (h : Lib.VarReads Tryz.prog W "internal/strconv.uint64pow10" Rows.laid_internal_strconv_uint64pow10) : TabAt W := by
  obtain ⟨g', t', cs, fuel, p, h1, h2, h3, h4⟩ := h
  obtain rfl := Option.some.inj ((show Tryz.prog.globalNamed "internal/strconv.uint64pow10" = some 0 by kernel_rfl).symm.trans h1)
  obtain rfl := Option.some.inj ((show (Tryz.prog.globals[0]?).map (·.type) = some 195 by kernel_rfl).symm.trans h2)
  unfold TabAt Lib.TabIs
  rw [h3, ← Lib.cells_of_tab Tryz.underlying195 Tryz.underlying28 (by kernel_rfl) (by kernel_rfl) (k := .u64) (zs := Lib.pow10Tab) h4]
theorem globR_of {W : World} (hsh : W.ShapedOpen Tryz.prog) (ht : TabAt W) : GlobR W := by
  refine ⟨?_, ht, ?_⟩
  · exact cell_of_shapedOpen_int (t := 3) (zero := #[.int .i64 0]) hsh (of_decide_eq_true (by kernel_rfl)) (by kernel_rfl) rfl (by kernel_rfl) (by kernel_rfl) Tryz.underlying3
  · have hlt : 6 - 1 < Tryz.prog.globals.size := of_decide_eq_true (by kernel_rfl)
    have h0 : (((begin Tryz.prog (fun _ _ => 0) default).world.heap[6 - 1]?).bind Obj.row?).isSome = true := by kernel_rfl
    obtain ⟨⟨zero, t⟩, hz⟩ := Option.isSome_iff_exists.1 h0
    obtain ⟨cs, hh, _⟩ := hsh.1 (6 - 1) zero t hlt hz
    rcases Nat.lt_or_ge (6 - 1) W.heap.size with h | h
    · omega
    · rw [Array.getElem?_eq_none h] at hh; cases hh
end Go.Proofs.YtnbeeehfapjpdaaGreatDoor
