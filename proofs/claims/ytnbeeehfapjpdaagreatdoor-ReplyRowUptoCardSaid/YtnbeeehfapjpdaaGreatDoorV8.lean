/- Walks of package reply's reader: rest, fail. -/
import Derived.Test.YtnbeeehfapjpdaaGreatDoorQV6
import Derived.Test.YtnbeeehfapjpdaaGreatDoorQSs
import Derived.StillTailTactics
namespace Go.Proofs.YtnbeeehfapjpdaaGreatDoor
attribute [local go_sem ↓] Go.wp_at_zero Go.wp_at_succ
open Go.RowKit

/-- a reader in block rb: its bytes, and where it is -/
structure RdAt (w : World) (rb : Nat) (A : Option Addr) (cap : Nat) (raw : Sp.Bs) (p : Nat) : Prop where
  blk : Blk w rb 148 #[.slice A raw.length cap, .int .i64 p]
  row : RowAt w A (bytesV raw)
  room : raw.length ≤ cap
  le : p ≤ raw.length
  small : raw.length ≤ 1000000000
  nil : A = Option.none → cap = 0
  old : ∀ a, A = some a → a.block < rb
/-- the bytes that are left, as a slice -/
abbrev restV (A : Option Addr) (cap : Nat) (raw : Sp.Bs) (p : Nat) : Value := .slice (cutAddr A p cap) (raw.length - p) (cap - p)
theorem RdAt.rest {w : World} {rb : Nat} {A : Option Addr} {cap : Nat} {raw : Sp.Bs} {p : Nat} (h : RdAt w rb A cap raw p) : RowAt w (cutAddr A p cap) (bytesV (raw.drop p)) := by
  rw [bytesV_drop]
  exact h.row.cut (by rw [bytesV_length]; exact h.room)
theorem RdAt.later {w w' : World} {rb : Nat} {A : Option Addr} {cap : Nat} {raw : Sp.Bs} {p : Nat} (h : RdAt w rb A cap raw p) (hb : Below w.heap.size w w') : RdAt w' rb A cap raw p := { h with blk := h.blk.later hb, row := h.row.below hb }
set_option maxHeartbeats 1000000 in
set_option maxRecDepth 100000 in
theorem rest_any {w : World} {rb : Nat} {A : Option Addr} {cap : Nat} {raw : Sp.Bs} {p : Nat} (h : RdAt w rb A cap raw p) : Calls Tryz.prog 135 #[.pointer (some ⟨rb, 0, none⟩)] w fun e w' => e = .returned (restV A cap raw p) ∧ Below w.heap.size w w' := by
  have x0 : w.cell? ⟨rb, 0, none⟩ = some (.slice A raw.length cap) := h.blk.cell 0
  have x1 : w.cell? ⟨rb, 1, none⟩ = some (.int .i64 p) := h.blk.cell 1
  have hsl := fun W : World => run_slice_from W A raw.length cap p h.le
  have h1 : (p : Int) ≤ (raw.length : Int) := by have := h.le; omega
  have h2 : (raw.length : Int) ≤ (cap : Int) := by have := h.room; omega
  unfold restV
  generalize cutAddr A p cap = D at hsl ⊢
  clear h
  go_enter Tryz.func135, Tryz.ntmps135
  go_upto_region 1 with fail
  go_still_tail 9, (by kernel_rfl)
  change wpList _ _ _ _ _ w.drew
  go_wp2
  go_ret
  exact ⟨rfl, (Below.refl _ _).drew⟩
/-- what a reader throws -/
abbrev thrownR (more : Bool) : Ending := .panicked [{ v := .iface 150 (.agg #[.bool more]), recovered := false }]
theorem readerFail_any (w : World) (rb : Nat) : Calls Tryz.prog 137 #[.pointer (some ⟨rb, 0, none⟩)] w fun e w' => e = thrownR false ∧ w = w' := by
  go_enter Tryz.func137, Tryz.ntmps137
  go_wp2
  exact ⟨rfl, rfl, rfl⟩
end Go.Proofs.YtnbeeehfapjpdaaGreatDoor
