/- Walks of package words: put, place by place. -/
import Derived.Test.YthgfjafnclklpaaGreatDoorY1
import Derived.Test.YthgfjafnclklpaaGreatDoorR0
import Derived.Test.YthgfjafnclklpaaGreatDoorSm
namespace Go.Proofs.YthgfjafnclklpaaGreatDoor
attribute [local go_sem ↓] Go.wp_at_zero Go.wp_at_succ
open Go.RowKit

/-- what put tells -/
def PutPost (c : Sp.CmdV) (k : UInt8) (w : World) (e : Ending) (w' : World) : Prop := ∃ t b, e = .returned (.tuple #[str t, .bool b]) ∧ Sp.putV c k = (if b = true then [t] else []) ∧ Below w.heap.size w w'

section
variable {c : Sp.CmdV} {K D M : Option Addr} {kn kc dc mn mc : Nat} {w : World}

set_option maxHeartbeats 4000000 in
set_option maxRecDepth 100000 in
theorem put_F (hf : CmdFit c) (ht : TabAt w) (hg : Glob w) :
    Calls Tryz.prog 44 #[cmdV c (.slice K kn kc) (.slice D c.data.length dc) (.slice M mn mc), .int .u8 70] w (PutPost c 70 w) := by
  have hb0 : Below w.heap.size w (w.alloc (.cells (cmdArr c (.slice K kn kc) (.slice D c.data.length dc) (.slice M mn mc)) 38)) := (Below.refl _ _).alloc (Nat.le_refl _) _
  have HB0 := Lib.hid hb0
  have hc := formatUint_any c.flags hf.flags (w.alloc (.cells (cmdArr c (.slice K kn kc) (.slice D c.data.length dc) (.slice M mn mc)) 38)) (ht.later hg hb0)
  have hp : Sp.putV c 70 = [Lib.decDigits c.flags] := rfl
  have hfin : ∀ w', Below (w.alloc (.cells (cmdArr c (.slice K kn kc) (.slice D c.data.length dc) (.slice M mn mc)) 38)).heap.size (w.alloc (.cells (cmdArr c (.slice K kn kc) (.slice D c.data.length dc) (.slice M mn mc)) 38)) w' →
      PutPost c 70 w (.returned (.tuple #[str (Lib.decDigits c.flags), .bool true])) w' := fun w' hb => ⟨_, _, rfl, by rw [hp]; rfl, HB0.out.trans (hb.mono HB0.out.size)⟩
  generalize PutPost c 70 w = R at hfin ⊢
  have HC := Lib.hid hc
  have HF := Lib.hid hfin
  clear hc hfin hp hf ht hg hb0 HB0
  go_enter Tryz.func44, Tryz.ntmps44
  go_wp2_with (refine HC.out.mono ?_; rintro e w1 ⟨rfl, hb1⟩; have HB1 := Lib.hid hb1; clear hb1)
  exact HF.out _ HB1.out

set_option maxHeartbeats 4000000 in
set_option maxRecDepth 100000 in
theorem put_C (hf : CmdFit c) (ht : TabAt w) (hg : Glob w) :
    Calls Tryz.prog 44 #[cmdV c (.slice K kn kc) (.slice D c.data.length dc) (.slice M mn mc), .int .u8 67] w (PutPost c 67 w) := by
  have hb0 : Below w.heap.size w (w.alloc (.cells (cmdArr c (.slice K kn kc) (.slice D c.data.length dc) (.slice M mn mc)) 38)) := (Below.refl _ _).alloc (Nat.le_refl _) _
  have HB0 := Lib.hid hb0
  have hc := formatUint_any c.token hf.token (w.alloc (.cells (cmdArr c (.slice K kn kc) (.slice D c.data.length dc) (.slice M mn mc)) 38)) (ht.later hg hb0)
  have hp : Sp.putV c 67 = [Lib.decDigits c.token] := rfl
  have hfin : ∀ w', Below (w.alloc (.cells (cmdArr c (.slice K kn kc) (.slice D c.data.length dc) (.slice M mn mc)) 38)).heap.size (w.alloc (.cells (cmdArr c (.slice K kn kc) (.slice D c.data.length dc) (.slice M mn mc)) 38)) w' →
      PutPost c 67 w (.returned (.tuple #[str (Lib.decDigits c.token), .bool true])) w' := fun w' hb => ⟨_, _, rfl, by rw [hp]; rfl, HB0.out.trans (hb.mono HB0.out.size)⟩
  generalize PutPost c 67 w = R at hfin ⊢
  have HC := Lib.hid hc
  have HF := Lib.hid hfin
  clear hc hfin hp hf ht hg hb0 HB0
  go_enter Tryz.func44, Tryz.ntmps44
  go_wp2_with (refine HC.out.mono ?_; rintro e w1 ⟨rfl, hb1⟩; have HB1 := Lib.hid hb1; clear hb1)
  exact HF.out _ HB1.out

set_option maxHeartbeats 4000000 in
set_option maxRecDepth 100000 in
theorem put_D (hf : CmdFit c) (ht : TabAt w) (hg : Glob w) :
    Calls Tryz.prog 44 #[cmdV c (.slice K kn kc) (.slice D c.data.length dc) (.slice M mn mc), .int .u8 68] w (PutPost c 68 w) := by
  have hb0 : Below w.heap.size w (w.alloc (.cells (cmdArr c (.slice K kn kc) (.slice D c.data.length dc) (.slice M mn mc)) 38)) := (Below.refl _ _).alloc (Nat.le_refl _) _
  have HB0 := Lib.hid hb0
  have hc := formatUint_any c.delta hf.delta (w.alloc (.cells (cmdArr c (.slice K kn kc) (.slice D c.data.length dc) (.slice M mn mc)) 38)) (ht.later hg hb0)
  have hp : Sp.putV c 68 = [Lib.decDigits c.delta] := rfl
  have hfin : ∀ w', Below (w.alloc (.cells (cmdArr c (.slice K kn kc) (.slice D c.data.length dc) (.slice M mn mc)) 38)).heap.size (w.alloc (.cells (cmdArr c (.slice K kn kc) (.slice D c.data.length dc) (.slice M mn mc)) 38)) w' →
      PutPost c 68 w (.returned (.tuple #[str (Lib.decDigits c.delta), .bool true])) w' := fun w' hb => ⟨_, _, rfl, by rw [hp]; rfl, HB0.out.trans (hb.mono HB0.out.size)⟩
  generalize PutPost c 68 w = R at hfin ⊢
  have HC := Lib.hid hc
  have HF := Lib.hid hfin
  clear hc hfin hp hf ht hg hb0 HB0
  go_enter Tryz.func44, Tryz.ntmps44
  go_wp2_with (refine HC.out.mono ?_; rintro e w1 ⟨rfl, hb1⟩; have HB1 := Lib.hid hb1; clear hb1)
  exact HF.out _ HB1.out

set_option maxHeartbeats 4000000 in
set_option maxRecDepth 100000 in
theorem put_T (hf : CmdFit c) (ht : TabAt w) (hg : Glob w) :
    Calls Tryz.prog 44 #[cmdV c (.slice K kn kc) (.slice D c.data.length dc) (.slice M mn mc), .int .u8 84] w (PutPost c 84 w) := by
  have hb0 : Below w.heap.size w (w.alloc (.cells (cmdArr c (.slice K kn kc) (.slice D c.data.length dc) (.slice M mn mc)) 38)) := (Below.refl _ _).alloc (Nat.le_refl _) _
  have HB0 := Lib.hid hb0
  have hc := itoa_any c.exptime hf.time.1 hf.time.2 (w.alloc (.cells (cmdArr c (.slice K kn kc) (.slice D c.data.length dc) (.slice M mn mc)) 38)) (ht.later hg hb0)
  have hp : Sp.putV c 84 = [Lib.itoa c.exptime] := rfl
  have hfin : ∀ w', Below (w.alloc (.cells (cmdArr c (.slice K kn kc) (.slice D c.data.length dc) (.slice M mn mc)) 38)).heap.size (w.alloc (.cells (cmdArr c (.slice K kn kc) (.slice D c.data.length dc) (.slice M mn mc)) 38)) w' →
      PutPost c 84 w (.returned (.tuple #[str (Lib.itoa c.exptime), .bool true])) w' := fun w' hb => ⟨_, _, rfl, by rw [hp]; rfl, HB0.out.trans (hb.mono HB0.out.size)⟩
  generalize PutPost c 84 w = R at hfin ⊢
  have HC := Lib.hid hc
  have HF := Lib.hid hfin
  clear hc hfin hp hf ht hg hb0 HB0
  go_enter Tryz.func44, Tryz.ntmps44
  go_wp2_with (refine HC.out.mono ?_; rintro e w1 ⟨rfl, hb1⟩; have HB1 := Lib.hid hb1; clear hb1)
  exact HF.out _ HB1.out

set_option maxHeartbeats 4000000 in
set_option maxRecDepth 100000 in
theorem put_N (hf : CmdFit c) (ht : TabAt w) (hg : Glob w) :
    Calls Tryz.prog 44 #[cmdV c (.slice K kn kc) (.slice D c.data.length dc) (.slice M mn mc), .int .u8 78] w (PutPost c 78 w) := by
  have hb0 : Below w.heap.size w (w.alloc (.cells (cmdArr c (.slice K kn kc) (.slice D c.data.length dc) (.slice M mn mc)) 38)) := (Below.refl _ _).alloc (Nat.le_refl _) _
  have HB0 := Lib.hid hb0
  have hc := itoa_any (c.data.length : Int) (by omega) (by have := hf.data; omega) (w.alloc (.cells (cmdArr c (.slice K kn kc) (.slice D c.data.length dc) (.slice M mn mc)) 38)) (ht.later hg hb0)
  have hp : Sp.putV c 78 = [Lib.itoa (c.data.length : Int)] := by rw [Lib.itoa_nonneg]; rfl
  have hfin : ∀ w', Below (w.alloc (.cells (cmdArr c (.slice K kn kc) (.slice D c.data.length dc) (.slice M mn mc)) 38)).heap.size (w.alloc (.cells (cmdArr c (.slice K kn kc) (.slice D c.data.length dc) (.slice M mn mc)) 38)) w' →
      PutPost c 78 w (.returned (.tuple #[str (Lib.itoa (c.data.length : Int)), .bool true])) w' := fun w' hb => ⟨_, _, rfl, by rw [hp]; rfl, HB0.out.trans (hb.mono HB0.out.size)⟩
  generalize PutPost c 78 w = R at hfin ⊢
  have HC := Lib.hid hc
  have HF := Lib.hid hfin
  clear hc hfin hp hf ht hg hb0 HB0
  go_enter Tryz.func44, Tryz.ntmps44
  go_wp2_with (refine HC.out.mono ?_; rintro e w1 ⟨rfl, hb1⟩; have HB1 := Lib.hid hb1; clear hb1)
  exact HF.out _ HB1.out

set_option maxHeartbeats 4000000 in
set_option maxRecDepth 100000 in
theorem put_V :
    Calls Tryz.prog 44 #[cmdV c (.slice K kn kc) (.slice D c.data.length dc) (.slice M mn mc), .int .u8 86] w (PutPost c 86 w) := by
  have hb0 : Below w.heap.size w (w.alloc (.cells (cmdArr c (.slice K kn kc) (.slice D c.data.length dc) (.slice M mn mc)) 38)) := (Below.refl _ _).alloc (Nat.le_refl _) _
  have HB0 := Lib.hid hb0
  have hfin : PutPost c 86 w (.returned (.tuple #[str [49], .bool true])) (w.alloc (.cells (cmdArr c (.slice K kn kc) (.slice D c.data.length dc) (.slice M mn mc)) 38)) := ⟨_, _, rfl, rfl, hb0⟩
  generalize PutPost c 86 w = R at hfin ⊢
  have HF := Lib.hid hfin
  clear hfin hb0 HB0
  go_enter Tryz.func44, Tryz.ntmps44
  go_wp2
  exact HF.out

set_option maxHeartbeats 4000000 in
set_option maxRecDepth 100000 in
theorem put_0 :
    Calls Tryz.prog 44 #[cmdV c (.slice K kn kc) (.slice D c.data.length dc) (.slice M mn mc), .int .u8 48] w (PutPost c 48 w) := by
  have hb0 : Below w.heap.size w (w.alloc (.cells (cmdArr c (.slice K kn kc) (.slice D c.data.length dc) (.slice M mn mc)) 38)) := (Below.refl _ _).alloc (Nat.le_refl _) _
  have HB0 := Lib.hid hb0
  have hfin : PutPost c 48 w (.returned (.tuple #[str [], .bool false])) (w.alloc (.cells (cmdArr c (.slice K kn kc) (.slice D c.data.length dc) (.slice M mn mc)) 38)) := ⟨_, _, rfl, rfl, hb0⟩
  generalize PutPost c 48 w = R at hfin ⊢
  have HF := Lib.hid hfin
  clear hfin hb0 HB0
  go_enter Tryz.func44, Tryz.ntmps44
  go_wp2
  exact HF.out

set_option maxHeartbeats 4000000 in
set_option maxRecDepth 100000 in
theorem put_S (hf : CmdFit c) (ht : TabAt w) (hg : Glob w) :
    Calls Tryz.prog 44 #[cmdV c (.slice K kn kc) (.slice D c.data.length dc) (.slice M mn mc), .int .u8 83] w (PutPost c 83 w) := by
  have hb0 : Below w.heap.size w (w.alloc (.cells (cmdArr c (.slice K kn kc) (.slice D c.data.length dc) (.slice M mn mc)) 38)) := (Below.refl _ _).alloc (Nat.le_refl _) _
  have hbl := Blk.new w 38 (cmdArr c (.slice K kn kc) (.slice D c.data.length dc) (.slice M mn mc))
  have hc := fun (W : World) (hb : Below w.heap.size w W) => itoa_any c.exptime hf.time.1 hf.time.2 W (ht.later hg hb)
  have hp : Sp.putV c 83 = (if c.exptime = 0 then [] else [Lib.itoa c.exptime]) := rfl
  have hfin : ∀ w', Below w.heap.size w w' → PutPost c 83 w (.returned (.tuple #[str (Lib.itoa c.exptime), .bool (c.exptime != 0)])) w' := fun w' hb => ⟨_, _, rfl, by rw [hp]; by_cases h : c.exptime = 0 <;> simp [h], hb⟩
  generalize PutPost c 83 w = R at hfin ⊢
  have hlt : w.heap.size < (w.alloc (.cells (cmdArr c (.slice K kn kc) (.slice D c.data.length dc) (.slice M mn mc)) 38)).heap.size := by simp
  have x3 : (w.alloc (.cells (cmdArr c (.slice K kn kc) (.slice D c.data.length dc) (.slice M mn mc)) 38)).cell? ⟨w.heap.size, 3, none⟩ = some (.int .i64 c.exptime) := hbl.cell 3
  have HC := Lib.hid hc
  have HF := Lib.hid hfin
  have HB0 := Lib.hid hb0
  have HX := Lib.hid x3
  have HLT := Lib.hid hlt
  clear hc hfin hp hf ht hg hb0 hbl x3 hlt
  go_enter Tryz.func44, Tryz.ntmps44
  go_wp2_with fail
  go_region_held3 (fun w' => w'.cell? ⟨w.heap.size, 3, none⟩ = some (.int .i64 c.exptime)) (first | exact HX.out | exact y3 | go_keep) ((go_at_call 84; refine (HC.out _ (HB0.out.drew)).mono ?_; rintro e w2 ⟨rfl, hb2⟩; have y3 := (hb2.cell (p := ⟨w.heap.size, 3, none⟩) HLT.out).trans HX.out; have HB2 := Lib.hid hb2; clear hb2))
  all_goals
    go_wp2_with fail
    exact HF.out _ (HB0.out.drew.trans (HB2.out.mono HB0.out.size))

set_option maxHeartbeats 4000000 in
set_option maxRecDepth 100000 in
theorem put_W :
    Calls Tryz.prog 44 #[cmdV c (.slice K kn kc) (.slice D c.data.length dc) (.slice M mn mc), .int .u8 87] w (PutPost c 87 w) := by
  have hb0 : Below w.heap.size w (w.alloc (.cells (cmdArr c (.slice K kn kc) (.slice D c.data.length dc) (.slice M mn mc)) 38)) := (Below.refl _ _).alloc (Nat.le_refl _) _
  have hp : Sp.putV c 87 = (if c.what = [] then [] else [c.what]) := rfl
  have hfin : ∀ w', Below w.heap.size w w' → PutPost c 87 w (.returned (.tuple #[str c.what, .bool (!c.what.isEmpty)])) w' := fun w' hb => ⟨_, _, rfl, by rw [hp]; cases c.what <;> simp, hb⟩
  generalize PutPost c 87 w = R at hfin ⊢
  have HF := Lib.hid hfin
  have HB0 := Lib.hid hb0
  clear hfin hp hb0
  go_enter Tryz.func44, Tryz.ntmps44
  go_wp2_with fail
  go_quiet (fail)
  go_wp2_with fail
  exact HF.out _ (below_drewN' HB0.out _)

/-- put at a place of a row that is no K and no G -/
theorem put_any (hf : CmdFit c) (ht : TabAt w) (hg : Glob w) {k : UInt8} (hk : k ∈ ([70, 84, 78, 67, 48, 68, 83, 86, 87] : Sp.Bs)) :
    Calls Tryz.prog 44 #[cmdV c (.slice K kn kc) (.slice D c.data.length dc) (.slice M mn mc), .int .u8 k.toNat] w (PutPost c k w) := by
  simp only [List.mem_cons, List.not_mem_nil, or_false] at hk
  rcases hk with rfl | rfl | rfl | rfl | rfl | rfl | rfl | rfl | rfl
  · exact put_F hf ht hg
  · exact put_T hf ht hg
  · exact put_N hf ht hg
  · exact put_C hf ht hg
  · exact put_0
  · exact put_D hf ht hg
  · exact put_S hf ht hg
  · exact put_V
  · exact put_W
end
end Go.Proofs.YthgfjafnclklpaaGreatDoor
