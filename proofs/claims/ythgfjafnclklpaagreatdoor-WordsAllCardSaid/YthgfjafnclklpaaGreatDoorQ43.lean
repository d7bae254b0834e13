/- Walks of the library: strconv.FormatUint at base 10. Walks of package words: put, place by place. Walks of package words: same, of commands that are the same. Walks of package words: name, a look through the rows in whatever order. -/
import Derived.Test.YthgfjafnclklpaaGreatDoorW4
import Derived.Test.YthgfjafnclklpaaGreatDoorShelf
import Derived.Lib.AppendIntMem
import Derived.Lib.ItoaMem
import Derived.WalkSmall
import Derived.Lib.Hide
import Derived.Test.YthgfjafnclklpaaGreatDoorR0
import Derived.Test.YthgfjafnclklpaaGreatDoorSm
import Derived.Test.YthgfjafnclklpaaGreatDoorA1
import Derived.Test.YthgfjafnclklpaaGreatDoorG1
import Derived.Test.YthgfjafnclklpaaGreatDoorW2
import Derived.Laws.IdiomRangeMap
import Derived.RegionTactic
section
namespace Go.Proofs.YthgfjafnclklpaaGreatDoor
open Go.RowKit Go.Lib Go.Sort

/-- the library's table of powers is there -/
def TabAt (w : World) : Prop := Lib.TabIs Tryz.prog w "internal/strconv.uint64pow10" .u64 Lib.pow10Tab

theorem TabAt.later {w w' : World} (h : TabAt w) (hg : Glob w) (hb : Below w.heap.size w w') : TabAt w' :=
  var?_below hb (g := 1) (by kernel_rfl) (Nat.lt_of_lt_of_le (by decide) hg.size) h

theorem below_grow {w : World} (k : Nat) (os : Array Obj) : Below w.heap.size w (grow (w.drewN k) os) := by
  refine ⟨rfl, rfl, rfl, by simp [grow], fun i hi => ?_⟩
  show (w.heap ++ os)[i]? = _
  rw [Array.getElem?_append_left hi]

set_option maxHeartbeats 6400000 in
set_option maxRecDepth 100000 in
theorem formatUint_in (u : Nat) (hu64 : u < 18446744073709551616) (w : World) (htab : TabAt w) :
    Calls Tryz.prog 123 #[.int .u64 u, .int .i64 10] w fun e w' => e = .returned (str (Lib.decDigits u)) ∧ Below w.heap.size w w' := by
  unfold TabAt at htab
  by_cases hs : u < 100
  · go_enter Tryz.func123, Tryz.ntmps123
    go_wp2_with (go_at_call 141; refine (Tryz.internal_strconv_small u hs _).mono ?_; rintro e w' ⟨rfl, rfl⟩)
    go_ret
    exact ⟨rfl, Below.refl _ _⟩
  · have hu1 : 1 ≤ u := by omega
    have hnd20 : Lib.nDigits u ≤ 20 := by have := Lib.numDigits_eq u hu1 hu64; split at this <;> omega
    have hal : Tryz.prog.arrayLen 190 = 24 := by simp [Program.arrayLen, Tryz.underlying190]
    have hsl1 : ∀ W, (Instr.sliceAt 190 (.pointer (some ⟨w.heap.size, 0, none⟩)) none (some (.int .i64 (Lib.nDigits u : Int))) none).run Tryz.prog W = .ok (.slice (some ⟨w.heap.size, 0, none⟩) (Lib.nDigits u) 24) W := fun W => by
      rw [run_sliceAt_array_h W 190 ⟨w.heap.size, 0, none⟩ (by simp [Program.arrayLen, Program.elem, Tryz.underlying190]) .i64 (Lib.nDigits u : Int) (by omega) (by rw [hal]; omega)]
      go_simp
    have hH0 := Lib.holds_zero0 w 190 (Lib.nDigits u) (by omega)
    have hfmt := Tryz.internal_strconv_formatBase10 w.heap.size 0 24 u (Array.replicate (Lib.nDigits u) 0) (w.alloc (.cells Lib.zeros24 190)) hH0 (by rw [Array.size_replicate]; exact Lib.lt_pow_nDigits u) hu64 (by rw [Array.size_replicate]; omega)
    rw [Array.size_replicate] at hfmt
    have HH0 := Lib.hid hH0
    have HT := Lib.hid htab
    clear hH0 hal htab
    have hs' : ¬ (u : Int) < 100 := by omega
    go_enter Tryz.func123, Tryz.ntmps123
    go_wp2_with (first | (go_at_call 142; refine (Tryz.internal_strconv_numDigits u hu1 hu64 _ (Lib.tabIs_alloc HT.out _)).mono ?_; rintro e w' ⟨rfl, rfl⟩))
    refine hfmt.mono ?_
    rintro e w' ⟨rfl, k, v', dk, rfl, hF⟩
    have hcv : (convert 35 9 (.slice (some ⟨w.heap.size, 0, none⟩) (Lib.nDigits u) 24)).run Tryz.prog ((putRow (fun (b : UInt8) => Value.int .u8 (b.toNat : Int)) (w.alloc (.cells Lib.zeros24 190)) w.heap.size 0 dk).drewN k) = .ok (.string ⟨(Lib.decDigits u).toArray⟩) ((putRow (fun (b : UInt8) => Value.int .u8 (b.toNat : Int)) (w.alloc (.cells Lib.zeros24 190)) w.heap.size 0 dk).drewN k) := by
      have h := run_convert_bytes_back (P := Tryz.prog) ((putRow (fun (b : UInt8) => Value.int .u8 (b.toNat : Int)) (w.alloc (.cells Lib.zeros24 190)) w.heap.size 0 dk).drewN k) 35 9 5 ⟨w.heap.size, 0, none⟩ 24 (Lib.decDigits u) Tryz.underlying35 Tryz.underlying5 Tryz.underlying9 (fun j hj => by
        rw [Lib.row_is_numeral hF j hj, Lib.add_plain, World.cell?_drewN]
        exact cell?_putRow (fun (b : UInt8) => Value.int .u8 (b.toNat : Int)) _ w.heap.size 0 _ dk HH0.out (by rw [hF.size, Array.size_replicate]) j (by rw [hF.size]; rw [Lib.decDigits_length] at hj; exact hj))
      rw [Lib.decDigits_length] at h
      exact h
    have hfin : Below w.heap.size w ((putRow (fun (b : UInt8) => Value.int .u8 (b.toNat : Int)) (w.alloc (.cells Lib.zeros24 190)) w.heap.size 0 dk).drewN k) := by
      rw [alloc_eq_grow]
      obtain ⟨os', _, e⟩ := putRow_grow_new (fun (b : UInt8) => Value.int .u8 (b.toNat : Int)) w #[.cells Lib.zeros24 190] w.heap.size 0 dk (Nat.le_refl _)
      rw [e]
      exact below_grow k os'
    have HF := Lib.hid hfin
    clear hfin hF
    go_wp2
    go_ret
    exact ⟨rfl, HF.out⟩

theorem formatUint_any (u : Nat) (hu64 : u < 18446744073709551616) (w : World) (htab : TabAt w) :
    Calls Tryz.prog 83 #[.int .u64 u, .int .i64 10] w fun e w' => e = .returned (str (Lib.decDigits u)) ∧ Below w.heap.size w w' := by
  have h := formatUint_in u hu64 w htab
  have H := Lib.hid h
  clear h htab
  go_enter Tryz.func83, Tryz.ntmps83
  go_wp2_with (go_at_call 123; refine H.out.mono ?_; rintro e w' ⟨rfl, hb⟩; have HB := Lib.hid hb; clear hb)
  go_ret
  exact ⟨rfl, HB.out⟩

theorem itoa_any (n : Int) (h0 : -9223372036854775808 ≤ n) (h1 : n ≤ 9223372036854775807) (w : World) (htab : TabAt w) :
    Calls Tryz.prog 84 #[.int .i64 n] w fun e w' => e = .returned (str (Lib.itoa n)) ∧ Below w.heap.size w w' :=
  (Tryz.strconv_Itoa n h0 h1 w htab).mono fun _ _ ⟨h, k, os, hw⟩ => ⟨h, hw ▸ below_grow k os⟩
end Go.Proofs.YthgfjafnclklpaaGreatDoor
end
section
namespace Go.Proofs.YthgfjafnclklpaaGreatDoor
attribute [local go_sem ↓] Go.wp_at_zero Go.wp_at_succ
open Go.RowKit

/-- what put tells -/
def PutPost (c : Sp.CmdV) (k : UInt8) (w : World) (e : Ending) (w' : World) : Prop := ∃ t b, e = .returned (.tuple #[str t, .bool b]) ∧ Sp.putV c k = (if b = true then [t] else []) ∧ Below w.heap.size w w'

section
variable {c : Sp.CmdV} {K D M : Option Addr} {kn kc dc mn mc : Nat} {w : World}

set_option maxHeartbeats 4000000 in
set_option maxRecDepth 100000 in
theorem put_F (hf : CmdFit c) (ht : TabAt w) (hg : Glob w) :
    Calls Tryz.prog 44 #[cmdV c (.slice K kn kc) (.slice D c.data.length dc) (.slice M mn mc), .int .u8 70] w (PutPost c 70 w) := by
  have hb0 : Below w.heap.size w (w.alloc (.cells (cmdArr c (.slice K kn kc) (.slice D c.data.length dc) (.slice M mn mc)) 38)) := (Below.refl _ _).alloc (Nat.le_refl _) _
  have HB0 := Lib.hid hb0
  have hc := formatUint_any c.flags hf.flags (w.alloc (.cells (cmdArr c (.slice K kn kc) (.slice D c.data.length dc) (.slice M mn mc)) 38)) (ht.later hg hb0)
  have hp : Sp.putV c 70 = [Lib.decDigits c.flags] := rfl
  have hfin : ∀ w', Below (w.alloc (.cells (cmdArr c (.slice K kn kc) (.slice D c.data.length dc) (.slice M mn mc)) 38)).heap.size (w.alloc (.cells (cmdArr c (.slice K kn kc) (.slice D c.data.length dc) (.slice M mn mc)) 38)) w' →
      PutPost c 70 w (.returned (.tuple #[str (Lib.decDigits c.flags), .bool true])) w' := fun w' hb => ⟨_, _, rfl, by rw [hp]; rfl, HB0.out.trans (hb.mono HB0.out.size)⟩
  generalize PutPost c 70 w = R at hfin ⊢
  have HC := Lib.hid hc
  have HF := Lib.hid hfin
  clear hc hfin hp hf ht hg hb0 HB0
  go_enter Tryz.func44, Tryz.ntmps44
  go_wp2_with (refine HC.out.mono ?_; rintro e w1 ⟨rfl, hb1⟩; have HB1 := Lib.hid hb1; clear hb1)
  exact HF.out _ HB1.out

set_option maxHeartbeats 4000000 in
set_option maxRecDepth 100000 in
theorem put_C (hf : CmdFit c) (ht : TabAt w) (hg : Glob w) :
    Calls Tryz.prog 44 #[cmdV c (.slice K kn kc) (.slice D c.data.length dc) (.slice M mn mc), .int .u8 67] w (PutPost c 67 w) := by
  have hb0 : Below w.heap.size w (w.alloc (.cells (cmdArr c (.slice K kn kc) (.slice D c.data.length dc) (.slice M mn mc)) 38)) := (Below.refl _ _).alloc (Nat.le_refl _) _
  have HB0 := Lib.hid hb0
  have hc := formatUint_any c.token hf.token (w.alloc (.cells (cmdArr c (.slice K kn kc) (.slice D c.data.length dc) (.slice M mn mc)) 38)) (ht.later hg hb0)
  have hp : Sp.putV c 67 = [Lib.decDigits c.token] := rfl
  have hfin : ∀ w', Below (w.alloc (.cells (cmdArr c (.slice K kn kc) (.slice D c.data.length dc) (.slice M mn mc)) 38)).heap.size (w.alloc (.cells (cmdArr c (.slice K kn kc) (.slice D c.data.length dc) (.slice M mn mc)) 38)) w' →
      PutPost c 67 w (.returned (.tuple #[str (Lib.decDigits c.token), .bool true])) w' := fun w' hb => ⟨_, _, rfl, by rw [hp]; rfl, HB0.out.trans (hb.mono HB0.out.size)⟩
  generalize PutPost c 67 w = R at hfin ⊢
  have HC := Lib.hid hc
  have HF := Lib.hid hfin
  clear hc hfin hp hf ht hg hb0 HB0
  go_enter Tryz.func44, Tryz.ntmps44
  go_wp2_with (refine HC.out.mono ?_; rintro e w1 ⟨rfl, hb1⟩; have HB1 := Lib.hid hb1; clear hb1)
  exact HF.out _ HB1.out

set_option maxHeartbeats 4000000 in
set_option maxRecDepth 100000 in
theorem put_D (hf : CmdFit c) (ht : TabAt w) (hg : Glob w) :
    Calls Tryz.prog 44 #[cmdV c (.slice K kn kc) (.slice D c.data.length dc) (.slice M mn mc), .int .u8 68] w (PutPost c 68 w) := by
  have hb0 : Below w.heap.size w (w.alloc (.cells (cmdArr c (.slice K kn kc) (.slice D c.data.length dc) (.slice M mn mc)) 38)) := (Below.refl _ _).alloc (Nat.le_refl _) _
  have HB0 := Lib.hid hb0
  have hc := formatUint_any c.delta hf.delta (w.alloc (.cells (cmdArr c (.slice K kn kc) (.slice D c.data.length dc) (.slice M mn mc)) 38)) (ht.later hg hb0)
  have hp : Sp.putV c 68 = [Lib.decDigits c.delta] := rfl
  have hfin : ∀ w', Below (w.alloc (.cells (cmdArr c (.slice K kn kc) (.slice D c.data.length dc) (.slice M mn mc)) 38)).heap.size (w.alloc (.cells (cmdArr c (.slice K kn kc) (.slice D c.data.length dc) (.slice M mn mc)) 38)) w' →
      PutPost c 68 w (.returned (.tuple #[str (Lib.decDigits c.delta), .bool true])) w' := fun w' hb => ⟨_, _, rfl, by rw [hp]; rfl, HB0.out.trans (hb.mono HB0.out.size)⟩
  generalize PutPost c 68 w = R at hfin ⊢
  have HC := Lib.hid hc
  have HF := Lib.hid hfin
  clear hc hfin hp hf ht hg hb0 HB0
  go_enter Tryz.func44, Tryz.ntmps44
  go_wp2_with (refine HC.out.mono ?_; rintro e w1 ⟨rfl, hb1⟩; have HB1 := Lib.hid hb1; clear hb1)
  exact HF.out _ HB1.out

set_option maxHeartbeats 4000000 in
set_option maxRecDepth 100000 in
theorem put_T (hf : CmdFit c) (ht : TabAt w) (hg : Glob w) :
    Calls Tryz.prog 44 #[cmdV c (.slice K kn kc) (.slice D c.data.length dc) (.slice M mn mc), .int .u8 84] w (PutPost c 84 w) := by
  have hb0 : Below w.heap.size w (w.alloc (.cells (cmdArr c (.slice K kn kc) (.slice D c.data.length dc) (.slice M mn mc)) 38)) := (Below.refl _ _).alloc (Nat.le_refl _) _
  have HB0 := Lib.hid hb0
  have hc := itoa_any c.exptime hf.time.1 hf.time.2 (w.alloc (.cells (cmdArr c (.slice K kn kc) (.slice D c.data.length dc) (.slice M mn mc)) 38)) (ht.later hg hb0)
  have hp : Sp.putV c 84 = [Lib.itoa c.exptime] := rfl
  have hfin : ∀ w', Below (w.alloc (.cells (cmdArr c (.slice K kn kc) (.slice D c.data.length dc) (.slice M mn mc)) 38)).heap.size (w.alloc (.cells (cmdArr c (.slice K kn kc) (.slice D c.data.length dc) (.slice M mn mc)) 38)) w' →
      PutPost c 84 w (.returned (.tuple #[str (Lib.itoa c.exptime), .bool true])) w' := fun w' hb => ⟨_, _, rfl, by rw [hp]; rfl, HB0.out.trans (hb.mono HB0.out.size)⟩
  generalize PutPost c 84 w = R at hfin ⊢
  have HC := Lib.hid hc
  have HF := Lib.hid hfin
  clear hc hfin hp hf ht hg hb0 HB0
  go_enter Tryz.func44, Tryz.ntmps44
  go_wp2_with (refine HC.out.mono ?_; rintro e w1 ⟨rfl, hb1⟩; have HB1 := Lib.hid hb1; clear hb1)
  exact HF.out _ HB1.out

set_option maxHeartbeats 4000000 in
set_option maxRecDepth 100000 in
theorem put_N (hf : CmdFit c) (ht : TabAt w) (hg : Glob w) :
    Calls Tryz.prog 44 #[cmdV c (.slice K kn kc) (.slice D c.data.length dc) (.slice M mn mc), .int .u8 78] w (PutPost c 78 w) := by
  have hb0 : Below w.heap.size w (w.alloc (.cells (cmdArr c (.slice K kn kc) (.slice D c.data.length dc) (.slice M mn mc)) 38)) := (Below.refl _ _).alloc (Nat.le_refl _) _
  have HB0 := Lib.hid hb0
  have hc := itoa_any (c.data.length : Int) (by omega) (by have := hf.data; omega) (w.alloc (.cells (cmdArr c (.slice K kn kc) (.slice D c.data.length dc) (.slice M mn mc)) 38)) (ht.later hg hb0)
  have hp : Sp.putV c 78 = [Lib.itoa (c.data.length : Int)] := by rw [Lib.itoa_nonneg]; rfl
  have hfin : ∀ w', Below (w.alloc (.cells (cmdArr c (.slice K kn kc) (.slice D c.data.length dc) (.slice M mn mc)) 38)).heap.size (w.alloc (.cells (cmdArr c (.slice K kn kc) (.slice D c.data.length dc) (.slice M mn mc)) 38)) w' →
      PutPost c 78 w (.returned (.tuple #[str (Lib.itoa (c.data.length : Int)), .bool true])) w' := fun w' hb => ⟨_, _, rfl, by rw [hp]; rfl, HB0.out.trans (hb.mono HB0.out.size)⟩
  generalize PutPost c 78 w = R at hfin ⊢
  have HC := Lib.hid hc
  have HF := Lib.hid hfin
  clear hc hfin hp hf ht hg hb0 HB0
  go_enter Tryz.func44, Tryz.ntmps44
  go_wp2_with (refine HC.out.mono ?_; rintro e w1 ⟨rfl, hb1⟩; have HB1 := Lib.hid hb1; clear hb1)
  exact HF.out _ HB1.out

set_option maxHeartbeats 4000000 in
set_option maxRecDepth 100000 in
theorem put_V :
    Calls Tryz.prog 44 #[cmdV c (.slice K kn kc) (.slice D c.data.length dc) (.slice M mn mc), .int .u8 86] w (PutPost c 86 w) := by
  have hb0 : Below w.heap.size w (w.alloc (.cells (cmdArr c (.slice K kn kc) (.slice D c.data.length dc) (.slice M mn mc)) 38)) := (Below.refl _ _).alloc (Nat.le_refl _) _
  have HB0 := Lib.hid hb0
  have hfin : PutPost c 86 w (.returned (.tuple #[str [49], .bool true])) (w.alloc (.cells (cmdArr c (.slice K kn kc) (.slice D c.data.length dc) (.slice M mn mc)) 38)) := ⟨_, _, rfl, rfl, hb0⟩
  generalize PutPost c 86 w = R at hfin ⊢
  have HF := Lib.hid hfin
  clear hfin hb0 HB0
  go_enter Tryz.func44, Tryz.ntmps44
  go_wp2
  exact HF.out

set_option maxHeartbeats 4000000 in
set_option maxRecDepth 100000 in
theorem put_0 :
    Calls Tryz.prog 44 #[cmdV c (.slice K kn kc) (.slice D c.data.length dc) (.slice M mn mc), .int .u8 48] w (PutPost c 48 w) := by
  have hb0 : Below w.heap.size w (w.alloc (.cells (cmdArr c (.slice K kn kc) (.slice D c.data.length dc) (.slice M mn mc)) 38)) := (Below.refl _ _).alloc (Nat.le_refl _) _
  have HB0 := Lib.hid hb0
  have hfin : PutPost c 48 w (.returned (.tuple #[str [], .bool false])) (w.alloc (.cells (cmdArr c (.slice K kn kc) (.slice D c.data.length dc) (.slice M mn mc)) 38)) := ⟨_, _, rfl, rfl, hb0⟩
  generalize PutPost c 48 w = R at hfin ⊢
  have HF := Lib.hid hfin
  clear hfin hb0 HB0
  go_enter Tryz.func44, Tryz.ntmps44
  go_wp2
  exact HF.out

set_option maxHeartbeats 4000000 in
set_option maxRecDepth 100000 in
theorem put_S (hf : CmdFit c) (ht : TabAt w) (hg : Glob w) :
    Calls Tryz.prog 44 #[cmdV c (.slice K kn kc) (.slice D c.data.length dc) (.slice M mn mc), .int .u8 83] w (PutPost c 83 w) := by
  have hb0 : Below w.heap.size w (w.alloc (.cells (cmdArr c (.slice K kn kc) (.slice D c.data.length dc) (.slice M mn mc)) 38)) := (Below.refl _ _).alloc (Nat.le_refl _) _
  have hbl := Blk.new w 38 (cmdArr c (.slice K kn kc) (.slice D c.data.length dc) (.slice M mn mc))
  have hc := fun (W : World) (hb : Below w.heap.size w W) => itoa_any c.exptime hf.time.1 hf.time.2 W (ht.later hg hb)
  have hp : Sp.putV c 83 = (if c.exptime = 0 then [] else [Lib.itoa c.exptime]) := rfl
  have hfin : ∀ w', Below w.heap.size w w' → PutPost c 83 w (.returned (.tuple #[str (Lib.itoa c.exptime), .bool (c.exptime != 0)])) w' := fun w' hb => ⟨_, _, rfl, by rw [hp]; by_cases h : c.exptime = 0 <;> simp [h], hb⟩
  generalize PutPost c 83 w = R at hfin ⊢
  have hlt : w.heap.size < (w.alloc (.cells (cmdArr c (.slice K kn kc) (.slice D c.data.length dc) (.slice M mn mc)) 38)).heap.size := by simp
  have x3 : (w.alloc (.cells (cmdArr c (.slice K kn kc) (.slice D c.data.length dc) (.slice M mn mc)) 38)).cell? ⟨w.heap.size, 3, none⟩ = some (.int .i64 c.exptime) := hbl.cell 3
  have HC := Lib.hid hc
  have HF := Lib.hid hfin
  have HB0 := Lib.hid hb0
  have HX := Lib.hid x3
  have HLT := Lib.hid hlt
  clear hc hfin hp hf ht hg hb0 hbl x3 hlt
  go_enter Tryz.func44, Tryz.ntmps44
  go_wp2_with fail
  go_region_held3 (fun w' => w'.cell? ⟨w.heap.size, 3, none⟩ = some (.int .i64 c.exptime)) (first | exact HX.out | exact y3 | go_keep) ((go_at_call 84; refine (HC.out _ (HB0.out.drew)).mono ?_; rintro e w2 ⟨rfl, hb2⟩; have y3 := (hb2.cell (p := ⟨w.heap.size, 3, none⟩) HLT.out).trans HX.out; have HB2 := Lib.hid hb2; clear hb2))
  all_goals
    go_wp2_with fail
    exact HF.out _ (HB0.out.drew.trans (HB2.out.mono HB0.out.size))

set_option maxHeartbeats 4000000 in
set_option maxRecDepth 100000 in
theorem put_W :
    Calls Tryz.prog 44 #[cmdV c (.slice K kn kc) (.slice D c.data.length dc) (.slice M mn mc), .int .u8 87] w (PutPost c 87 w) := by
  have hb0 : Below w.heap.size w (w.alloc (.cells (cmdArr c (.slice K kn kc) (.slice D c.data.length dc) (.slice M mn mc)) 38)) := (Below.refl _ _).alloc (Nat.le_refl _) _
  have hp : Sp.putV c 87 = (if c.what = [] then [] else [c.what]) := rfl
  have hfin : ∀ w', Below w.heap.size w w' → PutPost c 87 w (.returned (.tuple #[str c.what, .bool (!c.what.isEmpty)])) w' := fun w' hb => ⟨_, _, rfl, by rw [hp]; cases c.what <;> simp, hb⟩
  generalize PutPost c 87 w = R at hfin ⊢
  have HF := Lib.hid hfin
  have HB0 := Lib.hid hb0
  clear hfin hp hb0
  go_enter Tryz.func44, Tryz.ntmps44
  go_wp2_with fail
  go_quiet (fail)
  go_wp2_with fail
  exact HF.out _ (below_drewN' HB0.out _)

/-- put at a place of a row that is no K and no G -/
theorem put_any (hf : CmdFit c) (ht : TabAt w) (hg : Glob w) {k : UInt8} (hk : k ∈ ([70, 84, 78, 67, 48, 68, 83, 86, 87] : Sp.Bs)) :
    Calls Tryz.prog 44 #[cmdV c (.slice K kn kc) (.slice D c.data.length dc) (.slice M mn mc), .int .u8 k.toNat] w (PutPost c k w) := by
  simp only [List.mem_cons, List.not_mem_nil, or_false] at hk
  rcases hk with rfl | rfl | rfl | rfl | rfl | rfl | rfl | rfl | rfl
  · exact put_F hf ht hg
  · exact put_T hf ht hg
  · exact put_N hf ht hg
  · exact put_C hf ht hg
  · exact put_0
  · exact put_D hf ht hg
  · exact put_S hf ht hg
  · exact put_V
  · exact put_W
end
end Go.Proofs.YthgfjafnclklpaaGreatDoor
end
section
namespace Go.Proofs.YthgfjafnclklpaaGreatDoor
attribute [local go_sem ↓] Go.wp_at_zero Go.wp_at_succ
open Go.RowKit

set_option maxHeartbeats 4000000 in
set_option maxRecDepth 100000 in
theorem eqTexts_same {w : World} {A B : Option Addr} {ca cb : Nat} {l : List Sp.Bs} (hl : l.length ≤ 1000000000) (hA : RowAt w A (l.map str)) (hB : RowAt w B (l.map str)) :
    Calls Tryz.prog 88 #[.slice A l.length ca, .slice B l.length cb] w fun e w' => e = .returned (.bool true) ∧ Below w.heap.size w w' := by
  generalize hR : (fun (e : Ending) (w' : World) => e = .returned (.bool true) ∧ Below w.heap.size w w') = R
  have HR := Lib.hid hR
  have HA := Lib.hid hA
  have HB := Lib.hid hB
  clear hR hA hB
  go_enter Tryz.func88, Tryz.ntmps88
  go_wp2_with fail
  go_loopw [13] (fun i wx => ∃ k : Nat, k ≤ l.length ∧ i = .int .i64 k ∧ Below w.heap.size w wx) (fun i _ => l.length - (intOf i).toNat)
  case atStart => exact ⟨0, by omega, rfl, Below.refl _ _⟩
  case round =>
    obtain ⟨k, hk, rfl, hb⟩ := hrel
    by_cases hlt : k < l.length
    · obtain ⟨x, hx⟩ : ∃ x, l[k]? = some x := ⟨l[k], by simp [hlt]⟩
      obtain ⟨ga, oa, hAe, ya⟩ : ∃ g o, A = some ⟨g, o, none⟩ ∧ wr.cell? ⟨g, o + k, none⟩ = some (str x) := by
        rcases HA.out.below hb with h0 | ⟨g, o, h1, _, h3⟩
        · have : l = [] := by simpa using h0
          rw [this] at hlt; simp at hlt
        · exact ⟨g, o, h1, h3 _ _ (by simp [hx])⟩
      obtain ⟨gb, ob, hBe, yb⟩ : ∃ g o, B = some ⟨g, o, none⟩ ∧ wr.cell? ⟨g, o + k, none⟩ = some (str x) := by
        rcases HB.out.below hb with h0 | ⟨g, o, h1, _, h3⟩
        · have : l = [] := by simpa using h0
          rw [this] at hlt; simp at hlt
        · exact ⟨g, o, h1, h3 _ _ (by simp [hx])⟩
      subst hAe; subst hBe
      have HBX := Lib.hid hb
      clear hb hx
      go_wp2_with fail
      go_quiet (fail)
      go_wp2_with fail
      exact ⟨⟨k + 1, by omega, by go_num, below_drewN' HBX.out _⟩, by show l.length - ((k : Int) + 1).toNat < l.length - (k : Int).toNat; omega⟩
    · have HBX := Lib.hid hb
      clear hb
      go_wp2_with fail
      rw [← HR.out]
      exact ⟨rfl, HBX.out⟩

set_option maxHeartbeats 4000000 in
set_option maxRecDepth 100000 in
theorem eqFlags_same {w : World} {A B : Option Addr} {ca cb : Nat} {l : List Sp.FlagV} (hl : l.length ≤ 1000000000) (hA : RowAt w A (flagsCells l)) (hB : RowAt w B (flagsCells l)) :
    Calls Tryz.prog 90 #[.slice A l.length ca, .slice B l.length cb] w fun e w' => e = .returned (.bool true) ∧ Below w.heap.size w w' := by
  generalize hR : (fun (e : Ending) (w' : World) => e = .returned (.bool true) ∧ Below w.heap.size w w') = R
  have HR := Lib.hid hR
  have HA := Lib.hid hA
  have HB := Lib.hid hB
  clear hR hA hB
  go_enter Tryz.func90, Tryz.ntmps90
  go_wp2_with fail
  go_loopw [13] (fun i wx => ∃ k : Nat, k ≤ l.length ∧ i = .int .i64 k ∧ Below w.heap.size w wx) (fun i _ => l.length - (intOf i).toNat)
  case atStart => exact ⟨0, by omega, rfl, Below.refl _ _⟩
  case round =>
    obtain ⟨k, hk, rfl, hb⟩ := hrel
    by_cases hlt : k < l.length
    · obtain ⟨x, hx⟩ : ∃ x, l[k]? = some x := ⟨l[k], by simp [hlt]⟩
      obtain ⟨ga, oa, hAe, _, ya0, ya1, ya2⟩ := (HA.out.below hb).flag hx
      obtain ⟨gb, ob, hBe, _, yb0, yb1, yb2⟩ := (HB.out.below hb).flag hx
      subst hAe; subst hBe
      have HBX := Lib.hid hb
      clear hb hx
      go_wp2_with fail
      go_quiet (fail)
      go_wp2_with fail
      exact ⟨⟨k + 1, by omega, by go_num, below_drewN' HBX.out _⟩, by show l.length - ((k : Int) + 1).toNat < l.length - (k : Int).toNat; omega⟩
    · have HBX := Lib.hid hb
      clear hb
      go_wp2_with fail
      rw [← HR.out]
      exact ⟨rfl, HBX.out⟩

set_option maxHeartbeats 8000000 in
set_option maxRecDepth 100000 in
theorem same_yes {w : World} {c : Sp.CmdV} {k1 d1 m1 k2 d2 m2 : Value} (h1 : CmdAt w c k1 d1 m1) (h2 : CmdAt w c k2 d2 m2) (hf : CmdFit c) :
    Calls Tryz.prog 46 #[cmdV c k1 d1 m1, cmdV c k2 d2 m2] w fun e w' => e = .returned (.bool true) ∧ Below w.heap.size w w' := by
  generalize hR : (fun (e : Ending) (w' : World) => e = .returned (.bool true) ∧ Below w.heap.size w w') = R
  have hb0 : Below w.heap.size w ((w.alloc (.cells (cmdArr c k1 d1 m1) 38)).alloc (.cells (cmdArr c k2 d2 m2) 38)) :=
    ((Below.refl _ _).alloc (Nat.le_refl _) _).alloc (by simp) _
  have hbx1 : Blk ((w.alloc (.cells (cmdArr c k1 d1 m1) 38)).alloc (.cells (cmdArr c k2 d2 m2) 38)) w.heap.size 38 (cmdArr c k1 d1 m1) := (Blk.new _ _ _).alloc _
  have hbx2 := Blk.new (w.alloc (.cells (cmdArr c k1 d1 m1) 38)) 38 (cmdArr c k2 d2 m2)
  rw [show (w.alloc (.cells (cmdArr c k1 d1 m1) 38)).heap.size = w.heap.size + 1 from by simp] at hbx2
  obtain ⟨⟨A1, a1, rfl, r1⟩, ⟨B1, b1, rfl, s1⟩, ⟨C1, c1, rfl, t1⟩⟩ := h1
  obtain ⟨⟨A2, a2, rfl, r2⟩, ⟨B2, b2, rfl, s2⟩, ⟨C2, c2, rfl, t2⟩⟩ := h2
  have hkl := hf.keys
  have hml := hf.metas
  have hq1 := fun (W : World) (hb : Below w.heap.size w W) => eqTexts_same (w := W) (ca := a1) (cb := a2) (l := c.keys) (by omega) (r1.below hb) (r2.below hb)
  have hq3 := fun (W : World) (hb : Below w.heap.size w W) => eqFlags_same (w := W) (ca := c1) (cb := c2) (l := c.metas) (by omega) (t1.below hb) (t2.below hb)
  have hq2 := fun (W : World) (hb : Below w.heap.size w W) => (Tryz.bytes_Equal_all B1 B2 c.data.length b1 c.data.length b2 (numsOf c.data) (numsOf c.data) W (numsOf_length _) (numsOf_length _) (bytesIn_row (s1.below hb)) (bytesIn_row (s2.below hb))).mono (R' := fun e w' => e = .returned (.bool true) ∧ W = w') fun e w' ⟨g1, g2⟩ => ⟨by rw [g1]; simp, g2.symm⟩
  have hwt : (c.what == c.what) = true := by simp
  have HR := Lib.hid hR
  have HB0 := Lib.hid hb0
  have HQ1 := Lib.hid hq1
  have HQ2 := Lib.hid hq2
  have HQ3 := Lib.hid hq3
  have HBX1 := Lib.hid hbx1
  have HBX2 := Lib.hid hbx2
  clear hR hb0 hq1 hq2 hq3 hbx1 hbx2 r1 r2 s1 s2 t1 t2 hf hkl hml
  go_enter Tryz.func46, Tryz.ntmps46
  go_wp2_with (first | (go_at_call 88; refine (HQ1.out _ HB0.out).mono ?_; rintro e w1 ⟨rfl, hb1⟩; have hbw := HB0.out.trans (hb1.mono HB0.out.size); have hx1 := HBX1.out.later hb1; have hx2 := HBX2.out.later hb1; clear hb1; have x0 : _ = some (Value.int .i64 c.verb) := (hx1).cell 0; have x1 : _ = some (Value.slice A1 c.keys.length a1) := (hx1).cell 1; have x2 : _ = some (Value.int .u64 c.flags) := (hx1).cell 2; have x3 : _ = some (Value.int .i64 c.exptime) := (hx1).cell 3; have x4 : _ = some (Value.int .u64 c.token) := (hx1).cell 4; have x5 : _ = some (Value.int .u64 c.delta) := (hx1).cell 5; have x6 : _ = some (Value.slice B1 c.data.length b1) := (hx1).cell 6; have x7 : _ = some (Value.bool c.noreply) := (hx1).cell 7; have x8 : _ = some (Value.bool c.large) := (hx1).cell 8; have x9 : _ = some (Value.slice C1 c.metas.length c1) := (hx1).cell 9; have x10 : _ = some (str c.what) := (hx1).cell 10; have y0 : _ = some (Value.int .i64 c.verb) := (hx2).cell 0; have y1 : _ = some (Value.slice A2 c.keys.length a2) := (hx2).cell 1; have y2 : _ = some (Value.int .u64 c.flags) := (hx2).cell 2; have y3 : _ = some (Value.int .i64 c.exptime) := (hx2).cell 3; have y4 : _ = some (Value.int .u64 c.token) := (hx2).cell 4; have y5 : _ = some (Value.int .u64 c.delta) := (hx2).cell 5; have y6 : _ = some (Value.slice B2 c.data.length b2) := (hx2).cell 6; have y7 : _ = some (Value.bool c.noreply) := (hx2).cell 7; have y8 : _ = some (Value.bool c.large) := (hx2).cell 8; have y9 : _ = some (Value.slice C2 c.metas.length c2) := (hx2).cell 9; have y10 : _ = some (str c.what) := (hx2).cell 10; have HB1 := Lib.hid hbw; have HX1 := Lib.hid hx1; have HX2 := Lib.hid hx2; clear hbw hx1 hx2) | (go_at_call 89; refine (HQ2.out _ HB1.out).mono ?_; rintro e w' ⟨rfl, rfl⟩) | (go_at_call 90; refine (HQ3.out _ HB1.out).mono ?_; rintro e w3 ⟨rfl, hb3⟩; have hbw := HB1.out.trans (hb3.mono HB1.out.size); have hx1 := HX1.out.later hb3; have hx2 := HX2.out.later hb3; clear hb3; have p0 : _ = some (Value.int .i64 c.verb) := (hx1).cell 0; have p1 : _ = some (Value.slice A1 c.keys.length a1) := (hx1).cell 1; have p2 : _ = some (Value.int .u64 c.flags) := (hx1).cell 2; have p3 : _ = some (Value.int .i64 c.exptime) := (hx1).cell 3; have p4 : _ = some (Value.int .u64 c.token) := (hx1).cell 4; have p5 : _ = some (Value.int .u64 c.delta) := (hx1).cell 5; have p6 : _ = some (Value.slice B1 c.data.length b1) := (hx1).cell 6; have p7 : _ = some (Value.bool c.noreply) := (hx1).cell 7; have p8 : _ = some (Value.bool c.large) := (hx1).cell 8; have p9 : _ = some (Value.slice C1 c.metas.length c1) := (hx1).cell 9; have p10 : _ = some (str c.what) := (hx1).cell 10; have q0 : _ = some (Value.int .i64 c.verb) := (hx2).cell 0; have q1 : _ = some (Value.slice A2 c.keys.length a2) := (hx2).cell 1; have q2 : _ = some (Value.int .u64 c.flags) := (hx2).cell 2; have q3 : _ = some (Value.int .i64 c.exptime) := (hx2).cell 3; have q4 : _ = some (Value.int .u64 c.token) := (hx2).cell 4; have q5 : _ = some (Value.int .u64 c.delta) := (hx2).cell 5; have q6 : _ = some (Value.slice B2 c.data.length b2) := (hx2).cell 6; have q7 : _ = some (Value.bool c.noreply) := (hx2).cell 7; have q8 : _ = some (Value.bool c.large) := (hx2).cell 8; have q9 : _ = some (Value.slice C2 c.metas.length c2) := (hx2).cell 9; have q10 : _ = some (str c.what) := (hx2).cell 10; have HB3 := Lib.hid hbw; clear hbw hx1 hx2))
  all_goals (rw [← HR.out]; exact ⟨rfl, HB3.out⟩)
end Go.Proofs.YthgfjafnclklpaaGreatDoor
end
section
namespace Go.Proofs.YthgfjafnclklpaaGreatDoor
open Go.RowKit

/-- a step of an iterator that lies anywhere, over a map that is not written -/
theorem run_next_at {P : Program} {w : World} {bm r since c0 clock : Nat} {seen : Array Nat} {es : Array MapEntry} (hb : w.heap[bm]? = some (.map es clock)) (hr : w.heap[r]? = some (.mapIter (some bm) since seen c0))
    (hold : ∀ x ∈ es.toList, x.born < since) (hsc : since ≤ c0) (ty : TypeId) :
    ((leftOf es seen).size = 0 ∧ (Instr.next (.pointer (some ⟨r, 0, none⟩)) false ty).run P w = .ok (.tuple #[.bool false]) w) ∨
    ∃ e ∈ (leftOf es seen).toList, ∃ n : Nat, (Instr.next (.pointer (some ⟨r, 0, none⟩)) false ty).run P w = .ok (.tuple #[.bool true, e.key, e.val]) { w.drewN n with heap := w.heap.setIfInBounds r (.mapIter (some bm) since (seen.push e.born) clock) } := by
  simp only [Instr.next, getObj, Sem.run_bind, Sem.run, hr, hb, Result.andThen, next_test_false seen es since c0 hold hsc, Bool.false_eq_true, if_false]
  unfold leftOf
  have hmem : ∀ x ∈ (Array.filter (fun e => !seen.contains e.born) es).toList, x.born < since := fun x hx => hold x (by simp at hx ⊢; exact hx.1)
  generalize Array.filter (fun e => !seen.contains e.born) es = L at hmem ⊢
  have e1 : L.filter (fun x => decide (x.born < since)) = L := Array.filter_eq_self.2 (fun x hx => by simpa using hmem x (by simpa using hx))
  have e2 : L.filter (fun x => decide (x.born ≥ since)) = #[] := by
    rw [Array.filter_eq_empty_iff]
    intro x hx
    have := hmem x (by simpa using hx)
    simp
    omega
  simp only [e1, e2, Array.append_empty]
  by_cases h0 : L.size = 0
  · refine .inl ⟨h0, ?_⟩
    obtain rfl : L = #[] := Array.eq_empty_of_size_eq_zero h0
    simp [choose, Sem.run, Question.forced]
  · right
    have hne : L.isEmpty = false := by simp [Array.isEmpty, h0]
    simp only [hne, Bool.false_eq_true, if_false, Array.empty_append, Array.size_map]
    have hch : ∃ (j n : Nat), j < L.size ∧ (choose (Question.mapNext L.size)).run P w = .ok j (w.drewN n) := by
      by_cases hf : L.size ≤ 1
      · exact ⟨0, 0, by omega, by simp [choose, Sem.run, Question.forced, hf, World.drewN_zero]⟩
      · exact ⟨_, 1, Nat.mod_lt _ (by omega), by
          simp only [choose, Sem.run, Question.forced, decide_eq_true_eq, hf, if_false, Question.cut]
          rfl⟩
    obtain ⟨j, n, hj, hrun⟩ := hch
    refine ⟨L[j], by simp, n, ?_⟩
    have hrl : (w.drewN n).heap[r]? = some (.mapIter (some bm) since seen c0) := hr
    simp only [hrun, Array.getElem?_map, Array.getElem?_eq_getElem hj, Option.map_some, Sem.run_bind, Result.andThen, setObj, Sem.run, hrl]
    rfl
/-- the round's key and element, behind that step -/
theorem run_entry_at {P : Program} {w : World} {bm r since clock : Nat} {seen : Array Nat} {es : Array MapEntry} {e : MapEntry} (hb : w.heap[bm]? = some (.map es clock)) (hr : w.heap[r]? = some (.mapIter (some bm) since (seen.push e.born) clock))
    (he : e ∈ es.toList) (hn : (es.toList.map (·.born)).Nodup) : (Instr.entry (.pointer (some ⟨r, 0, none⟩))).run P w = .ok (.tuple #[e.key, e.val]) w := by
  have hf : es.find? (·.born == e.born) = some e := by rw [← Array.find?_toList]; exact find_born e es.toList hn he
  simp only [Instr.entry, getObj, Sem.run_bind, Sem.run, hr, hb, Result.andThen, Array.back?_push, bne_self_eq_false, Bool.false_eq_true, if_false, hf]
  rfl

theorem ents_mem {α : Type} (val : α → Value) : ∀ (l : List (List UInt8 × α)) (n : Nat) (e : MapEntry), e ∈ ents val n l → ∃ i x, l[i]? = some x ∧ e = { key := .string ⟨x.1.toArray⟩, val := val x.2, born := n + i }
  | [], _, _, h => by cases h
  | x :: t, n, e, h => by
    rcases List.mem_cons.1 h with rfl | h
    · exact ⟨0, x, rfl, rfl⟩
    · obtain ⟨i, y, h1, h2⟩ := ents_mem val t (n + 1) e h
      exact ⟨i + 1, y, by simpa using h1, by rw [h2]; congr 1; omega⟩
theorem ents_at {α : Type} (val : α → Value) : ∀ (l : List (List UInt8 × α)) (n i : Nat) (x : List UInt8 × α), l[i]? = some x → { key := .string ⟨x.1.toArray⟩, val := val x.2, born := n + i } ∈ ents val n l
  | [], _, i, x, h => by simp at h
  | y :: t, n, 0, x, h => by
    simp at h
    subst h
    exact List.mem_cons_self
  | y :: t, n, i + 1, x, h => by
    have := ents_at val t (n + 1) i x (by simpa using h)
    rw [show n + 1 + i = n + (i + 1) by omega] at this
    exact List.mem_cons_of_mem _ this
theorem ents_born {α : Type} (val : α → Value) : ∀ (l : List (List UInt8 × α)) (n : Nat), (ents val n l).map (·.born) = List.range' n l.length
  | [], _ => rfl
  | x :: t, n => by
    rw [ents, List.map_cons, ents_born val t (n + 1)]
    rfl

/-- where name's loop stands: of the rows seen so far none is the verb's -/
structure NameMid (w : World) (b r n0 : Nat) (v : Nat) (wr : World) : Prop where
  iter : ∃ seen : Array Nat, wr.heap[r]? = some (.mapIter (some b) 24 seen 24) ∧ ∀ (i : Nat) (x : Sp.Bs × Sp.RowV), Sp.tab[i]? = some x → seen.contains i = true → x.2.verb ≠ v
  map : HoldsTab wr b rowVal Sp.tab
  res : Blk wr n0 90 #[.int .i64 0, str [], .int .i64 0, .bool false, .bool false, .bool false]
  below : Below w.heap.size w wr

theorem ents_old : ∀ x ∈ (ents rowVal 0 Sp.tab).toArray.toList, x.born < 24 := by
  intro x hx
  obtain ⟨i, y, h1, rfl⟩ := ents_mem rowVal Sp.tab 0 x (by simpa using hx)
  have := (List.getElem?_eq_some_iff.1 h1).1
  have e : Sp.tab.length = 24 := rfl
  show 0 + i < 24
  omega
theorem ents_nodup : ((ents rowVal 0 Sp.tab).toArray.toList.map (·.born)).Nodup := by
  rw [show (ents rowVal 0 Sp.tab).toArray.toList = ents rowVal 0 Sp.tab by simp, ents_born]
  exact List.nodup_range'

theorem NameMid.start {w w2 : World} {b n0 v : Nat} (hm : HoldsTab w2 b rowVal Sp.tab) (hr : Blk w2 n0 90 #[.int .i64 0, str [], .int .i64 0, .bool false, .bool false, .bool false]) (hb : Below w.heap.size w w2) :
    NameMid w b w2.heap.size n0 v (w2.alloc (.mapIter (some b) 24 #[] 24)) :=
  ⟨⟨#[], heap_alloc_new w2 _, fun i x _ h => by simp at h⟩, hm.same (Below.heap_alloc w2 _ b hm.lt), hr.alloc _, hb.alloc hb.size _⟩

theorem NameMid.next {w wr : World} {b r n0 v : Nat} (h : NameMid w b r n0 v wr) (hr : w.heap.size ≤ r) (h1 : 1 ≤ v) (h2 : v ≤ 24) :
    ∃ (i : Nat) (x : Sp.Bs × Sp.RowV) (w5 : World), Sp.tab[i]? = some x ∧ (∀ ty, (Instr.next (.pointer (some ⟨r, 0, none⟩)) false ty).run Tryz.prog wr = .ok (.tuple #[.bool true, str x.1, rowVal x.2]) w5) ∧
      (Instr.entry (.pointer (some ⟨r, 0, none⟩))).run Tryz.prog w5 = .ok (.tuple #[str x.1, rowVal x.2]) w5 ∧ Blk w5 n0 90 #[.int .i64 0, str [], .int .i64 0, .bool false, .bool false, .bool false] ∧ Below w.heap.size w w5 ∧
      (x.2.verb ≠ v → ∀ o, NameMid w b r n0 v (w5.alloc o) ∧ (leftOf (ents rowVal 0 Sp.tab).toArray ((w5.alloc o).iterSeen r)).size < (leftOf (ents rowVal 0 Sp.tab).toArray (wr.iterSeen r)).size) := by
  obtain ⟨⟨seen, hit, hno⟩, hmap, hres, hbl⟩ := h
  have hlen : Sp.tab.length = 24 := rfl
  have law := fun ty => run_next_at (P := Tryz.prog) hmap hit ents_old (Nat.le_refl 24) ty
  have hleft : ¬ (leftOf (ents rowVal 0 Sp.tab).toArray seen).size = 0 := by
    intro h0
    have hin := (by_tab ⟨v - 1, by omega⟩)
    simp only [show v - 1 + 1 = v by omega] at hin
    obtain ⟨i, hi⟩ := List.getElem?_of_mem hin.1
    have hm := ents_at rowVal Sp.tab 0 i _ hi
    have : seen.contains i = true := all_seen (ents rowVal 0 Sp.tab).toArray seen h0 _ (by simpa using hm)
    exact hno i _ hi this hin.2
  have hbr : b ≠ r := by
    intro e
    subst e
    unfold HoldsTab at hmap
    rw [hit] at hmap
    cases hmap
  have hnr : n0 ≠ r := by
    intro e
    subst e
    unfold Blk at hres
    rw [hit] at hres
    cases hres
  have hrl : r < wr.heap.size := by
    rcases Nat.lt_or_ge r wr.heap.size with hlt | hge
    · exact hlt
    · rw [Array.getElem?_eq_none hge] at hit; cases hit
  rcases law 0 with ⟨h0, _⟩ | ⟨e, he, n, hrun⟩
  · exact absurd h0 hleft
  · obtain ⟨hes, hnew⟩ := mem_left he
    obtain ⟨i, x, hx, rfl⟩ := ents_mem rowVal Sp.tab 0 e (by simpa using hes)
    have hg : wr.grownBy { wr.drewN n with heap := wr.heap.setIfInBounds r (.mapIter (some b) 24 (seen.push (0 + i)) Sp.tab.length) } (some r) :=
      ⟨rfl, rfl, rfl, by simp, fun k _ hne => by
        simp only [Array.getElem?_setIfInBounds]
        rw [if_neg (by rintro rfl; exact hne rfl)]⟩
    have hit5 : ({ wr.drewN n with heap := wr.heap.setIfInBounds r (.mapIter (some b) 24 (seen.push (0 + i)) Sp.tab.length) } : World).heap[r]? = some (.mapIter (some b) 24 (seen.push (0 + i)) 24) := by simp [hrl, hlen]
    have hrun' : ∀ ty, (Instr.next (.pointer (some ⟨r, 0, none⟩)) false ty).run Tryz.prog wr = .ok (.tuple #[.bool true, str x.1, rowVal x.2]) { wr.drewN n with heap := wr.heap.setIfInBounds r (.mapIter (some b) 24 (seen.push (0 + i)) Sp.tab.length) } := fun _ => hrun
    generalize ({ wr.drewN n with heap := wr.heap.setIfInBounds r (.mapIter (some b) 24 (seen.push (0 + i)) Sp.tab.length) } : World) = w5 at hg hit5 hrun'
    have hmap5 : HoldsTab w5 b rowVal Sp.tab := hmap.same (hg.block b hmap.lt (by simpa using hbr))
    have hres5 := hres.grown hg (by simpa using hnr)
    have hbl5 : Below w.heap.size w w5 := hbl.grown hg hbl.size (fun k hk => by injection hk with hk; omega)
    refine ⟨i, x, w5, hx, hrun', run_entry_at hmap5 hit5 hes ents_nodup, hres5, hbl5, fun hv o => ⟨⟨⟨seen.push (0 + i), (Below.heap_alloc w5 o r (Nat.lt_of_lt_of_le hrl hg.size)).trans hit5, fun j y hj hc => ?_⟩, hmap5.same (Below.heap_alloc w5 o b hmap5.lt), hres5.alloc o, hbl5.alloc hbl5.size o⟩, ?_⟩⟩
    · rw [contains_push] at hc
      rcases Bool.or_eq_true _ _ ▸ hc with h3 | h3
      · exact hno j y hj h3
      · have h4 := beq_iff_eq.1 h3
        have : j = i := by omega
        subst this
        rw [hx] at hj
        injection hj with hj
        rw [← hj]
        exact hv
    · have s1 : (w5.alloc o).iterSeen r = seen.push (0 + i) := by
        unfold World.iterSeen
        rw [(Below.heap_alloc w5 o r (Nat.lt_of_lt_of_le hrl hg.size)).trans hit5]
      have s2 : wr.iterSeen r = seen := by
        unfold World.iterSeen
        rw [hit]
      rw [s1, s2]
      generalize (ents rowVal 0 Sp.tab).toArray = ES at he ⊢
      exact left_shrinks ES seen _ he

theorem name_results {W : World} {n0 : Nat} {k : Sp.Bs} {r : Sp.RowV} {b : Bool} (hb : Blk W n0 90 #[.int .i64 r.verb, str r.places, .int .i64 r.least, .bool r.more, .bool r.noreply, .bool r.block]) (tm : Array Value) (h2 : tm[2]?.getD undef = str k)
    (h3 : tm[3]?.getD undef = .pointer (some ⟨n0, 0, none⟩)) (h4 : tm[4]?.getD undef = .bool b) : (results Tryz.f43 tm).run Tryz.prog W = .ok (.tuple #[str k, rowVal r, .bool b]) W := by
  have z0 : _ = some (Value.int .i64 r.verb) := hb.cell 0
  have z1 : _ = some (str r.places) := hb.cell 1
  have z2 : _ = some (Value.int .i64 r.least) := hb.cell 2
  have z3 : _ = some (Value.bool r.more) := hb.cell 3
  have z4 : _ = some (Value.bool r.noreply) := hb.cell 4
  have z5 : _ = some (Value.bool r.block) := hb.cell 5
  clear hb
  simp [results, Tryz.results43, go_sem, h2, h3, h4, z0, z1, z2, z3, z4, z5, rowVal]

set_option maxHeartbeats 4000000 in
set_option maxRecDepth 100000 in
theorem name_yes (v : Nat) (h1 : 1 ≤ v) (h2 : v ≤ 24) (w : World) :
    Calls Tryz.prog 43 #[.int .i64 v] w fun e w' => e = .returned (.tuple #[str (wordBy v), rowVal (rowBy v), .bool true]) ∧ Below w.heap.size w w' := by
  generalize hR : (fun (e : Ending) (w' : World) => e = .returned (.tuple #[str (wordBy v), rowVal (rowBy v), .bool true]) ∧ Below w.heap.size w w') = R
  have HR := Lib.hid hR
  clear hR
  have hrg := fun (W : World) (b : Nat) (hb : HoldsTab W b rowVal Sp.tab) => (run_range_map (P := Tryz.prog) W 129 9 90 b (ents rowVal 0 Sp.tab).toArray Sp.tab.length Tryz.underlying129 hb : _ = Result.ok _ (W.alloc (.mapIter (some b) 24 #[] 24)))
  have HRG := Lib.hid hrg
  clear hrg
  go_enter Tryz.func43, Tryz.ntmps43
  go_wp2_with (go_at_call 82; refine (rows_any _).mono ?_; rintro e w2 ⟨b, rfl, htab, hbb, hb2⟩; have hr2 := HRG.out w2 b htab; have HTAB := Lib.hid htab; have HB2 := Lib.hid hb2; clear htab hb2)
  have hsz : w.heap.size + 1 ≤ w2.heap.size := by have := HB2.out.size; simpa using this
  have hst := NameMid.start (w := w) (v := v) HTAB.out ((Blk.new w 90 #[.int .i64 0, str [], .int .i64 0, .bool false, .bool false, .bool false]).later HB2.out) (((Below.refl w.heap.size w).alloc (Nat.le_refl _) _).trans (HB2.out.mono (by simp)))
  have HST := Lib.hid hst
  clear hr2 hst
  go_loopw [] (fun wr => NameMid w b w2.heap.size w.heap.size v wr) (fun wr => (leftOf (ents rowVal 0 Sp.tab).toArray (wr.iterSeen w2.heap.size)).size)
  case atStart => exact HST.out
  case round =>
    obtain ⟨i, x, w5, hx, hnx, hen, hres, hbl, hon⟩ := NameMid.next hrel (by omega) h1 h2
    have hlt := hres.lt
    have HX := Lib.hid hx
    have HBL := Lib.hid hbl
    have HRES := Lib.hid hres
    clear hrel hx hbl
    obtain ⟨k, r⟩ := x
    simp only [rowVal] at hnx hen
    by_cases hv : r.verb = v
    · have hby : rowBy v = r ∧ wordBy v = k := by
        have := tab_by _ (List.mem_of_getElem? HX.out)
        simp only [hv] at this
        exact ⟨this.1, this.2.1⟩
      have HBY := Lib.hid hby
      have hq : ((r.verb : Int) == (v : Int)) = true := by simp [hv]
      have z0 : _ = some (Value.int .i64 0) := hres.cell 0
      have z1 : _ = some (str []) := hres.cell 1
      have z2 : _ = some (Value.int .i64 0) := hres.cell 2
      have z3 : _ = some (Value.bool false) := hres.cell 3
      have z4 : _ = some (Value.bool false) := hres.cell 4
      have z5 : _ = some (Value.bool false) := hres.cell 5
      have f0 := hres.frozen 0
      have f1 := hres.frozen 1
      have f2 := hres.frozen 2
      have f3 := hres.frozen 3
      have f4 := hres.frozen 4
      have f5 := hres.frozen 5
      clear hby hv hon hres
      go_wp2_with fail
      go_region
      all_goals
        go_wp2_with fail
        have hb6 := (((((HRES.out.put 0 (.int .i64 r.verb)).put 1 (str r.places)).put 2 (.int .i64 r.least)).put 3 (.bool r.more)).put 4 (.bool r.noreply)).put 5 (.bool r.block)
        have hbe := (((((HBL.out.setCell (p := ⟨w.heap.size, 0, none⟩) (Nat.le_refl _) (.int .i64 r.verb)).setCell (p := ⟨w.heap.size, 1, none⟩) (Nat.le_refl _) (str r.places)).setCell (p := ⟨w.heap.size, 2, none⟩) (Nat.le_refl _) (.int .i64 r.least)).setCell (p := ⟨w.heap.size, 3, none⟩) (Nat.le_refl _) (.bool r.more)).setCell (p := ⟨w.heap.size, 4, none⟩) (Nat.le_refl _) (.bool r.noreply)).setCell (p := ⟨w.heap.size, 5, none⟩) (Nat.le_refl _) (.bool r.block)
        refine bodyPost_ret (name_results (k := k) (r := r) (b := true) ((hb6.alloc _).drew) _ rfl rfl rfl) rfl ?_
        rw [← HR.out]
        exact ⟨by rw [HBY.out.1, HBY.out.2], (hbe.alloc hbe.size _).drew⟩
    · have hq : ((r.verb : Int) == (v : Int)) = false := by simp; omega
      have hon' := hon hv
      have HON := Lib.hid hon'
      clear hon hon' hv hres
      go_wp2_with fail
      exact ⟨(HON.out _).1, (HON.out _).2⟩
end Go.Proofs.YthgfjafnclklpaaGreatDoor
end
