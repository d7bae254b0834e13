/- Walk of the statements' helper wakes: a right line is read, a wrong one told, a command written. -/
import Derived.Test.YthgfjafnclklpaaGreatDoorY5
import Derived.Test.YthgfjafnclklpaaGreatDoorOc
import Derived.Lib.SlBytesConst
namespace Go.Proofs.YthgfjafnclklpaaGreatDoor
attribute [local go_sem ↓] Go.wp_at_zero Go.wp_at_succ
open Go.RowKit

def wl1 : Sp.Bs := [115, 101, 116, 32, 97, 32, 53, 32, 48, 32, 48, 48, 55]
def wl2 : Sp.Bs := [115, 101, 116, 32, 97, 32, 120, 32, 48, 32, 49]
def wc1 : Sp.CmdV := { verb := 5, keys := [[97]], flags := 5 }
def wc3 : Sp.CmdV := { verb := 1, keys := [[97], [98]] }
def wo3 : Sp.Bs := [103, 101, 116, 32, 97, 32, 98, 13, 10]
theorem wl1_is : Sp.lineOf wl1 = .ok wc1 7 := by decide +kernel
theorem wl2_is : Sp.lineOf wl2 = .bad ⟨2, Sp.badFormat, 1⟩ := by decide +kernel
theorem wo3_is : Sp.outV wc3 = wo3 := by decide +kernel
theorem wo3_all : Sp.allV wc3.data.length ((Sp.outV wc3).length + 1) 0 (Sp.outV wc3) = ([Sp.StepV.span { cmd := wc3 } 0 9], 0) := by decide +kernel

/-- Line of a chunk that was laid just now -/
theorem chunk_line {w1 : World} (hg : Glob w1) (l : Sp.Bs) {n : Nat} (hn : l.length = n) {cs : Array Value} (hcs : (bytesV l).toArray = cs) (fz : Nat × Nat) :
    Calls Tryz.prog 19 #[.slice (some ⟨w1.heap.size, 0, none⟩) n n] (w1.alloc (.cells cs 5 fz)) fun e w' => ∃ k1 k2 k3 m1 m2 m3, e = .returned (.tuple #[cmdV (lineStep (Sp.lineOf l)).cmd (.slice k1 k2 k3) nilRow (.slice m1 m2 m3), .int .i64 (lineN (Sp.lineOf l)), wrongV (lineStep (Sp.lineOf l)).wrong]) ∧
      w'.ownsRow 0 9 1 (.slice k1 k2 k3) (lineStep (Sp.lineOf l)).cmd.keys.length ((lineStep (Sp.lineOf l)).cmd.keys.map str) ∧ w'.ownsRow 0 94 3 (.slice m1 m2 m3) (lineStep (Sp.lineOf l)).cmd.metas.length (flagsCells (lineStep (Sp.lineOf l)).cmd.metas) ∧ Below w1.heap.size w1 w' := by
  subst hn; subst hcs
  have hb : Below w1.heap.size w1 (w1.alloc (.cells (bytesV l).toArray 5 fz)) := (Below.refl _ _).alloc (Nat.le_refl _) _
  have hrow : RowAt (w1.alloc (.cells (bytesV l).toArray 5 fz)) (some ⟨w1.heap.size, 0, none⟩) (bytesV l) := by
    have hbk := heap_alloc_new w1 (.cells (bytesV l).toArray 5 fz)
    refine .inr ⟨_, _, rfl, by simp, fun j u hu => ?_⟩
    rw [Nat.zero_add]
    unfold World.cell?
    rw [hbk]
    simpa using hu
  refine (line_flat (cap := l.length) (hg.later hb) hrow).mono ?_
  rintro e w' ⟨k1, k2, k3, m1, m2, m3, rfl, h1, h2, h3⟩
  exact ⟨k1, k2, k3, m1, m2, m3, rfl, World.ownsRow.mono h1 (Nat.zero_le _), World.ownsRow.mono h2 (Nat.zero_le _), hb.trans (h3.mono hb.size)⟩


theorem wc3_fit : CmdFit wc3 := ⟨by decide, by decide, by decide, by decide, by decide, by decide, by decide, by decide, by decide⟩
theorem wo3_len : (Sp.outV wc3).length = 9 := by rw [wo3_is]; rfl

theorem num_any (n : Int) (w : World) : Calls Tryz.prog 10 #[.int .i64 n] w fun e w' => e = .returned (.int .i64 n) ∧ w = w' := by
  go_enter Tryz.func10, Tryz.ntmps10
  go_wp2
  go_ret
  exact ⟨rfl, rfl⟩

set_option maxHeartbeats 8000000 in
set_option maxRecDepth 100000 in
theorem wakes11_any {w : World} (hg : Glob w) (ht : TabAt w) : Calls Tryz.prog 16 #[] w fun e w' => e = .returned (.bool true) ∧ Below w.heap.size w w' := by
  generalize hR : (fun (e : Ending) (w' : World) => e = .returned (.bool true) ∧ Below w.heap.size w w') = R
  have HR := Lib.hid hR
  have HG := Lib.hid hg
  have HT := Lib.hid ht
  have kc := fun (w : World) (C : Array Value) (n c : Nat) => Lib.run_convert_bytes_const (P := Tryz.prog) w 35 5 C n c Tryz.underlying35 Tryz.underlying5
  have hc1 := chunk_line hg wl1 (n := 13) rfl (cs := #[.int .u8 115, .int .u8 101, .int .u8 116, .int .u8 32, .int .u8 97, .int .u8 32, .int .u8 53, .int .u8 32, .int .u8 48, .int .u8 32, .int .u8 48, .int .u8 48, .int .u8 55]) (by rfl) (13, 13 + 1)
  rw [wl1_is] at hc1
  have HC1 := Lib.hid hc1
  clear hR hg ht hc1
  go_enter Tryz.func16, Tryz.ntmps16
  go_wp2_with fail
  refine HC1.out.mono ?_
  rintro e w1 ⟨k1, k2, k3, m1, m2, m3, rfl, hk1, hm1, hb1⟩
  dsimp only [lineStep, lineN, wc1]
  have HK1 := Lib.hid hk1
  have HM1 := Lib.hid hm1
  have HB1 := Lib.hid hb1
  clear hk1 hm1 hb1
  have hca1 : CmdAt w1 wc1 (.slice k1 k2 k3) nilRow (.slice m1 m2 m3) := ⟨own_at HK1.out, ⟨none, 0, rfl, .inl rfl⟩, own_at HM1.out⟩
  have HCA1 := Lib.hid hca1
  clear hca1
  go_wp2_with fail
  refine (same_same (c := wc1) (k1 := .slice k1 k2 k3) (d1 := nilRow) (m1 := .slice m1 m2 m3) (k2 := .slice (some ⟨w1.heap.size + 1 + 1, 0, none⟩) 1 1) (d2 := nilRow) (m2 := nilRow) (HCA1.out.below ((((Below.refl _ _).alloc (Nat.le_refl _) _).alloc (by simp) _).alloc (by simp; omega) _)) ?_ (by decide) (by decide)).mono ?_
  · refine ⟨⟨some ⟨w1.heap.size + 1 + 1, 0, none⟩, 1, rfl, ?_⟩, ⟨none, 0, rfl, .inl rfl⟩, ⟨none, 0, rfl, .inl rfl⟩⟩
    exact row_new _ (by simp) _ [str [97]]
  · rintro e w2 ⟨rfl, hb2⟩
    have hbw2 : Below w.heap.size w w2 := (HB1.out.trans ((((((Below.refl w1.heap.size w1).alloc (Nat.le_refl _) _).alloc (by simp) _).alloc (by simp; omega) _).trans (hb2.mono (by simp; omega))).mono HB1.out.size))
    have hc2 := chunk_line (HG.out.later hbw2) wl2 (n := 11) rfl (cs := #[.int .u8 115, .int .u8 101, .int .u8 116, .int .u8 32, .int .u8 97, .int .u8 32, .int .u8 120, .int .u8 32, .int .u8 48, .int .u8 32, .int .u8 49]) (by rfl) (11, 11 + 1)
    rw [wl2_is] at hc2
    have HC2 := Lib.hid hc2
    have HBW2 := Lib.hid hbw2
    clear hc2 hbw2 hb2
    go_wp2_with fail
    refine HC2.out.mono ?_
    rintro e w3 ⟨k1, k2, k3, m1, m2, m3, rfl, -, -, hb3⟩
    dsimp only [lineStep, lineN]
    have hbw3 := HBW2.out.trans (hb3.mono HBW2.out.size)
    have HBW3 := Lib.hid hbw3
    clear hb3 hbw3
    have hvx := fun (W : World) (cs : Array Value) => (Blk.new (W.alloc (.cells cs 38)) 59 (wrongArr ⟨2, Sp.badFormat, 1⟩))
    go_wp2_with fail
    have hbw5 : Below w.heap.size w (((w3.alloc (.cells (cmdArr {} (.slice k1 k2 k3) nilRow (.slice m1 m2 m3)) 38)).alloc (.cells (wrongArr ⟨2, Sp.badFormat, 1⟩) 59)).alloc (.cells #[str [97], str [98]] 9)) :=
      ((HBW3.out.alloc HBW3.out.size _).alloc (by have := HBW3.out.size; simp; omega) _).alloc (by have := HBW3.out.size; simp; omega) _
    have hwr := (hvx w3 (cmdArr {} (.slice k1 k2 k3) nilRow (.slice m1 m2 m3))).alloc (.cells #[str [97], str [98]] 9)
    rw [show (w3.alloc (.cells (cmdArr {} (.slice k1 k2 k3) nilRow (.slice m1 m2 m3)) 38)).heap.size = w3.heap.size + 1 from by simp] at hwr
    have hby := bytes_plain (c := wc3) (K := some ⟨w3.heap.size + 1 + 1, 0, none⟩) (kc := 2) (D := none) (dc := 0) (M := none) (mc := 0) (HG.out.later hbw5) (HT.out.later HG.out hbw5)
      ⟨row_new _ (by simp) _ [str [97], str [98]], .inl rfl, .inl rfl, (fun h => absurd h (by simp)), fun _ => rfl⟩ wc3_fit (by decide) rfl (by decide) wo3_all rfl (by rw [wo3_len]; rfl) (by rw [wo3_len]; decide) (by decide)
    have HBY := Lib.hid hby
    have HWR := Lib.hid hwr
    have HBW5 := Lib.hid hbw5
    clear hby hwr hbw5 hvx
    refine HBY.out.mono ?_
    intro e w6 hpost
    obtain ⟨A, cap, rfl, hr6, -, hb6⟩ := hpost
    rw [wo3_len]
    rw [wo3_is] at hr6
    have hcv := run_bytes_str (cap := cap) hr6
    change (convert 35 9 (.slice (some A) 9 cap)).run Tryz.prog w6 = .ok (str wo3) w6 at hcv
    have hw6 := HWR.out.later hb6
    have v0 : _ = some (Value.int .i64 2) := hw6.cell 0
    have v1 : _ = some (str Sp.badFormat) := hw6.cell 1
    have v2 : _ = some (Value.int .i64 1) := hw6.cell 2
    have HB6 := Lib.hid (HBW5.out.trans (hb6.mono HBW5.out.size))
    clear hb6 hw6 hr6
    have hnu := fun (n : Int) (W : World) => num_any n W
    have HNU := Lib.hid hnu
    clear hnu
    go_wp2_with (refine (HNU.out _ _).mono ?_; rintro e w7 ⟨rfl, rfl⟩)
    have hfin : R (.returned (.bool (wo3 == [103, 101, 116, 32, 97, 32, 98, 13, 10]))) w6 := by
      rw [← HR.out]
      exact ⟨rfl, HB6.out⟩
    exact hfin
end Go.Proofs.YthgfjafnclklpaaGreatDoor
