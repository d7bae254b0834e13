/- Walk of package reply: Bytes, where no loop is walked. Printed by gen/genVy.py. -/
import Derived.Test.YtnbeeehfapjpdaaGreatDoorVx
namespace Go.Proofs.YtnbeeehfapjpdaaGreatDoor
attribute [local go_sem ↓] Go.wp_at_zero Go.wp_at_succ
open Go.RowKit

/-- what Bytes tells -/
def WroteK (w : World) (r : Sp.Bs × Int) (e : Ending) (w' : World) : Prop :=
  ∃ O oc, e = .returned (.tuple #[.slice O r.1.length oc, .int .i64 r.2]) ∧ w'.ownsRow w.heap.size 5 1 (.slice O r.1.length oc) r.1.length (bytesV r.1) ∧ Below w.heap.size w w'
theorem Below.of_grown_none {w w' : World} (h : w.grownBy w' nilRow.ownBlock) : Below w.heap.size w w' := ⟨h.os, h.tape, h.output, h.size, fun i hi => h.block i hi (by show some i ≠ none; simp)⟩
set_option maxHeartbeats 16000000 in
set_option maxRecDepth 100000 in
theorem bytes_unfit {w : World} (hg : GlobR w) (v : Int) {K : Option Addr} {keys : List Sp.Bs} {kc : Nat} (fl ex tk dl : Int) (D : Option Addr) (dn dc : Nat) (nr lg : Bool) (M : Option Addr) (mn mc : Nat) (what : Sp.Bs) (hK : RowAt w K (keys.map str)) (hkc : keys.length ≤ kc) (hks : keys.length ≤ 1000000000) {x : AnsX} (hx : AnsIn w x) (hf : Sp.fitsV v keys what x.v = false) :
    Calls Tryz.prog 15 #[cmdA v K keys.length kc fl ex tk dl D dn dc nr lg M mn mc what, x.val] w (WroteK w (Sp.wroteV v keys what nr x.v)) := by
  obtain ⟨r, hr⟩ : ∃ r, r = Sp.wroteV v keys what nr x.v := ⟨_, rfl⟩
  rw [← hr]
  unfold Sp.wroteV at hr
  generalize hR : WroteK w r = R
  have hal : Below w.heap.size w ((w.alloc (.cells #[.int .i64 v, .slice K keys.length kc, .int .u64 fl, .int .i64 ex, .int .u64 tk, .int .u64 dl, .slice D dn dc, .bool nr, .bool lg, .slice M mn mc, str what] 32)).alloc (.cells x.cells 36)) := ((Below.refl _ _).alloc (Nat.le_refl _) _).alloc (by simp) _
  have hbx : Blk ((w.alloc (.cells #[.int .i64 v, .slice K keys.length kc, .int .u64 fl, .int .i64 ex, .int .u64 tk, .int .u64 dl, .slice D dn dc, .bool nr, .bool lg, .slice M mn mc, str what] 32)).alloc (.cells x.cells 36)) w.heap.size 32 #[.int .i64 v, .slice K keys.length kc, .int .u64 fl, .int .i64 ex, .int .u64 tk, .int .u64 dl, .slice D dn dc, .bool nr, .bool lg, .slice M mn mc, str what] := (Blk.new w _ _).alloc _
  have hab : Blk ((w.alloc (.cells #[.int .i64 v, .slice K keys.length kc, .int .u64 fl, .int .i64 ex, .int .u64 tk, .int .u64 dl, .slice D dn dc, .bool nr, .bool lg, .slice M mn mc, str what] 32)).alloc (.cells x.cells 36)) (w.heap.size + 1) 36 x.cells := by
    have := Blk.new (w.alloc (.cells #[.int .i64 v, .slice K keys.length kc, .int .u64 fl, .int .i64 ex, .int .u64 tk, .int .u64 dl, .slice D dn dc, .bool nr, .bool lg, .slice M mn mc, str what] 32)) 36 x.cells
    rwa [show (w.alloc (.cells #[.int .i64 v, .slice K keys.length kc, .int .u64 fl, .int .i64 ex, .int .u64 tk, .int .u64 dl, .slice D dn dc, .bool nr, .bool lg, .slice M mn mc, str what] 32)).heap.size = w.heap.size + 1 by simp] at this
  obtain ⟨W1, hW1⟩ : ∃ W1, W1 = (w.alloc (.cells #[.int .i64 v, .slice K keys.length kc, .int .u64 fl, .int .i64 ex, .int .u64 tk, .int .u64 dl, .slice D dn dc, .bool nr, .bool lg, .slice M mn mc, str what] 32)).alloc (.cells x.cells 36) := ⟨_, rfl⟩
  rw [← hW1] at hal hbx hab
  have hft := fitsOf_any (hg.later hal) v fl ex tk dl D dn dc nr lg M mn mc what (hK.below hal) hkc hks (hx.below hal)
  rw [hf] at hft
  rw [if_pos hf] at hr
  clear hf
  obtain ⟨kind, E, ec, xs, number, text, S, sc, stats⟩ := x
  dsimp only [AnsX.val, AnsX.cells] at hW1 hab hft ⊢
  obtain ⟨bx, hbe⟩ : ∃ bx, bx = w.heap.size := ⟨_, rfl⟩
  obtain ⟨ab, hae⟩ : ∃ ab, ab = w.heap.size + 1 := ⟨_, rfl⟩
  rw [← hbe] at hbx
  rw [← hae] at hab
  have y0 := hbx.cell 0
  have y1 := hbx.cell 1
  have y2 := hbx.cell 2
  have y3 := hbx.cell 3
  have y4 := hbx.cell 4
  have y5 := hbx.cell 5
  have y6 := hbx.cell 6
  have y7 := hbx.cell 7
  have y8 := hbx.cell 8
  have y9 := hbx.cell 9
  have y10 := hbx.cell 10
  have q0 := hab.cell 0
  have q1 := hab.cell 1
  have q2 := hab.cell 2
  have q3 := hab.cell 3
  have q4 := hab.cell 4
  simp only [List.getElem?_toArray, List.getElem?_cons_zero, List.getElem?_cons_succ] at y0 y1 y2 y3 y4 y5 y6 y7 y8 y9 y10 q0 q1 q2 q3 q4
  have HR := Lib.hid hR
  have HIN := Lib.hid hx
  have HG := Lib.hid hg
  have HFT := Lib.hid hft
  have HAL := Lib.hid hal
  have HBX := Lib.hid hbx
  have HAB := Lib.hid hab
  have HW1 := Lib.hid hW1
  have HBE := Lib.hid hbe
  have HAE := Lib.hid hae
  have HRR := Lib.hid hr
  clear hR hx hg hft hal hbx hab hW1 hbe hae hr hK hkc hks
  go_enter Tryz.func15, Tryz.ntmps15
  go_upto_region 1 with fail
  rw [← HW1.out, ← HAE.out, ← HBE.out]
  go_wp2_with (go_at_call 14; refine HFT.out.mono ?_; rintro e w1 ⟨rfl, hb1⟩; have hbx1 := HBX.out.later hb1; have hab1 := HAB.out.later hb1; have b0 := hbx1.cell 0; have b7 := hbx1.cell 7; have a0 := hab1.cell 0; have a1 := hab1.cell 1; have a2 := hab1.cell 2; have a3 := hab1.cell 3; have a4 := hab1.cell 4; simp only [List.getElem?_toArray, List.getElem?_cons_zero, List.getElem?_cons_succ] at b0 b7 a0 a1 a2 a3 a4; have HB1 := Lib.hid (HAL.out.trans (hb1.mono HAL.out.size)); have hs1 := (HAL.out.trans (hb1.mono HAL.out.size)).size; clear hb1 hbx1 hab1)
  rw [← HR.out, HRR.out]
  exact ⟨none, 0, rfl, World.ownsRow_nil _ _ _ 1, HB1.out⟩
set_option maxHeartbeats 16000000 in
set_option maxRecDepth 100000 in
theorem bytes_none {w : World} (hg : GlobR w) (v : Int) {K : Option Addr} {keys : List Sp.Bs} {kc : Nat} (fl ex tk dl : Int) (D : Option Addr) (dn dc : Nat) (nr lg : Bool) (M : Option Addr) (mn mc : Nat) (what : Sp.Bs) (hK : RowAt w K (keys.map str)) (hkc : keys.length ≤ kc) (hks : keys.length ≤ 1000000000) {x : AnsX} (hx : AnsIn w x) (hf : Sp.fitsV v keys what x.v = true) (hn : nr = true ∨ x.kind = 12) :
    Calls Tryz.prog 15 #[cmdA v K keys.length kc fl ex tk dl D dn dc nr lg M mn mc what, x.val] w (WroteK w (Sp.wroteV v keys what nr x.v)) := by
  obtain ⟨r, hr⟩ : ∃ r, r = Sp.wroteV v keys what nr x.v := ⟨_, rfl⟩
  rw [← hr]
  unfold Sp.wroteV at hr
  generalize hR : WroteK w r = R
  have hal : Below w.heap.size w ((w.alloc (.cells #[.int .i64 v, .slice K keys.length kc, .int .u64 fl, .int .i64 ex, .int .u64 tk, .int .u64 dl, .slice D dn dc, .bool nr, .bool lg, .slice M mn mc, str what] 32)).alloc (.cells x.cells 36)) := ((Below.refl _ _).alloc (Nat.le_refl _) _).alloc (by simp) _
  have hbx : Blk ((w.alloc (.cells #[.int .i64 v, .slice K keys.length kc, .int .u64 fl, .int .i64 ex, .int .u64 tk, .int .u64 dl, .slice D dn dc, .bool nr, .bool lg, .slice M mn mc, str what] 32)).alloc (.cells x.cells 36)) w.heap.size 32 #[.int .i64 v, .slice K keys.length kc, .int .u64 fl, .int .i64 ex, .int .u64 tk, .int .u64 dl, .slice D dn dc, .bool nr, .bool lg, .slice M mn mc, str what] := (Blk.new w _ _).alloc _
  have hab : Blk ((w.alloc (.cells #[.int .i64 v, .slice K keys.length kc, .int .u64 fl, .int .i64 ex, .int .u64 tk, .int .u64 dl, .slice D dn dc, .bool nr, .bool lg, .slice M mn mc, str what] 32)).alloc (.cells x.cells 36)) (w.heap.size + 1) 36 x.cells := by
    have := Blk.new (w.alloc (.cells #[.int .i64 v, .slice K keys.length kc, .int .u64 fl, .int .i64 ex, .int .u64 tk, .int .u64 dl, .slice D dn dc, .bool nr, .bool lg, .slice M mn mc, str what] 32)) 36 x.cells
    rwa [show (w.alloc (.cells #[.int .i64 v, .slice K keys.length kc, .int .u64 fl, .int .i64 ex, .int .u64 tk, .int .u64 dl, .slice D dn dc, .bool nr, .bool lg, .slice M mn mc, str what] 32)).heap.size = w.heap.size + 1 by simp] at this
  obtain ⟨W1, hW1⟩ : ∃ W1, W1 = (w.alloc (.cells #[.int .i64 v, .slice K keys.length kc, .int .u64 fl, .int .i64 ex, .int .u64 tk, .int .u64 dl, .slice D dn dc, .bool nr, .bool lg, .slice M mn mc, str what] 32)).alloc (.cells x.cells 36) := ⟨_, rfl⟩
  rw [← hW1] at hal hbx hab
  have hft := fitsOf_any (hg.later hal) v fl ex tk dl D dn dc nr lg M mn mc what (hK.below hal) hkc hks (hx.below hal)
  rw [hf] at hft
  rw [if_neg (by rw [hf]; decide), if_pos (show nr = true ∨ x.v.kind = 12 from hn)] at hr
  clear hf
  obtain ⟨kind, E, ec, xs, number, text, S, sc, stats⟩ := x
  dsimp only [AnsX.val, AnsX.cells] at hW1 hab hft ⊢
  dsimp only at hn
  obtain ⟨bx, hbe⟩ : ∃ bx, bx = w.heap.size := ⟨_, rfl⟩
  obtain ⟨ab, hae⟩ : ∃ ab, ab = w.heap.size + 1 := ⟨_, rfl⟩
  rw [← hbe] at hbx
  rw [← hae] at hab
  have y0 := hbx.cell 0
  have y1 := hbx.cell 1
  have y2 := hbx.cell 2
  have y3 := hbx.cell 3
  have y4 := hbx.cell 4
  have y5 := hbx.cell 5
  have y6 := hbx.cell 6
  have y7 := hbx.cell 7
  have y8 := hbx.cell 8
  have y9 := hbx.cell 9
  have y10 := hbx.cell 10
  have q0 := hab.cell 0
  have q1 := hab.cell 1
  have q2 := hab.cell 2
  have q3 := hab.cell 3
  have q4 := hab.cell 4
  simp only [List.getElem?_toArray, List.getElem?_cons_zero, List.getElem?_cons_succ] at y0 y1 y2 y3 y4 y5 y6 y7 y8 y9 y10 q0 q1 q2 q3 q4
  have HR := Lib.hid hR
  have HIN := Lib.hid hx
  have HG := Lib.hid hg
  have HFT := Lib.hid hft
  have HAL := Lib.hid hal
  have HBX := Lib.hid hbx
  have HAB := Lib.hid hab
  have HW1 := Lib.hid hW1
  have HBE := Lib.hid hbe
  have HAE := Lib.hid hae
  have HRR := Lib.hid hr
  clear hR hx hg hft hal hbx hab hW1 hbe hae hr hK hkc hks
  by_cases hnr : nr = true
  · subst hnr
    clear hn
    go_enter Tryz.func15, Tryz.ntmps15
    go_upto_region 1 with fail
    rw [← HW1.out, ← HAE.out, ← HBE.out]
    go_wp2_with (go_at_call 14; refine HFT.out.mono ?_; rintro e w1 ⟨rfl, hb1⟩; have hbx1 := HBX.out.later hb1; have hab1 := HAB.out.later hb1; have b0 := hbx1.cell 0; have b7 := hbx1.cell 7; have a0 := hab1.cell 0; have a1 := hab1.cell 1; have a2 := hab1.cell 2; have a3 := hab1.cell 3; have a4 := hab1.cell 4; simp only [List.getElem?_toArray, List.getElem?_cons_zero, List.getElem?_cons_succ] at b0 b7 a0 a1 a2 a3 a4; have HB1 := Lib.hid (HAL.out.trans (hb1.mono HAL.out.size)); have hs1 := (HAL.out.trans (hb1.mono HAL.out.size)).size; clear hb1 hbx1 hab1)
    rw [← HR.out, HRR.out]
    exact ⟨none, 0, rfl, World.ownsRow_nil _ _ _ 1, HB1.out⟩
  · have hnr2 : nr = false := by simpa using hnr
    subst hnr2
    have h12 : (kind == 12) = true := by rw [hn.resolve_left (by decide)]; rfl
    clear hn hnr
    go_enter Tryz.func15, Tryz.ntmps15
    go_upto_region 1 with fail
    rw [← HW1.out, ← HAE.out, ← HBE.out]
    go_wp2_with (go_at_call 14; refine HFT.out.mono ?_; rintro e w1 ⟨rfl, hb1⟩; have hbx1 := HBX.out.later hb1; have hab1 := HAB.out.later hb1; have b0 := hbx1.cell 0; have b7 := hbx1.cell 7; have a0 := hab1.cell 0; have a1 := hab1.cell 1; have a2 := hab1.cell 2; have a3 := hab1.cell 3; have a4 := hab1.cell 4; simp only [List.getElem?_toArray, List.getElem?_cons_zero, List.getElem?_cons_succ] at b0 b7 a0 a1 a2 a3 a4; have HB1 := Lib.hid (HAL.out.trans (hb1.mono HAL.out.size)); have hs1 := (HAL.out.trans (hb1.mono HAL.out.size)).size; clear hb1 hbx1 hab1)
    rw [← HR.out, HRR.out]
    exact ⟨none, 0, rfl, World.ownsRow_nil _ _ _ 1, HB1.out⟩
set_option maxHeartbeats 16000000 in
set_option maxRecDepth 100000 in
theorem bytes_7 {w : World} (hg : GlobR w) (v : Int) {K : Option Addr} {keys : List Sp.Bs} {kc : Nat} (fl ex tk dl : Int) (D : Option Addr) (dn dc : Nat) (nr lg : Bool) (M : Option Addr) (mn mc : Nat) (what : Sp.Bs) (hK : RowAt w K (keys.map str)) (hkc : keys.length ≤ kc) (hks : keys.length ≤ 1000000000) {x : AnsX} (hx : AnsIn w x) (hf : Sp.fitsV v keys what x.v = true) (hn : nr = false) (hk : x.kind = 7) :
    Calls Tryz.prog 15 #[cmdA v K keys.length kc fl ex tk dl D dn dc nr lg M mn mc what, x.val] w (WroteK w (Sp.wroteV v keys what nr x.v)) := by
  obtain ⟨r, hr⟩ : ∃ r, r = Sp.wroteV v keys what nr x.v := ⟨_, rfl⟩
  rw [← hr]
  unfold Sp.wroteV at hr
  generalize hR : WroteK w r = R
  have hal : Below w.heap.size w ((w.alloc (.cells #[.int .i64 v, .slice K keys.length kc, .int .u64 fl, .int .i64 ex, .int .u64 tk, .int .u64 dl, .slice D dn dc, .bool nr, .bool lg, .slice M mn mc, str what] 32)).alloc (.cells x.cells 36)) := ((Below.refl _ _).alloc (Nat.le_refl _) _).alloc (by simp) _
  have hbx : Blk ((w.alloc (.cells #[.int .i64 v, .slice K keys.length kc, .int .u64 fl, .int .i64 ex, .int .u64 tk, .int .u64 dl, .slice D dn dc, .bool nr, .bool lg, .slice M mn mc, str what] 32)).alloc (.cells x.cells 36)) w.heap.size 32 #[.int .i64 v, .slice K keys.length kc, .int .u64 fl, .int .i64 ex, .int .u64 tk, .int .u64 dl, .slice D dn dc, .bool nr, .bool lg, .slice M mn mc, str what] := (Blk.new w _ _).alloc _
  have hab : Blk ((w.alloc (.cells #[.int .i64 v, .slice K keys.length kc, .int .u64 fl, .int .i64 ex, .int .u64 tk, .int .u64 dl, .slice D dn dc, .bool nr, .bool lg, .slice M mn mc, str what] 32)).alloc (.cells x.cells 36)) (w.heap.size + 1) 36 x.cells := by
    have := Blk.new (w.alloc (.cells #[.int .i64 v, .slice K keys.length kc, .int .u64 fl, .int .i64 ex, .int .u64 tk, .int .u64 dl, .slice D dn dc, .bool nr, .bool lg, .slice M mn mc, str what] 32)) 36 x.cells
    rwa [show (w.alloc (.cells #[.int .i64 v, .slice K keys.length kc, .int .u64 fl, .int .i64 ex, .int .u64 tk, .int .u64 dl, .slice D dn dc, .bool nr, .bool lg, .slice M mn mc, str what] 32)).heap.size = w.heap.size + 1 by simp] at this
  obtain ⟨W1, hW1⟩ : ∃ W1, W1 = (w.alloc (.cells #[.int .i64 v, .slice K keys.length kc, .int .u64 fl, .int .i64 ex, .int .u64 tk, .int .u64 dl, .slice D dn dc, .bool nr, .bool lg, .slice M mn mc, str what] 32)).alloc (.cells x.cells 36) := ⟨_, rfl⟩
  rw [← hW1] at hal hbx hab
  have hft := fitsOf_any (hg.later hal) v fl ex tk dl D dn dc nr lg M mn mc what (hK.below hal) hkc hks (hx.below hal)
  rw [hf] at hft
  rw [if_neg (by rw [hf]; decide), if_neg (by rintro (e | e); rw [hn] at e; cases e; exact absurd (hk.symm.trans e) (by decide))] at hr
  rw [show Sp.answerW v x.v = Sp.lineR [Sp.digitsV x.number] by unfold Sp.answerW; rw [if_neg (by show x.kind ≠ 9; omega), if_pos (show x.v.kind = 7 from hk)]; rfl] at hr
  clear hf
  obtain ⟨kind, E, ec, xs, number, text, S, sc, stats⟩ := x
  dsimp only [AnsX.val, AnsX.cells] at hW1 hab hft ⊢
  dsimp only at hk
  subst hn
  subst hk
  obtain ⟨bx, hbe⟩ : ∃ bx, bx = w.heap.size := ⟨_, rfl⟩
  obtain ⟨ab, hae⟩ : ∃ ab, ab = w.heap.size + 1 := ⟨_, rfl⟩
  rw [← hbe] at hbx
  rw [← hae] at hab
  have y0 := hbx.cell 0
  have y1 := hbx.cell 1
  have y2 := hbx.cell 2
  have y3 := hbx.cell 3
  have y4 := hbx.cell 4
  have y5 := hbx.cell 5
  have y6 := hbx.cell 6
  have y7 := hbx.cell 7
  have y8 := hbx.cell 8
  have y9 := hbx.cell 9
  have y10 := hbx.cell 10
  have q0 := hab.cell 0
  have q1 := hab.cell 1
  have q2 := hab.cell 2
  have q3 := hab.cell 3
  have q4 := hab.cell 4
  simp only [List.getElem?_toArray, List.getElem?_cons_zero, List.getElem?_cons_succ] at y0 y1 y2 y3 y4 y5 y6 y7 y8 y9 y10 q0 q1 q2 q3 q4
  have HR := Lib.hid hR
  have HIN := Lib.hid hx
  have HG := Lib.hid hg
  have HFT := Lib.hid hft
  have HAL := Lib.hid hal
  have HBX := Lib.hid hbx
  have HAB := Lib.hid hab
  have HW1 := Lib.hid hW1
  have HBE := Lib.hid hbe
  have HAE := Lib.hid hae
  have HRR := Lib.hid hr
  clear hR hx hg hft hal hbx hab hW1 hbe hae hr hK hkc hks
  have hps := (by rw [Sp.digits_dec HIN.out.number]; have := dec_len (u := number) (by have := HIN.out.number; simp only at this; omega); simp [List.intercalate, List.intersperse]; omega : ([32].intercalate [Sp.digitsV number] : Sp.Bs).length ≤ 100000000)
  have HPS := Lib.hid hps
  clear hps
  go_enter Tryz.func15, Tryz.ntmps15
  go_upto_region 1 with fail
  rw [← HW1.out, ← HAE.out, ← HBE.out]
  go_wp2_with (first | (go_at_call 14; refine HFT.out.mono ?_; rintro e w1 ⟨rfl, hb1⟩; have hbx1 := HBX.out.later hb1; have hab1 := HAB.out.later hb1; have b0 := hbx1.cell 0; have b7 := hbx1.cell 7; have a0 := hab1.cell 0; have a1 := hab1.cell 1; have a2 := hab1.cell 2; have a3 := hab1.cell 3; have a4 := hab1.cell 4; simp only [List.getElem?_toArray, List.getElem?_cons_zero, List.getElem?_cons_succ] at b0 b7 a0 a1 a2 a3 a4; have HB1 := Lib.hid (HAL.out.trans (hb1.mono HAL.out.size)); have hs1 := (HAL.out.trans (hb1.mono HAL.out.size)).size; clear hb1 hbx1 hab1) | (go_at_call 46; refine (replyDigits_any number HIN.out.number (HG.out.later HB1.out)).mono ?_; rintro e w2 ⟨rfl, hb2⟩; have HB2 := Lib.hid (HB1.out.trans (hb2.mono HB1.out.size)); clear hb2) | (go_at_call 49; refine (line_reply (base := w.heap.size) (ov := nilRow) (l := []) (w := w2.alloc (.cells #[str (Sp.digitsV number)] 9)) (World.ownsRow_nil _ _ _ 1) (by have := (HB2.out.alloc HB2.out.size (.cells #[str (Sp.digitsV number)] 9)).size; exact this) (P := some ⟨w2.heap.size, 0, none⟩) (pc := 1) (ps := [Sp.digitsV number]) (row_new w2 rfl 9 [str (Sp.digitsV number)]) (Nat.le_refl _) (by simp) HPS.out (by simp)).mono ?_; rintro e w9 ⟨O, oc, rfl, hown9, hg9⟩; have HOWN9 := Lib.hid hown9; have HB9 := Lib.hid ((HB2.out.alloc HB2.out.size (.cells #[str (Sp.digitsV number)] 9)).trans ((Below.of_grown_none hg9).mono (by have := (HB2.out.alloc HB2.out.size (.cells #[str (Sp.digitsV number)] 9)).size; exact this))); clear hown9 hg9))
  rw [← HR.out, HRR.out]
  exact ⟨O, oc, rfl, HOWN9.out, HB9.out⟩
set_option maxHeartbeats 16000000 in
set_option maxRecDepth 100000 in
theorem bytes_10 {w : World} (hg : GlobR w) (v : Int) {K : Option Addr} {keys : List Sp.Bs} {kc : Nat} (fl ex tk dl : Int) (D : Option Addr) (dn dc : Nat) (nr lg : Bool) (M : Option Addr) (mn mc : Nat) (what : Sp.Bs) (hK : RowAt w K (keys.map str)) (hkc : keys.length ≤ kc) (hks : keys.length ≤ 1000000000) {x : AnsX} (hx : AnsIn w x) (hf : Sp.fitsV v keys what x.v = true) (hn : nr = false) (hk : x.kind = 10) :
    Calls Tryz.prog 15 #[cmdA v K keys.length kc fl ex tk dl D dn dc nr lg M mn mc what, x.val] w (WroteK w (Sp.wroteV v keys what nr x.v)) := by
  obtain ⟨r, hr⟩ : ∃ r, r = Sp.wroteV v keys what nr x.v := ⟨_, rfl⟩
  rw [← hr]
  unfold Sp.wroteV at hr
  generalize hR : WroteK w r = R
  have hal : Below w.heap.size w ((w.alloc (.cells #[.int .i64 v, .slice K keys.length kc, .int .u64 fl, .int .i64 ex, .int .u64 tk, .int .u64 dl, .slice D dn dc, .bool nr, .bool lg, .slice M mn mc, str what] 32)).alloc (.cells x.cells 36)) := ((Below.refl _ _).alloc (Nat.le_refl _) _).alloc (by simp) _
  have hbx : Blk ((w.alloc (.cells #[.int .i64 v, .slice K keys.length kc, .int .u64 fl, .int .i64 ex, .int .u64 tk, .int .u64 dl, .slice D dn dc, .bool nr, .bool lg, .slice M mn mc, str what] 32)).alloc (.cells x.cells 36)) w.heap.size 32 #[.int .i64 v, .slice K keys.length kc, .int .u64 fl, .int .i64 ex, .int .u64 tk, .int .u64 dl, .slice D dn dc, .bool nr, .bool lg, .slice M mn mc, str what] := (Blk.new w _ _).alloc _
  have hab : Blk ((w.alloc (.cells #[.int .i64 v, .slice K keys.length kc, .int .u64 fl, .int .i64 ex, .int .u64 tk, .int .u64 dl, .slice D dn dc, .bool nr, .bool lg, .slice M mn mc, str what] 32)).alloc (.cells x.cells 36)) (w.heap.size + 1) 36 x.cells := by
    have := Blk.new (w.alloc (.cells #[.int .i64 v, .slice K keys.length kc, .int .u64 fl, .int .i64 ex, .int .u64 tk, .int .u64 dl, .slice D dn dc, .bool nr, .bool lg, .slice M mn mc, str what] 32)) 36 x.cells
    rwa [show (w.alloc (.cells #[.int .i64 v, .slice K keys.length kc, .int .u64 fl, .int .i64 ex, .int .u64 tk, .int .u64 dl, .slice D dn dc, .bool nr, .bool lg, .slice M mn mc, str what] 32)).heap.size = w.heap.size + 1 by simp] at this
  obtain ⟨W1, hW1⟩ : ∃ W1, W1 = (w.alloc (.cells #[.int .i64 v, .slice K keys.length kc, .int .u64 fl, .int .i64 ex, .int .u64 tk, .int .u64 dl, .slice D dn dc, .bool nr, .bool lg, .slice M mn mc, str what] 32)).alloc (.cells x.cells 36) := ⟨_, rfl⟩
  rw [← hW1] at hal hbx hab
  have hft := fitsOf_any (hg.later hal) v fl ex tk dl D dn dc nr lg M mn mc what (hK.below hal) hkc hks (hx.below hal)
  rw [hf] at hft
  rw [if_neg (by rw [hf]; decide), if_neg (by rintro (e | e); rw [hn] at e; cases e; exact absurd (hk.symm.trans e) (by decide))] at hr
  rw [show Sp.answerW v x.v = Sp.lineR [Sp.versionV, x.text] by unfold Sp.answerW; rw [if_neg (by show x.kind ≠ 9; omega), if_neg (by show x.kind ≠ 7; omega), if_pos (show x.v.kind = 10 from hk)]; rfl] at hr
  have h512 : x.text.length ≤ 512 := (Sp.plain_last ((Sp.fits_form hf).2.2.2.2.2.2.2.1 hk)).1
  clear hf
  obtain ⟨kind, E, ec, xs, number, text, S, sc, stats⟩ := x
  dsimp only [AnsX.val, AnsX.cells] at hW1 hab hft ⊢
  dsimp only at hk
  subst hn
  subst hk
  obtain ⟨bx, hbe⟩ : ∃ bx, bx = w.heap.size := ⟨_, rfl⟩
  obtain ⟨ab, hae⟩ : ∃ ab, ab = w.heap.size + 1 := ⟨_, rfl⟩
  rw [← hbe] at hbx
  rw [← hae] at hab
  have y0 := hbx.cell 0
  have y1 := hbx.cell 1
  have y2 := hbx.cell 2
  have y3 := hbx.cell 3
  have y4 := hbx.cell 4
  have y5 := hbx.cell 5
  have y6 := hbx.cell 6
  have y7 := hbx.cell 7
  have y8 := hbx.cell 8
  have y9 := hbx.cell 9
  have y10 := hbx.cell 10
  have q0 := hab.cell 0
  have q1 := hab.cell 1
  have q2 := hab.cell 2
  have q3 := hab.cell 3
  have q4 := hab.cell 4
  simp only [List.getElem?_toArray, List.getElem?_cons_zero, List.getElem?_cons_succ] at y0 y1 y2 y3 y4 y5 y6 y7 y8 y9 y10 q0 q1 q2 q3 q4
  have HR := Lib.hid hR
  have HIN := Lib.hid hx
  have HG := Lib.hid hg
  have HFT := Lib.hid hft
  have HAL := Lib.hid hal
  have HBX := Lib.hid hbx
  have HAB := Lib.hid hab
  have HW1 := Lib.hid hW1
  have HBE := Lib.hid hbe
  have HAE := Lib.hid hae
  have HRR := Lib.hid hr
  clear hR hx hg hft hal hbx hab hW1 hbe hae hr hK hkc hks
  have hps := (by have := h512; simp only at this; simp [List.intercalate, List.intersperse, Sp.versionV]; omega : ([32].intercalate [Sp.versionV, text] : Sp.Bs).length ≤ 100000000)
  have HPS := Lib.hid hps
  clear hps
  go_enter Tryz.func15, Tryz.ntmps15
  go_upto_region 1 with fail
  rw [← HW1.out, ← HAE.out, ← HBE.out]
  go_wp2_with (first | (go_at_call 14; refine HFT.out.mono ?_; rintro e w1 ⟨rfl, hb1⟩; have hbx1 := HBX.out.later hb1; have hab1 := HAB.out.later hb1; have b0 := hbx1.cell 0; have b7 := hbx1.cell 7; have a0 := hab1.cell 0; have a1 := hab1.cell 1; have a2 := hab1.cell 2; have a3 := hab1.cell 3; have a4 := hab1.cell 4; simp only [List.getElem?_toArray, List.getElem?_cons_zero, List.getElem?_cons_succ] at b0 b7 a0 a1 a2 a3 a4; have HB1 := Lib.hid (HAL.out.trans (hb1.mono HAL.out.size)); have hs1 := (HAL.out.trans (hb1.mono HAL.out.size)).size; clear hb1 hbx1 hab1) | (go_at_call 49; refine (line_reply (base := w.heap.size) (ov := nilRow) (l := []) (w := w1.alloc (.cells #[str Sp.versionV, str text] 9)) (World.ownsRow_nil _ _ _ 1) (by have := (HB1.out.alloc HB1.out.size (.cells #[str Sp.versionV, str text] 9)).size; exact this) (P := some ⟨w1.heap.size, 0, none⟩) (pc := 2) (ps := [Sp.versionV, text]) (row_new w1 rfl 9 [str Sp.versionV, str text]) (Nat.le_refl _) (by simp) HPS.out (by simp)).mono ?_; rintro e w9 ⟨O, oc, rfl, hown9, hg9⟩; have HOWN9 := Lib.hid hown9; have HB9 := Lib.hid ((HB1.out.alloc HB1.out.size (.cells #[str Sp.versionV, str text] 9)).trans ((Below.of_grown_none hg9).mono (by have := (HB1.out.alloc HB1.out.size (.cells #[str Sp.versionV, str text] 9)).size; exact this))); clear hown9 hg9))
  rw [← HR.out, HRR.out]
  exact ⟨O, oc, rfl, HOWN9.out, HB9.out⟩
set_option maxHeartbeats 16000000 in
set_option maxRecDepth 100000 in
theorem bytes_11 {w : World} (hg : GlobR w) (v : Int) {K : Option Addr} {keys : List Sp.Bs} {kc : Nat} (fl ex tk dl : Int) (D : Option Addr) (dn dc : Nat) (nr lg : Bool) (M : Option Addr) (mn mc : Nat) (what : Sp.Bs) (hK : RowAt w K (keys.map str)) (hkc : keys.length ≤ kc) (hks : keys.length ≤ 1000000000) {x : AnsX} (hx : AnsIn w x) (hf : Sp.fitsV v keys what x.v = true) (hn : nr = false) (hk : x.kind = 11) :
    Calls Tryz.prog 15 #[cmdA v K keys.length kc fl ex tk dl D dn dc nr lg M mn mc what, x.val] w (WroteK w (Sp.wroteV v keys what nr x.v)) := by
  obtain ⟨r, hr⟩ : ∃ r, r = Sp.wroteV v keys what nr x.v := ⟨_, rfl⟩
  rw [← hr]
  unfold Sp.wroteV at hr
  generalize hR : WroteK w r = R
  have hal : Below w.heap.size w ((w.alloc (.cells #[.int .i64 v, .slice K keys.length kc, .int .u64 fl, .int .i64 ex, .int .u64 tk, .int .u64 dl, .slice D dn dc, .bool nr, .bool lg, .slice M mn mc, str what] 32)).alloc (.cells x.cells 36)) := ((Below.refl _ _).alloc (Nat.le_refl _) _).alloc (by simp) _
  have hbx : Blk ((w.alloc (.cells #[.int .i64 v, .slice K keys.length kc, .int .u64 fl, .int .i64 ex, .int .u64 tk, .int .u64 dl, .slice D dn dc, .bool nr, .bool lg, .slice M mn mc, str what] 32)).alloc (.cells x.cells 36)) w.heap.size 32 #[.int .i64 v, .slice K keys.length kc, .int .u64 fl, .int .i64 ex, .int .u64 tk, .int .u64 dl, .slice D dn dc, .bool nr, .bool lg, .slice M mn mc, str what] := (Blk.new w _ _).alloc _
  have hab : Blk ((w.alloc (.cells #[.int .i64 v, .slice K keys.length kc, .int .u64 fl, .int .i64 ex, .int .u64 tk, .int .u64 dl, .slice D dn dc, .bool nr, .bool lg, .slice M mn mc, str what] 32)).alloc (.cells x.cells 36)) (w.heap.size + 1) 36 x.cells := by
    have := Blk.new (w.alloc (.cells #[.int .i64 v, .slice K keys.length kc, .int .u64 fl, .int .i64 ex, .int .u64 tk, .int .u64 dl, .slice D dn dc, .bool nr, .bool lg, .slice M mn mc, str what] 32)) 36 x.cells
    rwa [show (w.alloc (.cells #[.int .i64 v, .slice K keys.length kc, .int .u64 fl, .int .i64 ex, .int .u64 tk, .int .u64 dl, .slice D dn dc, .bool nr, .bool lg, .slice M mn mc, str what] 32)).heap.size = w.heap.size + 1 by simp] at this
  obtain ⟨W1, hW1⟩ : ∃ W1, W1 = (w.alloc (.cells #[.int .i64 v, .slice K keys.length kc, .int .u64 fl, .int .i64 ex, .int .u64 tk, .int .u64 dl, .slice D dn dc, .bool nr, .bool lg, .slice M mn mc, str what] 32)).alloc (.cells x.cells 36) := ⟨_, rfl⟩
  rw [← hW1] at hal hbx hab
  have hft := fitsOf_any (hg.later hal) v fl ex tk dl D dn dc nr lg M mn mc what (hK.below hal) hkc hks (hx.below hal)
  rw [hf] at hft
  rw [if_neg (by rw [hf]; decide), if_neg (by rintro (e | e); rw [hn] at e; cases e; exact absurd (hk.symm.trans e) (by decide))] at hr
  rw [show Sp.answerW v x.v = Sp.lineR [x.text] by unfold Sp.answerW; rw [if_neg (by show x.kind ≠ 9; omega), if_neg (by show x.kind ≠ 7; omega), if_neg (by show x.kind ≠ 10; omega), if_pos (show x.v.kind = 11 from hk)]; rfl] at hr
  clear hf
  obtain ⟨kind, E, ec, xs, number, text, S, sc, stats⟩ := x
  dsimp only [AnsX.val, AnsX.cells] at hW1 hab hft ⊢
  dsimp only at hk
  subst hn
  subst hk
  obtain ⟨bx, hbe⟩ : ∃ bx, bx = w.heap.size := ⟨_, rfl⟩
  obtain ⟨ab, hae⟩ : ∃ ab, ab = w.heap.size + 1 := ⟨_, rfl⟩
  rw [← hbe] at hbx
  rw [← hae] at hab
  have y0 := hbx.cell 0
  have y1 := hbx.cell 1
  have y2 := hbx.cell 2
  have y3 := hbx.cell 3
  have y4 := hbx.cell 4
  have y5 := hbx.cell 5
  have y6 := hbx.cell 6
  have y7 := hbx.cell 7
  have y8 := hbx.cell 8
  have y9 := hbx.cell 9
  have y10 := hbx.cell 10
  have q0 := hab.cell 0
  have q1 := hab.cell 1
  have q2 := hab.cell 2
  have q3 := hab.cell 3
  have q4 := hab.cell 4
  simp only [List.getElem?_toArray, List.getElem?_cons_zero, List.getElem?_cons_succ] at y0 y1 y2 y3 y4 y5 y6 y7 y8 y9 y10 q0 q1 q2 q3 q4
  have HR := Lib.hid hR
  have HIN := Lib.hid hx
  have HG := Lib.hid hg
  have HFT := Lib.hid hft
  have HAL := Lib.hid hal
  have HBX := Lib.hid hbx
  have HAB := Lib.hid hab
  have HW1 := Lib.hid hW1
  have HBE := Lib.hid hbe
  have HAE := Lib.hid hae
  have HRR := Lib.hid hr
  clear hR hx hg hft hal hbx hab hW1 hbe hae hr hK hkc hks
  have hps := (by have := HIN.out.text; simp only at this; simp [List.intercalate, List.intersperse]; omega : ([32].intercalate [text] : Sp.Bs).length ≤ 100000000)
  have HPS := Lib.hid hps
  clear hps
  go_enter Tryz.func15, Tryz.ntmps15
  go_upto_region 1 with fail
  rw [← HW1.out, ← HAE.out, ← HBE.out]
  go_wp2_with (first | (go_at_call 14; refine HFT.out.mono ?_; rintro e w1 ⟨rfl, hb1⟩; have hbx1 := HBX.out.later hb1; have hab1 := HAB.out.later hb1; have b0 := hbx1.cell 0; have b7 := hbx1.cell 7; have a0 := hab1.cell 0; have a1 := hab1.cell 1; have a2 := hab1.cell 2; have a3 := hab1.cell 3; have a4 := hab1.cell 4; simp only [List.getElem?_toArray, List.getElem?_cons_zero, List.getElem?_cons_succ] at b0 b7 a0 a1 a2 a3 a4; have HB1 := Lib.hid (HAL.out.trans (hb1.mono HAL.out.size)); have hs1 := (HAL.out.trans (hb1.mono HAL.out.size)).size; clear hb1 hbx1 hab1) | (go_at_call 49; refine (line_reply (base := w.heap.size) (ov := nilRow) (l := []) (w := w1.alloc (.cells #[str text] 9)) (World.ownsRow_nil _ _ _ 1) (by have := (HB1.out.alloc HB1.out.size (.cells #[str text] 9)).size; exact this) (P := some ⟨w1.heap.size, 0, none⟩) (pc := 1) (ps := [text]) (row_new w1 rfl 9 [str text]) (Nat.le_refl _) (by simp) HPS.out (by simp)).mono ?_; rintro e w9 ⟨O, oc, rfl, hown9, hg9⟩; have HOWN9 := Lib.hid hown9; have HB9 := Lib.hid ((HB1.out.alloc HB1.out.size (.cells #[str text] 9)).trans ((Below.of_grown_none hg9).mono (by have := (HB1.out.alloc HB1.out.size (.cells #[str text] 9)).size; exact this))); clear hown9 hg9))
  rw [← HR.out, HRR.out]
  exact ⟨O, oc, rfl, HOWN9.out, HB9.out⟩
set_option maxHeartbeats 16000000 in
set_option maxRecDepth 100000 in
theorem bytes_fixed {w : World} (hg : GlobR w) (v : Int) {K : Option Addr} {keys : List Sp.Bs} {kc : Nat} (fl ex tk dl : Int) (D : Option Addr) (dn dc : Nat) (nr lg : Bool) (M : Option Addr) (mn mc : Nat) (what : Sp.Bs) (hK : RowAt w K (keys.map str)) (hkc : keys.length ≤ kc) (hks : keys.length ≤ 1000000000) {x : AnsX} (hx : AnsIn w x) (hf : Sp.fitsV v keys what x.v = true) (hn : nr = false) (hk : x.kind ≠ 7 ∧ x.kind ≠ 9 ∧ x.kind ≠ 10 ∧ x.kind ≠ 11 ∧ x.kind ≠ 12 ∧ x.kind ≠ 13 ∧ x.kind ≠ 15) :
    Calls Tryz.prog 15 #[cmdA v K keys.length kc fl ex tk dl D dn dc nr lg M mn mc what, x.val] w (WroteK w (Sp.wroteV v keys what nr x.v)) := by
  obtain ⟨r, hr⟩ : ∃ r, r = Sp.wroteV v keys what nr x.v := ⟨_, rfl⟩
  rw [← hr]
  unfold Sp.wroteV at hr
  generalize hR : WroteK w r = R
  have hal : Below w.heap.size w ((w.alloc (.cells #[.int .i64 v, .slice K keys.length kc, .int .u64 fl, .int .i64 ex, .int .u64 tk, .int .u64 dl, .slice D dn dc, .bool nr, .bool lg, .slice M mn mc, str what] 32)).alloc (.cells x.cells 36)) := ((Below.refl _ _).alloc (Nat.le_refl _) _).alloc (by simp) _
  have hbx : Blk ((w.alloc (.cells #[.int .i64 v, .slice K keys.length kc, .int .u64 fl, .int .i64 ex, .int .u64 tk, .int .u64 dl, .slice D dn dc, .bool nr, .bool lg, .slice M mn mc, str what] 32)).alloc (.cells x.cells 36)) w.heap.size 32 #[.int .i64 v, .slice K keys.length kc, .int .u64 fl, .int .i64 ex, .int .u64 tk, .int .u64 dl, .slice D dn dc, .bool nr, .bool lg, .slice M mn mc, str what] := (Blk.new w _ _).alloc _
  have hab : Blk ((w.alloc (.cells #[.int .i64 v, .slice K keys.length kc, .int .u64 fl, .int .i64 ex, .int .u64 tk, .int .u64 dl, .slice D dn dc, .bool nr, .bool lg, .slice M mn mc, str what] 32)).alloc (.cells x.cells 36)) (w.heap.size + 1) 36 x.cells := by
    have := Blk.new (w.alloc (.cells #[.int .i64 v, .slice K keys.length kc, .int .u64 fl, .int .i64 ex, .int .u64 tk, .int .u64 dl, .slice D dn dc, .bool nr, .bool lg, .slice M mn mc, str what] 32)) 36 x.cells
    rwa [show (w.alloc (.cells #[.int .i64 v, .slice K keys.length kc, .int .u64 fl, .int .i64 ex, .int .u64 tk, .int .u64 dl, .slice D dn dc, .bool nr, .bool lg, .slice M mn mc, str what] 32)).heap.size = w.heap.size + 1 by simp] at this
  obtain ⟨W1, hW1⟩ : ∃ W1, W1 = (w.alloc (.cells #[.int .i64 v, .slice K keys.length kc, .int .u64 fl, .int .i64 ex, .int .u64 tk, .int .u64 dl, .slice D dn dc, .bool nr, .bool lg, .slice M mn mc, str what] 32)).alloc (.cells x.cells 36) := ⟨_, rfl⟩
  rw [← hW1] at hal hbx hab
  have hft := fitsOf_any (hg.later hal) v fl ex tk dl D dn dc nr lg M mn mc what (hK.below hal) hkc hks (hx.below hal)
  rw [hf] at hft
  rw [if_neg (by rw [hf]; decide), if_neg (by rintro (e | e); rw [hn] at e; cases e; exact hk.2.2.2.2.1 e)] at hr
  rw [show Sp.answerW v x.v = Sp.lineR [Sp.fixedV x.kind] by unfold Sp.answerW; rw [if_neg (show x.v.kind ≠ 9 from hk.2.1), if_neg (show x.v.kind ≠ 7 from hk.1), if_neg (show x.v.kind ≠ 10 from hk.2.2.1), if_neg (show x.v.kind ≠ 11 from hk.2.2.2.1), if_neg (show x.v.kind ≠ 13 from hk.2.2.2.2.2.1), if_neg (show x.v.kind ≠ 15 from hk.2.2.2.2.2.2)]; rfl] at hr
  clear hf
  obtain ⟨kind, E, ec, xs, number, text, S, sc, stats⟩ := x
  dsimp only [AnsX.val, AnsX.cells] at hW1 hab hft ⊢
  dsimp only at hk
  subst hn
  obtain ⟨k7, k9, k10, k11, k12, k13, k15⟩ := hk
  have e7 : (kind == 7) = false := by simpa using k7
  have e9 : (kind == 9) = false := by simpa using k9
  have e10 : (kind == 10) = false := by simpa using k10
  have e11 : (kind == 11) = false := by simpa using k11
  have e12 : (kind == 12) = false := by simpa using k12
  have e13 : (kind == 13) = false := by simpa using k13
  have e15 : (kind == 15) = false := by simpa using k15
  obtain ⟨bx, hbe⟩ : ∃ bx, bx = w.heap.size := ⟨_, rfl⟩
  obtain ⟨ab, hae⟩ : ∃ ab, ab = w.heap.size + 1 := ⟨_, rfl⟩
  rw [← hbe] at hbx
  rw [← hae] at hab
  have y0 := hbx.cell 0
  have y1 := hbx.cell 1
  have y2 := hbx.cell 2
  have y3 := hbx.cell 3
  have y4 := hbx.cell 4
  have y5 := hbx.cell 5
  have y6 := hbx.cell 6
  have y7 := hbx.cell 7
  have y8 := hbx.cell 8
  have y9 := hbx.cell 9
  have y10 := hbx.cell 10
  have q0 := hab.cell 0
  have q1 := hab.cell 1
  have q2 := hab.cell 2
  have q3 := hab.cell 3
  have q4 := hab.cell 4
  simp only [List.getElem?_toArray, List.getElem?_cons_zero, List.getElem?_cons_succ] at y0 y1 y2 y3 y4 y5 y6 y7 y8 y9 y10 q0 q1 q2 q3 q4
  have HR := Lib.hid hR
  have HIN := Lib.hid hx
  have HG := Lib.hid hg
  have HFT := Lib.hid hft
  have HAL := Lib.hid hal
  have HBX := Lib.hid hbx
  have HAB := Lib.hid hab
  have HW1 := Lib.hid hW1
  have HBE := Lib.hid hbe
  have HAE := Lib.hid hae
  have HRR := Lib.hid hr
  clear hR hx hg hft hal hbx hab hW1 hbe hae hr hK hkc hks
  have hps := (by have := fixed_short kind; simp [List.intercalate, List.intersperse]; omega : ([32].intercalate [Sp.fixedV kind] : Sp.Bs).length ≤ 100000000)
  have HPS := Lib.hid hps
  clear hps
  clear k7 k9 k10 k11 k12 k13 k15
  go_enter Tryz.func15, Tryz.ntmps15
  go_upto_region 1 with fail
  rw [← HW1.out, ← HAE.out, ← HBE.out]
  go_wp2_with (first | (go_at_call 14; refine HFT.out.mono ?_; rintro e w1 ⟨rfl, hb1⟩; have hbx1 := HBX.out.later hb1; have hab1 := HAB.out.later hb1; have b0 := hbx1.cell 0; have b7 := hbx1.cell 7; have a0 := hab1.cell 0; have a1 := hab1.cell 1; have a2 := hab1.cell 2; have a3 := hab1.cell 3; have a4 := hab1.cell 4; simp only [List.getElem?_toArray, List.getElem?_cons_zero, List.getElem?_cons_succ] at b0 b7 a0 a1 a2 a3 a4; have HB1 := Lib.hid (HAL.out.trans (hb1.mono HAL.out.size)); have hs1 := (HAL.out.trans (hb1.mono HAL.out.size)).size; clear hb1 hbx1 hab1) | (go_at_call 50; refine (fixed_any kind w1).mono ?_; rintro e w2 ⟨rfl, rfl⟩) | (go_at_call 49; refine (line_reply (base := w.heap.size) (ov := nilRow) (l := []) (w := w1.alloc (.cells #[str (Sp.fixedV kind)] 9)) (World.ownsRow_nil _ _ _ 1) (by have := (HB1.out.alloc HB1.out.size (.cells #[str (Sp.fixedV kind)] 9)).size; exact this) (P := some ⟨w1.heap.size, 0, none⟩) (pc := 1) (ps := [Sp.fixedV kind]) (row_new w1 rfl 9 [str (Sp.fixedV kind)]) (Nat.le_refl _) (by simp) HPS.out (by simp)).mono ?_; rintro e w9 ⟨O, oc, rfl, hown9, hg9⟩; have HOWN9 := Lib.hid hown9; have HB9 := Lib.hid ((HB1.out.alloc HB1.out.size (.cells #[str (Sp.fixedV kind)] 9)).trans ((Below.of_grown_none hg9).mono (by have := (HB1.out.alloc HB1.out.size (.cells #[str (Sp.fixedV kind)] 9)).size; exact this))); clear hown9 hg9))
  rw [← HR.out, HRR.out]
  exact ⟨O, oc, rfl, HOWN9.out, HB9.out⟩
end Go.Proofs.YtnbeeehfapjpdaaGreatDoor
