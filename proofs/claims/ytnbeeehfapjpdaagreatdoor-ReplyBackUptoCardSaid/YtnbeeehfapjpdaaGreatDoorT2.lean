/- Walk of the statement ReplyBack. Printed by gen/genT2.py. -/
import Derived.Test.YtnbeeehfapjpdaaGreatDoorT1
import Derived.Test.YtnbeeehfapjpdaaGreatDoorU6
namespace Go.Proofs.YtnbeeehfapjpdaaGreatDoor
attribute [local go_sem ↓] Go.wp_at_zero Go.wp_at_succ
open Go.RowKit

/-- two boxes of two types, made one behind the other -/
structure TwoBoxes (w W : World) (a b : Nat) (ta : TypeId) (ca : Array Value) (tb : TypeId) (cb : Array Value) : Prop where
  below : Below w.heap.size w W
  fst : Blk W a ta ca
  snd : Blk W b tb cb
theorem twoBoxesA (w : World) (ta tb : TypeId) (ca cb : Array Value) : TwoBoxes w ((w.alloc (.cells ca ta)).alloc (.cells cb tb)).drew w.heap.size (w.heap.size + 1) ta ca tb cb := by
  have h2 := Blk.new (w.alloc (.cells ca ta)) tb cb
  rw [show (w.alloc (.cells ca ta)).heap.size = w.heap.size + 1 by simp] at h2
  exact ⟨(((Below.refl _ _).alloc (Nat.le_refl _) _).alloc (by simp) _).drew, ((Blk.new w _ _).alloc _).drew, h2.drew⟩
theorem twoBoxesB (w : World) (ta tb : TypeId) (ca cb : Array Value) : TwoBoxes w ((w.alloc (.cells cb tb)).alloc (.cells ca ta)).drew (w.heap.size + 1) w.heap.size ta ca tb cb := ⟨(twoBoxesA w tb ta cb ca).below, (twoBoxesA w tb ta cb ca).snd, (twoBoxesA w tb ta cb ca).fst⟩
/-- what came in -/
structure BackH (w : World) (v : Int) (K : Option Addr) (keys : List Sp.Bs) (kc : Nat) (R : AnsX) (B : Option Addr) (bc : Nat) (beh : Sp.Bs) (A : Option Addr) (ks : List Int) : Prop where
  glob : GlobR w
  krow : RowAt w K (keys.map str)
  room : keys.length ≤ kc
  kold : keys ≠ [] → ∀ a, K = some a → a.block < w.heap.size
  short : keys.length ≤ 1048576 ∧ ∀ k ∈ keys, k.length ≤ 1048576
  ans : AnsGood w R
  row : RowAt w B (bytesV beh)
  null : B = none → bc = 0
  few : beh.length ≤ 1048576
  ksrow : RowAt w A (ks.map (Value.int .i64))
  kn : ks.length ≤ 1048576
  kb : ∀ x ∈ ks, -9223372036854775808 ≤ x ∧ x ≤ 9223372036854775807
set_option maxHeartbeats 16000000 in
set_option maxRecDepth 100000 in
theorem back_long {w : World} {v : Int} {K : Option Addr} {keys : List Sp.Bs} {kc : Nat} {fl ex tk dl : Int} {D : Option Addr} {dn dc : Nat} {nr lg : Bool} {M : Option Addr} {mn mc : Nat} {what : Sp.Bs} {R : AnsX} {B : Option Addr} {bc : Nat} {beh : Sp.Bs} {A : Option Addr} {ac : Nat} {ks : List Int} (hx : BackH w v K keys kc R B bc beh A ks) (hl : 65536 < beh.length) :
    Calls Tryz.prog 6 #[.agg #[.int .i64 v, .slice K keys.length kc, .int .u64 fl, .int .i64 ex, .int .u64 tk, .int .u64 dl, .slice D dn dc, .bool nr, .bool lg, .slice M mn mc, str what, .int .i64 R.kind, .slice R.E R.xs.length R.ec, .int .u64 R.number, str R.text, .slice R.S R.stats.length R.sc, .slice B beh.length bc, .slice A ks.length ac]] w fun e w' => e = .returned (.bool true) ∧ Below w.heap.size w w' := by
  generalize hR : (fun (e : Ending) (w' : World) => e = .returned (.bool true) ∧ Below w.heap.size w w') = RR
  have hal : Below w.heap.size w (w.alloc (.cells #[.int .i64 v, .slice K keys.length kc, .int .u64 fl, .int .i64 ex, .int .u64 tk, .int .u64 dl, .slice D dn dc, .bool nr, .bool lg, .slice M mn mc, str what, .int .i64 R.kind, .slice R.E R.xs.length R.ec, .int .u64 R.number, str R.text, .slice R.S R.stats.length R.sc, .slice B beh.length bc, .slice A ks.length ac] 76)) := (Below.refl _ _).alloc (Nat.le_refl _) _
  have hqx := Blk.new w 76 #[.int .i64 v, .slice K keys.length kc, .int .u64 fl, .int .i64 ex, .int .u64 tk, .int .u64 dl, .slice D dn dc, .bool nr, .bool lg, .slice M mn mc, str what, .int .i64 R.kind, .slice R.E R.xs.length R.ec, .int .u64 R.number, str R.text, .slice R.S R.stats.length R.sc, .slice B beh.length bc, .slice A ks.length ac]
  obtain ⟨W1, hW1⟩ : ∃ W1, W1 = w.alloc (.cells #[.int .i64 v, .slice K keys.length kc, .int .u64 fl, .int .i64 ex, .int .u64 tk, .int .u64 dl, .slice D dn dc, .bool nr, .bool lg, .slice M mn mc, str what, .int .i64 R.kind, .slice R.E R.xs.length R.ec, .int .u64 R.number, str R.text, .slice R.S R.stats.length R.sc, .slice B beh.length bc, .slice A ks.length ac] 76) := ⟨_, rfl⟩
  rw [← hW1] at hal hqx
  obtain ⟨qx, hqe⟩ : ∃ qx, qx = w.heap.size := ⟨_, rfl⟩
  rw [← hqe] at hqx
  have hks : ∀ W : World, Below W1.heap.size W1 W → W.cell? ⟨qx, 0, none⟩ = some (.int .i64 v) ∧ W.cell? ⟨qx, 1, none⟩ = some (.slice K keys.length kc) ∧ W.cell? ⟨qx, 2, none⟩ = some (.int .u64 fl) ∧ W.cell? ⟨qx, 3, none⟩ = some (.int .i64 ex) ∧ W.cell? ⟨qx, 4, none⟩ = some (.int .u64 tk) ∧ W.cell? ⟨qx, 5, none⟩ = some (.int .u64 dl) ∧ W.cell? ⟨qx, 6, none⟩ = some (.slice D dn dc) ∧ W.cell? ⟨qx, 7, none⟩ = some (.bool nr) ∧ W.cell? ⟨qx, 8, none⟩ = some (.bool lg) ∧ W.cell? ⟨qx, 9, none⟩ = some (.slice M mn mc) ∧ W.cell? ⟨qx, 10, none⟩ = some (str what) ∧ W.cell? ⟨qx, 11, none⟩ = some (.int .i64 R.kind) ∧ W.cell? ⟨qx, 12, none⟩ = some (.slice R.E R.xs.length R.ec) ∧ W.cell? ⟨qx, 13, none⟩ = some (.int .u64 R.number) ∧ W.cell? ⟨qx, 14, none⟩ = some (str R.text) ∧ W.cell? ⟨qx, 15, none⟩ = some (.slice R.S R.stats.length R.sc) := fun W hW => ⟨(hqx.later hW).cell 0, (hqx.later hW).cell 1, (hqx.later hW).cell 2, (hqx.later hW).cell 3, (hqx.later hW).cell 4, (hqx.later hW).cell 5, (hqx.later hW).cell 6, (hqx.later hW).cell 7, (hqx.later hW).cell 8, (hqx.later hW).cell 9, (hqx.later hW).cell 10, (hqx.later hW).cell 11, (hqx.later hW).cell 12, (hqx.later hW).cell 13, (hqx.later hW).cell 14, (hqx.later hW).cell 15⟩
  have hsm : ∀ W : World, Below w.heap.size w W → Calls Tryz.prog 10 #[R.val] W fun e w' => e = .returned (.bool true) ∧ Below W.heap.size W w' := fun W hW => small_any (hx.ans.below hW)
  have hnm := fun (n : Int) (W : World) => num13_any n W
  have hwk : ∀ W : World, Below w.heap.size w W → Calls Tryz.prog 23 #[] W fun e w' => e = .returned (.bool true) ∧ Below W.heap.size W w' := fun W hW => wakes13_any (hx.glob.later hW)
  have hl1 : (65536 : Int) < (beh.length : Int) := by omega
  clear hl
  have HR := Lib.hid hR
  have HX := Lib.hid hx
  have HAL := Lib.hid hal
  have HQX := Lib.hid hqx
  have HW1 := Lib.hid hW1
  have HQE := Lib.hid hqe
  have HKS := Lib.hid hks
  have HSM := Lib.hid hsm
  have HNM := Lib.hid hnm
  have HWK := Lib.hid hwk
  clear hR hx hal hqx hW1 hqe hks hsm hnm hwk
  go_enter Tryz.func6, Tryz.ntmps6
  go_upto_region 1 with fail
  rw [← HW1.out, ← HQE.out]
  go_cut [3, 4] (fun p q wx => ∃ ca aa : Nat, p = .pointer (some ⟨ca, 0, none⟩) ∧ q = .pointer (some ⟨aa, 0, none⟩) ∧ TwoBoxes W1 wx ca aa 32 #[.int .i64 v, .slice K keys.length kc, .int .u64 fl, .int .i64 ex, .int .u64 tk, .int .u64 dl, .slice D dn dc, .bool nr, .bool lg, .slice M mn mc, str what] 36 #[.int .i64 R.kind, .slice R.E R.xs.length R.ec, .int .u64 R.number, str R.text, .slice R.S R.stats.length R.sc])
  case first =>
    go_region_held3 (fun w' => w'.cell? ⟨qx, 0, none⟩ = some (.int .i64 v) ∧ w'.cell? ⟨qx, 1, none⟩ = some (.slice K keys.length kc) ∧ w'.cell? ⟨qx, 2, none⟩ = some (.int .u64 fl) ∧ w'.cell? ⟨qx, 3, none⟩ = some (.int .i64 ex) ∧ w'.cell? ⟨qx, 4, none⟩ = some (.int .u64 tk) ∧ w'.cell? ⟨qx, 5, none⟩ = some (.int .u64 dl) ∧ w'.cell? ⟨qx, 6, none⟩ = some (.slice D dn dc) ∧ w'.cell? ⟨qx, 7, none⟩ = some (.bool nr) ∧ w'.cell? ⟨qx, 8, none⟩ = some (.bool lg) ∧ w'.cell? ⟨qx, 9, none⟩ = some (.slice M mn mc) ∧ w'.cell? ⟨qx, 10, none⟩ = some (str what) ∧ w'.cell? ⟨qx, 11, none⟩ = some (.int .i64 R.kind) ∧ w'.cell? ⟨qx, 12, none⟩ = some (.slice R.E R.xs.length R.ec) ∧ w'.cell? ⟨qx, 13, none⟩ = some (.int .u64 R.number) ∧ w'.cell? ⟨qx, 14, none⟩ = some (str R.text) ∧ w'.cell? ⟨qx, 15, none⟩ = some (.slice R.S R.stats.length R.sc)) (first | exact HKS.out _ (Below.refl _ _) | exact HKS.out _ (Below.refl _ _).drew | exact HKS.out _ ((Below.refl _ _).alloc (Nat.le_refl _) _) | exact HKS.out _ ((Below.refl _ _).drew.alloc (Nat.le_refl _) _) | exact HKS.out _ (((Below.refl _ _).drew.alloc (Nat.le_refl _) _).alloc (by simp) _) | exact HKS.out _ (((Below.refl _ _).alloc (Nat.le_refl _) _).alloc (by simp) _)) (fail)
    all_goals
      go_wp2_with fail
      go_meet
      first
        | exact ⟨_, _, rfl, rfl, twoBoxesA _ _ _ _ _⟩
        | exact ⟨_, _, rfl, rfl, twoBoxesB _ _ _ _ _⟩
  case rest =>
    obtain ⟨ca, aa, rfl, rfl, htw⟩ := hcut
    obtain ⟨W2, hW2⟩ : ∃ W2, W2 = wc := ⟨_, rfl⟩
    rw [← hW2] at htw ⊢
    clear hW2
    have hb2 : Below w.heap.size w W2 := HAL.out.trans (htw.below.mono HAL.out.size)
    have q16 : ∀ W : World, Below W2.heap.size W2 W → W.cell? ⟨qx, 16, none⟩ = some (.slice B beh.length bc) := fun W hW => ((HQX.out.later htw.below).later hW).cell 16
    have q17 : ∀ W : World, Below W2.heap.size W2 W → W.cell? ⟨qx, 17, none⟩ = some (.slice A ks.length ac) := fun W hW => ((HQX.out.later htw.below).later hW).cell 17
    have c0 : ∀ W : World, Below W2.heap.size W2 W → W.cell? ⟨ca, 0, none⟩ = some (.int .i64 v) := fun W hW => (htw.fst.later hW).cell 0
    have c1 : ∀ W : World, Below W2.heap.size W2 W → W.cell? ⟨ca, 1, none⟩ = some (.slice K keys.length kc) := fun W hW => (htw.fst.later hW).cell 1
    have c2 : ∀ W : World, Below W2.heap.size W2 W → W.cell? ⟨ca, 2, none⟩ = some (.int .u64 fl) := fun W hW => (htw.fst.later hW).cell 2
    have c3 : ∀ W : World, Below W2.heap.size W2 W → W.cell? ⟨ca, 3, none⟩ = some (.int .i64 ex) := fun W hW => (htw.fst.later hW).cell 3
    have c4 : ∀ W : World, Below W2.heap.size W2 W → W.cell? ⟨ca, 4, none⟩ = some (.int .u64 tk) := fun W hW => (htw.fst.later hW).cell 4
    have c5 : ∀ W : World, Below W2.heap.size W2 W → W.cell? ⟨ca, 5, none⟩ = some (.int .u64 dl) := fun W hW => (htw.fst.later hW).cell 5
    have c6 : ∀ W : World, Below W2.heap.size W2 W → W.cell? ⟨ca, 6, none⟩ = some (.slice D dn dc) := fun W hW => (htw.fst.later hW).cell 6
    have c7 : ∀ W : World, Below W2.heap.size W2 W → W.cell? ⟨ca, 7, none⟩ = some (.bool nr) := fun W hW => (htw.fst.later hW).cell 7
    have c8 : ∀ W : World, Below W2.heap.size W2 W → W.cell? ⟨ca, 8, none⟩ = some (.bool lg) := fun W hW => (htw.fst.later hW).cell 8
    have c9 : ∀ W : World, Below W2.heap.size W2 W → W.cell? ⟨ca, 9, none⟩ = some (.slice M mn mc) := fun W hW => (htw.fst.later hW).cell 9
    have c10 : ∀ W : World, Below W2.heap.size W2 W → W.cell? ⟨ca, 10, none⟩ = some (str what) := fun W hW => (htw.fst.later hW).cell 10
    have d0 : ∀ W : World, Below W2.heap.size W2 W → W.cell? ⟨aa, 0, none⟩ = some (.int .i64 R.kind) := fun W hW => (htw.snd.later hW).cell 0
    have d1 : ∀ W : World, Below W2.heap.size W2 W → W.cell? ⟨aa, 1, none⟩ = some (.slice R.E R.xs.length R.ec) := fun W hW => (htw.snd.later hW).cell 1
    have d2 : ∀ W : World, Below W2.heap.size W2 W → W.cell? ⟨aa, 2, none⟩ = some (.int .u64 R.number) := fun W hW => (htw.snd.later hW).cell 2
    have d3 : ∀ W : World, Below W2.heap.size W2 W → W.cell? ⟨aa, 3, none⟩ = some (str R.text) := fun W hW => (htw.snd.later hW).cell 3
    have d4 : ∀ W : World, Below W2.heap.size W2 W → W.cell? ⟨aa, 4, none⟩ = some (.slice R.S R.stats.length R.sc) := fun W hW => (htw.snd.later hW).cell 4
    have hr2 : Below W2.heap.size W2 W2 := Below.refl _ _
    have HB2 := Lib.hid hb2
    have HTW := Lib.hid htw
    clear htw hb2
    go_wp2_with (go_at_call 10; refine (HSM.out _ HB2.out).mono ?_; rintro e w3 ⟨rfl, hb3⟩)
    rw [← HR.out]
    exact ⟨rfl, HB2.out.trans (hb3.mono HB2.out.size)⟩
set_option maxHeartbeats 16000000 in
set_option maxRecDepth 100000 in
theorem back_unfit {w : World} {v : Int} {K : Option Addr} {keys : List Sp.Bs} {kc : Nat} {fl ex tk dl : Int} {D : Option Addr} {dn dc : Nat} {nr lg : Bool} {M : Option Addr} {mn mc : Nat} {what : Sp.Bs} {R : AnsX} {B : Option Addr} {bc : Nat} {beh : Sp.Bs} {A : Option Addr} {ac : Nat} {ks : List Int} (hx : BackH w v K keys kc R B bc beh A ks) (hl : ¬ 65536 < beh.length) (hf : Sp.fitsV v keys what R.v = false) :
    Calls Tryz.prog 6 #[.agg #[.int .i64 v, .slice K keys.length kc, .int .u64 fl, .int .i64 ex, .int .u64 tk, .int .u64 dl, .slice D dn dc, .bool nr, .bool lg, .slice M mn mc, str what, .int .i64 R.kind, .slice R.E R.xs.length R.ec, .int .u64 R.number, str R.text, .slice R.S R.stats.length R.sc, .slice B beh.length bc, .slice A ks.length ac]] w fun e w' => e = .returned (.bool true) ∧ Below w.heap.size w w' := by
  generalize hR : (fun (e : Ending) (w' : World) => e = .returned (.bool true) ∧ Below w.heap.size w w') = RR
  have hal : Below w.heap.size w (w.alloc (.cells #[.int .i64 v, .slice K keys.length kc, .int .u64 fl, .int .i64 ex, .int .u64 tk, .int .u64 dl, .slice D dn dc, .bool nr, .bool lg, .slice M mn mc, str what, .int .i64 R.kind, .slice R.E R.xs.length R.ec, .int .u64 R.number, str R.text, .slice R.S R.stats.length R.sc, .slice B beh.length bc, .slice A ks.length ac] 76)) := (Below.refl _ _).alloc (Nat.le_refl _) _
  have hqx := Blk.new w 76 #[.int .i64 v, .slice K keys.length kc, .int .u64 fl, .int .i64 ex, .int .u64 tk, .int .u64 dl, .slice D dn dc, .bool nr, .bool lg, .slice M mn mc, str what, .int .i64 R.kind, .slice R.E R.xs.length R.ec, .int .u64 R.number, str R.text, .slice R.S R.stats.length R.sc, .slice B beh.length bc, .slice A ks.length ac]
  obtain ⟨W1, hW1⟩ : ∃ W1, W1 = w.alloc (.cells #[.int .i64 v, .slice K keys.length kc, .int .u64 fl, .int .i64 ex, .int .u64 tk, .int .u64 dl, .slice D dn dc, .bool nr, .bool lg, .slice M mn mc, str what, .int .i64 R.kind, .slice R.E R.xs.length R.ec, .int .u64 R.number, str R.text, .slice R.S R.stats.length R.sc, .slice B beh.length bc, .slice A ks.length ac] 76) := ⟨_, rfl⟩
  rw [← hW1] at hal hqx
  obtain ⟨qx, hqe⟩ : ∃ qx, qx = w.heap.size := ⟨_, rfl⟩
  rw [← hqe] at hqx
  have hks : ∀ W : World, Below W1.heap.size W1 W → W.cell? ⟨qx, 0, none⟩ = some (.int .i64 v) ∧ W.cell? ⟨qx, 1, none⟩ = some (.slice K keys.length kc) ∧ W.cell? ⟨qx, 2, none⟩ = some (.int .u64 fl) ∧ W.cell? ⟨qx, 3, none⟩ = some (.int .i64 ex) ∧ W.cell? ⟨qx, 4, none⟩ = some (.int .u64 tk) ∧ W.cell? ⟨qx, 5, none⟩ = some (.int .u64 dl) ∧ W.cell? ⟨qx, 6, none⟩ = some (.slice D dn dc) ∧ W.cell? ⟨qx, 7, none⟩ = some (.bool nr) ∧ W.cell? ⟨qx, 8, none⟩ = some (.bool lg) ∧ W.cell? ⟨qx, 9, none⟩ = some (.slice M mn mc) ∧ W.cell? ⟨qx, 10, none⟩ = some (str what) ∧ W.cell? ⟨qx, 11, none⟩ = some (.int .i64 R.kind) ∧ W.cell? ⟨qx, 12, none⟩ = some (.slice R.E R.xs.length R.ec) ∧ W.cell? ⟨qx, 13, none⟩ = some (.int .u64 R.number) ∧ W.cell? ⟨qx, 14, none⟩ = some (str R.text) ∧ W.cell? ⟨qx, 15, none⟩ = some (.slice R.S R.stats.length R.sc) := fun W hW => ⟨(hqx.later hW).cell 0, (hqx.later hW).cell 1, (hqx.later hW).cell 2, (hqx.later hW).cell 3, (hqx.later hW).cell 4, (hqx.later hW).cell 5, (hqx.later hW).cell 6, (hqx.later hW).cell 7, (hqx.later hW).cell 8, (hqx.later hW).cell 9, (hqx.later hW).cell 10, (hqx.later hW).cell 11, (hqx.later hW).cell 12, (hqx.later hW).cell 13, (hqx.later hW).cell 14, (hqx.later hW).cell 15⟩
  have hsm : ∀ W : World, Below w.heap.size w W → Calls Tryz.prog 10 #[R.val] W fun e w' => e = .returned (.bool true) ∧ Below W.heap.size W w' := fun W hW => small_any (hx.ans.below hW)
  have hnm := fun (n : Int) (W : World) => num13_any n W
  have hwk : ∀ W : World, Below w.heap.size w W → Calls Tryz.prog 23 #[] W fun e w' => e = .returned (.bool true) ∧ Below W.heap.size W w' := fun W hW => wakes13_any (hx.glob.later hW)
  have hby : ∀ W : World, Below w.heap.size w W → Calls Tryz.prog 15 #[cmdA v K keys.length kc fl ex tk dl D dn dc nr lg M mn mc what, R.val] W fun e w' => ∃ O oc, e = .returned (.tuple #[.slice O 0 oc, .int .i64 7]) ∧ w'.ownsRow W.heap.size 5 1 (.slice O 0 oc) 0 (bytesV []) ∧ Below W.heap.size W w' := fun W hW => by
    have h := bytesOf_any (hx.glob.later hW) v fl ex tk dl D dn dc nr lg M mn mc what (hx.krow.below hW) hx.room (by have := hx.short.1; omega) (hx.ans.mem.below hW) (by have := hx.ans.big v; omega)
    rw [show Sp.wroteV v keys what nr R.v = ([], 7) by unfold Sp.wroteV; rw [if_pos hf]] at h
    exact h
  have hft : ∀ W : World, Below w.heap.size w W → Calls Tryz.prog 14 #[cmdA v K keys.length kc fl ex tk dl D dn dc nr lg M mn mc what, R.val] W fun e w' => e = .returned (.bool false) ∧ Below W.heap.size W w' := fun W hW => by
    have h := fitsOf_any (hx.glob.later hW) v fl ex tk dl D dn dc nr lg M mn mc what (hx.krow.below hW) hx.room (by have := hx.short.1; omega) (hx.ans.mem.below hW)
    rw [hf] at h
    exact h
  have HBY := Lib.hid hby
  have HFT := Lib.hid hft
  clear hby hft
  have hl1 : decide ((65536 : Int) < (beh.length : Int)) = false := decide_eq_false (by omega)
  have hl2 : decide (65536 < beh.length) = false := decide_eq_false hl
  clear hl
  have HR := Lib.hid hR
  have HX := Lib.hid hx
  have HAL := Lib.hid hal
  have HQX := Lib.hid hqx
  have HW1 := Lib.hid hW1
  have HQE := Lib.hid hqe
  have HKS := Lib.hid hks
  have HSM := Lib.hid hsm
  have HNM := Lib.hid hnm
  have HWK := Lib.hid hwk
  clear hR hx hal hqx hW1 hqe hks hsm hnm hwk
  go_enter Tryz.func6, Tryz.ntmps6
  go_upto_region 1 with fail
  rw [← HW1.out, ← HQE.out]
  go_cut [3, 4] (fun p q wx => ∃ ca aa : Nat, p = .pointer (some ⟨ca, 0, none⟩) ∧ q = .pointer (some ⟨aa, 0, none⟩) ∧ TwoBoxes W1 wx ca aa 32 #[.int .i64 v, .slice K keys.length kc, .int .u64 fl, .int .i64 ex, .int .u64 tk, .int .u64 dl, .slice D dn dc, .bool nr, .bool lg, .slice M mn mc, str what] 36 #[.int .i64 R.kind, .slice R.E R.xs.length R.ec, .int .u64 R.number, str R.text, .slice R.S R.stats.length R.sc])
  case first =>
    go_region_held3 (fun w' => w'.cell? ⟨qx, 0, none⟩ = some (.int .i64 v) ∧ w'.cell? ⟨qx, 1, none⟩ = some (.slice K keys.length kc) ∧ w'.cell? ⟨qx, 2, none⟩ = some (.int .u64 fl) ∧ w'.cell? ⟨qx, 3, none⟩ = some (.int .i64 ex) ∧ w'.cell? ⟨qx, 4, none⟩ = some (.int .u64 tk) ∧ w'.cell? ⟨qx, 5, none⟩ = some (.int .u64 dl) ∧ w'.cell? ⟨qx, 6, none⟩ = some (.slice D dn dc) ∧ w'.cell? ⟨qx, 7, none⟩ = some (.bool nr) ∧ w'.cell? ⟨qx, 8, none⟩ = some (.bool lg) ∧ w'.cell? ⟨qx, 9, none⟩ = some (.slice M mn mc) ∧ w'.cell? ⟨qx, 10, none⟩ = some (str what) ∧ w'.cell? ⟨qx, 11, none⟩ = some (.int .i64 R.kind) ∧ w'.cell? ⟨qx, 12, none⟩ = some (.slice R.E R.xs.length R.ec) ∧ w'.cell? ⟨qx, 13, none⟩ = some (.int .u64 R.number) ∧ w'.cell? ⟨qx, 14, none⟩ = some (str R.text) ∧ w'.cell? ⟨qx, 15, none⟩ = some (.slice R.S R.stats.length R.sc)) (first | exact HKS.out _ (Below.refl _ _) | exact HKS.out _ (Below.refl _ _).drew | exact HKS.out _ ((Below.refl _ _).alloc (Nat.le_refl _) _) | exact HKS.out _ ((Below.refl _ _).drew.alloc (Nat.le_refl _) _) | exact HKS.out _ (((Below.refl _ _).drew.alloc (Nat.le_refl _) _).alloc (by simp) _) | exact HKS.out _ (((Below.refl _ _).alloc (Nat.le_refl _) _).alloc (by simp) _)) (fail)
    all_goals
      go_wp2_with fail
      go_meet
      first
        | exact ⟨_, _, rfl, rfl, twoBoxesA _ _ _ _ _⟩
        | exact ⟨_, _, rfl, rfl, twoBoxesB _ _ _ _ _⟩
  case rest =>
    obtain ⟨ca, aa, rfl, rfl, htw⟩ := hcut
    obtain ⟨W2, hW2⟩ : ∃ W2, W2 = wc := ⟨_, rfl⟩
    rw [← hW2] at htw ⊢
    clear hW2
    have hb2 : Below w.heap.size w W2 := HAL.out.trans (htw.below.mono HAL.out.size)
    have q16 : ∀ W : World, Below W2.heap.size W2 W → W.cell? ⟨qx, 16, none⟩ = some (.slice B beh.length bc) := fun W hW => ((HQX.out.later htw.below).later hW).cell 16
    have q17 : ∀ W : World, Below W2.heap.size W2 W → W.cell? ⟨qx, 17, none⟩ = some (.slice A ks.length ac) := fun W hW => ((HQX.out.later htw.below).later hW).cell 17
    have c0 : ∀ W : World, Below W2.heap.size W2 W → W.cell? ⟨ca, 0, none⟩ = some (.int .i64 v) := fun W hW => (htw.fst.later hW).cell 0
    have c1 : ∀ W : World, Below W2.heap.size W2 W → W.cell? ⟨ca, 1, none⟩ = some (.slice K keys.length kc) := fun W hW => (htw.fst.later hW).cell 1
    have c2 : ∀ W : World, Below W2.heap.size W2 W → W.cell? ⟨ca, 2, none⟩ = some (.int .u64 fl) := fun W hW => (htw.fst.later hW).cell 2
    have c3 : ∀ W : World, Below W2.heap.size W2 W → W.cell? ⟨ca, 3, none⟩ = some (.int .i64 ex) := fun W hW => (htw.fst.later hW).cell 3
    have c4 : ∀ W : World, Below W2.heap.size W2 W → W.cell? ⟨ca, 4, none⟩ = some (.int .u64 tk) := fun W hW => (htw.fst.later hW).cell 4
    have c5 : ∀ W : World, Below W2.heap.size W2 W → W.cell? ⟨ca, 5, none⟩ = some (.int .u64 dl) := fun W hW => (htw.fst.later hW).cell 5
    have c6 : ∀ W : World, Below W2.heap.size W2 W → W.cell? ⟨ca, 6, none⟩ = some (.slice D dn dc) := fun W hW => (htw.fst.later hW).cell 6
    have c7 : ∀ W : World, Below W2.heap.size W2 W → W.cell? ⟨ca, 7, none⟩ = some (.bool nr) := fun W hW => (htw.fst.later hW).cell 7
    have c8 : ∀ W : World, Below W2.heap.size W2 W → W.cell? ⟨ca, 8, none⟩ = some (.bool lg) := fun W hW => (htw.fst.later hW).cell 8
    have c9 : ∀ W : World, Below W2.heap.size W2 W → W.cell? ⟨ca, 9, none⟩ = some (.slice M mn mc) := fun W hW => (htw.fst.later hW).cell 9
    have c10 : ∀ W : World, Below W2.heap.size W2 W → W.cell? ⟨ca, 10, none⟩ = some (str what) := fun W hW => (htw.fst.later hW).cell 10
    have d0 : ∀ W : World, Below W2.heap.size W2 W → W.cell? ⟨aa, 0, none⟩ = some (.int .i64 R.kind) := fun W hW => (htw.snd.later hW).cell 0
    have d1 : ∀ W : World, Below W2.heap.size W2 W → W.cell? ⟨aa, 1, none⟩ = some (.slice R.E R.xs.length R.ec) := fun W hW => (htw.snd.later hW).cell 1
    have d2 : ∀ W : World, Below W2.heap.size W2 W → W.cell? ⟨aa, 2, none⟩ = some (.int .u64 R.number) := fun W hW => (htw.snd.later hW).cell 2
    have d3 : ∀ W : World, Below W2.heap.size W2 W → W.cell? ⟨aa, 3, none⟩ = some (str R.text) := fun W hW => (htw.snd.later hW).cell 3
    have d4 : ∀ W : World, Below W2.heap.size W2 W → W.cell? ⟨aa, 4, none⟩ = some (.slice R.S R.stats.length R.sc) := fun W hW => (htw.snd.later hW).cell 4
    have hr2 : Below W2.heap.size W2 W2 := Below.refl _ _
    have HB2 := Lib.hid hb2
    have HTW := Lib.hid htw
    clear htw hb2
    go_wp2_with (first | (go_at_call 10; refine (HSM.out _ HB2.out).mono ?_; rintro e w3 ⟨rfl, hb3⟩) | (go_at_call 15; refine (HBY.out _ (HB2.out.trans (hb3.mono HB2.out.size))).mono ?_; rintro e w4 ⟨O, oc, rfl, hown4, hb34⟩; have hb4 := hb3.trans (hb34.mono hb3.size); have HOWN4 := Lib.hid hown4; clear hown4 hb34) | (go_at_call 14; refine (HFT.out _ (HB2.out.trans (hb4.mono HB2.out.size))).mono ?_; rintro e w5 ⟨rfl, hb45⟩; have hb5 := hb4.trans (hb45.mono hb4.size); have HOWN5 := Lib.hid (own_later HOWN4.out hb45); clear hb45) | (go_at_call 17; (with_reducible refine (HNM.out _ _).mono ?_); rintro e wn ⟨rfl, rfl⟩) | (go_at_call 23; refine (HWK.out _ (HB2.out.trans (hb5.mono HB2.out.size))).mono ?_; rintro e w6 ⟨rfl, hb56⟩; have HB6 := Lib.hid (HB2.out.trans ((hb5.trans (hb56.mono hb5.size)).mono HB2.out.size))))
    rw [← HR.out]
    exact ⟨rfl, HB6.out⟩
set_option maxHeartbeats 16000000 in
set_option maxRecDepth 100000 in
theorem back_quiet {w : World} {v : Int} {K : Option Addr} {keys : List Sp.Bs} {kc : Nat} {fl ex tk dl : Int} {D : Option Addr} {dn dc : Nat} {lg : Bool} {M : Option Addr} {mn mc : Nat} {what : Sp.Bs} {R : AnsX} {B : Option Addr} {bc : Nat} {beh : Sp.Bs} {A : Option Addr} {ac : Nat} {ks : List Int} (hx : BackH w v K keys kc R B bc beh A ks) (hl : ¬ 65536 < beh.length) (hf : Sp.fitsV v keys what R.v = true)  :
    Calls Tryz.prog 6 #[.agg #[.int .i64 v, .slice K keys.length kc, .int .u64 fl, .int .i64 ex, .int .u64 tk, .int .u64 dl, .slice D dn dc, .bool true, .bool lg, .slice M mn mc, str what, .int .i64 R.kind, .slice R.E R.xs.length R.ec, .int .u64 R.number, str R.text, .slice R.S R.stats.length R.sc, .slice B beh.length bc, .slice A ks.length ac]] w fun e w' => e = .returned (.bool true) ∧ Below w.heap.size w w' := by
  generalize hR : (fun (e : Ending) (w' : World) => e = .returned (.bool true) ∧ Below w.heap.size w w') = RR
  have hal : Below w.heap.size w (w.alloc (.cells #[.int .i64 v, .slice K keys.length kc, .int .u64 fl, .int .i64 ex, .int .u64 tk, .int .u64 dl, .slice D dn dc, .bool true, .bool lg, .slice M mn mc, str what, .int .i64 R.kind, .slice R.E R.xs.length R.ec, .int .u64 R.number, str R.text, .slice R.S R.stats.length R.sc, .slice B beh.length bc, .slice A ks.length ac] 76)) := (Below.refl _ _).alloc (Nat.le_refl _) _
  have hqx := Blk.new w 76 #[.int .i64 v, .slice K keys.length kc, .int .u64 fl, .int .i64 ex, .int .u64 tk, .int .u64 dl, .slice D dn dc, .bool true, .bool lg, .slice M mn mc, str what, .int .i64 R.kind, .slice R.E R.xs.length R.ec, .int .u64 R.number, str R.text, .slice R.S R.stats.length R.sc, .slice B beh.length bc, .slice A ks.length ac]
  obtain ⟨W1, hW1⟩ : ∃ W1, W1 = w.alloc (.cells #[.int .i64 v, .slice K keys.length kc, .int .u64 fl, .int .i64 ex, .int .u64 tk, .int .u64 dl, .slice D dn dc, .bool true, .bool lg, .slice M mn mc, str what, .int .i64 R.kind, .slice R.E R.xs.length R.ec, .int .u64 R.number, str R.text, .slice R.S R.stats.length R.sc, .slice B beh.length bc, .slice A ks.length ac] 76) := ⟨_, rfl⟩
  rw [← hW1] at hal hqx
  obtain ⟨qx, hqe⟩ : ∃ qx, qx = w.heap.size := ⟨_, rfl⟩
  rw [← hqe] at hqx
  have hks : ∀ W : World, Below W1.heap.size W1 W → W.cell? ⟨qx, 0, none⟩ = some (.int .i64 v) ∧ W.cell? ⟨qx, 1, none⟩ = some (.slice K keys.length kc) ∧ W.cell? ⟨qx, 2, none⟩ = some (.int .u64 fl) ∧ W.cell? ⟨qx, 3, none⟩ = some (.int .i64 ex) ∧ W.cell? ⟨qx, 4, none⟩ = some (.int .u64 tk) ∧ W.cell? ⟨qx, 5, none⟩ = some (.int .u64 dl) ∧ W.cell? ⟨qx, 6, none⟩ = some (.slice D dn dc) ∧ W.cell? ⟨qx, 7, none⟩ = some (.bool true) ∧ W.cell? ⟨qx, 8, none⟩ = some (.bool lg) ∧ W.cell? ⟨qx, 9, none⟩ = some (.slice M mn mc) ∧ W.cell? ⟨qx, 10, none⟩ = some (str what) ∧ W.cell? ⟨qx, 11, none⟩ = some (.int .i64 R.kind) ∧ W.cell? ⟨qx, 12, none⟩ = some (.slice R.E R.xs.length R.ec) ∧ W.cell? ⟨qx, 13, none⟩ = some (.int .u64 R.number) ∧ W.cell? ⟨qx, 14, none⟩ = some (str R.text) ∧ W.cell? ⟨qx, 15, none⟩ = some (.slice R.S R.stats.length R.sc) := fun W hW => ⟨(hqx.later hW).cell 0, (hqx.later hW).cell 1, (hqx.later hW).cell 2, (hqx.later hW).cell 3, (hqx.later hW).cell 4, (hqx.later hW).cell 5, (hqx.later hW).cell 6, (hqx.later hW).cell 7, (hqx.later hW).cell 8, (hqx.later hW).cell 9, (hqx.later hW).cell 10, (hqx.later hW).cell 11, (hqx.later hW).cell 12, (hqx.later hW).cell 13, (hqx.later hW).cell 14, (hqx.later hW).cell 15⟩
  have hsm : ∀ W : World, Below w.heap.size w W → Calls Tryz.prog 10 #[R.val] W fun e w' => e = .returned (.bool true) ∧ Below W.heap.size W w' := fun W hW => small_any (hx.ans.below hW)
  have hnm := fun (n : Int) (W : World) => num13_any n W
  have hwk : ∀ W : World, Below w.heap.size w W → Calls Tryz.prog 23 #[] W fun e w' => e = .returned (.bool true) ∧ Below W.heap.size W w' := fun W hW => wakes13_any (hx.glob.later hW)
  have hn : true = true ∨ R.v.kind = 12 := .inl rfl
  have hby : ∀ W : World, Below w.heap.size w W → Calls Tryz.prog 15 #[cmdA v K keys.length kc fl ex tk dl D dn dc true lg M mn mc what, R.val] W fun e w' => ∃ O oc, e = .returned (.tuple #[.slice O 0 oc, .int .i64 0]) ∧ w'.ownsRow W.heap.size 5 1 (.slice O 0 oc) 0 (bytesV []) ∧ Below W.heap.size W w' := fun W hW => by
    have h := bytesOf_any (hx.glob.later hW) v fl ex tk dl D dn dc true lg M mn mc what (hx.krow.below hW) hx.room (by have := hx.short.1; omega) (hx.ans.mem.below hW) (by have := hx.ans.big v; omega)
    rw [show Sp.wroteV v keys what true R.v = ([], 0) by unfold Sp.wroteV; rw [if_neg (by rw [hf]; decide), if_pos hn]] at h
    exact h
  have hft : ∀ W : World, Below w.heap.size w W → Calls Tryz.prog 14 #[cmdA v K keys.length kc fl ex tk dl D dn dc true lg M mn mc what, R.val] W fun e w' => e = .returned (.bool true) ∧ Below W.heap.size W w' := fun W hW => by
    have h := fitsOf_any (hx.glob.later hW) v fl ex tk dl D dn dc true lg M mn mc what (hx.krow.below hW) hx.room (by have := hx.short.1; omega) (hx.ans.mem.below hW)
    rw [hf] at h
    exact h
  have HBY := Lib.hid hby
  have HFT := Lib.hid hft
  clear hby hft
  have hl1 : decide ((65536 : Int) < (beh.length : Int)) = false := decide_eq_false (by omega)
  have hl2 : decide (65536 < beh.length) = false := decide_eq_false hl
  clear hl
  clear hn
  have HR := Lib.hid hR
  have HX := Lib.hid hx
  have HAL := Lib.hid hal
  have HQX := Lib.hid hqx
  have HW1 := Lib.hid hW1
  have HQE := Lib.hid hqe
  have HKS := Lib.hid hks
  have HSM := Lib.hid hsm
  have HNM := Lib.hid hnm
  have HWK := Lib.hid hwk
  clear hR hx hal hqx hW1 hqe hks hsm hnm hwk
  go_enter Tryz.func6, Tryz.ntmps6
  go_upto_region 1 with fail
  rw [← HW1.out, ← HQE.out]
  go_cut [3, 4] (fun p q wx => ∃ ca aa : Nat, p = .pointer (some ⟨ca, 0, none⟩) ∧ q = .pointer (some ⟨aa, 0, none⟩) ∧ TwoBoxes W1 wx ca aa 32 #[.int .i64 v, .slice K keys.length kc, .int .u64 fl, .int .i64 ex, .int .u64 tk, .int .u64 dl, .slice D dn dc, .bool true, .bool lg, .slice M mn mc, str what] 36 #[.int .i64 R.kind, .slice R.E R.xs.length R.ec, .int .u64 R.number, str R.text, .slice R.S R.stats.length R.sc])
  case first =>
    go_region_held3 (fun w' => w'.cell? ⟨qx, 0, none⟩ = some (.int .i64 v) ∧ w'.cell? ⟨qx, 1, none⟩ = some (.slice K keys.length kc) ∧ w'.cell? ⟨qx, 2, none⟩ = some (.int .u64 fl) ∧ w'.cell? ⟨qx, 3, none⟩ = some (.int .i64 ex) ∧ w'.cell? ⟨qx, 4, none⟩ = some (.int .u64 tk) ∧ w'.cell? ⟨qx, 5, none⟩ = some (.int .u64 dl) ∧ w'.cell? ⟨qx, 6, none⟩ = some (.slice D dn dc) ∧ w'.cell? ⟨qx, 7, none⟩ = some (.bool true) ∧ w'.cell? ⟨qx, 8, none⟩ = some (.bool lg) ∧ w'.cell? ⟨qx, 9, none⟩ = some (.slice M mn mc) ∧ w'.cell? ⟨qx, 10, none⟩ = some (str what) ∧ w'.cell? ⟨qx, 11, none⟩ = some (.int .i64 R.kind) ∧ w'.cell? ⟨qx, 12, none⟩ = some (.slice R.E R.xs.length R.ec) ∧ w'.cell? ⟨qx, 13, none⟩ = some (.int .u64 R.number) ∧ w'.cell? ⟨qx, 14, none⟩ = some (str R.text) ∧ w'.cell? ⟨qx, 15, none⟩ = some (.slice R.S R.stats.length R.sc)) (first | exact HKS.out _ (Below.refl _ _) | exact HKS.out _ (Below.refl _ _).drew | exact HKS.out _ ((Below.refl _ _).alloc (Nat.le_refl _) _) | exact HKS.out _ ((Below.refl _ _).drew.alloc (Nat.le_refl _) _) | exact HKS.out _ (((Below.refl _ _).drew.alloc (Nat.le_refl _) _).alloc (by simp) _) | exact HKS.out _ (((Below.refl _ _).alloc (Nat.le_refl _) _).alloc (by simp) _)) (fail)
    all_goals
      go_wp2_with fail
      go_meet
      first
        | exact ⟨_, _, rfl, rfl, twoBoxesA _ _ _ _ _⟩
        | exact ⟨_, _, rfl, rfl, twoBoxesB _ _ _ _ _⟩
  case rest =>
    obtain ⟨ca, aa, rfl, rfl, htw⟩ := hcut
    obtain ⟨W2, hW2⟩ : ∃ W2, W2 = wc := ⟨_, rfl⟩
    rw [← hW2] at htw ⊢
    clear hW2
    have hb2 : Below w.heap.size w W2 := HAL.out.trans (htw.below.mono HAL.out.size)
    have q16 : ∀ W : World, Below W2.heap.size W2 W → W.cell? ⟨qx, 16, none⟩ = some (.slice B beh.length bc) := fun W hW => ((HQX.out.later htw.below).later hW).cell 16
    have q17 : ∀ W : World, Below W2.heap.size W2 W → W.cell? ⟨qx, 17, none⟩ = some (.slice A ks.length ac) := fun W hW => ((HQX.out.later htw.below).later hW).cell 17
    have c0 : ∀ W : World, Below W2.heap.size W2 W → W.cell? ⟨ca, 0, none⟩ = some (.int .i64 v) := fun W hW => (htw.fst.later hW).cell 0
    have c1 : ∀ W : World, Below W2.heap.size W2 W → W.cell? ⟨ca, 1, none⟩ = some (.slice K keys.length kc) := fun W hW => (htw.fst.later hW).cell 1
    have c2 : ∀ W : World, Below W2.heap.size W2 W → W.cell? ⟨ca, 2, none⟩ = some (.int .u64 fl) := fun W hW => (htw.fst.later hW).cell 2
    have c3 : ∀ W : World, Below W2.heap.size W2 W → W.cell? ⟨ca, 3, none⟩ = some (.int .i64 ex) := fun W hW => (htw.fst.later hW).cell 3
    have c4 : ∀ W : World, Below W2.heap.size W2 W → W.cell? ⟨ca, 4, none⟩ = some (.int .u64 tk) := fun W hW => (htw.fst.later hW).cell 4
    have c5 : ∀ W : World, Below W2.heap.size W2 W → W.cell? ⟨ca, 5, none⟩ = some (.int .u64 dl) := fun W hW => (htw.fst.later hW).cell 5
    have c6 : ∀ W : World, Below W2.heap.size W2 W → W.cell? ⟨ca, 6, none⟩ = some (.slice D dn dc) := fun W hW => (htw.fst.later hW).cell 6
    have c7 : ∀ W : World, Below W2.heap.size W2 W → W.cell? ⟨ca, 7, none⟩ = some (.bool true) := fun W hW => (htw.fst.later hW).cell 7
    have c8 : ∀ W : World, Below W2.heap.size W2 W → W.cell? ⟨ca, 8, none⟩ = some (.bool lg) := fun W hW => (htw.fst.later hW).cell 8
    have c9 : ∀ W : World, Below W2.heap.size W2 W → W.cell? ⟨ca, 9, none⟩ = some (.slice M mn mc) := fun W hW => (htw.fst.later hW).cell 9
    have c10 : ∀ W : World, Below W2.heap.size W2 W → W.cell? ⟨ca, 10, none⟩ = some (str what) := fun W hW => (htw.fst.later hW).cell 10
    have d0 : ∀ W : World, Below W2.heap.size W2 W → W.cell? ⟨aa, 0, none⟩ = some (.int .i64 R.kind) := fun W hW => (htw.snd.later hW).cell 0
    have d1 : ∀ W : World, Below W2.heap.size W2 W → W.cell? ⟨aa, 1, none⟩ = some (.slice R.E R.xs.length R.ec) := fun W hW => (htw.snd.later hW).cell 1
    have d2 : ∀ W : World, Below W2.heap.size W2 W → W.cell? ⟨aa, 2, none⟩ = some (.int .u64 R.number) := fun W hW => (htw.snd.later hW).cell 2
    have d3 : ∀ W : World, Below W2.heap.size W2 W → W.cell? ⟨aa, 3, none⟩ = some (str R.text) := fun W hW => (htw.snd.later hW).cell 3
    have d4 : ∀ W : World, Below W2.heap.size W2 W → W.cell? ⟨aa, 4, none⟩ = some (.slice R.S R.stats.length R.sc) := fun W hW => (htw.snd.later hW).cell 4
    have hr2 : Below W2.heap.size W2 W2 := Below.refl _ _
    have HB2 := Lib.hid hb2
    have HTW := Lib.hid htw
    clear htw hb2
    go_wp2_with (first | (go_at_call 10; refine (HSM.out _ HB2.out).mono ?_; rintro e w3 ⟨rfl, hb3⟩) | (go_at_call 15; refine (HBY.out _ (HB2.out.trans (hb3.mono HB2.out.size))).mono ?_; rintro e w4 ⟨O, oc, rfl, hown4, hb34⟩; have hb4 := hb3.trans (hb34.mono hb3.size); have HOWN4 := Lib.hid hown4; clear hown4 hb34) | (go_at_call 14; refine (HFT.out _ (HB2.out.trans (hb4.mono HB2.out.size))).mono ?_; rintro e w5 ⟨rfl, hb45⟩; have hb5 := hb4.trans (hb45.mono hb4.size); have HOWN5 := Lib.hid (own_later HOWN4.out hb45); clear hb45) | (go_at_call 17; (with_reducible refine (HNM.out _ _).mono ?_); rintro e wn ⟨rfl, rfl⟩) | (go_at_call 23; refine (HWK.out _ (HB2.out.trans (hb5.mono HB2.out.size))).mono ?_; rintro e w6 ⟨rfl, hb56⟩; have HB6 := Lib.hid (HB2.out.trans ((hb5.trans (hb56.mono hb5.size)).mono HB2.out.size))))
    rw [← HR.out]
    exact ⟨rfl, HB6.out⟩
set_option maxHeartbeats 16000000 in
set_option maxRecDepth 100000 in
theorem back_none {w : World} {v : Int} {K : Option Addr} {keys : List Sp.Bs} {kc : Nat} {fl ex tk dl : Int} {D : Option Addr} {dn dc : Nat} {lg : Bool} {M : Option Addr} {mn mc : Nat} {what : Sp.Bs} {R : AnsX} {B : Option Addr} {bc : Nat} {beh : Sp.Bs} {A : Option Addr} {ac : Nat} {ks : List Int} (hx : BackH w v K keys kc R B bc beh A ks) (hl : ¬ 65536 < beh.length) (hf : Sp.fitsV v keys what R.v = true)  (hk : R.kind = 12) :
    Calls Tryz.prog 6 #[.agg #[.int .i64 v, .slice K keys.length kc, .int .u64 fl, .int .i64 ex, .int .u64 tk, .int .u64 dl, .slice D dn dc, .bool false, .bool lg, .slice M mn mc, str what, .int .i64 R.kind, .slice R.E R.xs.length R.ec, .int .u64 R.number, str R.text, .slice R.S R.stats.length R.sc, .slice B beh.length bc, .slice A ks.length ac]] w fun e w' => e = .returned (.bool true) ∧ Below w.heap.size w w' := by
  generalize hR : (fun (e : Ending) (w' : World) => e = .returned (.bool true) ∧ Below w.heap.size w w') = RR
  have hal : Below w.heap.size w (w.alloc (.cells #[.int .i64 v, .slice K keys.length kc, .int .u64 fl, .int .i64 ex, .int .u64 tk, .int .u64 dl, .slice D dn dc, .bool false, .bool lg, .slice M mn mc, str what, .int .i64 R.kind, .slice R.E R.xs.length R.ec, .int .u64 R.number, str R.text, .slice R.S R.stats.length R.sc, .slice B beh.length bc, .slice A ks.length ac] 76)) := (Below.refl _ _).alloc (Nat.le_refl _) _
  have hqx := Blk.new w 76 #[.int .i64 v, .slice K keys.length kc, .int .u64 fl, .int .i64 ex, .int .u64 tk, .int .u64 dl, .slice D dn dc, .bool false, .bool lg, .slice M mn mc, str what, .int .i64 R.kind, .slice R.E R.xs.length R.ec, .int .u64 R.number, str R.text, .slice R.S R.stats.length R.sc, .slice B beh.length bc, .slice A ks.length ac]
  obtain ⟨W1, hW1⟩ : ∃ W1, W1 = w.alloc (.cells #[.int .i64 v, .slice K keys.length kc, .int .u64 fl, .int .i64 ex, .int .u64 tk, .int .u64 dl, .slice D dn dc, .bool false, .bool lg, .slice M mn mc, str what, .int .i64 R.kind, .slice R.E R.xs.length R.ec, .int .u64 R.number, str R.text, .slice R.S R.stats.length R.sc, .slice B beh.length bc, .slice A ks.length ac] 76) := ⟨_, rfl⟩
  rw [← hW1] at hal hqx
  obtain ⟨qx, hqe⟩ : ∃ qx, qx = w.heap.size := ⟨_, rfl⟩
  rw [← hqe] at hqx
  have hks : ∀ W : World, Below W1.heap.size W1 W → W.cell? ⟨qx, 0, none⟩ = some (.int .i64 v) ∧ W.cell? ⟨qx, 1, none⟩ = some (.slice K keys.length kc) ∧ W.cell? ⟨qx, 2, none⟩ = some (.int .u64 fl) ∧ W.cell? ⟨qx, 3, none⟩ = some (.int .i64 ex) ∧ W.cell? ⟨qx, 4, none⟩ = some (.int .u64 tk) ∧ W.cell? ⟨qx, 5, none⟩ = some (.int .u64 dl) ∧ W.cell? ⟨qx, 6, none⟩ = some (.slice D dn dc) ∧ W.cell? ⟨qx, 7, none⟩ = some (.bool false) ∧ W.cell? ⟨qx, 8, none⟩ = some (.bool lg) ∧ W.cell? ⟨qx, 9, none⟩ = some (.slice M mn mc) ∧ W.cell? ⟨qx, 10, none⟩ = some (str what) ∧ W.cell? ⟨qx, 11, none⟩ = some (.int .i64 R.kind) ∧ W.cell? ⟨qx, 12, none⟩ = some (.slice R.E R.xs.length R.ec) ∧ W.cell? ⟨qx, 13, none⟩ = some (.int .u64 R.number) ∧ W.cell? ⟨qx, 14, none⟩ = some (str R.text) ∧ W.cell? ⟨qx, 15, none⟩ = some (.slice R.S R.stats.length R.sc) := fun W hW => ⟨(hqx.later hW).cell 0, (hqx.later hW).cell 1, (hqx.later hW).cell 2, (hqx.later hW).cell 3, (hqx.later hW).cell 4, (hqx.later hW).cell 5, (hqx.later hW).cell 6, (hqx.later hW).cell 7, (hqx.later hW).cell 8, (hqx.later hW).cell 9, (hqx.later hW).cell 10, (hqx.later hW).cell 11, (hqx.later hW).cell 12, (hqx.later hW).cell 13, (hqx.later hW).cell 14, (hqx.later hW).cell 15⟩
  have hsm : ∀ W : World, Below w.heap.size w W → Calls Tryz.prog 10 #[R.val] W fun e w' => e = .returned (.bool true) ∧ Below W.heap.size W w' := fun W hW => small_any (hx.ans.below hW)
  have hnm := fun (n : Int) (W : World) => num13_any n W
  have hwk : ∀ W : World, Below w.heap.size w W → Calls Tryz.prog 23 #[] W fun e w' => e = .returned (.bool true) ∧ Below W.heap.size W w' := fun W hW => wakes13_any (hx.glob.later hW)
  have hn : false = true ∨ R.v.kind = 12 := .inr hk
  have hby : ∀ W : World, Below w.heap.size w W → Calls Tryz.prog 15 #[cmdA v K keys.length kc fl ex tk dl D dn dc false lg M mn mc what, R.val] W fun e w' => ∃ O oc, e = .returned (.tuple #[.slice O 0 oc, .int .i64 0]) ∧ w'.ownsRow W.heap.size 5 1 (.slice O 0 oc) 0 (bytesV []) ∧ Below W.heap.size W w' := fun W hW => by
    have h := bytesOf_any (hx.glob.later hW) v fl ex tk dl D dn dc false lg M mn mc what (hx.krow.below hW) hx.room (by have := hx.short.1; omega) (hx.ans.mem.below hW) (by have := hx.ans.big v; omega)
    rw [show Sp.wroteV v keys what false R.v = ([], 0) by unfold Sp.wroteV; rw [if_neg (by rw [hf]; decide), if_pos hn]] at h
    exact h
  have hft : ∀ W : World, Below w.heap.size w W → Calls Tryz.prog 14 #[cmdA v K keys.length kc fl ex tk dl D dn dc false lg M mn mc what, R.val] W fun e w' => e = .returned (.bool true) ∧ Below W.heap.size W w' := fun W hW => by
    have h := fitsOf_any (hx.glob.later hW) v fl ex tk dl D dn dc false lg M mn mc what (hx.krow.below hW) hx.room (by have := hx.short.1; omega) (hx.ans.mem.below hW)
    rw [hf] at h
    exact h
  have HBY := Lib.hid hby
  have HFT := Lib.hid hft
  clear hby hft
  have hl1 : decide ((65536 : Int) < (beh.length : Int)) = false := decide_eq_false (by omega)
  have hl2 : decide (65536 < beh.length) = false := decide_eq_false hl
  clear hl
  have hk1 : (R.kind == 12) = true := by rw [hk]; rfl
  clear hn hk
  have HR := Lib.hid hR
  have HX := Lib.hid hx
  have HAL := Lib.hid hal
  have HQX := Lib.hid hqx
  have HW1 := Lib.hid hW1
  have HQE := Lib.hid hqe
  have HKS := Lib.hid hks
  have HSM := Lib.hid hsm
  have HNM := Lib.hid hnm
  have HWK := Lib.hid hwk
  clear hR hx hal hqx hW1 hqe hks hsm hnm hwk
  go_enter Tryz.func6, Tryz.ntmps6
  go_upto_region 1 with fail
  rw [← HW1.out, ← HQE.out]
  go_cut [3, 4] (fun p q wx => ∃ ca aa : Nat, p = .pointer (some ⟨ca, 0, none⟩) ∧ q = .pointer (some ⟨aa, 0, none⟩) ∧ TwoBoxes W1 wx ca aa 32 #[.int .i64 v, .slice K keys.length kc, .int .u64 fl, .int .i64 ex, .int .u64 tk, .int .u64 dl, .slice D dn dc, .bool false, .bool lg, .slice M mn mc, str what] 36 #[.int .i64 R.kind, .slice R.E R.xs.length R.ec, .int .u64 R.number, str R.text, .slice R.S R.stats.length R.sc])
  case first =>
    go_region_held3 (fun w' => w'.cell? ⟨qx, 0, none⟩ = some (.int .i64 v) ∧ w'.cell? ⟨qx, 1, none⟩ = some (.slice K keys.length kc) ∧ w'.cell? ⟨qx, 2, none⟩ = some (.int .u64 fl) ∧ w'.cell? ⟨qx, 3, none⟩ = some (.int .i64 ex) ∧ w'.cell? ⟨qx, 4, none⟩ = some (.int .u64 tk) ∧ w'.cell? ⟨qx, 5, none⟩ = some (.int .u64 dl) ∧ w'.cell? ⟨qx, 6, none⟩ = some (.slice D dn dc) ∧ w'.cell? ⟨qx, 7, none⟩ = some (.bool false) ∧ w'.cell? ⟨qx, 8, none⟩ = some (.bool lg) ∧ w'.cell? ⟨qx, 9, none⟩ = some (.slice M mn mc) ∧ w'.cell? ⟨qx, 10, none⟩ = some (str what) ∧ w'.cell? ⟨qx, 11, none⟩ = some (.int .i64 R.kind) ∧ w'.cell? ⟨qx, 12, none⟩ = some (.slice R.E R.xs.length R.ec) ∧ w'.cell? ⟨qx, 13, none⟩ = some (.int .u64 R.number) ∧ w'.cell? ⟨qx, 14, none⟩ = some (str R.text) ∧ w'.cell? ⟨qx, 15, none⟩ = some (.slice R.S R.stats.length R.sc)) (first | exact HKS.out _ (Below.refl _ _) | exact HKS.out _ (Below.refl _ _).drew | exact HKS.out _ ((Below.refl _ _).alloc (Nat.le_refl _) _) | exact HKS.out _ ((Below.refl _ _).drew.alloc (Nat.le_refl _) _) | exact HKS.out _ (((Below.refl _ _).drew.alloc (Nat.le_refl _) _).alloc (by simp) _) | exact HKS.out _ (((Below.refl _ _).alloc (Nat.le_refl _) _).alloc (by simp) _)) (fail)
    all_goals
      go_wp2_with fail
      go_meet
      first
        | exact ⟨_, _, rfl, rfl, twoBoxesA _ _ _ _ _⟩
        | exact ⟨_, _, rfl, rfl, twoBoxesB _ _ _ _ _⟩
  case rest =>
    obtain ⟨ca, aa, rfl, rfl, htw⟩ := hcut
    obtain ⟨W2, hW2⟩ : ∃ W2, W2 = wc := ⟨_, rfl⟩
    rw [← hW2] at htw ⊢
    clear hW2
    have hb2 : Below w.heap.size w W2 := HAL.out.trans (htw.below.mono HAL.out.size)
    have q16 : ∀ W : World, Below W2.heap.size W2 W → W.cell? ⟨qx, 16, none⟩ = some (.slice B beh.length bc) := fun W hW => ((HQX.out.later htw.below).later hW).cell 16
    have q17 : ∀ W : World, Below W2.heap.size W2 W → W.cell? ⟨qx, 17, none⟩ = some (.slice A ks.length ac) := fun W hW => ((HQX.out.later htw.below).later hW).cell 17
    have c0 : ∀ W : World, Below W2.heap.size W2 W → W.cell? ⟨ca, 0, none⟩ = some (.int .i64 v) := fun W hW => (htw.fst.later hW).cell 0
    have c1 : ∀ W : World, Below W2.heap.size W2 W → W.cell? ⟨ca, 1, none⟩ = some (.slice K keys.length kc) := fun W hW => (htw.fst.later hW).cell 1
    have c2 : ∀ W : World, Below W2.heap.size W2 W → W.cell? ⟨ca, 2, none⟩ = some (.int .u64 fl) := fun W hW => (htw.fst.later hW).cell 2
    have c3 : ∀ W : World, Below W2.heap.size W2 W → W.cell? ⟨ca, 3, none⟩ = some (.int .i64 ex) := fun W hW => (htw.fst.later hW).cell 3
    have c4 : ∀ W : World, Below W2.heap.size W2 W → W.cell? ⟨ca, 4, none⟩ = some (.int .u64 tk) := fun W hW => (htw.fst.later hW).cell 4
    have c5 : ∀ W : World, Below W2.heap.size W2 W → W.cell? ⟨ca, 5, none⟩ = some (.int .u64 dl) := fun W hW => (htw.fst.later hW).cell 5
    have c6 : ∀ W : World, Below W2.heap.size W2 W → W.cell? ⟨ca, 6, none⟩ = some (.slice D dn dc) := fun W hW => (htw.fst.later hW).cell 6
    have c7 : ∀ W : World, Below W2.heap.size W2 W → W.cell? ⟨ca, 7, none⟩ = some (.bool false) := fun W hW => (htw.fst.later hW).cell 7
    have c8 : ∀ W : World, Below W2.heap.size W2 W → W.cell? ⟨ca, 8, none⟩ = some (.bool lg) := fun W hW => (htw.fst.later hW).cell 8
    have c9 : ∀ W : World, Below W2.heap.size W2 W → W.cell? ⟨ca, 9, none⟩ = some (.slice M mn mc) := fun W hW => (htw.fst.later hW).cell 9
    have c10 : ∀ W : World, Below W2.heap.size W2 W → W.cell? ⟨ca, 10, none⟩ = some (str what) := fun W hW => (htw.fst.later hW).cell 10
    have d0 : ∀ W : World, Below W2.heap.size W2 W → W.cell? ⟨aa, 0, none⟩ = some (.int .i64 R.kind) := fun W hW => (htw.snd.later hW).cell 0
    have d1 : ∀ W : World, Below W2.heap.size W2 W → W.cell? ⟨aa, 1, none⟩ = some (.slice R.E R.xs.length R.ec) := fun W hW => (htw.snd.later hW).cell 1
    have d2 : ∀ W : World, Below W2.heap.size W2 W → W.cell? ⟨aa, 2, none⟩ = some (.int .u64 R.number) := fun W hW => (htw.snd.later hW).cell 2
    have d3 : ∀ W : World, Below W2.heap.size W2 W → W.cell? ⟨aa, 3, none⟩ = some (str R.text) := fun W hW => (htw.snd.later hW).cell 3
    have d4 : ∀ W : World, Below W2.heap.size W2 W → W.cell? ⟨aa, 4, none⟩ = some (.slice R.S R.stats.length R.sc) := fun W hW => (htw.snd.later hW).cell 4
    have hr2 : Below W2.heap.size W2 W2 := Below.refl _ _
    have HB2 := Lib.hid hb2
    have HTW := Lib.hid htw
    clear htw hb2
    go_wp2_with (first | (go_at_call 10; refine (HSM.out _ HB2.out).mono ?_; rintro e w3 ⟨rfl, hb3⟩) | (go_at_call 15; refine (HBY.out _ (HB2.out.trans (hb3.mono HB2.out.size))).mono ?_; rintro e w4 ⟨O, oc, rfl, hown4, hb34⟩; have hb4 := hb3.trans (hb34.mono hb3.size); have HOWN4 := Lib.hid hown4; clear hown4 hb34) | (go_at_call 14; refine (HFT.out _ (HB2.out.trans (hb4.mono HB2.out.size))).mono ?_; rintro e w5 ⟨rfl, hb45⟩; have hb5 := hb4.trans (hb45.mono hb4.size); have HOWN5 := Lib.hid (own_later HOWN4.out hb45); clear hb45) | (go_at_call 17; (with_reducible refine (HNM.out _ _).mono ?_); rintro e wn ⟨rfl, rfl⟩) | (go_at_call 23; refine (HWK.out _ (HB2.out.trans (hb5.mono HB2.out.size))).mono ?_; rintro e w6 ⟨rfl, hb56⟩; have HB6 := Lib.hid (HB2.out.trans ((hb5.trans (hb56.mono hb5.size)).mono HB2.out.size))))
    rw [← HR.out]
    exact ⟨rfl, HB6.out⟩
end Go.Proofs.YtnbeeehfapjpdaaGreatDoor
