/- Walks of package words: same, of commands that are the same. -/
import Derived.Test.YthgfjafnclklpaaGreatDoorY3
import Derived.Test.YthgfjafnclklpaaGreatDoorA1
namespace Go.Proofs.YthgfjafnclklpaaGreatDoor
attribute [local go_sem ↓] Go.wp_at_zero Go.wp_at_succ
open Go.RowKit

set_option maxHeartbeats 4000000 in
set_option maxRecDepth 100000 in
theorem eqTexts_same {w : World} {A B : Option Addr} {ca cb : Nat} {l : List Sp.Bs} (hl : l.length ≤ 1000000000) (hA : RowAt w A (l.map str)) (hB : RowAt w B (l.map str)) :
    Calls Tryz.prog 88 #[.slice A l.length ca, .slice B l.length cb] w fun e w' => e = .returned (.bool true) ∧ Below w.heap.size w w' := by
  generalize hR : (fun (e : Ending) (w' : World) => e = .returned (.bool true) ∧ Below w.heap.size w w') = R
  have HR := Lib.hid hR
  have HA := Lib.hid hA
  have HB := Lib.hid hB
  clear hR hA hB
  go_enter Tryz.func88, Tryz.ntmps88
  go_wp2_with fail
  go_loopw [13] (fun i wx => ∃ k : Nat, k ≤ l.length ∧ i = .int .i64 k ∧ Below w.heap.size w wx) (fun i _ => l.length - (intOf i).toNat)
  case atStart => exact ⟨0, by omega, rfl, Below.refl _ _⟩
  case round =>
    obtain ⟨k, hk, rfl, hb⟩ := hrel
    by_cases hlt : k < l.length
    · obtain ⟨x, hx⟩ : ∃ x, l[k]? = some x := ⟨l[k], by simp [hlt]⟩
      obtain ⟨ga, oa, hAe, ya⟩ : ∃ g o, A = some ⟨g, o, none⟩ ∧ wr.cell? ⟨g, o + k, none⟩ = some (str x) := by
        rcases HA.out.below hb with h0 | ⟨g, o, h1, _, h3⟩
        · have : l = [] := by simpa using h0
          rw [this] at hlt; simp at hlt
        · exact ⟨g, o, h1, h3 _ _ (by simp [hx])⟩
      obtain ⟨gb, ob, hBe, yb⟩ : ∃ g o, B = some ⟨g, o, none⟩ ∧ wr.cell? ⟨g, o + k, none⟩ = some (str x) := by
        rcases HB.out.below hb with h0 | ⟨g, o, h1, _, h3⟩
        · have : l = [] := by simpa using h0
          rw [this] at hlt; simp at hlt
        · exact ⟨g, o, h1, h3 _ _ (by simp [hx])⟩
      subst hAe; subst hBe
      have HBX := Lib.hid hb
      clear hb hx
      go_wp2_with fail
      go_quiet (fail)
      go_wp2_with fail
      exact ⟨⟨k + 1, by omega, by go_num, below_drewN' HBX.out _⟩, by show l.length - ((k : Int) + 1).toNat < l.length - (k : Int).toNat; omega⟩
    · have HBX := Lib.hid hb
      clear hb
      go_wp2_with fail
      rw [← HR.out]
      exact ⟨rfl, HBX.out⟩

set_option maxHeartbeats 4000000 in
set_option maxRecDepth 100000 in
theorem eqFlags_same {w : World} {A B : Option Addr} {ca cb : Nat} {l : List Sp.FlagV} (hl : l.length ≤ 1000000000) (hA : RowAt w A (flagsCells l)) (hB : RowAt w B (flagsCells l)) :
    Calls Tryz.prog 90 #[.slice A l.length ca, .slice B l.length cb] w fun e w' => e = .returned (.bool true) ∧ Below w.heap.size w w' := by
  generalize hR : (fun (e : Ending) (w' : World) => e = .returned (.bool true) ∧ Below w.heap.size w w') = R
  have HR := Lib.hid hR
  have HA := Lib.hid hA
  have HB := Lib.hid hB
  clear hR hA hB
  go_enter Tryz.func90, Tryz.ntmps90
  go_wp2_with fail
  go_loopw [13] (fun i wx => ∃ k : Nat, k ≤ l.length ∧ i = .int .i64 k ∧ Below w.heap.size w wx) (fun i _ => l.length - (intOf i).toNat)
  case atStart => exact ⟨0, by omega, rfl, Below.refl _ _⟩
  case round =>
    obtain ⟨k, hk, rfl, hb⟩ := hrel
    by_cases hlt : k < l.length
    · obtain ⟨x, hx⟩ : ∃ x, l[k]? = some x := ⟨l[k], by simp [hlt]⟩
      obtain ⟨ga, oa, hAe, _, ya0, ya1, ya2⟩ := (HA.out.below hb).flag hx
      obtain ⟨gb, ob, hBe, _, yb0, yb1, yb2⟩ := (HB.out.below hb).flag hx
      subst hAe; subst hBe
      have HBX := Lib.hid hb
      clear hb hx
      go_wp2_with fail
      go_quiet (fail)
      go_wp2_with fail
      exact ⟨⟨k + 1, by omega, by go_num, below_drewN' HBX.out _⟩, by show l.length - ((k : Int) + 1).toNat < l.length - (k : Int).toNat; omega⟩
    · have HBX := Lib.hid hb
      clear hb
      go_wp2_with fail
      rw [← HR.out]
      exact ⟨rfl, HBX.out⟩

set_option maxHeartbeats 8000000 in
set_option maxRecDepth 100000 in
theorem same_yes {w : World} {c : Sp.CmdV} {k1 d1 m1 k2 d2 m2 : Value} (h1 : CmdAt w c k1 d1 m1) (h2 : CmdAt w c k2 d2 m2) (hf : CmdFit c) :
    Calls Tryz.prog 46 #[cmdV c k1 d1 m1, cmdV c k2 d2 m2] w fun e w' => e = .returned (.bool true) ∧ Below w.heap.size w w' := by
  generalize hR : (fun (e : Ending) (w' : World) => e = .returned (.bool true) ∧ Below w.heap.size w w') = R
  have hb0 : Below w.heap.size w ((w.alloc (.cells (cmdArr c k1 d1 m1) 38)).alloc (.cells (cmdArr c k2 d2 m2) 38)) :=
    ((Below.refl _ _).alloc (Nat.le_refl _) _).alloc (by simp) _
  have hbx1 : Blk ((w.alloc (.cells (cmdArr c k1 d1 m1) 38)).alloc (.cells (cmdArr c k2 d2 m2) 38)) w.heap.size 38 (cmdArr c k1 d1 m1) := (Blk.new _ _ _).alloc _
  have hbx2 := Blk.new (w.alloc (.cells (cmdArr c k1 d1 m1) 38)) 38 (cmdArr c k2 d2 m2)
  rw [show (w.alloc (.cells (cmdArr c k1 d1 m1) 38)).heap.size = w.heap.size + 1 from by simp] at hbx2
  obtain ⟨⟨A1, a1, rfl, r1⟩, ⟨B1, b1, rfl, s1⟩, ⟨C1, c1, rfl, t1⟩⟩ := h1
  obtain ⟨⟨A2, a2, rfl, r2⟩, ⟨B2, b2, rfl, s2⟩, ⟨C2, c2, rfl, t2⟩⟩ := h2
  have hkl := hf.keys
  have hml := hf.metas
  have hq1 := fun (W : World) (hb : Below w.heap.size w W) => eqTexts_same (w := W) (ca := a1) (cb := a2) (l := c.keys) (by omega) (r1.below hb) (r2.below hb)
  have hq3 := fun (W : World) (hb : Below w.heap.size w W) => eqFlags_same (w := W) (ca := c1) (cb := c2) (l := c.metas) (by omega) (t1.below hb) (t2.below hb)
  have hq2 := fun (W : World) (hb : Below w.heap.size w W) => (Tryz.bytes_Equal_all B1 B2 c.data.length b1 c.data.length b2 (numsOf c.data) (numsOf c.data) W (numsOf_length _) (numsOf_length _) (bytesIn_row (s1.below hb)) (bytesIn_row (s2.below hb))).mono (R' := fun e w' => e = .returned (.bool true) ∧ W = w') fun e w' ⟨g1, g2⟩ => ⟨by rw [g1]; simp, g2.symm⟩
  have hwt : (c.what == c.what) = true := by simp
  have HR := Lib.hid hR
  have HB0 := Lib.hid hb0
  have HQ1 := Lib.hid hq1
  have HQ2 := Lib.hid hq2
  have HQ3 := Lib.hid hq3
  have HBX1 := Lib.hid hbx1
  have HBX2 := Lib.hid hbx2
  clear hR hb0 hq1 hq2 hq3 hbx1 hbx2 r1 r2 s1 s2 t1 t2 hf hkl hml
  go_enter Tryz.func46, Tryz.ntmps46
  go_wp2_with (first | (go_at_call 88; refine (HQ1.out _ HB0.out).mono ?_; rintro e w1 ⟨rfl, hb1⟩; have hbw := HB0.out.trans (hb1.mono HB0.out.size); have hx1 := HBX1.out.later hb1; have hx2 := HBX2.out.later hb1; clear hb1; have x0 : _ = some (Value.int .i64 c.verb) := (hx1).cell 0; have x1 : _ = some (Value.slice A1 c.keys.length a1) := (hx1).cell 1; have x2 : _ = some (Value.int .u64 c.flags) := (hx1).cell 2; have x3 : _ = some (Value.int .i64 c.exptime) := (hx1).cell 3; have x4 : _ = some (Value.int .u64 c.token) := (hx1).cell 4; have x5 : _ = some (Value.int .u64 c.delta) := (hx1).cell 5; have x6 : _ = some (Value.slice B1 c.data.length b1) := (hx1).cell 6; have x7 : _ = some (Value.bool c.noreply) := (hx1).cell 7; have x8 : _ = some (Value.bool c.large) := (hx1).cell 8; have x9 : _ = some (Value.slice C1 c.metas.length c1) := (hx1).cell 9; have x10 : _ = some (str c.what) := (hx1).cell 10; have y0 : _ = some (Value.int .i64 c.verb) := (hx2).cell 0; have y1 : _ = some (Value.slice A2 c.keys.length a2) := (hx2).cell 1; have y2 : _ = some (Value.int .u64 c.flags) := (hx2).cell 2; have y3 : _ = some (Value.int .i64 c.exptime) := (hx2).cell 3; have y4 : _ = some (Value.int .u64 c.token) := (hx2).cell 4; have y5 : _ = some (Value.int .u64 c.delta) := (hx2).cell 5; have y6 : _ = some (Value.slice B2 c.data.length b2) := (hx2).cell 6; have y7 : _ = some (Value.bool c.noreply) := (hx2).cell 7; have y8 : _ = some (Value.bool c.large) := (hx2).cell 8; have y9 : _ = some (Value.slice C2 c.metas.length c2) := (hx2).cell 9; have y10 : _ = some (str c.what) := (hx2).cell 10; have HB1 := Lib.hid hbw; have HX1 := Lib.hid hx1; have HX2 := Lib.hid hx2; clear hbw hx1 hx2) | (go_at_call 89; refine (HQ2.out _ HB1.out).mono ?_; rintro e w' ⟨rfl, rfl⟩) | (go_at_call 90; refine (HQ3.out _ HB1.out).mono ?_; rintro e w3 ⟨rfl, hb3⟩; have hbw := HB1.out.trans (hb3.mono HB1.out.size); have hx1 := HX1.out.later hb3; have hx2 := HX2.out.later hb3; clear hb3; have p0 : _ = some (Value.int .i64 c.verb) := (hx1).cell 0; have p1 : _ = some (Value.slice A1 c.keys.length a1) := (hx1).cell 1; have p2 : _ = some (Value.int .u64 c.flags) := (hx1).cell 2; have p3 : _ = some (Value.int .i64 c.exptime) := (hx1).cell 3; have p4 : _ = some (Value.int .u64 c.token) := (hx1).cell 4; have p5 : _ = some (Value.int .u64 c.delta) := (hx1).cell 5; have p6 : _ = some (Value.slice B1 c.data.length b1) := (hx1).cell 6; have p7 : _ = some (Value.bool c.noreply) := (hx1).cell 7; have p8 : _ = some (Value.bool c.large) := (hx1).cell 8; have p9 : _ = some (Value.slice C1 c.metas.length c1) := (hx1).cell 9; have p10 : _ = some (str c.what) := (hx1).cell 10; have q0 : _ = some (Value.int .i64 c.verb) := (hx2).cell 0; have q1 : _ = some (Value.slice A2 c.keys.length a2) := (hx2).cell 1; have q2 : _ = some (Value.int .u64 c.flags) := (hx2).cell 2; have q3 : _ = some (Value.int .i64 c.exptime) := (hx2).cell 3; have q4 : _ = some (Value.int .u64 c.token) := (hx2).cell 4; have q5 : _ = some (Value.int .u64 c.delta) := (hx2).cell 5; have q6 : _ = some (Value.slice B2 c.data.length b2) := (hx2).cell 6; have q7 : _ = some (Value.bool c.noreply) := (hx2).cell 7; have q8 : _ = some (Value.bool c.large) := (hx2).cell 8; have q9 : _ = some (Value.slice C2 c.metas.length c2) := (hx2).cell 9; have q10 : _ = some (str c.what) := (hx2).cell 10; have HB3 := Lib.hid hbw; clear hbw hx1 hx2))
  all_goals (rw [← HR.out]; exact ⟨rfl, HB3.out⟩)
end Go.Proofs.YthgfjafnclklpaaGreatDoor
