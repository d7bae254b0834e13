/- Walks of the statements' comparisons: what is the same is told so. -/
import Derived.Test.YthgfjafnclklpaaGreatDoorG2
import Derived.Deep.QuietTactic
import Derived.BigQuiet
import Derived.StillTailTactics
namespace Go.Proofs.YthgfjafnclklpaaGreatDoor
attribute [local go_sem ↓] Go.wp_at_zero Go.wp_at_succ
open Go.RowKit

theorem below_drewN' {B : Nat} {a w : World} (h : Below B a w) (n : Nat) : Below B a (w.drewN n) := ⟨h.os, h.tape, h.output, h.size, h.block⟩

set_option maxHeartbeats 4000000 in
set_option maxRecDepth 100000 in
theorem texts_same {w : World} {A B : Option Addr} {ca cb : Nat} {l : List Sp.Bs} (hl : l.length ≤ 1000000000) (hA : RowAt w A (l.map str)) (hB : RowAt w B (l.map str)) :
    Calls Tryz.prog 48 #[.slice A l.length ca, .slice B l.length cb] w fun e w' => e = .returned (.bool true) ∧ Below w.heap.size w w' := by
  generalize hR : (fun (e : Ending) (w' : World) => e = .returned (.bool true) ∧ Below w.heap.size w w') = R
  have HR := Lib.hid hR
  have HA := Lib.hid hA
  have HB := Lib.hid hB
  clear hR hA hB
  go_enter Tryz.func48, Tryz.ntmps48
  go_wp2_with fail
  go_loopw [5] (fun i wx => ∃ k : Nat, k ≤ l.length ∧ i = .int .i64 k ∧ Below w.heap.size w wx) (fun i _ => l.length - (intOf i).toNat)
  case atStart => exact ⟨0, by omega, rfl, Below.refl _ _⟩
  case round =>
    obtain ⟨k, hk, rfl, hb⟩ := hrel
    by_cases hlt : k < l.length
    · obtain ⟨x, hx⟩ : ∃ x, l[k]? = some x := ⟨l[k], by simp [hlt]⟩
      obtain ⟨ga, oa, hAe, ya⟩ : ∃ g o, A = some ⟨g, o, none⟩ ∧ wr.cell? ⟨g, o + k, none⟩ = some (str x) := by
        rcases HA.out.below hb with h0 | ⟨g, o, h1, _, h3⟩
        · have : l = [] := by simpa using h0
          rw [this] at hlt; simp at hlt
        · exact ⟨g, o, h1, h3 _ _ (by simp [hx])⟩
      obtain ⟨gb, ob, hBe, yb⟩ : ∃ g o, B = some ⟨g, o, none⟩ ∧ wr.cell? ⟨g, o + k, none⟩ = some (str x) := by
        rcases HB.out.below hb with h0 | ⟨g, o, h1, _, h3⟩
        · have : l = [] := by simpa using h0
          rw [this] at hlt; simp at hlt
        · exact ⟨g, o, h1, h3 _ _ (by simp [hx])⟩
      subst hAe; subst hBe
      have HBX := Lib.hid hb
      clear hb hx
      go_wp2_with fail
      go_quiet (fail)
      go_wp2_with fail
      exact ⟨⟨k + 1, by omega, by go_num, below_drewN' HBX.out _⟩, by show l.length - ((k : Int) + 1).toNat < l.length - (k : Int).toNat; omega⟩
    · have HBX := Lib.hid hb
      clear hb
      go_wp2_with fail
      rw [← HR.out]
      exact ⟨rfl, HBX.out⟩

set_option maxHeartbeats 4000000 in
set_option maxRecDepth 100000 in
theorem flags_same {w : World} {A B : Option Addr} {ca cb : Nat} {l : List Sp.FlagV} (hl : l.length ≤ 1000000000) (hA : RowAt w A (flagsCells l)) (hB : RowAt w B (flagsCells l)) :
    Calls Tryz.prog 91 #[.slice A l.length ca, .slice B l.length cb] w fun e w' => e = .returned (.bool true) ∧ Below w.heap.size w w' := by
  generalize hR : (fun (e : Ending) (w' : World) => e = .returned (.bool true) ∧ Below w.heap.size w w') = R
  have HR := Lib.hid hR
  have HA := Lib.hid hA
  have HB := Lib.hid hB
  clear hR hA hB
  go_enter Tryz.func91, Tryz.ntmps91
  go_wp2_with fail
  go_loopw [5] (fun i wx => ∃ k : Nat, k ≤ l.length ∧ i = .int .i64 k ∧ Below w.heap.size w wx) (fun i _ => l.length - (intOf i).toNat)
  case atStart => exact ⟨0, by omega, rfl, Below.refl _ _⟩
  case round =>
    obtain ⟨k, hk, rfl, hb⟩ := hrel
    by_cases hlt : k < l.length
    · obtain ⟨x, hx⟩ : ∃ x, l[k]? = some x := ⟨l[k], by simp [hlt]⟩
      obtain ⟨ga, oa, hAe, _, ya0, ya1, ya2⟩ := (HA.out.below hb).flag hx
      obtain ⟨gb, ob, hBe, _, yb0, yb1, yb2⟩ := (HB.out.below hb).flag hx
      subst hAe; subst hBe
      have HBX := Lib.hid hb
      clear hb hx
      go_wp2_with fail
      go_quiet (fail)
      go_wp2_with fail
      exact ⟨⟨k + 1, by omega, by go_num, below_drewN' HBX.out _⟩, by show l.length - ((k : Int) + 1).toNat < l.length - (k : Int).toNat; omega⟩
    · have HBX := Lib.hid hb
      clear hb
      go_wp2_with fail
      rw [← HR.out]
      exact ⟨rfl, HBX.out⟩

/-- a command's lists can be read -/
structure CmdAt (w : World) (c : Sp.CmdV) (kv dv mv : Value) : Prop where
  keys : ∃ A cap, kv = .slice A c.keys.length cap ∧ RowAt w A (c.keys.map str)
  data : ∃ A cap, dv = .slice A c.data.length cap ∧ RowAt w A (bytesV c.data)
  metas : ∃ A cap, mv = .slice A c.metas.length cap ∧ RowAt w A (flagsCells c.metas)

theorem own_at {w : World} {base : Nat} {e : TypeId} {size n : Nat} {v : Value} {xs : List Value} (h : w.ownsRow base e size v n xs) : ∃ A cap, v = .slice A n cap ∧ RowAt w A xs := by
  have h0 := h
  rcases h.2 with ⟨rfl, rfl⟩ | ⟨g, cap, cur, rfl, _⟩
  · exact ⟨none, 0, rfl, RowAt.of_own h0⟩
  · exact ⟨_, cap, rfl, RowAt.of_own h0⟩

theorem CmdMem.at {w : World} {c : Sp.CmdV} {kv dv mv : Value} (h : CmdMem w c kv dv mv) : CmdAt w c kv dv mv := ⟨own_at h.keys, own_at h.data, own_at h.metas⟩
theorem CmdAt.below {w w' : World} {c : Sp.CmdV} {kv dv mv : Value} (h : CmdAt w c kv dv mv) (hb : Below w.heap.size w w') : CmdAt w' c kv dv mv := by
  obtain ⟨⟨A, a, h1, h2⟩, ⟨B, b, h3, h4⟩, ⟨C, d, h5, h6⟩⟩ := h
  exact ⟨⟨A, a, h1, h2.below hb⟩, ⟨B, b, h3, h4.below hb⟩, ⟨C, d, h5, h6.below hb⟩⟩

set_option maxHeartbeats 4000000 in
set_option maxRecDepth 100000 in
theorem command_same {w : World} {c : Sp.CmdV} {k1 d1 m1 k2 d2 m2 : Value} (h1 : CmdAt w c k1 d1 m1) (h2 : CmdAt w c k2 d2 m2) (hk : c.keys.length ≤ 1000000000) (hm : c.metas.length ≤ 1000000000) :
    Calls Tryz.prog 47 #[cmdV c k1 d1 m1, cmdV c k2 d2 m2] w fun e w' => e = .returned (.bool true) ∧ Below w.heap.size w w' := by
  generalize hR : (fun (e : Ending) (w' : World) => e = .returned (.bool true) ∧ Below w.heap.size w w') = R
  obtain ⟨⟨A1, a1, rfl, r1⟩, ⟨B1, b1, rfl, s1⟩, ⟨C1, c1, rfl, t1⟩⟩ := h1
  obtain ⟨⟨A2, a2, rfl, r2⟩, ⟨B2, b2, rfl, s2⟩, ⟨C2, c2, rfl, t2⟩⟩ := h2
  have hb0 : Below w.heap.size w ((w.alloc (.cells (cmdArr c (.slice A1 c.keys.length a1) (.slice B1 c.data.length b1) (.slice C1 c.metas.length c1)) 38)).alloc (.cells (cmdArr c (.slice A2 c.keys.length a2) (.slice B2 c.data.length b2) (.slice C2 c.metas.length c2)) 38)) :=
    ((Below.refl _ _).alloc (Nat.le_refl _) _).alloc (by simp) _
  have ht := texts_same (ca := a1) (cb := a2) hk (r1.below hb0) (r2.below hb0)
  have hcv1 := fun (W : World) (hb : Below w.heap.size w W) => run_bytes_str (cap := b1) (s1.below hb)
  have hcv2 := fun (W : World) (hb : Below w.heap.size w W) => run_bytes_str (cap := b2) (s2.below hb)
  have hfl := fun (W : World) (hb : Below w.heap.size w W) => flags_same (ca := c1) (cb := c2) hm (t1.below hb) (t2.below hb)
  have HR := Lib.hid hR
  have HB0 := Lib.hid hb0
  have HT := Lib.hid ht
  have HCV1 := Lib.hid hcv1
  have HCV2 := Lib.hid hcv2
  have HFL := Lib.hid hfl
  clear hR hb0 ht hcv1 hcv2 hfl r1 r2 s1 s2 t1 t2
  have hbx1 : Blk ((w.alloc (.cells (cmdArr c (.slice A1 c.keys.length a1) (.slice B1 c.data.length b1) (.slice C1 c.metas.length c1)) 38)).alloc (.cells (cmdArr c (.slice A2 c.keys.length a2) (.slice B2 c.data.length b2) (.slice C2 c.metas.length c2)) 38)) w.heap.size 38 (cmdArr c (.slice A1 c.keys.length a1) (.slice B1 c.data.length b1) (.slice C1 c.metas.length c1)) := (Blk.new _ _ _).alloc _
  have hbx2 := Blk.new (w.alloc (.cells (cmdArr c (.slice A1 c.keys.length a1) (.slice B1 c.data.length b1) (.slice C1 c.metas.length c1)) 38)) 38 (cmdArr c (.slice A2 c.keys.length a2) (.slice B2 c.data.length b2) (.slice C2 c.metas.length c2))
  rw [show (w.alloc (.cells (cmdArr c (.slice A1 c.keys.length a1) (.slice B1 c.data.length b1) (.slice C1 c.metas.length c1)) 38)).heap.size = w.heap.size + 1 from by simp] at hbx2
  have HBX1 := Lib.hid hbx1
  have HBX2 := Lib.hid hbx2
  clear hbx1 hbx2
  go_enter Tryz.func47, Tryz.ntmps47
  go_wp2_with fail
  refine HT.out.mono ?_
  rintro e w1 ⟨rfl, hb⟩
  have hbw : Below w.heap.size w w1 := HB0.out.trans (hb.mono HB0.out.size)
  have e1 := HCV1.out w1 hbw
  have e2 := HCV2.out w1 hbw
  have hx1 := HBX1.out.later hb
  have hx2 := HBX2.out.later hb
  have x0 : _ = some (Value.int .i64 c.verb) := (hx1).cell 0
  have x1 : _ = some (Value.slice A1 c.keys.length a1) := (hx1).cell 1
  have x2 : _ = some (Value.int .u64 c.flags) := (hx1).cell 2
  have x3 : _ = some (Value.int .i64 c.exptime) := (hx1).cell 3
  have x4 : _ = some (Value.int .u64 c.token) := (hx1).cell 4
  have x5 : _ = some (Value.int .u64 c.delta) := (hx1).cell 5
  have x6 : _ = some (Value.slice B1 c.data.length b1) := (hx1).cell 6
  have x7 : _ = some (Value.bool c.noreply) := (hx1).cell 7
  have x8 : _ = some (Value.bool c.large) := (hx1).cell 8
  have x9 : _ = some (Value.slice C1 c.metas.length c1) := (hx1).cell 9
  have x10 : _ = some (str c.what) := (hx1).cell 10
  have y0 : _ = some (Value.int .i64 c.verb) := (hx2).cell 0
  have y1 : _ = some (Value.slice A2 c.keys.length a2) := (hx2).cell 1
  have y2 : _ = some (Value.int .u64 c.flags) := (hx2).cell 2
  have y3 : _ = some (Value.int .i64 c.exptime) := (hx2).cell 3
  have y4 : _ = some (Value.int .u64 c.token) := (hx2).cell 4
  have y5 : _ = some (Value.int .u64 c.delta) := (hx2).cell 5
  have y6 : _ = some (Value.slice B2 c.data.length b2) := (hx2).cell 6
  have y7 : _ = some (Value.bool c.noreply) := (hx2).cell 7
  have y8 : _ = some (Value.bool c.large) := (hx2).cell 8
  have y9 : _ = some (Value.slice C2 c.metas.length c2) := (hx2).cell 9
  have y10 : _ = some (str c.what) := (hx2).cell 10
  have HX1 := Lib.hid hx1
  have HX2 := Lib.hid hx2
  have HBW := Lib.hid hbw
  clear hb hbw hx1 hx2
  go_wp2_with fail
  refine (HFL.out w1 HBW.out).mono ?_
  rintro e w2 ⟨rfl, hb⟩
  have hx1 := HX1.out.later hb
  have hx2 := HX2.out.later hb
  clear x0 x1 x2 x3 x4 x5 x6 x7 x8 x9 x10 y0 y1 y2 y3 y4 y5 y6 y7 y8 y9 y10 e1 e2
  have x10 : _ = some (str c.what) := (hx1).cell 10
  have y10 : _ = some (str c.what) := (hx2).cell 10
  have HB2 := Lib.hid hb
  clear hb hx1 hx2
  go_wp2_with fail
  rw [← HR.out]
  exact ⟨rfl, HBW.out.trans (HB2.out.mono HBW.out.size)⟩

set_option maxHeartbeats 8000000 in
set_option maxRecDepth 100000 in
theorem same_same {w : World} {c : Sp.CmdV} {k1 d1 m1 k2 d2 m2 : Value} (h1 : CmdAt w c k1 d1 m1) (h2 : CmdAt w c k2 d2 m2) (hk : c.keys.length ≤ 1000000000) (hm : c.metas.length ≤ 1000000000) :
    Calls Tryz.prog 12 #[cmdV c k1 d1 m1, cmdV c k2 d2 m2] w fun e w' => e = .returned (.bool true) ∧ Below w.heap.size w w' := by
  generalize hR : (fun (e : Ending) (w' : World) => e = .returned (.bool true) ∧ Below w.heap.size w w') = R
  have hb0 : Below w.heap.size w ((w.alloc (.cells (cmdArr c k1 d1 m1) 38)).alloc (.cells (cmdArr c k2 d2 m2) 38)) :=
    ((Below.refl _ _).alloc (Nat.le_refl _) _).alloc (by simp) _
  have hbx1 : Blk ((w.alloc (.cells (cmdArr c k1 d1 m1) 38)).alloc (.cells (cmdArr c k2 d2 m2) 38)) w.heap.size 38 (cmdArr c k1 d1 m1) := (Blk.new _ _ _).alloc _
  have hbx2 := Blk.new (w.alloc (.cells (cmdArr c k1 d1 m1) 38)) 38 (cmdArr c k2 d2 m2)
  rw [show (w.alloc (.cells (cmdArr c k1 d1 m1) 38)).heap.size = w.heap.size + 1 from by simp] at hbx2
  have hc := command_same (h1.below hb0) (h2.below hb0) hk hm
  obtain ⟨⟨A1, a1, rfl, r1⟩, ⟨B1, b1, rfl, s1⟩, ⟨C1, c1, rfl, t1⟩⟩ := h1
  obtain ⟨⟨A2, a2, rfl, r2⟩, ⟨B2, b2, rfl, s2⟩, ⟨C2, c2, rfl, t2⟩⟩ := h2
  have HR := Lib.hid hR
  have HB0 := Lib.hid hb0
  have HC := Lib.hid hc
  have HBX1 := Lib.hid hbx1
  have HBX2 := Lib.hid hbx2
  have HT1 := Lib.hid t1
  have HT2 := Lib.hid t2
  clear hR hb0 hc hbx1 hbx2 r1 r2 s1 s2 t1 t2
  go_enter Tryz.func12, Tryz.ntmps12
  go_wp2_with fail
  refine HC.out.mono ?_
  rintro e w1 ⟨rfl, hb⟩
  have hbw : Below w.heap.size w w1 := HB0.out.trans (hb.mono HB0.out.size)
  have hx1 := HBX1.out.later hb
  have hx2 := HBX2.out.later hb
  have x9 : _ = some (Value.slice C1 c.metas.length c1) := (hx1).cell 9
  have x10 : _ = some (str c.what) := (hx1).cell 10
  have y9 : _ = some (Value.slice C2 c.metas.length c2) := (hx2).cell 9
  have y10 : _ = some (str c.what) := (hx2).cell 10
  have HX1 := Lib.hid hx1
  have HX2 := Lib.hid hx2
  have HBW := Lib.hid hbw
  clear hb hbw hx1 hx2
  go_wp2_with fail
  go_loopw [5] (fun i wx => ∃ k : Nat, k ≤ c.metas.length ∧ i = .int .i64 k ∧ Below w1.heap.size w1 wx) (fun i _ => c.metas.length - (intOf i).toNat)
  case atStart => exact ⟨0, by omega, rfl, Below.refl _ _⟩
  case round =>
    obtain ⟨k, hk, rfl, hb⟩ := hrel
    clear x9 x10 y9 y10
    have hx1 := HX1.out.later hb
    have hx2 := HX2.out.later hb
    have x9 : _ = some (Value.slice C1 c.metas.length c1) := (hx1).cell 9
    have y9 : _ = some (Value.slice C2 c.metas.length c2) := (hx2).cell 9
    clear hx1 hx2
    have hbw := HBW.out.trans (hb.mono HBW.out.size)
    by_cases hlt : k < c.metas.length
    · obtain ⟨f, hf⟩ : ∃ f, c.metas[k]? = some f := ⟨c.metas[k], by simp [hlt]⟩
      obtain ⟨ga, oa, hAe, _, ya0, ya1, ya2⟩ := (HT1.out.below hbw).flag hf
      obtain ⟨gb, ob, hBe, _, yb0, yb1, yb2⟩ := (HT2.out.below hbw).flag hf
      subst hAe; subst hBe
      have HBX := Lib.hid hb
      clear hb hf hbw
      go_wp2_with fail
      go_quiet (fail)
      go_wp2_with fail
      exact ⟨⟨k + 1, by omega, by go_num, below_drewN' HBX.out _⟩, by show c.metas.length - ((k : Int) + 1).toNat < c.metas.length - (k : Int).toNat; omega⟩
    · have HBF := Lib.hid hbw
      clear hb hbw
      go_wp2_with fail
      rw [← HR.out]
      exact ⟨rfl, HBF.out⟩

set_option maxHeartbeats 8000000 in
set_option maxRecDepth 100000 in
theorem sameStep_same {w : World} {t : Sp.StepV} {k1 d1 m1 k2 d2 m2 : Value} (h1 : CmdAt w t.cmd k1 d1 m1) (h2 : CmdAt w t.cmd k2 d2 m2) (hk : t.cmd.keys.length ≤ 1000000000) (hm : t.cmd.metas.length ≤ 1000000000) :
    Calls Tryz.prog 69 #[stepV t k1 d1 m1, stepV t k2 d2 m2] w fun e w' => e = .returned (.bool true) ∧ Below w.heap.size w w' := by
  generalize hR : (fun (e : Ending) (w' : World) => e = .returned (.bool true) ∧ Below w.heap.size w w') = R
  have hb0 : Below w.heap.size w ((w.alloc (.cells (stepArr t k1 d1 m1) 99)).alloc (.cells (stepArr t k2 d2 m2) 99)) :=
    ((Below.refl _ _).alloc (Nat.le_refl _) _).alloc (by simp) _
  have hbx1 : Blk ((w.alloc (.cells (stepArr t k1 d1 m1) 99)).alloc (.cells (stepArr t k2 d2 m2) 99)) w.heap.size 99 (stepArr t k1 d1 m1) := (Blk.new _ _ _).alloc _
  have hbx2 := Blk.new (w.alloc (.cells (stepArr t k1 d1 m1) 99)) 99 (stepArr t k2 d2 m2)
  rw [show (w.alloc (.cells (stepArr t k1 d1 m1) 99)).heap.size = w.heap.size + 1 from by simp] at hbx2
  have hc := same_same (h1.below hb0) (h2.below hb0) hk hm
  obtain ⟨⟨A1, a1, rfl, r1⟩, ⟨B1, b1, rfl, s1⟩, ⟨C1, c1, rfl, t1⟩⟩ := h1
  obtain ⟨⟨A2, a2, rfl, r2⟩, ⟨B2, b2, rfl, s2⟩, ⟨C2, c2, rfl, t2⟩⟩ := h2
  have HR := Lib.hid hR
  have HB0 := Lib.hid hb0
  have HC := Lib.hid hc
  have HBX1 := Lib.hid hbx1
  have HBX2 := Lib.hid hbx2
  clear hR hb0 hc hbx1 hbx2 r1 r2 s1 s2 t1 t2
  go_enter Tryz.func69, Tryz.ntmps69
  go_wp2_with fail
  refine HC.out.mono ?_
  rintro e w1 ⟨rfl, hb⟩
  have hbw : Below w.heap.size w w1 := HB0.out.trans (hb.mono HB0.out.size)
  have hx1 := HBX1.out.later hb
  have hx2 := HBX2.out.later hb
  have x11 : _ = some (Value.int .i64 t.wrong.kind) := (hx1).cell 11
  have x12 : _ = some (str t.wrong.text) := (hx1).cell 12
  have x13 : _ = some (Value.int .i64 t.wrong.pass) := (hx1).cell 13
  have x14 : _ = some (Value.int .i64 t.frm) := (hx1).cell 14
  have x15 : _ = some (Value.int .i64 t.to) := (hx1).cell 15
  have y11 : _ = some (Value.int .i64 t.wrong.kind) := (hx2).cell 11
  have y12 : _ = some (str t.wrong.text) := (hx2).cell 12
  have y13 : _ = some (Value.int .i64 t.wrong.pass) := (hx2).cell 13
  have y14 : _ = some (Value.int .i64 t.frm) := (hx2).cell 14
  have y15 : _ = some (Value.int .i64 t.to) := (hx2).cell 15
  have HBW := Lib.hid hbw
  clear hb hbw hx1 hx2
  go_wp2_with fail
  rw [← HR.out]
  exact ⟨rfl, HBW.out⟩

/-- these cells are those of these steps -/
def StepsAt (w : World) (ts : List Sp.StepV) (cs : List Value) : Prop :=
  cs.length = ts.length * 16 ∧ ∀ (j : Nat) (t : Sp.StepV), ts[j]? = some t → ∃ kv dv mv, CmdAt w t.cmd kv dv mv ∧ ∀ (i : Nat) (u : Value), (stepCells t kv dv mv)[i]? = some u → cs[j * 16 + i]? = some u

theorem stepCells_length (t : Sp.StepV) (kv dv mv : Value) : (stepCells t kv dv mv).length = 16 := rfl

theorem StepsMem.at {w : World} : ∀ {ts : List Sp.StepV} {cs : List Value} {bl : List Nat}, StepsMem w ts cs bl → StepsAt w ts cs
  | [], _, _, ⟨h, _⟩ => ⟨by simp [h], fun j t ht => by simp at ht⟩
  | t0 :: ts, cs, bl, ⟨kv, dv, mv, cs', bl', h1, h2, h3, h4⟩ => by
    obtain ⟨g1, g2⟩ := h4.at
    refine ⟨by rw [h1, List.length_append, g1, stepCells_length, List.length_cons]; omega, fun j t ht => ?_⟩
    cases j with
    | zero =>
      simp at ht; subst ht
      refine ⟨kv, dv, mv, h3.at, fun i u hu => ?_⟩
      rw [h1, Nat.zero_mul, Nat.zero_add, List.getElem?_append_left (List.getElem?_eq_some_iff.1 hu).1]
      exact hu
    | succ j =>
      obtain ⟨k, d, m, e1, e2⟩ := g2 j t (by simpa using ht)
      refine ⟨k, d, m, e1, fun i u hu => ?_⟩
      have := e2 i u hu
      rw [h1, show (j + 1) * 16 + i = (stepCells t0 kv dv mv).length + (j * 16 + i) by rw [stepCells_length]; omega, List.getElem?_append_right (by omega)]
      simpa using this
theorem StepsAt.below {w w' : World} {ts : List Sp.StepV} {cs : List Value} (h : StepsAt w ts cs) (hb : Below w.heap.size w w') : StepsAt w' ts cs :=
  ⟨h.1, fun j t ht => by obtain ⟨k, d, m, e1, e2⟩ := h.2 j t ht; exact ⟨k, d, m, e1.below hb, e2⟩⟩

/-- no list in these steps is too long -/
def StepsFit (ts : List Sp.StepV) : Prop := ∀ t ∈ ts, t.cmd.keys.length ≤ 1000000000 ∧ t.cmd.metas.length ≤ 1000000000

set_option maxHeartbeats 8000000 in
set_option maxRecDepth 100000 in
theorem sameSteps_same {w : World} {A B : Option Addr} {ca cb : Nat} {ts : List Sp.StepV} {cs ds : List Value} (hl : ts.length ≤ 1000000000) (hfit : StepsFit ts) (hA : RowAt w A cs) (hB : RowAt w B ds) (h1 : StepsAt w ts cs) (h2 : StepsAt w ts ds) :
    Calls Tryz.prog 28 #[.slice A ts.length ca, .slice B ts.length cb] w fun e w' => e = .returned (.bool true) ∧ Below w.heap.size w w' := by
  generalize hR : (fun (e : Ending) (w' : World) => e = .returned (.bool true) ∧ Below w.heap.size w w') = R
  have HR := Lib.hid hR
  have HA := Lib.hid hA
  have HB := Lib.hid hB
  have H1 := Lib.hid h1
  have H2 := Lib.hid h2
  have HFIT := Lib.hid hfit
  clear hR hA hB h1 h2 hfit
  go_enter Tryz.func28, Tryz.ntmps28
  go_wp2_with fail
  go_loopw [5] (fun i wx => ∃ k : Nat, k ≤ ts.length ∧ i = .int .i64 k ∧ Below w.heap.size w wx) (fun i _ => ts.length - (intOf i).toNat)
  case atStart => exact ⟨0, by omega, rfl, Below.refl _ _⟩
  case round =>
    obtain ⟨k, hk, rfl, hb⟩ := hrel
    by_cases hlt : k < ts.length
    · obtain ⟨t, ht⟩ : ∃ t, ts[k]? = some t := ⟨ts[k], by simp [hlt]⟩
      have hf := HFIT.out t (List.mem_of_getElem? ht)
      obtain ⟨k1, d1, m1, e1, f1⟩ := (H1.out.below hb).2 k t ht
      obtain ⟨k2, d2, m2, e2, f2⟩ := (H2.out.below hb).2 k t ht
      have hcell : ∀ {X : Option Addr} {xs : List Value} {kv dv mv : Value}, RowAt wr X xs → (∀ (i : Nat) (u : Value), (stepCells t kv dv mv)[i]? = some u → xs[k * 16 + i]? = some u) →
          ∃ g o, X = some ⟨g, o, none⟩ ∧ ∀ (i : Nat) (u : Value), (stepCells t kv dv mv)[i]? = some u → wr.cell? ⟨g, o + k * 16 + i, none⟩ = some u := by
        intro X xs kv dv mv hX hf
        rcases hX with h0 | ⟨g, o, h1, _, h3⟩
        · have := hf 0 (.int .i64 t.cmd.verb) rfl
          rw [h0] at this; simp at this
        · exact ⟨g, o, h1, fun i u hu => by rw [Nat.add_assoc]; exact h3 _ _ (hf i u hu)⟩
      obtain ⟨ga, oa, hAe, xc⟩ := hcell (HA.out.below hb) f1
      obtain ⟨gb, ob, hBe, yc⟩ := hcell (HB.out.below hb) f2
      subst hAe; subst hBe
      have hcs := fun (W : World) (hw : Below wr.heap.size wr W) => sameStep_same (e1.below hw) (e2.below hw) hf.1 hf.2
      obtain ⟨⟨A1, a1, rfl, -⟩, ⟨B1, b1, rfl, -⟩, ⟨C1, c1, rfl, -⟩⟩ := e1
      obtain ⟨⟨A2, a2, rfl, -⟩, ⟨B2, b2, rfl, -⟩, ⟨C2, c2, rfl, -⟩⟩ := e2
      have x0 : wr.cell? ⟨ga, oa + k * 16, none⟩ = some (Value.int .i64 t.cmd.verb) := by have := xc 0 (Value.int .i64 t.cmd.verb) rfl; rwa [Nat.add_zero] at this
      have x1 : _ = some (Value.slice A1 t.cmd.keys.length a1) := xc 1 _ rfl
      have x2 : _ = some (Value.int .u64 t.cmd.flags) := xc 2 _ rfl
      have x3 : _ = some (Value.int .i64 t.cmd.exptime) := xc 3 _ rfl
      have x4 : _ = some (Value.int .u64 t.cmd.token) := xc 4 _ rfl
      have x5 : _ = some (Value.int .u64 t.cmd.delta) := xc 5 _ rfl
      have x6 : _ = some (Value.slice B1 t.cmd.data.length b1) := xc 6 _ rfl
      have x7 : _ = some (Value.bool t.cmd.noreply) := xc 7 _ rfl
      have x8 : _ = some (Value.bool t.cmd.large) := xc 8 _ rfl
      have x9 : _ = some (Value.slice C1 t.cmd.metas.length c1) := xc 9 _ rfl
      have x10 : _ = some (str t.cmd.what) := xc 10 _ rfl
      have x11 : _ = some (Value.int .i64 t.wrong.kind) := xc 11 _ rfl
      have x12 : _ = some (str t.wrong.text) := xc 12 _ rfl
      have x13 : _ = some (Value.int .i64 t.wrong.pass) := xc 13 _ rfl
      have x14 : _ = some (Value.int .i64 t.frm) := xc 14 _ rfl
      have x15 : _ = some (Value.int .i64 t.to) := xc 15 _ rfl
      have y0 : wr.cell? ⟨gb, ob + k * 16, none⟩ = some (Value.int .i64 t.cmd.verb) := by have := yc 0 (Value.int .i64 t.cmd.verb) rfl; rwa [Nat.add_zero] at this
      have y1 : _ = some (Value.slice A2 t.cmd.keys.length a2) := yc 1 _ rfl
      have y2 : _ = some (Value.int .u64 t.cmd.flags) := yc 2 _ rfl
      have y3 : _ = some (Value.int .i64 t.cmd.exptime) := yc 3 _ rfl
      have y4 : _ = some (Value.int .u64 t.cmd.token) := yc 4 _ rfl
      have y5 : _ = some (Value.int .u64 t.cmd.delta) := yc 5 _ rfl
      have y6 : _ = some (Value.slice B2 t.cmd.data.length b2) := yc 6 _ rfl
      have y7 : _ = some (Value.bool t.cmd.noreply) := yc 7 _ rfl
      have y8 : _ = some (Value.bool t.cmd.large) := yc 8 _ rfl
      have y9 : _ = some (Value.slice C2 t.cmd.metas.length c2) := yc 9 _ rfl
      have y10 : _ = some (str t.cmd.what) := yc 10 _ rfl
      have y11 : _ = some (Value.int .i64 t.wrong.kind) := yc 11 _ rfl
      have y12 : _ = some (str t.wrong.text) := yc 12 _ rfl
      have y13 : _ = some (Value.int .i64 t.wrong.pass) := yc 13 _ rfl
      have y14 : _ = some (Value.int .i64 t.frm) := yc 14 _ rfl
      have y15 : _ = some (Value.int .i64 t.to) := yc 15 _ rfl
      have HBX := Lib.hid hb
      have HCS := Lib.hid hcs
      clear hb ht hcs hf f1 f2 xc yc hcell
      go_wp2_with fail
      go_still_tail 8, (by kernel_rfl)
      change wpList _ _ _ _ _ wr.drew
      have hbd : Below wr.heap.size wr wr.drew := (Below.refl _ _).drew
      have hc2 := HCS.out wr.drew hbd
      have HBD := Lib.hid hbd
      clear hbd
      generalize wr.drew = w2 at hc2 HBD
      have HC2 := Lib.hid hc2
      clear hc2 x0 x1 x2 x3 x4 x5 x6 x7 x8 x9 x10 x11 x12 x13 x14 x15 y0 y1 y2 y3 y4 y5 y6 y7 y8 y9 y10 y11 y12 y13 y14 y15
      go_wp2_with (refine HC2.out.mono ?_; rintro e w3 ⟨rfl, hb3⟩; have HB3 := Lib.hid hb3; clear hb3)
      exact ⟨⟨k + 1, by omega, by go_num, HBX.out.trans ((HBD.out.trans (HB3.out.mono HBD.out.size)).mono HBX.out.size)⟩, by show ts.length - ((k : Int) + 1).toNat < ts.length - (k : Int).toNat; omega⟩
    · have HBX := Lib.hid hb
      clear hb
      go_wp2_with fail
      rw [← HR.out]
      exact ⟨rfl, HBX.out⟩

/-- a command's numbers fit -/
structure CmdFit (c : Sp.CmdV) : Prop where
  verb : c.verb ≤ 24
  flags : c.flags < 18446744073709551616
  token : c.token < 18446744073709551616
  delta : c.delta < 18446744073709551616
  time : -9223372036854775808 ≤ c.exptime ∧ c.exptime ≤ 9223372036854775807
  data : c.data.length ≤ 100000000
  keys : c.keys.length ≤ 100000000
  metas : c.metas.length ≤ 100000000
  args : ∀ f ∈ c.metas, f.arg.length ≤ 1000000000

/-- an append of a row that can be read, wherever it lies -/
theorem wpList_append_in {P : Program} {w : World} {ops : Array Oper} {rest : List Oper} {o : Oper} {a : Act} {Q : Exit → Act → World → Prop} (hgd : o.guard = none) (s x : Operand) (t : TypeId)
    (ho : o.op = .call { callee := .builtin .append, args := #[s, x], argTypes := #[t, t] })
    (base : Nat) (e : TypeId) (i : TypeInfo) (z : Value) (size bytes : Nat) (ht : P.underlying t = some (.slice e)) (hi : P.info? e = some i) (hz : i.zero = some z)
    (hsize : i.size = size) (hby : i.bytes = bytes) (hzs : z.cells.size = size) (hsz : 0 < size)
    (v : Value) (n : Nat) (xs : List Value) (hs : a.eval s = v) (hown : w.ownsRow base e size v n xs)
    (A : Option Addr) (m c : Nat) (news : List Value) (hx : a.eval x = .slice A m c) (hrow : RowAt w A news) (hA : A = none → c = 0) (hl : news.length = m * size) (h1 : ∀ u ∈ news, u.oneCell' = true)
    (h63 : n + m ≤ maxLen) (hbytes : (n + m) * bytes ≤ 140737488355328) (hbase : base ≤ w.heap.size)
    (h : ∀ v' w', w'.ownsRow base e size v' (n + m) (xs ++ news) → w.grownBy w' v.ownBlock → wpList P ops Q rest (a.put o.dst v') w') :
    wpList P ops Q (o :: rest) a w := by
  cases A with
  | none =>
    obtain rfl := hA rfl
    obtain rfl : news = [] := hrow.elim id (fun ⟨_, _, h, _⟩ => by cases h)
    obtain rfl : m = 0 := by
      rcases Nat.eq_zero_or_pos m with h0 | h0
      · exact h0
      · have := Nat.mul_pos h0 hsz; simp at hl; omega
    refine wpList_append_own_none hgd s x t ho base e i size ht hi v n xs hs hown hx ?_
    exact h v w (by rw [Nat.add_zero, List.append_nil]; exact hown) ⟨rfl, rfl, rfl, Nat.le_refl _, fun _ _ _ => rfl⟩
  | some ad =>
    refine wpList_append_own_at w hgd s x t ho base e i z size bytes ht hi hz hsize hby hzs hsz v n xs hs hown ad m c news hx hl hrow.cells h1 h63 hbytes hbase ?_
    intro v' w' g1 g2 _ _
    exact h v' w' g1 g2

/-- a command's lists can be read; none of them is an odd nil -/
structure CmdIn (w : World) (c : Sp.CmdV) (K : Option Addr) (kc : Nat) (D : Option Addr) (dc : Nat) (M : Option Addr) (mc : Nat) : Prop where
  keys : RowAt w K (c.keys.map str)
  data : RowAt w D (bytesV c.data)
  metas : RowAt w M (flagsCells c.metas)
  nk : K = none → kc = 0
  nd : D = none → dc = 0
theorem CmdIn.below {w w' : World} {c : Sp.CmdV} {K D M : Option Addr} {kc dc mc : Nat} (h : CmdIn w c K kc D dc M mc) (hb : Below w.heap.size w w') : CmdIn w' c K kc D dc M mc :=
  ⟨h.keys.below hb, h.data.below hb, h.metas.below hb, h.nk, h.nd⟩
theorem CmdIn.at {w : World} {c : Sp.CmdV} {K D M : Option Addr} {kc dc mc : Nat} (h : CmdIn w c K kc D dc M mc) : CmdAt w c (.slice K c.keys.length kc) (.slice D c.data.length dc) (.slice M c.metas.length mc) :=
  ⟨⟨K, kc, rfl, h.keys⟩, ⟨D, dc, rfl, h.data⟩, ⟨M, mc, rfl, h.metas⟩⟩

end Go.Proofs.YthgfjafnclklpaaGreatDoor
