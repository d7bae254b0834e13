/- The statements' comparisons of commands whose verb is any number. Printed by gen/genSx.py. Walk of the statement WordsBytes: its parts. Walk of the statement WordsBytes. From the listed table to what the walks ask. The row WordsBytes, where what it reads is of small bulk; the statement. -/
import Derived.Test.YthgfjafnclklpaaGreatDoorSm
import Derived.Test.YthgfjafnclklpaaGreatDoorQ25
import Derived.Test.YthgfjafnclklpaaGreatDoorQ32
import Derived.Test.YthgfjafnclklpaaGreatDoorQ46
import Derived.Test.YthgfjafnclklpaaGreatDoorRH
import Derived.Test.YthgfjafnclklpaaGreatDoorY6
import Derived.Test.YthgfjafnclklpaaGreatDoorKw
import Derived.Lib.LaidTab
import Derived.Test.YthgfjafnclklpaaGreatDoorOc
import Derived.Test.YthgfjafnclklpaaGreatDoorPc
section
namespace Go.Proofs.YthgfjafnclklpaaGreatDoor
attribute [local go_sem ↓] Go.wp_at_zero Go.wp_at_succ
open Go.RowKit
abbrev cmdVX (v : Int) (c : Sp.CmdV) (kv dv mv : Value) : Value := .agg #[.int .i64 v, kv, .int .u64 c.flags, .int .i64 c.exptime, .int .u64 c.token, .int .u64 c.delta, dv, .bool c.noreply, .bool c.large, mv, str c.what]
def cmdArrX (v : Int) (c : Sp.CmdV) (kv dv mv : Value) : Array Value := #[.int .i64 v, kv, .int .u64 c.flags, .int .i64 c.exptime, .int .u64 c.token, .int .u64 c.delta, dv, .bool c.noreply, .bool c.large, mv, str c.what]

set_option maxHeartbeats 4000000 in
set_option maxRecDepth 100000 in
theorem command_sameX {w : World} {v : Int} {c : Sp.CmdV} {k1 d1 m1 k2 d2 m2 : Value} (h1 : CmdAt w c k1 d1 m1) (h2 : CmdAt w c k2 d2 m2) (hk : c.keys.length ≤ 1000000000) (hm : c.metas.length ≤ 1000000000) :
    Calls Tryz.prog 47 #[cmdVX v c k1 d1 m1, cmdVX v c k2 d2 m2] w fun e w' => e = .returned (.bool true) ∧ Below w.heap.size w w' := by
  generalize hR : (fun (e : Ending) (w' : World) => e = .returned (.bool true) ∧ Below w.heap.size w w') = R
  obtain ⟨⟨A1, a1, rfl, r1⟩, ⟨B1, b1, rfl, s1⟩, ⟨C1, c1, rfl, t1⟩⟩ := h1
  obtain ⟨⟨A2, a2, rfl, r2⟩, ⟨B2, b2, rfl, s2⟩, ⟨C2, c2, rfl, t2⟩⟩ := h2
  have hb0 : Below w.heap.size w ((w.alloc (.cells (cmdArrX v c (.slice A1 c.keys.length a1) (.slice B1 c.data.length b1) (.slice C1 c.metas.length c1)) 38)).alloc (.cells (cmdArrX v c (.slice A2 c.keys.length a2) (.slice B2 c.data.length b2) (.slice C2 c.metas.length c2)) 38)) :=
    ((Below.refl _ _).alloc (Nat.le_refl _) _).alloc (by simp) _
  have ht := texts_same (ca := a1) (cb := a2) hk (r1.below hb0) (r2.below hb0)
  have hcv1 := fun (W : World) (hb : Below w.heap.size w W) => run_bytes_str (cap := b1) (s1.below hb)
  have hcv2 := fun (W : World) (hb : Below w.heap.size w W) => run_bytes_str (cap := b2) (s2.below hb)
  have hfl := fun (W : World) (hb : Below w.heap.size w W) => flags_same (ca := c1) (cb := c2) hm (t1.below hb) (t2.below hb)
  have HR := Lib.hid hR
  have HB0 := Lib.hid hb0
  have HT := Lib.hid ht
  have HCV1 := Lib.hid hcv1
  have HCV2 := Lib.hid hcv2
  have HFL := Lib.hid hfl
  clear hR hb0 ht hcv1 hcv2 hfl r1 r2 s1 s2 t1 t2
  have hbx1 : Blk ((w.alloc (.cells (cmdArrX v c (.slice A1 c.keys.length a1) (.slice B1 c.data.length b1) (.slice C1 c.metas.length c1)) 38)).alloc (.cells (cmdArrX v c (.slice A2 c.keys.length a2) (.slice B2 c.data.length b2) (.slice C2 c.metas.length c2)) 38)) w.heap.size 38 (cmdArrX v c (.slice A1 c.keys.length a1) (.slice B1 c.data.length b1) (.slice C1 c.metas.length c1)) := (Blk.new _ _ _).alloc _
  have hbx2 := Blk.new (w.alloc (.cells (cmdArrX v c (.slice A1 c.keys.length a1) (.slice B1 c.data.length b1) (.slice C1 c.metas.length c1)) 38)) 38 (cmdArrX v c (.slice A2 c.keys.length a2) (.slice B2 c.data.length b2) (.slice C2 c.metas.length c2))
  rw [show (w.alloc (.cells (cmdArrX v c (.slice A1 c.keys.length a1) (.slice B1 c.data.length b1) (.slice C1 c.metas.length c1)) 38)).heap.size = w.heap.size + 1 from by simp] at hbx2
  have HBX1 := Lib.hid hbx1
  have HBX2 := Lib.hid hbx2
  clear hbx1 hbx2
  go_enter Tryz.func47, Tryz.ntmps47
  go_wp2_with fail
  refine HT.out.mono ?_
  rintro e w1 ⟨rfl, hb⟩
  have hbw : Below w.heap.size w w1 := HB0.out.trans (hb.mono HB0.out.size)
  have e1 := HCV1.out w1 hbw
  have e2 := HCV2.out w1 hbw
  have hx1 := HBX1.out.later hb
  have hx2 := HBX2.out.later hb
  have x0 : _ = some (Value.int .i64 v) := (hx1).cell 0
  have x1 : _ = some (Value.slice A1 c.keys.length a1) := (hx1).cell 1
  have x2 : _ = some (Value.int .u64 c.flags) := (hx1).cell 2
  have x3 : _ = some (Value.int .i64 c.exptime) := (hx1).cell 3
  have x4 : _ = some (Value.int .u64 c.token) := (hx1).cell 4
  have x5 : _ = some (Value.int .u64 c.delta) := (hx1).cell 5
  have x6 : _ = some (Value.slice B1 c.data.length b1) := (hx1).cell 6
  have x7 : _ = some (Value.bool c.noreply) := (hx1).cell 7
  have x8 : _ = some (Value.bool c.large) := (hx1).cell 8
  have x9 : _ = some (Value.slice C1 c.metas.length c1) := (hx1).cell 9
  have x10 : _ = some (str c.what) := (hx1).cell 10
  have y0 : _ = some (Value.int .i64 v) := (hx2).cell 0
  have y1 : _ = some (Value.slice A2 c.keys.length a2) := (hx2).cell 1
  have y2 : _ = some (Value.int .u64 c.flags) := (hx2).cell 2
  have y3 : _ = some (Value.int .i64 c.exptime) := (hx2).cell 3
  have y4 : _ = some (Value.int .u64 c.token) := (hx2).cell 4
  have y5 : _ = some (Value.int .u64 c.delta) := (hx2).cell 5
  have y6 : _ = some (Value.slice B2 c.data.length b2) := (hx2).cell 6
  have y7 : _ = some (Value.bool c.noreply) := (hx2).cell 7
  have y8 : _ = some (Value.bool c.large) := (hx2).cell 8
  have y9 : _ = some (Value.slice C2 c.metas.length c2) := (hx2).cell 9
  have y10 : _ = some (str c.what) := (hx2).cell 10
  have HX1 := Lib.hid hx1
  have HX2 := Lib.hid hx2
  have HBW := Lib.hid hbw
  clear hb hbw hx1 hx2
  go_wp2_with fail
  refine (HFL.out w1 HBW.out).mono ?_
  rintro e w2 ⟨rfl, hb⟩
  have hx1 := HX1.out.later hb
  have hx2 := HX2.out.later hb
  clear x0 x1 x2 x3 x4 x5 x6 x7 x8 x9 x10 y0 y1 y2 y3 y4 y5 y6 y7 y8 y9 y10 e1 e2
  have x10 : _ = some (str c.what) := (hx1).cell 10
  have y10 : _ = some (str c.what) := (hx2).cell 10
  have HB2 := Lib.hid hb
  clear hb hx1 hx2
  go_wp2_with fail
  rw [← HR.out]
  exact ⟨rfl, HBW.out.trans (HB2.out.mono HBW.out.size)⟩

set_option maxHeartbeats 8000000 in
set_option maxRecDepth 100000 in
theorem same_sameX {w : World} {v : Int} {c : Sp.CmdV} {k1 d1 m1 k2 d2 m2 : Value} (h1 : CmdAt w c k1 d1 m1) (h2 : CmdAt w c k2 d2 m2) (hk : c.keys.length ≤ 1000000000) (hm : c.metas.length ≤ 1000000000) :
    Calls Tryz.prog 12 #[cmdVX v c k1 d1 m1, cmdVX v c k2 d2 m2] w fun e w' => e = .returned (.bool true) ∧ Below w.heap.size w w' := by
  generalize hR : (fun (e : Ending) (w' : World) => e = .returned (.bool true) ∧ Below w.heap.size w w') = R
  have hb0 : Below w.heap.size w ((w.alloc (.cells (cmdArrX v c k1 d1 m1) 38)).alloc (.cells (cmdArrX v c k2 d2 m2) 38)) :=
    ((Below.refl _ _).alloc (Nat.le_refl _) _).alloc (by simp) _
  have hbx1 : Blk ((w.alloc (.cells (cmdArrX v c k1 d1 m1) 38)).alloc (.cells (cmdArrX v c k2 d2 m2) 38)) w.heap.size 38 (cmdArrX v c k1 d1 m1) := (Blk.new _ _ _).alloc _
  have hbx2 := Blk.new (w.alloc (.cells (cmdArrX v c k1 d1 m1) 38)) 38 (cmdArrX v c k2 d2 m2)
  rw [show (w.alloc (.cells (cmdArrX v c k1 d1 m1) 38)).heap.size = w.heap.size + 1 from by simp] at hbx2
  have hc := command_sameX (v := v) (h1.below hb0) (h2.below hb0) hk hm
  obtain ⟨⟨A1, a1, rfl, r1⟩, ⟨B1, b1, rfl, s1⟩, ⟨C1, c1, rfl, t1⟩⟩ := h1
  obtain ⟨⟨A2, a2, rfl, r2⟩, ⟨B2, b2, rfl, s2⟩, ⟨C2, c2, rfl, t2⟩⟩ := h2
  have HR := Lib.hid hR
  have HB0 := Lib.hid hb0
  have HC := Lib.hid hc
  have HBX1 := Lib.hid hbx1
  have HBX2 := Lib.hid hbx2
  have HT1 := Lib.hid t1
  have HT2 := Lib.hid t2
  clear hR hb0 hc hbx1 hbx2 r1 r2 s1 s2 t1 t2
  go_enter Tryz.func12, Tryz.ntmps12
  go_wp2_with fail
  refine HC.out.mono ?_
  rintro e w1 ⟨rfl, hb⟩
  have hbw : Below w.heap.size w w1 := HB0.out.trans (hb.mono HB0.out.size)
  have hx1 := HBX1.out.later hb
  have hx2 := HBX2.out.later hb
  have x9 : _ = some (Value.slice C1 c.metas.length c1) := (hx1).cell 9
  have x10 : _ = some (str c.what) := (hx1).cell 10
  have y9 : _ = some (Value.slice C2 c.metas.length c2) := (hx2).cell 9
  have y10 : _ = some (str c.what) := (hx2).cell 10
  have HX1 := Lib.hid hx1
  have HX2 := Lib.hid hx2
  have HBW := Lib.hid hbw
  clear hb hbw hx1 hx2
  go_wp2_with fail
  go_loopw [5] (fun i wx => ∃ k : Nat, k ≤ c.metas.length ∧ i = .int .i64 k ∧ Below w1.heap.size w1 wx) (fun i _ => c.metas.length - (intOf i).toNat)
  case atStart => exact ⟨0, by omega, rfl, Below.refl _ _⟩
  case round =>
    obtain ⟨k, hk, rfl, hb⟩ := hrel
    clear x9 x10 y9 y10
    have hx1 := HX1.out.later hb
    have hx2 := HX2.out.later hb
    have x9 : _ = some (Value.slice C1 c.metas.length c1) := (hx1).cell 9
    have y9 : _ = some (Value.slice C2 c.metas.length c2) := (hx2).cell 9
    clear hx1 hx2
    have hbw := HBW.out.trans (hb.mono HBW.out.size)
    by_cases hlt : k < c.metas.length
    · obtain ⟨f, hf⟩ : ∃ f, c.metas[k]? = some f := ⟨c.metas[k], by simp [hlt]⟩
      obtain ⟨ga, oa, hAe, _, ya0, ya1, ya2⟩ := (HT1.out.below hbw).flag hf
      obtain ⟨gb, ob, hBe, _, yb0, yb1, yb2⟩ := (HT2.out.below hbw).flag hf
      subst hAe; subst hBe
      have HBX := Lib.hid hb
      clear hb hf hbw
      go_wp2_with fail
      go_quiet (fail)
      go_wp2_with fail
      exact ⟨⟨k + 1, by omega, by go_num, below_drewN' HBX.out _⟩, by show c.metas.length - ((k : Int) + 1).toNat < c.metas.length - (k : Int).toNat; omega⟩
    · have HBF := Lib.hid hbw
      clear hb hbw
      go_wp2_with fail
      rw [← HR.out]
      exact ⟨rfl, HBF.out⟩
end Go.Proofs.YthgfjafnclklpaaGreatDoor
end
section
namespace Go.Proofs.YthgfjafnclklpaaGreatDoor
attribute [local go_sem ↓] Go.wp_at_zero Go.wp_at_succ
open Go.RowKit

/-- the same bytes? -/
theorem eq_same {w : World} {A B : Option Addr} {ca cb : Nat} {l : Sp.Bs} (h1 : RowAt w A (bytesV l)) (h2 : RowAt w B (bytesV l)) :
    Calls Tryz.prog 11 #[.slice A l.length ca, .slice B l.length cb] w fun e w' => e = .returned (.bool true) ∧ Below w.heap.size w w' := by
  have hc1 := run_bytes_str (cap := ca) h1
  have hc2 := run_bytes_str (cap := cb) h2
  have hq : (l == l) = true := by simp
  clear h1 h2
  go_enter Tryz.func11, Tryz.ntmps11
  go_wp2_with fail
  go_ret
  exact ⟨rfl, Below.refl _ _⟩

/-- what Bytes tells of a command -/
def CmdX.told (x : CmdX) : Sp.Bs := x.out.getD []
def CmdX.code (x : CmdX) : Int := if x.out.isSome then 0 else 7
theorem Free.lotB {w : World} {base g n cap : Nat} {l : Sp.Bs} (h : Free w base g n cap l) : LotB w (.slice (some ⟨g, 0, none⟩) l.length cap) l := by
  have hn := h.len
  refine .inr ⟨g, cap, rfl, Nat.le_refl _, by rw [hn]; exact h.room, h.small, h.lt, fun j hj => by rw [Nat.mul_one] at hj; exact h.there j hj, fun k hk c u hu => ?_⟩
  have hc : c = 0 := by
    have := (List.getElem?_eq_some_iff.1 hu).1
    rw [byteF_length] at this; omega
  subst hc
  rw [Nat.mul_one, Nat.add_zero]
  refine h.cells k u ?_
  rw [← hu]
  simp [bytesV, byteF, List.getD_eq_getElem?_getD, List.getElem?_eq_getElem hk]
theorem lotB_nil (w : World) : LotB w nilRow [] := .inl ⟨rfl, rfl, rfl⟩
/-- bytes that were told: where they lie -/
structure ToldAt (w w' : World) (A : Option Addr) (c : Nat) (l : Sp.Bs) : Prop where
  lot : LotB w' (.slice A l.length c) l
  new : ∀ g, (Value.slice A l.length c).ownBlock = some g → w.heap.size ≤ g
  below : Below w.heap.size w w'
theorem BytesEndX.uni {w w' : World} {x : CmdX} {e : Ending} (h : BytesEndX w x e w') : ∃ A c, e = .returned (.tuple #[.slice A x.told.length c, .int .i64 x.code]) ∧ ToldAt w w' A c x.told := by
  unfold BytesEndX at h
  unfold CmdX.told CmdX.code
  cases ho : x.out with
  | none =>
    rw [ho] at h
    exact ⟨none, 0, h.1, lotB_nil _, fun g hg => (by cases hg), h.2⟩
  | some out =>
    rw [ho] at h
    obtain ⟨g, cap, h1, h2, h3⟩ := h
    exact ⟨some ⟨g, 0, none⟩, cap, h1, h2.lotB, fun g' hg => (by injection hg with hg; rw [← hg]; exact h2.ge), h3⟩
theorem CmdX.told_len {w : World} {x : CmdX} (h : CmdGood w x) : x.told.length ≤ 70368744177664 := by
  unfold CmdX.told
  cases ho : x.out with
  | none => exact Nat.zero_le _
  | some out =>
    obtain ⟨rfl, _, h1, h2, _, _⟩ := CmdX.out_some h ho
    have := (h.small h1 h2).1
    show (Sp.outV x.c).length ≤ _
    omega

/-- the Book beside the law's own memory -/
def WbMid (w : World) (bk : Nat) (wr : World) : Prop := ∃ f b0 b1 n vs ws bs, BookAt wr f bk b0 b1 nilRow nilRow nilRow n vs ws [] [] [] bs [] [] ∧ (∀ k, k < w.heap.size → f k = (0, 0)) ∧ Below w.heap.size w wr
theorem WbMid.start (w : World) : WbMid w w.heap.size (w.alloc (.cells (bookArr nilRow nilRow nilRow nilRow nilRow 0) 32)) :=
  ⟨fun k => if k < w.heap.size then (0, 0) else (1, 0), _, _, _, _, _, _, BookAt.new w _ (if_neg (Nat.lt_irrefl _)), fun _ hk => if_pos hk, (Below.refl _ _).alloc (Nat.le_refl _) _⟩
theorem WbMid.later {w wr w1 : World} {bk : Nat} (h : WbMid w bk wr) (hb : Below wr.heap.size wr w1) : WbMid w bk w1 := by
  obtain ⟨f, b0, b1, n, vs, ws, bs, h1, h2, h3⟩ := h
  exact ⟨f, b0, b1, n, vs, ws, bs, h1.later hb (fun _ _ => rfl), h2, h3.trans (hb.mono h3.size)⟩
theorem OnB1_zero (m : Nat) : ¬ OnB1 m (0, 0) := onB1_no (by decide) (by decide) (by decide)

set_option maxHeartbeats 1000000 in
set_option maxRecDepth 100000 in
theorem bookBytes_full {w : World} {bk : Nat} {n : Int} (y : w.cell? ⟨bk, 26, none⟩ = some (.int .i64 n)) (hn : 200000 < n) (v : Value) :
    Calls Tryz.prog 14 #[.pointer (some ⟨bk, 0, none⟩), v] w fun e w' => e = .returned (.tuple #[]) ∧ w = w' := by
  have hfull := full_any y
  rw [decide_eq_true hn] at hfull
  have HFULL := Lib.hid hfull
  clear hfull
  go_enter Tryz.func14, Tryz.ntmps14
  go_wp2_with (go_at_call 49; refine HFULL.out.mono ?_; rintro e w2 ⟨rfl, rfl⟩)
  exact ⟨rfl, .tuple #[], by simp [results, Tryz.results14, go_sem], rfl, rfl⟩

/-- two lists of bytes are taken in, one behind the other -/
theorem WbMid.two {w wr w9 : World} {bk : Nat} (hm : WbMid w bk wr) (hb : Below wr.heap.size wr w9) {Aa Ab : Option Addr} {ca cb : Nat} {l : Sp.Bs} (ha : LotB w9 (.slice Aa l.length ca) l) (hbb : LotB w9 (.slice Ab l.length cb) l)
    (hna : ∀ g, (Value.slice Aa l.length ca).ownBlock = some g → wr.heap.size ≤ g) (hnb : ∀ g, (Value.slice Ab l.length cb).ownBlock = some g → wr.heap.size ≤ g) (hne : ∀ g, (Value.slice Aa l.length ca).ownBlock = some g → (Value.slice Ab l.length cb).ownBlock ≠ some g) (hlen : l.length ≤ 70368744177664) :
    Calls Tryz.prog 14 #[.pointer (some ⟨bk, 0, none⟩), .slice Aa l.length ca] w9 fun e w10 => e = .returned (.tuple #[]) ∧ Calls Tryz.prog 14 #[.pointer (some ⟨bk, 0, none⟩), .slice Ab l.length cb] w10 fun e w11 => e = .returned (.tuple #[]) ∧ WbMid w bk w11 := by
  obtain ⟨f, b0, b1, n, vs, ws, bs, h1, h2, h3⟩ := hm
  obtain ⟨f9, hf9⟩ : ∃ f9 : Nat → Lab, f9 = fun k => if k < wr.heap.size then f k else if (Value.slice Aa l.length ca).ownBlock = some k then (2, bs.length) else if (Value.slice Ab l.length cb).ownBlock = some k then (2, bs.length + 1) else (0, 0) := ⟨_, rfl⟩
  have hold : ∀ k, k < wr.heap.size → f9 k = f k := fun k hk => by rw [hf9]; exact if_pos hk
  have h9 := h1.later hb hold
  have hla : LabV f9 (.slice Aa l.length ca) (2, bs.length) := fun g hg => by
    have := hna g hg
    rw [hf9]
    show (if g < wr.heap.size then _ else _) = _
    rw [if_neg (by omega), if_pos hg]
  have hlb : LabV f9 (.slice Ab l.length cb) (2, bs.length + 1) := fun g hg => by
    have := hnb g hg
    rw [hf9]
    show (if g < wr.heap.size then _ else _) = _
    rw [if_neg (by omega), if_neg (fun hh => hne g hh hg), if_pos hg]
  have hz : ∀ k, k < w.heap.size → f9 k = (0, 0) := fun k hk => by rw [hold k (Nat.lt_of_lt_of_le hk h3.size)]; exact h2 k hk
  have hb9 : Below w.heap.size w w9 := h3.trans (hb.mono h3.size)
  by_cases hn : n ≤ 200000
  · refine (bookBytes_any h9 ha hla hlen hn).mono ?_
    rintro e w10 ⟨rfl, f10, b0', b1', n', v, x, ho, h10⟩
    refine ⟨rfl, ?_⟩
    have hlb2 := hbb.apart ho hlb (onB1_no (by decide) (by decide) (by decide))
    have hlv2 := hlb.on ho hbb.lt
    have hz2 : ∀ k, k < w.heap.size → f10 k = (0, 0) := fun k hk => by rw [ho.lab k (Nat.lt_of_lt_of_le hk hb9.size)]; exact hz k hk
    have hb10 : Below w.heap.size w w10 := hb9.trans (ho.below hb9.size (fun k hk => by rw [hz k hk]; exact OnB1_zero _))
    by_cases hn2 : n' ≤ 200000
    · have hll : (bs ++ [l]).length = bs.length + 1 := by rw [List.length_append]; rfl
      rw [← hll] at hlv2
      refine (bookBytes_any h10 hlb2 hlv2 hlen hn2).mono ?_
      rintro e w11 ⟨rfl, f11, b0'', b1'', n'', v', x', ho2, h11⟩
      exact ⟨rfl, f11, _, _, _, _, _, _, h11, fun k hk => by rw [ho2.lab k (Nat.lt_of_lt_of_le hk hb10.size)]; exact hz2 k hk, hb10.trans (ho2.below hb10.size (fun k hk => by rw [hz2 k hk]; exact OnB1_zero _))⟩
    · refine (bookBytes_full (h10.blk.cell 26) (by omega) _).mono ?_
      rintro e w11 ⟨rfl, rfl⟩
      exact ⟨rfl, f10, _, _, _, _, _, _, h10, hz2, hb10⟩
  · refine (bookBytes_full (h9.blk.cell 26) (by omega) _).mono ?_
    rintro e w10 ⟨rfl, rfl⟩
    refine ⟨rfl, ?_⟩
    refine (bookBytes_full (h9.blk.cell 26) (by omega) _).mono ?_
    rintro e w11 ⟨rfl, rfl⟩
    exact ⟨rfl, f9, _, _, _, _, _, _, h9, hz, hb9⟩
theorem WbMid.close {w wr : World} {bk : Nat} (hm : WbMid w bk wr) : Calls Tryz.prog 15 #[.pointer (some ⟨bk, 0, none⟩)] wr fun e w' => e = .returned (.bool true) ∧ Below w.heap.size w w' := by
  obtain ⟨f, b0, b1, n, vs, ws, bs, h1, h2, h3⟩ := hm
  refine (close_bytes h1).mono ?_
  rintro e w' ⟨rfl, f', ho⟩
  exact ⟨rfl, h3.trans (ho.below h3.size (fun k hk => by rw [h2 k hk]; rintro (e | e | e) <;> revert e <;> decide))⟩

/-- a command that was lent: the Loan, and the command beside what was there -/
def LentAt (w1 : World) (lg : Nat) (y : CmdX) (w' : World) : Prop :=
  ∃ f l0 l1 l2 l3 vs ws us xs bs ts, LoanAt w' f lg l0 l1 l2 l3 vs ws us xs bs ts ∧ (∀ k, k < w1.heap.size → f k = (0, 0)) ∧ Below w1.heap.size w1 w' ∧ CmdGood w' y ∧ lg < w'.heap.size
theorem LentAt.later {w1 w' w2 : World} {lg : Nat} {y : CmdX} (h : LentAt w1 lg y w') (hb : Below w'.heap.size w' w2) : LentAt w1 lg y w2 := by
  obtain ⟨f, l0, l1, l2, l3, vs, ws, us, xs, bs, ts, h1, h2, h3, h4, h5⟩ := h
  exact ⟨f, l0, l1, l2, l3, vs, ws, us, xs, bs, ts, h1.later hb (fun _ _ => rfl), h2, h3.trans (hb.mono h3.size), h4.below hb, Nat.lt_of_lt_of_le h5 hb.size⟩
theorem lent_any {w1 : World} {x : CmdX} (hx : CmdGood w1 x) :
    Calls Tryz.prog 8 #[.pointer (some ⟨w1.heap.size, 0, none⟩), .agg x.cells.toArray] (w1.alloc (.cells #[nilRow, nilRow, nilRow, nilRow] 43)) fun e w' => ∃ g1 c1 g2 c2, e = .returned (.agg (x.lent g1 c1 g2 c2).cells.toArray) ∧ LentAt w1 w1.heap.size (x.lent g1 c1 g2 c2) w' := by
  have hl := LoanAt.new w1 (fun k => if k < w1.heap.size then (0, 0) else (30, 0)) (if_neg (Nat.lt_irrefl _))
  refine (loanCommand_any (W0 := w1) hl hx ((Below.refl _ _).alloc (Nat.le_refl _) _) (fun k hk => by rw [if_pos hk]; rintro ⟨h, _⟩; revert h; decide) (by decide) (by decide)).mono ?_
  rintro e w' ⟨g1, c1, g2, c2, f1, l0', l1', l2', l3', v1, v2, v3, v4, rfl, ho, hb, hla, hg⟩
  exact ⟨g1, c1, g2, c2, rfl, f1, _, _, _, _, _, _, _, _, _, _, hla, fun k hk => (ho.lab k (by simp; omega)).trans (if_pos hk), hb, hg, hla.blk.lt⟩
/-- Back, beside what does not lie in the Loan -/
theorem LentAt.back {w1 w' : World} {lg : Nat} {y : CmdX} (h : LentAt w1 lg y w') {S : World} (hS : Below S.heap.size S w') (hS1 : w1.heap.size ≤ S.heap.size) (hl : LentAt w1 lg y S) :
    Calls Tryz.prog 13 #[.pointer (some ⟨lg, 0, none⟩)] w' fun e w2 => e = .returned (.bool true) ∧ Below w1.heap.size w' w2 ∧ ∀ k, S.heap.size ≤ k → k < w'.heap.size → w2.heap[k]? = w'.heap[k]? := by
  obtain ⟨f, l0, l1, l2, l3, vs, ws, us, xs, bs, ts, h1, h2, h3, h4, h5⟩ := hl
  have h1' := h1.later hS (f1 := fun k => if k < S.heap.size then f k else (0, 0)) (fun k hk => if_pos hk)
  refine (back_any h1').mono ?_
  rintro e w2 ⟨rfl, f', ho, _⟩
  refine ⟨rfl, ?_, fun k hk1 hk2 => ho.block k hk2 (by rw [if_neg (by omega)]; rintro ⟨h, _⟩; revert h; decide)⟩
  obtain ⟨_, _, _, _, _, _, _, _, _, _, _, _, _, h3', _, _⟩ := h
  exact ho.below h3'.size (fun k hk => by rw [if_pos (Nat.lt_of_lt_of_le hk hS1), h2 k hk]; rintro ⟨h, _⟩; revert h; decide)

/-- the two rows that were told, and the one that was wanted -/
structure Three (W : World) (va vb vc : Value) (l : Sp.Bs) : Prop where
  a : LotB W va l
  b : LotB W vb l
  c : LotB W vc l
theorem Three.later {W W' : World} {va vb vc : Value} {l : Sp.Bs} (h : Three W va vb vc l) (hb : Below W.heap.size W W') : Three W' va vb vc l := ⟨h.a.later hb, h.b.later hb, h.c.later hb⟩
theorem range_same {w w' : World} {g o : Nat} {cs : List Value} (h : w.rangeAt g o cs) (hb : w'.heap[g]? = w.heap[g]?) : w'.rangeAt g o cs := fun j v hv => (World.cell?_of_block (a := ⟨g, o + j, none⟩) hb).trans (h j v hv)
end Go.Proofs.YthgfjafnclklpaaGreatDoor
end
section
namespace Go.Proofs.YthgfjafnclklpaaGreatDoor
attribute [local go_sem ↓] Go.wp_at_zero Go.wp_at_succ
open Go.RowKit

theorem loadVar_flagsW (a : Addr) : type_of% (loadVar.eq_1 36 a) := loadVar.eq_1 36 a
theorem run_store_cmdW (w : World) (z : Array Value) (hz : z.size = 11) (v : Int) (kp : Option Addr) (kn kc : Nat) (fl ex tk dl : Int) (dp : Option Addr) (dn dc : Nat) (nr lg : Bool) (mp : Option Addr) (mn mc : Nat) (wh : ByteArray) :
    (storeVar 38 ⟨w.heap.size, 0, none⟩ (.agg #[.int .i64 v, .slice kp kn kc, .int .u64 fl, .int .i64 ex, .int .u64 tk, .int .u64 dl, .slice dp dn dc, .bool nr, .bool lg, .slice mp mn mc, .string wh])).run Tryz.prog (w.alloc (.cells z 38)) =
      .ok () (w.alloc (.cells #[.int .i64 v, .slice kp kn kc, .int .u64 fl, .int .i64 ex, .int .u64 tk, .int .u64 dl, .slice dp dn dc, .bool nr, .bool lg, .slice mp mn mc, .string wh] 38)) :=
  run_storeVar_new w _ _ _ (by kernel_rfl) hz (by simp [Value.oneCell'])
theorem flagsW_one (l : List Sp.FlagV) : ∀ u ∈ flagsCells l, u.oneCell' = true := fun u hu => by
  unfold flagsCells at hu
  obtain ⟨f, _, hf⟩ := List.mem_flatMap.1 hu
  simp only [flagCells, List.mem_cons, List.not_mem_nil, or_false] at hf
  rcases hf with rfl | rfl | rfl <;> rfl
attribute [-go_sem] storeVar loadVar
attribute [local go_sem] storeVar_intR storeVar_sliceR storeVar_strR loadVar_intR loadVar_rowR loadVar_rowsR loadVar_textsR loadVar_textssR loadVar_flagsW run_store_cmdW

set_option maxHeartbeats 4000000 in
set_option maxRecDepth 100000 in
theorem wordsBytes_any {w : World} (hg : Glob w) (ht : TabAt w) {A : Option Addr} {capA : Nat} {xs : List CmdX} (hA : CmdsAt w A xs) (hn : xs.length ≤ 9223372036854775807) :
    Calls Tryz.prog 3 #[.slice A xs.length capA] w fun e w' => e = .returned (.bool true) ∧ Below w.heap.size w w' := by
  obtain ⟨i0, hi, hz0, hz1, hz2⟩ := info_parts info_flag
  generalize hR : (fun (e : Ending) (w' : World) => e = .returned (.bool true) ∧ Below w.heap.size w w') = R
  have HR := Lib.hid hR
  have HG := Lib.hid hg
  have HT := Lib.hid ht
  have HA := Lib.hid hA
  have hst := WbMid.start w
  have HST := Lib.hid hst
  obtain ⟨bk, hbk⟩ : ∃ bk, bk = w.heap.size := ⟨_, rfl⟩
  obtain ⟨w0, hw0⟩ : ∃ w0, w0 = w.alloc (.cells #[.slice none 0 0, .slice none 0 0, .slice none 0 0, .slice none 0 0, .slice none 0 0, .slice none 0 0, .slice none 0 0, .slice none 0 0, .slice none 0 0, .slice none 0 0, .slice none 0 0, .slice none 0 0, .slice none 0 0, .slice none 0 0, .slice none 0 0, .slice none 0 0, .slice none 0 0, .slice none 0 0, .slice none 0 0, .slice none 0 0, .slice none 0 0, .slice none 0 0, .slice none 0 0, .slice none 0 0, .slice none 0 0, .slice none 0 0, .int .i64 0] 32) := ⟨_, rfl⟩
  have hmid0 : WbMid w bk w0 := by rw [hbk, hw0]; exact hst
  have HM0 := Lib.hid hmid0
  have HBK := Lib.hid hbk
  have HW0 := Lib.hid hw0
  clear hR hg ht hA hst hbk hw0 hmid0
  go_enter Tryz.func3, Tryz.ntmps3
  go_upto_region 2 with fail
  rw [← HBK.out, ← HW0.out]
  go_wp2_with fail
  go_loopw [4, 5, 6, 7, 8, 9, 10, 11, 12] (fun iv _ _ _ _ _ _ _ _ wr => ∃ k : Nat, k ≤ xs.length ∧ iv = .int .i64 k ∧ WbMid w bk wr) (fun iv _ _ _ _ _ _ _ _ _ => xs.length - (intOf iv).toNat)
  case atStart => exact ⟨0, Nat.zero_le _, rfl, HM0.out⟩
  case round =>
    obtain ⟨k, hk, rfl, hm⟩ := hrel
    obtain ⟨wo, rfl⟩ : ∃ wo, wo = wr := ⟨wr, rfl⟩
    by_cases hlt : k < xs.length ∧ k < 100
    · obtain ⟨x, hx⟩ : ∃ x, xs[k]? = some x := ⟨xs[k]'hlt.1, List.getElem?_eq_getElem _⟩
      have hgood := HA.out.good x (List.mem_of_getElem? hx)
      obtain ⟨g, o, hAe, hglt, hcell⟩ := HA.out.cell hx
      subst hAe
      have hbw : Below w.heap.size w wo := by obtain ⟨_, _, _, _, _, _, _, _, _, h3⟩ := hm; exact h3
      have hcr : wo.rangeAt g (o + k * 11) x.cells := fun j u hj => by
        rw [hbw.cell (p := ⟨g, o + k * 11 + j, none⟩) hglt]
        exact hcell j u hj
      have hgo := hgood.below hbw
      have x6 : wo.cell? ⟨g, o + k * 11 + 6, none⟩ = some (Value.slice x.D x.c.data.length x.dc) := hcr 6 _ rfl
      have hk1 : (k : Int) < (xs.length : Int) := by omega
      have hk2 : (k : Int) < 100 := by omega
      have hme : xs.length - ((k : Int) + 1).toNat < xs.length - (k : Int).toNat := by omega
      have HME := Lib.hid hme
      have HM := Lib.hid hm
      have HGOOD := Lib.hid hgo
      have HCR := Lib.hid hcr
      clear hm hgood hgo hcell hx hlt hbw hcr hme hglt
      by_cases hbig : 65536 < x.c.data.length
      · have e1 : decide ((65536 : Int) < (x.c.data.length : Int)) = true := decide_eq_true (by omega)
        clear hbig
        go_wp2_with fail
        exact ⟨⟨k + 1, by omega, by go_num, HM.out⟩, HME.out⟩
      · have e1 : decide ((65536 : Int) < (x.c.data.length : Int)) = false := decide_eq_false (by omega)
        have hrb : Calls Tryz.prog 7 #[.agg x.cells.toArray] wo fun e w' => ∃ A c, e = .returned (.tuple #[.slice A x.told.length c, .int .i64 x.code]) ∧ ToldAt wo w' A c x.told := (refBytes_cmd HGOOD.out).mono fun e w' h => h.uni
        obtain ⟨ccs, hccs⟩ : ∃ ccs, ccs = x.cells := ⟨_, rfl⟩
        have hcr := HCR.out
        rw [← hccs] at hrb hcr
        have hsz : (Tryz.prog.info? 38).map (·.size) = some ccs.length := by rw [hccs]; kernel_rfl
        have hld := fun (W : World) (h : W.rangeAt g (o + k * 11) ccs) => run_loadVar_mid (P := Tryz.prog) W g (o + k * 11) 38 ccs _ h Tryz.underlying38 rfl hsz
        obtain ⟨L, hL⟩ : ∃ L, L = x.told := ⟨_, rfl⟩
        obtain ⟨cd, hcd⟩ : ∃ cd, cd = x.code := ⟨_, rfl⟩
        rw [← hL, ← hcd] at hrb
        have hLL : L.length ≤ 70368744177664 := by rw [hL]; exact CmdX.told_len HGOOD.out
        have HRB := Lib.hid hrb
        have HCC := Lib.hid hccs
        have HTL := Lib.hid hL
        have HCD := Lib.hid hcd
        have HCR0 := Lib.hid HCR.out
        clear hrb hccs hsz hL hcd hbig HCR
        go_upto_region 7 with (go_at_call 7; refine HRB.out.mono ?_; rintro e w1 ⟨A1, c1, rfl, ht1⟩; have hcr := range_below hcr ht1.below; have HT1 := Lib.hid ht1; clear ht1)
        have hcm : Calls Tryz.prog 8 #[.pointer (some ⟨w1.heap.size, 0, none⟩), .agg ccs.toArray] (w1.alloc (.cells #[.slice none 0 0, .slice none 0 0, .slice none 0 0, .slice none 0 0] 43)) fun e w' => ∃ g1 c1 g2 c2, e = .returned (.agg #[.int .i64 x.v, .slice (some ⟨g1, 0, none⟩) x.c.keys.length c1, .int .u64 x.c.flags, .int .i64 x.c.exptime, .int .u64 x.c.token, .int .u64 x.c.delta, .slice (some ⟨g2, 0, none⟩) x.c.data.length c2, .bool x.c.noreply, .bool x.c.large, .slice x.M x.c.metas.length x.mc, .string ⟨x.c.what.toArray⟩]) ∧ LentAt w1 w1.heap.size (x.lent g1 c1 g2 c2) w' := by
          rw [HCC.out]
          exact lent_any (HGOOD.out.below HT1.out.below)
        have HCM := Lib.hid hcm
        have hcr2 := range_below hcr ((Below.refl w1.heap.size w1).alloc (Nat.le_refl _) (.cells #[.slice none 0 0, .slice none 0 0, .slice none 0 0, .slice none 0 0] 43))
        obtain ⟨lg, hlg⟩ : ∃ lg, lg = w1.heap.size := ⟨_, rfl⟩
        clear hcm
        go_upto_region 8 with fail
        clear hcr x6
        go_upto_region 9 with (go_at_call 8; refine HCM.out.mono ?_; rintro e w3 ⟨g1, c1', g2, c2', rfl, hl3⟩; have HL3 := Lib.hid hl3; clear hl3)
        have hb13 : Below w1.heap.size w1 w3 := by obtain ⟨_, _, _, _, _, _, _, _, _, _, _, _, _, h3, _, _⟩ := HL3.out; exact h3
        have hbo3 : Below wo.heap.size wo w3 := HT1.out.below.trans (hb13.mono HT1.out.below.size)
        have hcr3 : w3.rangeAt g (o + k * 11) ccs := by rw [HCC.out]; exact range_below (by have := HCR0.out; exact this) hbo3
        have hldL : ∀ W : World, W.rangeAt g (o + k * 11) ccs → (loadVar 38 ⟨g, o + k * 11, none⟩).run Tryz.prog W = .ok (Value.agg #[Value.int .i64 x.v, Value.slice x.K x.c.keys.length x.kc, Value.int .u64 x.c.flags, Value.int .i64 x.c.exptime, Value.int .u64 x.c.token, Value.int .u64 x.c.delta, Value.slice x.D x.c.data.length x.dc, Value.bool x.c.noreply, Value.bool x.c.large, Value.slice x.M x.c.metas.length x.mc, str x.c.what]) W := fun W h => (hld W h).trans (by rw [HCC.out]; rfl)
        clear hld hcr2
        have hg3 := HG.out.later (show Below w.heap.size w w3 by obtain ⟨_, _, _, _, _, _, _, _, _, h3⟩ := HM.out; exact h3.trans (hbo3.mono h3.size))
        obtain ⟨W4, hW4⟩ : ∃ W4, W4 = w3.alloc (.cells #[.int .i64 x.v, .slice (some ⟨g1, 0, none⟩) x.c.keys.length c1', .int .u64 x.c.flags, .int .i64 x.c.exptime, .int .u64 x.c.token, .int .u64 x.c.delta, .slice (some ⟨g2, 0, none⟩) x.c.data.length c2', .bool x.c.noreply, .bool x.c.large, .slice x.M x.c.metas.length x.mc, .string ⟨x.c.what.toArray⟩] 38) := ⟨_, rfl⟩
        obtain ⟨bin, hbin⟩ : ∃ bin, bin = w3.heap.size := ⟨_, rfl⟩
        have hb34 : Below w3.heap.size w3 W4 := by rw [hW4]; exact (Below.refl _ _).alloc (Nat.le_refl _) _
        have hs4 : W4.heap.size = bin + 1 := by rw [hW4, hbin]; simp
        have hk4 : Blk W4 bin 38 #[.int .i64 x.v, .slice (some ⟨g1, 0, none⟩) x.c.keys.length c1', .int .u64 x.c.flags, .int .i64 x.c.exptime, .int .u64 x.c.token, .int .u64 x.c.delta, .slice (some ⟨g2, 0, none⟩) x.c.data.length c2', .bool x.c.noreply, .bool x.c.large, .slice x.M x.c.metas.length x.mc, .string ⟨x.c.what.toArray⟩] := by rw [hW4, hbin]; exact Blk.new w3 _ _
        have hb45 : Below w3.heap.size w3 (W4.alloc (.cells #[] 94)) := hb34.alloc (by rw [hs4, hbin]; omega) _
        have x9 : (W4.alloc (.cells #[] 94)).cell? ⟨g, o + k * 11 + 9, none⟩ = some (.slice x.M x.c.metas.length x.mc) := (range_below hcr3 hb45) 9 _ (by rw [HCC.out]; rfl)
        have hbo5 : Below wo.heap.size wo (W4.alloc (.cells #[] 94)) := hbo3.trans (hb45.mono hbo3.size)
        have hrm : RowAt (W4.alloc (.cells #[] 94)) x.M (flagsCells x.c.metas) := HGOOD.out.mem.metas.below hbo5
        have hnm := HGOOD.out.nm
        have hml := HGOOD.out.counts.2.1
        have hfl : (flagsCells x.c.metas).length = x.c.metas.length * 3 := flagsCells_length _
        have hone : ∀ u ∈ flagsCells x.c.metas, u.oneCell' = true := flagsW_one _
        have hown : (W4.alloc (.cells #[] 94)).ownsRow W4.heap.size 94 3 (.slice (some ⟨W4.heap.size, 0, none⟩) 0 0) 0 [] := World.ownsRow_made W4 #[] 0 (Nat.le_refl _) (Nat.zero_le _) (by simp)
        have HRM := Lib.hid hrm
        have HNM := Lib.hid hnm
        have HFL := Lib.hid hfl
        have HONE := Lib.hid hone
        have HOWN := Lib.hid hown
        have HK4 := Lib.hid hk4
        have HB34 := Lib.hid hb34
        have HBO3 := Lib.hid hbo3
        have HB13 := Lib.hid hb13
        have HCR3 := Lib.hid hcr3
        have HG3 := Lib.hid hg3
        have HS4 := Lib.hid hs4
        have HBIN := Lib.hid hbin
        have HLDL := Lib.hid hldL
        rw [← hW4]
        rw [← hbin]
        clear hW4 hbin hb34 hs4 hk4 hb45 hbo5 hrm hnm hfl hone hown hbo3 hb13 hcr3 hg3 hldL
        go_upto_region 10 with (at_builtin; refine wpList_append_in rfl (.tmp 48) (.tmp 53) _ rfl W4.heap.size 94 i0 _ 3 32 Tryz.underlying36 hi hz0 hz1 hz2 rfl (by decide) (.slice (some ⟨W4.heap.size, 0, none⟩) 0 0) 0 [] rfl HOWN.out x.M x.c.metas.length x.mc (flagsCells x.c.metas) rfl HRM.out HNM.out HFL.out HONE.out ?_ ?_ ?_ ?_; (unfold maxLen; omega); omega; simp; intro v6 w6 hown6 hgr6; rw [Nat.zero_add] at hown6; rw [List.nil_append] at hown6; obtain ⟨M6, m6, rfl⟩ := own_form hown6; have hb46 : Below W4.heap.size W4 w6 := ((Below.refl W4.heap.size W4).alloc (Nat.le_refl _) (.cells #[] 94)).grown hgr6 (by simp) (fun b hb => by simp [Value.ownBlock] at hb; omega); have hk6 := HK4.out.later hb46; have x9b : w6.cell? ⟨bin, 9, none⟩ = some (.slice x.M x.c.metas.length x.mc) := hk6.cell 9; have x9f := hk6.frozen 9; have HOWN6 := Lib.hid hown6; have HB46 := Lib.hid hb46; have HK6 := Lib.hid hk6; clear hown6 hgr6 hb46 hk6)
        obtain ⟨W7, hW7⟩ : ∃ W7, W7 = w6.setCell ⟨bin, 9, none⟩ (.slice M6 x.c.metas.length m6) := ⟨_, rfl⟩
        obtain ⟨y, hy⟩ : ∃ y : CmdX, y = { x.lent g1 c1' g2 c2' with M := M6, mc := m6 } := ⟨_, rfl⟩
        obtain ⟨yc, hyc⟩ : ∃ yc, yc = y.cells := ⟨_, rfl⟩
        have hb36 : Below w3.heap.size w3 w6 := HB34.out.trans (HB46.out.mono HB34.out.size)
        have hb37 : Below w3.heap.size w3 W7 := by rw [hW7]; exact hb36.setCell (by show w3.heap.size ≤ bin; rw [HBIN.out]; exact Nat.le_refl _) _
        have hk7 : Blk W7 bin 38 y.cells.toArray := by rw [hW7, hy]; exact HK6.out.put 9 _
        have hown7 : W7.ownsRow W4.heap.size 94 3 (.slice M6 x.c.metas.length m6) x.c.metas.length (flagsCells x.c.metas) := by
          rw [hW7]; exact HOWN6.out.kept (grownBy_setCell w6 _ _) (.inr (own_apart HOWN6.out HK6.out (by decide)))
        obtain ⟨q1, q2, q3⟩ := own_room3 hown7
        have hlen7 := HL3.out.later hb37
        have hgood7 : CmdGood W7 y := by
          obtain ⟨_, _, _, _, _, _, _, _, _, _, _, _, _, _, hgy, _⟩ := hlen7
          rw [hy]
          exact { hgy with
            mem := ⟨hgy.mem.keys, hgy.mem.data, RowAt.of_own hown7, hgy.mem.nk, hgy.mem.nd⟩
            mc := q1
            nm := q3
            caps := ⟨hgy.caps.1, hgy.caps.2.1, q2⟩ }
        have hg7 := HG3.out.later hb37
        have ht7 : TabAt W7 := HT.out.later HG.out (show Below w.heap.size w W7 by obtain ⟨_, _, _, _, _, _, _, _, _, h3⟩ := HM.out; exact (h3.trans (HBO3.out.mono h3.size)).trans (hb37.mono (Nat.le_trans h3.size HBO3.out.size)))
        have hby : ∀ W : World, Below W7.heap.size W7 W → Calls Tryz.prog 9 #[.agg #[.int .i64 x.v, .slice (some ⟨g1, 0, none⟩) x.c.keys.length c1', .int .u64 x.c.flags, .int .i64 x.c.exptime, .int .u64 x.c.token, .int .u64 x.c.delta, .slice (some ⟨g2, 0, none⟩) x.c.data.length c2', .bool x.c.noreply, .bool x.c.large, .slice M6 x.c.metas.length m6, .string ⟨x.c.what.toArray⟩]] W fun e w' => ∃ A c, e = .returned (.tuple #[.slice A L.length c, .int .i64 cd]) ∧ ToldAt W w' A c L := fun W hW => by
          have := (bytes_cmd (hg7.later hW) (ht7.later hg7 hW) (hgood7.below hW)).mono fun e w' h => h.uni
          rw [HTL.out, HCD.out]
          rw [hy] at this
          exact this
        have hsz2 : (Tryz.prog.info? 38).map (·.size) = some yc.length := by rw [hyc]; kernel_rfl
        have hldy : ∀ W : World, W.rangeAt bin 0 yc → (loadVar 38 ⟨bin, 0, none⟩).run Tryz.prog W = .ok (.agg #[.int .i64 x.v, .slice (some ⟨g1, 0, none⟩) x.c.keys.length c1', .int .u64 x.c.flags, .int .i64 x.c.exptime, .int .u64 x.c.token, .int .u64 x.c.delta, .slice (some ⟨g2, 0, none⟩) x.c.data.length c2', .bool x.c.noreply, .bool x.c.large, .slice M6 x.c.metas.length m6, .string ⟨x.c.what.toArray⟩]) W := fun W h => (run_loadVar_mid (P := Tryz.prog) W bin 0 38 yc _ h Tryz.underlying38 rfl hsz2).trans (by rw [hyc, hy]; rfl)
        have r1 : W7.rangeAt bin 0 yc := fun j v hv => by rw [Nat.zero_add, hk7.cell j]; rw [hyc] at hv; simpa using hv
        have HBY := Lib.hid hby
        have HB37 := Lib.hid hb37
        have HK7 := Lib.hid hk7
        have HLEN7 := Lib.hid hlen7
        have HGOOD7 := Lib.hid hgood7
        have HY := Lib.hid hy
        have HY0 := Lib.hid (show yc[0]? = some (.int .i64 x.v) by rw [hyc, hy]; rfl)
        rw [← hW7]
        clear hW7 hy hyc hb36 hb37 hk7 hown7 hlen7 hgood7 hg7 ht7 hby hsz2 q1 q2 q3 x9b x9f x9
        go_upto_region 12 with (first
          | (go_at_call 9; refine (HBY.out _ HT8.out.below).mono ?_; rintro e w9 ⟨A9, c9, rfl, ht9⟩; have r1 := range_below r1 ht9.below; have HT9 := Lib.hid ht9; clear ht9)
          | (go_at_call 9; refine (HBY.out _ (Below.refl _ _)).mono ?_; rintro e w8 ⟨A8, c8, rfl, ht8⟩; have r1 := range_below r1 ht8.below; have HT8 := Lib.hid ht8; clear ht8))
        have hb79 : Below W7.heap.size W7 w9 := HT8.out.below.trans (HT9.out.below.mono HT8.out.below.size)
        have hb39 : Below w3.heap.size w3 w9 := HB37.out.trans (hb79.mono HB37.out.size)
        have hb19 : Below w1.heap.size w1 w9 := HB13.out.trans (hb39.mono HB13.out.size)
        have hth : Three w9.drew (.slice A8 L.length c8) (.slice A9 L.length c9) (.slice A1 L.length c1) L := ⟨(HT8.out.lot.later HT9.out.below).drew, HT9.out.lot.drew, (HT1.out.lot.later hb19).drew⟩
        have hsm : ∀ W : World, Below w9.heap.size w9 W → Calls Tryz.prog 12 #[.agg #[.int .i64 x.v, .slice (some ⟨g1, 0, none⟩) x.c.keys.length c1', .int .u64 x.c.flags, .int .i64 x.c.exptime, .int .u64 x.c.token, .int .u64 x.c.delta, .slice (some ⟨g2, 0, none⟩) x.c.data.length c2', .bool x.c.noreply, .bool x.c.large, .slice M6 x.c.metas.length m6, .string ⟨x.c.what.toArray⟩], Value.agg #[Value.int .i64 x.v, Value.slice x.K x.c.keys.length x.kc, Value.int .u64 x.c.flags, Value.int .i64 x.c.exptime, Value.int .u64 x.c.token, Value.int .u64 x.c.delta, Value.slice x.D x.c.data.length x.dc, Value.bool x.c.noreply, Value.bool x.c.large, Value.slice x.M x.c.metas.length x.mc, str x.c.what]] W fun e w' => e = .returned (.bool true) ∧ Below W.heap.size W w' := fun W hW => by
          have h1 := (HGOOD7.out.below (hb79.trans (hW.mono hb79.size))).mem.at
          have h2 := (HGOOD.out.below (HBO3.out.trans ((hb39.trans (hW.mono hb39.size)).mono HBO3.out.size))).mem.at
          rw [HY.out] at h1
          have hcn := HGOOD.out.counts
          exact same_sameX (v := x.v) (c := x.c) h1 h2 (by have := hcn.1; omega) (by have := hcn.2.1; omega)
        have hbc : ∀ W : World, Below w9.heap.size w9 W → Calls Tryz.prog 13 #[.pointer (some ⟨w1.heap.size, 0, none⟩)] W fun e w2 => e = .returned (.bool true) ∧ Below w1.heap.size W w2 ∧ ∀ k, w3.heap.size ≤ k → k < W.heap.size → w2.heap[k]? = W.heap[k]? := fun W hW =>
          (HL3.out.later (hb39.trans (hW.mono hb39.size))).back (hb39.trans (hW.mono hb39.size)) HB13.out.size HL3.out
        have hldL := HLDL.out
        have r2 : w9.rangeAt g (o + k * 11) ccs := range_below HCR3.out hb39
        have hglt : g < w1.heap.size := by
          have := HCR0.out 0 _ rfl
          exact Nat.lt_of_lt_of_le (World.block_lt_of_cell? wo _ this) HT1.out.below.size
        have hch : Below w9.heap.size w9 w9.drew := (Below.refl _ _).drew
        have HTH := Lib.hid hth
        have HSM := Lib.hid hsm
        have HBC := Lib.hid hbc
        have HGL := Lib.hid hglt
        have HCH := Lib.hid hch
        have HB19 := Lib.hid hb19
        have HB39 := Lib.hid hb39
        have HB79 := Lib.hid hb79
        clear hth hsm hbc hglt hch hb19 hb39 hb79
        replace r1 : w9.drew.rangeAt bin 0 yc := r1
        replace r2 : w9.drew.rangeAt g (o + k * 11) ccs := r2
        go_region_held3 (fun w' => w'.rangeAt bin 0 yc ∧ w'.rangeAt g (o + k * 11) ccs) (first | exact ⟨r1, r2⟩ | go_keep)
          (first
            | (go_at_call 10; (with_reducible refine (num_any _ _).mono ?_); rintro ee w11 ⟨rfl, rfl⟩)
            | (go_at_call 12; refine (HSM.out _ HCH.out).mono ?_; rintro ee w11 ⟨rfl, hb11⟩; have r1 := range_below r1 hb11; have r2 := range_below r2 hb11; have HTH := Lib.hid (HTH.out.later hb11); have HCH := Lib.hid (HCH.out.trans (hb11.mono HCH.out.size)); clear hb11)
            | (go_at_call 13; refine (HBC.out _ HCH.out).mono ?_; rintro ee w12 ⟨rfl, hb12, hk12⟩; have hk3 : w3.heap.size ≤ w9.heap.size := HB39.out.size; have hkw := HCH.out.size; have r1 := range_same r1 (hk12 bin (Nat.le_of_eq HBIN.out.symm) (World.block_lt_of_cell? _ _ (r1 0 _ HY0.out))); have r2 := range_same r2 (hb12.block g HGL.out); have hth : Three w12 (.slice A8 L.length c8) (.slice A9 L.length c9) (.slice A1 L.length c1) L := ⟨HTH.out.a.same (fun q hq => hk12 q (Nat.le_trans HB37.out.size (HT8.out.new q hq)) (HTH.out.a.lt q hq)) hb12.size, HTH.out.b.same (fun q hq => hk12 q (Nat.le_trans (Nat.le_trans HB37.out.size HT8.out.below.size) (HT9.out.new q hq)) (HTH.out.b.lt q hq)) hb12.size, HTH.out.c.same (fun q hq => hb12.block q (HT1.out.lot.lt q hq)) hb12.size⟩; have HTH := Lib.hid hth; have HAF := Lib.hid ((HB19.out.trans (HCH.out.mono HB19.out.size)).trans hb12); clear hth hb12 hk12 hk3 hkw)
            | (go_at_call 11; have haf := HAF.out; clear haf; (with_reducible refine (eq_same (ca := c8) (cb := c1) HTH.out.a.row HTH.out.c.row).mono ?_); rintro ee w13 ⟨rfl, hb13⟩; have r1 := range_below r1 hb13; have r2 := range_below r2 hb13; have HTH := Lib.hid (HTH.out.later hb13); have HAF := Lib.hid (HAF.out.trans (hb13.mono HAF.out.size)); clear hb13)
            | (go_at_call 11; have hea := eq_same (ca := c8) (cb := c1) (LotB.row HTH.out.a) (LotB.row HTH.out.c); have heb := eq_same (ca := c9) (cb := c1) (LotB.row HTH.out.b) (LotB.row HTH.out.c); (first | (with_reducible refine hea.mono ?_) | (with_reducible refine heb.mono ?_)); clear hea heb; rintro ee w11 ⟨rfl, hb11⟩; have r1 := range_below r1 hb11; have r2 := range_below r2 hb11; have HTH := Lib.hid (HTH.out.later hb11); have HCH := Lib.hid (HCH.out.trans (hb11.mono HCH.out.size)); clear hb11))
        have hbo13 := HT1.out.below.trans (HAF.out.mono HT1.out.below.size)
        have hz1 := HT1.out.below.size
        have hz2 := HB13.out.size
        have hz3 := HB37.out.size
        have hz4 := HT8.out.below.size
        have htw := HM.out.two hbo13 HTH.out.a HTH.out.b (fun q hq => by have := HT8.out.new q hq; omega) (fun q hq => by have := HT9.out.new q hq; omega) (fun q hq hq2 => by have h1 := HT8.out.lot.lt q hq; have h2 := HT9.out.new q hq2; omega) hLL
        have HTW := Lib.hid htw
        clear hbo13 hz1 hz2 hz3 hz4 htw hldL r1 r2
        go_wp2_with (first | (go_at_call 14; refine HN2.out.mono ?_; rintro ee w15 ⟨rfl, hm15⟩; have HM15 := Lib.hid hm15; clear hm15) | (go_at_call 14; refine HTW.out.mono ?_; rintro ee w14 ⟨rfl, hn2⟩; have HN2 := Lib.hid hn2; clear hn2))
        exact ⟨⟨k + 1, by omega, by go_num, HM15.out⟩, HME.out⟩
    · by_cases hk1 : k < xs.length
      · have h1 : (k : Int) < (xs.length : Int) := by omega
        have h2 : decide ((k : Int) < 100) = false := decide_eq_false (by omega)
        have HM := Lib.hid hm
        clear hlt hm
        have hcl := HM.out.close
        have hwk := fun (W : World) (hW : Below w.heap.size w W) => wakes11_any (HG.out.later hW) (HT.out.later HG.out hW)
        have HCL := Lib.hid hcl
        have HWK := Lib.hid hwk
        clear hcl hwk
        go_wp2_with (first | (go_at_call 15; refine HCL.out.mono ?_; rintro e w2 ⟨rfl, hb2⟩; have HB2 := Lib.hid hb2; clear hb2) | (go_at_call 16; refine (HWK.out _ HB2.out).mono ?_; rintro e w3 ⟨rfl, hb3⟩; have HB3 := Lib.hid hb3; clear hb3))
        rw [← HR.out]
        exact ⟨rfl, HB2.out.trans (HB3.out.mono HB2.out.size)⟩
      · have h1 : decide (k < xs.length) = false := decide_eq_false (by omega)
        have HM := Lib.hid hm
        clear hlt hm
        have hcl := HM.out.close
        have hwk := fun (W : World) (hW : Below w.heap.size w W) => wakes11_any (HG.out.later hW) (HT.out.later HG.out hW)
        have HCL := Lib.hid hcl
        have HWK := Lib.hid hwk
        clear hcl hwk
        go_wp2_with (first | (go_at_call 15; refine HCL.out.mono ?_; rintro e w2 ⟨rfl, hb2⟩; have HB2 := Lib.hid hb2; clear hb2) | (go_at_call 16; refine (HWK.out _ HB2.out).mono ?_; rintro e w3 ⟨rfl, hb3⟩; have HB3 := Lib.hid hb3; clear hb3))
        rw [← HR.out]
        exact ⟨rfl, HB2.out.trans (HB3.out.mono HB2.out.size)⟩
end Go.Proofs.YthgfjafnclklpaaGreatDoor
end
section
namespace Go.Proofs.YthgfjafnclklpaaGreatDoor
open Go.ChangeShapes Go.WideShapes Go.ChangeAt Go.RowKit

/-- the listed table -/
theorem tab_of {W : World} (h : Lib.VarReads Tryz.prog W "internal/strconv.uint64pow10" Rows.laid_internal_strconv_uint64pow10) : TabAt W := by
  obtain ⟨g', t', cs, fuel, p, h1, h2, h3, h4⟩ := h
  obtain rfl := Option.some.inj ((show Tryz.prog.globalNamed "internal/strconv.uint64pow10" = some 1 by kernel_rfl).symm.trans h1)
  obtain rfl := Option.some.inj ((show (Tryz.prog.globals[1]?).map (·.type) = some 207 by kernel_rfl).symm.trans h2)
  unfold TabAt Lib.TabIs
  rw [h3, ← Lib.cells_of_tab Tryz.underlying207 Tryz.underlying34 (by kernel_rfl) (by kernel_rfl) (k := .u64) (zs := Lib.pow10Tab) h4]
end Go.Proofs.YthgfjafnclklpaaGreatDoor
end
section
namespace Go.Proofs.YthgfjafnclklpaaGreatDoor
open Go.ChangeShapes Go.WideShapes Go.ChangeAt Go.RowKit

set_option maxRecDepth 100000 in
theorem wordsBytesUpto_lifted (os : Os) (started : os.Started) (H : Type) (enc : TypeId × Value → H) (F : Stop.Interp) :
    ReturnsInHanded {} Tryz.checked os 3 .any ((Rows.OpenSpec.upto Rows.wordsBytesSpec).preRow enc Tryz.prog Tryz.f3 Rows.wordsBytesUptoRow.domain false Rows.wordsBytesUptoRow.laid)
      (((Rows.OpenSpec.upto Rows.wordsBytesSpec).at F).post enc Tryz.prog Tryz.f3 false true false false) := by
  change ReturnsInHanded {} Tryz.checked os 3 .any (fun w args => ((Rows.OpenSpec.upto Rows.wordsBytesSpec).pre enc Tryz.prog Tryz.f3 [] false w args ∧ laidMetH Tryz.prog Rows.wordsBytesUptoRow.laid w) ∧ sizedMet enc Tryz.prog Tryz.f3 (Rows.OpenSpec.upto Rows.wordsBytesSpec) false w args)
    (Rows.wordsBytesSpec.post enc Tryz.prog Tryz.f3 false true false false)
  refine returns_laid_cond (C := Tryz.checked) (s := Rows.OpenSpec.upto Rows.wordsBytesSpec) (k := Rows.uptoSmall) rfl (X := fun w _ => laidMetH Tryz.prog Rows.wordsBytesUptoRow.laid w) (fun _ _ _ hh h => h.of_heap hh) ownKnob0 started (by kernel_rfl) Tryz.func3
    (witness_cond (enc := enc) (C := Tryz.checked) (os := os) (s := Rows.OpenSpec.upto Rows.wordsBytesSpec) (k := Rows.uptoSmall) rfl (X := fun w _ => laidMetH Tryz.prog Rows.wordsBytesUptoRow.laid w) false (World.laidAll Tryz.prog os Rows.wordsBytesUptoRow.laid) #[nilRow] 8 (World.laidAll_os _ _ _)
      (World.shaped_of_ZipB (by kernel_rfl) (by kernel_rfl)) (by kernel_rfl) (x := ([.nil], [], [])) (by kernel_rfl) (by kernel_rfl) (by kernel_rfl) (by kernel_rfl)
      (by rw [MakeChecks.laidMetH_plain _ _ _ (by kernel_rfl)]; exact laidMet_laidAll _ (by kernel_rfl) (by kernel_rfl))) ?_
  intro W base args ds gs before hval0 hW hk hL hsh
  have hW' := hW
  obtain ⟨p, q, hA0, hV, rfl, _, _⟩ := hW
  have hA : DataW.TrodAll enc Tryz.prog W 0 (fun _ => true) true Tryz.f3.params.toList args.toList ds p := hA0
  rw [Tryz.params3] at hA
  rw [MakeChecks.laidMetH_plain _ _ _ (by kernel_rfl)] at hL
  have hG : Glob W := glob_of hsh ⟨_, Lib.laidMet.reads hL (.tail _ (.tail _ (.tail _ (.tail _ (.tail _ (.head _))))))⟩ ⟨_, Lib.laidMet.reads hL (.tail _ (.tail _ (.tail _ (.tail _ (.head _)))))⟩
  have hT : TabAt W := tab_of (Lib.laidMet.reads hL (.tail _ (.tail _ (.head _))))
  obtain ⟨v, d, rfl, rfl, hd⟩ := trodAll_one hA
  obtain ⟨rfl, _⟩ := trodVars_none hV
  have hv : Value.okWide Tryz.prog W .any base 22 v := hval0 0 _ v (by rw [Tryz.params3]; rfl) rfl
  obtain ⟨A, cap, xs, rfl, h1, h2, h3⟩ := open_cmds hv hd (small_one hk)
  refine (wordsBytes_any hG hT h1 (by omega)).mono fun e W' ⟨he, hb⟩ => ?_
  subst he
  exact ⟨_, rfl, law_post hW' rfl (by kernel_rfl) rfl (by rw [Tryz.params3]; intro t ht; simp at ht; subst ht; exact ⟨by kernel_rfl, of_decide_eq_true (by kernel_rfl)⟩) hb⟩

theorem wordsBytesUpto_row : Rows.wordsBytesUptoRow.holds Tryz.pinned (Rows.OpenSpec.upto Rows.wordsBytesSpec) :=
  OpenClaim.holds_of_cond 3 Tryz.f3 rfl rfl rfl rfl rfl rfl rfl ⟨rfl, rfl, rfl, rfl, rfl⟩ rfl rfl rfl rfl rfl (by kernel_rfl) Tryz.func3 (by kernel_rfl)
    (of_decide_eq_true (by kernel_rfl)) (by unfold Func.isWrapper; first | (rw [if_pos (by decide +kernel)]; kernel_rfl) | (rw [if_neg (by decide +kernel)]; exact ⟨rfl, rfl⟩))
    (fun os started H enc _ F => by rw [OpenClaim.pre_eq_preRow]; exact wordsBytesUpto_lifted os started H enc F)

/-- the statement -/
theorem wordsBytesUpto_card : Rows.WordsBytesUptoCardSaid :=
  Claim7.holds_tied_plain_at .later [] [.data, .data, .data, .data, .sentinel, .sentinel, .pinned] true Rows.wordsBytesUptoCard.stood.harness true
    wordsBytesUpto_row (fun _ h => by cases h) (by kernel_rfl) (fun _ h => by cases h) wordsBytesUpto_row_tie rfl ⟨rfl, rfl⟩ (by kernel_rfl) rfl
    (fun f fn hf hfn => by
      obtain rfl : f = 3 := Option.some.inj ((show Tryz.prog.funcNamed "granary/granarylaw11.WordsBytes" = some 3 by kernel_rfl).symm.trans hf) |>.symm
      obtain rfl : fn = Tryz.f3 := (Option.some.inj (Tryz.func3.symm.trans hfn)).symm
      exact ⟨by kernel_rfl, fun j t ht => by
        rw [Tryz.params3] at ht
        obtain rfl : t = 22 := by simpa using Array.mem_of_getElem? ht
        kernel_rfl⟩)
    (by kernel_rfl)
#print axioms wordsBytesUpto_card
end Go.Proofs.YthgfjafnclklpaaGreatDoor
end
