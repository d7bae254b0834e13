/- Walk of package words: one. Walk of package words: one, where a line is whole. -/
import Derived.Test.YthgfjafnclklpaaGreatDoorA1
import Derived.Test.YthgfjafnclklpaaGreatDoorG2
section
namespace Go.Proofs.YthgfjafnclklpaaGreatDoor
attribute [local go_sem ↓] Go.wp_at_zero Go.wp_at_succ
open Go.RowKit

theorem canPut_new (w : World) (cs : Array Value) (e : TypeId) (b n : Nat) (hb : b = w.heap.size) : canPut (w.alloc (.cells cs e)) b 0 n = decide (n ≤ cs.size) := by
  subst hb
  unfold canPut
  rw [Bool.eq_iff_iff, List.all_eq_true, decide_eq_true_eq]
  have hf := fun j => (Blk.new w e cs).frozen j
  have hc := fun j => (Blk.new w e cs).cell j
  simp only [hc, hf, Nat.zero_add, Bool.not_false, Bool.and_true, List.mem_range]
  constructor
  · intro h
    by_cases hn : n = 0
    · omega
    · have := h (n - 1) (by omega)
      simp at this; omega
  · intro h j hj
    simp; omega

/-- what one tells -/
def OnePost (w : World) (at' : Nat) (r : Option (Sp.StepV × Nat)) (e : Ending) (w' : World) : Prop :=
  ∃ t kv dv mv, e = .returned (.tuple #[stepV t kv dv mv, .bool r.isSome]) ∧ CmdMem w' t.cmd kv dv mv ∧ (∀ k ∈ cmdBlocks kv dv mv, w.heap.size ≤ k) ∧
    (∀ t' n, r = some (t', n) → t = t'.span at' (at' + n)) ∧ Below w.heap.size w w'

/-- the variables of one, where its line has been read -/
structure OneVars (w : World) (cb wb rb : Nat) (c : Sp.CmdV) (kv mv : Value) (x : Sp.WrongV) : Prop where
  c : Blk w cb 38 (cmdArr c kv nilRow mv)
  x : Blk w wb 59 (wrongArr x)
  r : Blk w rb 99 (stepArr {} nilRow nilRow nilRow)

attribute [-go_sem] storeVar
attribute [local go_sem] run_store_cmd run_store_wrong run_store_step storeVar_int' storeVar_bool' storeVar_slice' storeVar_func' canPut_new canPut_setCell canPut_drew canPut_alloc canPut_setCells cell_setCells_far World.frozen?_setCells

theorem one_results {W : World} {rb : Nat} {t : Sp.StepV} {kv dv mv : Value} {th : Bool} (hb : Blk W rb 99 (stepArr t kv dv mv)) (tm : Array Value) (h6 : tm[6]?.getD undef = .pointer (some ⟨rb, 0, none⟩)) (h7 : tm[7]?.getD undef = .bool th) :
    (results Tryz.f68 tm).run Tryz.prog W = .ok (.tuple #[stepV t kv dv mv, .bool th]) W := by
  have z0 : _ = some (Value.int .i64 t.cmd.verb) := (hb).cell 0
  have z1 : _ = some (kv) := (hb).cell 1
  have z2 : _ = some (Value.int .u64 t.cmd.flags) := (hb).cell 2
  have z3 : _ = some (Value.int .i64 t.cmd.exptime) := (hb).cell 3
  have z4 : _ = some (Value.int .u64 t.cmd.token) := (hb).cell 4
  have z5 : _ = some (Value.int .u64 t.cmd.delta) := (hb).cell 5
  have z6 : _ = some (dv) := (hb).cell 6
  have z7 : _ = some (Value.bool t.cmd.noreply) := (hb).cell 7
  have z8 : _ = some (Value.bool t.cmd.large) := (hb).cell 8
  have z9 : _ = some (mv) := (hb).cell 9
  have z10 : _ = some (str t.cmd.what) := (hb).cell 10
  have z11 : _ = some (Value.int .i64 t.wrong.kind) := (hb).cell 11
  have z12 : _ = some (str t.wrong.text) := (hb).cell 12
  have z13 : _ = some (Value.int .i64 t.wrong.pass) := (hb).cell 13
  have z14 : _ = some (Value.int .i64 t.frm) := (hb).cell 14
  have z15 : _ = some (Value.int .i64 t.to) := (hb).cell 15
  clear hb
  simp [results, Tryz.results68, go_sem, h6, h7, z0, z1, z2, z3, z4, z5, z6, z7, z8, z9, z10, z11, z12, z13, z14, z15]

set_option maxHeartbeats 8000000 in
set_option maxRecDepth 100000 in
theorem one_none {w : World} {A : Option Addr} {cap : Nat} {l : Sp.Bs} (h : RowAt w A (bytesV l)) (hc : l.length ≤ cap) (hA : A = none → cap = 0) {at' lim : Nat} (hat : at' ≤ l.length)
    (hi : Sp.indexOf (l.drop at') 10 = none) :
    Calls Tryz.prog 68 #[.slice A l.length cap, .int .i64 at', .int .i64 lim] w (OnePost w at' none) := by
  generalize hR : OnePost w at' none = R
  have HR := Lib.hid hR
  have hbl : (l.drop at').length = l.length - at' := by simp
  have hsl := fun W : World => run_slice_from W A l.length cap at' hat
  have hrowD : RowAt w (cutAddr A at' cap) (bytesV (l.drop at')) := by
    rw [bytesV_drop]
    exact h.cut (by rw [bytesV_length]; exact hc)
  have hidx : ∀ W : World, RowAt W (cutAddr A at' cap) (bytesV (l.drop at')) → Calls Tryz.prog 114 #[.slice (cutAddr A at' cap) (l.length - at') (cap - at'), .int .u8 10] W fun e w' => e = .returned (.int .i64 (-1)) ∧ W = w' := fun W h1 => by
    have := index_any (cap := cap - at') h1 (cutAddr_none hA) 10
    rwa [hbl, indexByte_of, hi] at this
  generalize cutAddr A at' cap = D at hsl hrowD hidx
  have HROW := Lib.hid hrowD
  have HI := Lib.hid hidx
  clear hR h hA hrowD hidx hbl hi
  go_enter Tryz.func68, Tryz.ntmps68
  go_wp2_with fail
  refine (HI.out _ (HROW.out.alloc _)).mono ?_
  rintro e w1 ⟨rfl, hw1⟩
  have hs1 := Blk.new w 99 (stepArr {} nilRow nilRow nilRow)
  have hb1 : Below w.heap.size w (w.alloc (.cells (stepArr {} nilRow nilRow nilRow) 99)) := (Below.refl _ _).alloc (Nat.le_refl _) _
  change (w.alloc (.cells (stepArr {} nilRow nilRow nilRow) 99)) = w1 at hw1
  rw [hw1] at hs1 hb1
  have hcp := hs1.can 0 16 (by simp [stepArr])
  have HS1 := Lib.hid hs1
  have HB1 := Lib.hid hb1
  clear hw1 hs1 hb1
  go_wp2_with fail
  generalize hW : w1.setCells w.heap.size 0 _ = W
  have hb2 : Blk W w.heap.size 99 (stepArr {} nilRow nilRow nilRow) := by rw [← hW]; exact Blk.putStep HS1.out {} nilRow nilRow nilRow
  have hbW : Below w.heap.size w W := by rw [← hW]; exact Below.setCells (Nat.le_refl _) _ 0 HB1.out
  have hfin : R (.returned (.tuple #[stepV {} nilRow nilRow nilRow, .bool false])) W := by
    rw [← HR.out]
    exact ⟨{}, nilRow, nilRow, nilRow, rfl, CmdMem.zero W, by simp [cmdBlocks, rowBlock_nil], fun _ _ e => (by cases e), hbW⟩
  have HF := Lib.hid hfin
  have HB2 := Lib.hid hb2
  clear hfin hW hb2 hbW
  exact bodyPost_ret (one_results HB2.out _ rfl rfl) rfl HF.out

/-- what becomes of a line that was read -/
def oneTail (lim at' i : Nat) (l : Sp.Bs) : Sp.LineR → Option (Sp.StepV × Nat)
  | .bad x => if 0 ≤ x.pass ∧ x.pass ≤ lim then (Sp.skipV (l.drop (at' + i + 1)) x.pass.toNat).map fun y => ({ wrong := x }, i + 1 + y.1) else some ({ wrong := x }, i + 1)
  | .ok c n => if n < 0 then some ({ cmd := c }, i + 1) else (Sp.skipV (l.drop (at' + i + 1)) n.toNat).map fun y =>
      (if lim < n then { cmd := { c with large := true } } else if y.2 then { cmd := { c with data := (l.drop (at' + i + 1)).take n.toNat } } else { wrong := ⟨2, Sp.badChunk, -1⟩ }, i + 1 + y.1)


/-- the step as it stands -/
structure OneNow (w W : World) (s0 : Nat) (t : Sp.StepV) (kv dv mv : Value) : Prop where
  step : Blk W s0 99 (stepArr t kv dv mv)
  res : Blk W w.heap.size 99 (stepArr {} nilRow nilRow nilRow)
  mem : CmdMem W t.cmd kv dv mv
  ge : ∀ k ∈ cmdBlocks kv dv mv, w.heap.size ≤ k
  below : Below w.heap.size w W
  ne : w.heap.size < s0

/-- a command's lists lie apart from a step's block -/
theorem CmdMem.apart {W : World} {c : Sp.CmdV} {kv dv mv : Value} (h : CmdMem W c kv dv mv) {g : Nat} {cs : Array Value} (hb : Blk W g 99 cs) : ∀ k ∈ cmdBlocks kv dv mv, k ≠ g := by
  intro k hk e
  subst e
  simp only [cmdBlocks, List.mem_append, mem_rowBlock] at hk
  rcases hk with hk | hk | hk
  · exact own_apart h.keys hb (by decide) hk
  · exact own_apart h.data hb (by decide) hk
  · exact own_apart h.metas hb (by decide) hk

section
variable {w W W' : World} {s0 : Nat} {t t' : Sp.StepV} {kv dv mv dv' : Value}
theorem OneNow.later (h : OneNow w W s0 t kv dv mv) (hb : Below W.heap.size W W') : OneNow w W' s0 t kv dv mv :=
  ⟨Blk.later h.step hb, Blk.later h.res hb, h.mem.same fun k hk => hb.block k (h.mem.lt k hk), h.ge, h.below.trans (hb.mono h.below.size), h.ne⟩
theorem OneNow.put (h : OneNow w W s0 t kv dv mv) (i : Nat) (u : Value) (hc : (stepArr t kv dv mv).setIfInBounds i u = stepArr t' kv dv mv) (h1 : t'.cmd.keys = t.cmd.keys) (h2 : t'.cmd.data = t.cmd.data) (h3 : t'.cmd.metas = t.cmd.metas) :
    OneNow w (W.setCell ⟨s0, i, none⟩ u) s0 t' kv dv mv := by
  have hne := h.ne
  have hm := h.mem.same (w' := W.setCell ⟨s0, i, none⟩ u) fun k hk => Below.heap_setCell W ⟨s0, i, none⟩ u k (h.mem.apart h.step k hk)
  refine ⟨by rw [← hc]; exact Blk.put h.step i u, Blk.far h.res (by show w.heap.size ≠ s0; omega) u, ⟨by rw [h1]; exact hm.keys, by rw [h2]; exact hm.data, by rw [h3]; exact hm.metas⟩, h.ge, h.below.setCell (p := ⟨s0, i, none⟩) (by show w.heap.size ≤ s0; omega) u, hne⟩
/-- the block's bytes are kept -/
theorem OneNow.putData (h : OneNow w W s0 t kv nilRow mv) {d : Sp.Bs} (hd : W.ownsRow w.heap.size 5 1 dv' d.length (bytesV d)) (ht' : t' = { t with cmd := { t.cmd with data := d } }) :
    OneNow w (W.setCell ⟨s0, 6, none⟩ dv') s0 t' kv dv' mv := by
  have hne := h.ne
  subst ht'
  have hm := h.mem.same (w' := W.setCell ⟨s0, 6, none⟩ dv') fun k hk => Below.heap_setCell W ⟨s0, 6, none⟩ dv' k (h.mem.apart h.step k hk)
  have hd' : (W.setCell ⟨s0, 6, none⟩ dv').ownsRow w.heap.size 5 1 dv' d.length (bytesV d) := own_same hd fun k hk => Below.heap_setCell W ⟨s0, 6, none⟩ dv' k (by
    intro e; subst e; exact own_apart hd h.step (by decide) (mem_rowBlock.1 hk))
  refine ⟨?_, Blk.far h.res (by show w.heap.size ≠ s0; omega) _, ⟨hm.keys, World.ownsRow.mono hd' (Nat.zero_le _), hm.metas⟩, ?_, h.below.setCell (p := ⟨s0, 6, none⟩) (by show w.heap.size ≤ s0; omega) _, hne⟩
  · have := Blk.put h.step 6 dv'
    rwa [show (stepArr t kv nilRow mv).setIfInBounds 6 dv' = stepArr { t with cmd := { t.cmd with data := d } } kv dv' mv from by kernel_rfl] at this
  · intro k hk
    simp only [cmdBlocks, List.mem_append] at hk
    rcases hk with hk | hk | hk
    · exact h.ge k (by simp [cmdBlocks, hk])
    · exact own_ge hd k hk
    · exact h.ge k (by simp [cmdBlocks, hk])
/-- the step is given up: another one stands there -/
theorem OneNow.bad (h : OneNow w W s0 t kv dv mv) (hb : Blk W' s0 99 (stepArr t' nilRow nilRow nilRow)) (ht : t'.cmd = {}) (hr : Blk W' w.heap.size 99 (stepArr {} nilRow nilRow nilRow)) (hw : Below w.heap.size w W') :
    OneNow w W' s0 t' nilRow nilRow nilRow :=
  ⟨hb, hr, by rw [ht]; exact CmdMem.zero W', by simp [cmdBlocks, rowBlock_nil], hw, h.ne⟩
/-- the result is stored -/
theorem OneNow.close (h : OneNow w W s0 t kv dv mv) : Blk (W.setCells w.heap.size 0 (stepArr t kv dv mv).toList) w.heap.size 99 (stepArr t kv dv mv) ∧
    CmdMem (W.setCells w.heap.size 0 (stepArr t kv dv mv).toList) t.cmd kv dv mv ∧ Below w.heap.size w (W.setCells w.heap.size 0 (stepArr t kv dv mv).toList) :=
  ⟨Blk.putStep h.res _ _ _ _, h.mem.same fun k hk => heap_setCells (h.mem.apart h.res k hk) _ 0, Below.setCells (Nat.le_refl _) _ 0 h.below⟩
/-- what one tells: a step; none -/
theorem OnePost.one (h : OneNow w W s0 t kv dv mv) {at' n : Nat} {r : Option (Sp.StepV × Nat)} (hr : r = some (t', n)) (ht : t = t'.span at' (at' + n)) :
    OnePost w at' r (.returned (.tuple #[stepV t kv dv mv, .bool true])) (W.setCells w.heap.size 0 (stepArr t kv dv mv).toList) := by
  subst hr
  obtain ⟨_, h2, h3⟩ := h.close
  refine ⟨t, kv, dv, mv, rfl, h2, h.ge, ?_, h3⟩
  intro t2 n2 e
  rw [Option.some.injEq, Prod.mk.injEq] at e
  rw [← e.1, ← e.2]
  exact ht
theorem OnePost.no (h : OneNow w W s0 t kv dv mv) {at' : Nat} {r : Option (Sp.StepV × Nat)} (hr : r = none) :
    OnePost w at' r (.returned (.tuple #[stepV t kv dv mv, .bool false])) (W.setCells w.heap.size 0 (stepArr t kv dv mv).toList) := by
  subst hr
  exact ⟨t, kv, dv, mv, rfl, h.close.2.1, h.ge, fun _ _ e => (by cases e), h.close.2.2⟩
end
end Go.Proofs.YthgfjafnclklpaaGreatDoor
end
section
namespace Go.Proofs.YthgfjafnclklpaaGreatDoor
attribute [local go_sem ↓] Go.wp_at_zero Go.wp_at_succ
open Go.RowKit
attribute [-go_sem] storeVar
attribute [local go_sem] run_store_cmd run_store_wrong run_store_step storeVar_int' storeVar_bool' storeVar_slice' storeVar_func' canPut_new canPut_setCell canPut_drew canPut_alloc canPut_setCells cell_setCells_far World.frozen?_setCells

theorem oneTail_in {lim at' i : Nat} {l : Sp.Bs} {x : Sp.WrongV} (h : 0 ≤ x.pass ∧ x.pass ≤ (lim : Int)) : oneTail lim at' i l (.bad x) = (Sp.skipV (l.drop (at' + i + 1)) x.pass.toNat).map fun y => ({ wrong := x }, i + 1 + y.1) := if_pos h
theorem oneTail_out {lim at' i : Nat} {l : Sp.Bs} {x : Sp.WrongV} (h : ¬ (0 ≤ x.pass ∧ x.pass ≤ (lim : Int))) : oneTail lim at' i l (.bad x) = some ({ wrong := x }, i + 1) := if_neg h
theorem oneTail_no {lim at' i : Nat} {l : Sp.Bs} {c : Sp.CmdV} {n : Int} (h : n < 0) : oneTail lim at' i l (.ok c n) = some ({ cmd := c }, i + 1) := if_pos h
theorem oneTail_blk {lim at' i : Nat} {l : Sp.Bs} {c : Sp.CmdV} {k : Nat} : oneTail lim at' i l (.ok c k) = (Sp.skipV (l.drop (at' + i + 1)) k).map fun y =>
    (if (lim : Int) < k then { cmd := { c with large := true } } else if y.2 then { cmd := { c with data := (l.drop (at' + i + 1)).take k } } else { wrong := ⟨2, Sp.badChunk, -1⟩ }, i + 1 + y.1) := by
  unfold oneTail
  dsimp only
  rw [if_neg (by omega : ¬ (k : Int) < 0)]
  rfl

/-- where the line has been read -/
def OneMid (w : World) (r : Sp.LineR) (cb bn wb : Value) (wx : World) : Prop :=
  ∃ c0 x0 k1 k2 k3 m1 m2 m3, cb = .pointer (some ⟨c0, 0, none⟩) ∧ bn = .int .i64 (lineN r) ∧ wb = .pointer (some ⟨x0, 0, none⟩) ∧
    OneVars wx c0 x0 w.heap.size (lineStep r).cmd (.slice k1 k2 k3) (.slice m1 m2 m3) (lineStep r).wrong ∧
    wx.ownsRow w.heap.size 9 1 (.slice k1 k2 k3) (lineStep r).cmd.keys.length ((lineStep r).cmd.keys.map str) ∧
    wx.ownsRow w.heap.size 94 3 (.slice m1 m2 m3) (lineStep r).cmd.metas.length (flagsCells (lineStep r).cmd.metas) ∧ Below w.heap.size w wx

theorem oneMid_new {w w9 : World} {r : Sp.LineR} {k1 m1 : Option Addr} {k2 k3 m2 m3 : Nat} (hb : Below w.heap.size w w9) (hs : Blk w9 w.heap.size 99 (stepArr {} nilRow nilRow nilRow))
    (hk : w9.ownsRow w.heap.size 9 1 (.slice k1 k2 k3) (lineStep r).cmd.keys.length ((lineStep r).cmd.keys.map str)) (hm : w9.ownsRow w.heap.size 94 3 (.slice m1 m2 m3) (lineStep r).cmd.metas.length (flagsCells (lineStep r).cmd.metas)) :
    OneMid w r (.pointer (some ⟨w9.heap.size, 0, none⟩)) (.int .i64 (lineN r)) (.pointer (some ⟨w9.heap.size + 1, 0, none⟩))
      ((((w9.alloc (.cells (cmdArr {} nilRow nilRow nilRow) 38)).alloc (.cells (wrongArr {}) 59)).setCells w9.heap.size 0 (cmdList (lineStep r).cmd (.slice k1 k2 k3) nilRow (.slice m1 m2 m3))).setCells (w9.heap.size + 1) 0 (wrongList (lineStep r).wrong)) := by
  have hs1 : (w9.alloc (.cells (cmdArr {} nilRow nilRow nilRow) 38)).heap.size = w9.heap.size + 1 := by simp
  have hbx := Below.setCells (g := w9.heap.size + 1) (by omega : w9.heap.size ≤ w9.heap.size + 1) (wrongList (lineStep r).wrong) 0 (Below.setCells (Nat.le_refl _) (cmdList (lineStep r).cmd (.slice k1 k2 k3) nilRow (.slice m1 m2 m3)) 0 ((((Below.refl w9.heap.size w9).alloc (Nat.le_refl _) (.cells (cmdArr {} nilRow nilRow nilRow) 38)).alloc (by rw [hs1]; omega) (.cells (wrongArr {}) 59))))
  have b1 := Blk.alloc (Blk.new w9 38 (cmdArr {} nilRow nilRow nilRow)) (.cells (wrongArr {}) 59)
  have b2 := Blk.new (w9.alloc (.cells (cmdArr {} nilRow nilRow nilRow) 38)) 59 (wrongArr {})
  rw [hs1] at b2
  exact ⟨_, _, _, _, _, _, _, _, rfl, rfl, rfl, ⟨Blk.farCells _ (by omega) _ 0 (Blk.putCmd b1 _ _ _ _), Blk.putWrong (Blk.farCells _ (by omega) _ 0 b2) _, Blk.later hs hbx⟩, own_later hk hbx, own_later hm hbx, hb.trans (hbx.mono hb.size)⟩

/-- the step is built -/
structure OneAt (w w1 : World) (r : Sp.LineR) (a b c0 x0 s0 : Nat) (k1 : Option Addr) (k2 k3 : Nat) (m1 : Option Addr) (m2 m3 : Nat) (wx : World) : Prop where
  step : Blk wx s0 99 (stepArr ((lineStep r).span a b) (.slice k1 k2 k3) nilRow (.slice m1 m2 m3))
  x : Blk wx x0 59 (wrongArr (lineStep r).wrong)
  res : Blk wx w.heap.size 99 (stepArr {} nilRow nilRow nilRow)
  keys : wx.ownsRow w.heap.size 9 1 (.slice k1 k2 k3) (lineStep r).cmd.keys.length ((lineStep r).cmd.keys.map str)
  metas : wx.ownsRow w.heap.size 94 3 (.slice m1 m2 m3) (lineStep r).cmd.metas.length (flagsCells (lineStep r).cmd.metas)
  below : Below w.heap.size w wx
  ne : w.heap.size < s0

theorem oneAt_new {w wc : World} {r : Sp.LineR} {a b c0 x0 : Nat} {k1 m1 : Option Addr} {k2 k3 m2 m3 : Nat} (hv : OneVars wc c0 x0 w.heap.size (lineStep r).cmd (.slice k1 k2 k3) (.slice m1 m2 m3) (lineStep r).wrong)
    (hk : wc.ownsRow w.heap.size 9 1 (.slice k1 k2 k3) (lineStep r).cmd.keys.length ((lineStep r).cmd.keys.map str)) (hm : wc.ownsRow w.heap.size 94 3 (.slice m1 m2 m3) (lineStep r).cmd.metas.length (flagsCells (lineStep r).cmd.metas))
    (hb : Below w.heap.size w wc) : ∃ s0, Value.pointer (some ⟨wc.heap.size, 0, none⟩) = .pointer (some ⟨s0, 0, none⟩) ∧ OneAt w wc r a b c0 x0 s0 k1 k2 k3 m1 m2 m3
      ((wc.alloc (.cells (stepArr {} nilRow nilRow nilRow) 99)).setCells wc.heap.size 0 (stepArr ((lineStep r).span a b) (.slice k1 k2 k3) nilRow (.slice m1 m2 m3)).toList) := by
  have hbx := Below.setCells (Nat.le_refl wc.heap.size) (stepArr ((lineStep r).span a b) (.slice k1 k2 k3) nilRow (.slice m1 m2 m3)).toList 0 ((Below.refl wc.heap.size wc).alloc (Nat.le_refl _) (.cells (stepArr {} nilRow nilRow nilRow) 99))
  have hlt := hv.r.lt
  exact ⟨_, rfl, ⟨Blk.putStep (Blk.new wc 99 (stepArr {} nilRow nilRow nilRow)) _ _ _ _, Blk.later hv.x hbx, Blk.later hv.r hbx, own_later hk hbx, own_later hm hbx, hb.trans (hbx.mono hb.size), hlt⟩⟩

theorem wp_world {P : Program} {c : Code} {Q : Exit → Act → World → Prop} {a : Act} {W : World} {X : World → Prop} (hX : X W) (h : ∀ W', X W' → Code.wp P c Q a W') : Code.wp P c Q a W := h W hX

theorem OneNow.toBad {w W : World} {s0 : Nat} {t : Sp.StepV} {kv mv : Value} (h : OneNow w W s0 t kv nilRow mv) :
    OneNow w ((W.setCells s0 0 (cmdList {} nilRow nilRow nilRow)).setCells s0 11 (wrongList ⟨2, Sp.badChunk, -1⟩)) s0 (({ wrong := ⟨2, Sp.badChunk, -1⟩ } : Sp.StepV).span t.frm t.to) nilRow nilRow nilRow := by
  have hne := h.ne
  have b2 := Blk.puts (wrongList ⟨2, Sp.badChunk, -1⟩) 11 (Blk.puts (cmdList {} nilRow nilRow nilRow) 0 h.step)
  rw [show ((wrongList ⟨2, Sp.badChunk, -1⟩).zipIdx 11).foldl (fun cs x => cs.setIfInBounds x.2 x.1) (((cmdList {} nilRow nilRow nilRow).zipIdx 0).foldl (fun cs x => cs.setIfInBounds x.2 x.1) (stepArr t kv nilRow mv)) = stepArr (({ wrong := ⟨2, Sp.badChunk, -1⟩ } : Sp.StepV).span t.frm t.to) nilRow nilRow nilRow from by kernel_rfl] at b2
  exact h.bad b2 rfl (Blk.farCells s0 (by omega) _ 11 (Blk.farCells s0 (by omega) _ 0 h.res)) (Below.setCells (by omega) _ 11 (Below.setCells (by omega) _ 0 h.below))

theorem OneAt.now {w w1 wx : World} {r : Sp.LineR} {a b c0 x0 s0 : Nat} {k1 m1 : Option Addr} {k2 k3 m2 m3 : Nat} (h : OneAt w w1 r a b c0 x0 s0 k1 k2 k3 m1 m2 m3 wx) (hd : (lineStep r).cmd.data = []) :
    OneNow w wx s0 ((lineStep r).span a b) (.slice k1 k2 k3) nilRow (.slice m1 m2 m3) := by
  refine ⟨h.step, h.res, ⟨World.ownsRow.mono h.keys (Nat.zero_le _), ?_, World.ownsRow.mono h.metas (Nat.zero_le _)⟩, ?_, h.below, h.ne⟩
  · show wx.ownsRow 0 5 1 nilRow (lineStep r).cmd.data.length (bytesV (lineStep r).cmd.data)
    rw [hd]
    exact World.ownsRow_nil _ _ _ 1
  · intro k hk
    simp only [cmdBlocks, List.mem_append] at hk
    rcases hk with hk | hk | hk
    · exact own_ge h.keys k hk
    · rw [rowBlock_nil] at hk; simp at hk
    · exact own_ge h.metas k hk

end Go.Proofs.YthgfjafnclklpaaGreatDoor
end
