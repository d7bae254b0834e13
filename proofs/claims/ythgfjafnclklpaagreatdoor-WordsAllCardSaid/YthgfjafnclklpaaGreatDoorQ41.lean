/- Walk of package words: one. Walk of package words: one, where a line is whole. Walk of package words: one, where a line is whole: it is bad. Walk of package words: one, where a line is whole: no block. Walk of package words: one, where a line is whole: a block too large. Walk of package words: one, where a line is whole: a block. Walk of package words: one, joined. Walk of package words: All. -/
import Derived.Test.YthgfjafnclklpaaGreatDoorA1
import Derived.Test.YthgfjafnclklpaaGreatDoorG2
import Derived.Test.YthgfjafnclklpaaGreatDoorAp
import Derived.Deep.CutRange
import Derived.Deep.DeepCutAuto
section
section
namespace Go.Proofs.YthgfjafnclklpaaGreatDoor
attribute [local go_sem ↓] Go.wp_at_zero Go.wp_at_succ
open Go.RowKit

theorem canPut_new (w : World) (cs : Array Value) (e : TypeId) (b n : Nat) (hb : b = w.heap.size) : canPut (w.alloc (.cells cs e)) b 0 n = decide (n ≤ cs.size) := by
  subst hb
  unfold canPut
  rw [Bool.eq_iff_iff, List.all_eq_true, decide_eq_true_eq]
  have hf := fun j => (Blk.new w e cs).frozen j
  have hc := fun j => (Blk.new w e cs).cell j
  simp only [hc, hf, Nat.zero_add, Bool.not_false, Bool.and_true, List.mem_range]
  constructor
  · intro h
    by_cases hn : n = 0
    · omega
    · have := h (n - 1) (by omega)
      simp at this; omega
  · intro h j hj
    simp; omega

/-- what one tells -/
def OnePost (w : World) (at' : Nat) (r : Option (Sp.StepV × Nat)) (e : Ending) (w' : World) : Prop :=
  ∃ t kv dv mv, e = .returned (.tuple #[stepV t kv dv mv, .bool r.isSome]) ∧ CmdMem w' t.cmd kv dv mv ∧ (∀ k ∈ cmdBlocks kv dv mv, w.heap.size ≤ k) ∧
    (∀ t' n, r = some (t', n) → t = t'.span at' (at' + n)) ∧ Below w.heap.size w w'

/-- the variables of one, where its line has been read -/
structure OneVars (w : World) (cb wb rb : Nat) (c : Sp.CmdV) (kv mv : Value) (x : Sp.WrongV) : Prop where
  c : Blk w cb 38 (cmdArr c kv nilRow mv)
  x : Blk w wb 59 (wrongArr x)
  r : Blk w rb 99 (stepArr {} nilRow nilRow nilRow)

attribute [-go_sem] storeVar
attribute [local go_sem] run_store_cmd run_store_wrong run_store_step storeVar_int' storeVar_bool' storeVar_slice' storeVar_func' canPut_new canPut_setCell canPut_drew canPut_alloc canPut_setCells cell_setCells_far World.frozen?_setCells

theorem one_results {W : World} {rb : Nat} {t : Sp.StepV} {kv dv mv : Value} {th : Bool} (hb : Blk W rb 99 (stepArr t kv dv mv)) (tm : Array Value) (h6 : tm[6]?.getD undef = .pointer (some ⟨rb, 0, none⟩)) (h7 : tm[7]?.getD undef = .bool th) :
    (results Tryz.f68 tm).run Tryz.prog W = .ok (.tuple #[stepV t kv dv mv, .bool th]) W := by
  have z0 : _ = some (Value.int .i64 t.cmd.verb) := (hb).cell 0
  have z1 : _ = some (kv) := (hb).cell 1
  have z2 : _ = some (Value.int .u64 t.cmd.flags) := (hb).cell 2
  have z3 : _ = some (Value.int .i64 t.cmd.exptime) := (hb).cell 3
  have z4 : _ = some (Value.int .u64 t.cmd.token) := (hb).cell 4
  have z5 : _ = some (Value.int .u64 t.cmd.delta) := (hb).cell 5
  have z6 : _ = some (dv) := (hb).cell 6
  have z7 : _ = some (Value.bool t.cmd.noreply) := (hb).cell 7
  have z8 : _ = some (Value.bool t.cmd.large) := (hb).cell 8
  have z9 : _ = some (mv) := (hb).cell 9
  have z10 : _ = some (str t.cmd.what) := (hb).cell 10
  have z11 : _ = some (Value.int .i64 t.wrong.kind) := (hb).cell 11
  have z12 : _ = some (str t.wrong.text) := (hb).cell 12
  have z13 : _ = some (Value.int .i64 t.wrong.pass) := (hb).cell 13
  have z14 : _ = some (Value.int .i64 t.frm) := (hb).cell 14
  have z15 : _ = some (Value.int .i64 t.to) := (hb).cell 15
  clear hb
  simp [results, Tryz.results68, go_sem, h6, h7, z0, z1, z2, z3, z4, z5, z6, z7, z8, z9, z10, z11, z12, z13, z14, z15]

set_option maxHeartbeats 8000000 in
set_option maxRecDepth 100000 in
theorem one_none {w : World} {A : Option Addr} {cap : Nat} {l : Sp.Bs} (h : RowAt w A (bytesV l)) (hc : l.length ≤ cap) (hA : A = none → cap = 0) {at' lim : Nat} (hat : at' ≤ l.length)
    (hi : Sp.indexOf (l.drop at') 10 = none) :
    Calls Tryz.prog 68 #[.slice A l.length cap, .int .i64 at', .int .i64 lim] w (OnePost w at' none) := by
  generalize hR : OnePost w at' none = R
  have HR := Lib.hid hR
  have hbl : (l.drop at').length = l.length - at' := by simp
  have hsl := fun W : World => run_slice_from W A l.length cap at' hat
  have hrowD : RowAt w (cutAddr A at' cap) (bytesV (l.drop at')) := by
    rw [bytesV_drop]
    exact h.cut (by rw [bytesV_length]; exact hc)
  have hidx : ∀ W : World, RowAt W (cutAddr A at' cap) (bytesV (l.drop at')) → Calls Tryz.prog 114 #[.slice (cutAddr A at' cap) (l.length - at') (cap - at'), .int .u8 10] W fun e w' => e = .returned (.int .i64 (-1)) ∧ W = w' := fun W h1 => by
    have := index_any (cap := cap - at') h1 (cutAddr_none hA) 10
    rwa [hbl, indexByte_of, hi] at this
  generalize cutAddr A at' cap = D at hsl hrowD hidx
  have HROW := Lib.hid hrowD
  have HI := Lib.hid hidx
  clear hR h hA hrowD hidx hbl hi
  go_enter Tryz.func68, Tryz.ntmps68
  go_wp2_with fail
  refine (HI.out _ (HROW.out.alloc _)).mono ?_
  rintro e w1 ⟨rfl, hw1⟩
  have hs1 := Blk.new w 99 (stepArr {} nilRow nilRow nilRow)
  have hb1 : Below w.heap.size w (w.alloc (.cells (stepArr {} nilRow nilRow nilRow) 99)) := (Below.refl _ _).alloc (Nat.le_refl _) _
  change (w.alloc (.cells (stepArr {} nilRow nilRow nilRow) 99)) = w1 at hw1
  rw [hw1] at hs1 hb1
  have hcp := hs1.can 0 16 (by simp [stepArr])
  have HS1 := Lib.hid hs1
  have HB1 := Lib.hid hb1
  clear hw1 hs1 hb1
  go_wp2_with fail
  generalize hW : w1.setCells w.heap.size 0 _ = W
  have hb2 : Blk W w.heap.size 99 (stepArr {} nilRow nilRow nilRow) := by rw [← hW]; exact Blk.putStep HS1.out {} nilRow nilRow nilRow
  have hbW : Below w.heap.size w W := by rw [← hW]; exact Below.setCells (Nat.le_refl _) _ 0 HB1.out
  have hfin : R (.returned (.tuple #[stepV {} nilRow nilRow nilRow, .bool false])) W := by
    rw [← HR.out]
    exact ⟨{}, nilRow, nilRow, nilRow, rfl, CmdMem.zero W, by simp [cmdBlocks, rowBlock_nil], fun _ _ e => (by cases e), hbW⟩
  have HF := Lib.hid hfin
  have HB2 := Lib.hid hb2
  clear hfin hW hb2 hbW
  exact bodyPost_ret (one_results HB2.out _ rfl rfl) rfl HF.out

/-- what becomes of a line that was read -/
def oneTail (lim at' i : Nat) (l : Sp.Bs) : Sp.LineR → Option (Sp.StepV × Nat)
  | .bad x => if 0 ≤ x.pass ∧ x.pass ≤ lim then (Sp.skipV (l.drop (at' + i + 1)) x.pass.toNat).map fun y => ({ wrong := x }, i + 1 + y.1) else some ({ wrong := x }, i + 1)
  | .ok c n => if n < 0 then some ({ cmd := c }, i + 1) else (Sp.skipV (l.drop (at' + i + 1)) n.toNat).map fun y =>
      (if lim < n then { cmd := { c with large := true } } else if y.2 then { cmd := { c with data := (l.drop (at' + i + 1)).take n.toNat } } else { wrong := ⟨2, Sp.badChunk, -1⟩ }, i + 1 + y.1)


/-- the step as it stands -/
structure OneNow (w W : World) (s0 : Nat) (t : Sp.StepV) (kv dv mv : Value) : Prop where
  step : Blk W s0 99 (stepArr t kv dv mv)
  res : Blk W w.heap.size 99 (stepArr {} nilRow nilRow nilRow)
  mem : CmdMem W t.cmd kv dv mv
  ge : ∀ k ∈ cmdBlocks kv dv mv, w.heap.size ≤ k
  below : Below w.heap.size w W
  ne : w.heap.size < s0

/-- a command's lists lie apart from a step's block -/
theorem CmdMem.apart {W : World} {c : Sp.CmdV} {kv dv mv : Value} (h : CmdMem W c kv dv mv) {g : Nat} {cs : Array Value} (hb : Blk W g 99 cs) : ∀ k ∈ cmdBlocks kv dv mv, k ≠ g := by
  intro k hk e
  subst e
  simp only [cmdBlocks, List.mem_append, mem_rowBlock] at hk
  rcases hk with hk | hk | hk
  · exact own_apart h.keys hb (by decide) hk
  · exact own_apart h.data hb (by decide) hk
  · exact own_apart h.metas hb (by decide) hk

section
variable {w W W' : World} {s0 : Nat} {t t' : Sp.StepV} {kv dv mv dv' : Value}
theorem OneNow.later (h : OneNow w W s0 t kv dv mv) (hb : Below W.heap.size W W') : OneNow w W' s0 t kv dv mv :=
  ⟨Blk.later h.step hb, Blk.later h.res hb, h.mem.same fun k hk => hb.block k (h.mem.lt k hk), h.ge, h.below.trans (hb.mono h.below.size), h.ne⟩
theorem OneNow.put (h : OneNow w W s0 t kv dv mv) (i : Nat) (u : Value) (hc : (stepArr t kv dv mv).setIfInBounds i u = stepArr t' kv dv mv) (h1 : t'.cmd.keys = t.cmd.keys) (h2 : t'.cmd.data = t.cmd.data) (h3 : t'.cmd.metas = t.cmd.metas) :
    OneNow w (W.setCell ⟨s0, i, none⟩ u) s0 t' kv dv mv := by
  have hne := h.ne
  have hm := h.mem.same (w' := W.setCell ⟨s0, i, none⟩ u) fun k hk => Below.heap_setCell W ⟨s0, i, none⟩ u k (h.mem.apart h.step k hk)
  refine ⟨by rw [← hc]; exact Blk.put h.step i u, Blk.far h.res (by show w.heap.size ≠ s0; omega) u, ⟨by rw [h1]; exact hm.keys, by rw [h2]; exact hm.data, by rw [h3]; exact hm.metas⟩, h.ge, h.below.setCell (p := ⟨s0, i, none⟩) (by show w.heap.size ≤ s0; omega) u, hne⟩
/-- the block's bytes are kept -/
theorem OneNow.putData (h : OneNow w W s0 t kv nilRow mv) {d : Sp.Bs} (hd : W.ownsRow w.heap.size 5 1 dv' d.length (bytesV d)) (ht' : t' = { t with cmd := { t.cmd with data := d } }) :
    OneNow w (W.setCell ⟨s0, 6, none⟩ dv') s0 t' kv dv' mv := by
  have hne := h.ne
  subst ht'
  have hm := h.mem.same (w' := W.setCell ⟨s0, 6, none⟩ dv') fun k hk => Below.heap_setCell W ⟨s0, 6, none⟩ dv' k (h.mem.apart h.step k hk)
  have hd' : (W.setCell ⟨s0, 6, none⟩ dv').ownsRow w.heap.size 5 1 dv' d.length (bytesV d) := own_same hd fun k hk => Below.heap_setCell W ⟨s0, 6, none⟩ dv' k (by
    intro e; subst e; exact own_apart hd h.step (by decide) (mem_rowBlock.1 hk))
  refine ⟨?_, Blk.far h.res (by show w.heap.size ≠ s0; omega) _, ⟨hm.keys, World.ownsRow.mono hd' (Nat.zero_le _), hm.metas⟩, ?_, h.below.setCell (p := ⟨s0, 6, none⟩) (by show w.heap.size ≤ s0; omega) _, hne⟩
  · have := Blk.put h.step 6 dv'
    rwa [show (stepArr t kv nilRow mv).setIfInBounds 6 dv' = stepArr { t with cmd := { t.cmd with data := d } } kv dv' mv from by kernel_rfl] at this
  · intro k hk
    simp only [cmdBlocks, List.mem_append] at hk
    rcases hk with hk | hk | hk
    · exact h.ge k (by simp [cmdBlocks, hk])
    · exact own_ge hd k hk
    · exact h.ge k (by simp [cmdBlocks, hk])
/-- the step is given up: another one stands there -/
theorem OneNow.bad (h : OneNow w W s0 t kv dv mv) (hb : Blk W' s0 99 (stepArr t' nilRow nilRow nilRow)) (ht : t'.cmd = {}) (hr : Blk W' w.heap.size 99 (stepArr {} nilRow nilRow nilRow)) (hw : Below w.heap.size w W') :
    OneNow w W' s0 t' nilRow nilRow nilRow :=
  ⟨hb, hr, by rw [ht]; exact CmdMem.zero W', by simp [cmdBlocks, rowBlock_nil], hw, h.ne⟩
/-- the result is stored -/
theorem OneNow.close (h : OneNow w W s0 t kv dv mv) : Blk (W.setCells w.heap.size 0 (stepArr t kv dv mv).toList) w.heap.size 99 (stepArr t kv dv mv) ∧
    CmdMem (W.setCells w.heap.size 0 (stepArr t kv dv mv).toList) t.cmd kv dv mv ∧ Below w.heap.size w (W.setCells w.heap.size 0 (stepArr t kv dv mv).toList) :=
  ⟨Blk.putStep h.res _ _ _ _, h.mem.same fun k hk => heap_setCells (h.mem.apart h.res k hk) _ 0, Below.setCells (Nat.le_refl _) _ 0 h.below⟩
/-- what one tells: a step; none -/
theorem OnePost.one (h : OneNow w W s0 t kv dv mv) {at' n : Nat} {r : Option (Sp.StepV × Nat)} (hr : r = some (t', n)) (ht : t = t'.span at' (at' + n)) :
    OnePost w at' r (.returned (.tuple #[stepV t kv dv mv, .bool true])) (W.setCells w.heap.size 0 (stepArr t kv dv mv).toList) := by
  subst hr
  obtain ⟨_, h2, h3⟩ := h.close
  refine ⟨t, kv, dv, mv, rfl, h2, h.ge, ?_, h3⟩
  intro t2 n2 e
  rw [Option.some.injEq, Prod.mk.injEq] at e
  rw [← e.1, ← e.2]
  exact ht
theorem OnePost.no (h : OneNow w W s0 t kv dv mv) {at' : Nat} {r : Option (Sp.StepV × Nat)} (hr : r = none) :
    OnePost w at' r (.returned (.tuple #[stepV t kv dv mv, .bool false])) (W.setCells w.heap.size 0 (stepArr t kv dv mv).toList) := by
  subst hr
  exact ⟨t, kv, dv, mv, rfl, h.close.2.1, h.ge, fun _ _ e => (by cases e), h.close.2.2⟩
end
end Go.Proofs.YthgfjafnclklpaaGreatDoor
end
section
namespace Go.Proofs.YthgfjafnclklpaaGreatDoor
attribute [local go_sem ↓] Go.wp_at_zero Go.wp_at_succ
open Go.RowKit
attribute [-go_sem] storeVar
attribute [local go_sem] run_store_cmd run_store_wrong run_store_step storeVar_int' storeVar_bool' storeVar_slice' storeVar_func' canPut_new canPut_setCell canPut_drew canPut_alloc canPut_setCells cell_setCells_far World.frozen?_setCells

theorem oneTail_in {lim at' i : Nat} {l : Sp.Bs} {x : Sp.WrongV} (h : 0 ≤ x.pass ∧ x.pass ≤ (lim : Int)) : oneTail lim at' i l (.bad x) = (Sp.skipV (l.drop (at' + i + 1)) x.pass.toNat).map fun y => ({ wrong := x }, i + 1 + y.1) := if_pos h
theorem oneTail_out {lim at' i : Nat} {l : Sp.Bs} {x : Sp.WrongV} (h : ¬ (0 ≤ x.pass ∧ x.pass ≤ (lim : Int))) : oneTail lim at' i l (.bad x) = some ({ wrong := x }, i + 1) := if_neg h
theorem oneTail_no {lim at' i : Nat} {l : Sp.Bs} {c : Sp.CmdV} {n : Int} (h : n < 0) : oneTail lim at' i l (.ok c n) = some ({ cmd := c }, i + 1) := if_pos h
theorem oneTail_blk {lim at' i : Nat} {l : Sp.Bs} {c : Sp.CmdV} {k : Nat} : oneTail lim at' i l (.ok c k) = (Sp.skipV (l.drop (at' + i + 1)) k).map fun y =>
    (if (lim : Int) < k then { cmd := { c with large := true } } else if y.2 then { cmd := { c with data := (l.drop (at' + i + 1)).take k } } else { wrong := ⟨2, Sp.badChunk, -1⟩ }, i + 1 + y.1) := by
  unfold oneTail
  dsimp only
  rw [if_neg (by omega : ¬ (k : Int) < 0)]
  rfl

/-- where the line has been read -/
def OneMid (w : World) (r : Sp.LineR) (cb bn wb : Value) (wx : World) : Prop :=
  ∃ c0 x0 k1 k2 k3 m1 m2 m3, cb = .pointer (some ⟨c0, 0, none⟩) ∧ bn = .int .i64 (lineN r) ∧ wb = .pointer (some ⟨x0, 0, none⟩) ∧
    OneVars wx c0 x0 w.heap.size (lineStep r).cmd (.slice k1 k2 k3) (.slice m1 m2 m3) (lineStep r).wrong ∧
    wx.ownsRow w.heap.size 9 1 (.slice k1 k2 k3) (lineStep r).cmd.keys.length ((lineStep r).cmd.keys.map str) ∧
    wx.ownsRow w.heap.size 94 3 (.slice m1 m2 m3) (lineStep r).cmd.metas.length (flagsCells (lineStep r).cmd.metas) ∧ Below w.heap.size w wx

theorem oneMid_new {w w9 : World} {r : Sp.LineR} {k1 m1 : Option Addr} {k2 k3 m2 m3 : Nat} (hb : Below w.heap.size w w9) (hs : Blk w9 w.heap.size 99 (stepArr {} nilRow nilRow nilRow))
    (hk : w9.ownsRow w.heap.size 9 1 (.slice k1 k2 k3) (lineStep r).cmd.keys.length ((lineStep r).cmd.keys.map str)) (hm : w9.ownsRow w.heap.size 94 3 (.slice m1 m2 m3) (lineStep r).cmd.metas.length (flagsCells (lineStep r).cmd.metas)) :
    OneMid w r (.pointer (some ⟨w9.heap.size, 0, none⟩)) (.int .i64 (lineN r)) (.pointer (some ⟨w9.heap.size + 1, 0, none⟩))
      ((((w9.alloc (.cells (cmdArr {} nilRow nilRow nilRow) 38)).alloc (.cells (wrongArr {}) 59)).setCells w9.heap.size 0 (cmdList (lineStep r).cmd (.slice k1 k2 k3) nilRow (.slice m1 m2 m3))).setCells (w9.heap.size + 1) 0 (wrongList (lineStep r).wrong)) := by
  have hs1 : (w9.alloc (.cells (cmdArr {} nilRow nilRow nilRow) 38)).heap.size = w9.heap.size + 1 := by simp
  have hbx := Below.setCells (g := w9.heap.size + 1) (by omega : w9.heap.size ≤ w9.heap.size + 1) (wrongList (lineStep r).wrong) 0 (Below.setCells (Nat.le_refl _) (cmdList (lineStep r).cmd (.slice k1 k2 k3) nilRow (.slice m1 m2 m3)) 0 ((((Below.refl w9.heap.size w9).alloc (Nat.le_refl _) (.cells (cmdArr {} nilRow nilRow nilRow) 38)).alloc (by rw [hs1]; omega) (.cells (wrongArr {}) 59))))
  have b1 := Blk.alloc (Blk.new w9 38 (cmdArr {} nilRow nilRow nilRow)) (.cells (wrongArr {}) 59)
  have b2 := Blk.new (w9.alloc (.cells (cmdArr {} nilRow nilRow nilRow) 38)) 59 (wrongArr {})
  rw [hs1] at b2
  exact ⟨_, _, _, _, _, _, _, _, rfl, rfl, rfl, ⟨Blk.farCells _ (by omega) _ 0 (Blk.putCmd b1 _ _ _ _), Blk.putWrong (Blk.farCells _ (by omega) _ 0 b2) _, Blk.later hs hbx⟩, own_later hk hbx, own_later hm hbx, hb.trans (hbx.mono hb.size)⟩

/-- the step is built -/
structure OneAt (w w1 : World) (r : Sp.LineR) (a b c0 x0 s0 : Nat) (k1 : Option Addr) (k2 k3 : Nat) (m1 : Option Addr) (m2 m3 : Nat) (wx : World) : Prop where
  step : Blk wx s0 99 (stepArr ((lineStep r).span a b) (.slice k1 k2 k3) nilRow (.slice m1 m2 m3))
  x : Blk wx x0 59 (wrongArr (lineStep r).wrong)
  res : Blk wx w.heap.size 99 (stepArr {} nilRow nilRow nilRow)
  keys : wx.ownsRow w.heap.size 9 1 (.slice k1 k2 k3) (lineStep r).cmd.keys.length ((lineStep r).cmd.keys.map str)
  metas : wx.ownsRow w.heap.size 94 3 (.slice m1 m2 m3) (lineStep r).cmd.metas.length (flagsCells (lineStep r).cmd.metas)
  below : Below w.heap.size w wx
  ne : w.heap.size < s0

theorem oneAt_new {w wc : World} {r : Sp.LineR} {a b c0 x0 : Nat} {k1 m1 : Option Addr} {k2 k3 m2 m3 : Nat} (hv : OneVars wc c0 x0 w.heap.size (lineStep r).cmd (.slice k1 k2 k3) (.slice m1 m2 m3) (lineStep r).wrong)
    (hk : wc.ownsRow w.heap.size 9 1 (.slice k1 k2 k3) (lineStep r).cmd.keys.length ((lineStep r).cmd.keys.map str)) (hm : wc.ownsRow w.heap.size 94 3 (.slice m1 m2 m3) (lineStep r).cmd.metas.length (flagsCells (lineStep r).cmd.metas))
    (hb : Below w.heap.size w wc) : ∃ s0, Value.pointer (some ⟨wc.heap.size, 0, none⟩) = .pointer (some ⟨s0, 0, none⟩) ∧ OneAt w wc r a b c0 x0 s0 k1 k2 k3 m1 m2 m3
      ((wc.alloc (.cells (stepArr {} nilRow nilRow nilRow) 99)).setCells wc.heap.size 0 (stepArr ((lineStep r).span a b) (.slice k1 k2 k3) nilRow (.slice m1 m2 m3)).toList) := by
  have hbx := Below.setCells (Nat.le_refl wc.heap.size) (stepArr ((lineStep r).span a b) (.slice k1 k2 k3) nilRow (.slice m1 m2 m3)).toList 0 ((Below.refl wc.heap.size wc).alloc (Nat.le_refl _) (.cells (stepArr {} nilRow nilRow nilRow) 99))
  have hlt := hv.r.lt
  exact ⟨_, rfl, ⟨Blk.putStep (Blk.new wc 99 (stepArr {} nilRow nilRow nilRow)) _ _ _ _, Blk.later hv.x hbx, Blk.later hv.r hbx, own_later hk hbx, own_later hm hbx, hb.trans (hbx.mono hb.size), hlt⟩⟩

theorem wp_world {P : Program} {c : Code} {Q : Exit → Act → World → Prop} {a : Act} {W : World} {X : World → Prop} (hX : X W) (h : ∀ W', X W' → Code.wp P c Q a W') : Code.wp P c Q a W := h W hX

theorem OneNow.toBad {w W : World} {s0 : Nat} {t : Sp.StepV} {kv mv : Value} (h : OneNow w W s0 t kv nilRow mv) :
    OneNow w ((W.setCells s0 0 (cmdList {} nilRow nilRow nilRow)).setCells s0 11 (wrongList ⟨2, Sp.badChunk, -1⟩)) s0 (({ wrong := ⟨2, Sp.badChunk, -1⟩ } : Sp.StepV).span t.frm t.to) nilRow nilRow nilRow := by
  have hne := h.ne
  have b2 := Blk.puts (wrongList ⟨2, Sp.badChunk, -1⟩) 11 (Blk.puts (cmdList {} nilRow nilRow nilRow) 0 h.step)
  rw [show ((wrongList ⟨2, Sp.badChunk, -1⟩).zipIdx 11).foldl (fun cs x => cs.setIfInBounds x.2 x.1) (((cmdList {} nilRow nilRow nilRow).zipIdx 0).foldl (fun cs x => cs.setIfInBounds x.2 x.1) (stepArr t kv nilRow mv)) = stepArr (({ wrong := ⟨2, Sp.badChunk, -1⟩ } : Sp.StepV).span t.frm t.to) nilRow nilRow nilRow from by kernel_rfl] at b2
  exact h.bad b2 rfl (Blk.farCells s0 (by omega) _ 11 (Blk.farCells s0 (by omega) _ 0 h.res)) (Below.setCells (by omega) _ 11 (Below.setCells (by omega) _ 0 h.below))

theorem OneAt.now {w w1 wx : World} {r : Sp.LineR} {a b c0 x0 s0 : Nat} {k1 m1 : Option Addr} {k2 k3 m2 m3 : Nat} (h : OneAt w w1 r a b c0 x0 s0 k1 k2 k3 m1 m2 m3 wx) (hd : (lineStep r).cmd.data = []) :
    OneNow w wx s0 ((lineStep r).span a b) (.slice k1 k2 k3) nilRow (.slice m1 m2 m3) := by
  refine ⟨h.step, h.res, ⟨World.ownsRow.mono h.keys (Nat.zero_le _), ?_, World.ownsRow.mono h.metas (Nat.zero_le _)⟩, ?_, h.below, h.ne⟩
  · show wx.ownsRow 0 5 1 nilRow (lineStep r).cmd.data.length (bytesV (lineStep r).cmd.data)
    rw [hd]
    exact World.ownsRow_nil _ _ _ 1
  · intro k hk
    simp only [cmdBlocks, List.mem_append] at hk
    rcases hk with hk | hk | hk
    · exact own_ge h.keys k hk
    · rw [rowBlock_nil] at hk; simp at hk
    · exact own_ge h.metas k hk

end Go.Proofs.YthgfjafnclklpaaGreatDoor
end
end
section
namespace Go.Proofs.YthgfjafnclklpaaGreatDoor
attribute [local go_sem ↓] Go.wp_at_zero Go.wp_at_succ
open Go.RowKit
attribute [-go_sem] storeVar
attribute [local go_sem] run_store_cmd run_store_wrong run_store_step storeVar_int' storeVar_bool' storeVar_slice' storeVar_func' canPut_new canPut_setCell canPut_drew canPut_alloc canPut_setCells cell_setCells_far World.frozen?_setCells

set_option maxHeartbeats 8000000 in
set_option maxRecDepth 100000 in
theorem one_bad {w : World} (hg : Glob w) {A : Option Addr} {cap : Nat} {l : Sp.Bs} (h : RowAt w A (bytesV l)) (hc : l.length ≤ cap) (hA : A = none → cap = 0) (hl : l.length ≤ 1000000000) {at' lim i : Nat} (hat : at' ≤ l.length) (hlim : lim ≤ 9223372036854775807)
    (hi : Sp.indexOf (l.drop at') 10 = some i) {x : Sp.WrongV} (hr0 : Sp.lineOf (Sp.chop ((l.drop at').take i)) = .bad x) :
    Calls Tryz.prog 68 #[.slice A l.length cap, .int .i64 at', .int .i64 lim] w (OnePost w at' (Sp.oneV lim (l.drop at'))) := by
  have hbl : (l.drop at').length = l.length - at' := by simp
  have hil := indexOf_in hi
  rw [hbl] at hil
  obtain ⟨b, o, hAe, hbw, hcells⟩ : ∃ b o, A = some ⟨b, o, none⟩ ∧ b < w.heap.size ∧ ∀ j u, (bytesV l)[j]? = some u → w.cell? ⟨b, o + j, none⟩ = some u := by
    rcases h with h0 | h0
    · have : l = [] := by simpa [bytesV] using h0
      rw [this] at hil; simp at hil
    · exact h0
  subst hAe
  have hrowD : RowAt w (some ⟨b, o + at', none⟩) (bytesV (l.drop at')) := by
    have := RowAt.stretch h at' l.length
    rwa [← bytesV_stretch, List.take_of_length_le (by simp)] at this
  have hrowL : RowAt w (some ⟨b, o + at', none⟩) (bytesV ((l.drop at').take i)) := by
    rw [bytesV_stretch]
    exact RowAt.stretch h at' i
  have hlen : ((l.drop at').take i).length = i := by rw [List.length_take, hbl]; omega
  have hidx : ∀ W : World, RowAt W (some ⟨b, o + at', none⟩) (bytesV (l.drop at')) → Calls Tryz.prog 114 #[.slice (some ⟨b, o + at', none⟩) (l.length - at') (cap - at'), .int .u8 10] W fun e w' => e = .returned (.int .i64 i) ∧ W = w' := fun W h1 => by
    have := index_any (cap := cap - at') h1 (fun h => by cases h) 10
    rwa [hbl, indexByte_of, hi] at this
  have hch : ∀ (W : World) (B : Option Addr) (d : Nat), RowAt W (some ⟨b, o + at', none⟩) (bytesV ((l.drop at').take i)) → RowAt W B (bytesV [13]) → Calls Tryz.prog 115 #[.slice (some ⟨b, o + at', none⟩) i (cap - at'), .slice B 1 d] W fun e w' =>
      e = .returned (.slice (some ⟨b, o + at', none⟩) (Sp.chop ((l.drop at').take i)).length (cap - at')) ∧ W = w' := fun W B d h1 h2 => by
    have := chop_any (cap := cap - at') (d := d) h1 h2 (by omega) (by omega) (fun h => by cases h)
    rwa [hlen] at this
  have hrowC : RowAt w (some ⟨b, o + at', none⟩) (bytesV (Sp.chop ((l.drop at').take i))) := by
    have e := (chop_take ((l.drop at').take i)).2
    have := hrowL.take (Sp.chop ((l.drop at').take i)).length
    rw [e]
    simpa [bytesV] using this
  obtain ⟨r, hr⟩ : ∃ r, r = Sp.lineOf (Sp.chop ((l.drop at').take i)) := ⟨_, rfl⟩
  have hrx := hr.trans hr0
  have HRX := Lib.hid hrx
  clear hrx hr0
  have hlf : ∀ W : World, Glob W → RowAt W (some ⟨b, o + at', none⟩) (bytesV (Sp.chop ((l.drop at').take i))) → Calls Tryz.prog 19 #[.slice (some ⟨b, o + at', none⟩) (Sp.chop ((l.drop at').take i)).length (cap - at')] W _ := fun W h1 h2 => line_flat h1 h2
  rw [← hr] at hlf
  have hskip : ∀ (W : World) (k : Nat), Below w.heap.size w W → k ≤ 9223372036854775807 → Calls Tryz.prog 116 #[.slice (some ⟨b, o, none⟩) l.length cap, .int .i64 ((at' + i + 1 : Nat) : Int), .int .i64 k] W (SkipPost W (at' + i + 1) (Sp.skipV (l.drop (at' + i + 1)) k)) := fun W k hb hk =>
    skip_any (h.below hb) hc (fun h => by cases h) hl (by omega) hk
  have hclone : ∀ (W : World) (k : Nat), Below w.heap.size w W → k ≤ l.length - (at' + i + 1) → Calls Tryz.prog 117 #[.slice (some ⟨b, o + (at' + i + 1), none⟩) k (cap - (at' + i + 1))] W fun e w' =>
      ∃ d1 d2 d3, e = .returned (.slice d1 d2 d3) ∧ w'.ownsRow w.heap.size 5 1 (.slice d1 d2 d3) ((l.drop (at' + i + 1)).take k).length (bytesV ((l.drop (at' + i + 1)).take k)) ∧ Below W.heap.size W w' := fun W k hb hk => by
    have e : ((l.drop (at' + i + 1)).take k).length = k := by rw [List.length_take, List.length_drop]; omega
    have hr : RowAt W (some ⟨b, o + (at' + i + 1), none⟩) (bytesV ((l.drop (at' + i + 1)).take k)) := by
      rw [bytesV_stretch]
      exact (h.below hb).stretch (at' + i + 1) k
    have := clone_any (cap := cap - (at' + i + 1)) hr (by omega)
    rw [e] at this ⊢
    refine this.mono ?_
    rintro e' w' ⟨v, rfl, h1, h2⟩
    obtain ⟨d1, d2, d3, rfl⟩ := own_slice h1
    exact ⟨d1, d2, d3, rfl, World.ownsRow.mono h1 hb.size, h2⟩
  have HCL := Lib.hid hclone
  clear hclone
  have kc := fun (w : World) (C : Array Value) (n c : Nat) => Lib.run_convert_bytes_const (P := Tryz.prog) w 35 5 C n c Tryz.underlying35 Tryz.underlying5
  have hone : Sp.oneV lim (l.drop at') = oneTail lim at' i l r := by
    have hd : (l.drop at').drop (i + 1) = l.drop (at' + i + 1) := by rw [List.drop_drop, Nat.add_assoc]
    rw [hr]
    unfold Sp.oneV oneTail
    rw [hi]
    dsimp only
    rw [hd]
    generalize Sp.lineOf (Sp.chop ((l.drop at').take i)) = q
    cases q <;> rfl
  rw [hone]
  have hsz0 : Below w.heap.size w (w.alloc (.cells (stepArr {} nilRow nilRow nilRow) 99)) := (Below.refl _ _).alloc (Nat.le_refl _) _
  have hs0 := Blk.new w 99 (stepArr {} nilRow nilRow nilRow)
  generalize Sp.chop ((l.drop at').take i) = L at hch hrowC hlf hr
  have HROWD := Lib.hid hrowD
  have HROWL := Lib.hid hrowL
  have HROWC := Lib.hid hrowC
  have HI := Lib.hid hidx
  have HCH := Lib.hid hch
  have HLF := Lib.hid hlf
  have HSK := Lib.hid hskip
  have HG := Lib.hid hg
  have HC := Lib.hid hcells
  have HS0 := Lib.hid hs0
  have HB0 := Lib.hid hsz0
  have HRR := Lib.hid hr
  clear h hrowD hrowL hrowC hidx hch hlf hskip hg hcells hs0 hsz0 hA hbl hlen hi hone hr
  generalize hR : OnePost w at' _ = R
  have HR := Lib.hid hR
  clear hR
  go_enter Tryz.func68, Tryz.ntmps68
  go_upto_region 4 with (refine (HI.out _ (HROWD.out.alloc _)).mono ?_; rintro e w1 ⟨rfl, hw1⟩; change (w.alloc (.cells (stepArr {} nilRow nilRow nilRow) 99)) = w1 at hw1; have hs1 := HS0.out; rw [hw1] at hs1; have hb1 := HB0.out; rw [hw1] at hb1; have HS1 := Lib.hid hs1; have HB1 := Lib.hid hb1; clear hs1 hb1 hw1)
  go_cut [9, 10, 11] (fun cb bn wb wx => OneMid w r cb bn wb wx)
  case first =>
    go_wp2_with fail
    rw [Nat.add_sub_cancel_left]
    refine (HCH.out _ _ _ (HROWL.out.below (HB1.out.alloc HB1.out.size _)) (const_row _ _ _ _)).mono ?_
    rintro e w2 ⟨rfl, hw2⟩
    have hb2 : Below w.heap.size w w2 := by rw [← hw2]; exact HB1.out.alloc HB1.out.size _
    have hs2 : Blk w2 w.heap.size 99 (stepArr {} nilRow nilRow nilRow) := by rw [← hw2]; exact Blk.alloc HS1.out _
    have HB2 := Lib.hid hb2
    have HS2 := Lib.hid hs2
    clear hw2 hb2 hs2
    go_wp2_with fail
    refine (HLF.out _ (HG.out.later HB2.out) (HROWC.out.below HB2.out)).mono ?_
    rintro e w9 ⟨k1, k2, k3, m1, m2, m3, rfl, hk, hm, hb⟩
    have hb9 := HB2.out.trans (hb.mono HB2.out.size)
    have hs9 := Blk.later HS2.out hb
    have hk9 := World.ownsRow.mono hk HB2.out.size
    have hm9 := World.ownsRow.mono hm HB2.out.size
    have HK := Lib.hid hk9
    have HM := Lib.hid hm9
    have HB9 := Lib.hid hb9
    have HS9 := Lib.hid hs9
    clear hk hm hb hb9 hs9 hk9 hm9
    go_wp2_with fail
    go_meet
    exact oneMid_new HB9.out HS9.out HK.out HM.out
  case rest =>
    obtain ⟨c0, x0, k1, k2, k3, m1, m2, m3, rfl, rfl, rfl, hv, hk, hm, hb⟩ := hcut
    have y0 : _ = some (Value.int .i64 (lineStep r).cmd.verb) := (hv.c).cell 0
    have y1 : _ = some (Value.slice k1 k2 k3) := (hv.c).cell 1
    have y2 : _ = some (Value.int .u64 (lineStep r).cmd.flags) := (hv.c).cell 2
    have y3 : _ = some (Value.int .i64 (lineStep r).cmd.exptime) := (hv.c).cell 3
    have y4 : _ = some (Value.int .u64 (lineStep r).cmd.token) := (hv.c).cell 4
    have y5 : _ = some (Value.int .u64 (lineStep r).cmd.delta) := (hv.c).cell 5
    have y6 : _ = some (nilRow) := (hv.c).cell 6
    have y7 : _ = some (Value.bool (lineStep r).cmd.noreply) := (hv.c).cell 7
    have y8 : _ = some (Value.bool (lineStep r).cmd.large) := (hv.c).cell 8
    have y9 : _ = some (Value.slice m1 m2 m3) := (hv.c).cell 9
    have y10 : _ = some (str (lineStep r).cmd.what) := (hv.c).cell 10
    have v0 : _ = some (Value.int .i64 (lineStep r).wrong.kind) := hv.x.cell 0
    have v1 : _ = some (str (lineStep r).wrong.text) := hv.x.cell 1
    have v2 : _ = some (Value.int .i64 (lineStep r).wrong.pass) := hv.x.cell 2
    have HV := Lib.hid hv
    have HK := Lib.hid hk
    have HM := Lib.hid hm
    have HB := Lib.hid hb
    clear hv hk hm hb
    go_upto_region 5 with (fail)
    have hse : ((at' : Int) + (i : Int) + 1) = ((at' + i + 1 : Nat) : Int) := by omega
    have HSE := Lib.hid hse
    clear hse
    go_cut [12] (fun sb wx => ∃ s0, sb = .pointer (some ⟨s0, 0, none⟩) ∧ OneAt w wc r at' (at' + i + 1) c0 x0 s0 k1 k2 k3 m1 m2 m3 wx)
    case first =>
      go_wp2_with fail
      go_meet
      rw [HSE.out]
      exact oneAt_new HV.out HK.out HM.out HB.out
    case rest =>
      obtain ⟨s0, rfl, ha⟩ := hcut
      obtain ⟨t, ht⟩ : ∃ t, t = (lineStep r).span at' (at' + i + 1) := ⟨_, rfl⟩
      have hnow : OneNow w wc s0 t (.slice k1 k2 k3) nilRow (.slice m1 m2 m3) := by
        rw [ht]; exact ha.now (by rw [HRR.out]; exact lineStep_data L)
      have hto : t.to = at' + i + 1 := by rw [ht]; rfl
      have v0 : _ = some (Value.int .i64 (lineStep r).wrong.kind) := ha.x.cell 0
      have v1 : _ = some (str (lineStep r).wrong.text) := ha.x.cell 1
      have v2 : _ = some (Value.int .i64 (lineStep r).wrong.pass) := ha.x.cell 2
      have q0 : _ = some (Value.int .i64 t.cmd.verb) := (hnow.step).cell 0
      have q1 : _ = some (Value.slice k1 k2 k3) := (hnow.step).cell 1
      have q2 : _ = some (Value.int .u64 t.cmd.flags) := (hnow.step).cell 2
      have q3 : _ = some (Value.int .i64 t.cmd.exptime) := (hnow.step).cell 3
      have q4 : _ = some (Value.int .u64 t.cmd.token) := (hnow.step).cell 4
      have q5 : _ = some (Value.int .u64 t.cmd.delta) := (hnow.step).cell 5
      have q6 : _ = some (nilRow) := (hnow.step).cell 6
      have q7 : _ = some (Value.bool t.cmd.noreply) := (hnow.step).cell 7
      have q8 : _ = some (Value.bool t.cmd.large) := (hnow.step).cell 8
      have q9 : _ = some (Value.slice m1 m2 m3) := (hnow.step).cell 9
      have q10 : _ = some (str t.cmd.what) := (hnow.step).cell 10
      have q11 : _ = some (Value.int .i64 t.wrong.kind) := (hnow.step).cell 11
      have q12 : _ = some (str t.wrong.text) := (hnow.step).cell 12
      have q13 : _ = some (Value.int .i64 t.wrong.pass) := (hnow.step).cell 13
      have q14 : _ = some (Value.int .i64 t.frm) := (hnow.step).cell 14
      have q15 : _ = some (Value.int .i64 t.to) := hnow.step.cell 15
      have hto1 : t.to ≤ at' + i + 1 := by omega
      have hto2 : at' + i + 1 ≤ t.to := by omega
      have hcp := hnow.res.can 0 16 (by simp [stepArr])
      have f15 := hnow.step.frozen 15
      have HNOW := Lib.hid hnow
      have HT := Lib.hid ht
      have HTO := Lib.hid hto
      clear ha hnow hto ht
      obtain rfl := HRX.out
      have hbad := lineOf_bad HRR.out.symm
      have hk0 : ¬ (x.kind : Int) = 0 := by omega
      dsimp only [lineStep, lineN] at v0 v1 v2
      by_cases hp1 : 0 ≤ x.pass
      · by_cases hp2 : x.pass ≤ (lim : Int)
        · obtain ⟨k, hk⟩ := Int.eq_ofNat_of_zero_le hp1
          rw [hk] at v2 hp2
          have HK := Lib.hid hk
          clear hp1 hk hbad
          go_wp2_with fail
          rw [HTO.out]
          refine (HSK.out _ k HNOW.out.below (by omega)).mono ?_
          rintro e w5 ⟨v, gd, rfl, hv, -, hb5⟩
          obtain ⟨th, hth⟩ : ∃ th, th = (Sp.skipV (l.drop (at' + i + 1)) k).isSome := ⟨_, rfl⟩
          rw [← hth]
          have hn5 := HNOW.out.later hb5
          have hn6 : OneNow w (w5.setCell ⟨s0, 15, none⟩ (.int .i64 v)) s0 (t.span t.frm v) (.slice k1 k2 k3) nilRow (.slice m1 m2 m3) := hn5.put 15 _ (by kernel_rfl) rfl rfl rfl
          have hend : R (.returned (.tuple #[stepV (t.span t.frm v) (.slice k1 k2 k3) nilRow (.slice m1 m2 m3), .bool th])) ((w5.setCell ⟨s0, 15, none⟩ (.int .i64 v)).setCells w.heap.size 0 (stepArr (t.span t.frm v) (.slice k1 k2 k3) nilRow (.slice m1 m2 m3)).toList) := by
            rw [← HR.out]
            have hcnd : 0 ≤ x.pass ∧ x.pass ≤ (lim : Int) := by rw [HK.out]; exact ⟨by omega, hp2⟩
            have hpn : x.pass.toNat = k := by rw [HK.out]; rfl
            cases hs : Sp.skipV (l.drop (at' + i + 1)) k with
            | none =>
              rw [hs] at hth; subst hth
              exact OnePost.no hn6 (by rw [oneTail_in hcnd, hpn, hs]; rfl)
            | some y =>
              rw [hs] at hth; subst hth
              refine OnePost.one hn6 (t' := { wrong := x }) (n := i + 1 + y.1) (by rw [oneTail_in hcnd, hpn, hs]; rfl) ?_
              rw [HT.out, (hv y.1 y.2 hs).1]
              show (Sp.StepV.span _ _ _) = _
              rw [show at' + i + 1 + y.1 = at' + (i + 1 + y.1) by omega]
              rfl
          clear q0 q1 q2 q3 q4 q5 q6 q7 q8 q9 q10 q11 q12 q13 q14 q15 hcp f15 v0 v1 v2
          have q0 : _ = some (Value.int .i64 t.cmd.verb) := (hn5.step).cell 0
          have q1 : _ = some (Value.slice k1 k2 k3) := (hn5.step).cell 1
          have q2 : _ = some (Value.int .u64 t.cmd.flags) := (hn5.step).cell 2
          have q3 : _ = some (Value.int .i64 t.cmd.exptime) := (hn5.step).cell 3
          have q4 : _ = some (Value.int .u64 t.cmd.token) := (hn5.step).cell 4
          have q5 : _ = some (Value.int .u64 t.cmd.delta) := (hn5.step).cell 5
          have q6 : _ = some (nilRow) := (hn5.step).cell 6
          have q7 : _ = some (Value.bool t.cmd.noreply) := (hn5.step).cell 7
          have q8 : _ = some (Value.bool t.cmd.large) := (hn5.step).cell 8
          have q9 : _ = some (Value.slice m1 m2 m3) := (hn5.step).cell 9
          have q10 : _ = some (str t.cmd.what) := (hn5.step).cell 10
          have q11 : _ = some (Value.int .i64 t.wrong.kind) := (hn5.step).cell 11
          have q12 : _ = some (str t.wrong.text) := (hn5.step).cell 12
          have q13 : _ = some (Value.int .i64 t.wrong.pass) := (hn5.step).cell 13
          have q14 : _ = some (Value.int .i64 t.frm) := (hn5.step).cell 14
          have q15 : _ = some (Value.int .i64 t.to) := hn5.step.cell 15
          have hcp := hn5.res.can 0 16 (by simp [stepArr])
          have f15 := hn5.step.frozen 15
          have HN6 := Lib.hid hn6
          have HEND := Lib.hid hend
          have hne5 : w.heap.size ≠ s0 := by have := hn5.ne; omega
          clear hn5 hn6 hend hv hth hb5
          go_wp2_with fail
          exact bodyPost_ret (one_results HN6.out.close.1 _ rfl rfl) rfl HEND.out
        · go_wp2_with fail
          exact bodyPost_ret (one_results HNOW.out.close.1 _ rfl rfl) rfl (by
            rw [← HR.out]
            exact OnePost.one HNOW.out (t' := { wrong := x }) (n := i + 1) (oneTail_out (by omega)) (by rw [HT.out]; rfl))
      · go_wp2_with fail
        exact bodyPost_ret (one_results HNOW.out.close.1 _ rfl rfl) rfl (by
          rw [← HR.out]
          exact OnePost.one HNOW.out (t' := { wrong := x }) (n := i + 1) (oneTail_out (by omega)) (by rw [HT.out]; rfl))
end Go.Proofs.YthgfjafnclklpaaGreatDoor
end
section
namespace Go.Proofs.YthgfjafnclklpaaGreatDoor
attribute [local go_sem ↓] Go.wp_at_zero Go.wp_at_succ
open Go.RowKit
attribute [-go_sem] storeVar
attribute [local go_sem] run_store_cmd run_store_wrong run_store_step storeVar_int' storeVar_bool' storeVar_slice' storeVar_func' canPut_new canPut_setCell canPut_drew canPut_alloc canPut_setCells cell_setCells_far World.frozen?_setCells

set_option maxHeartbeats 8000000 in
set_option maxRecDepth 100000 in
theorem one_no {w : World} (hg : Glob w) {A : Option Addr} {cap : Nat} {l : Sp.Bs} (h : RowAt w A (bytesV l)) (hc : l.length ≤ cap) (hA : A = none → cap = 0) (hl : l.length ≤ 1000000000) {at' lim i : Nat} (hat : at' ≤ l.length)
    (hi : Sp.indexOf (l.drop at') 10 = some i) {c : Sp.CmdV} {n : Int} (hr0 : Sp.lineOf (Sp.chop ((l.drop at').take i)) = .ok c n) (hn : n < 0) :
    Calls Tryz.prog 68 #[.slice A l.length cap, .int .i64 at', .int .i64 lim] w (OnePost w at' (Sp.oneV lim (l.drop at'))) := by
  have hbl : (l.drop at').length = l.length - at' := by simp
  have hil := indexOf_in hi
  rw [hbl] at hil
  obtain ⟨b, o, hAe, hbw, hcells⟩ : ∃ b o, A = some ⟨b, o, none⟩ ∧ b < w.heap.size ∧ ∀ j u, (bytesV l)[j]? = some u → w.cell? ⟨b, o + j, none⟩ = some u := by
    rcases h with h0 | h0
    · have : l = [] := by simpa [bytesV] using h0
      rw [this] at hil; simp at hil
    · exact h0
  subst hAe
  have hrowD : RowAt w (some ⟨b, o + at', none⟩) (bytesV (l.drop at')) := by
    have := RowAt.stretch h at' l.length
    rwa [← bytesV_stretch, List.take_of_length_le (by simp)] at this
  have hrowL : RowAt w (some ⟨b, o + at', none⟩) (bytesV ((l.drop at').take i)) := by
    rw [bytesV_stretch]
    exact RowAt.stretch h at' i
  have hlen : ((l.drop at').take i).length = i := by rw [List.length_take, hbl]; omega
  have hidx : ∀ W : World, RowAt W (some ⟨b, o + at', none⟩) (bytesV (l.drop at')) → Calls Tryz.prog 114 #[.slice (some ⟨b, o + at', none⟩) (l.length - at') (cap - at'), .int .u8 10] W fun e w' => e = .returned (.int .i64 i) ∧ W = w' := fun W h1 => by
    have := index_any (cap := cap - at') h1 (fun h => by cases h) 10
    rwa [hbl, indexByte_of, hi] at this
  have hch : ∀ (W : World) (B : Option Addr) (d : Nat), RowAt W (some ⟨b, o + at', none⟩) (bytesV ((l.drop at').take i)) → RowAt W B (bytesV [13]) → Calls Tryz.prog 115 #[.slice (some ⟨b, o + at', none⟩) i (cap - at'), .slice B 1 d] W fun e w' =>
      e = .returned (.slice (some ⟨b, o + at', none⟩) (Sp.chop ((l.drop at').take i)).length (cap - at')) ∧ W = w' := fun W B d h1 h2 => by
    have := chop_any (cap := cap - at') (d := d) h1 h2 (by omega) (by omega) (fun h => by cases h)
    rwa [hlen] at this
  have hrowC : RowAt w (some ⟨b, o + at', none⟩) (bytesV (Sp.chop ((l.drop at').take i))) := by
    have e := (chop_take ((l.drop at').take i)).2
    have := hrowL.take (Sp.chop ((l.drop at').take i)).length
    rw [e]
    simpa [bytesV] using this
  obtain ⟨r, hr⟩ : ∃ r, r = Sp.lineOf (Sp.chop ((l.drop at').take i)) := ⟨_, rfl⟩
  have hrx := hr.trans hr0
  have HRX := Lib.hid hrx
  clear hrx hr0
  have hlf : ∀ W : World, Glob W → RowAt W (some ⟨b, o + at', none⟩) (bytesV (Sp.chop ((l.drop at').take i))) → Calls Tryz.prog 19 #[.slice (some ⟨b, o + at', none⟩) (Sp.chop ((l.drop at').take i)).length (cap - at')] W _ := fun W h1 h2 => line_flat h1 h2
  rw [← hr] at hlf
  have hskip : ∀ (W : World) (k : Nat), Below w.heap.size w W → k ≤ 9223372036854775807 → Calls Tryz.prog 116 #[.slice (some ⟨b, o, none⟩) l.length cap, .int .i64 ((at' + i + 1 : Nat) : Int), .int .i64 k] W (SkipPost W (at' + i + 1) (Sp.skipV (l.drop (at' + i + 1)) k)) := fun W k hb hk =>
    skip_any (h.below hb) hc (fun h => by cases h) hl (by omega) hk
  have hclone : ∀ (W : World) (k : Nat), Below w.heap.size w W → k ≤ l.length - (at' + i + 1) → Calls Tryz.prog 117 #[.slice (some ⟨b, o + (at' + i + 1), none⟩) k (cap - (at' + i + 1))] W fun e w' =>
      ∃ d1 d2 d3, e = .returned (.slice d1 d2 d3) ∧ w'.ownsRow w.heap.size 5 1 (.slice d1 d2 d3) ((l.drop (at' + i + 1)).take k).length (bytesV ((l.drop (at' + i + 1)).take k)) ∧ Below W.heap.size W w' := fun W k hb hk => by
    have e : ((l.drop (at' + i + 1)).take k).length = k := by rw [List.length_take, List.length_drop]; omega
    have hr : RowAt W (some ⟨b, o + (at' + i + 1), none⟩) (bytesV ((l.drop (at' + i + 1)).take k)) := by
      rw [bytesV_stretch]
      exact (h.below hb).stretch (at' + i + 1) k
    have := clone_any (cap := cap - (at' + i + 1)) hr (by omega)
    rw [e] at this ⊢
    refine this.mono ?_
    rintro e' w' ⟨v, rfl, h1, h2⟩
    obtain ⟨d1, d2, d3, rfl⟩ := own_slice h1
    exact ⟨d1, d2, d3, rfl, World.ownsRow.mono h1 hb.size, h2⟩
  have HCL := Lib.hid hclone
  clear hclone
  have kc := fun (w : World) (C : Array Value) (n c : Nat) => Lib.run_convert_bytes_const (P := Tryz.prog) w 35 5 C n c Tryz.underlying35 Tryz.underlying5
  have hone : Sp.oneV lim (l.drop at') = oneTail lim at' i l r := by
    have hd : (l.drop at').drop (i + 1) = l.drop (at' + i + 1) := by rw [List.drop_drop, Nat.add_assoc]
    rw [hr]
    unfold Sp.oneV oneTail
    rw [hi]
    dsimp only
    rw [hd]
    generalize Sp.lineOf (Sp.chop ((l.drop at').take i)) = q
    cases q <;> rfl
  rw [hone]
  have hsz0 : Below w.heap.size w (w.alloc (.cells (stepArr {} nilRow nilRow nilRow) 99)) := (Below.refl _ _).alloc (Nat.le_refl _) _
  have hs0 := Blk.new w 99 (stepArr {} nilRow nilRow nilRow)
  generalize Sp.chop ((l.drop at').take i) = L at hch hrowC hlf hr
  have HROWD := Lib.hid hrowD
  have HROWL := Lib.hid hrowL
  have HROWC := Lib.hid hrowC
  have HI := Lib.hid hidx
  have HCH := Lib.hid hch
  have HLF := Lib.hid hlf
  have HSK := Lib.hid hskip
  have HG := Lib.hid hg
  have HC := Lib.hid hcells
  have HS0 := Lib.hid hs0
  have HB0 := Lib.hid hsz0
  have HRR := Lib.hid hr
  clear h hrowD hrowL hrowC hidx hch hlf hskip hg hcells hs0 hsz0 hA hbl hlen hi hone hr
  generalize hR : OnePost w at' _ = R
  have HR := Lib.hid hR
  clear hR
  go_enter Tryz.func68, Tryz.ntmps68
  go_upto_region 4 with (refine (HI.out _ (HROWD.out.alloc _)).mono ?_; rintro e w1 ⟨rfl, hw1⟩; change (w.alloc (.cells (stepArr {} nilRow nilRow nilRow) 99)) = w1 at hw1; have hs1 := HS0.out; rw [hw1] at hs1; have hb1 := HB0.out; rw [hw1] at hb1; have HS1 := Lib.hid hs1; have HB1 := Lib.hid hb1; clear hs1 hb1 hw1)
  go_cut [9, 10, 11] (fun cb bn wb wx => OneMid w r cb bn wb wx)
  case first =>
    go_wp2_with fail
    rw [Nat.add_sub_cancel_left]
    refine (HCH.out _ _ _ (HROWL.out.below (HB1.out.alloc HB1.out.size _)) (const_row _ _ _ _)).mono ?_
    rintro e w2 ⟨rfl, hw2⟩
    have hb2 : Below w.heap.size w w2 := by rw [← hw2]; exact HB1.out.alloc HB1.out.size _
    have hs2 : Blk w2 w.heap.size 99 (stepArr {} nilRow nilRow nilRow) := by rw [← hw2]; exact Blk.alloc HS1.out _
    have HB2 := Lib.hid hb2
    have HS2 := Lib.hid hs2
    clear hw2 hb2 hs2
    go_wp2_with fail
    refine (HLF.out _ (HG.out.later HB2.out) (HROWC.out.below HB2.out)).mono ?_
    rintro e w9 ⟨k1, k2, k3, m1, m2, m3, rfl, hk, hm, hb⟩
    have hb9 := HB2.out.trans (hb.mono HB2.out.size)
    have hs9 := Blk.later HS2.out hb
    have hk9 := World.ownsRow.mono hk HB2.out.size
    have hm9 := World.ownsRow.mono hm HB2.out.size
    have HK := Lib.hid hk9
    have HM := Lib.hid hm9
    have HB9 := Lib.hid hb9
    have HS9 := Lib.hid hs9
    clear hk hm hb hb9 hs9 hk9 hm9
    go_wp2_with fail
    go_meet
    exact oneMid_new HB9.out HS9.out HK.out HM.out
  case rest =>
    obtain ⟨c0, x0, k1, k2, k3, m1, m2, m3, rfl, rfl, rfl, hv, hk, hm, hb⟩ := hcut
    have y0 : _ = some (Value.int .i64 (lineStep r).cmd.verb) := (hv.c).cell 0
    have y1 : _ = some (Value.slice k1 k2 k3) := (hv.c).cell 1
    have y2 : _ = some (Value.int .u64 (lineStep r).cmd.flags) := (hv.c).cell 2
    have y3 : _ = some (Value.int .i64 (lineStep r).cmd.exptime) := (hv.c).cell 3
    have y4 : _ = some (Value.int .u64 (lineStep r).cmd.token) := (hv.c).cell 4
    have y5 : _ = some (Value.int .u64 (lineStep r).cmd.delta) := (hv.c).cell 5
    have y6 : _ = some (nilRow) := (hv.c).cell 6
    have y7 : _ = some (Value.bool (lineStep r).cmd.noreply) := (hv.c).cell 7
    have y8 : _ = some (Value.bool (lineStep r).cmd.large) := (hv.c).cell 8
    have y9 : _ = some (Value.slice m1 m2 m3) := (hv.c).cell 9
    have y10 : _ = some (str (lineStep r).cmd.what) := (hv.c).cell 10
    have v0 : _ = some (Value.int .i64 (lineStep r).wrong.kind) := hv.x.cell 0
    have v1 : _ = some (str (lineStep r).wrong.text) := hv.x.cell 1
    have v2 : _ = some (Value.int .i64 (lineStep r).wrong.pass) := hv.x.cell 2
    have HV := Lib.hid hv
    have HK := Lib.hid hk
    have HM := Lib.hid hm
    have HB := Lib.hid hb
    clear hv hk hm hb
    go_upto_region 5 with (fail)
    have hse : ((at' : Int) + (i : Int) + 1) = ((at' + i + 1 : Nat) : Int) := by omega
    have HSE := Lib.hid hse
    clear hse
    go_cut [12] (fun sb wx => ∃ s0, sb = .pointer (some ⟨s0, 0, none⟩) ∧ OneAt w wc r at' (at' + i + 1) c0 x0 s0 k1 k2 k3 m1 m2 m3 wx)
    case first =>
      go_wp2_with fail
      go_meet
      rw [HSE.out]
      exact oneAt_new HV.out HK.out HM.out HB.out
    case rest =>
      obtain ⟨s0, rfl, ha⟩ := hcut
      obtain ⟨t, ht⟩ : ∃ t, t = (lineStep r).span at' (at' + i + 1) := ⟨_, rfl⟩
      have hnow : OneNow w wc s0 t (.slice k1 k2 k3) nilRow (.slice m1 m2 m3) := by
        rw [ht]; exact ha.now (by rw [HRR.out]; exact lineStep_data L)
      have hto : t.to = at' + i + 1 := by rw [ht]; rfl
      have v0 : _ = some (Value.int .i64 (lineStep r).wrong.kind) := ha.x.cell 0
      have v1 : _ = some (str (lineStep r).wrong.text) := ha.x.cell 1
      have v2 : _ = some (Value.int .i64 (lineStep r).wrong.pass) := ha.x.cell 2
      have q0 : _ = some (Value.int .i64 t.cmd.verb) := (hnow.step).cell 0
      have q1 : _ = some (Value.slice k1 k2 k3) := (hnow.step).cell 1
      have q2 : _ = some (Value.int .u64 t.cmd.flags) := (hnow.step).cell 2
      have q3 : _ = some (Value.int .i64 t.cmd.exptime) := (hnow.step).cell 3
      have q4 : _ = some (Value.int .u64 t.cmd.token) := (hnow.step).cell 4
      have q5 : _ = some (Value.int .u64 t.cmd.delta) := (hnow.step).cell 5
      have q6 : _ = some (nilRow) := (hnow.step).cell 6
      have q7 : _ = some (Value.bool t.cmd.noreply) := (hnow.step).cell 7
      have q8 : _ = some (Value.bool t.cmd.large) := (hnow.step).cell 8
      have q9 : _ = some (Value.slice m1 m2 m3) := (hnow.step).cell 9
      have q10 : _ = some (str t.cmd.what) := (hnow.step).cell 10
      have q11 : _ = some (Value.int .i64 t.wrong.kind) := (hnow.step).cell 11
      have q12 : _ = some (str t.wrong.text) := (hnow.step).cell 12
      have q13 : _ = some (Value.int .i64 t.wrong.pass) := (hnow.step).cell 13
      have q14 : _ = some (Value.int .i64 t.frm) := (hnow.step).cell 14
      have q15 : _ = some (Value.int .i64 t.to) := hnow.step.cell 15
      have hto1 : t.to ≤ at' + i + 1 := by omega
      have hto2 : at' + i + 1 ≤ t.to := by omega
      have hcp := hnow.res.can 0 16 (by simp [stepArr])
      have f15 := hnow.step.frozen 15
      have HNOW := Lib.hid hnow
      have HT := Lib.hid ht
      have HTO := Lib.hid hto
      clear ha hnow hto ht
      obtain rfl := HRX.out
      have hok := lineOf_ok HRR.out.symm
      have u0 : wc.cell? ⟨x0, 0, none⟩ = some (Value.int .i64 0) := v0
      clear v0 v1 v2
      rw [show lineN (.ok c n) = n from rfl]
      go_wp2_with fail
      exact bodyPost_ret (one_results HNOW.out.close.1 _ rfl rfl) rfl (by
        rw [← HR.out]
        exact OnePost.one HNOW.out (t' := { cmd := c }) (n := i + 1) (oneTail_no hn) (by rw [HT.out]; rfl))
end Go.Proofs.YthgfjafnclklpaaGreatDoor
end
section
namespace Go.Proofs.YthgfjafnclklpaaGreatDoor
attribute [local go_sem ↓] Go.wp_at_zero Go.wp_at_succ
open Go.RowKit
attribute [-go_sem] storeVar
attribute [local go_sem] run_store_cmd run_store_wrong run_store_step storeVar_int' storeVar_bool' storeVar_slice' storeVar_func' canPut_new canPut_setCell canPut_drew canPut_alloc canPut_setCells cell_setCells_far World.frozen?_setCells

set_option maxHeartbeats 8000000 in
set_option maxRecDepth 100000 in
theorem one_large {w : World} (hg : Glob w) {A : Option Addr} {cap : Nat} {l : Sp.Bs} (h : RowAt w A (bytesV l)) (hc : l.length ≤ cap) (hA : A = none → cap = 0) (hl : l.length ≤ 1000000000) {at' lim i : Nat} (hat : at' ≤ l.length)
    (hi : Sp.indexOf (l.drop at') 10 = some i) {c : Sp.CmdV} {n : Int} (hr0 : Sp.lineOf (Sp.chop ((l.drop at').take i)) = .ok c n) (hn : ¬ n < 0) (hln : (lim : Int) < n) :
    Calls Tryz.prog 68 #[.slice A l.length cap, .int .i64 at', .int .i64 lim] w (OnePost w at' (Sp.oneV lim (l.drop at'))) := by
  have hbl : (l.drop at').length = l.length - at' := by simp
  have hil := indexOf_in hi
  rw [hbl] at hil
  obtain ⟨b, o, hAe, hbw, hcells⟩ : ∃ b o, A = some ⟨b, o, none⟩ ∧ b < w.heap.size ∧ ∀ j u, (bytesV l)[j]? = some u → w.cell? ⟨b, o + j, none⟩ = some u := by
    rcases h with h0 | h0
    · have : l = [] := by simpa [bytesV] using h0
      rw [this] at hil; simp at hil
    · exact h0
  subst hAe
  have hrowD : RowAt w (some ⟨b, o + at', none⟩) (bytesV (l.drop at')) := by
    have := RowAt.stretch h at' l.length
    rwa [← bytesV_stretch, List.take_of_length_le (by simp)] at this
  have hrowL : RowAt w (some ⟨b, o + at', none⟩) (bytesV ((l.drop at').take i)) := by
    rw [bytesV_stretch]
    exact RowAt.stretch h at' i
  have hlen : ((l.drop at').take i).length = i := by rw [List.length_take, hbl]; omega
  have hidx : ∀ W : World, RowAt W (some ⟨b, o + at', none⟩) (bytesV (l.drop at')) → Calls Tryz.prog 114 #[.slice (some ⟨b, o + at', none⟩) (l.length - at') (cap - at'), .int .u8 10] W fun e w' => e = .returned (.int .i64 i) ∧ W = w' := fun W h1 => by
    have := index_any (cap := cap - at') h1 (fun h => by cases h) 10
    rwa [hbl, indexByte_of, hi] at this
  have hch : ∀ (W : World) (B : Option Addr) (d : Nat), RowAt W (some ⟨b, o + at', none⟩) (bytesV ((l.drop at').take i)) → RowAt W B (bytesV [13]) → Calls Tryz.prog 115 #[.slice (some ⟨b, o + at', none⟩) i (cap - at'), .slice B 1 d] W fun e w' =>
      e = .returned (.slice (some ⟨b, o + at', none⟩) (Sp.chop ((l.drop at').take i)).length (cap - at')) ∧ W = w' := fun W B d h1 h2 => by
    have := chop_any (cap := cap - at') (d := d) h1 h2 (by omega) (by omega) (fun h => by cases h)
    rwa [hlen] at this
  have hrowC : RowAt w (some ⟨b, o + at', none⟩) (bytesV (Sp.chop ((l.drop at').take i))) := by
    have e := (chop_take ((l.drop at').take i)).2
    have := hrowL.take (Sp.chop ((l.drop at').take i)).length
    rw [e]
    simpa [bytesV] using this
  obtain ⟨r, hr⟩ : ∃ r, r = Sp.lineOf (Sp.chop ((l.drop at').take i)) := ⟨_, rfl⟩
  have hrx := hr.trans hr0
  have HRX := Lib.hid hrx
  clear hrx hr0
  have hlf : ∀ W : World, Glob W → RowAt W (some ⟨b, o + at', none⟩) (bytesV (Sp.chop ((l.drop at').take i))) → Calls Tryz.prog 19 #[.slice (some ⟨b, o + at', none⟩) (Sp.chop ((l.drop at').take i)).length (cap - at')] W _ := fun W h1 h2 => line_flat h1 h2
  rw [← hr] at hlf
  have hskip : ∀ (W : World) (k : Nat), Below w.heap.size w W → k ≤ 9223372036854775807 → Calls Tryz.prog 116 #[.slice (some ⟨b, o, none⟩) l.length cap, .int .i64 ((at' + i + 1 : Nat) : Int), .int .i64 k] W (SkipPost W (at' + i + 1) (Sp.skipV (l.drop (at' + i + 1)) k)) := fun W k hb hk =>
    skip_any (h.below hb) hc (fun h => by cases h) hl (by omega) hk
  have hclone : ∀ (W : World) (k : Nat), Below w.heap.size w W → k ≤ l.length - (at' + i + 1) → Calls Tryz.prog 117 #[.slice (some ⟨b, o + (at' + i + 1), none⟩) k (cap - (at' + i + 1))] W fun e w' =>
      ∃ d1 d2 d3, e = .returned (.slice d1 d2 d3) ∧ w'.ownsRow w.heap.size 5 1 (.slice d1 d2 d3) ((l.drop (at' + i + 1)).take k).length (bytesV ((l.drop (at' + i + 1)).take k)) ∧ Below W.heap.size W w' := fun W k hb hk => by
    have e : ((l.drop (at' + i + 1)).take k).length = k := by rw [List.length_take, List.length_drop]; omega
    have hr : RowAt W (some ⟨b, o + (at' + i + 1), none⟩) (bytesV ((l.drop (at' + i + 1)).take k)) := by
      rw [bytesV_stretch]
      exact (h.below hb).stretch (at' + i + 1) k
    have := clone_any (cap := cap - (at' + i + 1)) hr (by omega)
    rw [e] at this ⊢
    refine this.mono ?_
    rintro e' w' ⟨v, rfl, h1, h2⟩
    obtain ⟨d1, d2, d3, rfl⟩ := own_slice h1
    exact ⟨d1, d2, d3, rfl, World.ownsRow.mono h1 hb.size, h2⟩
  have HCL := Lib.hid hclone
  clear hclone
  have kc := fun (w : World) (C : Array Value) (n c : Nat) => Lib.run_convert_bytes_const (P := Tryz.prog) w 35 5 C n c Tryz.underlying35 Tryz.underlying5
  have hone : Sp.oneV lim (l.drop at') = oneTail lim at' i l r := by
    have hd : (l.drop at').drop (i + 1) = l.drop (at' + i + 1) := by rw [List.drop_drop, Nat.add_assoc]
    rw [hr]
    unfold Sp.oneV oneTail
    rw [hi]
    dsimp only
    rw [hd]
    generalize Sp.lineOf (Sp.chop ((l.drop at').take i)) = q
    cases q <;> rfl
  rw [hone]
  have hsz0 : Below w.heap.size w (w.alloc (.cells (stepArr {} nilRow nilRow nilRow) 99)) := (Below.refl _ _).alloc (Nat.le_refl _) _
  have hs0 := Blk.new w 99 (stepArr {} nilRow nilRow nilRow)
  generalize Sp.chop ((l.drop at').take i) = L at hch hrowC hlf hr
  have HROWD := Lib.hid hrowD
  have HROWL := Lib.hid hrowL
  have HROWC := Lib.hid hrowC
  have HI := Lib.hid hidx
  have HCH := Lib.hid hch
  have HLF := Lib.hid hlf
  have HSK := Lib.hid hskip
  have HG := Lib.hid hg
  have HC := Lib.hid hcells
  have HS0 := Lib.hid hs0
  have HB0 := Lib.hid hsz0
  have HRR := Lib.hid hr
  clear h hrowD hrowL hrowC hidx hch hlf hskip hg hcells hs0 hsz0 hA hbl hlen hi hone hr
  generalize hR : OnePost w at' _ = R
  have HR := Lib.hid hR
  clear hR
  go_enter Tryz.func68, Tryz.ntmps68
  go_upto_region 4 with (refine (HI.out _ (HROWD.out.alloc _)).mono ?_; rintro e w1 ⟨rfl, hw1⟩; change (w.alloc (.cells (stepArr {} nilRow nilRow nilRow) 99)) = w1 at hw1; have hs1 := HS0.out; rw [hw1] at hs1; have hb1 := HB0.out; rw [hw1] at hb1; have HS1 := Lib.hid hs1; have HB1 := Lib.hid hb1; clear hs1 hb1 hw1)
  go_cut [9, 10, 11] (fun cb bn wb wx => OneMid w r cb bn wb wx)
  case first =>
    go_wp2_with fail
    rw [Nat.add_sub_cancel_left]
    refine (HCH.out _ _ _ (HROWL.out.below (HB1.out.alloc HB1.out.size _)) (const_row _ _ _ _)).mono ?_
    rintro e w2 ⟨rfl, hw2⟩
    have hb2 : Below w.heap.size w w2 := by rw [← hw2]; exact HB1.out.alloc HB1.out.size _
    have hs2 : Blk w2 w.heap.size 99 (stepArr {} nilRow nilRow nilRow) := by rw [← hw2]; exact Blk.alloc HS1.out _
    have HB2 := Lib.hid hb2
    have HS2 := Lib.hid hs2
    clear hw2 hb2 hs2
    go_wp2_with fail
    refine (HLF.out _ (HG.out.later HB2.out) (HROWC.out.below HB2.out)).mono ?_
    rintro e w9 ⟨k1, k2, k3, m1, m2, m3, rfl, hk, hm, hb⟩
    have hb9 := HB2.out.trans (hb.mono HB2.out.size)
    have hs9 := Blk.later HS2.out hb
    have hk9 := World.ownsRow.mono hk HB2.out.size
    have hm9 := World.ownsRow.mono hm HB2.out.size
    have HK := Lib.hid hk9
    have HM := Lib.hid hm9
    have HB9 := Lib.hid hb9
    have HS9 := Lib.hid hs9
    clear hk hm hb hb9 hs9 hk9 hm9
    go_wp2_with fail
    go_meet
    exact oneMid_new HB9.out HS9.out HK.out HM.out
  case rest =>
    obtain ⟨c0, x0, k1, k2, k3, m1, m2, m3, rfl, rfl, rfl, hv, hk, hm, hb⟩ := hcut
    have y0 : _ = some (Value.int .i64 (lineStep r).cmd.verb) := (hv.c).cell 0
    have y1 : _ = some (Value.slice k1 k2 k3) := (hv.c).cell 1
    have y2 : _ = some (Value.int .u64 (lineStep r).cmd.flags) := (hv.c).cell 2
    have y3 : _ = some (Value.int .i64 (lineStep r).cmd.exptime) := (hv.c).cell 3
    have y4 : _ = some (Value.int .u64 (lineStep r).cmd.token) := (hv.c).cell 4
    have y5 : _ = some (Value.int .u64 (lineStep r).cmd.delta) := (hv.c).cell 5
    have y6 : _ = some (nilRow) := (hv.c).cell 6
    have y7 : _ = some (Value.bool (lineStep r).cmd.noreply) := (hv.c).cell 7
    have y8 : _ = some (Value.bool (lineStep r).cmd.large) := (hv.c).cell 8
    have y9 : _ = some (Value.slice m1 m2 m3) := (hv.c).cell 9
    have y10 : _ = some (str (lineStep r).cmd.what) := (hv.c).cell 10
    have v0 : _ = some (Value.int .i64 (lineStep r).wrong.kind) := hv.x.cell 0
    have v1 : _ = some (str (lineStep r).wrong.text) := hv.x.cell 1
    have v2 : _ = some (Value.int .i64 (lineStep r).wrong.pass) := hv.x.cell 2
    have HV := Lib.hid hv
    have HK := Lib.hid hk
    have HM := Lib.hid hm
    have HB := Lib.hid hb
    clear hv hk hm hb
    go_upto_region 5 with (fail)
    have hse : ((at' : Int) + (i : Int) + 1) = ((at' + i + 1 : Nat) : Int) := by omega
    have HSE := Lib.hid hse
    clear hse
    go_cut [12] (fun sb wx => ∃ s0, sb = .pointer (some ⟨s0, 0, none⟩) ∧ OneAt w wc r at' (at' + i + 1) c0 x0 s0 k1 k2 k3 m1 m2 m3 wx)
    case first =>
      go_wp2_with fail
      go_meet
      rw [HSE.out]
      exact oneAt_new HV.out HK.out HM.out HB.out
    case rest =>
      obtain ⟨s0, rfl, ha⟩ := hcut
      obtain ⟨t, ht⟩ : ∃ t, t = (lineStep r).span at' (at' + i + 1) := ⟨_, rfl⟩
      have hnow : OneNow w wc s0 t (.slice k1 k2 k3) nilRow (.slice m1 m2 m3) := by
        rw [ht]; exact ha.now (by rw [HRR.out]; exact lineStep_data L)
      have hto : t.to = at' + i + 1 := by rw [ht]; rfl
      have v0 : _ = some (Value.int .i64 (lineStep r).wrong.kind) := ha.x.cell 0
      have v1 : _ = some (str (lineStep r).wrong.text) := ha.x.cell 1
      have v2 : _ = some (Value.int .i64 (lineStep r).wrong.pass) := ha.x.cell 2
      have q0 : _ = some (Value.int .i64 t.cmd.verb) := (hnow.step).cell 0
      have q1 : _ = some (Value.slice k1 k2 k3) := (hnow.step).cell 1
      have q2 : _ = some (Value.int .u64 t.cmd.flags) := (hnow.step).cell 2
      have q3 : _ = some (Value.int .i64 t.cmd.exptime) := (hnow.step).cell 3
      have q4 : _ = some (Value.int .u64 t.cmd.token) := (hnow.step).cell 4
      have q5 : _ = some (Value.int .u64 t.cmd.delta) := (hnow.step).cell 5
      have q6 : _ = some (nilRow) := (hnow.step).cell 6
      have q7 : _ = some (Value.bool t.cmd.noreply) := (hnow.step).cell 7
      have q8 : _ = some (Value.bool t.cmd.large) := (hnow.step).cell 8
      have q9 : _ = some (Value.slice m1 m2 m3) := (hnow.step).cell 9
      have q10 : _ = some (str t.cmd.what) := (hnow.step).cell 10
      have q11 : _ = some (Value.int .i64 t.wrong.kind) := (hnow.step).cell 11
      have q12 : _ = some (str t.wrong.text) := (hnow.step).cell 12
      have q13 : _ = some (Value.int .i64 t.wrong.pass) := (hnow.step).cell 13
      have q14 : _ = some (Value.int .i64 t.frm) := (hnow.step).cell 14
      have q15 : _ = some (Value.int .i64 t.to) := hnow.step.cell 15
      have hto1 : t.to ≤ at' + i + 1 := by omega
      have hto2 : at' + i + 1 ≤ t.to := by omega
      have hcp := hnow.res.can 0 16 (by simp [stepArr])
      have f15 := hnow.step.frozen 15
      have HNOW := Lib.hid hnow
      have HT := Lib.hid ht
      have HTO := Lib.hid hto
      clear ha hnow hto ht
      obtain rfl := HRX.out
      have hok := lineOf_ok HRR.out.symm
      have u0 : wc.cell? ⟨x0, 0, none⟩ = some (Value.int .i64 0) := v0
      clear v0 v1 v2
      rw [show lineN (.ok c n) = n from rfl]
      obtain ⟨k, rfl⟩ := Int.eq_ofNat_of_zero_le (by omega : 0 ≤ n)
      have hk31 : k ≤ 2147483647 := by omega
      clear hok hn
      go_wp2_with fail
      rw [HTO.out]
      refine (HSK.out _ k HNOW.out.below (by omega)).mono ?_
      rintro e w5 ⟨v, gd, rfl, hv, hgn, hb5⟩
      obtain ⟨th, hth⟩ : ∃ th, th = (Sp.skipV (l.drop (at' + i + 1)) k).isSome := ⟨_, rfl⟩
      rw [← hth]
      have hn5 := HNOW.out.later hb5
      have hn6 : OneNow w (w5.setCell ⟨s0, 15, none⟩ (.int .i64 v)) s0 (t.span t.frm v) (.slice k1 k2 k3) nilRow (.slice m1 m2 m3) := hn5.put 15 _ (by kernel_rfl) rfl rfl rfl
      have hs5 : Below w.heap.size w w5 := hn5.below
      clear q0 q1 q2 q3 q4 q5 q6 q7 q8 q9 q10 q11 q12 q13 q14 q15 hcp f15 u0
      have q0 : _ = some (Value.int .i64 t.cmd.verb) := (hn5.step).cell 0
      have q1 : _ = some (Value.slice k1 k2 k3) := (hn5.step).cell 1
      have q2 : _ = some (Value.int .u64 t.cmd.flags) := (hn5.step).cell 2
      have q3 : _ = some (Value.int .i64 t.cmd.exptime) := (hn5.step).cell 3
      have q4 : _ = some (Value.int .u64 t.cmd.token) := (hn5.step).cell 4
      have q5 : _ = some (Value.int .u64 t.cmd.delta) := (hn5.step).cell 5
      have q6 : _ = some (nilRow) := (hn5.step).cell 6
      have q7 : _ = some (Value.bool t.cmd.noreply) := (hn5.step).cell 7
      have q8 : _ = some (Value.bool t.cmd.large) := (hn5.step).cell 8
      have q9 : _ = some (Value.slice m1 m2 m3) := (hn5.step).cell 9
      have q10 : _ = some (str t.cmd.what) := (hn5.step).cell 10
      have q11 : _ = some (Value.int .i64 t.wrong.kind) := (hn5.step).cell 11
      have q12 : _ = some (str t.wrong.text) := (hn5.step).cell 12
      have q13 : _ = some (Value.int .i64 t.wrong.pass) := (hn5.step).cell 13
      have q14 : _ = some (Value.int .i64 t.frm) := (hn5.step).cell 14
      have q15 : _ = some (Value.int .i64 t.to) := hn5.step.cell 15
      have hcp := hn5.res.can 0 16 (by simp [stepArr])
      have hcs1 := hn5.step.can 0 11 (by simp [stepArr])
      have hcs2 := hn5.step.can 11 3 (by simp [stepArr])
      have f15 := hn5.step.frozen 15
      have f8 := hn5.step.frozen 8
      have f6 := hn5.step.frozen 6
      have hne5 : w.heap.size ≠ s0 := by have := hn5.ne; omega
      have HN6 := Lib.hid hn6
      have HV5 := Lib.hid hv
      have HTH := Lib.hid hth
      have HGN := Lib.hid hgn
      have HB5 := Lib.hid hs5
      clear hn5 hn6 hv hth hgn hb5 hs5
      have hlk := hln
      have hn7 : OneNow w ((w5.setCell ⟨s0, 15, none⟩ (.int .i64 v)).setCell ⟨s0, 8, none⟩ (.bool true)) s0 { (t.span t.frm v) with cmd := { t.cmd with large := true } } (.slice k1 k2 k3) nilRow (.slice m1 m2 m3) := HN6.out.put 8 _ (by kernel_rfl) rfl rfl rfl
      have HN7 := Lib.hid hn7
      clear hn7
      go_wp2_with fail
      refine bodyPost_ret (one_results HN7.out.close.1 _ rfl rfl) rfl ?_
      rw [← HR.out]
      have hth := HTH.out
      cases hs : Sp.skipV (l.drop (at' + i + 1)) k with
      | none =>
        rw [hs] at hth; subst hth
        exact OnePost.no HN7.out (by rw [oneTail_blk, hs]; rfl)
      | some y =>
        rw [hs] at hth; subst hth
        refine OnePost.one HN7.out (t' := { cmd := { c with large := true } }) (n := i + 1 + y.1) (by rw [oneTail_blk, hs, Option.map_some, if_pos hlk]) ?_
        rw [HT.out, (HV5.out y.1 y.2 hs).1, show at' + i + 1 + y.1 = at' + (i + 1 + y.1) by omega]
        rfl
end Go.Proofs.YthgfjafnclklpaaGreatDoor
end
section
namespace Go.Proofs.YthgfjafnclklpaaGreatDoor
attribute [local go_sem ↓] Go.wp_at_zero Go.wp_at_succ
open Go.RowKit
attribute [-go_sem] storeVar
attribute [local go_sem] run_store_cmd run_store_wrong run_store_step storeVar_int' storeVar_bool' storeVar_slice' storeVar_func' canPut_new canPut_setCell canPut_drew canPut_alloc canPut_setCells cell_setCells_far World.frozen?_setCells

set_option maxHeartbeats 8000000 in
set_option maxRecDepth 100000 in
theorem one_blk {w : World} (hg : Glob w) {A : Option Addr} {cap : Nat} {l : Sp.Bs} (h : RowAt w A (bytesV l)) (hc : l.length ≤ cap) (hA : A = none → cap = 0) (hl : l.length ≤ 1000000000) {at' lim i : Nat} (hat : at' ≤ l.length)
    (hi : Sp.indexOf (l.drop at') 10 = some i) {c : Sp.CmdV} {n : Int} (hr0 : Sp.lineOf (Sp.chop ((l.drop at').take i)) = .ok c n) (hn : ¬ n < 0) (hln : ¬ (lim : Int) < n) :
    Calls Tryz.prog 68 #[.slice A l.length cap, .int .i64 at', .int .i64 lim] w (OnePost w at' (Sp.oneV lim (l.drop at'))) := by
  have hbl : (l.drop at').length = l.length - at' := by simp
  have hil := indexOf_in hi
  rw [hbl] at hil
  obtain ⟨b, o, hAe, hbw, hcells⟩ : ∃ b o, A = some ⟨b, o, none⟩ ∧ b < w.heap.size ∧ ∀ j u, (bytesV l)[j]? = some u → w.cell? ⟨b, o + j, none⟩ = some u := by
    rcases h with h0 | h0
    · have : l = [] := by simpa [bytesV] using h0
      rw [this] at hil; simp at hil
    · exact h0
  subst hAe
  have hrowD : RowAt w (some ⟨b, o + at', none⟩) (bytesV (l.drop at')) := by
    have := RowAt.stretch h at' l.length
    rwa [← bytesV_stretch, List.take_of_length_le (by simp)] at this
  have hrowL : RowAt w (some ⟨b, o + at', none⟩) (bytesV ((l.drop at').take i)) := by
    rw [bytesV_stretch]
    exact RowAt.stretch h at' i
  have hlen : ((l.drop at').take i).length = i := by rw [List.length_take, hbl]; omega
  have hidx : ∀ W : World, RowAt W (some ⟨b, o + at', none⟩) (bytesV (l.drop at')) → Calls Tryz.prog 114 #[.slice (some ⟨b, o + at', none⟩) (l.length - at') (cap - at'), .int .u8 10] W fun e w' => e = .returned (.int .i64 i) ∧ W = w' := fun W h1 => by
    have := index_any (cap := cap - at') h1 (fun h => by cases h) 10
    rwa [hbl, indexByte_of, hi] at this
  have hch : ∀ (W : World) (B : Option Addr) (d : Nat), RowAt W (some ⟨b, o + at', none⟩) (bytesV ((l.drop at').take i)) → RowAt W B (bytesV [13]) → Calls Tryz.prog 115 #[.slice (some ⟨b, o + at', none⟩) i (cap - at'), .slice B 1 d] W fun e w' =>
      e = .returned (.slice (some ⟨b, o + at', none⟩) (Sp.chop ((l.drop at').take i)).length (cap - at')) ∧ W = w' := fun W B d h1 h2 => by
    have := chop_any (cap := cap - at') (d := d) h1 h2 (by omega) (by omega) (fun h => by cases h)
    rwa [hlen] at this
  have hrowC : RowAt w (some ⟨b, o + at', none⟩) (bytesV (Sp.chop ((l.drop at').take i))) := by
    have e := (chop_take ((l.drop at').take i)).2
    have := hrowL.take (Sp.chop ((l.drop at').take i)).length
    rw [e]
    simpa [bytesV] using this
  obtain ⟨r, hr⟩ : ∃ r, r = Sp.lineOf (Sp.chop ((l.drop at').take i)) := ⟨_, rfl⟩
  have hrx := hr.trans hr0
  have HRX := Lib.hid hrx
  clear hrx hr0
  have hlf : ∀ W : World, Glob W → RowAt W (some ⟨b, o + at', none⟩) (bytesV (Sp.chop ((l.drop at').take i))) → Calls Tryz.prog 19 #[.slice (some ⟨b, o + at', none⟩) (Sp.chop ((l.drop at').take i)).length (cap - at')] W _ := fun W h1 h2 => line_flat h1 h2
  rw [← hr] at hlf
  have hskip : ∀ (W : World) (k : Nat), Below w.heap.size w W → k ≤ 9223372036854775807 → Calls Tryz.prog 116 #[.slice (some ⟨b, o, none⟩) l.length cap, .int .i64 ((at' + i + 1 : Nat) : Int), .int .i64 k] W (SkipPost W (at' + i + 1) (Sp.skipV (l.drop (at' + i + 1)) k)) := fun W k hb hk =>
    skip_any (h.below hb) hc (fun h => by cases h) hl (by omega) hk
  have hclone : ∀ (W : World) (k : Nat), Below w.heap.size w W → k ≤ l.length - (at' + i + 1) → Calls Tryz.prog 117 #[.slice (some ⟨b, o + (at' + i + 1), none⟩) k (cap - (at' + i + 1))] W fun e w' =>
      ∃ d1 d2 d3, e = .returned (.slice d1 d2 d3) ∧ w'.ownsRow w.heap.size 5 1 (.slice d1 d2 d3) ((l.drop (at' + i + 1)).take k).length (bytesV ((l.drop (at' + i + 1)).take k)) ∧ Below W.heap.size W w' := fun W k hb hk => by
    have e : ((l.drop (at' + i + 1)).take k).length = k := by rw [List.length_take, List.length_drop]; omega
    have hr : RowAt W (some ⟨b, o + (at' + i + 1), none⟩) (bytesV ((l.drop (at' + i + 1)).take k)) := by
      rw [bytesV_stretch]
      exact (h.below hb).stretch (at' + i + 1) k
    have := clone_any (cap := cap - (at' + i + 1)) hr (by omega)
    rw [e] at this ⊢
    refine this.mono ?_
    rintro e' w' ⟨v, rfl, h1, h2⟩
    obtain ⟨d1, d2, d3, rfl⟩ := own_slice h1
    exact ⟨d1, d2, d3, rfl, World.ownsRow.mono h1 hb.size, h2⟩
  have HCL := Lib.hid hclone
  clear hclone
  have kc := fun (w : World) (C : Array Value) (n c : Nat) => Lib.run_convert_bytes_const (P := Tryz.prog) w 35 5 C n c Tryz.underlying35 Tryz.underlying5
  have hone : Sp.oneV lim (l.drop at') = oneTail lim at' i l r := by
    have hd : (l.drop at').drop (i + 1) = l.drop (at' + i + 1) := by rw [List.drop_drop, Nat.add_assoc]
    rw [hr]
    unfold Sp.oneV oneTail
    rw [hi]
    dsimp only
    rw [hd]
    generalize Sp.lineOf (Sp.chop ((l.drop at').take i)) = q
    cases q <;> rfl
  rw [hone]
  have hsz0 : Below w.heap.size w (w.alloc (.cells (stepArr {} nilRow nilRow nilRow) 99)) := (Below.refl _ _).alloc (Nat.le_refl _) _
  have hs0 := Blk.new w 99 (stepArr {} nilRow nilRow nilRow)
  generalize Sp.chop ((l.drop at').take i) = L at hch hrowC hlf hr
  have HROWD := Lib.hid hrowD
  have HROWL := Lib.hid hrowL
  have HROWC := Lib.hid hrowC
  have HI := Lib.hid hidx
  have HCH := Lib.hid hch
  have HLF := Lib.hid hlf
  have HSK := Lib.hid hskip
  have HG := Lib.hid hg
  have HC := Lib.hid hcells
  have HS0 := Lib.hid hs0
  have HB0 := Lib.hid hsz0
  have HRR := Lib.hid hr
  clear h hrowD hrowL hrowC hidx hch hlf hskip hg hcells hs0 hsz0 hA hbl hlen hi hone hr
  generalize hR : OnePost w at' _ = R
  have HR := Lib.hid hR
  clear hR
  go_enter Tryz.func68, Tryz.ntmps68
  go_upto_region 4 with (refine (HI.out _ (HROWD.out.alloc _)).mono ?_; rintro e w1 ⟨rfl, hw1⟩; change (w.alloc (.cells (stepArr {} nilRow nilRow nilRow) 99)) = w1 at hw1; have hs1 := HS0.out; rw [hw1] at hs1; have hb1 := HB0.out; rw [hw1] at hb1; have HS1 := Lib.hid hs1; have HB1 := Lib.hid hb1; clear hs1 hb1 hw1)
  go_cut [9, 10, 11] (fun cb bn wb wx => OneMid w r cb bn wb wx)
  case first =>
    go_wp2_with fail
    rw [Nat.add_sub_cancel_left]
    refine (HCH.out _ _ _ (HROWL.out.below (HB1.out.alloc HB1.out.size _)) (const_row _ _ _ _)).mono ?_
    rintro e w2 ⟨rfl, hw2⟩
    have hb2 : Below w.heap.size w w2 := by rw [← hw2]; exact HB1.out.alloc HB1.out.size _
    have hs2 : Blk w2 w.heap.size 99 (stepArr {} nilRow nilRow nilRow) := by rw [← hw2]; exact Blk.alloc HS1.out _
    have HB2 := Lib.hid hb2
    have HS2 := Lib.hid hs2
    clear hw2 hb2 hs2
    go_wp2_with fail
    refine (HLF.out _ (HG.out.later HB2.out) (HROWC.out.below HB2.out)).mono ?_
    rintro e w9 ⟨k1, k2, k3, m1, m2, m3, rfl, hk, hm, hb⟩
    have hb9 := HB2.out.trans (hb.mono HB2.out.size)
    have hs9 := Blk.later HS2.out hb
    have hk9 := World.ownsRow.mono hk HB2.out.size
    have hm9 := World.ownsRow.mono hm HB2.out.size
    have HK := Lib.hid hk9
    have HM := Lib.hid hm9
    have HB9 := Lib.hid hb9
    have HS9 := Lib.hid hs9
    clear hk hm hb hb9 hs9 hk9 hm9
    go_wp2_with fail
    go_meet
    exact oneMid_new HB9.out HS9.out HK.out HM.out
  case rest =>
    obtain ⟨c0, x0, k1, k2, k3, m1, m2, m3, rfl, rfl, rfl, hv, hk, hm, hb⟩ := hcut
    have y0 : _ = some (Value.int .i64 (lineStep r).cmd.verb) := (hv.c).cell 0
    have y1 : _ = some (Value.slice k1 k2 k3) := (hv.c).cell 1
    have y2 : _ = some (Value.int .u64 (lineStep r).cmd.flags) := (hv.c).cell 2
    have y3 : _ = some (Value.int .i64 (lineStep r).cmd.exptime) := (hv.c).cell 3
    have y4 : _ = some (Value.int .u64 (lineStep r).cmd.token) := (hv.c).cell 4
    have y5 : _ = some (Value.int .u64 (lineStep r).cmd.delta) := (hv.c).cell 5
    have y6 : _ = some (nilRow) := (hv.c).cell 6
    have y7 : _ = some (Value.bool (lineStep r).cmd.noreply) := (hv.c).cell 7
    have y8 : _ = some (Value.bool (lineStep r).cmd.large) := (hv.c).cell 8
    have y9 : _ = some (Value.slice m1 m2 m3) := (hv.c).cell 9
    have y10 : _ = some (str (lineStep r).cmd.what) := (hv.c).cell 10
    have v0 : _ = some (Value.int .i64 (lineStep r).wrong.kind) := hv.x.cell 0
    have v1 : _ = some (str (lineStep r).wrong.text) := hv.x.cell 1
    have v2 : _ = some (Value.int .i64 (lineStep r).wrong.pass) := hv.x.cell 2
    have HV := Lib.hid hv
    have HK := Lib.hid hk
    have HM := Lib.hid hm
    have HB := Lib.hid hb
    clear hv hk hm hb
    go_upto_region 5 with (fail)
    have hse : ((at' : Int) + (i : Int) + 1) = ((at' + i + 1 : Nat) : Int) := by omega
    have HSE := Lib.hid hse
    clear hse
    go_cut [12] (fun sb wx => ∃ s0, sb = .pointer (some ⟨s0, 0, none⟩) ∧ OneAt w wc r at' (at' + i + 1) c0 x0 s0 k1 k2 k3 m1 m2 m3 wx)
    case first =>
      go_wp2_with fail
      go_meet
      rw [HSE.out]
      exact oneAt_new HV.out HK.out HM.out HB.out
    case rest =>
      obtain ⟨s0, rfl, ha⟩ := hcut
      obtain ⟨t, ht⟩ : ∃ t, t = (lineStep r).span at' (at' + i + 1) := ⟨_, rfl⟩
      have hnow : OneNow w wc s0 t (.slice k1 k2 k3) nilRow (.slice m1 m2 m3) := by
        rw [ht]; exact ha.now (by rw [HRR.out]; exact lineStep_data L)
      have hto : t.to = at' + i + 1 := by rw [ht]; rfl
      have v0 : _ = some (Value.int .i64 (lineStep r).wrong.kind) := ha.x.cell 0
      have v1 : _ = some (str (lineStep r).wrong.text) := ha.x.cell 1
      have v2 : _ = some (Value.int .i64 (lineStep r).wrong.pass) := ha.x.cell 2
      have q0 : _ = some (Value.int .i64 t.cmd.verb) := (hnow.step).cell 0
      have q1 : _ = some (Value.slice k1 k2 k3) := (hnow.step).cell 1
      have q2 : _ = some (Value.int .u64 t.cmd.flags) := (hnow.step).cell 2
      have q3 : _ = some (Value.int .i64 t.cmd.exptime) := (hnow.step).cell 3
      have q4 : _ = some (Value.int .u64 t.cmd.token) := (hnow.step).cell 4
      have q5 : _ = some (Value.int .u64 t.cmd.delta) := (hnow.step).cell 5
      have q6 : _ = some (nilRow) := (hnow.step).cell 6
      have q7 : _ = some (Value.bool t.cmd.noreply) := (hnow.step).cell 7
      have q8 : _ = some (Value.bool t.cmd.large) := (hnow.step).cell 8
      have q9 : _ = some (Value.slice m1 m2 m3) := (hnow.step).cell 9
      have q10 : _ = some (str t.cmd.what) := (hnow.step).cell 10
      have q11 : _ = some (Value.int .i64 t.wrong.kind) := (hnow.step).cell 11
      have q12 : _ = some (str t.wrong.text) := (hnow.step).cell 12
      have q13 : _ = some (Value.int .i64 t.wrong.pass) := (hnow.step).cell 13
      have q14 : _ = some (Value.int .i64 t.frm) := (hnow.step).cell 14
      have q15 : _ = some (Value.int .i64 t.to) := hnow.step.cell 15
      have hto1 : t.to ≤ at' + i + 1 := by omega
      have hto2 : at' + i + 1 ≤ t.to := by omega
      have hcp := hnow.res.can 0 16 (by simp [stepArr])
      have f15 := hnow.step.frozen 15
      have HNOW := Lib.hid hnow
      have HT := Lib.hid ht
      have HTO := Lib.hid hto
      clear ha hnow hto ht
      obtain rfl := HRX.out
      have hok := lineOf_ok HRR.out.symm
      have u0 : wc.cell? ⟨x0, 0, none⟩ = some (Value.int .i64 0) := v0
      clear v0 v1 v2
      rw [show lineN (.ok c n) = n from rfl]
      obtain ⟨k, rfl⟩ := Int.eq_ofNat_of_zero_le (by omega : 0 ≤ n)
      have hk31 : k ≤ 2147483647 := by omega
      clear hok hn
      go_wp2_with fail
      rw [HTO.out]
      refine (HSK.out _ k HNOW.out.below (by omega)).mono ?_
      rintro e w5 ⟨v, gd, rfl, hv, hgn, hb5⟩
      obtain ⟨th, hth⟩ : ∃ th, th = (Sp.skipV (l.drop (at' + i + 1)) k).isSome := ⟨_, rfl⟩
      rw [← hth]
      have hn5 := HNOW.out.later hb5
      have hn6 : OneNow w (w5.setCell ⟨s0, 15, none⟩ (.int .i64 v)) s0 (t.span t.frm v) (.slice k1 k2 k3) nilRow (.slice m1 m2 m3) := hn5.put 15 _ (by kernel_rfl) rfl rfl rfl
      have hs5 : Below w.heap.size w w5 := hn5.below
      clear q0 q1 q2 q3 q4 q5 q6 q7 q8 q9 q10 q11 q12 q13 q14 q15 hcp f15 u0
      have q0 : _ = some (Value.int .i64 t.cmd.verb) := (hn5.step).cell 0
      have q1 : _ = some (Value.slice k1 k2 k3) := (hn5.step).cell 1
      have q2 : _ = some (Value.int .u64 t.cmd.flags) := (hn5.step).cell 2
      have q3 : _ = some (Value.int .i64 t.cmd.exptime) := (hn5.step).cell 3
      have q4 : _ = some (Value.int .u64 t.cmd.token) := (hn5.step).cell 4
      have q5 : _ = some (Value.int .u64 t.cmd.delta) := (hn5.step).cell 5
      have q6 : _ = some (nilRow) := (hn5.step).cell 6
      have q7 : _ = some (Value.bool t.cmd.noreply) := (hn5.step).cell 7
      have q8 : _ = some (Value.bool t.cmd.large) := (hn5.step).cell 8
      have q9 : _ = some (Value.slice m1 m2 m3) := (hn5.step).cell 9
      have q10 : _ = some (str t.cmd.what) := (hn5.step).cell 10
      have q11 : _ = some (Value.int .i64 t.wrong.kind) := (hn5.step).cell 11
      have q12 : _ = some (str t.wrong.text) := (hn5.step).cell 12
      have q13 : _ = some (Value.int .i64 t.wrong.pass) := (hn5.step).cell 13
      have q14 : _ = some (Value.int .i64 t.frm) := (hn5.step).cell 14
      have q15 : _ = some (Value.int .i64 t.to) := hn5.step.cell 15
      have hcp := hn5.res.can 0 16 (by simp [stepArr])
      have hcs1 := hn5.step.can 0 11 (by simp [stepArr])
      have hcs2 := hn5.step.can 11 3 (by simp [stepArr])
      have f15 := hn5.step.frozen 15
      have f8 := hn5.step.frozen 8
      have f6 := hn5.step.frozen 6
      have hne5 : w.heap.size ≠ s0 := by have := hn5.ne; omega
      have HN6 := Lib.hid hn6
      have HV5 := Lib.hid hv
      have HTH := Lib.hid hth
      have HGN := Lib.hid hgn
      have HB5 := Lib.hid hs5
      clear hn5 hn6 hv hth hgn hb5 hs5
      have hlk := hln
      cases gd with
      | false =>
        go_upto_region 20 with (fail)
        refine wp_world (X := fun wx => OneNow w wx s0 (({ wrong := ⟨2, Sp.badChunk, -1⟩ } : Sp.StepV).span t.frm v) nilRow nilRow nilRow) HN6.out.toBad ?_
        · intro wy hn7
          clear q0 q1 q2 q3 q4 q5 q6 q7 q8 q9 q10 q11 q12 q13 q14 q15 hcp hcs1 hcs2 f15 f8 f6
          have q0 : _ = some (Value.int .i64 0) := (hn7.step).cell 0
          have q1 : _ = some (nilRow) := (hn7.step).cell 1
          have q2 : _ = some (Value.int .u64 0) := (hn7.step).cell 2
          have q3 : _ = some (Value.int .i64 0) := (hn7.step).cell 3
          have q4 : _ = some (Value.int .u64 0) := (hn7.step).cell 4
          have q5 : _ = some (Value.int .u64 0) := (hn7.step).cell 5
          have q6 : _ = some (nilRow) := (hn7.step).cell 6
          have q7 : _ = some (Value.bool false) := (hn7.step).cell 7
          have q8 : _ = some (Value.bool false) := (hn7.step).cell 8
          have q9 : _ = some (nilRow) := (hn7.step).cell 9
          have q10 : _ = some (str []) := (hn7.step).cell 10
          have q11 : _ = some (Value.int .i64 2) := (hn7.step).cell 11
          have q12 : _ = some (str Sp.badChunk) := (hn7.step).cell 12
          have q13 : _ = some (Value.int .i64 (-1)) := (hn7.step).cell 13
          have q14 : _ = some (Value.int .i64 t.frm) := hn7.step.cell 14
          have q15 : _ = some (Value.int .i64 v) := hn7.step.cell 15
          have hcp := hn7.res.can 0 16 (by simp [stepArr])
          have HN7 := Lib.hid hn7
          clear hn7
          go_wp2_with fail
          refine bodyPost_ret (one_results HN7.out.close.1 _ rfl rfl) rfl ?_
          rw [← HR.out]
          have hth := HTH.out
          cases hs : Sp.skipV (l.drop (at' + i + 1)) k with
          | none =>
            rw [hs] at hth; subst hth
            exact OnePost.no HN7.out (by rw [oneTail_blk, hs]; rfl)
          | some y =>
            rw [hs] at hth; subst hth
            refine OnePost.one HN7.out (t' := { wrong := ⟨2, Sp.badChunk, -1⟩ }) (n := i + 1 + y.1) (by rw [oneTail_blk, hs, Option.map_some, if_neg (show ¬ (lim : Int) < (k : Int) by omega), if_neg (by rw [← (HV5.out y.1 y.2 hs).2]; decide)]) ?_
            rw [HT.out, (HV5.out y.1 y.2 hs).1, show at' + i + 1 + y.1 = at' + (i + 1 + y.1) by omega]
            rfl
      | true =>
        obtain ⟨y, hs⟩ : ∃ y, Sp.skipV (l.drop (at' + i + 1)) k = some y := by
          cases hs : Sp.skipV (l.drop (at' + i + 1)) k with
          | none => have := HGN.out hs; cases this
          | some y => exact ⟨y, rfl⟩
        have hkl := (skipV_some (m := y.1) (g := y.2) hs).1
        rw [List.length_drop] at hkl
        have hy := HV5.out y.1 y.2 hs
        have hth := HTH.out
        rw [hs] at hth
        subst hth
        have HS := Lib.hid hs
        have HY := Lib.hid hy
        clear hs hy
        go_wp2_with fail
        refine (HCL.out _ k HN6.out.below (by omega)).mono ?_
        rintro e w6 ⟨d1, d2, d3, rfl, hd, hb6⟩
        have hn7 := HN6.out.later hb6
        have hn8 := hn7.putData hd rfl
        clear q0 q1 q2 q3 q4 q5 q6 q7 q8 q9 q10 q11 q12 q13 q14 q15 hcp hcs1 hcs2 f15 f8 f6
        have q6 : _ = some nilRow := hn7.step.cell 6
        have f6 := hn7.step.frozen 6
        have HN8 := Lib.hid hn8
        clear hn7 hn8 hd hb6
        go_upto_region 20 with (fail)
        refine wp_world (X := fun wx => OneNow w wx s0 { (t.span t.frm v) with cmd := { t.cmd with data := (l.drop (at' + i + 1)).take k } } (.slice k1 k2 k3) (.slice d1 d2 d3) (.slice m1 m2 m3)) HN8.out ?_
        intro wy hn9
        clear q6 f6
        have q0 : _ = some (Value.int .i64 t.cmd.verb) := (hn9.step).cell 0
        have q1 : _ = some (Value.slice k1 k2 k3) := (hn9.step).cell 1
        have q2 : _ = some (Value.int .u64 t.cmd.flags) := (hn9.step).cell 2
        have q3 : _ = some (Value.int .i64 t.cmd.exptime) := (hn9.step).cell 3
        have q4 : _ = some (Value.int .u64 t.cmd.token) := (hn9.step).cell 4
        have q5 : _ = some (Value.int .u64 t.cmd.delta) := (hn9.step).cell 5
        have q6 : _ = some (Value.slice d1 d2 d3) := (hn9.step).cell 6
        have q7 : _ = some (Value.bool t.cmd.noreply) := (hn9.step).cell 7
        have q8 : _ = some (Value.bool t.cmd.large) := (hn9.step).cell 8
        have q9 : _ = some (Value.slice m1 m2 m3) := (hn9.step).cell 9
        have q10 : _ = some (str t.cmd.what) := (hn9.step).cell 10
        have q11 : _ = some (Value.int .i64 t.wrong.kind) := (hn9.step).cell 11
        have q12 : _ = some (str t.wrong.text) := (hn9.step).cell 12
        have q13 : _ = some (Value.int .i64 t.wrong.pass) := (hn9.step).cell 13
        have q14 : _ = some (Value.int .i64 t.frm) := (hn9.step).cell 14
        have q15 : _ = some (Value.int .i64 v) := hn9.step.cell 15
        have hcp := hn9.res.can 0 16 (by simp [stepArr])
        have HN9 := Lib.hid hn9
        clear hn9
        go_wp2_with fail
        refine bodyPost_ret (one_results HN9.out.close.1 _ rfl rfl) rfl ?_
        rw [← HR.out]
        refine OnePost.one HN9.out (t' := { cmd := { c with data := (l.drop (at' + i + 1)).take k } }) (n := i + 1 + y.1) (by rw [oneTail_blk, HS.out, Option.map_some, if_neg (show ¬ (lim : Int) < (k : Int) by omega), if_pos HY.out.2.symm]) ?_
        rw [HT.out, HY.out.1, show at' + i + 1 + y.1 = at' + (i + 1 + y.1) by omega]
        rfl
end Go.Proofs.YthgfjafnclklpaaGreatDoor
end
section
section
namespace Go.Proofs.YthgfjafnclklpaaGreatDoor

/-- words.one tells the step at the head of the bytes -/
theorem one_any {w : World} (hg : Glob w) {A : Option Addr} {cap : Nat} {l : Sp.Bs} (h : RowAt w A (bytesV l)) (hc : l.length ≤ cap) (hA : A = none → cap = 0) (hl : l.length ≤ 1000000000) {at' lim : Nat} (hat : at' ≤ l.length) (hlim : lim ≤ 9223372036854775807) :
    Calls Tryz.prog 68 #[.slice A l.length cap, .int .i64 at', .int .i64 lim] w (OnePost w at' (Sp.oneV lim (l.drop at'))) := by
  cases hi : Sp.indexOf (l.drop at') 10 with
  | none =>
    have e : Sp.oneV lim (l.drop at') = none := by unfold Sp.oneV; rw [hi]
    rw [e]
    exact one_none h hc hA hat hi
  | some i =>
    cases hr : Sp.lineOf (Sp.chop ((l.drop at').take i)) with
    | bad x => exact one_bad hg h hc hA hl hat hlim hi hr
    | ok c n =>
      by_cases hn : n < 0
      · exact one_no hg h hc hA hl hat hi hr hn
      · by_cases hln : (lim : Int) < n
        · exact one_large hg h hc hA hl hat hi hr hn hln
        · exact one_blk hg h hc hA hl hat hi hr hn hln
end Go.Proofs.YthgfjafnclklpaaGreatDoor
end
section
namespace Go.Proofs.YthgfjafnclklpaaGreatDoor
attribute [local go_sem ↓] Go.wp_at_zero Go.wp_at_succ
open Go.RowKit

/-- where the loop of All stands -/
structure AllMid (w : World) (l : Sp.Bs) (lim : Nat) (at' : Nat) (outs : List Sp.StepV) (ov : Value) (wr : World) : Prop where
  le : at' ≤ l.length
  count : outs.length ≤ at'
  go : ∃ r, l.length - at' < r ∧ Sp.allV lim (l.length + 1) 0 l = (outs ++ (Sp.allV lim r at' (l.drop at')).1, (Sp.allV lim r at' (l.drop at')).2)
  mem : ∃ tcs bl, wr.ownsRow w.heap.size 99 16 ov outs.length tcs ∧ StepsMem wr outs tcs bl ∧ bl.Nodup ∧ ∀ k ∈ bl, w.heap.size ≤ k
  below : Below w.heap.size w wr

/-- what All leaves and tells -/
def AllPost (w : World) (x : List Sp.StepV × Nat) (e : Ending) (w' : World) : Prop :=
  ∃ A c tcs bl, e = .returned (.tuple #[.slice A x.1.length c, .int .i64 x.2]) ∧ w'.ownsRow w.heap.size 99 16 (.slice A x.1.length c) x.1.length tcs ∧ StepsMem w' x.1 tcs bl ∧ bl.Nodup ∧ (∀ k ∈ bl, w.heap.size ≤ k) ∧ Below w.heap.size w w'

theorem AllMid.stop {w wr W : World} {l : Sp.Bs} {lim at' : Nat} {outs : List Sp.StepV} {ov : Value} (h : AllMid w l lim at' outs ov wr) (hv : Sp.oneV lim (l.drop at') = none) (hb : Below wr.heap.size wr W) :
    AllPost w (Sp.allV lim (l.length + 1) 0 l) (.returned (.tuple #[ov, .int .i64 ((l.length : Int) - (at' : Int))])) W := by
  obtain ⟨r, hr, hgo⟩ := h.go
  obtain ⟨tcs, bl, ho, hs, hnd, hlo⟩ := h.mem
  have hle := h.le
  cases r with
  | zero => omega
  | succ r =>
    have e : Sp.allV lim (r + 1) at' (l.drop at') = ([], (l.drop at').length) := by unfold Sp.allV; rw [hv]
    rw [e, List.append_nil, List.length_drop] at hgo
    rw [hgo]
    obtain ⟨p, c, rfl⟩ := own_form ho
    refine ⟨p, c, tcs, bl, ?_, own_later ho hb, hs.same fun k hk => hb.block k (hs.lt k hk), hnd, hlo, h.below.trans (hb.mono h.below.size)⟩
    have e2 : (l.length : Int) - (at' : Int) = ((l.length - at' : Nat) : Int) := by omega
    rw [e2]

theorem cmdBlocks_nodup {w : World} {c : Sp.CmdV} {kv dv mv : Value} (h : CmdMem w c kv dv mv) : (cmdBlocks kv dv mv).Nodup := by
  have hone : ∀ v : Value, (rowBlock v).Nodup := fun v => by unfold rowBlock; cases v.ownBlock <;> simp
  have hap : ∀ {e e' : TypeId} {s s' m m' : Nat} {u u' : Value} {ys ys' : List Value}, w.ownsRow 0 e s u m ys → w.ownsRow 0 e' s' u' m' ys' → e ≠ e' → ∀ a ∈ rowBlock u, ∀ b ∈ rowBlock u', a ≠ b := by
    intro e e' s s' m m' u u' ys ys' h1 h2 hne a ha b hb e3
    subst e3
    rw [mem_rowBlock] at ha hb
    rcases own_own_apart h1 h2 hne with h0 | h0
    · rw [h0] at ha; cases ha
    · exact h0 (ha.trans hb.symm)
  unfold cmdBlocks
  refine List.nodup_append.2 ⟨hone _, List.nodup_append.2 ⟨hone _, hone _, hap h.data h.metas (by decide)⟩, fun a ha b hb => ?_⟩
  rcases List.mem_append.1 hb with hb | hb
  · exact hap h.keys h.data (by decide) a ha b hb
  · exact hap h.keys h.metas (by decide) a ha b hb

section
variable {w wr w1 W2 w3 : World} {l : Sp.Bs} {lim at' n : Nat} {outs : List Sp.StepV} {ov kv dv mv v3 : Value} {t t' : Sp.StepV} {tcs : List Value} {bl : List Nat}

/-- the memory behind the append -/
theorem AllMid.grown (h : AllMid w l lim at' outs ov wr) (hown : wr.ownsRow w.heap.size 99 16 ov outs.length tcs) (hst : StepsMem wr outs tcs bl) (hnd : bl.Nodup) (hlo : ∀ k ∈ bl, w.heap.size ≤ k)
    (hcm : CmdMem w1 t.cmd kv dv mv) (hge : ∀ k ∈ cmdBlocks kv dv mv, wr.heap.size ≤ k) (hb1 : Below wr.heap.size wr w1) (hb2 : Below w1.heap.size w1 W2) (hg : W2.grownBy w3 ov.ownBlock)
    (ho3 : w3.ownsRow w.heap.size 99 16 v3 (outs.length + 1) (tcs ++ (stepArr t kv dv mv).toList)) :
    (∃ tcs bl, w3.ownsRow w.heap.size 99 16 v3 (outs ++ [t]).length tcs ∧ StepsMem w3 (outs ++ [t]) tcs bl ∧ bl.Nodup ∧ ∀ k ∈ bl, w.heap.size ≤ k) ∧ Below w.heap.size w w3 := by
  have hb12 : Below wr.heap.size wr W2 := hb1.trans (hb2.mono hb1.size)
  have hap := stepsBlocks_apart hst hown
  have hsz := h.below.size
  have s1 : ∀ k ∈ bl, w3.heap[k]? = wr.heap[k]? := fun k hk =>
    (hg.block k (Nat.lt_of_lt_of_le (hst.lt k hk) hb12.size) (fun e => hap k hk e.symm)).trans (hb12.block k (hst.lt k hk))
  have s2 : ∀ k ∈ cmdBlocks kv dv mv, w3.heap[k]? = w1.heap[k]? := fun k hk =>
    (hg.block k (Nat.lt_of_lt_of_le (hcm.lt k hk) hb2.size) (fun e => by have := own_lt hown k (mem_rowBlock.2 e.symm); have := hge k hk; omega)).trans (hb2.block k (hcm.lt k hk))
  refine ⟨⟨_, bl ++ cmdBlocks kv dv mv, ?_, (hst.same s1).snoc (hcm.same s2), List.nodup_append.2 ⟨hnd, cmdBlocks_nodup hcm, fun a ha b hb => ?_⟩, fun k hk => ?_⟩, ?_⟩
  · rw [List.length_append, ← stepArr_list]
    exact ho3
  · have := hst.lt a ha
    have := hge b hb
    omega
  · rcases List.mem_append.1 hk with hk | hk
    · exact hlo k hk
    · exact Nat.le_trans hsz (hge k hk)
  · exact (h.below.trans (hb12.mono hsz)).grown hg (Nat.le_trans hsz hb12.size) (fun k hk => own_ge hown k (mem_rowBlock.2 hk))

theorem AllMid.on (h : AllMid w l lim at' outs ov wr) (hv : Sp.oneV lim (l.drop at') = some (t', n)) (ht : t = t'.span at' (at' + n)) (hq : t.cmd.verb ≠ 18)
    (hm : (∃ tcs bl, w3.ownsRow w.heap.size 99 16 v3 (outs ++ [t]).length tcs ∧ StepsMem w3 (outs ++ [t]) tcs bl ∧ bl.Nodup ∧ ∀ k ∈ bl, w.heap.size ≤ k) ∧ Below w.heap.size w w3) :
    AllMid w l lim (at' + n) (outs ++ [t]) v3 w3 := by
  subst ht
  obtain ⟨r, hr, hgo⟩ := h.go
  have hn := oneV_in hv
  rw [List.length_drop] at hn
  have hc := h.count
  have hle := h.le
  refine ⟨by omega, by simp; omega, ?_, hm.1, hm.2⟩
  cases r with
  | zero => omega
  | succ r =>
    refine ⟨r, by omega, ?_⟩
    have hq' : t'.cmd.verb ≠ 18 := hq
    have e : Sp.allV lim (r + 1) at' (l.drop at') = (t'.span at' (at' + n) :: (Sp.allV lim r (at' + n) (l.drop (at' + n))).1, (Sp.allV lim r (at' + n) (l.drop (at' + n))).2) := by
      conv => lhs; unfold Sp.allV
      rw [hv]
      dsimp only
      rw [if_neg hq', List.drop_drop]
    rw [hgo, e]
    simp

theorem AllMid.quit (h : AllMid w l lim at' outs ov wr) (hv : Sp.oneV lim (l.drop at') = some (t', n)) (ht : t = t'.span at' (at' + n)) (hq : t.cmd.verb = 18)
    (hm : (∃ tcs bl, w3.ownsRow w.heap.size 99 16 v3 (outs ++ [t]).length tcs ∧ StepsMem w3 (outs ++ [t]) tcs bl ∧ bl.Nodup ∧ ∀ k ∈ bl, w.heap.size ≤ k) ∧ Below w.heap.size w w3) :
    AllPost w (Sp.allV lim (l.length + 1) 0 l) (.returned (.tuple #[v3, .int .i64 0])) w3 := by
  subst ht
  obtain ⟨r, hr, hgo⟩ := h.go
  have hn := oneV_in hv
  rw [List.length_drop] at hn
  cases r with
  | zero => omega
  | succ r =>
    have hq' : t'.cmd.verb = 18 := hq
    have e : Sp.allV lim (r + 1) at' (l.drop at') = ([t'.span at' (at' + n)], 0) := by
      unfold Sp.allV
      rw [hv]
      dsimp only
      rw [if_pos hq']
    rw [hgo, e]
    obtain ⟨⟨tcs, bl, ho, hs, hnd, hlo⟩, hb⟩ := hm
    obtain ⟨p, c, rfl⟩ := own_form ho
    exact ⟨p, c, tcs, bl, rfl, ho, hs, hnd, hlo, hb⟩
end

attribute [-go_sem] storeVar
attribute [local go_sem] run_store_cmd run_store_wrong run_store_step storeVar_int' storeVar_bool' storeVar_slice' storeVar_func' canPut_new canPut_setCell canPut_drew canPut_alloc canPut_setCells cell_setCells_far World.frozen?_setCells

set_option maxHeartbeats 8000000 in
set_option maxRecDepth 100000 in
theorem all_any {w : World} (hg : Glob w) {A : Option Addr} {cap : Nat} {l : Sp.Bs} (h : RowAt w A (bytesV l)) (hc : l.length ≤ cap) (hA : A = none → cap = 0) (hl : l.length ≤ 100000000) {limit : Int} (hlim : limit ≤ 9223372036854775807) :
    Calls Tryz.prog 27 #[.slice A l.length cap, .int .i64 limit] w (AllPost w (Sp.allV limit.toNat (l.length + 1) 0 l)) := by
  obtain ⟨i0, hi, hz0, hz1, hz2⟩ := info_parts info_step
  generalize hR : AllPost w (Sp.allV limit.toNat (l.length + 1) 0 l) = R
  have hstart : AllMid w l limit.toNat 0 [] nilRow w := ⟨Nat.zero_le _, Nat.le_refl _, ⟨l.length + 1, by omega, by simp⟩, ⟨[], [], World.ownsRow_nil _ _ _ 16, ⟨rfl, rfl⟩, List.nodup_nil, by simp⟩, Below.refl _ _⟩
  have hmx : (limit.toNat : Int) = max limit 0 := by omega
  have hone := fun (W : World) (a : Nat) (hW : Glob W) (hb : Below w.heap.size w W) (ha : a ≤ l.length) => one_any hW (h.below hb) hc hA (by omega) ha (lim := limit.toNat) (by omega)
  have HONE := Lib.hid hone
  have HS := Lib.hid hstart
  have HR := Lib.hid hR
  have HG := Lib.hid hg
  have HMX := Lib.hid hmx
  clear hR hstart hone hg h hA hmx
  go_enter Tryz.func27, Tryz.ntmps27
  go_wp2_with fail
  go_loopw [6, 7] (fun o a wr => ∃ (at' : Nat) (outs : List Sp.StepV), a = .int .i64 at' ∧ AllMid w l limit.toNat at' outs o wr) (fun _ a _ => l.length - (intOf a).toNat)
  case atStart => exact ⟨0, [], rfl, HS.out⟩
  case round =>
    obtain ⟨at', outs, rfl, hm⟩ := hrel
    have hgr := HG.out.later hm.below
    have ho := HONE.out wr at' hgr hm.below hm.le
    rw [HMX.out] at ho
    have HM := Lib.hid hm
    have HO := Lib.hid ho
    have hle := hm.le
    clear hm hgr ho
    go_wp2_with fail
    refine HO.out.mono ?_
    rintro e w1 ⟨t, kv, dv, mv, rfl, hcm, hge, hsp, hb1⟩
    obtain ⟨k1, k2, k3, rfl⟩ := own_slice hcm.keys
    obtain ⟨d1, d2, d3, rfl⟩ := own_slice hcm.data
    obtain ⟨m1, m2, m3, rfl⟩ := own_slice hcm.metas
    cases hv : Sp.oneV limit.toNat (l.drop at') with
    | none =>
      rw [hv] at hsp
      have HB1 := Lib.hid hb1
      have HV := Lib.hid hv
      clear hcm hge hsp hb1 hv
      dsimp only [Option.isSome]
      go_wp2_with fail
      have hfin := HM.out.stop HV.out (Below.setCells (Nat.le_trans HB1.out.size (Nat.le_refl _)) (stepArr t (.slice k1 k2 k3) (.slice d1 d2 d3) (.slice m1 m2 m3)).toList 0 (HB1.out.alloc HB1.out.size (.cells (stepArr {} nilRow nilRow nilRow) 99)))
      rw [HR.out] at hfin
      exact hfin
    | some y =>
      obtain ⟨t', n⟩ := y
      have ht := hsp t' n hv
      have hn := oneV_in hv
      rw [List.length_drop] at hn
      rw [hv] at hsp
      have HB1 := Lib.hid hb1
      have HV := Lib.hid hv
      have HCM := Lib.hid hcm
      have HGE := Lib.hid hge
      have HT := Lib.hid ht
      clear hcm hge hsp hb1 hv ht
      dsimp only [Option.isSome]
      go_upto_region 4 with (fail)
      refine wp_world (X := fun wx => Blk wx w1.heap.size 99 (stepArr t (.slice k1 k2 k3) (.slice d1 d2 d3) (.slice m1 m2 m3)) ∧ Below w1.heap.size w1 wx) ⟨Blk.putStep (Blk.new w1 99 (stepArr {} nilRow nilRow nilRow)) _ _ _ _, Below.setCells (Nat.le_refl _) _ 0 ((Below.refl _ _).alloc (Nat.le_refl _) _)⟩ ?_
      intro wx hx
      obtain ⟨hbx, hbw⟩ := hx
      have q0 : _ = some (Value.int .i64 t.cmd.verb) := (hbx).cell 0
      have q1 : _ = some (Value.slice k1 k2 k3) := (hbx).cell 1
      have q2 : _ = some (Value.int .u64 t.cmd.flags) := (hbx).cell 2
      have q3 : _ = some (Value.int .i64 t.cmd.exptime) := (hbx).cell 3
      have q4 : _ = some (Value.int .u64 t.cmd.token) := (hbx).cell 4
      have q5 : _ = some (Value.int .u64 t.cmd.delta) := (hbx).cell 5
      have q6 : _ = some (Value.slice d1 d2 d3) := (hbx).cell 6
      have q7 : _ = some (Value.bool t.cmd.noreply) := (hbx).cell 7
      have q8 : _ = some (Value.bool t.cmd.large) := (hbx).cell 8
      have q9 : _ = some (Value.slice m1 m2 m3) := (hbx).cell 9
      have q10 : _ = some (str t.cmd.what) := (hbx).cell 10
      have q11 : _ = some (Value.int .i64 t.wrong.kind) := (hbx).cell 11
      have q12 : _ = some (str t.wrong.text) := (hbx).cell 12
      have q13 : _ = some (Value.int .i64 t.wrong.pass) := (hbx).cell 13
      have q14 : _ = some (Value.int .i64 t.frm) := (hbx).cell 14
      have q15 : _ = some (Value.int .i64 t.to) := (hbx).cell 15
      have HBX := Lib.hid hbx
      have HBW := Lib.hid hbw
      clear hbx hbw
      obtain ⟨tcs, bl, hown, hst, hnd, hlo⟩ := HM.out.mem
      have hbx1 : Below wr.heap.size wr wx := HB1.out.trans (HBW.out.mono HB1.out.size)
      have ho2 := own_later hown (hbx1.alloc hbx1.size (.cells (stepArr t (.slice k1 k2 k3) (.slice d1 d2 d3) (.slice m1 m2 m3)) 99))
      have hsw : w.heap.size ≤ wx.heap.size := Nat.le_trans HM.out.below.size hbx1.size
      have hcnt := HM.out.count
      have HO2 := Lib.hid ho2
      have HST := Lib.hid hst
      have HBX1 := Lib.hid hbx1
      have HOWN := Lib.hid hown
      have HND := Lib.hid hnd
      have HLO := Lib.hid hlo
      have hovlt : ∀ k, u6.ownBlock = some k → k < wr.heap.size := fun k hk => own_lt HOWN.out k (mem_rowBlock.2 hk)
      have hne : some w1.heap.size ≠ u6.ownBlock := fun e => by have := hovlt _ e.symm; have := HB1.out.size; omega
      have HNE := Lib.hid hne
      obtain ⟨vb, hvb⟩ : ∃ vb : Nat, vb = t.cmd.verb := ⟨_, rfl⟩
      have HVB := Lib.hid hvb
      clear ho2 hst hbx1 hown hnd hlo hovlt hne hvb
      by_cases hq : vb = 18
      · subst hq
        go_upto_region 6 with (fail)
        go_wp2_with (at_builtin; refine wpList_append_put rfl (.tmp 25) (.tmp 27) _ rfl w.heap.size 99 i0 _ 16 184 Tryz.underlying69 hi hz0 hz1 hz2 rfl (by decide) u6 outs.length tcs rfl HO2.out ⟨wx.heap.size, 0, none⟩ 1 1 (stepArr t (.slice k1 k2 k3) (.slice d1 d2 d3) (.slice m1 m2 m3)).toList rfl rfl ?_ ?_ ?_ ?_ ?_ ?_ ?_; exact cells_new _ _ _; (intro u hu; simp [stepArr] at hu; rcases hu with rfl | rfl | rfl | rfl | rfl | rfl | rfl | rfl | rfl | rfl | rfl | rfl | rfl | rfl | rfl | rfl <;> rfl); decide; (unfold maxLen; omega); omega; (simp; omega); intro g3 cap3 w3 hown3 hg3 hat3; have hm3 := AllMid.grown HM.out HOWN.out HST.out HND.out HLO.out HCM.out HGE.out HB1.out (HBW.out.alloc HBW.out.size _) hg3 hown3; have hbx3 := (HBX.out.alloc _).grown hg3 HNE.out; have q15 : w3.cell? ⟨w1.heap.size, 15, none⟩ = some (Value.int .i64 t.to) := hbx3.cell 15; have q0 : w3.cell? ⟨w1.heap.size, 0, none⟩ = some (Value.int .i64 18) := (hbx3.cell 0).trans (congrArg (fun x : Nat => some (Value.int .i64 x)) HVB.out.symm); have Hm3 := Lib.hid hm3; clear hown3 hg3 hat3 hm3 hbx3)
        have hfin := HM.out.quit HV.out HT.out HVB.out.symm Hm3.out
        rw [HR.out] at hfin
        exact hfin
      · have hq2 : ((vb : Int) == 18) = false := by simp; omega
        have HQ := Lib.hid hq
        clear hq
        go_upto_region 6 with (fail)
        go_wp2_with (at_builtin; refine wpList_append_put rfl (.tmp 25) (.tmp 27) _ rfl w.heap.size 99 i0 _ 16 184 Tryz.underlying69 hi hz0 hz1 hz2 rfl (by decide) u6 outs.length tcs rfl HO2.out ⟨wx.heap.size, 0, none⟩ 1 1 (stepArr t (.slice k1 k2 k3) (.slice d1 d2 d3) (.slice m1 m2 m3)).toList rfl rfl ?_ ?_ ?_ ?_ ?_ ?_ ?_; exact cells_new _ _ _; (intro u hu; simp [stepArr] at hu; rcases hu with rfl | rfl | rfl | rfl | rfl | rfl | rfl | rfl | rfl | rfl | rfl | rfl | rfl | rfl | rfl | rfl <;> rfl); decide; (unfold maxLen; omega); omega; (simp; omega); intro g3 cap3 w3 hown3 hg3 hat3; have hm3 := AllMid.grown HM.out HOWN.out HST.out HND.out HLO.out HCM.out HGE.out HB1.out (HBW.out.alloc HBW.out.size _) hg3 hown3; have hbx3 := (HBX.out.alloc _).grown hg3 HNE.out; have q15 : w3.cell? ⟨w1.heap.size, 15, none⟩ = some (Value.int .i64 t.to) := hbx3.cell 15; have q0 : w3.cell? ⟨w1.heap.size, 0, none⟩ = some (Value.int .i64 vb) := (hbx3.cell 0).trans (congrArg (fun x : Nat => some (Value.int .i64 x)) HVB.out.symm); have Hm3 := Lib.hid hm3; clear hown3 hg3 hat3 hm3 hbx3)
        have hto : t.to = at' + n := by rw [HT.out]; rfl
        exact ⟨⟨at' + n, outs ++ [t], by rw [hto], HM.out.on HV.out HT.out (by rw [← HVB.out]; exact HQ.out) Hm3.out⟩, by show l.length - (t.to : Int).toNat < l.length - (at' : Int).toNat; omega⟩
end Go.Proofs.YthgfjafnclklpaaGreatDoor
end
end
