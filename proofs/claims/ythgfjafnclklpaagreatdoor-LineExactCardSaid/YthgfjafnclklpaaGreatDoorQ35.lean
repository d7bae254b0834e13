/- Walk of package words: one. Walk of package words: one, where a line is whole. Walk of package words: one, where a line is whole: it is bad. Walk of package words: one, where a line is whole: no block. Walk of package words: one, where a line is whole: a block too large. Walk of package words: one, where a line is whole: a block. Walk of package words: one, joined. Walk of package words: All. -/
import Derived.Test.YthgfjafnclklpaaGreatDoorA1
import Derived.Test.YthgfjafnclklpaaGreatDoorG2
import Derived.Test.YthgfjafnclklpaaGreatDoorAp
import Derived.Deep.CutRange
import Derived.Deep.DeepCutAuto
section
section
namespace Go.Proofs.YthgfjafnclklpaaGreatDoor
attribute [local go_sem ↓] Go.wp_at_zero Go.wp_at_succ
open Go.RowKit

theorem canPut_new (w : World) (cs : Array Value) (e : TypeId) (b n : Nat) (hb : b = w.heap.size) : canPut (w.alloc (.cells cs e)) b 0 n = decide (n ≤ cs.size) := by
  subst hb
  unfold canPut
  rw [Bool.eq_iff_iff, List.all_eq_true, decide_eq_true_eq]
  have hf := fun j => (Blk.new w e cs).frozen j
  have hc := fun j => (Blk.new w e cs).cell j
  simp only [hc, hf, Nat.zero_add, Bool.not_false, Bool.and_true, List.mem_range]
  constructor
  · intro h
    by_cases hn : n = 0
    · omega
    · have := h (n - 1) (by omega)
      simp at this; omega
  · intro h j hj
    simp; omega

/-- what one tells -/
def OnePost (w : World) (at' : Nat) (r : Option (Sp.StepV × Nat)) (e : Ending) (w' : World) : Prop :=
  ∃ t kv dv mv, e = .returned (.tuple #[stepV t kv dv mv, .bool r.isSome]) ∧ CmdMem w' t.cmd kv dv mv ∧ (∀ k ∈ cmdBlocks kv dv mv, w.heap.size ≤ k) ∧
    (∀ t' n, r = some (t', n) → t = t'.span at' (at' + n)) ∧ Below w.heap.size w w'

/-- the variables of one, where its line has been read -/
structure OneVars (w : World) (cb wb rb : Nat) (c : Sp.CmdV) (kv mv : Value) (x : Sp.WrongV) : Prop where
  c : Blk w cb 38 (cmdArr c kv nilRow mv)
  x : Blk w wb 59 (wrongArr x)
  r : Blk w rb 99 (stepArr {} nilRow nilRow nilRow)

attribute [-go_sem] storeVar
attribute [local go_sem] run_store_cmd run_store_wrong run_store_step storeVar_int' storeVar_bool' storeVar_slice' storeVar_func' canPut_new canPut_setCell canPut_drew canPut_alloc canPut_setCells cell_setCells_far World.frozen?_setCells

/-- what becomes of a line that was read -/
def oneTail (lim at' i : Nat) (l : Sp.Bs) : Sp.LineR → Option (Sp.StepV × Nat)
  | .bad x => if 0 ≤ x.pass ∧ x.pass ≤ lim then (Sp.skipV (l.drop (at' + i + 1)) x.pass.toNat).map fun y => ({ wrong := x }, i + 1 + y.1) else some ({ wrong := x }, i + 1)
  | .ok c n => if n < 0 then some ({ cmd := c }, i + 1) else (Sp.skipV (l.drop (at' + i + 1)) n.toNat).map fun y =>
      (if lim < n then { cmd := { c with large := true } } else if y.2 then { cmd := { c with data := (l.drop (at' + i + 1)).take n.toNat } } else { wrong := ⟨2, Sp.badChunk, -1⟩ }, i + 1 + y.1)


/-- the step as it stands -/
structure OneNow (w W : World) (s0 : Nat) (t : Sp.StepV) (kv dv mv : Value) : Prop where
  step : Blk W s0 99 (stepArr t kv dv mv)
  res : Blk W w.heap.size 99 (stepArr {} nilRow nilRow nilRow)
  mem : CmdMem W t.cmd kv dv mv
  ge : ∀ k ∈ cmdBlocks kv dv mv, w.heap.size ≤ k
  below : Below w.heap.size w W
  ne : w.heap.size < s0

/-- a command's lists lie apart from a step's block -/
theorem CmdMem.apart {W : World} {c : Sp.CmdV} {kv dv mv : Value} (h : CmdMem W c kv dv mv) {g : Nat} {cs : Array Value} (hb : Blk W g 99 cs) : ∀ k ∈ cmdBlocks kv dv mv, k ≠ g := by
  intro k hk e
  subst e
  simp only [cmdBlocks, List.mem_append, mem_rowBlock] at hk
  rcases hk with hk | hk | hk
  · exact own_apart h.keys hb (by decide) hk
  · exact own_apart h.data hb (by decide) hk
  · exact own_apart h.metas hb (by decide) hk

section
variable {w W W' : World} {s0 : Nat} {t t' : Sp.StepV} {kv dv mv dv' : Value}
theorem OneNow.later (h : OneNow w W s0 t kv dv mv) (hb : Below W.heap.size W W') : OneNow w W' s0 t kv dv mv :=
  ⟨Blk.later h.step hb, Blk.later h.res hb, h.mem.same fun k hk => hb.block k (h.mem.lt k hk), h.ge, h.below.trans (hb.mono h.below.size), h.ne⟩
theorem OneNow.put (h : OneNow w W s0 t kv dv mv) (i : Nat) (u : Value) (hc : (stepArr t kv dv mv).setIfInBounds i u = stepArr t' kv dv mv) (h1 : t'.cmd.keys = t.cmd.keys) (h2 : t'.cmd.data = t.cmd.data) (h3 : t'.cmd.metas = t.cmd.metas) :
    OneNow w (W.setCell ⟨s0, i, none⟩ u) s0 t' kv dv mv := by
  have hne := h.ne
  have hm := h.mem.same (w' := W.setCell ⟨s0, i, none⟩ u) fun k hk => Below.heap_setCell W ⟨s0, i, none⟩ u k (h.mem.apart h.step k hk)
  refine ⟨by rw [← hc]; exact Blk.put h.step i u, Blk.far h.res (by show w.heap.size ≠ s0; omega) u, ⟨by rw [h1]; exact hm.keys, by rw [h2]; exact hm.data, by rw [h3]; exact hm.metas⟩, h.ge, h.below.setCell (p := ⟨s0, i, none⟩) (by show w.heap.size ≤ s0; omega) u, hne⟩
/-- the block's bytes are kept -/
theorem OneNow.putData (h : OneNow w W s0 t kv nilRow mv) {d : Sp.Bs} (hd : W.ownsRow w.heap.size 5 1 dv' d.length (bytesV d)) (ht' : t' = { t with cmd := { t.cmd with data := d } }) :
    OneNow w (W.setCell ⟨s0, 6, none⟩ dv') s0 t' kv dv' mv := by
  have hne := h.ne
  subst ht'
  have hm := h.mem.same (w' := W.setCell ⟨s0, 6, none⟩ dv') fun k hk => Below.heap_setCell W ⟨s0, 6, none⟩ dv' k (h.mem.apart h.step k hk)
  have hd' : (W.setCell ⟨s0, 6, none⟩ dv').ownsRow w.heap.size 5 1 dv' d.length (bytesV d) := own_same hd fun k hk => Below.heap_setCell W ⟨s0, 6, none⟩ dv' k (by
    intro e; subst e; exact own_apart hd h.step (by decide) (mem_rowBlock.1 hk))
  refine ⟨?_, Blk.far h.res (by show w.heap.size ≠ s0; omega) _, ⟨hm.keys, World.ownsRow.mono hd' (Nat.zero_le _), hm.metas⟩, ?_, h.below.setCell (p := ⟨s0, 6, none⟩) (by show w.heap.size ≤ s0; omega) _, hne⟩
  · have := Blk.put h.step 6 dv'
    rwa [show (stepArr t kv nilRow mv).setIfInBounds 6 dv' = stepArr { t with cmd := { t.cmd with data := d } } kv dv' mv from by kernel_rfl] at this
  · intro k hk
    simp only [cmdBlocks, List.mem_append] at hk
    rcases hk with hk | hk | hk
    · exact h.ge k (by simp [cmdBlocks, hk])
    · exact own_ge hd k hk
    · exact h.ge k (by simp [cmdBlocks, hk])
/-- the step is given up: another one stands there -/
theorem OneNow.bad (h : OneNow w W s0 t kv dv mv) (hb : Blk W' s0 99 (stepArr t' nilRow nilRow nilRow)) (ht : t'.cmd = {}) (hr : Blk W' w.heap.size 99 (stepArr {} nilRow nilRow nilRow)) (hw : Below w.heap.size w W') :
    OneNow w W' s0 t' nilRow nilRow nilRow :=
  ⟨hb, hr, by rw [ht]; exact CmdMem.zero W', by simp [cmdBlocks, rowBlock_nil], hw, h.ne⟩
/-- the result is stored -/
theorem OneNow.close (h : OneNow w W s0 t kv dv mv) : Blk (W.setCells w.heap.size 0 (stepArr t kv dv mv).toList) w.heap.size 99 (stepArr t kv dv mv) ∧
    CmdMem (W.setCells w.heap.size 0 (stepArr t kv dv mv).toList) t.cmd kv dv mv ∧ Below w.heap.size w (W.setCells w.heap.size 0 (stepArr t kv dv mv).toList) :=
  ⟨Blk.putStep h.res _ _ _ _, h.mem.same fun k hk => heap_setCells (h.mem.apart h.res k hk) _ 0, Below.setCells (Nat.le_refl _) _ 0 h.below⟩
/-- what one tells: a step; none -/
theorem OnePost.one (h : OneNow w W s0 t kv dv mv) {at' n : Nat} {r : Option (Sp.StepV × Nat)} (hr : r = some (t', n)) (ht : t = t'.span at' (at' + n)) :
    OnePost w at' r (.returned (.tuple #[stepV t kv dv mv, .bool true])) (W.setCells w.heap.size 0 (stepArr t kv dv mv).toList) := by
  subst hr
  obtain ⟨_, h2, h3⟩ := h.close
  refine ⟨t, kv, dv, mv, rfl, h2, h.ge, ?_, h3⟩
  intro t2 n2 e
  rw [Option.some.injEq, Prod.mk.injEq] at e
  rw [← e.1, ← e.2]
  exact ht
theorem OnePost.no (h : OneNow w W s0 t kv dv mv) {at' : Nat} {r : Option (Sp.StepV × Nat)} (hr : r = none) :
    OnePost w at' r (.returned (.tuple #[stepV t kv dv mv, .bool false])) (W.setCells w.heap.size 0 (stepArr t kv dv mv).toList) := by
  subst hr
  exact ⟨t, kv, dv, mv, rfl, h.close.2.1, h.ge, fun _ _ e => (by cases e), h.close.2.2⟩
end
end Go.Proofs.YthgfjafnclklpaaGreatDoor
end
section
namespace Go.Proofs.YthgfjafnclklpaaGreatDoor
attribute [local go_sem ↓] Go.wp_at_zero Go.wp_at_succ
open Go.RowKit
attribute [-go_sem] storeVar
attribute [local go_sem] run_store_cmd run_store_wrong run_store_step storeVar_int' storeVar_bool' storeVar_slice' storeVar_func' canPut_new canPut_setCell canPut_drew canPut_alloc canPut_setCells cell_setCells_far World.frozen?_setCells

theorem oneTail_in {lim at' i : Nat} {l : Sp.Bs} {x : Sp.WrongV} (h : 0 ≤ x.pass ∧ x.pass ≤ (lim : Int)) : oneTail lim at' i l (.bad x) = (Sp.skipV (l.drop (at' + i + 1)) x.pass.toNat).map fun y => ({ wrong := x }, i + 1 + y.1) := if_pos h
theorem oneTail_out {lim at' i : Nat} {l : Sp.Bs} {x : Sp.WrongV} (h : ¬ (0 ≤ x.pass ∧ x.pass ≤ (lim : Int))) : oneTail lim at' i l (.bad x) = some ({ wrong := x }, i + 1) := if_neg h
theorem oneTail_no {lim at' i : Nat} {l : Sp.Bs} {c : Sp.CmdV} {n : Int} (h : n < 0) : oneTail lim at' i l (.ok c n) = some ({ cmd := c }, i + 1) := if_pos h
theorem oneTail_blk {lim at' i : Nat} {l : Sp.Bs} {c : Sp.CmdV} {k : Nat} : oneTail lim at' i l (.ok c k) = (Sp.skipV (l.drop (at' + i + 1)) k).map fun y =>
    (if (lim : Int) < k then { cmd := { c with large := true } } else if y.2 then { cmd := { c with data := (l.drop (at' + i + 1)).take k } } else { wrong := ⟨2, Sp.badChunk, -1⟩ }, i + 1 + y.1) := by
  unfold oneTail
  dsimp only
  rw [if_neg (by omega : ¬ (k : Int) < 0)]
  rfl

/-- where the line has been read -/
def OneMid (w : World) (r : Sp.LineR) (cb bn wb : Value) (wx : World) : Prop :=
  ∃ c0 x0 k1 k2 k3 m1 m2 m3, cb = .pointer (some ⟨c0, 0, none⟩) ∧ bn = .int .i64 (lineN r) ∧ wb = .pointer (some ⟨x0, 0, none⟩) ∧
    OneVars wx c0 x0 w.heap.size (lineStep r).cmd (.slice k1 k2 k3) (.slice m1 m2 m3) (lineStep r).wrong ∧
    wx.ownsRow w.heap.size 9 1 (.slice k1 k2 k3) (lineStep r).cmd.keys.length ((lineStep r).cmd.keys.map str) ∧
    wx.ownsRow w.heap.size 94 3 (.slice m1 m2 m3) (lineStep r).cmd.metas.length (flagsCells (lineStep r).cmd.metas) ∧ Below w.heap.size w wx

theorem oneMid_new {w w9 : World} {r : Sp.LineR} {k1 m1 : Option Addr} {k2 k3 m2 m3 : Nat} (hb : Below w.heap.size w w9) (hs : Blk w9 w.heap.size 99 (stepArr {} nilRow nilRow nilRow))
    (hk : w9.ownsRow w.heap.size 9 1 (.slice k1 k2 k3) (lineStep r).cmd.keys.length ((lineStep r).cmd.keys.map str)) (hm : w9.ownsRow w.heap.size 94 3 (.slice m1 m2 m3) (lineStep r).cmd.metas.length (flagsCells (lineStep r).cmd.metas)) :
    OneMid w r (.pointer (some ⟨w9.heap.size, 0, none⟩)) (.int .i64 (lineN r)) (.pointer (some ⟨w9.heap.size + 1, 0, none⟩))
      ((((w9.alloc (.cells (cmdArr {} nilRow nilRow nilRow) 38)).alloc (.cells (wrongArr {}) 59)).setCells w9.heap.size 0 (cmdList (lineStep r).cmd (.slice k1 k2 k3) nilRow (.slice m1 m2 m3))).setCells (w9.heap.size + 1) 0 (wrongList (lineStep r).wrong)) := by
  have hs1 : (w9.alloc (.cells (cmdArr {} nilRow nilRow nilRow) 38)).heap.size = w9.heap.size + 1 := by simp
  have hbx := Below.setCells (g := w9.heap.size + 1) (by omega : w9.heap.size ≤ w9.heap.size + 1) (wrongList (lineStep r).wrong) 0 (Below.setCells (Nat.le_refl _) (cmdList (lineStep r).cmd (.slice k1 k2 k3) nilRow (.slice m1 m2 m3)) 0 ((((Below.refl w9.heap.size w9).alloc (Nat.le_refl _) (.cells (cmdArr {} nilRow nilRow nilRow) 38)).alloc (by rw [hs1]; omega) (.cells (wrongArr {}) 59))))
  have b1 := Blk.alloc (Blk.new w9 38 (cmdArr {} nilRow nilRow nilRow)) (.cells (wrongArr {}) 59)
  have b2 := Blk.new (w9.alloc (.cells (cmdArr {} nilRow nilRow nilRow) 38)) 59 (wrongArr {})
  rw [hs1] at b2
  exact ⟨_, _, _, _, _, _, _, _, rfl, rfl, rfl, ⟨Blk.farCells _ (by omega) _ 0 (Blk.putCmd b1 _ _ _ _), Blk.putWrong (Blk.farCells _ (by omega) _ 0 b2) _, Blk.later hs hbx⟩, own_later hk hbx, own_later hm hbx, hb.trans (hbx.mono hb.size)⟩

/-- the step is built -/
structure OneAt (w w1 : World) (r : Sp.LineR) (a b c0 x0 s0 : Nat) (k1 : Option Addr) (k2 k3 : Nat) (m1 : Option Addr) (m2 m3 : Nat) (wx : World) : Prop where
  step : Blk wx s0 99 (stepArr ((lineStep r).span a b) (.slice k1 k2 k3) nilRow (.slice m1 m2 m3))
  x : Blk wx x0 59 (wrongArr (lineStep r).wrong)
  res : Blk wx w.heap.size 99 (stepArr {} nilRow nilRow nilRow)
  keys : wx.ownsRow w.heap.size 9 1 (.slice k1 k2 k3) (lineStep r).cmd.keys.length ((lineStep r).cmd.keys.map str)
  metas : wx.ownsRow w.heap.size 94 3 (.slice m1 m2 m3) (lineStep r).cmd.metas.length (flagsCells (lineStep r).cmd.metas)
  below : Below w.heap.size w wx
  ne : w.heap.size < s0

theorem oneAt_new {w wc : World} {r : Sp.LineR} {a b c0 x0 : Nat} {k1 m1 : Option Addr} {k2 k3 m2 m3 : Nat} (hv : OneVars wc c0 x0 w.heap.size (lineStep r).cmd (.slice k1 k2 k3) (.slice m1 m2 m3) (lineStep r).wrong)
    (hk : wc.ownsRow w.heap.size 9 1 (.slice k1 k2 k3) (lineStep r).cmd.keys.length ((lineStep r).cmd.keys.map str)) (hm : wc.ownsRow w.heap.size 94 3 (.slice m1 m2 m3) (lineStep r).cmd.metas.length (flagsCells (lineStep r).cmd.metas))
    (hb : Below w.heap.size w wc) : ∃ s0, Value.pointer (some ⟨wc.heap.size, 0, none⟩) = .pointer (some ⟨s0, 0, none⟩) ∧ OneAt w wc r a b c0 x0 s0 k1 k2 k3 m1 m2 m3
      ((wc.alloc (.cells (stepArr {} nilRow nilRow nilRow) 99)).setCells wc.heap.size 0 (stepArr ((lineStep r).span a b) (.slice k1 k2 k3) nilRow (.slice m1 m2 m3)).toList) := by
  have hbx := Below.setCells (Nat.le_refl wc.heap.size) (stepArr ((lineStep r).span a b) (.slice k1 k2 k3) nilRow (.slice m1 m2 m3)).toList 0 ((Below.refl wc.heap.size wc).alloc (Nat.le_refl _) (.cells (stepArr {} nilRow nilRow nilRow) 99))
  have hlt := hv.r.lt
  exact ⟨_, rfl, ⟨Blk.putStep (Blk.new wc 99 (stepArr {} nilRow nilRow nilRow)) _ _ _ _, Blk.later hv.x hbx, Blk.later hv.r hbx, own_later hk hbx, own_later hm hbx, hb.trans (hbx.mono hb.size), hlt⟩⟩

theorem wp_world {P : Program} {c : Code} {Q : Exit → Act → World → Prop} {a : Act} {W : World} {X : World → Prop} (hX : X W) (h : ∀ W', X W' → Code.wp P c Q a W') : Code.wp P c Q a W := h W hX

theorem OneNow.toBad {w W : World} {s0 : Nat} {t : Sp.StepV} {kv mv : Value} (h : OneNow w W s0 t kv nilRow mv) :
    OneNow w ((W.setCells s0 0 (cmdList {} nilRow nilRow nilRow)).setCells s0 11 (wrongList ⟨2, Sp.badChunk, -1⟩)) s0 (({ wrong := ⟨2, Sp.badChunk, -1⟩ } : Sp.StepV).span t.frm t.to) nilRow nilRow nilRow := by
  have hne := h.ne
  have b2 := Blk.puts (wrongList ⟨2, Sp.badChunk, -1⟩) 11 (Blk.puts (cmdList {} nilRow nilRow nilRow) 0 h.step)
  rw [show ((wrongList ⟨2, Sp.badChunk, -1⟩).zipIdx 11).foldl (fun cs x => cs.setIfInBounds x.2 x.1) (((cmdList {} nilRow nilRow nilRow).zipIdx 0).foldl (fun cs x => cs.setIfInBounds x.2 x.1) (stepArr t kv nilRow mv)) = stepArr (({ wrong := ⟨2, Sp.badChunk, -1⟩ } : Sp.StepV).span t.frm t.to) nilRow nilRow nilRow from by kernel_rfl] at b2
  exact h.bad b2 rfl (Blk.farCells s0 (by omega) _ 11 (Blk.farCells s0 (by omega) _ 0 h.res)) (Below.setCells (by omega) _ 11 (Below.setCells (by omega) _ 0 h.below))

theorem OneAt.now {w w1 wx : World} {r : Sp.LineR} {a b c0 x0 s0 : Nat} {k1 m1 : Option Addr} {k2 k3 m2 m3 : Nat} (h : OneAt w w1 r a b c0 x0 s0 k1 k2 k3 m1 m2 m3 wx) (hd : (lineStep r).cmd.data = []) :
    OneNow w wx s0 ((lineStep r).span a b) (.slice k1 k2 k3) nilRow (.slice m1 m2 m3) := by
  refine ⟨h.step, h.res, ⟨World.ownsRow.mono h.keys (Nat.zero_le _), ?_, World.ownsRow.mono h.metas (Nat.zero_le _)⟩, ?_, h.below, h.ne⟩
  · show wx.ownsRow 0 5 1 nilRow (lineStep r).cmd.data.length (bytesV (lineStep r).cmd.data)
    rw [hd]
    exact World.ownsRow_nil _ _ _ 1
  · intro k hk
    simp only [cmdBlocks, List.mem_append] at hk
    rcases hk with hk | hk | hk
    · exact own_ge h.keys k hk
    · rw [rowBlock_nil] at hk; simp at hk
    · exact own_ge h.metas k hk

end Go.Proofs.YthgfjafnclklpaaGreatDoor
end
end
section
namespace Go.Proofs.YthgfjafnclklpaaGreatDoor
attribute [local go_sem ↓] Go.wp_at_zero Go.wp_at_succ
open Go.RowKit
attribute [-go_sem] storeVar
attribute [local go_sem] run_store_cmd run_store_wrong run_store_step storeVar_int' storeVar_bool' storeVar_slice' storeVar_func' canPut_new canPut_setCell canPut_drew canPut_alloc canPut_setCells cell_setCells_far World.frozen?_setCells

end Go.Proofs.YthgfjafnclklpaaGreatDoor
end
section
namespace Go.Proofs.YthgfjafnclklpaaGreatDoor
attribute [local go_sem ↓] Go.wp_at_zero Go.wp_at_succ
open Go.RowKit
attribute [-go_sem] storeVar
attribute [local go_sem] run_store_cmd run_store_wrong run_store_step storeVar_int' storeVar_bool' storeVar_slice' storeVar_func' canPut_new canPut_setCell canPut_drew canPut_alloc canPut_setCells cell_setCells_far World.frozen?_setCells

end Go.Proofs.YthgfjafnclklpaaGreatDoor
end
section
namespace Go.Proofs.YthgfjafnclklpaaGreatDoor
attribute [local go_sem ↓] Go.wp_at_zero Go.wp_at_succ
open Go.RowKit
attribute [-go_sem] storeVar
attribute [local go_sem] run_store_cmd run_store_wrong run_store_step storeVar_int' storeVar_bool' storeVar_slice' storeVar_func' canPut_new canPut_setCell canPut_drew canPut_alloc canPut_setCells cell_setCells_far World.frozen?_setCells

end Go.Proofs.YthgfjafnclklpaaGreatDoor
end
section
namespace Go.Proofs.YthgfjafnclklpaaGreatDoor
attribute [local go_sem ↓] Go.wp_at_zero Go.wp_at_succ
open Go.RowKit
attribute [-go_sem] storeVar
attribute [local go_sem] run_store_cmd run_store_wrong run_store_step storeVar_int' storeVar_bool' storeVar_slice' storeVar_func' canPut_new canPut_setCell canPut_drew canPut_alloc canPut_setCells cell_setCells_far World.frozen?_setCells

end Go.Proofs.YthgfjafnclklpaaGreatDoor
end
section
section
namespace Go.Proofs.YthgfjafnclklpaaGreatDoor

end Go.Proofs.YthgfjafnclklpaaGreatDoor
end
section
namespace Go.Proofs.YthgfjafnclklpaaGreatDoor
attribute [local go_sem ↓] Go.wp_at_zero Go.wp_at_succ
open Go.RowKit

/-- where the loop of All stands -/
structure AllMid (w : World) (l : Sp.Bs) (lim : Nat) (at' : Nat) (outs : List Sp.StepV) (ov : Value) (wr : World) : Prop where
  le : at' ≤ l.length
  count : outs.length ≤ at'
  go : ∃ r, l.length - at' < r ∧ Sp.allV lim (l.length + 1) 0 l = (outs ++ (Sp.allV lim r at' (l.drop at')).1, (Sp.allV lim r at' (l.drop at')).2)
  mem : ∃ tcs bl, wr.ownsRow w.heap.size 99 16 ov outs.length tcs ∧ StepsMem wr outs tcs bl ∧ bl.Nodup ∧ ∀ k ∈ bl, w.heap.size ≤ k
  below : Below w.heap.size w wr

/-- what All leaves and tells -/
def AllPost (w : World) (x : List Sp.StepV × Nat) (e : Ending) (w' : World) : Prop :=
  ∃ A c tcs bl, e = .returned (.tuple #[.slice A x.1.length c, .int .i64 x.2]) ∧ w'.ownsRow w.heap.size 99 16 (.slice A x.1.length c) x.1.length tcs ∧ StepsMem w' x.1 tcs bl ∧ bl.Nodup ∧ (∀ k ∈ bl, w.heap.size ≤ k) ∧ Below w.heap.size w w'

theorem AllMid.stop {w wr W : World} {l : Sp.Bs} {lim at' : Nat} {outs : List Sp.StepV} {ov : Value} (h : AllMid w l lim at' outs ov wr) (hv : Sp.oneV lim (l.drop at') = none) (hb : Below wr.heap.size wr W) :
    AllPost w (Sp.allV lim (l.length + 1) 0 l) (.returned (.tuple #[ov, .int .i64 ((l.length : Int) - (at' : Int))])) W := by
  obtain ⟨r, hr, hgo⟩ := h.go
  obtain ⟨tcs, bl, ho, hs, hnd, hlo⟩ := h.mem
  have hle := h.le
  cases r with
  | zero => omega
  | succ r =>
    have e : Sp.allV lim (r + 1) at' (l.drop at') = ([], (l.drop at').length) := by unfold Sp.allV; rw [hv]
    rw [e, List.append_nil, List.length_drop] at hgo
    rw [hgo]
    obtain ⟨p, c, rfl⟩ := own_form ho
    refine ⟨p, c, tcs, bl, ?_, own_later ho hb, hs.same fun k hk => hb.block k (hs.lt k hk), hnd, hlo, h.below.trans (hb.mono h.below.size)⟩
    have e2 : (l.length : Int) - (at' : Int) = ((l.length - at' : Nat) : Int) := by omega
    rw [e2]

theorem cmdBlocks_nodup {w : World} {c : Sp.CmdV} {kv dv mv : Value} (h : CmdMem w c kv dv mv) : (cmdBlocks kv dv mv).Nodup := by
  have hone : ∀ v : Value, (rowBlock v).Nodup := fun v => by unfold rowBlock; cases v.ownBlock <;> simp
  have hap : ∀ {e e' : TypeId} {s s' m m' : Nat} {u u' : Value} {ys ys' : List Value}, w.ownsRow 0 e s u m ys → w.ownsRow 0 e' s' u' m' ys' → e ≠ e' → ∀ a ∈ rowBlock u, ∀ b ∈ rowBlock u', a ≠ b := by
    intro e e' s s' m m' u u' ys ys' h1 h2 hne a ha b hb e3
    subst e3
    rw [mem_rowBlock] at ha hb
    rcases own_own_apart h1 h2 hne with h0 | h0
    · rw [h0] at ha; cases ha
    · exact h0 (ha.trans hb.symm)
  unfold cmdBlocks
  refine List.nodup_append.2 ⟨hone _, List.nodup_append.2 ⟨hone _, hone _, hap h.data h.metas (by decide)⟩, fun a ha b hb => ?_⟩
  rcases List.mem_append.1 hb with hb | hb
  · exact hap h.keys h.data (by decide) a ha b hb
  · exact hap h.keys h.metas (by decide) a ha b hb

section
variable {w wr w1 W2 w3 : World} {l : Sp.Bs} {lim at' n : Nat} {outs : List Sp.StepV} {ov kv dv mv v3 : Value} {t t' : Sp.StepV} {tcs : List Value} {bl : List Nat}

/-- the memory behind the append -/
theorem AllMid.grown (h : AllMid w l lim at' outs ov wr) (hown : wr.ownsRow w.heap.size 99 16 ov outs.length tcs) (hst : StepsMem wr outs tcs bl) (hnd : bl.Nodup) (hlo : ∀ k ∈ bl, w.heap.size ≤ k)
    (hcm : CmdMem w1 t.cmd kv dv mv) (hge : ∀ k ∈ cmdBlocks kv dv mv, wr.heap.size ≤ k) (hb1 : Below wr.heap.size wr w1) (hb2 : Below w1.heap.size w1 W2) (hg : W2.grownBy w3 ov.ownBlock)
    (ho3 : w3.ownsRow w.heap.size 99 16 v3 (outs.length + 1) (tcs ++ (stepArr t kv dv mv).toList)) :
    (∃ tcs bl, w3.ownsRow w.heap.size 99 16 v3 (outs ++ [t]).length tcs ∧ StepsMem w3 (outs ++ [t]) tcs bl ∧ bl.Nodup ∧ ∀ k ∈ bl, w.heap.size ≤ k) ∧ Below w.heap.size w w3 := by
  have hb12 : Below wr.heap.size wr W2 := hb1.trans (hb2.mono hb1.size)
  have hap := stepsBlocks_apart hst hown
  have hsz := h.below.size
  have s1 : ∀ k ∈ bl, w3.heap[k]? = wr.heap[k]? := fun k hk =>
    (hg.block k (Nat.lt_of_lt_of_le (hst.lt k hk) hb12.size) (fun e => hap k hk e.symm)).trans (hb12.block k (hst.lt k hk))
  have s2 : ∀ k ∈ cmdBlocks kv dv mv, w3.heap[k]? = w1.heap[k]? := fun k hk =>
    (hg.block k (Nat.lt_of_lt_of_le (hcm.lt k hk) hb2.size) (fun e => by have := own_lt hown k (mem_rowBlock.2 e.symm); have := hge k hk; omega)).trans (hb2.block k (hcm.lt k hk))
  refine ⟨⟨_, bl ++ cmdBlocks kv dv mv, ?_, (hst.same s1).snoc (hcm.same s2), List.nodup_append.2 ⟨hnd, cmdBlocks_nodup hcm, fun a ha b hb => ?_⟩, fun k hk => ?_⟩, ?_⟩
  · rw [List.length_append, ← stepArr_list]
    exact ho3
  · have := hst.lt a ha
    have := hge b hb
    omega
  · rcases List.mem_append.1 hk with hk | hk
    · exact hlo k hk
    · exact Nat.le_trans hsz (hge k hk)
  · exact (h.below.trans (hb12.mono hsz)).grown hg (Nat.le_trans hsz hb12.size) (fun k hk => own_ge hown k (mem_rowBlock.2 hk))

theorem AllMid.on (h : AllMid w l lim at' outs ov wr) (hv : Sp.oneV lim (l.drop at') = some (t', n)) (ht : t = t'.span at' (at' + n)) (hq : t.cmd.verb ≠ 18)
    (hm : (∃ tcs bl, w3.ownsRow w.heap.size 99 16 v3 (outs ++ [t]).length tcs ∧ StepsMem w3 (outs ++ [t]) tcs bl ∧ bl.Nodup ∧ ∀ k ∈ bl, w.heap.size ≤ k) ∧ Below w.heap.size w w3) :
    AllMid w l lim (at' + n) (outs ++ [t]) v3 w3 := by
  subst ht
  obtain ⟨r, hr, hgo⟩ := h.go
  have hn := oneV_in hv
  rw [List.length_drop] at hn
  have hc := h.count
  have hle := h.le
  refine ⟨by omega, by simp; omega, ?_, hm.1, hm.2⟩
  cases r with
  | zero => omega
  | succ r =>
    refine ⟨r, by omega, ?_⟩
    have hq' : t'.cmd.verb ≠ 18 := hq
    have e : Sp.allV lim (r + 1) at' (l.drop at') = (t'.span at' (at' + n) :: (Sp.allV lim r (at' + n) (l.drop (at' + n))).1, (Sp.allV lim r (at' + n) (l.drop (at' + n))).2) := by
      conv => lhs; unfold Sp.allV
      rw [hv]
      dsimp only
      rw [if_neg hq', List.drop_drop]
    rw [hgo, e]
    simp

theorem AllMid.quit (h : AllMid w l lim at' outs ov wr) (hv : Sp.oneV lim (l.drop at') = some (t', n)) (ht : t = t'.span at' (at' + n)) (hq : t.cmd.verb = 18)
    (hm : (∃ tcs bl, w3.ownsRow w.heap.size 99 16 v3 (outs ++ [t]).length tcs ∧ StepsMem w3 (outs ++ [t]) tcs bl ∧ bl.Nodup ∧ ∀ k ∈ bl, w.heap.size ≤ k) ∧ Below w.heap.size w w3) :
    AllPost w (Sp.allV lim (l.length + 1) 0 l) (.returned (.tuple #[v3, .int .i64 0])) w3 := by
  subst ht
  obtain ⟨r, hr, hgo⟩ := h.go
  have hn := oneV_in hv
  rw [List.length_drop] at hn
  cases r with
  | zero => omega
  | succ r =>
    have hq' : t'.cmd.verb = 18 := hq
    have e : Sp.allV lim (r + 1) at' (l.drop at') = ([t'.span at' (at' + n)], 0) := by
      unfold Sp.allV
      rw [hv]
      dsimp only
      rw [if_pos hq']
    rw [hgo, e]
    obtain ⟨⟨tcs, bl, ho, hs, hnd, hlo⟩, hb⟩ := hm
    obtain ⟨p, c, rfl⟩ := own_form ho
    exact ⟨p, c, tcs, bl, rfl, ho, hs, hnd, hlo, hb⟩
end

attribute [-go_sem] storeVar
attribute [local go_sem] run_store_cmd run_store_wrong run_store_step storeVar_int' storeVar_bool' storeVar_slice' storeVar_func' canPut_new canPut_setCell canPut_drew canPut_alloc canPut_setCells cell_setCells_far World.frozen?_setCells

end Go.Proofs.YthgfjafnclklpaaGreatDoor
end
end
