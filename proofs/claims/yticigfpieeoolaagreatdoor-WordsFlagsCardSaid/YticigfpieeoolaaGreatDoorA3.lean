/- Walk of package words: one, where a line is whole. -/
import Derived.Test.YticigfpieeoolaaGreatDoorA2
import Derived.Test.YticigfpieeoolaaGreatDoorG2
namespace Go.Proofs.YticigfpieeoolaaGreatDoor
attribute [local go_sem ↓] Go.wp_at_zero Go.wp_at_succ
open Go.RowKit
attribute [-go_sem] storeVar
attribute [local go_sem] run_store_cmd run_store_wrong run_store_step storeVar_int' storeVar_bool' storeVar_slice' storeVar_func' canPut_new canPut_setCell canPut_drew canPut_alloc canPut_setCells cell_setCells_far World.frozen?_setCells

theorem oneTail_in {lim at' i : Nat} {l : Sp.Bs} {x : Sp.WrongV} (h : 0 ≤ x.pass ∧ x.pass ≤ (lim : Int)) : oneTail lim at' i l (.bad x) = (Sp.skipV (l.drop (at' + i + 1)) x.pass.toNat).map fun y => ({ wrong := x }, i + 1 + y.1) := if_pos h
theorem oneTail_out {lim at' i : Nat} {l : Sp.Bs} {x : Sp.WrongV} (h : ¬ (0 ≤ x.pass ∧ x.pass ≤ (lim : Int))) : oneTail lim at' i l (.bad x) = some ({ wrong := x }, i + 1) := if_neg h
theorem oneTail_no {lim at' i : Nat} {l : Sp.Bs} {c : Sp.CmdV} {n : Int} (h : n < 0) : oneTail lim at' i l (.ok c n) = some ({ cmd := c }, i + 1) := if_pos h
theorem oneTail_blk {lim at' i : Nat} {l : Sp.Bs} {c : Sp.CmdV} {k : Nat} : oneTail lim at' i l (.ok c k) = (Sp.skipV (l.drop (at' + i + 1)) k).map fun y =>
    (if (lim : Int) < k then { cmd := { c with large := true } } else if y.2 then { cmd := { c with data := (l.drop (at' + i + 1)).take k } } else { wrong := ⟨2, Sp.badChunk, -1⟩ }, i + 1 + y.1) := by
  unfold oneTail
  dsimp only
  rw [if_neg (by omega : ¬ (k : Int) < 0)]
  rfl

/-- where the line has been read -/
def OneMid (w : World) (r : Sp.LineR) (cb bn wb : Value) (wx : World) : Prop :=
  ∃ c0 x0 k1 k2 k3 m1 m2 m3, cb = .pointer (some ⟨c0, 0, none⟩) ∧ bn = .int .i64 (lineN r) ∧ wb = .pointer (some ⟨x0, 0, none⟩) ∧
    OneVars wx c0 x0 w.heap.size (lineStep r).cmd (.slice k1 k2 k3) (.slice m1 m2 m3) (lineStep r).wrong ∧
    wx.ownsRow w.heap.size 9 1 (.slice k1 k2 k3) (lineStep r).cmd.keys.length ((lineStep r).cmd.keys.map str) ∧
    wx.ownsRow w.heap.size 79 3 (.slice m1 m2 m3) (lineStep r).cmd.metas.length (flagsCells (lineStep r).cmd.metas) ∧ Below w.heap.size w wx

theorem oneMid_new {w w9 : World} {r : Sp.LineR} {k1 m1 : Option Addr} {k2 k3 m2 m3 : Nat} (hb : Below w.heap.size w w9) (hs : Blk w9 w.heap.size 86 (stepArr {} nilRow nilRow nilRow))
    (hk : w9.ownsRow w.heap.size 9 1 (.slice k1 k2 k3) (lineStep r).cmd.keys.length ((lineStep r).cmd.keys.map str)) (hm : w9.ownsRow w.heap.size 79 3 (.slice m1 m2 m3) (lineStep r).cmd.metas.length (flagsCells (lineStep r).cmd.metas)) :
    OneMid w r (.pointer (some ⟨w9.heap.size, 0, none⟩)) (.int .i64 (lineN r)) (.pointer (some ⟨w9.heap.size + 1, 0, none⟩))
      ((((w9.alloc (.cells (cmdArr {} nilRow nilRow nilRow) 41)).alloc (.cells (wrongArr {}) 43)).setCells w9.heap.size 0 (cmdList (lineStep r).cmd (.slice k1 k2 k3) nilRow (.slice m1 m2 m3))).setCells (w9.heap.size + 1) 0 (wrongList (lineStep r).wrong)) := by
  have hs1 : (w9.alloc (.cells (cmdArr {} nilRow nilRow nilRow) 41)).heap.size = w9.heap.size + 1 := by simp
  have hbx := Below.setCells (g := w9.heap.size + 1) (by omega : w9.heap.size ≤ w9.heap.size + 1) (wrongList (lineStep r).wrong) 0 (Below.setCells (Nat.le_refl _) (cmdList (lineStep r).cmd (.slice k1 k2 k3) nilRow (.slice m1 m2 m3)) 0 ((((Below.refl w9.heap.size w9).alloc (Nat.le_refl _) (.cells (cmdArr {} nilRow nilRow nilRow) 41)).alloc (by rw [hs1]; omega) (.cells (wrongArr {}) 43))))
  have b1 := Blk.alloc (Blk.new w9 41 (cmdArr {} nilRow nilRow nilRow)) (.cells (wrongArr {}) 43)
  have b2 := Blk.new (w9.alloc (.cells (cmdArr {} nilRow nilRow nilRow) 41)) 43 (wrongArr {})
  rw [hs1] at b2
  exact ⟨_, _, _, _, _, _, _, _, rfl, rfl, rfl, ⟨Blk.farCells _ (by omega) _ 0 (Blk.putCmd b1 _ _ _ _), Blk.putWrong (Blk.farCells _ (by omega) _ 0 b2) _, Blk.later hs hbx⟩, own_later hk hbx, own_later hm hbx, hb.trans (hbx.mono hb.size)⟩

/-- the step is built -/
structure OneAt (w w1 : World) (r : Sp.LineR) (a b c0 x0 s0 : Nat) (k1 : Option Addr) (k2 k3 : Nat) (m1 : Option Addr) (m2 m3 : Nat) (wx : World) : Prop where
  step : Blk wx s0 86 (stepArr ((lineStep r).span a b) (.slice k1 k2 k3) nilRow (.slice m1 m2 m3))
  x : Blk wx x0 43 (wrongArr (lineStep r).wrong)
  res : Blk wx w.heap.size 86 (stepArr {} nilRow nilRow nilRow)
  keys : wx.ownsRow w.heap.size 9 1 (.slice k1 k2 k3) (lineStep r).cmd.keys.length ((lineStep r).cmd.keys.map str)
  metas : wx.ownsRow w.heap.size 79 3 (.slice m1 m2 m3) (lineStep r).cmd.metas.length (flagsCells (lineStep r).cmd.metas)
  below : Below w.heap.size w wx
  ne : w.heap.size < s0

theorem oneAt_new {w wc : World} {r : Sp.LineR} {a b c0 x0 : Nat} {k1 m1 : Option Addr} {k2 k3 m2 m3 : Nat} (hv : OneVars wc c0 x0 w.heap.size (lineStep r).cmd (.slice k1 k2 k3) (.slice m1 m2 m3) (lineStep r).wrong)
    (hk : wc.ownsRow w.heap.size 9 1 (.slice k1 k2 k3) (lineStep r).cmd.keys.length ((lineStep r).cmd.keys.map str)) (hm : wc.ownsRow w.heap.size 79 3 (.slice m1 m2 m3) (lineStep r).cmd.metas.length (flagsCells (lineStep r).cmd.metas))
    (hb : Below w.heap.size w wc) : ∃ s0, Value.pointer (some ⟨wc.heap.size, 0, none⟩) = .pointer (some ⟨s0, 0, none⟩) ∧ OneAt w wc r a b c0 x0 s0 k1 k2 k3 m1 m2 m3
      ((wc.alloc (.cells (stepArr {} nilRow nilRow nilRow) 86)).setCells wc.heap.size 0 (stepArr ((lineStep r).span a b) (.slice k1 k2 k3) nilRow (.slice m1 m2 m3)).toList) := by
  have hbx := Below.setCells (Nat.le_refl wc.heap.size) (stepArr ((lineStep r).span a b) (.slice k1 k2 k3) nilRow (.slice m1 m2 m3)).toList 0 ((Below.refl wc.heap.size wc).alloc (Nat.le_refl _) (.cells (stepArr {} nilRow nilRow nilRow) 86))
  have hlt := hv.r.lt
  exact ⟨_, rfl, ⟨Blk.putStep (Blk.new wc 86 (stepArr {} nilRow nilRow nilRow)) _ _ _ _, Blk.later hv.x hbx, Blk.later hv.r hbx, own_later hk hbx, own_later hm hbx, hb.trans (hbx.mono hb.size), hlt⟩⟩

theorem wp_world {P : Program} {c : Code} {Q : Exit → Act → World → Prop} {a : Act} {W : World} {X : World → Prop} (hX : X W) (h : ∀ W', X W' → Code.wp P c Q a W') : Code.wp P c Q a W := h W hX

theorem OneNow.toBad {w W : World} {s0 : Nat} {t : Sp.StepV} {kv mv : Value} (h : OneNow w W s0 t kv nilRow mv) :
    OneNow w ((W.setCells s0 0 (cmdList {} nilRow nilRow nilRow)).setCells s0 11 (wrongList ⟨2, Sp.badChunk, -1⟩)) s0 (({ wrong := ⟨2, Sp.badChunk, -1⟩ } : Sp.StepV).span t.frm t.to) nilRow nilRow nilRow := by
  have hne := h.ne
  have b2 := Blk.puts (wrongList ⟨2, Sp.badChunk, -1⟩) 11 (Blk.puts (cmdList {} nilRow nilRow nilRow) 0 h.step)
  rw [show ((wrongList ⟨2, Sp.badChunk, -1⟩).zipIdx 11).foldl (fun cs x => cs.setIfInBounds x.2 x.1) (((cmdList {} nilRow nilRow nilRow).zipIdx 0).foldl (fun cs x => cs.setIfInBounds x.2 x.1) (stepArr t kv nilRow mv)) = stepArr (({ wrong := ⟨2, Sp.badChunk, -1⟩ } : Sp.StepV).span t.frm t.to) nilRow nilRow nilRow from by kernel_rfl] at b2
  exact h.bad b2 rfl (Blk.farCells s0 (by omega) _ 11 (Blk.farCells s0 (by omega) _ 0 h.res)) (Below.setCells (by omega) _ 11 (Below.setCells (by omega) _ 0 h.below))

theorem OneAt.now {w w1 wx : World} {r : Sp.LineR} {a b c0 x0 s0 : Nat} {k1 m1 : Option Addr} {k2 k3 m2 m3 : Nat} (h : OneAt w w1 r a b c0 x0 s0 k1 k2 k3 m1 m2 m3 wx) (hd : (lineStep r).cmd.data = []) :
    OneNow w wx s0 ((lineStep r).span a b) (.slice k1 k2 k3) nilRow (.slice m1 m2 m3) := by
  refine ⟨h.step, h.res, ⟨World.ownsRow.mono h.keys (Nat.zero_le _), ?_, World.ownsRow.mono h.metas (Nat.zero_le _)⟩, ?_, h.below, h.ne⟩
  · show wx.ownsRow 0 5 1 nilRow (lineStep r).cmd.data.length (bytesV (lineStep r).cmd.data)
    rw [hd]
    exact World.ownsRow_nil _ _ _ 1
  · intro k hk
    simp only [cmdBlocks, List.mem_append] at hk
    rcases hk with hk | hk | hk
    · exact own_ge h.keys k hk
    · rw [rowBlock_nil] at hk; simp at hk
    · exact own_ge h.metas k hk

end Go.Proofs.YticigfpieeoolaaGreatDoor
