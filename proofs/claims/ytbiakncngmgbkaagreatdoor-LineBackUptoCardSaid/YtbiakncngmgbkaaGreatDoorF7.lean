/- Walks of package line: New, Held, Ended, Taken. -/
import Derived.Test.YtbiakncngmgbkaaGreatDoorF3
import Derived.Lib.MinMax
namespace Go.Proofs.YtbiakncngmgbkaaGreatDoor
attribute [local go_sem ↓] Go.wp_at_zero Go.wp_at_succ
open Go.RowKit

section
variable {w : World} {fb lim : Nat} {s : Sp.FeedV} {ov ln dv kv mv : Value} {tc : List Value} {T : List Nat}

theorem held_any (h : FeedAt w fb lim s ov ln dv kv mv tc T) : Calls Tryz.prog 22 #[.pointer (some ⟨fb, 0, none⟩)] w fun e w' => e = .returned (.int .i64 s.held) ∧ w' = w := by
  have x5 : _ = some (Value.int .i64 s.held) := (h.blk).cell 5
  clear h
  go_enter Tryz.func22, Tryz.ntmps22
  go_wp2
  go_ret
  exact ⟨rfl, rfl⟩

theorem ended_any (h : FeedAt w fb lim s ov ln dv kv mv tc T) : Calls Tryz.prog 23 #[.pointer (some ⟨fb, 0, none⟩)] w fun e w' => e = .returned (.bool s.ended) ∧ w' = w := by
  have x6 : _ = some (Value.bool s.ended) := (h.blk).cell 6
  clear h
  go_enter Tryz.func23, Tryz.ntmps23
  go_wp2
  go_ret
  exact ⟨rfl, rfl⟩

theorem taken_any (h : FeedAt w fb lim s ov ln dv kv mv tc T) : Calls Tryz.prog 24 #[.pointer (some ⟨fb, 0, none⟩)] w fun e w' => e = .returned (.int .i64 s.taken) ∧ w' = w := by
  have x3 : _ = some (Value.int .i64 s.taken) := (h.blk).cell 3
  clear h
  go_enter Tryz.func24, Tryz.ntmps24
  go_wp2
  go_ret
  exact ⟨rfl, rfl⟩

set_option maxHeartbeats 1000000 in
set_option maxRecDepth 100000 in
theorem new_any (w : World) (hg : 8 ≤ w.heap.size) (limit : Int) : Calls Tryz.prog 8 #[.int .i64 limit] w fun e w' =>
    e = .returned (.pointer (some ⟨w.heap.size, 0, none⟩)) ∧ FeedAt w' w.heap.size limit.toNat {} nilRow nilRow nilRow nilRow nilRow [] [] ∧ Below w.heap.size w w' := by
  have hfin : ∀ w', Blk w' w.heap.size 75 (feedCells w.heap.size limit.toNat {} nilRow nilRow nilRow nilRow nilRow) → FeedAt w' w.heap.size limit.toNat {} nilRow nilRow nilRow nilRow nilRow [] [] := fun w' hb =>
    ⟨hb, World.ownsRow_nil _ 0 _ 16, ⟨rfl, rfl⟩, World.ownsRow_nil _ 0 _ 1, World.ownsRow_nil _ 0 _ 1, World.ownsRow_nil _ 0 _ 1, World.ownsRow_nil _ 0 _ 3, by simp [ownList, rowBlock_nil], by simp [ownList, rowBlock_nil]; exact hg, rfl⟩
  have hmf : ∀ (fn : Fn) (first cap : Array Value) (w : World), (Instr.makeFunc fn first cap).run Tryz.prog w = .ok (.func fn first cap) w := fun _ _ _ _ => rfl
  generalize hm : limit.toNat = m at hfin ⊢
  have hmax : max limit 0 = (m : Int) := by omega
  clear hm
  have HF := Lib.hid hfin
  clear hfin
  go_enter Tryz.func8, Tryz.ntmps8
  go_wp2
  go_ret
  exact ⟨rfl, HF.out _ (Blk.new w 75 (feedCells w.heap.size m {} nilRow nilRow nilRow nilRow nilRow)), (Below.refl _ _).alloc (Nat.le_refl _) _⟩
end
end Go.Proofs.YtbiakncngmgbkaaGreatDoor
