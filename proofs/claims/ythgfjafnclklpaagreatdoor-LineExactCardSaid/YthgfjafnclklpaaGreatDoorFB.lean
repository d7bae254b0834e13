/- Walks of package line: lineEnds where the line is too long. -/
import Derived.Test.YthgfjafnclklpaaGreatDoorQ46
import Derived.Test.YthgfjafnclklpaaGreatDoorQ46
import Derived.Deep.OwnRows
namespace Go.Proofs.YthgfjafnclklpaaGreatDoor
attribute [local go_sem ↓] Go.wp_at_zero Go.wp_at_succ
open Go.RowKit
theorem line_zeros : Sp.lineOf (List.replicate 2049 0) = .bad ⟨2, Sp.tooLong, -1⟩ := by
  unfold Sp.lineOf
  rw [if_pos (by rw [List.length_replicate]; decide)]

theorem zeros_row (w : World) (n : Nat) : RowAt (w.alloc (.cells (madeCells #[.int .u8 0] n) 5)) (some ⟨w.heap.size, 0, none⟩) (List.replicate n (.int .u8 0)) := by
  have hb := Blk.new w 5 (madeCells #[.int .u8 0] n)
  refine .inr ⟨_, _, rfl, hb.lt, fun j u hu => ?_⟩
  rw [Nat.zero_add, hb.cell]
  obtain ⟨hj, rfl⟩ := List.getElem?_eq_some_iff.1 hu
  simp at hj
  simp [madeCells, hj, Nat.mod_one]

section
variable {w : World} {fb lim : Nat} {s : Sp.FeedV} {ov ln dv kv mv : Value} {tc : List Value} {T : List Nat}

set_option maxHeartbeats 8000000 in
set_option maxRecDepth 100000 in
theorem lineEnds_long (h : FeedAt w fb lim s ov ln dv kv mv tc T) (hgl : Glob w) {N : Nat} (hN : s.Fits N) (hN2 : N + 1 ≤ 1000000000) (hlong : s.long = true) :
    Calls Tryz.prog 118 #[.pointer (some ⟨fb, 0, none⟩)] w (NextPost w fb lim (s.lineEnds lim) (ownList T ov ln dv kv mv)) := by
  have hgw := hgl.size
  have hs : s.lineEnds lim = s.done { wrong := ⟨2, Sp.tooLong, -1⟩ } := by unfold Sp.FeedV.lineEnds; rw [if_pos hlong]
  rw [hs]
  have hcall := fun (W : World) (hb : Below w.heap.size w W) =>
    (done_any (h.later hb) hN (by omega) { wrong := ⟨2, Sp.tooLong, -1⟩ } (CmdMem.zero W) (by
      refine ownList_nodup h.nodup ?_
      unfold ownList cmdBlocks
      rw [rowBlock_nil]
      exact List.Sublist.append_left (List.Sublist.append_left (List.nil_sublist _) _) _) (by simp [cmdBlocks, rowBlock_nil]) (Nat.le_trans hgw hb.size)).mono fun e w' hp =>
      And.intro hp.1 (hp.next (OnlyIn.of hb (fb :: ownList T ov ln dv kv mv)) (fun k hk => .inl (told_own hk)) (fun k hk => .inl (out_own hk)) (by simp [cmdBlocks, rowBlock_nil]))
  generalize NextPost w fb lim (s.done { wrong := ⟨2, Sp.tooLong, -1⟩ }) (ownList T ov ln dv kv mv) = R at hcall ⊢
  have x8 : _ = some (Value.bool s.long) := (h.blk).cell 8
  have f8 := (h.blk).frozen 8
  rw [hlong] at x8
  have hz : bytesV (List.replicate 2049 0) = List.replicate 2049 (.int .u8 0) := by simp [bytesV]
  have hlf := fun (W : World) (A : Option Addr) (hb : Below w.heap.size w W) (hr : RowAt W A (List.replicate 2049 (.int .u8 0))) => by
    have := line_flat (cap := 2049) (hgl.later hb) (l := List.replicate 2049 0) (by rw [hz]; exact hr)
    rw [line_zeros, List.length_replicate] at this
    simp only [lineStep, lineN] at this
    exact this
  have hmk := run_make_row' (P := Tryz.prog) 35 5 (.int .u8 0) 1 Tryz.underlying35 (by kernel_rfl) rfl .i64 .i64 2049 (by decide) (by decide) w
  have hzr := zeros_row w 2049
  generalize madeCells #[.int .u8 0] 2049 = Z at hmk hzr
  change (Instr.makeSlice 35 (.int .i64 2049) (.int .i64 2049)).run Tryz.prog w = _ at hmk
  have hlf1 := hlf _ _ ((Below.refl _ _).alloc (Nat.le_refl _) _) hzr
  have HCALL := Lib.hid hcall
  have HLF := Lib.hid hlf1
  clear hcall hlf hlf1 hzr hs hz h hN hgl
  go_enter Tryz.func118, Tryz.ntmps118
  go_upto_region 2 with (refine HLF.out.mono ?_; rintro e w9 ⟨k1, k2, k3, m1, m2, m3, rfl, hok, hom, hb9⟩; have hbl : Below w.heap.size w w9 := ((Below.refl _ _).alloc (Nat.le_refl _) _).trans (hb9.mono (by simp)); have HBL := Lib.hid hbl; clear hok hom hb9 hbl)
  go_wp2_with (refine (HCALL.out _ ((HBL.out.alloc HBL.out.size _).alloc (by have := HBL.out.size; simp; omega) _)).mono ?_; rintro e w8 ⟨rfl, hR8⟩)
  go_end0
  exact hR8
end
end Go.Proofs.YthgfjafnclklpaaGreatDoor
