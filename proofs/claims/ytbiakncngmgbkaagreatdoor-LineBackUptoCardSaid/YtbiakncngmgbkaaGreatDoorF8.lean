/- Walks of package line: inLine but where the line ends. -/
import Derived.Test.YtbiakncngmgbkaaGreatDoorF4
namespace Go.Proofs.YtbiakncngmgbkaaGreatDoor
attribute [local go_sem ↓] Go.wp_at_zero Go.wp_at_succ
open Go.RowKit

theorem info_byte' : (Tryz.prog.info? 5).map (fun i => (i.zero, i.size, i.bytes)) = some (some (.int .u8 0), 1, 1) := by kernel_rfl

section
variable {w : World} {fb lim : Nat} {s : Sp.FeedV} {ov ln dv kv mv : Value} {tc : List Value} {T : List Nat}

set_option maxHeartbeats 4000000 in
set_option maxRecDepth 100000 in
/-- the line goes on -/
theorem inLine_on (h : FeedAt w fb lim s ov ln dv kv mv tc T) {N : Nat} (hN : s.Fits N) (hN2 : N + 1 ≤ 1000000000) (hg : 8 ≤ w.heap.size) (b : UInt8) (hb10 : ¬ b = 10) :
    Calls Tryz.prog 28 #[.pointer (some ⟨fb, 0, none⟩), .int .u8 b.toNat] w (NextPost w fb lim (s.inLine lim b) (ownList T ov ln dv kv mv)) := by
  have hbt : ((b.toNat : Int) == 10) = false := byte_ne (b := b) 10 (by omega) hb10
  have hheld := hN.held
  have hline := hN.line
  have hlw := h.line
  obtain ⟨l1, l2, l3, hln⟩ : ∃ p c, ln = .slice p s.line.length c ∧ True := by
    rcases h.line.2 with ⟨h1, h2⟩ | ⟨g, cap, cur, h1, _⟩
    · exact ⟨none, 0, by rw [h1, h2], trivial⟩
    · exact ⟨_, cap, h1, trivial⟩
  subst l3
  obtain ⟨i0, hi, hz0, hz1, hz2⟩ := info_parts info_byte'
  have x5 : _ = some (Value.int .i64 s.held) := (h.blk).cell 5
  have f5 := (h.blk).frozen 5
  have x7 : _ = some (Value.slice l1 s.line.length l2) := (h.blk).cell 7
  have f7 := (h.blk).frozen 7
  have x8 : _ = some (Value.bool s.long) := (h.blk).cell 8
  have f8 := (h.blk).frozen 8
  cases hlong : s.long with
  | true =>
    have hp : NextPost w fb lim (s.inLine lim b) (ownList T ov (.slice l1 s.line.length l2) dv kv mv) (.returned (.tuple #[])) w := by
      have hs : s.inLine lim b = s := by unfold Sp.FeedV.inLine; rw [if_neg hb10, if_pos hlong]
      rw [hs]; exact NextPost.of h (fun k hk => .inl hk) (OnlyIn.refl _ _)
    rw [hlong] at x8
    generalize NextPost w fb lim (s.inLine lim b) (ownList T ov (.slice l1 s.line.length l2) dv kv mv) = R at hp ⊢
    have HP := Lib.hid hp
    clear hp h hN hlw
    go_enter Tryz.func28, Tryz.ntmps28
    go_wp2
    go_end0
    exact HP.out
  | false =>
    rw [hlong] at x8
    by_cases hc : 2048 < s.line.length ∨ (s.line.length = 2048 ∧ b ≠ 13)
    · have hp : ∀ w', FeedAt w' fb lim { s with long := true, line := [], held := 0 } ov nilRow dv kv mv tc T → OnlyIn (fb :: ownList T ov (.slice l1 s.line.length l2) dv kv mv) w w' → NextPost w fb lim (s.inLine lim b) (ownList T ov (.slice l1 s.line.length l2) dv kv mv) (.returned (.tuple #[])) w' := fun w' h' ho => by
        have hs : s.inLine lim b = { s with long := true, line := [], held := 0 } := by unfold Sp.FeedV.inLine; rw [if_neg hb10, if_neg (by rw [hlong]; decide), if_pos hc]
        rw [hs]; exact NextPost.of h' (fun k hk => .inl (ownList_noLine hk)) ho
      have hq := ((h.put (s' := { s with long := true }) 8 (.bool true) (by kernel_rfl) rfl rfl rfl rfl rfl rfl).noLine).put (s' := { s with long := true, line := [], held := 0 }) 5 (.int .i64 0) (by kernel_rfl) rfl rfl rfl rfl rfl rfl
      have ho : OnlyIn (fb :: ownList T ov (.slice l1 s.line.length l2) dv kv mv) w (((w.setCell ⟨fb, 8, none⟩ (.bool true)).setCell ⟨fb, 7, none⟩ nilRow).setCell ⟨fb, 5, none⟩ (.int .i64 0)) := (((OnlyIn.refl (fb :: ownList T ov (.slice l1 s.line.length l2) dv kv mv) w).setCell (.inl (by simp)) 8 (.bool true)).setCell (.inl (by simp)) 7 nilRow).setCell (.inl (by simp)) 5 (.int .i64 0)
      have hp2 := hp _ hq ho
      generalize NextPost w fb lim (s.inLine lim b) (ownList T ov (.slice l1 s.line.length l2) dv kv mv) = R at hp2 ⊢
      have HP := Lib.hid hp2
      clear hp hp2 hq ho h hN hlw
      by_cases hc1 : 2048 < s.line.length
      · have hc2 : (2048 : Int) < (s.line.length : Int) := by omega
        clear hc
        go_enter Tryz.func28, Tryz.ntmps28
        go_wp2
        go_end0
        exact HP.out
      · have hc2 : ¬ (2048 : Int) < (s.line.length : Int) := by omega
        have hc3 : ((s.line.length : Int) == 2048) = true := by simp; omega
        have hb13 : ¬ b = 13 := by
          rcases hc with h | h
          · exact absurd h hc1
          · exact h.2
        have hb13' : ((b.toNat : Int) == 13) = false := byte_ne (b := b) 13 (by omega) hb13
        clear hc
        go_enter Tryz.func28, Tryz.ntmps28
        go_wp2
        go_end0
        exact HP.out
    · have hp : ∀ w' ln', FeedAt w' fb lim { s with line := s.line ++ [b], held := s.held + 1 } ov ln' dv kv mv tc T → (∀ k ∈ ownList T ov ln' dv kv mv, k ∈ ownList T ov (.slice l1 s.line.length l2) dv kv mv ∨ w.heap.size ≤ k) → OnlyIn (fb :: ownList T ov (.slice l1 s.line.length l2) dv kv mv) w w' → NextPost w fb lim (s.inLine lim b) (ownList T ov (.slice l1 s.line.length l2) dv kv mv) (.returned (.tuple #[])) w' := fun w' ln' h' hO ho => by
        have hs : s.inLine lim b = { s with line := s.line ++ [b], held := s.held + 1 } := by unfold Sp.FeedV.inLine; rw [if_neg hb10, if_neg (by rw [hlong]; decide), if_neg hc]
        rw [hs]; exact NextPost.of h' hO ho
      generalize NextPost w fb lim (s.inLine lim b) (ownList T ov (.slice l1 s.line.length l2) dv kv mv) = R at hp ⊢
      have hc2 : ¬ (2048 : Int) < (s.line.length : Int) := by omega
      have hown1 := h.line.alloc (.cells #[.int .u8 b.toNat] 5)
      have Hown1 := Lib.hid hown1
      have H2 := Lib.hid h
      have HP := Lib.hid hp
      have hltw := h.blk.lt
      clear hown1 hp h hN hlw
      by_cases hc3 : s.line.length = 2048
      · have hc3' : ((s.line.length : Int) == 2048) = true := by simp; omega
        have hb13 : b = 13 := Decidable.not_not.1 fun h => hc (.inr ⟨hc3, h⟩)
        subst hb13
        clear hc
        have HC3 := Lib.hid hc3
        clear hc3
        go_enter Tryz.func28, Tryz.ntmps28
        go_wp2_with (at_builtin; refine wpList_append_put rfl (.tmp 8) (.tmp 10) _ rfl 0 5 i0 _ 1 1 Tryz.underlying43 hi hz0 hz1 hz2 rfl (by decide) (.slice l1 s.line.length l2) s.line.length (bytesV s.line) rfl Hown1.out ⟨w.heap.size, 0, none⟩ 1 1 [.int .u8 (13 : UInt8).toNat] rfl rfl ?_ ?_ ?_ ?_ ?_ ?_ ?_; exact cells_one _ _ _; (intro u hu; simp at hu; subst hu; rfl); decide; (unfold maxLen; omega); omega; omega; intro g cap w2 hown2 hg2 hat2; have hm := FeedAt.moreLine (b := 13) H2.out hg2 hown2 hat2 hg; have b2 := (H2.out.blk.alloc (.cells #[.int .u8 (13 : UInt8).toNat] 5)).grown hg2 (fun e => own_apart H2.out.line H2.out.blk (by decide) e.symm); have Hm := Lib.hid hm; clear hm hown2 hg2 hat2; have z7 : _ = some (Value.slice l1 s.line.length l2) := b2.cell 7; have z5 : _ = some (Value.int .i64 s.held) := b2.cell 5; have q7 := b2.frozen 7; have q5 := b2.frozen 5; clear b2)
        go_end0
        exact HP.out _ _ (Hm.out.1.put 5 (.int .i64 ((s.held : Int) + 1)) (by kernel_rfl) rfl rfl rfl rfl rfl rfl) Hm.out.2.1 (Hm.out.2.2.setCell (.inl (by simp)) 5 _)
      · have hc3' : ((s.line.length : Int) == 2048) = false := by simp; omega
        clear hc
        go_enter Tryz.func28, Tryz.ntmps28
        go_wp2_with (at_builtin; refine wpList_append_put rfl (.tmp 8) (.tmp 10) _ rfl 0 5 i0 _ 1 1 Tryz.underlying43 hi hz0 hz1 hz2 rfl (by decide) (.slice l1 s.line.length l2) s.line.length (bytesV s.line) rfl Hown1.out ⟨w.heap.size, 0, none⟩ 1 1 [.int .u8 b.toNat] rfl rfl ?_ ?_ ?_ ?_ ?_ ?_ ?_; exact cells_one _ _ _; (intro u hu; simp at hu; subst hu; rfl); decide; (unfold maxLen; omega); omega; omega; intro g cap w2 hown2 hg2 hat2; have hm := FeedAt.moreLine (b := b) H2.out hg2 hown2 hat2 hg; have b2 := (H2.out.blk.alloc (.cells #[.int .u8 b.toNat] 5)).grown hg2 (fun e => own_apart H2.out.line H2.out.blk (by decide) e.symm); have Hm := Lib.hid hm; clear hm hown2 hg2 hat2; have z7 : _ = some (Value.slice l1 s.line.length l2) := b2.cell 7; have z5 : _ = some (Value.int .i64 s.held) := b2.cell 5; have q7 := b2.frozen 7; have q5 := b2.frozen 5; clear b2)
        go_end0
        exact HP.out _ _ (Hm.out.1.put 5 (.int .i64 ((s.held : Int) + 1)) (by kernel_rfl) rfl rfl rfl rfl rfl rfl) Hm.out.2.1 (Hm.out.2.2.setCell (.inl (by simp)) 5 _)
end
end Go.Proofs.YtbiakncngmgbkaaGreatDoor
