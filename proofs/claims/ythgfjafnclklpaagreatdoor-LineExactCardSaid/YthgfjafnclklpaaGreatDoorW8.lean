/- Walks of package words: word at K, 0, W and the times. -/
import Derived.Test.YthgfjafnclklpaaGreatDoorW7
namespace Go.Proofs.YthgfjafnclklpaaGreatDoor
open Go.RowKit

theorem info_string : (Tryz.prog.info? 9).map (fun i => (i.zero, i.size, i.bytes)) = some (some (.string ⟨#[]⟩), 1, 16) := by kernel_rfl
theorem info_flag : (Tryz.prog.info? 94).map (fun i => (i.zero, i.size, i.bytes)) = some (some (.agg #[.int .u8 0, .string ⟨#[]⟩, .bool false]), 3, 32) := by kernel_rfl

section
variable {base rb : Nat} {c : Sp.CmdV} {block pass : Int} {kv mv : Value} {w : World}

theorem word_0 (h : RdIs base w rb c block pass kv mv) (l : Sp.Bs) :
    Calls Tryz.prog 110 #[.pointer (some ⟨rb, 0, none⟩), .int .u8 48, str l] w (WordPost base rb pass w (Sp.wordAt c block 48 l)) := by
  have x12 := h.blk.cell 12
  change w.cell? ⟨rb, 12, none⟩ = some (.int .i64 pass) at x12
  have hf := fail_any rb pass ⟨Sp.badFormat.toArray⟩ w x12
  have Hf := Lib.hid hf
  have H := Lib.hid h
  clear h hf x12
  by_cases h0 : l = [48]
  · have hr : Sp.wordAt c block 48 l = .ok (c, block) := by simp [Sp.wordAt, h0]
    generalize Sp.wordAt c block 48 l = R at hr ⊢
    have HR := Lib.hid hr
    have ht : (l == [48]) = true := by simp [h0]
    clear hr h0
    go_enter Tryz.func110, Tryz.ntmps110
    go_wp2
    go_end0
    exact WordPost.ok HR.out H.out (Only.refl _ _ _)
  · have hr : Sp.wordAt c block 48 l = .error Sp.badFormat := by simp [Sp.wordAt, h0]
    generalize Sp.wordAt c block 48 l = R at hr ⊢
    have HR := Lib.hid hr
    have ht : (l == [48]) = false := by simp [h0]
    clear hr h0
    go_enter Tryz.func110, Tryz.ntmps110
    go_wp2_with fail
    refine Hf.out.mono ?_
    rintro e w1 ⟨rfl, rfl⟩
    go_wp2
    exact ⟨rfl, WordPost.bad HR.out (Only.refl _ _ _)⟩

theorem word_W (h : RdIs base w rb c block pass kv mv) (l : Sp.Bs) :
    Calls Tryz.prog 110 #[.pointer (some ⟨rb, 0, none⟩), .int .u8 87, str l] w (WordPost base rb pass w (Sp.wordAt c block 87 l)) := by
  have x12 := h.blk.cell 12
  change w.cell? ⟨rb, 12, none⟩ = some (.int .i64 pass) at x12
  have x10 := h.blk.cell 10
  have f10 := h.blk.frozen 10
  change w.cell? ⟨rb, 10, none⟩ = some _ at x10
  have hf := fail_any rb pass ⟨Sp.badFormat.toArray⟩ w x12
  have Hf := Lib.hid hf
  have H := Lib.hid h
  clear h hf x12
  by_cases h1 : l = Sp.slabsW
  · have hr : Sp.wordAt c block 87 l = .ok ({ c with what := l }, block) := by simp [Sp.wordAt, h1]
    generalize Sp.wordAt c block 87 l = R at hr ⊢
    have HR := Lib.hid hr
    have ht : (l == [115, 108, 97, 98, 115]) = true := by rw [h1]; rfl
    clear hr h1
    go_enter Tryz.func110, Tryz.ntmps110
    go_wp2
    go_end0
    exact WordPost.ok HR.out (H.out.put 10 _ rfl rfl rfl) ((Only.refl _ _ _).put _ _)
  · have ht1 : (l == [115, 108, 97, 98, 115]) = false := by simpa [Sp.slabsW] using h1
    by_cases h2 : l = Sp.resetW
    · have hr : Sp.wordAt c block 87 l = .ok ({ c with what := l }, block) := by simp [Sp.wordAt, h2]
      generalize Sp.wordAt c block 87 l = R at hr ⊢
      have HR := Lib.hid hr
      have ht : (l == [114, 101, 115, 101, 116]) = true := by rw [h2]; rfl
      clear hr h1 h2
      go_enter Tryz.func110, Tryz.ntmps110
      go_wp2
      go_end0
      exact WordPost.ok HR.out (H.out.put 10 _ rfl rfl rfl) ((Only.refl _ _ _).put _ _)
    · have hr : Sp.wordAt c block 87 l = .error Sp.badFormat := by simp [Sp.wordAt, h1, h2]
      generalize Sp.wordAt c block 87 l = R at hr ⊢
      have HR := Lib.hid hr
      have ht2 : (l == [114, 101, 115, 101, 116]) = false := by simpa [Sp.resetW] using h2
      clear hr h1 h2
      go_enter Tryz.func110, Tryz.ntmps110
      go_wp2_with fail
      refine Hf.out.mono ?_
      rintro e w1 ⟨rfl, rfl⟩
      go_wp2
      exact ⟨rfl, WordPost.bad HR.out (Only.refl _ _ _)⟩

theorem RdIs.key {w1 w2 : World} {l : Sp.Bs} {kv' : Value} (h : RdIs base w1 rb c block pass kv mv) (hg : (w1.alloc (.cells #[str l] 9)).grownBy w2 kv.ownBlock)
    (hown : w2.ownsRow base 9 1 kv' (c.keys.length + 1) (c.keys.map str ++ [str l])) : RdIs base (w2.setCell ⟨rb, 1, none⟩ kv') rb { c with keys := c.keys ++ [l] } block pass kv' mv := by
  have hb1 := h.blk.alloc (.cells #[str l] 9)
  have hb2 := hb1.grown hg (fun e => own_apart h.keys h.blk (by decide) e.symm)
  have hm1 := (h.metas.alloc (.cells #[str l] 9)).kept hg (own_own_apart h.metas h.keys (by decide))
  have hb3 := hb2.put 1 kv'
  refine ⟨hb3, ?_, ?_, ?_⟩
  · have := hg.size
    have := h.hbase
    simp [World.setCell] at *
    omega
  · have := hown.kept (grownBy_setCell w2 ⟨rb, 1, none⟩ kv') (.inr (own_apart hown hb2 (by decide)))
    simpa using this
  · exact hm1.kept (grownBy_setCell w2 ⟨rb, 1, none⟩ kv') (.inr (own_apart hm1 hb2 (by decide)))

set_option maxRecDepth 100000 in
theorem word_K (h : RdIs base w rb c block pass kv mv) (l : Sp.Bs) (hl : l.length ≤ 140737488355328) (hn : c.keys.length ≤ 1000000) :
    Calls Tryz.prog 110 #[.pointer (some ⟨rb, 0, none⟩), .int .u8 75, str l] w (WordPost base rb pass w (Sp.wordAt c block 75 l)) := by
  have hlt := h.blk.lt
  have hbase := h.hbase
  have h1 := legal_any l w hl
  cases hk : Sp.legal l with
  | false =>
    rw [hk] at h1
    have hr : Sp.wordAt c block 75 l = .error Sp.badFormat := by simp [Sp.wordAt, hk]
    have hf := fun (wx : World) (hx : Below w.heap.size w wx) => fail_any rb pass ⟨Sp.badFormat.toArray⟩ wx ((h.blk.later hx).cell 12)
    generalize Sp.wordAt c block 75 l = R at hr ⊢
    have H1 := Lib.hid h1
    have HR := Lib.hid hr
    have HF := Lib.hid hf
    clear h1 hr hf h hk
    go_enter Tryz.func110, Tryz.ntmps110
    go_wp2_with fail
    refine H1.out.mono ?_
    rintro e w1 ⟨rfl, hb1⟩
    go_wp2_with fail
    refine (HF.out _ hb1).mono ?_
    rintro e w2 ⟨rfl, rfl⟩
    go_wp2
    exact ⟨rfl, WordPost.bad HR.out (Only.of (hb1.mono hbase))⟩
  | true =>
    rw [hk] at h1
    have hr : Sp.wordAt c block 75 l = .ok ({ c with keys := c.keys ++ [l] }, block) := by simp [Sp.wordAt, hk]
    generalize Sp.wordAt c block 75 l = R at hr ⊢
    obtain ⟨i0, hi, hz0, hz1, hz2⟩ := info_parts info_string
    have H1 := Lib.hid h1
    have HR := Lib.hid hr
    have H := Lib.hid h
    clear h1 hr h hk
    go_enter Tryz.func110, Tryz.ntmps110
    go_wp2_with fail
    refine H1.out.mono ?_
    rintro e w1 ⟨rfl, hb1⟩
    have h1 := H.out.later hb1
    have f1 := h1.blk.frozen 1
    have x1 := h1.blk.cell 1
    have hbase1 := h1.hbase
    have Hh1 := Lib.hid h1
    have hown1 := h1.keys.alloc (.cells #[str l] 9)
    clear h1
    have Hown1 := Lib.hid hown1
    clear hown1
    change w1.cell? ⟨rb, 1, none⟩ = some kv at x1
    go_wp2_with (at_builtin; refine wpList_append_put rfl (.tmp 44) (.tmp 46) _ rfl base 9 i0 _ 1 16 Tryz.underlying33 hi hz0 hz1 hz2 rfl (by decide) kv c.keys.length (c.keys.map str) rfl Hown1.out ⟨w1.heap.size, 0, none⟩ 1 1 [str l] rfl rfl ?_ ?_ ?_ ?_ ?_ ?_ ?_; exact cells_one _ _ _; (intro u hu; simp at hu; subst hu; rfl); decide; (unfold maxLen; omega); omega; (simp; omega); intro g cap w2 hown2 hg2 hat2; have Hown2 := Lib.hid hown2; have Hg2 := Lib.hid hg2; clear hown2 hg2 hat2; have b2 := (Hh1.out.blk.alloc (.cells #[str l] 9)).grown Hg2.out (fun e => own_apart Hh1.out.keys Hh1.out.blk (by decide) e.symm); have y2 := b2.cell 1; have g2 := b2.frozen 1; have Hb2 := Lib.hid b2; clear b2; change w2.cell? ⟨rb, 1, none⟩ = some kv at y2)
    go_end0
    refine WordPost.ok HR.out (Hh1.out.key Hg2.out Hown2.out) ?_
    have e1 : Below base w (w1.alloc (.cells #[str l] 9)) := (hb1.mono hbase).alloc hbase1 _
    have e2 := e1.grown Hg2.out (by simp; omega) (fun k hk => (Hown1.out.lt k hk).1)
    exact (Only.of e2).put _ _
end
end Go.Proofs.YthgfjafnclklpaaGreatDoor
