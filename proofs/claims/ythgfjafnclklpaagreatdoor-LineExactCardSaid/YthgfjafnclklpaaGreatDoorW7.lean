/- Walks of package words: word, letter by letter. -/
import Derived.Test.YthgfjafnclklpaaGreatDoorW6
import Derived.Test.YthgfjafnclklpaaGreatDoorMem
import Derived.Maps.AppendAt
namespace Go.Proofs.YthgfjafnclklpaaGreatDoor
open Go.RowKit

/-- a reader's cells -/
def rdCells (c : Sp.CmdV) (kv mv : Value) (block pass : Int) : Array Value :=
  #[.int .i64 c.verb, kv, .int .u64 c.flags, .int .i64 c.exptime, .int .u64 c.token, .int .u64 c.delta, .slice none 0 0, .bool c.noreply, .bool false, mv, str c.what, .int .i64 block, .int .i64 pass]

/-- the reader in block rb holds this command so far; its lists are its own -/
structure RdIs (base : Nat) (w : World) (rb : Nat) (c : Sp.CmdV) (block pass : Int) (kv mv : Value) : Prop where
  blk : Blk w rb 110 (rdCells c kv mv block pass)
  hbase : base ≤ w.heap.size
  keys : w.ownsRow base 9 1 kv c.keys.length (c.keys.map str)
  metas : w.ownsRow base 94 3 mv c.metas.length (flagsCells c.metas)

theorem RdIs.later {base : Nat} {w w' : World} {rb : Nat} {c : Sp.CmdV} {block pass : Int} {kv mv : Value} (h : RdIs base w rb c block pass kv mv) (hb : Below w.heap.size w w') : RdIs base w' rb c block pass kv mv :=
  ⟨h.blk.later hb, Nat.le_trans h.hbase hb.size, own_later h.keys hb, own_later h.metas hb⟩

/-- a store into a plain field -/
theorem RdIs.put {base : Nat} {w : World} {rb : Nat} {c c' : Sp.CmdV} {block block' pass pass' : Int} {kv mv : Value} (h : RdIs base w rb c block pass kv mv) (i : Nat) (u : Value)
    (hc : (rdCells c kv mv block pass).setIfInBounds i u = rdCells c' kv mv block' pass') (hk : c'.keys = c.keys) (hm : c'.metas = c.metas) : RdIs base (w.setCell ⟨rb, i, none⟩ u) rb c' block' pass' kv mv :=
  ⟨by rw [← hc]; exact h.blk.put i u, by simpa [World.setCell] using h.hbase,
    by rw [hk]; exact h.keys.kept (grownBy_setCell w ⟨rb, i, none⟩ u) (.inr (own_apart h.keys h.blk (by decide))),
    by rw [hm]; exact h.metas.kept (grownBy_setCell w ⟨rb, i, none⟩ u) (.inr (own_apart h.metas h.blk (by decide)))⟩

/-- how a word leaves the reader -/
def WordPost (base rb : Nat) (pass : Int) (w : World) (r : Except Sp.Bs (Sp.CmdV × Int)) (e : Ending) (w' : World) : Prop :=
  (match r with
    | .ok (c', b') => e = .returned (.tuple #[]) ∧ ∃ kv mv, RdIs base w' rb c' b' pass kv mv
    | .error t => e = thrown t pass) ∧ Only rb base w w'

theorem WordPost.inv_ok {base rb : Nat} {pass : Int} {w w' : World} {r : Except Sp.Bs (Sp.CmdV × Int)} {c' : Sp.CmdV} {b' : Int} {e : Ending} (hr : r = .ok (c', b')) (h : WordPost base rb pass w r e w') :
    e = .returned (.tuple #[]) ∧ (∃ kv mv, RdIs base w' rb c' b' pass kv mv) ∧ Only rb base w w' := by subst hr; exact ⟨h.1.1, h.1.2, h.2⟩
theorem WordPost.inv_bad {base rb : Nat} {pass : Int} {w w' : World} {r : Except Sp.Bs (Sp.CmdV × Int)} {t : Sp.Bs} {e : Ending} (hr : r = .error t) (h : WordPost base rb pass w r e w') :
    e = thrown t pass ∧ Only rb base w w' := by subst hr; exact h
theorem WordPost.ok {base rb : Nat} {pass : Int} {w w' : World} {r : Except Sp.Bs (Sp.CmdV × Int)} {c' : Sp.CmdV} {b' : Int} (hr : r = .ok (c', b')) {kv mv : Value} (h : RdIs base w' rb c' b' pass kv mv) (hb : Only rb base w w') :
    WordPost base rb pass w r (.returned (.tuple #[])) w' := by subst hr; exact ⟨⟨rfl, kv, mv, h⟩, hb⟩
theorem WordPost.bad {base rb : Nat} {pass : Int} {w w' : World} {r : Except Sp.Bs (Sp.CmdV × Int)} {t : Sp.Bs} (hr : r = .error t) (hb : Only rb base w w') :
    WordPost base rb pass w r (thrown t pass) w' := by subst hr; exact ⟨rfl, hb⟩

section
variable {base rb : Nat} {c : Sp.CmdV} {block pass : Int} {kv mv : Value} {w : World}

/-- F: the flags -/
theorem word_F (h : RdIs base w rb c block pass kv mv) (hg : Glob w) (l : Sp.Bs) (hl : l.length ≤ 140737488355328) :
    Calls Tryz.prog 110 #[.pointer (some ⟨rb, 0, none⟩), .int .u8 70, str l] w (WordPost base rb pass w (Sp.wordAt c block 70 l)) := by
  have hlt := h.blk.lt
  have hbase := h.hbase
  cases hn : Sp.number l 4294967295 with
  | some n =>
    have hr : Sp.wordAt c block 70 l = .ok ({ c with flags := n }, block) := by simp [Sp.wordAt, hn]
    have h1 := want_yes rb l Sp.badFormat 4294967295 n w hl (by decide) hn
    generalize Sp.wordAt c block 70 l = R at hr ⊢
    have H1 := Lib.hid h1
    have HR := Lib.hid hr
    have H := Lib.hid h
    clear h1 hr h hn
    go_enter Tryz.func110, Tryz.ntmps110
    go_wp2_with fail
    refine H1.out.mono ?_
    rintro e w1 ⟨rfl, hb1⟩
    have h1 := H.out.later hb1
    have f2 := h1.blk.frozen 2
    have x2 := h1.blk.cell 2
    have Hh1 := Lib.hid h1
    clear h1
    change w1.cell? ⟨rb, 2, none⟩ = some _ at x2
    go_wp2
    go_end0
    exact WordPost.ok HR.out (Hh1.out.put 2 _ rfl rfl rfl) ((Only.of (hb1.mono hbase)).put _ _)
  | none =>
    have hr : Sp.wordAt c block 70 l = .error Sp.badFormat := by simp [Sp.wordAt, hn]
    have h1 := want_no rb l Sp.badFormat 4294967295 pass w hl hg (h.blk.cell 12) hlt hn
    generalize Sp.wordAt c block 70 l = R at hr ⊢
    have H1 := Lib.hid h1
    have HR := Lib.hid hr
    clear h1 hr h hn
    go_enter Tryz.func110, Tryz.ntmps110
    go_wp2_with fail
    refine H1.out.mono ?_
    rintro e w1 ⟨rfl, hb1⟩
    go_wp2
    exact ⟨rfl, WordPost.bad HR.out (Only.of (hb1.mono hbase))⟩

/-- V: a number that is looked at alone -/
theorem word_V (h : RdIs base w rb c block pass kv mv) (hg : Glob w) (l : Sp.Bs) (hl : l.length ≤ 140737488355328) :
    Calls Tryz.prog 110 #[.pointer (some ⟨rb, 0, none⟩), .int .u8 86, str l] w (WordPost base rb pass w (Sp.wordAt c block 86 l)) := by
  have hlt := h.blk.lt
  have hbase := h.hbase
  cases hn : Sp.number l 2147483647 with
  | some n =>
    have hr : Sp.wordAt c block 86 l = .ok (c, block) := by simp [Sp.wordAt, hn]
    have h1 := want_yes rb l Sp.badFormat 2147483647 n w hl (by decide) hn
    generalize Sp.wordAt c block 86 l = R at hr ⊢
    have H1 := Lib.hid h1
    have HR := Lib.hid hr
    have H := Lib.hid h
    clear h1 hr h hn
    go_enter Tryz.func110, Tryz.ntmps110
    go_wp2_with fail
    refine H1.out.mono ?_
    rintro e w1 ⟨rfl, hb1⟩
    go_wp2
    go_end0
    exact WordPost.ok HR.out (H.out.later hb1) (Only.of (hb1.mono hbase))
  | none =>
    have hr : Sp.wordAt c block 86 l = .error Sp.badFormat := by simp [Sp.wordAt, hn]
    have h1 := want_no rb l Sp.badFormat 2147483647 pass w hl hg (h.blk.cell 12) hlt hn
    generalize Sp.wordAt c block 86 l = R at hr ⊢
    have H1 := Lib.hid h1
    have HR := Lib.hid hr
    clear h1 hr h hn
    go_enter Tryz.func110, Tryz.ntmps110
    go_wp2_with fail
    refine H1.out.mono ?_
    rintro e w1 ⟨rfl, hb1⟩
    go_wp2
    exact ⟨rfl, WordPost.bad HR.out (Only.of (hb1.mono hbase))⟩

/-- C: the token -/
theorem word_C (h : RdIs base w rb c block pass kv mv) (hg : Glob w) (l : Sp.Bs) (hl : l.length ≤ 140737488355328) :
    Calls Tryz.prog 110 #[.pointer (some ⟨rb, 0, none⟩), .int .u8 67, str l] w (WordPost base rb pass w (Sp.wordAt c block 67 l)) := by
  have hlt := h.blk.lt
  have hbase := h.hbase
  cases hn : Sp.number l 18446744073709551615 with
  | some n =>
    have hr : Sp.wordAt c block 67 l = .ok ({ c with token := n }, block) := by simp [Sp.wordAt, hn]
    have h1 := want_yes rb l Sp.badFormat 18446744073709551615 n w hl (by decide) hn
    generalize Sp.wordAt c block 67 l = R at hr ⊢
    have H1 := Lib.hid h1
    have HR := Lib.hid hr
    have H := Lib.hid h
    clear h1 hr h hn
    go_enter Tryz.func110, Tryz.ntmps110
    go_wp2_with fail
    refine H1.out.mono ?_
    rintro e w1 ⟨rfl, hb1⟩
    have h1 := H.out.later hb1
    have f2 := h1.blk.frozen 4
    have x2 := h1.blk.cell 4
    have Hh1 := Lib.hid h1
    clear h1
    change w1.cell? ⟨rb, 4, none⟩ = some _ at x2
    go_wp2
    go_end0
    exact WordPost.ok HR.out (Hh1.out.put 4 _ rfl rfl rfl) ((Only.of (hb1.mono hbase)).put _ _)
  | none =>
    have hr : Sp.wordAt c block 67 l = .error Sp.badFormat := by simp [Sp.wordAt, hn]
    have h1 := want_no rb l Sp.badFormat 18446744073709551615 pass w hl hg (h.blk.cell 12) hlt hn
    generalize Sp.wordAt c block 67 l = R at hr ⊢
    have H1 := Lib.hid h1
    have HR := Lib.hid hr
    clear h1 hr h hn
    go_enter Tryz.func110, Tryz.ntmps110
    go_wp2_with fail
    refine H1.out.mono ?_
    rintro e w1 ⟨rfl, hb1⟩
    go_wp2
    exact ⟨rfl, WordPost.bad HR.out (Only.of (hb1.mono hbase))⟩

/-- D: the delta -/
theorem word_D (h : RdIs base w rb c block pass kv mv) (hg : Glob w) (l : Sp.Bs) (hl : l.length ≤ 140737488355328) :
    Calls Tryz.prog 110 #[.pointer (some ⟨rb, 0, none⟩), .int .u8 68, str l] w (WordPost base rb pass w (Sp.wordAt c block 68 l)) := by
  have hlt := h.blk.lt
  have hbase := h.hbase
  cases hn : Sp.number l 18446744073709551615 with
  | some n =>
    have hr : Sp.wordAt c block 68 l = .ok ({ c with delta := n }, block) := by simp [Sp.wordAt, hn]
    have h1 := want_yes rb l Sp.badDelta 18446744073709551615 n w hl (by decide) hn
    generalize Sp.wordAt c block 68 l = R at hr ⊢
    have H1 := Lib.hid h1
    have HR := Lib.hid hr
    have H := Lib.hid h
    clear h1 hr h hn
    go_enter Tryz.func110, Tryz.ntmps110
    go_wp2_with fail
    refine H1.out.mono ?_
    rintro e w1 ⟨rfl, hb1⟩
    have h1 := H.out.later hb1
    have f2 := h1.blk.frozen 5
    have x2 := h1.blk.cell 5
    have Hh1 := Lib.hid h1
    clear h1
    change w1.cell? ⟨rb, 5, none⟩ = some _ at x2
    go_wp2
    go_end0
    exact WordPost.ok HR.out (Hh1.out.put 5 _ rfl rfl rfl) ((Only.of (hb1.mono hbase)).put _ _)
  | none =>
    have hr : Sp.wordAt c block 68 l = .error Sp.badDelta := by simp [Sp.wordAt, hn]
    have h1 := want_no rb l Sp.badDelta 18446744073709551615 pass w hl hg (h.blk.cell 12) hlt hn
    generalize Sp.wordAt c block 68 l = R at hr ⊢
    have H1 := Lib.hid h1
    have HR := Lib.hid hr
    clear h1 hr h hn
    go_enter Tryz.func110, Tryz.ntmps110
    go_wp2_with fail
    refine H1.out.mono ?_
    rintro e w1 ⟨rfl, hb1⟩
    go_wp2
    exact ⟨rfl, WordPost.bad HR.out (Only.of (hb1.mono hbase))⟩

/-- N: the block -/
theorem word_N (h : RdIs base w rb c block pass kv mv) (hg : Glob w) (l : Sp.Bs) (hl : l.length ≤ 140737488355328) :
    Calls Tryz.prog 110 #[.pointer (some ⟨rb, 0, none⟩), .int .u8 78, str l] w (WordPost base rb pass w (Sp.wordAt c block 78 l)) := by
  have hlt := h.blk.lt
  have hbase := h.hbase
  cases hn : Sp.number l 2147483647 with
  | some n =>
    have hr : Sp.wordAt c block 78 l = .ok (c, (n : Int)) := by simp [Sp.wordAt, hn]
    have h1 := want_yes rb l Sp.badFormat 2147483647 n w hl (by decide) hn
    have hnb : n ≤ 2147483647 := by
      unfold Sp.number at hn
      split at hn
      · rename_i hx; injection hn with hn; simp at hx; omega
      · cases hn
    generalize Sp.wordAt c block 78 l = R at hr ⊢
    have H1 := Lib.hid h1
    have HR := Lib.hid hr
    have H := Lib.hid h
    clear h1 hr h hn
    go_enter Tryz.func110, Tryz.ntmps110
    go_wp2_with fail
    refine H1.out.mono ?_
    rintro e w1 ⟨rfl, hb1⟩
    have h1 := H.out.later hb1
    have f2 := h1.blk.frozen 11
    have x2 := h1.blk.cell 11
    have Hh1 := Lib.hid h1
    clear h1
    change w1.cell? ⟨rb, 11, none⟩ = some _ at x2
    go_wp2
    go_end0
    exact WordPost.ok HR.out (Hh1.out.put 11 _ rfl rfl rfl) ((Only.of (hb1.mono hbase)).put _ _)
  | none =>
    have hr : Sp.wordAt c block 78 l = .error Sp.badFormat := by simp [Sp.wordAt, hn]
    have h1 := want_no rb l Sp.badFormat 2147483647 pass w hl hg (h.blk.cell 12) hlt hn
    generalize Sp.wordAt c block 78 l = R at hr ⊢
    have H1 := Lib.hid h1
    have HR := Lib.hid hr
    clear h1 hr h hn
    go_enter Tryz.func110, Tryz.ntmps110
    go_wp2_with fail
    refine H1.out.mono ?_
    rintro e w1 ⟨rfl, hb1⟩
    go_wp2
    exact ⟨rfl, WordPost.bad HR.out (Only.of (hb1.mono hbase))⟩

end
end Go.Proofs.YthgfjafnclklpaaGreatDoor
