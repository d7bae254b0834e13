/- Walks of package words: word at T, S and G. -/
import Derived.Test.YthgfjafnclklpaaGreatDoorW8
import Derived.Deep.RegionLaw
import Derived.Deep.RegionWith
import Derived.Deep.DeepCutAuto
namespace Go.Proofs.YthgfjafnclklpaaGreatDoor
open Go.RowKit

section
variable {base rb : Nat} {c : Sp.CmdV} {block pass : Int} {kv mv : Value} {w : World}

theorem word_time_no (h : RdIs base w rb c block pass kv mv) (hg : Glob w) (l : Sp.Bs) (hl : l.length ≤ 140737488355328) (k : UInt8) (hk : k = 84 ∨ k = 83) (hn : Sp.timeOf l = none) :
    Calls Tryz.prog 110 #[.pointer (some ⟨rb, 0, none⟩), .int .u8 k.toNat, str l] w (WordPost base rb pass w (Sp.wordAt c block k l)) := by
  have hbase := h.hbase
  have h1 := time_none l w hl hg hn
  have hf := fun (wx : World) (hx : Below w.heap.size w wx) => fail_any rb pass ⟨Sp.badTime.toArray⟩ wx ((h.blk.later hx).cell 12)
  have hr : Sp.wordAt c block k l = .error Sp.badTime := by
    rcases hk with rfl | rfl <;> simp [Sp.wordAt, hn]
  generalize Sp.wordAt c block k l = R at hr ⊢
  have H1 := Lib.hid h1
  have HR := Lib.hid hr
  have HF := Lib.hid hf
  clear h1 hr hf h hn
  rcases hk with rfl | rfl
  all_goals
    go_enter Tryz.func110, Tryz.ntmps110
    go_wp2_with fail
    refine H1.out.mono ?_
    rintro e w1 ⟨n, rfl, hb1⟩
    go_wp2_with fail
    refine (HF.out _ hb1).mono ?_
    rintro e w2 ⟨rfl, rfl⟩
    go_wp2
    exact ⟨rfl, WordPost.bad HR.out (Only.of (hb1.mono hbase))⟩

theorem word_time_neg (h : RdIs base w rb c block pass kv mv) (l : Sp.Bs) (hl : l.length ≤ 140737488355328) (t : Int) (ht : t < 0) (hn : Sp.timeOf l = some t) :
    Calls Tryz.prog 110 #[.pointer (some ⟨rb, 0, none⟩), .int .u8 83, str l] w (WordPost base rb pass w (Sp.wordAt c block 83 l)) := by
  have hbase := h.hbase
  have h1 := time_yes l t w hl hn
  have hf := fun (wx : World) (hx : Below w.heap.size w wx) => fail_any rb pass ⟨Sp.badTime.toArray⟩ wx ((h.blk.later hx).cell 12)
  have hr : Sp.wordAt c block 83 l = .error Sp.badTime := by simp [Sp.wordAt, hn, ht]
  have hd : decide (t < 0) = true := by simpa using ht
  generalize Sp.wordAt c block 83 l = R at hr ⊢
  have H1 := Lib.hid h1
  have HR := Lib.hid hr
  have HF := Lib.hid hf
  clear h1 hr hf h hn ht
  go_enter Tryz.func110, Tryz.ntmps110
  go_wp2_with fail
  refine H1.out.mono ?_
  rintro e w1 ⟨rfl, hb1⟩
  go_wp2_with fail
  refine (HF.out _ hb1).mono ?_
  rintro e w2 ⟨rfl, rfl⟩
  go_wp2
  exact ⟨rfl, WordPost.bad HR.out (Only.of (hb1.mono hbase))⟩

theorem word_T (h : RdIs base w rb c block pass kv mv) (l : Sp.Bs) (hl : l.length ≤ 140737488355328) (t : Int) (hn : Sp.timeOf l = some t) :
    Calls Tryz.prog 110 #[.pointer (some ⟨rb, 0, none⟩), .int .u8 84, str l] w (WordPost base rb pass w (Sp.wordAt c block 84 l)) := by
  have hbase := h.hbase
  have h1 := time_yes l t w hl hn
  have hr : Sp.wordAt c block 84 l = .ok ({ c with exptime := t }, block) := by simp [Sp.wordAt, hn]
  generalize Sp.wordAt c block 84 l = R at hr ⊢
  have H1 := Lib.hid h1
  have HR := Lib.hid hr
  have H := Lib.hid h
  clear h1 hr h hn
  go_enter Tryz.func110, Tryz.ntmps110
  go_wp2_with fail
  refine H1.out.mono ?_
  rintro e w1 ⟨rfl, hb1⟩
  have h1 := H.out.later hb1
  have f2 := h1.blk.frozen 3
  have x2 := h1.blk.cell 3
  have Hh1 := Lib.hid h1
  clear h1
  change w1.cell? ⟨rb, 3, none⟩ = some _ at x2
  go_wp2
  go_end0
  exact WordPost.ok HR.out (Hh1.out.put 3 _ rfl rfl rfl) ((Only.of (hb1.mono hbase)).put _ _)

theorem word_S (h : RdIs base w rb c block pass kv mv) (l : Sp.Bs) (hl : l.length ≤ 140737488355328) (t : Int) (ht : ¬ t < 0) (hn : Sp.timeOf l = some t) :
    Calls Tryz.prog 110 #[.pointer (some ⟨rb, 0, none⟩), .int .u8 83, str l] w (WordPost base rb pass w (Sp.wordAt c block 83 l)) := by
  have hbase := h.hbase
  have h1 := time_yes l t w hl hn
  have hr : Sp.wordAt c block 83 l = .ok ({ c with exptime := t }, block) := by simp [Sp.wordAt, hn, ht]
  have hd : decide (t < 0) = false := by simpa using ht
  generalize Sp.wordAt c block 83 l = R at hr ⊢
  have H1 := Lib.hid h1
  have HR := Lib.hid hr
  have H := Lib.hid h
  clear h1 hr h hn ht
  go_enter Tryz.func110, Tryz.ntmps110
  go_wp2_with fail
  refine H1.out.mono ?_
  rintro e w1 ⟨rfl, hb1⟩
  have h1 := H.out.later hb1
  have f2 := h1.blk.frozen 3
  have x2 := h1.blk.cell 3
  have Hh1 := Lib.hid h1
  clear h1
  change w1.cell? ⟨rb, 3, none⟩ = some _ at x2
  go_wp2
  go_end0
  exact WordPost.ok HR.out (Hh1.out.put 3 _ rfl rfl rfl) ((Only.of (hb1.mono hbase)).put _ _)

/-- the new flag of a word -/
def flagOfWord (l : Sp.Bs) : Sp.FlagV := { letter := l.headD 0, arg := l.drop 1, has := decide (1 < l.length) }

theorem RdIs.flag {w2 : World} {F : Sp.FlagV} {mv' : Value} {us : List Value} (hus : us = flagCells F) (h : RdIs base w rb c block pass kv mv) (hg : ((w.alloc (.cells us.toArray 94)).drew).grownBy w2 mv.ownBlock)
    (hown : w2.ownsRow base 94 3 mv' (c.metas.length + 1) (flagsCells c.metas ++ us)) :
    RdIs base (w2.setCell ⟨rb, 9, none⟩ mv') rb { c with metas := c.metas ++ [F] } block pass kv mv' ∧ Only rb base w (w2.setCell ⟨rb, 9, none⟩ mv') := by
  subst hus
  have hb1 := (h.blk.alloc (.cells (flagCells F).toArray 94)).drew
  have hb2 := hb1.grown hg (fun e => own_apart h.metas h.blk (by decide) e.symm)
  have hk1 := ((h.keys.alloc (.cells (flagCells F).toArray 94)).drew).kept hg (own_own_apart h.keys h.metas (by decide))
  have hb3 := hb2.put 9 mv'
  have e0 : Below base w ((w.alloc (.cells (flagCells F).toArray 94)).drew) := (((Below.refl base w).alloc h.hbase _)).drew
  have e1 := e0.grown hg (Nat.le_trans h.hbase e0.size) (fun k hk => (h.metas.lt k hk).1)
  refine ⟨⟨hb3, ?_, ?_, ?_⟩, (Only.of e1).put _ _⟩
  · exact Nat.le_trans h.hbase ((Only.of (rb := rb) e1).put 9 mv').size
  · exact hk1.kept (grownBy_setCell w2 ⟨rb, 9, none⟩ mv') (.inr (own_apart hk1 hb2 (by decide)))
  · have := hown.kept (grownBy_setCell w2 ⟨rb, 9, none⟩ mv') (.inr (own_apart hown hb2 (by decide)))
    simpa [flagsCells] using this

/-- the reader behind one more flag -/
def MoreFlag (base rb : Nat) (c : Sp.CmdV) (block pass : Int) (kv : Value) (F : Sp.FlagV) (w w' : World) : Prop :=
  (∃ mv', RdIs base w' rb { c with metas := c.metas ++ [F] } block pass kv mv') ∧ Only rb base w w'

theorem str_tail (x : UInt8) (l : Sp.Bs) : Value.string ((⟨(x :: l).toArray⟩ : ByteArray).extract 1 (l.length + 1)) = str l := by
  have : ((⟨(x :: l).toArray⟩ : ByteArray).extract 1 (l.length + 1)) = ⟨l.toArray⟩ := by
    rw [← bytes_mk ((⟨(x :: l).toArray⟩ : ByteArray).extract 1 (l.length + 1)), Lib.extract_data]
    simp
  rw [this]

theorem Sp_word_G (c : Sp.CmdV) (block : Int) (x : UInt8) (l : Sp.Bs) : Sp.wordAt c block 71 (x :: l) =
    if Sp.flagsOf c.verb (c.metas ++ [flagOfWord (x :: l)]) = [] then .ok ({ c with metas := c.metas ++ [flagOfWord (x :: l)] }, block) else .error (Sp.flagsOf c.verb (c.metas ++ [flagOfWord (x :: l)])) := by
  simp [Sp.wordAt, flagOfWord]

theorem flag_us (x : UInt8) (l : Sp.Bs) : [Value.int .u8 (((⟨(x :: l).toArray⟩ : ByteArray)[0]'(by simp [ByteArray.size])).toNat : Int), Value.string ((⟨(x :: l).toArray⟩ : ByteArray).extract 1 (l.length + 1)), Value.bool (decide ((1 : Int) < (l.length : Int) + 1))] = flagCells (flagOfWord (x :: l)) := by
  have hb : decide ((1 : Int) < (l.length : Int) + 1) = decide (1 < (x :: l).length) := by
    rw [decide_eq_decide, List.length_cons]; omega
  rw [str_tail, hb]
  rfl

theorem RowAt.of_own {w : World} {base : Nat} {e : TypeId} {size n c : Nat} {A : Option Addr} {xs : List Value} (h : w.ownsRow base e size (.slice A n c) n xs) : RowAt w A xs := by
  rcases h.2 with ⟨hv, hn⟩ | ⟨g, cap, cur, hv, hg, hb, h1, h2, h3, h4⟩
  · left
    have := h.1
    rw [hn, Nat.zero_mul] at this
    exact List.eq_nil_of_length_eq_zero this
  · right
    injection hv with hA
    refine ⟨g, 0, hA, Blk.lt hb, fun j u hu => ?_⟩
    have hc := Blk.cell (t := e) hb (0 + j)
    rw [hc, Nat.zero_add]
    rw [← h4, List.getElem?_take] at hu
    split at hu
    · simpa using hu
    · cases hu

set_option maxRecDepth 100000 in
set_option maxHeartbeats 4000000 in
theorem word_G (h : RdIs base w rb c block pass kv mv) (hg : Glob w) (hgb : 8 ≤ base) (hgr : 8 ≤ rb) (x : UInt8) (l : Sp.Bs) (hl : l.length ≤ 4294967270) (hn : c.metas.length ≤ 1000000) (hm : ∀ f ∈ c.metas, f.arg.length ≤ 140737488355328) :
    Calls Tryz.prog 110 #[.pointer (some ⟨rb, 0, none⟩), .int .u8 71, str (x :: l)] w (WordPost base rb pass w (Sp.wordAt c block 71 (x :: l))) := by
  have hlt := h.blk.lt
  have hbase := h.hbase
  have x9w := h.blk.cell 9
  have f9 := h.blk.frozen 9
  change w.cell? ⟨rb, 9, none⟩ = some mv at x9w
  obtain ⟨i0, hi, hz0, hz1, hz2⟩ := info_parts info_flag
  have H := Lib.hid h
  clear h
  have hne : 0 < (x :: l).length := by simp
  have hle : (1 : Int) ≤ (l.length : Int) + 1 := by omega
  go_enter Tryz.func110, Tryz.ntmps110
  go_wp2_with fail
  go_cut [] (fun wx => MoreFlag base rb c block pass kv (flagOfWord (x :: l)) w wx)
  case first =>
    go_region_law (refine step_append_lies _ rfl (.tmp 120) (.tmp 129) _ rfl base 94 i0 _ 3 32 Tryz.underlying36 hi hz0 hz1 hz2 rfl (by decide) mv c.metas.length (flagsCells c.metas) rfl ?_ ⟨w.heap.size, 0, none⟩ 1 1 _ rfl ?_ (cells_new_drew _ _ _) ?_ (by decide) ?_ ?_ ?_ (w.heap.size + 1) ?_ ?_; exact (H.out.metas.alloc _).drew; rfl; (intro u hu; simp at hu; rcases hu with rfl | rfl | rfl <;> rfl); (unfold maxLen; omega); omega; (simp; omega); simp; intro g cap w2 hown2 hg2 hat2 hlt2; have Hown2 := Lib.hid hown2; have Hg2 := Lib.hid hg2; clear hown2 hg2 hat2 hlt2; have b2 := ((H.out.blk.alloc _).drew).grown Hg2.out (fun e => own_apart H.out.metas H.out.blk (by decide) e.symm); have y2 := b2.cell 9; have g2 := b2.frozen 9; have Hb2 := Lib.hid b2; clear b2; change w2.cell? ⟨rb, 9, none⟩ = some mv at y2)
    all_goals
      go_wp2_with fail
      go_meet
      have hr := RdIs.flag (flag_us x l) H.out Hg2.out Hown2.out
      exact ⟨⟨_, hr.1⟩, hr.2⟩
  case rest =>
    obtain ⟨⟨mv', hrd⟩, hbw⟩ := hcut
    have hr1 := Sp_word_G c block x l
    have hlen : (c.metas ++ [flagOfWord (x :: l)]).length = c.metas.length + 1 := by simp
    rcases hrd.metas.2 with ⟨_, h0⟩ | ⟨g, cap, cur, hv, hg0, hgbk, hnc, _, _, _⟩
    · simp at h0
    subst hv
    have hfl := fun (wx : World) (hx : Below wc.heap.size wc wx) => Flags_any c.verb (c.metas ++ [flagOfWord (x :: l)]) (some ⟨g, 0, none⟩) cap wx ((hg.below (hbw.below hgb hgr) (Nat.le_refl _)).later hx) ((RowAt.of_own hrd.metas).below hx) hnc (by simp; omega) (by
      intro f hf
      rcases List.mem_append.1 hf with hf | hf
      · exact hm f hf
      · simp at hf; subst hf; simp [flagOfWord]; omega)
    have hff := fun (t : Sp.Bs) (wx : World) (hx : Below wc.heap.size wc wx) => fail_any rb pass ⟨t.toArray⟩ wx ((hrd.blk.later hx).cell 12)
    have x0 := hrd.blk.cell 0
    have x9 := hrd.blk.cell 9
    change wc.cell? ⟨rb, 0, none⟩ = some (.int .i64 c.verb) at x0
    change wc.cell? ⟨rb, 9, none⟩ = some _ at x9
    rw [hlen] at x9 hfl
    generalize Sp.flagsOf c.verb (c.metas ++ [flagOfWord (x :: l)]) = T at hr1 hfl
    have HR := Lib.hid hr1
    have HFL := Lib.hid hfl
    have HFF := Lib.hid hff
    have HRD := Lib.hid hrd
    have HG0 := Lib.hid hg
    clear hr1 hfl hff hrd hgb hgr hgbk hnc hg hm hlen H hi hz0 hz1 hz2 hle hne f9
    go_wp2
    go_region_with (go_at_call 133; refine (HFL.out _ (by exact (Below.refl _ _).drew)).mono ?_; rintro e w1 ⟨rfl, hb1⟩)
    all_goals
      have hb2 : Below wc.heap.size wc w1 := ((Below.refl wc.heap.size wc).drew).trans hb1
      clear hb1
      cases T with
      | nil =>
        have hr2 := HR.out.trans (if_pos rfl)
        have HR2 := Lib.hid hr2
        clear hr2
        go_wp2
        go_end0
        exact WordPost.ok HR2.out (HRD.out.later hb2) (hbw.trans (Only.of (hb2.mono (by have := hbw.size; omega))))
      | cons y t =>
        have hr2 := HR.out.trans (if_neg (by simp))
        have HR2 := Lib.hid hr2
        clear hr2
        go_wp2_with fail
        refine (HFF.out (y :: t) _ hb2).mono ?_
        rintro e w2 ⟨rfl, rfl⟩
        go_wp2
        exact ⟨rfl, WordPost.bad HR2.out (hbw.trans (Only.of (hb2.mono (by have := hbw.size; omega))))⟩
end
end Go.Proofs.YthgfjafnclklpaaGreatDoor
