/- Walk of the statement ReplyRow. Printed by gen/genT6.py. -/
import Derived.Test.YtnbeeehfapjpdaaGreatDoorT1
import Derived.Test.YtnbeeehfapjpdaaGreatDoorU6
import Derived.Test.YtnbeeehfapjpdaaGreatDoorQS1
namespace Go.Proofs.YtnbeeehfapjpdaaGreatDoor
attribute [local go_sem ↓] Go.wp_at_zero Go.wp_at_succ
open Go.RowKit

theorem AnsGood.sized {w : World} {x : AnsX} (h : AnsGood w x) : Sp.Sized x.v := by
  refine ⟨h.mem.number, fun e he => ?_, fun y hy => (h.mem.lines y hy).2⟩
  obtain ⟨z, hz, rfl⟩ := List.mem_map.1 he
  exact (h.mem.ents.each z hz).2.2.2.2.2.2
theorem AnsOwn.rd {w : World} {base : Nat} {y : AnsX} {a : Sp.AnswerV} (h : AnsOwn w base y) (hy : y.v = a) (hl : a.entries.length ≤ 1000000000 ∧ a.stats.length ≤ 1000000000) : AnsRd w y := by
  refine ⟨RowAt.of_own h.ents.row, fun z hz => RowAt.of_own (h.ents.each z hz), RowAt.of_own h.stats, ?_⟩
  subst hy
  simp only [AnsX.v, List.length_map] at hl
  omega
/-- what is written of rows that are taken -/
def outR (js : List PairX) : Sp.Bs := js.flatMap fun p => Sp.answerW p.C.v p.R.v
theorem outR_snoc (js : List PairX) (p : PairX) : outR (js ++ [p]) = outR js ++ Sp.answerW p.C.v p.R.v := by unfold outR; simp
structure Okd (p : PairX) : Prop where
  fits : Sp.fitsV p.C.v p.C.c.keys p.C.c.what p.R.v = true
  loud : p.C.c.noreply = false
  kind : p.R.kind ≠ 12
theorem Okd.wrote {p : PairX} (h : Okd p) : Sp.wroteV p.C.v p.C.c.keys p.C.c.what p.C.c.noreply p.R.v = (Sp.answerW p.C.v p.R.v, 0) := by
  unfold Sp.wroteV
  rw [if_neg (by rw [h.fits]; decide), if_neg (by rw [h.loud]; intro e; rcases e with e | e; cases e; exact h.kind e)]
theorem not_okd {p : PairX} (h : ¬ Okd p) : (Sp.wroteV p.C.v p.C.c.keys p.C.c.what p.C.c.noreply p.R.v).1 = [] ∧ ((Sp.wroteV p.C.v p.C.c.keys p.C.c.what p.C.c.noreply p.R.v).2 = 0 ∨ (Sp.wroteV p.C.v p.C.c.keys p.C.c.what p.C.c.noreply p.R.v).2 = 7) := by
  unfold Sp.wroteV
  split
  · exact ⟨rfl, .inr rfl⟩
  · split
    · exact ⟨rfl, .inl rfl⟩
    · rename_i h1 h2
      refine absurd ⟨?_, ?_, ?_⟩ h
      · cases hf : Sp.fitsV p.C.v p.C.c.keys p.C.c.what p.R.v with
        | true => rfl
        | false => exact absurd hf h1
      · cases hn : p.C.c.noreply with
        | false => rfl
        | true => exact absurd (.inl hn) h2
      · exact fun e => h2 (.inr e)
/-- pairs that came in, in a row -/
structure PairsAt (w : World) (A : Option Addr) (xs : List PairX) : Prop where
  row : RowAt w A (xs.flatMap PairX.cells)
  good : ∀ p ∈ xs, PairGood w p
  size : (xs.map fun p => Sp.sizeA p.R.v).sum ≤ 1048576
  few : xs.length ≤ 1048576
theorem pairs_cell {w : World} {A : Option Addr} {xs : List PairX} (h : RowAt w A (xs.flatMap PairX.cells)) {i : Nat} {p : PairX} (hp : xs[i]? = some p) :
    ∃ g o, A = some ⟨g, o, none⟩ ∧ g < w.heap.size ∧ ∀ (j : Nat) (u : Value), p.cells[j]? = some u → w.cell? ⟨g, o + (i * 16 + j), none⟩ = some u := by
  have hc : ∀ (j : Nat) (u : Value), p.cells[j]? = some u → (xs.flatMap PairX.cells)[i * 16 + j]? = some u := fun j u hu => by
    have hj : j < 16 := (List.getElem?_eq_some_iff.1 hu).1
    rw [flatMap_get (k := 16) (f := PairX.cells) (fun _ _ => rfl) hp hj]; exact hu
  rcases h with h0 | ⟨b, o, h1, h2, h3⟩
  · have := hc 0 _ rfl; rw [h0] at this; cases this
  · exact ⟨b, o, h1, h2, fun j u hu => h3 _ _ (hc j u hu)⟩
theorem outR_split {js : List PairX} {i : Nat} {p : PairX} (h : js[i]? = some p) : outR js = outR (js.take i) ++ (Sp.answerW p.C.v p.R.v ++ outR (js.drop (i + 1))) := by
  obtain ⟨hlt, he⟩ := List.getElem?_eq_some_iff.1 h
  have h2 : js.drop i = p :: js.drop (i + 1) := by rw [List.drop_eq_getElem_cons hlt, he]
  have e : js = js.take i ++ (p :: js.drop (i + 1)) := by rw [← h2, List.take_append_drop]
  conv => lhs; rw [e]
  unfold outR
  rw [List.flatMap_append, List.flatMap_cons]
theorem own_formR {w : World} {base : Nat} {e : TypeId} {size n : Nat} {v : Value} {xs : List Value} (h : w.ownsRow base e size v n xs) : ∃ A c, v = .slice A n c := by
  rcases h.2 with ⟨h1, h2⟩ | ⟨g, cap, cur, h1, _⟩
  · exact ⟨none, 0, by rw [h1, h2]⟩
  · exact ⟨_, _, h1⟩
theorem AnsOwn.put5 {w : World} {base yb : Nat} {y : AnsX} (h : AnsOwn w base y) (hy : yb < base) (a b c d e : Value) : AnsOwn (((((w.setCell ⟨yb, 0, none⟩ a).setCell ⟨yb, 1, none⟩ b).setCell ⟨yb, 2, none⟩ c).setCell ⟨yb, 3, none⟩ d).setCell ⟨yb, 4, none⟩ e) base y := by
  have hL : ∀ k ∈ [yb], k < base := fun k hk => by rw [List.mem_singleton.1 hk]; exact hy
  exact ((((h.only (OnlyIn.put _ yb 0 a) hL).only (OnlyIn.put _ yb 1 b) hL).only (OnlyIn.put _ yb 2 c) hL).only (OnlyIn.put _ yb 3 d) hL).only (OnlyIn.put _ yb 4 e) hL
/-- where the first loop stands -/
structure RowMid (w : World) (xs : List PairX) (i : Nat) (js : List PairX) (av rv : Value) (wr : World) : Prop where
  all : wr.ownsRow w.heap.size 5 1 av (outR js).length (bytesV (outR js))
  row : wr.ownsRow w.heap.size 38 16 rv js.length (js.flatMap PairX.cells)
  below : Below w.heap.size w wr
  ok : ∀ p ∈ js, p ∈ xs ∧ Okd p
  size : (outR js).length ≤ 100 * ((xs.take i).map fun p => Sp.sizeA p.R.v).sum + 100 * i
  count : js.length ≤ i
theorem sum_take_next {α : Type} (f : α → Nat) {xs : List α} {i : Nat} {p : α} (h : xs[i]? = some p) : ((xs.take (i + 1)).map f).sum = ((xs.take i).map f).sum + f p := by
  rw [take_next h]; simp
theorem sum_take_le {α : Type} (f : α → Nat) (xs : List α) (i : Nat) : ((xs.take i).map f).sum ≤ (xs.map f).sum := by
  have : (xs.map f).sum = ((xs.take i).map f).sum + ((xs.drop i).map f).sum := by
    rw [← List.sum_append, ← List.map_append, List.take_append_drop]
  omega
theorem RowMid.skip {w wr w2 : World} {xs : List PairX} {i : Nat} {js : List PairX} {av rv : Value} {p : PairX} (h : RowMid w xs i js av rv wr) (hp : xs[i]? = some p) (hb : Below wr.heap.size wr w2) : RowMid w xs (i + 1) js av rv w2 :=
  ⟨own_later h.all hb, own_later h.row hb, h.below.trans (hb.mono h.below.size), h.ok, by have := h.size; rw [sum_take_next _ hp]; omega, by have := h.count; omega⟩
theorem info_pair : (Tryz.prog.info? 38).map (fun i => (i.zero, i.size, i.bytes)) = some (some (.agg #[.int .i64 0, .slice none 0 0, .int .u64 0, .int .i64 0, .int .u64 0, .int .u64 0, .slice none 0 0, .bool false, .bool false, .slice none 0 0, .string ⟨#[]⟩, .int .i64 0, .slice none 0 0, .int .u64 0, .string ⟨#[]⟩, .slice none 0 0]), 16, 216) := by kernel_rfl
set_option maxHeartbeats 16000000 in
set_option maxRecDepth 100000 in
theorem replyRow_any {w : World} (hg : GlobR w) {A : Option Addr} {ac : Nat} {xs : List PairX} (hx : PairsAt w A xs) :
    Calls Tryz.prog 8 #[.slice A xs.length ac] w fun e w' => e = .returned (.bool true) ∧ Below w.heap.size w w' := by
  generalize hR : (fun (e : Ending) (w' : World) => e = .returned (.bool true) ∧ Below w.heap.size w w') = RR
  have hfew := hx.few
  have hnm := fun (n : Int) (W : World) => num13_any n W
  have HR := Lib.hid hR
  have HX := Lib.hid hx
  have HG := Lib.hid hg
  have HNM := Lib.hid hnm
  have hst : RowMid w xs 0 [] nilRow nilRow w := ⟨World.ownsRow_nil w _ _ 1, World.ownsRow_nil w _ _ 16, Below.refl _ _, by simp, by simp [outR], Nat.le_refl _⟩
  have HST := Lib.hid hst
  clear hR hx hg hnm hst
  go_enter Tryz.func8, Tryz.ntmps8
  go_upto_block 0 with fail
  go_cut [3, 4] (fun av rv wx => ∃ (i : Nat) (js : List PairX), i ≤ 40 ∧ RowMid w xs i js av rv wx)
  case first =>
    go_wp2_with fail
    go_loopw [3, 4, 5, 6, 7] (fun av rv iv _ _ wr => ∃ (i : Nat) (js : List PairX), i ≤ xs.length ∧ i ≤ 40 ∧ iv = .int .i64 i ∧ RowMid w xs i js av rv wr) (fun _ _ iv _ _ _ => xs.length - (intOf iv).toNat)
    case atStart => exact ⟨0, [], Nat.zero_le _, Nat.zero_le _, rfl, HST.out⟩
    case round =>
      obtain ⟨i, js, hi, hi40, rfl, hm⟩ := hrel
      by_cases hlt : i < xs.length ∧ i < 40
      · obtain ⟨hl1, hl2⟩ := hlt
        have hi1 : (i : Int) < (xs.length : Int) := by omega
        have hi2 : (i : Int) < 40 := by omega
        obtain ⟨p, hp⟩ : ∃ p, xs[i]? = some p := ⟨xs[i], by simp [hl1]⟩
        have hgd := HX.out.good p (List.mem_of_getElem? hp)
        obtain ⟨gA, oA, hAe, hgA, hcell⟩ := pairs_cell HX.out.row hp
        subst hAe
        have g0 : ∀ W : World, Below w.heap.size w W → W.cell? ⟨gA, oA + i * 16, none⟩ = some (.int .i64 p.C.v) := fun W hW => (hW.cell (p := ⟨gA, oA + i * 16, none⟩) hgA).trans (hcell 0 _ rfl)
        have g1 : ∀ W : World, Below w.heap.size w W → W.cell? ⟨gA, oA + i * 16 + 1, none⟩ = some (.slice p.C.K p.C.c.keys.length p.C.kc) := fun W hW => (hW.cell (p := ⟨gA, oA + i * 16 + 1, none⟩) hgA).trans (by have := hcell 1 _ rfl; rwa [← Nat.add_assoc] at this)
        have g2 : ∀ W : World, Below w.heap.size w W → W.cell? ⟨gA, oA + i * 16 + 2, none⟩ = some (.int .u64 p.C.c.flags) := fun W hW => (hW.cell (p := ⟨gA, oA + i * 16 + 2, none⟩) hgA).trans (by have := hcell 2 _ rfl; rwa [← Nat.add_assoc] at this)
        have g3 : ∀ W : World, Below w.heap.size w W → W.cell? ⟨gA, oA + i * 16 + 3, none⟩ = some (.int .i64 p.C.c.exptime) := fun W hW => (hW.cell (p := ⟨gA, oA + i * 16 + 3, none⟩) hgA).trans (by have := hcell 3 _ rfl; rwa [← Nat.add_assoc] at this)
        have g4 : ∀ W : World, Below w.heap.size w W → W.cell? ⟨gA, oA + i * 16 + 4, none⟩ = some (.int .u64 p.C.c.token) := fun W hW => (hW.cell (p := ⟨gA, oA + i * 16 + 4, none⟩) hgA).trans (by have := hcell 4 _ rfl; rwa [← Nat.add_assoc] at this)
        have g5 : ∀ W : World, Below w.heap.size w W → W.cell? ⟨gA, oA + i * 16 + 5, none⟩ = some (.int .u64 p.C.c.delta) := fun W hW => (hW.cell (p := ⟨gA, oA + i * 16 + 5, none⟩) hgA).trans (by have := hcell 5 _ rfl; rwa [← Nat.add_assoc] at this)
        have g6 : ∀ W : World, Below w.heap.size w W → W.cell? ⟨gA, oA + i * 16 + 6, none⟩ = some (.slice p.C.D p.C.c.data.length p.C.dc) := fun W hW => (hW.cell (p := ⟨gA, oA + i * 16 + 6, none⟩) hgA).trans (by have := hcell 6 _ rfl; rwa [← Nat.add_assoc] at this)
        have g7 : ∀ W : World, Below w.heap.size w W → W.cell? ⟨gA, oA + i * 16 + 7, none⟩ = some (.bool p.C.c.noreply) := fun W hW => (hW.cell (p := ⟨gA, oA + i * 16 + 7, none⟩) hgA).trans (by have := hcell 7 _ rfl; rwa [← Nat.add_assoc] at this)
        have g8 : ∀ W : World, Below w.heap.size w W → W.cell? ⟨gA, oA + i * 16 + 8, none⟩ = some (.bool p.C.c.large) := fun W hW => (hW.cell (p := ⟨gA, oA + i * 16 + 8, none⟩) hgA).trans (by have := hcell 8 _ rfl; rwa [← Nat.add_assoc] at this)
        have g9 : ∀ W : World, Below w.heap.size w W → W.cell? ⟨gA, oA + i * 16 + 9, none⟩ = some (.slice p.C.M p.C.c.metas.length p.C.mc) := fun W hW => (hW.cell (p := ⟨gA, oA + i * 16 + 9, none⟩) hgA).trans (by have := hcell 9 _ rfl; rwa [← Nat.add_assoc] at this)
        have g10 : ∀ W : World, Below w.heap.size w W → W.cell? ⟨gA, oA + i * 16 + 10, none⟩ = some (str p.C.c.what) := fun W hW => (hW.cell (p := ⟨gA, oA + i * 16 + 10, none⟩) hgA).trans (by have := hcell 10 _ rfl; rwa [← Nat.add_assoc] at this)
        have g11 : ∀ W : World, Below w.heap.size w W → W.cell? ⟨gA, oA + i * 16 + 11, none⟩ = some (.int .i64 p.R.kind) := fun W hW => (hW.cell (p := ⟨gA, oA + i * 16 + 11, none⟩) hgA).trans (by have := hcell 11 _ rfl; rwa [← Nat.add_assoc] at this)
        have g12 : ∀ W : World, Below w.heap.size w W → W.cell? ⟨gA, oA + i * 16 + 12, none⟩ = some (.slice p.R.E p.R.xs.length p.R.ec) := fun W hW => (hW.cell (p := ⟨gA, oA + i * 16 + 12, none⟩) hgA).trans (by have := hcell 12 _ rfl; rwa [← Nat.add_assoc] at this)
        have g13 : ∀ W : World, Below w.heap.size w W → W.cell? ⟨gA, oA + i * 16 + 13, none⟩ = some (.int .u64 p.R.number) := fun W hW => (hW.cell (p := ⟨gA, oA + i * 16 + 13, none⟩) hgA).trans (by have := hcell 13 _ rfl; rwa [← Nat.add_assoc] at this)
        have g14 : ∀ W : World, Below w.heap.size w W → W.cell? ⟨gA, oA + i * 16 + 14, none⟩ = some (str p.R.text) := fun W hW => (hW.cell (p := ⟨gA, oA + i * 16 + 14, none⟩) hgA).trans (by have := hcell 14 _ rfl; rwa [← Nat.add_assoc] at this)
        have g15 : ∀ W : World, Below w.heap.size w W → W.cell? ⟨gA, oA + i * 16 + 15, none⟩ = some (.slice p.R.S p.R.stats.length p.R.sc) := fun W hW => (hW.cell (p := ⟨gA, oA + i * 16 + 15, none⟩) hgA).trans (by have := hcell 15 _ rfl; rwa [← Nat.add_assoc] at this)
        have hbw := hm.below
        have hbwd : Below w.heap.size w wr.drew := hm.below.drew
        have hks := fun (W : World) (hW : Below w.heap.size w W) => (⟨g0 W hW, g1 W hW, g2 W hW, g3 W hW, g4 W hW, g5 W hW, g6 W hW, g7 W hW, g8 W hW, g9 W hW, g10 W hW, g11 W hW, g12 W hW, g13 W hW, g14 W hW, g15 W hW⟩ : W.cell? ⟨gA, oA + i * 16, none⟩ = some (.int .i64 p.C.v) ∧ W.cell? ⟨gA, oA + i * 16 + 1, none⟩ = some (.slice p.C.K p.C.c.keys.length p.C.kc) ∧ W.cell? ⟨gA, oA + i * 16 + 2, none⟩ = some (.int .u64 p.C.c.flags) ∧ W.cell? ⟨gA, oA + i * 16 + 3, none⟩ = some (.int .i64 p.C.c.exptime) ∧ W.cell? ⟨gA, oA + i * 16 + 4, none⟩ = some (.int .u64 p.C.c.token) ∧ W.cell? ⟨gA, oA + i * 16 + 5, none⟩ = some (.int .u64 p.C.c.delta) ∧ W.cell? ⟨gA, oA + i * 16 + 6, none⟩ = some (.slice p.C.D p.C.c.data.length p.C.dc) ∧ W.cell? ⟨gA, oA + i * 16 + 7, none⟩ = some (.bool p.C.c.noreply) ∧ W.cell? ⟨gA, oA + i * 16 + 8, none⟩ = some (.bool p.C.c.large) ∧ W.cell? ⟨gA, oA + i * 16 + 9, none⟩ = some (.slice p.C.M p.C.c.metas.length p.C.mc) ∧ W.cell? ⟨gA, oA + i * 16 + 10, none⟩ = some (str p.C.c.what) ∧ W.cell? ⟨gA, oA + i * 16 + 11, none⟩ = some (.int .i64 p.R.kind) ∧ W.cell? ⟨gA, oA + i * 16 + 12, none⟩ = some (.slice p.R.E p.R.xs.length p.R.ec) ∧ W.cell? ⟨gA, oA + i * 16 + 13, none⟩ = some (.int .u64 p.R.number) ∧ W.cell? ⟨gA, oA + i * 16 + 14, none⟩ = some (str p.R.text) ∧ W.cell? ⟨gA, oA + i * 16 + 15, none⟩ = some (.slice p.R.S p.R.stats.length p.R.sc))
        have hby := bytesOf_any (w := wr.drew) (HG.out.later hbwd) p.C.v p.C.c.flags p.C.c.exptime p.C.c.token p.C.c.delta p.C.D p.C.c.data.length p.C.dc p.C.c.noreply p.C.c.large p.C.M p.C.c.metas.length p.C.mc p.C.c.what (hgd.cmd.mem.keys.below hbwd) hgd.cmd.kc (by have := hgd.cmd.counts.1; omega) (hgd.ans.mem.below hbwd) (by have := hgd.ans.big p.C.v; omega)
        obtain ⟨r, hr⟩ : ∃ r, r = Sp.wroteV p.C.v p.C.c.keys p.C.c.what p.C.c.noreply p.R.v := ⟨_, rfl⟩
        rw [← hr] at hby
        have HKS := Lib.hid hks
        have HBY := Lib.hid hby
        have HRV := Lib.hid hr
        have HM := Lib.hid hm
        have HP := Lib.hid hp
        have HGD := Lib.hid hgd
        clear hks hby hr hm hp hgd hcell hl1 hl2
        go_upto_region 6 with fail
        go_cut [6, 7] (fun bv ev wx => ∃ (O : Option Addr) (oc : Nat), bv = .slice O r.1.length oc ∧ ev = .int .i64 r.2 ∧ wx.ownsRow wr.heap.size 5 1 (.slice O r.1.length oc) r.1.length (bytesV r.1) ∧ Below wr.heap.size wr wx)
        case first =>
          go_region_held3 (fun w' => w'.cell? ⟨gA, oA + i * 16, none⟩ = some (.int .i64 p.C.v) ∧ w'.cell? ⟨gA, oA + i * 16 + 1, none⟩ = some (.slice p.C.K p.C.c.keys.length p.C.kc) ∧ w'.cell? ⟨gA, oA + i * 16 + 2, none⟩ = some (.int .u64 p.C.c.flags) ∧ w'.cell? ⟨gA, oA + i * 16 + 3, none⟩ = some (.int .i64 p.C.c.exptime) ∧ w'.cell? ⟨gA, oA + i * 16 + 4, none⟩ = some (.int .u64 p.C.c.token) ∧ w'.cell? ⟨gA, oA + i * 16 + 5, none⟩ = some (.int .u64 p.C.c.delta) ∧ w'.cell? ⟨gA, oA + i * 16 + 6, none⟩ = some (.slice p.C.D p.C.c.data.length p.C.dc) ∧ w'.cell? ⟨gA, oA + i * 16 + 7, none⟩ = some (.bool p.C.c.noreply) ∧ w'.cell? ⟨gA, oA + i * 16 + 8, none⟩ = some (.bool p.C.c.large) ∧ w'.cell? ⟨gA, oA + i * 16 + 9, none⟩ = some (.slice p.C.M p.C.c.metas.length p.C.mc) ∧ w'.cell? ⟨gA, oA + i * 16 + 10, none⟩ = some (str p.C.c.what) ∧ w'.cell? ⟨gA, oA + i * 16 + 11, none⟩ = some (.int .i64 p.R.kind) ∧ w'.cell? ⟨gA, oA + i * 16 + 12, none⟩ = some (.slice p.R.E p.R.xs.length p.R.ec) ∧ w'.cell? ⟨gA, oA + i * 16 + 13, none⟩ = some (.int .u64 p.R.number) ∧ w'.cell? ⟨gA, oA + i * 16 + 14, none⟩ = some (str p.R.text) ∧ w'.cell? ⟨gA, oA + i * 16 + 15, none⟩ = some (.slice p.R.S p.R.stats.length p.R.sc)) (first | exact HKS.out _ hbw | exact HKS.out _ hbwd | exact HKS.out _ hbw3) (first
            | (go_at_call 15; refine HBY.out.mono ?_; rintro e w3 ⟨O, oc, rfl, hown3, hb3⟩; have hb3r : Below wr.heap.size wr w3 := (Below.refl wr.heap.size wr).drew.trans hb3; have hbw3 : Below w.heap.size w w3 := hbw.trans (hb3r.mono hbw.size); have HOWN3 := Lib.hid hown3; have HB3 := Lib.hid hb3r; clear hown3 hb3 hb3r))
          all_goals
            go_wp2_with fail
            go_meet
            exact ⟨O, oc, rfl, rfl, HOWN3.out, HB3.out⟩
        case rest =>
          obtain ⟨O, oc, rfl, rfl, hown3, hb3⟩ := hcut
          obtain ⟨w3, hw3⟩ : ∃ w3, w3 = wc := ⟨_, rfl⟩
          rw [← hw3] at hown3 hb3 ⊢
          have hbw3 : Below w.heap.size w w3 := hbw.trans (hb3.mono hbw.size)
          have HOWN3 := Lib.hid hown3
          have HB3 := Lib.hid hb3
          clear hw3 hown3 hb3
          by_cases hok : Okd p
          · have hre : r = (Sp.answerW p.C.v p.R.v, 0) := by rw [HRV.out]; exact hok.wrote
            obtain ⟨out, hout⟩ : ∃ out, out = Sp.answerW p.C.v p.R.v := ⟨_, rfl⟩
            rw [← hout] at hre
            have HOK := Lib.hid hok
            have HOUT := Lib.hid hout
            have hop : out.length ≠ 0 := fun e => Sp.answerW_ne p.C.v p.R.v (by rw [← hout]; exact List.eq_nil_of_length_eq_zero e)
            have hop2 : ((out.length : Int) == 0) = false := by simpa using hop
            have hsm := small_any (w := w3) (HGD.out.ans.below hbw3)
            have HSM := Lib.hid hsm
            obtain ⟨r1, r2⟩ := r
            injection hre with e1 e2
            subst r1
            subst r2
            obtain ⟨gO, hgO⟩ := own_some HOWN3.out hop
            subst hgO
            obtain ⟨i0, hi0, hz0, hz1, hz2⟩ := info_parts info_u8
            obtain ⟨j0, hj0, hy0, hy1, hy2⟩ := info_parts info_pair
            have hroom := (own_room3 HOWN3.out).1
            have hos := HM.out.size
            have hos2 := sum_take_le (fun p : PairX => Sp.sizeA p.R.v) xs i
            have hos3 := HX.out.size
            have hol := HGD.out.ans.big p.C.v
            rw [← hout] at hol
            have hojs : (outR js).length ≤ 200000000 := by omega
            have hjs := HM.out.count
            have hall3 := own_later HM.out.all HB3.out
            have hrow3 := own_later HM.out.row HB3.out
            have HALL3 := Lib.hid hall3
            have HROW3 := Lib.hid hrow3
            clear hos hos2 hos3 hall3 hrow3 hout hok hsm
            go_upto_region 9 with (first
              | (go_at_call 17; (with_reducible refine (HNM.out _ _).mono ?_); rintro e wn ⟨rfl, rfl⟩)
              | (go_at_call 10; refine HSM.out.mono ?_; rintro e w4 ⟨rfl, hb4⟩; have hbw4 : Below w.heap.size w w4 := hbw3.trans (hb4.mono hbw3.size); have hall4 := own_later HALL3.out hb4; have hrow4 := own_later HROW3.out hb4; have hownO := own_later HOWN3.out hb4; have hcO := (RowAt.of_own hownO).cells; have hsz4 := hbw4.size; have HALL4 := Lib.hid hall4; have HROW4 := Lib.hid hrow4; have HCO := Lib.hid hcO; clear hall4 hrow4 hownO hb4 hcO)
              | (at_builtin; refine wpList_append_put rfl (.tmp 54) (.tmp 55) _ rfl w.heap.size 5 i0 _ 1 1 Tryz.underlying29 hi0 hz0 hz1 hz2 rfl (by decide) u3 (outR js).length (bytesV (outR js)) rfl HALL4.out ⟨gO, 0, none⟩ out.length oc (bytesV out) rfl (by rw [bytesV_length, Nat.mul_one]) HCO.out (bytesV_one _) ?_ ?_ ?_ ?_ ?_; omega; (unfold maxLen; omega); omega; omega; intro g5 c5 w5 hown5 hg5 _; have hbw5 : Below w.heap.size w w5 := hbw4.grown hg5 hbw4.size (fun k hk => (HALL4.out.lt k hk).1); have hsz5 := hbw5.size; have HROW5 := Lib.hid (HROW4.out.kept hg5 (own_own_apart HROW4.out HALL4.out (by decide))); have HOWN5 := Lib.hid hown5; clear hown5 hg5))
            have hbw6 : Below w.heap.size w (w5.alloc (.cells #[.int .i64 p.C.v, .slice p.C.K p.C.c.keys.length p.C.kc, .int .u64 p.C.c.flags, .int .i64 p.C.c.exptime, .int .u64 p.C.c.token, .int .u64 p.C.c.delta, .slice p.C.D p.C.c.data.length p.C.dc, .bool p.C.c.noreply, .bool p.C.c.large, .slice p.C.M p.C.c.metas.length p.C.mc, str p.C.c.what, .int .i64 p.R.kind, .slice p.R.E p.R.xs.length p.R.ec, .int .u64 p.R.number, str p.R.text, .slice p.R.S p.R.stats.length p.R.sc] 38)) := hbw5.alloc hsz5 _
            go_wp2_with (at_builtin; refine wpList_append_put rfl (.tmp 57) (.tmp 62) _ rfl w.heap.size 38 j0 _ 16 216 Tryz.underlying22 hj0 hy0 hy1 hy2 rfl (by decide) u4 js.length (js.flatMap PairX.cells) rfl (own_later HROW5.out ((Below.refl _ _).alloc (Nat.le_refl _) _)) ⟨w5.heap.size, 0, none⟩ 1 1 [.int .i64 p.C.v, .slice p.C.K p.C.c.keys.length p.C.kc, .int .u64 p.C.c.flags, .int .i64 p.C.c.exptime, .int .u64 p.C.c.token, .int .u64 p.C.c.delta, .slice p.C.D p.C.c.data.length p.C.dc, .bool p.C.c.noreply, .bool p.C.c.large, .slice p.C.M p.C.c.metas.length p.C.mc, str p.C.c.what, .int .i64 p.R.kind, .slice p.R.E p.R.xs.length p.R.ec, .int .u64 p.R.number, str p.R.text, .slice p.R.S p.R.stats.length p.R.sc] rfl rfl (cells_new w5 [.int .i64 p.C.v, .slice p.C.K p.C.c.keys.length p.C.kc, .int .u64 p.C.c.flags, .int .i64 p.C.c.exptime, .int .u64 p.C.c.token, .int .u64 p.C.c.delta, .slice p.C.D p.C.c.data.length p.C.dc, .bool p.C.c.noreply, .bool p.C.c.large, .slice p.C.M p.C.c.metas.length p.C.mc, str p.C.c.what, .int .i64 p.R.kind, .slice p.R.E p.R.xs.length p.R.ec, .int .u64 p.R.number, str p.R.text, .slice p.R.S p.R.stats.length p.R.sc] _) ?_ ?_ ?_ ?_ ?_ ?_; (intro u hu; simp only [List.mem_cons, List.not_mem_nil, or_false] at hu; rcases hu with rfl | rfl | rfl | rfl | rfl | rfl | rfl | rfl | rfl | rfl | rfl | rfl | rfl | rfl | rfl | rfl <;> rfl); decide; (unfold maxLen; omega); omega; (simp; omega); intro g7 c7 w7 hown7 hg7 _; have HOWN7 := Lib.hid hown7; have HG7 := Lib.hid hg7; clear hown7 hg7)
            have hall6 := own_later HOWN5.out ((Below.refl w5.heap.size w5).alloc (Nat.le_refl _) (.cells #[.int .i64 p.C.v, .slice p.C.K p.C.c.keys.length p.C.kc, .int .u64 p.C.c.flags, .int .i64 p.C.c.exptime, .int .u64 p.C.c.token, .int .u64 p.C.c.delta, .slice p.C.D p.C.c.data.length p.C.dc, .bool p.C.c.noreply, .bool p.C.c.large, .slice p.C.M p.C.c.metas.length p.C.mc, str p.C.c.what, .int .i64 p.R.kind, .slice p.R.E p.R.xs.length p.R.ec, .int .u64 p.R.number, str p.R.text, .slice p.R.S p.R.stats.length p.R.sc] 38))
            have hrow6 := own_later HROW5.out ((Below.refl w5.heap.size w5).alloc (Nat.le_refl _) (.cells #[.int .i64 p.C.v, .slice p.C.K p.C.c.keys.length p.C.kc, .int .u64 p.C.c.flags, .int .i64 p.C.c.exptime, .int .u64 p.C.c.token, .int .u64 p.C.c.delta, .slice p.C.D p.C.c.data.length p.C.dc, .bool p.C.c.noreply, .bool p.C.c.large, .slice p.C.M p.C.c.metas.length p.C.mc, str p.C.c.what, .int .i64 p.R.kind, .slice p.R.E p.R.xs.length p.R.ec, .int .u64 p.R.number, str p.R.text, .slice p.R.S p.R.stats.length p.R.sc] 38))
            have hall7 := hall6.kept HG7.out (own_own_apart hall6 hrow6 (by decide))
            have hbw7 : Below w.heap.size w w7 := hbw6.grown HG7.out hbw6.size (fun k hk => (hrow6.lt k hk).1)
            have hmid : RowMid w xs (i + 1) (js ++ [p]) (.slice (some ⟨g5, 0, none⟩) ((outR js).length + out.length) c5) (.slice (some ⟨g7, 0, none⟩) (js.length + 1) c7) w7 := by
              refine ⟨?_, ?_, hbw7, fun x hx => ?_, ?_, ?_⟩
              · rw [outR_snoc, ← HOUT.out, List.length_append, bytesV_append]; exact hall7
              · rw [List.length_append, List.length_singleton, List.flatMap_append, List.flatMap_singleton]; exact HOWN7.out
              · rcases List.mem_append.1 hx with hx | hx
                · exact HM.out.ok x hx
                · rw [List.mem_singleton.1 hx]; exact ⟨List.mem_of_getElem? HP.out, HOK.out⟩
              · rw [outR_snoc, List.length_append, sum_take_next _ HP.out]
                have h1 := HM.out.size
                have h2 := Sp.answerW_len p.C.v p.R.v
                omega
              · rw [List.length_append, List.length_singleton]; have := HM.out.count; omega
            exact ⟨⟨i + 1, js ++ [p], by omega, by omega, by go_num, hmid⟩, by show xs.length - ((i : Int) + 1).toNat < xs.length - (i : Int).toNat; omega⟩
          · obtain ⟨n1, n2⟩ := not_okd hok
            rw [← HRV.out] at n1 n2
            obtain ⟨r1, r2⟩ := r
            dsimp only at n1 n2
            subst n1
            have hsk := HM.out.skip HP.out HB3.out
            have HSK := Lib.hid hsk
            clear hsk hok
            rcases n2 with rfl | rfl
            · go_wp2_with (go_at_call 17; (with_reducible refine (HNM.out _ _).mono ?_); rintro e wn ⟨rfl, rfl⟩)
              exact ⟨⟨i + 1, js, by omega, by omega, by go_num, HSK.out⟩, by show xs.length - ((i : Int) + 1).toNat < xs.length - (i : Int).toNat; omega⟩
            · go_wp2_with (go_at_call 17; (with_reducible refine (HNM.out _ _).mono ?_); rintro e wn ⟨rfl, rfl⟩)
              exact ⟨⟨i + 1, js, by omega, by omega, by go_num, HSK.out⟩, by show xs.length - ((i : Int) + 1).toNat < xs.length - (i : Int).toNat; omega⟩
      · have HM := Lib.hid hm
        clear hm
        by_cases hl1 : i < xs.length
        · have hi1 : (i : Int) < (xs.length : Int) := by omega
          have hi2 : decide ((i : Int) < 40) = false := decide_eq_false (by omega)
          have hi3 : decide (i < 40) = false := decide_eq_false (by omega)
          clear hlt hl1
          go_wp2_with fail
          go_meet
          exact ⟨i, js, hi40, HM.out⟩
        · have hi1 : decide ((i : Int) < (xs.length : Int)) = false := decide_eq_false (by omega)
          have hi3 : decide (i < xs.length) = false := decide_eq_false hl1
          clear hlt hl1
          go_wp2_with fail
          go_meet
          exact ⟨i, js, hi40, HM.out⟩
  case rest =>
    obtain ⟨n0, js, hn0, hm⟩ := hcut
    obtain ⟨w0, hw0⟩ : ∃ w0, w0 = wc := ⟨_, rfl⟩
    rw [← hw0] at hm ⊢
    obtain ⟨GA, ga, hav⟩ := own_formR hm.all
    obtain ⟨GR, gr, hrv⟩ := own_formR hm.row
    subst hav
    subst hrv
    have hos2 := sum_take_le (fun p : PairX => Sp.sizeA p.R.v) xs n0
    have hol : (outR js).length ≤ 200000000 := by have h1 := hm.size; have h2 := HX.out.size; omega
    have hjs := hm.count
    have hroom := own_room3 hm.all
    have hbw0 := hm.below
    have hwk := fun (W : World) (hW : Below w.heap.size w W) => wakes13_any (HG.out.later hW)
    have HM := Lib.hid hm
    have HROOM := Lib.hid hroom
    have HWK := Lib.hid hwk
    clear hm hw0 hos2 hroom hwk
    go_wp2_with fail
    go_loopw [8, 9, 10, 11, 12] (fun atv iv _ _ _ wr => ∃ i : Nat, i ≤ js.length ∧ iv = .int .i64 i ∧ atv = .int .i64 (outR (js.take i)).length ∧ Below w0.heap.size w0 wr) (fun _ iv _ _ _ _ => js.length - (intOf iv).toNat)
    case atStart => exact ⟨0, Nat.zero_le _, rfl, rfl, Below.refl _ _⟩
    case round =>
      obtain ⟨i, hi, rfl, rfl, hb⟩ := hrel
      by_cases hlt : i < js.length
      · have hi1 : (i : Int) < (js.length : Int) := by omega
        obtain ⟨p, hp⟩ : ∃ p, js[i]? = some p := ⟨js[i], by simp [hlt]⟩
        obtain ⟨hpx, hok⟩ := HM.out.ok p (List.mem_of_getElem? hp)
        have hgd := HX.out.good p hpx
        have hspl := outR_split hp
        have hnx : outR (js.take (i + 1)) = outR (js.take i) ++ Sp.answerW p.C.v p.R.v := by rw [take_next hp, outR_snoc]
        have hallr := own_later HM.out.all hb
        obtain ⟨gA, oA, hAe, hgA, hcell⟩ := pairs_cell (RowAt.of_own (own_later HM.out.row hb)) hp
        subst hAe
        have g0 : ∀ W : World, Below wr.heap.size wr W → W.cell? ⟨gA, oA + i * 16, none⟩ = some (.int .i64 p.C.v) := fun W hW => (hW.cell (p := ⟨gA, oA + i * 16, none⟩) hgA).trans (hcell 0 _ rfl)
        have g1 : ∀ W : World, Below wr.heap.size wr W → W.cell? ⟨gA, oA + i * 16 + 1, none⟩ = some (.slice p.C.K p.C.c.keys.length p.C.kc) := fun W hW => (hW.cell (p := ⟨gA, oA + i * 16 + 1, none⟩) hgA).trans (by have := hcell 1 _ rfl; rwa [← Nat.add_assoc] at this)
        have g2 : ∀ W : World, Below wr.heap.size wr W → W.cell? ⟨gA, oA + i * 16 + 2, none⟩ = some (.int .u64 p.C.c.flags) := fun W hW => (hW.cell (p := ⟨gA, oA + i * 16 + 2, none⟩) hgA).trans (by have := hcell 2 _ rfl; rwa [← Nat.add_assoc] at this)
        have g3 : ∀ W : World, Below wr.heap.size wr W → W.cell? ⟨gA, oA + i * 16 + 3, none⟩ = some (.int .i64 p.C.c.exptime) := fun W hW => (hW.cell (p := ⟨gA, oA + i * 16 + 3, none⟩) hgA).trans (by have := hcell 3 _ rfl; rwa [← Nat.add_assoc] at this)
        have g4 : ∀ W : World, Below wr.heap.size wr W → W.cell? ⟨gA, oA + i * 16 + 4, none⟩ = some (.int .u64 p.C.c.token) := fun W hW => (hW.cell (p := ⟨gA, oA + i * 16 + 4, none⟩) hgA).trans (by have := hcell 4 _ rfl; rwa [← Nat.add_assoc] at this)
        have g5 : ∀ W : World, Below wr.heap.size wr W → W.cell? ⟨gA, oA + i * 16 + 5, none⟩ = some (.int .u64 p.C.c.delta) := fun W hW => (hW.cell (p := ⟨gA, oA + i * 16 + 5, none⟩) hgA).trans (by have := hcell 5 _ rfl; rwa [← Nat.add_assoc] at this)
        have g6 : ∀ W : World, Below wr.heap.size wr W → W.cell? ⟨gA, oA + i * 16 + 6, none⟩ = some (.slice p.C.D p.C.c.data.length p.C.dc) := fun W hW => (hW.cell (p := ⟨gA, oA + i * 16 + 6, none⟩) hgA).trans (by have := hcell 6 _ rfl; rwa [← Nat.add_assoc] at this)
        have g7 : ∀ W : World, Below wr.heap.size wr W → W.cell? ⟨gA, oA + i * 16 + 7, none⟩ = some (.bool p.C.c.noreply) := fun W hW => (hW.cell (p := ⟨gA, oA + i * 16 + 7, none⟩) hgA).trans (by have := hcell 7 _ rfl; rwa [← Nat.add_assoc] at this)
        have g8 : ∀ W : World, Below wr.heap.size wr W → W.cell? ⟨gA, oA + i * 16 + 8, none⟩ = some (.bool p.C.c.large) := fun W hW => (hW.cell (p := ⟨gA, oA + i * 16 + 8, none⟩) hgA).trans (by have := hcell 8 _ rfl; rwa [← Nat.add_assoc] at this)
        have g9 : ∀ W : World, Below wr.heap.size wr W → W.cell? ⟨gA, oA + i * 16 + 9, none⟩ = some (.slice p.C.M p.C.c.metas.length p.C.mc) := fun W hW => (hW.cell (p := ⟨gA, oA + i * 16 + 9, none⟩) hgA).trans (by have := hcell 9 _ rfl; rwa [← Nat.add_assoc] at this)
        have g10 : ∀ W : World, Below wr.heap.size wr W → W.cell? ⟨gA, oA + i * 16 + 10, none⟩ = some (str p.C.c.what) := fun W hW => (hW.cell (p := ⟨gA, oA + i * 16 + 10, none⟩) hgA).trans (by have := hcell 10 _ rfl; rwa [← Nat.add_assoc] at this)
        have g11 : ∀ W : World, Below wr.heap.size wr W → W.cell? ⟨gA, oA + i * 16 + 11, none⟩ = some (.int .i64 p.R.kind) := fun W hW => (hW.cell (p := ⟨gA, oA + i * 16 + 11, none⟩) hgA).trans (by have := hcell 11 _ rfl; rwa [← Nat.add_assoc] at this)
        have g12 : ∀ W : World, Below wr.heap.size wr W → W.cell? ⟨gA, oA + i * 16 + 12, none⟩ = some (.slice p.R.E p.R.xs.length p.R.ec) := fun W hW => (hW.cell (p := ⟨gA, oA + i * 16 + 12, none⟩) hgA).trans (by have := hcell 12 _ rfl; rwa [← Nat.add_assoc] at this)
        have g13 : ∀ W : World, Below wr.heap.size wr W → W.cell? ⟨gA, oA + i * 16 + 13, none⟩ = some (.int .u64 p.R.number) := fun W hW => (hW.cell (p := ⟨gA, oA + i * 16 + 13, none⟩) hgA).trans (by have := hcell 13 _ rfl; rwa [← Nat.add_assoc] at this)
        have g14 : ∀ W : World, Below wr.heap.size wr W → W.cell? ⟨gA, oA + i * 16 + 14, none⟩ = some (str p.R.text) := fun W hW => (hW.cell (p := ⟨gA, oA + i * 16 + 14, none⟩) hgA).trans (by have := hcell 14 _ rfl; rwa [← Nat.add_assoc] at this)
        have g15 : ∀ W : World, Below wr.heap.size wr W → W.cell? ⟨gA, oA + i * 16 + 15, none⟩ = some (.slice p.R.S p.R.stats.length p.R.sc) := fun W hW => (hW.cell (p := ⟨gA, oA + i * 16 + 15, none⟩) hgA).trans (by have := hcell 15 _ rfl; rwa [← Nat.add_assoc] at this)
        obtain ⟨out, hout⟩ : ∃ out, out = Sp.answerW p.C.v p.R.v := ⟨_, rfl⟩
        obtain ⟨rest, hrest⟩ : ∃ rest, rest = outR (js.drop (i + 1)) := ⟨_, rfl⟩
        obtain ⟨a, ha⟩ : ∃ a, a = (outR (js.take i)).length := ⟨_, rfl⟩
        rw [← hout, ← hrest] at hspl
        rw [← hout] at hnx
        have hop : out.length ≠ 0 := fun e => Sp.answerW_ne p.C.v p.R.v (by rw [← hout]; exact List.eq_nil_of_length_eq_zero e)
        have hlen : (outR js).length = a + (out.length + rest.length) := by rw [hspl, List.length_append, List.length_append, ha]
        have hnl : (outR (js.take (i + 1))).length = a + out.length := by rw [hnx, List.length_append, ha]
        have hdrop : (outR js).drop a = out ++ rest := by rw [hspl, ha, List.drop_left]
        obtain ⟨gO, hgO⟩ := own_some HM.out.all (by omega)
        subst hgO
        have hbw := hbw0.trans (hb.mono hbw0.size)
        have hlaw := (Sp.back_law hok.fits hok.kind hgd.ans.sized).1 rest
        rw [← hout] at hlaw
        have hgo : gO < wr.heap.size := own_lt hallr gO (by simp [rowBlock, Value.ownBlock])
        have hcu : cutAddr (some ⟨gO, 0, none⟩) a ga = some ⟨gO, a, none⟩ := by
          unfold cutAddr
          rw [if_neg (by have := HROOM.out.1; omega)]
          simp [Addr.add]
          try (intro h; exact h.symm)
        have hrowr : ∀ W : World, Below wr.heap.size wr W → RowAt W (some ⟨gO, a, none⟩) (bytesV (out ++ rest)) := fun W hW => by
          have h := ((RowAt.of_own hallr).below hW).cut (a := a) (cap := ga) (by rw [bytesV_length]; exact HROOM.out.1)
          have e : (bytesV (outR js)).drop a = bytesV (out ++ rest) := by rw [← hdrop]; unfold bytesV; rw [List.map_drop]
          rw [hcu, e] at h
          exact h
        have hrd : ∀ W : World, Below wr.heap.size wr W → Calls Tryz.prog 26 #[cmdA p.C.v p.C.K p.C.c.keys.length p.C.kc p.C.c.flags p.C.c.exptime p.C.c.token p.C.c.delta p.C.D p.C.c.data.length p.C.dc p.C.c.noreply p.C.c.large p.C.M p.C.c.metas.length p.C.mc p.C.c.what, .slice (some ⟨gO, a, none⟩) ((outR js).length - a) (ga - a)] W fun e w' => Below W.heap.size W w' ∧ ∃ y : AnsX, y.v = Sp.keptR p.C.v p.R.v ∧ e = .returned (.tuple #[(.agg #[.int .i64 y.kind, .slice y.E y.xs.length y.ec, .int .u64 y.number, str y.text, .slice y.S y.stats.length y.sc]), .int .i64 out.length, .int .i64 0]) ∧ AnsOwn w' W.heap.size y := fun W hW => by
          have hww := hbw.trans (hW.mono hbw.size)
          have h := readOf_any (w := W) (A := some ⟨gO, a, none⟩) (cap := ga - a) (raw := out ++ rest) (hrowr W hW) (by rw [List.length_append]; have := HROOM.out.1; omega) (by rw [List.length_append]; omega) (fun e => by cases e) (fun b hb => by rw [← Option.some.inj hb]; exact Nat.lt_of_lt_of_le hgo hW.size) p.C.v p.C.c.flags p.C.c.exptime p.C.c.token p.C.c.delta p.C.D p.C.c.data.length p.C.dc p.C.c.noreply p.C.c.large p.C.M p.C.c.metas.length p.C.mc p.C.c.what (hgd.cmd.mem.keys.below hww) hgd.cmd.kc (fun hk b hb => Nat.lt_of_lt_of_le (RowAt.lt hgd.cmd.mem.keys (fun e => hk (List.map_eq_nil_iff.1 e)) hb) hww.size) ⟨by have := hgd.cmd.counts.1; omega, fun k hk => by have h1 := tails_mem hk; have h2 := hgd.cmd.keysT; omega⟩
          rw [hok.loud, hlaw, List.length_append, show out.length + rest.length = (outR js).length - a by omega] at h
          rw [hok.loud]
          exact h
        have hkp := fun (W : World) (hW : Below wr.heap.size wr W) => kept_any (w := W) p.C.v p.C.K p.C.c.keys.length p.C.kc p.C.c.flags p.C.c.exptime p.C.c.token p.C.c.delta p.C.D p.C.c.data.length p.C.dc p.C.c.noreply p.C.c.large p.C.M p.C.c.metas.length p.C.mc p.C.c.what (hgd.ans.below (hbw.trans (hW.mono hbw.size)))
        have hkl : (Sp.keptR p.C.v p.R.v).entries.length ≤ 1000000000 ∧ (Sp.keptR p.C.v p.R.v).stats.length ≤ 1000000000 := by
          have h1 := hgd.ans.mem.few
          simp only [Sp.keptR, AnsX.v, List.length_map]
          exact h1
        have hsl : ∀ W : World, (Instr.slice 29 (.slice (some ⟨gO, 0, none⟩) (outR js).length ga) (some (.int .i64 a)) none none).run Tryz.prog W = .ok (.slice (some ⟨gO, a, none⟩) ((outR js).length - a) (ga - a)) W := fun W => by
          have h := run_slice_from W (some ⟨gO, 0, none⟩) (outR js).length ga a (by omega)
          rw [hcu] at h
          exact h
        have hal0 : (a : Int) ≤ ((outR js).length : Int) := by omega
        have hga0 : ((outR js).length : Int) ≤ (ga : Int) := by have := HROOM.out.1; omega
        have hbd : Below wr.heap.size wr wr.drew := (Below.refl _ _).drew
        have hbr : Below wr.heap.size wr wr := Below.refl _ _
        have hbz : Below wr.heap.size wr (wr.alloc (.cells #[.int .i64 0, .slice none 0 0, .int .u64 0, .string ⟨#[]⟩, .slice none 0 0] 36)).drew := ((Below.refl _ _).alloc (Nat.le_refl _) _).drew
        have hzb : Blk (wr.alloc (.cells #[.int .i64 0, .slice none 0 0, .int .u64 0, .string ⟨#[]⟩, .slice none 0 0] 36)).drew wr.heap.size 36 #[.int .i64 0, .slice none 0 0, .int .u64 0, .string ⟨#[]⟩, .slice none 0 0] := (Blk.new wr _ _).drew
        have hr2 := hrd wr.drew hbd
        have hr3 := hrd (wr.alloc (.cells #[.int .i64 0, .slice none 0 0, .int .u64 0, .string ⟨#[]⟩, .slice none 0 0] 36)).drew hbz
        have hsz3 : (wr.alloc (.cells #[.int .i64 0, .slice none 0 0, .int .u64 0, .string ⟨#[]⟩, .slice none 0 0] 36)).drew.heap.size = wr.heap.size + 1 := by show (wr.alloc (.cells #[.int .i64 0, .slice none 0 0, .int .u64 0, .string ⟨#[]⟩, .slice none 0 0] 36)).heap.size = _; simp
        have HR2 := Lib.hid hr2
        have HR3 := Lib.hid hr3
        have HZB := Lib.hid hzb
        have HKP := Lib.hid hkp
        have HKL := Lib.hid hkl
        have HNL := Lib.hid hnl
        have HLEN := Lib.hid hlen
        have HBW := Lib.hid hbw
        have HSZ3 := Lib.hid hsz3
        rw [← ha]
        clear hp hpx hok hgd hspl hnx hallr hcell hout hrest hlen hnl hdrop hlaw hcu hrowr hrd hkp hkl hzb hr2 hr3 hbw hsz3 hlt hi ha
        go_upto_region 14 with fail
        go_cut [10, 11, 12] (fun pv nv ev wx => ∃ (yb : Nat) (y : AnsX), pv = .pointer (some ⟨yb, 0, none⟩) ∧ nv = .int .i64 out.length ∧ ev = .int .i64 0 ∧ y.v = Sp.keptR p.C.v p.R.v ∧ AnsRd wx y ∧ Blk wx yb 36 #[.int .i64 y.kind, .slice y.E y.xs.length y.ec, .int .u64 y.number, str y.text, .slice y.S y.stats.length y.sc] ∧ Below wr.heap.size wr wx)
        case first =>
          go_region_law (go_simp; go_at_call 26; first
            | (refine HR2.out.mono ?_; rintro e w7 ⟨hb7, y, hy, rfl, hown7⟩; have hb67 : Below wr.heap.size wr w7 := hbd.trans (show Below wr.heap.size wr.drew w7 from hb7); have HB67 := Lib.hid hb67; have HY7 := Lib.hid hy; have HOWN7 := Lib.hid hown7; clear hb7 hy hown7 hb67)
            | (refine HR3.out.mono ?_; rintro e w7 ⟨hb7, y, hy, rfl, hown7⟩; have hb67 : Below wr.heap.size wr w7 := hbz.trans (hb7.mono hbz.size); have hz7 := HZB.out.later hb7; have z0 := hz7.cell 0; have z1 := hz7.cell 1; have z2 := hz7.cell 2; have z3 := hz7.cell 3; have z4 := hz7.cell 4; simp only [List.getElem?_toArray, List.getElem?_cons_zero, List.getElem?_cons_succ] at z0 z1 z2 z3 z4; have f0 := hz7.frozen 0; have f1 := hz7.frozen 1; have f2 := hz7.frozen 2; have f3 := hz7.frozen 3; have f4 := hz7.frozen 4; have HZ7 := Lib.hid hz7; have HB67 := Lib.hid hb67; have HY7 := Lib.hid hy; have HOWN7 := Lib.hid hown7; clear hb7 hz7 hy hown7 hb67))
          all_goals (first
            | (show Exit.then _ _ _ _ (w7.alloc (.cells #[.int .i64 y.kind, .slice y.E y.xs.length y.ec, .int .u64 y.number, str y.text, .slice y.S y.stats.length y.sc] 36))
               have hb8 : Below wr.heap.size wr (w7.alloc (.cells #[.int .i64 y.kind, .slice y.E y.xs.length y.ec, .int .u64 y.number, str y.text, .slice y.S y.stats.length y.sc] 36)) := HB67.out.alloc HB67.out.size _
               have hyb : Blk (w7.alloc (.cells #[.int .i64 y.kind, .slice y.E y.xs.length y.ec, .int .u64 y.number, str y.text, .slice y.S y.stats.length y.sc] 36)) w7.heap.size 36 #[.int .i64 y.kind, .slice y.E y.xs.length y.ec, .int .u64 y.number, str y.text, .slice y.S y.stats.length y.sc] := Blk.new w7 _ _
               have hyr := (HOWN7.out.rd HY7.out HKL.out).below ((Below.refl w7.heap.size w7).alloc (Nat.le_refl _) (.cells #[.int .i64 y.kind, .slice y.E y.xs.length y.ec, .int .u64 y.number, str y.text, .slice y.S y.stats.length y.sc] 36))
               generalize w7.alloc (.cells #[.int .i64 y.kind, .slice y.E y.xs.length y.ec, .int .u64 y.number, str y.text, .slice y.S y.stats.length y.sc] 36) = W8 at hb8 hyb hyr ⊢
               go_wp2_with fail
               go_meet
               exact ⟨_, y, rfl, rfl, rfl, HY7.out, hyr, hyb, hb8⟩)
            | (show Exit.then _ _ _ _ (((((w7.setCell ⟨wr.heap.size, 0, none⟩ (.int .i64 y.kind)).setCell ⟨wr.heap.size, 1, none⟩ (.slice y.E y.xs.length y.ec)).setCell ⟨wr.heap.size, 2, none⟩ (.int .u64 y.number)).setCell ⟨wr.heap.size, 3, none⟩ (str y.text)).setCell ⟨wr.heap.size, 4, none⟩ (.slice y.S y.stats.length y.sc))
               have hb8 : Below wr.heap.size wr (((((w7.setCell ⟨wr.heap.size, 0, none⟩ (.int .i64 y.kind)).setCell ⟨wr.heap.size, 1, none⟩ (.slice y.E y.xs.length y.ec)).setCell ⟨wr.heap.size, 2, none⟩ (.int .u64 y.number)).setCell ⟨wr.heap.size, 3, none⟩ (str y.text)).setCell ⟨wr.heap.size, 4, none⟩ (.slice y.S y.stats.length y.sc)) := ((((HB67.out.setCell (p := ⟨wr.heap.size, 0, none⟩) (Nat.le_refl _) _).setCell (p := ⟨wr.heap.size, 1, none⟩) (Nat.le_refl _) _).setCell (p := ⟨wr.heap.size, 2, none⟩) (Nat.le_refl _) _).setCell (p := ⟨wr.heap.size, 3, none⟩) (Nat.le_refl _) _).setCell (p := ⟨wr.heap.size, 4, none⟩) (Nat.le_refl _) _
               have hyb : Blk (((((w7.setCell ⟨wr.heap.size, 0, none⟩ (.int .i64 y.kind)).setCell ⟨wr.heap.size, 1, none⟩ (.slice y.E y.xs.length y.ec)).setCell ⟨wr.heap.size, 2, none⟩ (.int .u64 y.number)).setCell ⟨wr.heap.size, 3, none⟩ (str y.text)).setCell ⟨wr.heap.size, 4, none⟩ (.slice y.S y.stats.length y.sc)) wr.heap.size 36 #[.int .i64 y.kind, .slice y.E y.xs.length y.ec, .int .u64 y.number, str y.text, .slice y.S y.stats.length y.sc] := ((((HZ7.out.put 0 (.int .i64 y.kind)).put 1 (.slice y.E y.xs.length y.ec)).put 2 (.int .u64 y.number)).put 3 (str y.text)).put 4 (.slice y.S y.stats.length y.sc)
               have hyr := (HOWN7.out.put5 (yb := wr.heap.size) (by rw [HSZ3.out]; omega) (.int .i64 y.kind) (.slice y.E y.xs.length y.ec) (.int .u64 y.number) (str y.text) (.slice y.S y.stats.length y.sc)).rd HY7.out HKL.out
               generalize (((((w7.setCell ⟨wr.heap.size, 0, none⟩ (.int .i64 y.kind)).setCell ⟨wr.heap.size, 1, none⟩ (.slice y.E y.xs.length y.ec)).setCell ⟨wr.heap.size, 2, none⟩ (.int .u64 y.number)).setCell ⟨wr.heap.size, 3, none⟩ (str y.text)).setCell ⟨wr.heap.size, 4, none⟩ (.slice y.S y.stats.length y.sc)) = W8 at hb8 hyb hyr ⊢
               clear z0 z1 z2 z3 z4 f0 f1 f2 f3 f4
               go_wp2_with fail
               go_meet
               exact ⟨_, y, rfl, rfl, rfl, HY7.out, hyr, hyb, hb8⟩))
        case rest =>
          obtain ⟨yb, y, rfl, rfl, rfl, hyv, hyr, hyb, hb8⟩ := hcut
          obtain ⟨W8, hW8⟩ : ∃ W8, W8 = wc := ⟨_, rfl⟩
          rw [← hW8] at hyr hyb hb8 ⊢
          have hks2 := fun (W : World) (hW : Below W8.heap.size W8 W) => (⟨g0 W (hb8.trans (hW.mono hb8.size)), g1 W (hb8.trans (hW.mono hb8.size)), g2 W (hb8.trans (hW.mono hb8.size)), g3 W (hb8.trans (hW.mono hb8.size)), g4 W (hb8.trans (hW.mono hb8.size)), g5 W (hb8.trans (hW.mono hb8.size)), g6 W (hb8.trans (hW.mono hb8.size)), g7 W (hb8.trans (hW.mono hb8.size)), g8 W (hb8.trans (hW.mono hb8.size)), g9 W (hb8.trans (hW.mono hb8.size)), g10 W (hb8.trans (hW.mono hb8.size)), g11 W (hb8.trans (hW.mono hb8.size)), g12 W (hb8.trans (hW.mono hb8.size)), g13 W (hb8.trans (hW.mono hb8.size)), g14 W (hb8.trans (hW.mono hb8.size)), g15 W (hb8.trans (hW.mono hb8.size)), (hyb.later hW).cell 0, (hyb.later hW).cell 1, (hyb.later hW).cell 2, (hyb.later hW).cell 3, (hyb.later hW).cell 4⟩ : W.cell? ⟨gA, oA + i * 16, none⟩ = some (.int .i64 p.C.v) ∧ W.cell? ⟨gA, oA + i * 16 + 1, none⟩ = some (.slice p.C.K p.C.c.keys.length p.C.kc) ∧ W.cell? ⟨gA, oA + i * 16 + 2, none⟩ = some (.int .u64 p.C.c.flags) ∧ W.cell? ⟨gA, oA + i * 16 + 3, none⟩ = some (.int .i64 p.C.c.exptime) ∧ W.cell? ⟨gA, oA + i * 16 + 4, none⟩ = some (.int .u64 p.C.c.token) ∧ W.cell? ⟨gA, oA + i * 16 + 5, none⟩ = some (.int .u64 p.C.c.delta) ∧ W.cell? ⟨gA, oA + i * 16 + 6, none⟩ = some (.slice p.C.D p.C.c.data.length p.C.dc) ∧ W.cell? ⟨gA, oA + i * 16 + 7, none⟩ = some (.bool p.C.c.noreply) ∧ W.cell? ⟨gA, oA + i * 16 + 8, none⟩ = some (.bool p.C.c.large) ∧ W.cell? ⟨gA, oA + i * 16 + 9, none⟩ = some (.slice p.C.M p.C.c.metas.length p.C.mc) ∧ W.cell? ⟨gA, oA + i * 16 + 10, none⟩ = some (str p.C.c.what) ∧ W.cell? ⟨gA, oA + i * 16 + 11, none⟩ = some (.int .i64 p.R.kind) ∧ W.cell? ⟨gA, oA + i * 16 + 12, none⟩ = some (.slice p.R.E p.R.xs.length p.R.ec) ∧ W.cell? ⟨gA, oA + i * 16 + 13, none⟩ = some (.int .u64 p.R.number) ∧ W.cell? ⟨gA, oA + i * 16 + 14, none⟩ = some (str p.R.text) ∧ W.cell? ⟨gA, oA + i * 16 + 15, none⟩ = some (.slice p.R.S p.R.stats.length p.R.sc) ∧ W.cell? ⟨yb, 0, none⟩ = some (.int .i64 y.kind) ∧ W.cell? ⟨yb, 1, none⟩ = some (.slice y.E y.xs.length y.ec) ∧ W.cell? ⟨yb, 2, none⟩ = some (.int .u64 y.number) ∧ W.cell? ⟨yb, 3, none⟩ = some (str y.text) ∧ W.cell? ⟨yb, 4, none⟩ = some (.slice y.S y.stats.length y.sc))
          have hq8 : Below W8.heap.size W8 W8 := Below.refl _ _
          have hq8d : Below W8.heap.size W8 W8.drew := (Below.refl _ _).drew
          have hsame := fun (W : World) (x y : AnsX) (h1 : AnsRd W x) (h2 : AnsRd W y) (h3 : x.v = y.v) => same_answers h1 h2 h3
          have HKS2 := Lib.hid hks2
          have HYV := Lib.hid hyv
          have HYR := Lib.hid hyr
          have HB8 := Lib.hid hb8
          have HSA := Lib.hid hsame
          have hwr : IntKind.i64.wrap (((outR js).length : Int) - (a : Int)) = ((outR js).length : Int) - (a : Int) := by rw [IntKind.wrap_i64]; have := HLEN.out; omega
          have hle1 : decide ((out.length : Int) < 1) = false := decide_eq_false (by omega)
          have hle2 : ¬ (((outR js).length : Int) - (a : Int) < (out.length : Int)) := by have := HLEN.out; omega
          have hle3 : decide (((outR js).length : Int) - (a : Int) < (out.length : Int)) = false := decide_eq_false hle2
          clear hW8 hyv hyr hyb hb8 hks2 hsame g0 g1 g2 g3 g4 g5 g6 g7 g8 g9 g10 g11 g12 g13 g14 g15 hsl hbd hbr hbz
          go_upto_region 15 with fail
          go_cut [113] (fun u wx => u = .bool false ∧ Below W8.heap.size W8 wx)
          case first =>
            go_region_held3 (fun w' => w'.cell? ⟨gA, oA + i * 16, none⟩ = some (.int .i64 p.C.v) ∧ w'.cell? ⟨gA, oA + i * 16 + 1, none⟩ = some (.slice p.C.K p.C.c.keys.length p.C.kc) ∧ w'.cell? ⟨gA, oA + i * 16 + 2, none⟩ = some (.int .u64 p.C.c.flags) ∧ w'.cell? ⟨gA, oA + i * 16 + 3, none⟩ = some (.int .i64 p.C.c.exptime) ∧ w'.cell? ⟨gA, oA + i * 16 + 4, none⟩ = some (.int .u64 p.C.c.token) ∧ w'.cell? ⟨gA, oA + i * 16 + 5, none⟩ = some (.int .u64 p.C.c.delta) ∧ w'.cell? ⟨gA, oA + i * 16 + 6, none⟩ = some (.slice p.C.D p.C.c.data.length p.C.dc) ∧ w'.cell? ⟨gA, oA + i * 16 + 7, none⟩ = some (.bool p.C.c.noreply) ∧ w'.cell? ⟨gA, oA + i * 16 + 8, none⟩ = some (.bool p.C.c.large) ∧ w'.cell? ⟨gA, oA + i * 16 + 9, none⟩ = some (.slice p.C.M p.C.c.metas.length p.C.mc) ∧ w'.cell? ⟨gA, oA + i * 16 + 10, none⟩ = some (str p.C.c.what) ∧ w'.cell? ⟨gA, oA + i * 16 + 11, none⟩ = some (.int .i64 p.R.kind) ∧ w'.cell? ⟨gA, oA + i * 16 + 12, none⟩ = some (.slice p.R.E p.R.xs.length p.R.ec) ∧ w'.cell? ⟨gA, oA + i * 16 + 13, none⟩ = some (.int .u64 p.R.number) ∧ w'.cell? ⟨gA, oA + i * 16 + 14, none⟩ = some (str p.R.text) ∧ w'.cell? ⟨gA, oA + i * 16 + 15, none⟩ = some (.slice p.R.S p.R.stats.length p.R.sc) ∧ w'.cell? ⟨yb, 0, none⟩ = some (.int .i64 y.kind) ∧ w'.cell? ⟨yb, 1, none⟩ = some (.slice y.E y.xs.length y.ec) ∧ w'.cell? ⟨yb, 2, none⟩ = some (.int .u64 y.number) ∧ w'.cell? ⟨yb, 3, none⟩ = some (str y.text) ∧ w'.cell? ⟨yb, 4, none⟩ = some (.slice y.S y.stats.length y.sc)) (first | exact HKS2.out _ hq8 | exact HKS2.out _ hq8d | exact HKS2.out _ hb13W | exact HKS2.out _ hb14W) (first
              | (go_at_call 17; (with_reducible refine (HNM.out _ _).mono ?_); rintro e wn ⟨rfl, rfl⟩)
              | (go_at_call 31; refine (HKP.out _ (HB8.out.trans (hq8d.mono HB8.out.size))).mono ?_; rintro e w13 ⟨hb13, z, hz, rfl, hzr⟩; have hb13W : Below W8.heap.size W8 w13 := hq8d.trans hb13; have HZ := Lib.hid hz; have HZR := Lib.hid hzr; clear hb13 hz hzr)
              | (go_at_call 27; refine (HSA.out w13 y z (HYR.out.below hb13W) HZR.out (HYV.out.trans HZ.out.symm)).mono ?_; rintro e w14 ⟨rfl, hb14⟩; have hb14W : Below W8.heap.size W8 w14 := hb13W.trans (hb14.mono hb13W.size); clear hb14))
            all_goals
              go_wp2_with fail
              go_meet
              exact ⟨rfl, hb14W⟩
          case rest =>
            obtain ⟨rfl, hbc⟩ := hcut
            have hfin : Below w0.heap.size w0 wc := hb.trans ((HB8.out.trans (hbc.mono HB8.out.size)).mono hb.size)
            have HFIN := Lib.hid hfin
            clear hfin hbc hq8 hq8d HKS2
            go_wp2_with fail
            exact ⟨⟨i + 1, by omega, by go_num, by rw [HNL.out]; go_num, HFIN.out⟩, by show js.length - ((i : Int) + 1).toNat < js.length - (i : Int).toNat; omega⟩
      · obtain rfl : i = js.length := by omega
        have hi1 : decide ((js.length : Int) < (js.length : Int)) = false := decide_eq_false (by omega)
        have hbw := hbw0.trans (hb.mono hbw0.size)
        have hwk2 := HWK.out wr hbw
        have HW2 := Lib.hid hwk2
        have HBW := Lib.hid hbw
        rw [List.take_length]
        clear hlt hwk2 hbw
        go_wp2_with (go_at_call 23; refine HW2.out.mono ?_; rintro e w20 ⟨rfl, hb20⟩; have HB20 := Lib.hid hb20; clear hb20)
        rw [← HR.out]
        exact ⟨rfl, HBW.out.trans (HB20.out.mono HBW.out.size)⟩
end Go.Proofs.YtnbeeehfapjpdaaGreatDoor
