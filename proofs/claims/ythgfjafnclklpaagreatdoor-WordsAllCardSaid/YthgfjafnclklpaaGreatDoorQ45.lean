/- Walk of the statement WordsAll. From the listed table to what the walks ask. An argument of type []Row, opened. The row WordsAll; the statement. -/
import Derived.Test.YthgfjafnclklpaaGreatDoorQ40
import Derived.Test.YthgfjafnclklpaaGreatDoorQ42
import Derived.Test.YthgfjafnclklpaaGreatDoorQ39
import Derived.Test.YthgfjafnclklpaaGreatDoorQ44
import Derived.Deep.RegionHeld3
import Derived.Test.YthgfjafnclklpaaGreatDoorKw
import Derived.Lib.LaidTab
import Derived.Test.YthgfjafnclklpaaGreatDoorPc
section
namespace Go.Proofs.YthgfjafnclklpaaGreatDoor
attribute [local go_sem ↓] Go.wp_at_zero Go.wp_at_succ
open Go.RowKit

/-- bytes and a limit, as they lie in a row -/
structure RowArg where
  A : Option Addr
  cap : Nat
  l : Sp.Bs
  lim : Int
def RowArg.cells (a : RowArg) : List Value := [.slice a.A a.l.length a.cap, .int .i64 a.lim]
structure RowArgs (w : World) (A : Option Addr) (xs : List RowArg) : Prop where
  row : RowAt w A (xs.flatMap RowArg.cells)
  each : ∀ x ∈ xs, RowAt w x.A (bytesV x.l) ∧ (x.A = none → x.cap = 0) ∧ x.l.length ≤ x.cap ∧ x.lim ≤ 9223372036854775807
theorem RowArgs.cell {w : World} {A : Option Addr} {xs : List RowArg} (h : RowArgs w A xs) {k : Nat} {x : RowArg} (hx : xs[k]? = some x) : ∃ g o, A = some ⟨g, o, none⟩ ∧ g < w.heap.size ∧ w.cell? ⟨g, o + k * 2, none⟩ = some (.slice x.A x.l.length x.cap) ∧ w.cell? ⟨g, o + k * 2 + 1, none⟩ = some (.int .i64 x.lim) := by
  have m0 : (xs.flatMap RowArg.cells)[k * 2 + 0]? = some (.slice x.A x.l.length x.cap) := fm_get (k := 2) (fun _ _ => rfl) hx (by decide)
  have m1 : (xs.flatMap RowArg.cells)[k * 2 + 1]? = some (.int .i64 x.lim) := fm_get (k := 2) (fun _ _ => rfl) hx (by decide)
  rcases h.row with h0 | ⟨g, o, h1, h2, h3⟩
  · rw [h0] at m0; simp at m0
  · exact ⟨g, o, h1, h2, h3 _ _ m0, by have := h3 _ _ m1; rwa [← Nat.add_assoc] at this⟩

set_option maxHeartbeats 1000000 in
theorem clip_any {w : World} {A : Option Addr} {cap : Nat} {l : Sp.Bs} (hrow : RowAt w A (bytesV l)) (hc : l.length ≤ cap) :
    Calls Tryz.prog 25 #[.slice A l.length cap] w fun e w' => e = .returned (.slice A (l.take 65536).length cap) ∧ w = w' := by
  by_cases hl : 65536 < l.length
  · obtain ⟨b, o, rfl⟩ : ∃ b o, A = some ⟨b, o, none⟩ := by
      rcases hrow with h0 | ⟨b, o, h1, _⟩
      · have : l = [] := by simpa [bytesV] using h0
        rw [this] at hl; simp at hl
      · exact ⟨b, o, h1⟩
    have h1 : (65536 : Int) < (l.length : Int) := by omega
    have h2 : (65536 : Int) ≤ (cap : Int) := by omega
    have h3 : decide (65536 < l.length) = true := decide_eq_true hl
    have hm : min 65536 l.length = 65536 := by omega
    rw [List.length_take, hm]
    clear hrow hl hc hm
    go_enter Tryz.func25, Tryz.ntmps25
    go_wp2_with fail
    go_ret
    exact ⟨rfl, rfl⟩
  · have h1 : decide ((65536 : Int) < (l.length : Int)) = false := decide_eq_false (by omega)
    have h3 : decide (65536 < l.length) = false := decide_eq_false hl
    have hm : min 65536 l.length = l.length := by omega
    rw [List.length_take, hm]
    clear hrow hl hc hm
    go_enter Tryz.func25, Tryz.ntmps25
    go_wp2_with fail
    all_goals go_ret
    all_goals exact ⟨rfl, rfl⟩

/-- steps that were told, as they stand -/
structure Got (lo : Nat) (W : World) (outs : List Sp.StepV) (A : Option Addr) (c : Nat) (tcs : List Value) (bl : List Nat) : Prop where
  own : W.ownsRow lo 99 16 (.slice A outs.length c) outs.length tcs
  st : StepsMem W outs tcs bl
  nd : bl.Nodup
  ge : ∀ k ∈ bl, lo ≤ k
theorem Got.lt {lo : Nat} {W : World} {outs : List Sp.StepV} {A : Option Addr} {c : Nat} {tcs : List Value} {bl : List Nat} (h : Got lo W outs A c tcs bl) : ∀ k, k ∈ rowBlock (.slice A outs.length c) ∨ k ∈ bl → lo ≤ k ∧ k < W.heap.size := fun k hk => by
  rcases hk with hk | hk
  · exact ⟨own_ge h.own k hk, own_lt h.own k hk⟩
  · exact ⟨h.ge k hk, h.st.lt k hk⟩
theorem Got.same {lo : Nat} {W W' : World} {outs : List Sp.StepV} {A : Option Addr} {c : Nat} {tcs : List Value} {bl : List Nat} (h : Got lo W outs A c tcs bl) (hs : ∀ k, k ∈ rowBlock (.slice A outs.length c) ∨ k ∈ bl → W'.heap[k]? = W.heap[k]?) : Got lo W' outs A c tcs bl :=
  ⟨own_same h.own fun k hk => hs k (.inl hk), h.st.same fun k hk => hs k (.inr hk), h.nd, h.ge⟩
theorem Got.later {lo : Nat} {W W' : World} {outs : List Sp.StepV} {A : Option Addr} {c : Nat} {tcs : List Value} {bl : List Nat} (h : Got lo W outs A c tcs bl) (hb : Below W.heap.size W W') : Got lo W' outs A c tcs bl := h.same fun k hk => hb.block k (h.lt k hk).2
theorem AllPost.got {w w' : World} {x : List Sp.StepV × Nat} {e : Ending} (h : AllPost w x e w') : ∃ A c tcs bl, e = .returned (.tuple #[.slice A x.1.length c, .int .i64 x.2]) ∧ Got w.heap.size w' x.1 A c tcs bl ∧ Below w.heap.size w w' := by
  obtain ⟨A, c, tcs, bl, h1, h2, h3, h4, h5, h6⟩ := h
  exact ⟨A, c, tcs, bl, h1, ⟨h2, h3, h4, h5⟩, h6⟩
theorem Got.sameSteps {lo lo2 : Nat} {W : World} {outs : List Sp.StepV} {A B : Option Addr} {c d : Nat} {tcs tds : List Value} {bl bm : List Nat} (h : Got lo W outs A c tcs bl) (k : Got lo2 W outs B d tds bm) (hl : outs.length ≤ 1000000000) (hf : StepsFit outs) :
    Calls Tryz.prog 28 #[.slice A outs.length c, .slice B outs.length d] W fun e w' => e = .returned (.bool true) ∧ Below W.heap.size W w' :=
  sameSteps_same hl hf (RowAt.of_own h.own) (RowAt.of_own k.own) h.st.at k.st.at
/-- a byte of what was lent is written -/
theorem LentB.set {w : World} {g c k : Nat} {l : Sp.Bs} {b : UInt8} (h : LentB w g c l) (hk : k < l.length) : LentB (w.setCell ⟨g, k, none⟩ (.int .u8 b.toNat)) g c (l.set k b) := by
  have hlen : (l.set k b).length = l.length := List.length_set
  refine ⟨by rw [hlen]; exact h.room, h.small, by simpa [World.setCell] using h.lt, fun j hj => by rw [isSome_setCell, World.frozen?_setCell]; exact h.there j hj, fun j hj c' u hu => ?_⟩
  rw [hlen] at hj
  have hc' : c' = 0 := by
    have := (List.getElem?_eq_some_iff.1 hu).1
    rw [lentF_length] at this; omega
  subst hc'
  rw [Nat.mul_one, Nat.add_zero]
  by_cases hjk : j = k
  · subst hjk
    rw [lentF_low (by rw [hlen]; exact hk)] at hu
    have hu2 : u = .int .u8 b.toNat := by
      have : (l.set j b).getD j 0 = b := by rw [List.getD_eq_getElem?_getD, List.getElem?_set_self hk]; rfl
      rw [this] at hu
      simpa using hu.symm
    rw [hu2]
    have h1 := (h.there j (by have := h.room; omega)).1
    obtain ⟨v, hv⟩ := Option.isSome_iff_exists.1 h1
    exact World.cell?_setCell_same' _ _ _ h1
  · rw [World.cell?_setCell_other _ _ _ _ (fun e => hjk (by injection e with _ e _; exact e.symm))]
    have := h.cells j hj 0 u (by
      rw [← hu]
      unfold lentF
      rw [hlen, List.getD_eq_getElem?_getD, List.getD_eq_getElem?_getD, List.getElem?_set_ne (Ne.symm hjk)])
    rwa [Nat.mul_one, Nat.add_zero] at this
theorem oneV_data {lim : Nat} {l : Sp.Bs} {t : Sp.StepV} {n : Nat} (h : Sp.oneV lim l = some (t, n)) : t.cmd.data.length ≤ l.length := by
  unfold Sp.oneV at h
  split at h
  · cases h
  · split at h
    · split at h
      · rw [Option.map_eq_some_iff] at h
        obtain ⟨x, _, e⟩ := h
        injection e with e1 _
        subst e1; exact Nat.zero_le _
      · injection h with h; injection h with e1 _
        subst e1; exact Nat.zero_le _
    · rename_i c m hr
      have hs : c.data.length ≤ l.length := by rw [(lineOf_ok hr).2.2.1]; exact Nat.zero_le _
      split at h
      · injection h with h; injection h with e1 _
        subst e1; exact hs
      · rw [Option.map_eq_some_iff] at h
        obtain ⟨x, _, e⟩ := h
        injection e with e1 _
        subst e1
        split
        · exact hs
        · split
          · rename_i i _ _ _ _ _ _
            show (List.take _ (List.drop _ l)).length ≤ l.length
            rw [List.length_take, List.length_drop]; omega
          · exact Nat.zero_le _
theorem allV_data (lim : Nat) : ∀ (r a : Nat) (l : Sp.Bs), (Sp.allV lim r a l).1.length ≤ r ∧ ∀ t ∈ (Sp.allV lim r a l).1, t.cmd.data.length ≤ l.length
  | 0, _, _ => ⟨by simp [Sp.allV], fun t h => by simp [Sp.allV] at h⟩
  | r + 1, a, l => by
    unfold Sp.allV
    split
    · exact ⟨Nat.zero_le _, fun t h => by simp at h⟩
    · rename_i t0 n ho
      have hs := oneV_data ho
      split
      · exact ⟨by simp, fun t h => by simp at h; subst h; exact hs⟩
      · obtain ⟨g1, g2⟩ := allV_data lim r (a + n) (l.drop n)
        refine ⟨by simpa using g1, fun t h => ?_⟩
        rcases List.mem_cons.1 h with rfl | h
        · exact hs
        · have := g2 t h
          rw [List.length_drop] at this; omega
structure AllSmall (P : List Sp.StepV × Nat) : Prop where
  len : P.1.length ≤ 100000
  fit : StepsFit P.1
  kd : ∀ t ∈ P.1, t.cmd.keys.length ≤ 1000000000 ∧ t.cmd.data.length ≤ 70368744177664
  ms : ∀ t ∈ P.1, t.cmd.metas.length ≤ 1000000
theorem AllSmall.of (lim : Nat) {l : Sp.Bs} (hl : l.length ≤ 65536) : AllSmall (Sp.allV lim (l.length + 1) 0 l) := by
  obtain ⟨h1, h2⟩ := allV_data lim (l.length + 1) 0 l
  have h3 := allV_short lim (l.length + 1) 0 l
  exact ⟨by omega, fun t ht => ⟨Nat.le_trans (h3 t ht).1 (by decide), Nat.le_trans (h3 t ht).2 (by decide)⟩, fun t ht => ⟨Nat.le_trans (h3 t ht).1 (by decide), by have := h2 t ht; omega⟩, fun t ht => Nat.le_trans (h3 t ht).2 (by decide)⟩

/-- a pending list of steps is taken into the Book -/
theorem steps_go {w W9 W : World} {bk mk N lo hi : Nat} {f9 f : Nat → Lab} {X : List Nat} (h : WlG w bk mk f W) (hk : Keep X f9 W9 f W) (hz9 : ∀ k, N ≤ k → k < W9.heap.size → f9 k = (0, 0)) (hN : w.heap.size ≤ N) (hlo : N ≤ lo)
    {outs : List Sp.StepV} {A : Option Addr} {c : Nat} {tcs : List Value} {bl : List Nat} (G : Got lo W9 outs A c tcs bl) (hhi : ∀ k, k ∈ rowBlock (.slice A outs.length c) ∨ k ∈ bl → k < hi) (hX : ∀ k ∈ X, ¬ (lo ≤ k ∧ k < hi)) (hlen : outs.length ≤ 100000000) (hsm : ∀ t ∈ outs, t.cmd.keys.length ≤ 1000000000 ∧ t.cmd.data.length ≤ 70368744177664) :
    Calls Tryz.prog 29 #[.pointer (some ⟨bk, 0, none⟩), .slice A outs.length c] W fun e w' => e = .returned (.tuple #[]) ∧ ∃ f' X', WlG w bk mk f' w' ∧ Keep (X ++ X') f9 W9 f' w' ∧ ∀ k ∈ X', (lo ≤ k ∧ k < hi) ∧ NoFlag W9 k := by
  have hrg : ∀ k, k ∈ rowBlock (.slice A outs.length c) ∨ k ∈ bl → (lo ≤ k ∧ k < hi) ∧ k < W9.heap.size := fun k hk => ⟨⟨(G.lt k hk).1, hhi k hk⟩, (G.lt k hk).2⟩
  have hsame : ∀ k, lo ≤ k → k < W9.heap.size → W.heap[k]? = W9.heap[k]? := fun k h1 h2 => hk.heap k h2 (by rw [hz9 k (by omega) h2]; exact inner_zero)
  have GW := G.same (W' := W) (fun k hk => hsame k (G.lt k hk).1 (G.lt k hk).2)
  refine (bookSteps_any h GW.own GW.st GW.nd hlen hsm (fun k hx => ?_)).mono ?_
  · obtain ⟨h1, h2⟩ := hrg k hx
    exact ⟨(hk.lab k h2 (fun e => hX k e h1)).trans (hz9 k (by omega) h2), by omega⟩
  · rintro e w' ⟨rfl, f', X', h1, h2, h3⟩
    refine ⟨rfl, f', X', h1, hk.trans h2, fun k hx => ?_⟩
    obtain ⟨g1, cur, e, g2, g3⟩ := h3 k hx
    obtain ⟨g4, g5⟩ := hrg k g1
    exact ⟨g4, cur, e, g2, (hsame k g4.1 g5).symm.trans g3⟩
/-- the flags of a list of steps are taken in -/
theorem marks_go {w W9 W : World} {bk mk N lo hi : Nat} {f9 f : Nat → Lab} {X : List Nat} (h : WlG w bk mk f W) (hk : Keep X f9 W9 f W) (hz9 : ∀ k, N ≤ k → k < W9.heap.size → f9 k = (0, 0)) (hN : w.heap.size ≤ N) (hlo : N ≤ lo)
    {outs : List Sp.StepV} {A : Option Addr} {c : Nat} {tcs : List Value} {bl : List Nat} (G : Got lo W9 outs A c tcs bl) (hhi : ∀ k, k ∈ rowBlock (.slice A outs.length c) ∨ k ∈ bl → k < hi) (hX : ∀ k ∈ X, (lo ≤ k ∧ k < hi) → NoFlag W9 k) (hlen : outs.length ≤ 100000000) (hsm : ∀ t ∈ outs, t.cmd.metas.length ≤ 1000000) :
    Calls Tryz.prog 30 #[.pointer (some ⟨mk, 0, none⟩), .slice A outs.length c] W fun e w' => e = .returned (.tuple #[]) ∧ ∃ f' X', WlG w bk mk f' w' ∧ Keep (X ++ X') f9 W9 f' w' ∧ ∀ k ∈ X', lo ≤ k ∧ k < hi := by
  have hrg : ∀ k, k ∈ rowBlock (.slice A outs.length c) ∨ k ∈ bl → (lo ≤ k ∧ k < hi) ∧ k < W9.heap.size := fun k hk => ⟨⟨(G.lt k hk).1, hhi k hk⟩, (G.lt k hk).2⟩
  have hsame : ∀ k, lo ≤ k → k < W9.heap.size → W.heap[k]? = W9.heap[k]? := fun k h1 h2 => hk.heap k h2 (by rw [hz9 k (by omega) h2]; exact inner_zero)
  have GW := G.same (W' := W) (fun k hk => hsame k (G.lt k hk).1 (G.lt k hk).2)
  refine (flagsSteps_any h GW.own GW.st GW.nd hlen hsm (fun k hx hf => ?_) (fun k hx => ?_)).mono ?_
  · obtain ⟨h1, h2⟩ := hrg k (.inr hx)
    have hnx : k ∉ X := fun e => hf (by
      obtain ⟨cur, e1, g2, g3⟩ := hX k e h1
      exact ⟨cur, e1, g2, (hsame k h1.1 h2).trans g3⟩)
    exact ⟨(hk.lab k h2 hnx).trans (hz9 k (by omega) h2), by omega⟩
  · obtain ⟨h1, h2⟩ := hrg k (.inl hx)
    by_cases hxx : k ∈ X
    · exact hk.taken k h2 hxx
    · rw [hk.lab k h2 hxx, hz9 k (by omega) h2]; exact inner_zero
  · rintro e w' ⟨rfl, f', X', h1, h2, h3⟩
    exact ⟨rfl, f', X', h1, hk.trans h2, fun k hx => (hrg k (.inr (h3 k hx).1)).1⟩
theorem over_go {w W5 W : World} {n0 g c : Nat} {l : Sp.Bs} (h : LentB W g c l) (hl : l.length ≤ 140737488351232) (hp : W5.heap.size ≤ W.heap.size ∧ ∀ j, j < W5.heap.size → j ≠ g → W.heap[j]? = W5.heap[j]?) (hb : Below n0 w W) (hn : n0 ≤ g) :
    Calls Tryz.prog 21 #[.slice (some ⟨g, 0, none⟩) l.length c] W fun e w' => e = .returned (.tuple #[]) ∧ (W5.heap.size ≤ w'.heap.size ∧ ∀ j, j < W5.heap.size → j ≠ g → w'.heap[j]? = W5.heap[j]?) ∧ Below n0 w w' := by
  refine (over_any (f := fun k => if k = g then (9, 9) else (0, 0)) h (if_pos rfl) hl).mono ?_
  rintro e w' ⟨rfl, ho⟩
  have hne : ∀ j, j ≠ g → ¬ ((if j = g then ((9, 9) : Lab) else (0, 0)) = (9, 9)) := fun j hj => by rw [if_neg hj]; decide
  exact ⟨rfl, ⟨Nat.le_trans hp.1 ho.size, fun j h1 h2 => (ho.block j (Nat.lt_of_lt_of_le h1 hp.1) (hne j h2)).trans (hp.2 j h1 h2)⟩, { os := ho.os.trans hb.os, tape := ho.tape.trans hb.tape, output := ho.output.trans hb.output, size := Nat.le_trans hb.size ho.size, block := fun j hj => (by
    rcases Nat.lt_or_ge j W.heap.size with h1 | h1
    · exact (ho.block j h1 (hne j (by omega))).trans (hb.block j hj)
    · have := h.lt
      omega) }⟩
def PastB (V : World) (g : Nat) (W : World) : Prop := V.heap.size ≤ W.heap.size ∧ ∀ q, q < V.heap.size → q ≠ g → W.heap[q]? = V.heap[q]?
theorem PastB.later {V W W' : World} {g : Nat} (h : PastB V g W) (hb : Below W.heap.size W W') : PastB V g W' :=
  ⟨Nat.le_trans h.1 hb.size, fun q q1 q2 => (hb.block q (Nat.lt_of_lt_of_le q1 h.1)).trans (h.2 q q1 q2)⟩
attribute [-go_sem] storeVar loadVar
attribute [local go_sem] storeVar_intR storeVar_sliceR loadVar_intR loadVar_rowR loadVar_u8B

set_option maxHeartbeats 4000000 in
set_option maxRecDepth 100000 in
theorem wordsAll_any {w : World} (hg : Glob w) (ht : TabAt w) {A : Option Addr} {capA : Nat} {xs : List RowArg} (hA : RowArgs w A xs) (hn : xs.length ≤ 9223372036854775807) :
    Calls Tryz.prog 5 #[.slice A xs.length capA] w fun e w' => e = .returned (.bool true) ∧ Below w.heap.size w w' := by
  generalize hR : (fun (e : Ending) (w' : World) => e = .returned (.bool true) ∧ Below w.heap.size w w') = R
  have HR := Lib.hid hR
  have HG := Lib.hid hg
  have HT := Lib.hid ht
  have HA := Lib.hid hA
  have hst := WlF.start w
  obtain ⟨w0, hw0⟩ : ∃ w0, w0 = ((w.alloc (.cells #[.slice none 0 0, .slice none 0 0, .slice none 0 0, .slice none 0 0, .slice none 0 0, .slice none 0 0, .slice none 0 0, .slice none 0 0, .slice none 0 0, .slice none 0 0, .slice none 0 0, .slice none 0 0, .slice none 0 0, .slice none 0 0, .slice none 0 0, .slice none 0 0, .slice none 0 0, .slice none 0 0, .slice none 0 0, .slice none 0 0, .slice none 0 0, .slice none 0 0, .slice none 0 0, .slice none 0 0, .slice none 0 0, .slice none 0 0, .int .i64 0] 32)).alloc (.cells #[.slice none 0 0] 57)) := ⟨_, rfl⟩
  replace hst : ∃ f, WlF w w.heap.size (w.heap.size + 1) f 0 0 w0 := by rw [hw0]; exact hst
  obtain ⟨bk, hbk⟩ : ∃ bk, bk = w.heap.size := ⟨_, rfl⟩
  obtain ⟨mk, hmk⟩ : ∃ mk, mk = w.heap.size + 1 := ⟨_, rfl⟩
  rw [← hmk] at hst
  have hst2 : ∃ f, WlG w bk mk f w0 := by obtain ⟨f, hf⟩ := hst; exact ⟨f, by rw [hbk]; exact hf.g⟩
  have HST := Lib.hid hst2
  have HBK := Lib.hid hbk
  have HMK := Lib.hid hmk
  have HW0 := Lib.hid hw0
  clear hR hg ht hA hst hst2 hbk hmk hw0
  go_enter Tryz.func5, Tryz.ntmps5
  go_upto_region 3 with fail
  rw [← HW0.out, ← HMK.out, ← HBK.out]
  go_wp2_with fail
  go_loopw [5, 6, 7, 8, 9, 10, 11, 12, 13, 14, 15, 16, 17, 18] (fun iv _ _ _ _ _ _ _ _ _ _ _ _ _ wr => ∃ k : Nat, k ≤ xs.length ∧ iv = .int .i64 k ∧ ∃ f, WlG w bk mk f wr) (fun iv _ _ _ _ _ _ _ _ _ _ _ _ _ _ => xs.length - (intOf iv).toNat)
  case atStart => exact ⟨0, Nat.zero_le _, rfl, HST.out⟩
  case round =>
    obtain ⟨k, hk, rfl, f, hm⟩ := hrel
    obtain ⟨wo, rfl⟩ : ∃ wo, wo = wr := ⟨wr, rfl⟩
    by_cases hlt : k < xs.length ∧ k < 40
    · obtain ⟨x, hx⟩ : ∃ x, xs[k]? = some x := ⟨xs[k]'hlt.1, List.getElem?_eq_getElem _⟩
      obtain ⟨hrow, hxa, hxc, hxm⟩ := HA.out.each x (List.mem_of_getElem? hx)
      obtain ⟨g, o, hAe, hglt, hcell, hcelm⟩ := HA.out.cell hx
      subst hAe
      have y0 : wo.cell? ⟨g, o + k * 2, none⟩ = some (.slice x.A x.l.length x.cap) := (hm.below.cell (p := ⟨g, o + k * 2, none⟩) hglt).trans hcell
      have hy1 : ∀ W, Below w.heap.size w W → W.cell? ⟨g, o + k * 2 + 1, none⟩ = some (.int .i64 x.lim) := fun W hW => (hW.cell (p := ⟨g, o + k * 2 + 1, none⟩) hglt).trans hcelm
      have y1 := hy1 wo hm.below
      have hk1 : (k : Int) < (xs.length : Int) := by omega
      have hk2 : (k : Int) < 40 := by omega
      have hme : xs.length - ((k : Int) + 1).toNat < xs.length - (k : Int).toNat := by omega
      have hclp := clip_any (hrow.below hm.below) hxc
      obtain ⟨lb, hlb⟩ : ∃ lb, lb = x.l.take 65536 := ⟨_, rfl⟩
      rw [← hlb] at hclp
      have hlen : lb.length ≤ 65536 := by rw [hlb, List.length_take]; omega
      have hlc : lb.length ≤ x.cap := by rw [hlb, List.length_take]; omega
      have hrowb : RowAt w x.A (bytesV lb) := by
        rw [hlb]
        have := hrow.takeU 65536
        simpa [bytesV] using this
      have hra := (refAll_any (cap := x.cap) (hrowb.below hm.below) hlc (by omega) hxm).mono fun e w' h => AllPost.got h
      obtain ⟨P1, hP1⟩ : ∃ P1, P1 = Sp.allV x.lim.toNat (lb.length + 1) 0 lb := ⟨_, rfl⟩
      rw [← hP1] at hra
      have hwa : ∀ (W : World) (g c : Nat), Below w.heap.size w W → LentB W g c lb → Calls Tryz.prog 27 #[.slice (some ⟨g, 0, none⟩) lb.length c, .int .i64 x.lim] W fun e w' => ∃ A c tcs bl, e = .returned (.tuple #[.slice A P1.1.length c, .int .i64 P1.2]) ∧ Got W.heap.size w' P1.1 A c tcs bl ∧ Below W.heap.size W w' := fun W g c hW hl => by
        rw [hP1]
        exact (all_any (HG.out.later hW) hl.row (by have := hl.room; omega) (fun h => by cases h) (by omega) hxm).mono fun e w' h => AllPost.got h
      have HM := Lib.hid hm
      have HLEN := Lib.hid hlen
      have HROWB := Lib.hid hrowb
      have HXA := Lib.hid hxa
      have HXM := Lib.hid hxm
      have HY1 := Lib.hid hy1
      have HME := Lib.hid hme
      have HCLP := Lib.hid hclp
      have HRA := Lib.hid hra
      have HWA := Lib.hid hwa
      have HP1 := Lib.hid hP1
      have HGL := Lib.hid hglt
      clear hm hrow hxa hxc hxm hcell hcelm hglt hy1 hme hclp hlb hlen hlc hrowb hra hwa hP1 hx hlt
      go_upto_region 7 with (go_at_call 25; refine HCLP.out.mono ?_; rintro e wc1 ⟨rfl, rfl⟩)
      go_upto_region 8 with (go_at_call 26; refine HRA.out.mono ?_; rintro e w1 ⟨A1, c1, tcs1, bl1, rfl, hgot1, hb1⟩; have HGOT1 := Lib.hid hgot1; have HB1 := Lib.hid hb1; clear hgot1 hb1)
      have hbw1 := HM.out.below.trans (HB1.out.mono HM.out.below.size)
      have hld := lend_any (c := x.cap) (HROWB.out.below hbw1) HXA.out (by have := HLEN.out; omega)
      have HBW1 := Lib.hid hbw1
      have HLD := Lib.hid hld
      clear hbw1 hld y0 y1
      go_upto_region 9 with (go_at_call 18; refine HLD.out.mono ?_; rintro e w2 ⟨g2, c2, rfl, hge2, hlb2, hb2⟩; have HGE2 := Lib.hid hge2; have HLB2 := Lib.hid hlb2; have HB2 := Lib.hid hb2; clear hge2 hlb2 hb2)
      have hbw2 := HBW1.out.trans (HB2.out.mono HBW1.out.size)
      have y1 := HY1.out w2 hbw2
      have hwa2 := HWA.out w2 g2 c2 hbw2 HLB2.out
      have HBW2 := Lib.hid hbw2
      have HWA2 := Lib.hid hwa2
      clear hbw2 hwa2
      go_upto_region 10 with (go_at_call 27; refine HWA2.out.mono ?_; rintro e w3 ⟨A3, c3, tcs3, bl3, rfl, hgot3, hb3⟩; have HGOT3 := Lib.hid hgot3; have HB3 := Lib.hid hb3; clear hgot3 hb3)
      have hbw3 := HBW2.out.trans (HB3.out.mono HBW2.out.size)
      have hlb3 := HLB2.out.later HB3.out
      have y1 := HY1.out w3 hbw3
      have hwa3 := HWA.out w3 g2 c2 hbw3 hlb3
      have HBW3 := Lib.hid hbw3
      have HLB3 := Lib.hid hlb3
      have HWA3 := Lib.hid hwa3
      clear hbw3 hlb3 hwa3
      go_upto_region 11 with (go_at_call 27; refine HWA3.out.mono ?_; rintro e w4 ⟨A4, c4, tcs4, bl4, rfl, hgot4, hb4⟩; have HGOT4 := Lib.hid hgot4; have HB4 := Lib.hid hb4; clear hgot4 hb4)
      have hbw4 := HBW3.out.trans (HB4.out.mono HBW3.out.size)
      have hlb4 := HLB3.out.later HB4.out
      have hint := intact_any (cb := x.cap) hlb4 (HROWB.out.below hbw4) (by have := HLEN.out; omega)
      have HBW4 := Lib.hid hbw4
      have HLB4 := Lib.hid hlb4
      have HINT := Lib.hid hint
      clear hbw4 hlb4 hint y1
      go_upto_region 13 with (go_at_call 20; refine HINT.out.mono ?_; rintro e w5 ⟨rfl, hb5⟩; have HB5 := Lib.hid hb5; clear hb5)
      have hbw5 := HBW4.out.trans (HB5.out.mono HBW4.out.size)
      have hlb5 := HLB4.out.later HB5.out
      have HBW5 := Lib.hid hbw5
      have HLB5 := Lib.hid hlb5
      have hg2w : w.heap.size ≤ g2 := Nat.le_trans HBW1.out.size HGE2.out
      have HG2W := Lib.hid hg2w
      clear hbw5 hlb5 hg2w
      obtain ⟨n, hnl⟩ : ∃ n, n = lb.length := ⟨_, rfl⟩
      have hn6 : n ≤ 65536 := by rw [hnl]; exact HLEN.out
      have HNL := Lib.hid hnl
      rw [← hnl]
      clear hnl
      go_wp2_with fail
      go_loopw [14] (fun kv wr => ∃ (j : Nat) (l2 : Sp.Bs), j ≤ n ∧ kv = .int .i64 j ∧ l2.length = n ∧ LentB wr g2 c2 l2 ∧ (w5.heap.size ≤ wr.heap.size ∧ ∀ q, q < w5.heap.size → q ≠ g2 → wr.heap[q]? = w5.heap[q]?) ∧ Below wo.heap.size wo wr) (fun kv _ => n - (intOf kv).toNat)
      case atStart => exact ⟨0, lb, Nat.zero_le _, rfl, HNL.out.symm, HLB5.out, ⟨Nat.le_refl _, fun _ _ _ => rfl⟩, (((HB1.out.trans (HB2.out.mono HB1.out.size)).trans (HB3.out.mono (Nat.le_trans HB1.out.size HB2.out.size))).trans (HB4.out.mono (Nat.le_trans HB1.out.size (Nat.le_trans HB2.out.size HB3.out.size)))).trans (HB5.out.mono (Nat.le_trans HB1.out.size (Nat.le_trans HB2.out.size (Nat.le_trans HB3.out.size HB4.out.size))))⟩
      case round =>
        obtain ⟨j, l2, hj, rfl, hl2, hlb, hpast, hbo⟩ := hrel
        have hg2o : wo.heap.size ≤ g2 := Nat.le_trans HB1.out.size HGE2.out
        by_cases hlj : j < n
        · have hj1 : (j : Int) < (n : Int) := by omega
          obtain ⟨b, hb⟩ : ∃ b, b = l2.getD (n - 1 - j) 0 := ⟨_, rfl⟩
          have hz := hlb.cells (n - 1 - j) (by omega) 0 (.int .u8 b.toNat) (by rw [lentF_low (by omega), ← hb]; rfl)
          rw [Nat.mul_one, Nat.add_zero] at hz
          obtain ⟨uo, hu⟩ := Option.isSome_iff_exists.1 (hlb.there j (by have := hlb.room; omega)).1
          have huf := (hlb.there j (by have := hlb.room; omega)).2
          have hw1 : IntKind.i64.wrap ((n : Int) - 1) = (n : Int) - 1 := by rw [IntKind.wrap_i64]; omega
          have hw2 : IntKind.i64.wrap ((n : Int) - 1 - (j : Int)) = ((n - 1 - j : Nat) : Int) := by rw [IntKind.wrap_i64]; omega
          have hx1 : ((n - 1 - j : Nat) : Int) < (n : Int) := by omega
          have hset := hlb.set (k := j) (b := b) (by omega)
          have hp2 : w5.heap.size ≤ (wr.setCell ⟨g2, j, none⟩ (.int .u8 b.toNat)).heap.size ∧ ∀ q, q < w5.heap.size → q ≠ g2 → (wr.setCell ⟨g2, j, none⟩ (.int .u8 b.toNat)).heap[q]? = w5.heap[q]? := ⟨by simpa [World.setCell] using hpast.1, fun q q1 q2 => (Below.heap_setCell wr ⟨g2, j, none⟩ _ q q2).trans (hpast.2 q q1 q2)⟩
          have hb2 : Below wo.heap.size wo (wr.setCell ⟨g2, j, none⟩ (.int .u8 b.toNat)) := hbo.setCell (p := ⟨g2, j, none⟩) hg2o _
          have HSET := Lib.hid hset
          have HP2 := Lib.hid hp2
          have HB2' := Lib.hid hb2
          have HL2 := Lib.hid hl2
          clear hlb hpast hbo hset hp2 hb2 hl2 hlj hb
          go_wp2_with fail
          exact ⟨⟨j + 1, l2.set j b, by omega, by go_num, by rw [List.length_set]; exact HL2.out, HSET.out, HP2.out, HB2'.out⟩, by show n - ((j : Int) + 1).toNat < n - (j : Int).toNat; omega⟩
        · have hj1 : decide (j < n) = false := decide_eq_false hlj
          have hbww : Below w.heap.size w wr := HM.out.below.trans (hbo.mono HM.out.below.size)
          have y1 := HY1.out wr hbww
          obtain ⟨P2, hP2⟩ : ∃ P2, P2 = Sp.allV x.lim.toNat (l2.length + 1) 0 l2 := ⟨_, rfl⟩
          have hroom := hlb.room
          have hwa6 := (all_any (cap := c2) (HG.out.later hbww) hlb.row (by omega) (fun h => by cases h) (by omega) HXM.out).mono fun e w' h => AllPost.got h
          rw [← hP2, hl2] at hwa6
          have hs2 : AllSmall P2 := by rw [hP2]; exact AllSmall.of _ (by omega)
          have hs1 : AllSmall P1 := by rw [HP1.out]; exact AllSmall.of _ HLEN.out
          have HWA6 := Lib.hid hwa6
          have HLB6 := Lib.hid hlb
          have HPAST := Lib.hid hpast
          have HBO6 := Lib.hid hbo
          have HBWW := Lib.hid hbww
          have HP2 := Lib.hid hP2
          have HS2 := Lib.hid hs2
          have HS1 := Lib.hid hs1
          have HL2 := Lib.hid hl2
          have HRM := Lib.hid hroom
          have HG2O := Lib.hid hg2o
          clear hlb hpast hbo hbww hwa6 hs2 hs1 hlj hP2 hl2 hroom hg2o
          go_upto_region 18 with (go_at_call 27; refine HWA6.out.mono ?_; rintro e w7 ⟨A7, c7, tcs7, bl7, rfl, hgot7, hb7⟩; have HGOT7 := Lib.hid hgot7; have HB7 := Lib.hid hb7; have y1 := HY1.out w7 (HBWW.out.trans (hb7.mono HBWW.out.size)); clear hgot7 hb7)
          have hra7 := (refAll_any (cap := c2) (HLB6.out.later HB7.out).row (by have := HRM.out; omega) (by have := HL2.out; omega) HXM.out).mono fun e w' h => AllPost.got h
          rw [← HP2.out, HL2.out] at hra7
          have HRA7 := Lib.hid hra7
          clear hra7
          go_upto_region 19 with (go_at_call 26; refine HRA7.out.mono ?_; rintro e w8 ⟨A8, c8, tcs8, bl8, rfl, hgot8, hb8⟩; have HGOT8 := Lib.hid hgot8; have HB8 := Lib.hid hb8; clear hgot8 hb8)
          have hb68 : Below wr.heap.size wr w8 := HB7.out.trans (HB8.out.mono HB7.out.size)
          have h58 : ∀ q, q < w5.heap.size → q ≠ g2 → w8.heap[q]? = w5.heap[q]? := fun q q1 q2 => (hb68.block q (Nat.lt_of_lt_of_le q1 HPAST.out.1)).trans (HPAST.out.2 q q1 q2)
          have hg2lt := HLB2.out.lt
          have z1 := HGE2.out
          have z2 := HB2.out.size
          have z3 := HB3.out.size
          have z4 := HB4.out.size
          have z5 := HB5.out.size
          have z6 := HPAST.out.1
          have z7 := HB7.out.size
          have z8 := HB8.out.size
          have z0 := HB1.out.size
          have gx : Got w2.heap.size w8 P1.1 A3 c3 tcs3 bl3 := HGOT3.out.same fun q hq => by
            obtain ⟨q1, q2⟩ := HGOT3.out.lt q hq
            exact (h58 q (by omega) (by omega)).trans ((HB5.out.block q (by omega)).trans (HB4.out.block q q2))
          have gy : Got w3.heap.size w8 P1.1 A4 c4 tcs4 bl4 := HGOT4.out.same fun q hq => by
            obtain ⟨q1, q2⟩ := HGOT4.out.lt q hq
            exact (h58 q (by omega) (by omega)).trans (HB5.out.block q q2)
          have gw : Got wo.heap.size w8 P1.1 A1 c1 tcs1 bl1 := HGOT1.out.same fun q hq => by
            obtain ⟨q1, q2⟩ := HGOT1.out.lt q hq
            exact (h58 q (by omega) (by omega)).trans ((HB5.out.block q (by omega)).trans ((HB4.out.block q (by omega)).trans ((HB3.out.block q (by omega)).trans (HB2.out.block q q2))))
          have gz : Got wr.heap.size w8 P2.1 A7 c7 tcs7 bl7 := HGOT7.out.later HB8.out
          have hxlt : ∀ q, q ∈ rowBlock (.slice A3 P1.1.length c3) ∨ q ∈ bl3 → q < w3.heap.size := fun q hq => (HGOT3.out.lt q hq).2
          have hylt : ∀ q, q ∈ rowBlock (.slice A4 P1.1.length c4) ∨ q ∈ bl4 → q < w4.heap.size := fun q hq => (HGOT4.out.lt q hq).2
          have hwlt : ∀ q, q ∈ rowBlock (.slice A1 P1.1.length c1) ∨ q ∈ bl1 → q < w1.heap.size := fun q hq => (HGOT1.out.lt q hq).2
          have hzlt : ∀ q, q ∈ rowBlock (.slice A7 P2.1.length c7) ∨ q ∈ bl7 → q < w7.heap.size := fun q hq => (HGOT7.out.lt q hq).2
          have hmx : ∀ W : World, PastB w8 g2 W → Got w2.heap.size W P1.1 A3 c3 tcs3 bl3 := fun W hW => gx.same fun q hq => hW.2 q (gx.lt q hq).2 (by have := (gx.lt q hq).1; omega)
          have hmy : ∀ W : World, PastB w8 g2 W → Got w3.heap.size W P1.1 A4 c4 tcs4 bl4 := fun W hW => gy.same fun q hq => hW.2 q (gy.lt q hq).2 (by have := (gy.lt q hq).1; omega)
          have hmw : ∀ W : World, PastB w8 g2 W → Got wo.heap.size W P1.1 A1 c1 tcs1 bl1 := fun W hW => gw.same fun q hq => hW.2 q (gw.lt q hq).2 (by have := hwlt q hq; omega)
          have hmz : ∀ W : World, PastB w8 g2 W → Got wr.heap.size W P2.1 A7 c7 tcs7 bl7 := fun W hW => gz.same fun q hq => hW.2 q (gz.lt q hq).2 (by have := (gz.lt q hq).1; omega)
          have hmd : ∀ W : World, PastB w8 g2 W → Got w7.heap.size W P2.1 A8 c8 tcs8 bl8 := fun W hW => HGOT8.out.same fun q hq => hW.2 q (HGOT8.out.lt q hq).2 (by have := (HGOT8.out.lt q hq).1; omega)
          have hn1 : P1.1.length ≤ 1000000000 := by have := HS1.out.len; omega
          have hn2 : P2.1.length ≤ 1000000000 := by have := HS2.out.len; omega
          have hsx : ∀ W, PastB w8 g2 W → Calls Tryz.prog 28 #[.slice A3 P1.1.length c3, .slice A1 P1.1.length c1] W fun e w' => e = .returned (.bool true) ∧ Below W.heap.size W w' := fun W hW => (hmx W hW).sameSteps (hmw W hW) hn1 HS1.out.fit
          have hsy : ∀ W, PastB w8 g2 W → Calls Tryz.prog 28 #[.slice A4 P1.1.length c4, .slice A1 P1.1.length c1] W fun e w' => e = .returned (.bool true) ∧ Below W.heap.size W w' := fun W hW => (hmy W hW).sameSteps (hmw W hW) hn1 HS1.out.fit
          have hsz : ∀ W, PastB w8 g2 W → Calls Tryz.prog 28 #[.slice A7 P2.1.length c7, .slice A8 P2.1.length c8] W fun e w' => e = .returned (.bool true) ∧ Below W.heap.size W w' := fun W hW => (hmz W hW).sameSteps (hmd W hW) hn2 HS2.out.fit
          have hlb8 := HLB6.out.later hb68
          have hbo8 : Below wo.heap.size wo w8 := HBO6.out.trans (hb68.mono HBO6.out.size)
          have HSX := Lib.hid hsx
          have HSY := Lib.hid hsy
          have HSZ := Lib.hid hsz
          have HMX := Lib.hid hmx
          have HMY := Lib.hid hmy
          have HMZ := Lib.hid hmz
          have HXLT := Lib.hid hxlt
          have HYLT := Lib.hid hylt
          have HZLT := Lib.hid hzlt
          have HLBC := Lib.hid hlb8
          have HPC := Lib.hid (show PastB w8 g2 w8 from ⟨Nat.le_refl _, fun _ _ _ => rfl⟩)
          have HBC := Lib.hid hbo8
          have HZS := Lib.hid (show wo.heap.size ≤ w2.heap.size ∧ w3.heap.size ≤ w3.heap.size ∧ w4.heap.size ≤ wr.heap.size ∧ w7.heap.size ≤ w8.heap.size ∧ w2.heap.size ≤ w3.heap.size ∧ w3.heap.size ≤ w4.heap.size ∧ wr.heap.size ≤ w7.heap.size from by omega)
          clear hb68 h58 hg2lt z0 z1 z2 z3 z4 z5 z6 z7 z8 gx gy gw gz hxlt hylt hwlt hzlt hmx hmy hmw hmz hmd hsx hsy hsz hlb8 hbo8 hn1 hn2
          go_upto_region 22 with (first
            | (go_at_call 28; (first | (with_reducible refine (HSX.out _ HPC.out).mono ?_) | (with_reducible refine (HSY.out _ HPC.out).mono ?_) | (with_reducible refine (HSZ.out _ HPC.out).mono ?_)); rintro e wn ⟨rfl, hbn⟩; have hp := HPC.out.later hbn; have hbc := HBC.out.trans (hbn.mono HBC.out.size); have hlc := HLBC.out.later hbn; have HPC := Lib.hid hp; have HBC := Lib.hid hbc; have HLBC := Lib.hid hlc; clear hbn hp hbc hlc)
            | (go_at_call 21; rw [← HL2.out]; refine (over_go HLBC.out (by have := HL2.out; omega) HPC.out HBC.out HG2O.out).mono ?_; rintro e wv ⟨rfl, hp0, hbc⟩; have hp : PastB w8 g2 wv := hp0; clear hp0; have HPC := Lib.hid hp; have HBC := Lib.hid hbc; clear hp hbc))
          go_upto_region 24 with (go_at_call 28; (first | (with_reducible refine (HSX.out _ HPC.out).mono ?_) | (with_reducible refine (HSZ.out _ HPC.out).mono ?_)); rintro e wn ⟨rfl, hbn⟩; have hp := HPC.out.later hbn; have hbc := HBC.out.trans (hbn.mono HBC.out.size); have HPC := Lib.hid hp; have HBC := Lib.hid hbc; clear hbn hp hbc)
          obtain ⟨f9, hf9⟩ : ∃ f9 : Nat → Lab, f9 = fun q => if q < wo.heap.size then f q else (0, 0) := ⟨_, rfl⟩
          have hm9 := HM.out.later (f1 := f9) HBC.out (fun q hq => by rw [hf9]; exact if_pos hq)
          have hz9 : ∀ q, wo.heap.size ≤ q → q < wn.heap.size → f9 q = (0, 0) := fun q q1 _ => by rw [hf9]; exact if_neg (by omega)
          have hww := HM.out.below.size
          obtain ⟨s1, _, s3, s4, s5, s6, s7⟩ := HZS.out
          have hn1 : P1.1.length ≤ 100000000 := by have := HS1.out.len; omega
          have hn2 : P2.1.length ≤ 100000000 := by have := HS2.out.len; omega
          have hsx : ∀ W f X, WlG w bk mk f W → Keep X f9 wn f W → (∀ k ∈ X, ¬ (w2.heap.size ≤ k ∧ k < w3.heap.size)) → Calls Tryz.prog 29 #[.pointer (some ⟨bk, 0, none⟩), .slice A3 P1.1.length c3] W fun e w' => e = .returned (.tuple #[]) ∧ ∃ f' X', WlG w bk mk f' w' ∧ Keep (X ++ X') f9 wn f' w' ∧ ∀ k ∈ X', (w2.heap.size ≤ k ∧ k < w3.heap.size) ∧ NoFlag wn k :=
            fun W f X h1 h2 h3 => steps_go h1 h2 hz9 hww s1 (HMX.out wn HPC.out) HXLT.out h3 hn1 HS1.out.kd
          have hsy : ∀ W f X, WlG w bk mk f W → Keep X f9 wn f W → (∀ k ∈ X, ¬ (w3.heap.size ≤ k ∧ k < w4.heap.size)) → Calls Tryz.prog 29 #[.pointer (some ⟨bk, 0, none⟩), .slice A4 P1.1.length c4] W fun e w' => e = .returned (.tuple #[]) ∧ ∃ f' X', WlG w bk mk f' w' ∧ Keep (X ++ X') f9 wn f' w' ∧ ∀ k ∈ X', (w3.heap.size ≤ k ∧ k < w4.heap.size) ∧ NoFlag wn k :=
            fun W f X h1 h2 h3 => steps_go h1 h2 hz9 hww (by omega) (HMY.out wn HPC.out) HYLT.out h3 hn1 HS1.out.kd
          have hsz : ∀ W f X, WlG w bk mk f W → Keep X f9 wn f W → (∀ k ∈ X, ¬ (wr.heap.size ≤ k ∧ k < w7.heap.size)) → Calls Tryz.prog 29 #[.pointer (some ⟨bk, 0, none⟩), .slice A7 P2.1.length c7] W fun e w' => e = .returned (.tuple #[]) ∧ ∃ f' X', WlG w bk mk f' w' ∧ Keep (X ++ X') f9 wn f' w' ∧ ∀ k ∈ X', (wr.heap.size ≤ k ∧ k < w7.heap.size) ∧ NoFlag wn k :=
            fun W f X h1 h2 h3 => steps_go h1 h2 hz9 hww (by omega) (HMZ.out wn HPC.out) HZLT.out h3 hn2 HS2.out.kd
          have hkx : ∀ W f X, WlG w bk mk f W → Keep X f9 wn f W → (∀ k ∈ X, (w2.heap.size ≤ k ∧ k < w3.heap.size) → NoFlag wn k) → Calls Tryz.prog 30 #[.pointer (some ⟨mk, 0, none⟩), .slice A3 P1.1.length c3] W fun e w' => e = .returned (.tuple #[]) ∧ ∃ f' X', WlG w bk mk f' w' ∧ Keep (X ++ X') f9 wn f' w' ∧ ∀ k ∈ X', w2.heap.size ≤ k ∧ k < w3.heap.size :=
            fun W f X h1 h2 h3 => marks_go h1 h2 hz9 hww s1 (HMX.out wn HPC.out) HXLT.out h3 hn1 HS1.out.ms
          have hky : ∀ W f X, WlG w bk mk f W → Keep X f9 wn f W → (∀ k ∈ X, (w3.heap.size ≤ k ∧ k < w4.heap.size) → NoFlag wn k) → Calls Tryz.prog 30 #[.pointer (some ⟨mk, 0, none⟩), .slice A4 P1.1.length c4] W fun e w' => e = .returned (.tuple #[]) ∧ ∃ f' X', WlG w bk mk f' w' ∧ Keep (X ++ X') f9 wn f' w' ∧ ∀ k ∈ X', w3.heap.size ≤ k ∧ k < w4.heap.size :=
            fun W f X h1 h2 h3 => marks_go h1 h2 hz9 hww (by omega) (HMY.out wn HPC.out) HYLT.out h3 hn1 HS1.out.ms
          have hkz : ∀ W f X, WlG w bk mk f W → Keep X f9 wn f W → (∀ k ∈ X, (wr.heap.size ≤ k ∧ k < w7.heap.size) → NoFlag wn k) → Calls Tryz.prog 30 #[.pointer (some ⟨mk, 0, none⟩), .slice A7 P2.1.length c7] W fun e w' => e = .returned (.tuple #[]) ∧ ∃ f' X', WlG w bk mk f' w' ∧ Keep (X ++ X') f9 wn f' w' ∧ ∀ k ∈ X', wr.heap.size ≤ k ∧ k < w7.heap.size :=
            fun W f X h1 h2 h3 => marks_go h1 h2 hz9 hww (by omega) (HMZ.out wn HPC.out) HZLT.out h3 hn2 HS2.out.ms
          have hs1 := hsx wn f9 [] hm9 (Keep.refl f9 wn) (fun k hk => by cases hk)
          have HS1' := Lib.hid hs1
          have HSY2 := Lib.hid hsy
          have HSZ2 := Lib.hid hsz
          have HKX := Lib.hid hkx
          have HKY := Lib.hid hky
          have HKZ := Lib.hid hkz
          clear hf9 hm9 hz9 hww s1 s3 s4 s5 s6 s7 hn1 hn2 hsx hsy hsz hkx hky hkz hs1
          go_upto_region 25 with (go_at_call 29; refine HS1'.out.mono ?_; rintro e v1 ⟨rfl, f1, X1, hm, hk, hx⟩; have HM1 := Lib.hid hm; have HK1 := Lib.hid hk; have HX1 := Lib.hid hx; clear hm hk hx)
          have hs2 := HSY2.out v1 f1 ([] ++ X1) HM1.out HK1.out (fun k hk => by
            rw [List.nil_append] at hk
            have := HX1.out k hk
            omega)
          have HS2' := Lib.hid hs2
          clear hs2
          go_upto_region 26 with (go_at_call 29; refine HS2'.out.mono ?_; rintro e v2 ⟨rfl, f2, X2, hm, hk, hx⟩; have HM2 := Lib.hid hm; have HK2 := Lib.hid hk; have HX2 := Lib.hid hx; clear hm hk hx)
          have hs3 := HSZ2.out v2 f2 ([] ++ X1 ++ X2) HM2.out HK2.out (fun k hk => by
            have hz := HZS.out
            rcases List.mem_append.1 hk with hk | hk
            · rw [List.nil_append] at hk
              have := HX1.out k hk
              omega
            · have := HX2.out k hk
              omega)
          have HS3' := Lib.hid hs3
          clear hs3
          go_upto_region 27 with (go_at_call 29; refine HS3'.out.mono ?_; rintro e v3 ⟨rfl, f3, X3, hm, hk, hx⟩; have HM3 := Lib.hid hm; have HK3 := Lib.hid hk; have HX3 := Lib.hid hx; clear hm hk hx)
          have hno : ∀ k ∈ [] ++ X1 ++ X2 ++ X3, NoFlag wn k := fun k hk => by
            rcases List.mem_append.1 hk with hk | hk
            · rcases List.mem_append.1 hk with hk | hk
              · rw [List.nil_append] at hk
                exact (HX1.out k hk).2
              · exact (HX2.out k hk).2
            · exact (HX3.out k hk).2
          have hs4 := HKX.out v3 f3 ([] ++ X1 ++ X2 ++ X3) HM3.out HK3.out (fun k hk _ => hno k hk)
          have HNO := Lib.hid hno
          have HS4' := Lib.hid hs4
          clear hs4 hno
          go_upto_region 28 with (go_at_call 30; refine HS4'.out.mono ?_; rintro e v4 ⟨rfl, f4, X4, hm, hk, hx⟩; have HM4 := Lib.hid hm; have HK4 := Lib.hid hk; have HX4 := Lib.hid hx; clear hm hk hx)
          have hs5 := HKY.out v4 f4 ([] ++ X1 ++ X2 ++ X3 ++ X4) HM4.out HK4.out (fun k hk hr => by
            have hz := HZS.out
            rcases List.mem_append.1 hk with hk | hk
            · exact HNO.out k hk
            · have := HX4.out k hk
              omega)
          have HS5' := Lib.hid hs5
          clear hs5
          go_upto_region 29 with (go_at_call 30; refine HS5'.out.mono ?_; rintro e v5 ⟨rfl, f5, X5, hm, hk, hx⟩; have HM5 := Lib.hid hm; have HK5 := Lib.hid hk; have HX5 := Lib.hid hx; clear hm hk hx)
          have hs6 := HKZ.out v5 f5 ([] ++ X1 ++ X2 ++ X3 ++ X4 ++ X5) HM5.out HK5.out (fun k hk hr => by
            have hz := HZS.out
            rcases List.mem_append.1 hk with hk | hk
            · rcases List.mem_append.1 hk with hk | hk
              · exact HNO.out k hk
              · have := HX4.out k hk
                omega
            · have := HX5.out k hk
              omega)
          have HS6' := Lib.hid hs6
          clear hs6
          go_wp2_with (go_at_call 30; refine HS6'.out.mono ?_; rintro e v6 ⟨rfl, f6, X6, hm, hk, hx⟩; have HM6 := Lib.hid hm; clear hm hk hx)
          exact ⟨⟨k + 1, by omega, by go_num, f6, HM6.out⟩, HME.out⟩
    · have hcl := hm.close
      have hwk := fun (W : World) (hW : Below w.heap.size w W) => wakes11_any (HG.out.later hW) (HT.out.later HG.out hW)
      have HCL := Lib.hid hcl
      have HWK := Lib.hid hwk
      clear hcl hwk hm
      by_cases hk1 : k < xs.length
      · have h1 : (k : Int) < (xs.length : Int) := by omega
        have h2 : decide ((k : Int) < 40) = false := decide_eq_false (by omega)
        clear hlt
        go_wp2_with (first | (go_at_call 15; refine HCL.out.mono ?_; rintro e w2 ⟨rfl, f2, fv, gs, ns, hfl, hz, hb2⟩; have hown := own_any hfl hz hb2; have HOWN := Lib.hid hown; clear hfl hz hb2 hown) | (go_at_call 24; refine HOWN.out.mono ?_; rintro e w3 ⟨rfl, hb3⟩; have HB3 := Lib.hid hb3; clear hb3) | (go_at_call 16; refine (HWK.out _ HB3.out).mono ?_; rintro e w4 ⟨rfl, hb4⟩; have HB4 := Lib.hid hb4; clear hb4))
        rw [← HR.out]
        exact ⟨rfl, HB3.out.trans (HB4.out.mono HB3.out.size)⟩
      · have h1 : decide (k < xs.length) = false := decide_eq_false (by omega)
        clear hlt
        go_wp2_with (first | (go_at_call 15; refine HCL.out.mono ?_; rintro e w2 ⟨rfl, f2, fv, gs, ns, hfl, hz, hb2⟩; have hown := own_any hfl hz hb2; have HOWN := Lib.hid hown; clear hfl hz hb2 hown) | (go_at_call 24; refine HOWN.out.mono ?_; rintro e w3 ⟨rfl, hb3⟩; have HB3 := Lib.hid hb3; clear hb3) | (go_at_call 16; refine (HWK.out _ HB3.out).mono ?_; rintro e w4 ⟨rfl, hb4⟩; have HB4 := Lib.hid hb4; clear hb4))
        rw [← HR.out]
        exact ⟨rfl, HB3.out.trans (HB4.out.mono HB3.out.size)⟩
end Go.Proofs.YthgfjafnclklpaaGreatDoor
end
section
namespace Go.Proofs.YthgfjafnclklpaaGreatDoor
open Go.ChangeShapes Go.WideShapes Go.ChangeAt Go.RowKit

/-- the listed table -/
theorem tab_of {W : World} (h : Lib.VarReads Tryz.prog W "internal/strconv.uint64pow10" Rows.laid_internal_strconv_uint64pow10) : TabAt W := by
  obtain ⟨g', t', cs, fuel, p, h1, h2, h3, h4⟩ := h
  obtain rfl := Option.some.inj ((show Tryz.prog.globalNamed "internal/strconv.uint64pow10" = some 1 by kernel_rfl).symm.trans h1)
  obtain rfl := Option.some.inj ((show (Tryz.prog.globals[1]?).map (·.type) = some 207 by kernel_rfl).symm.trans h2)
  unfold TabAt Lib.TabIs
  rw [h3, ← Lib.cells_of_tab Tryz.underlying207 Tryz.underlying34 (by kernel_rfl) (by kernel_rfl) (k := .u64) (zs := Lib.pow10Tab) h4]
end Go.Proofs.YthgfjafnclklpaaGreatDoor
end
section
namespace Go.Proofs.YthgfjafnclklpaaGreatDoor
open Go.ChangeShapes Go.WideShapes Go.ChangeAt Go.RowKit

section
variable {H : Type} {enc : TypeId × Value → H} {w : World} {held : Bool}
/-- bytes that came in -/
theorem open_byteList {n : Nat} {v : Value} {y : DataW H × List MemPlace} (h : DataW.trod enc Tryz.prog w 0 (fun _ => true) held n 35 [v] = some y) :
    ∃ (A : Option Addr) (cap : Nat) (l : Sp.Bs), v = .slice A l.length cap ∧ RowAt w A (bytesV l) ∧ l.length ≤ cap ∧ (A = none → cap = 0) ∧ ((l = [] ∧ y.1 = .nil) ∨ ∃ es sp : List (DataW H), y.1 = .slice es sp ∧ es.length = l.length) := by
  obtain ⟨A, cap, l, h1, h2, h3, _, h5, h6⟩ := open_list (fun x : UInt8 => [Value.int .u8 (x.toNat : Int)]) (fun _ _ => True) (by decide) (fun _ => rfl) Tryz.underlying35 (by kernel_rfl) (fun _ _ x h hl => by
    obtain ⟨z, rfl, _, hw⟩ := DataW.trod_int Tryz.underlying5 h
    have hbd := bounds_u8 hw
    refine ⟨UInt8.ofNat z.toNat, ?_, trivial⟩
    have hz : ((UInt8.ofNat z.toNat).toNat : Int) = z := by
      rw [UInt8.toNat_ofNat', Nat.mod_eq_of_lt (by have : (2 : Nat) ^ 8 = 256 := rfl; omega), Int.toNat_of_nonneg hbd.1]
    rw [hz]) h
  refine ⟨A, cap, l, h1, by unfold bytesV; rw [List.map_eq_flatMap]; exact h2, h3, h5, ?_⟩
  rcases h6 with h6 | ⟨es, sp, q1, q2, _⟩
  · exact .inl h6
  · exact .inr ⟨es, sp, q1, q2⟩
set_option maxRecDepth 100000 in
theorem open_rowArgs {base : Nat} {v : Value} {d : DataW H} {p : List MemPlace} (hv : Value.okWide Tryz.prog w .any base 66 v) (h : DataW.Trod enc Tryz.prog w 0 (fun _ => true) held 66 v d p) :
    ∃ (A : Option Addr) (cap : Nat) (xs : List RowArg), v = .slice A xs.length cap ∧ RowArgs w A xs ∧ xs.length ≤ 9223372036854775807 := by
  obtain ⟨fuel, h⟩ := h
  obtain ⟨a0, n0, c0, rfl⟩ := okWide_slice Tryz.underlying66 hv
  replace h : DataW.trod enc Tryz.prog w 0 (fun _ => true) held fuel 66 [.slice a0 n0 c0] = some (d, p) := h
  obtain ⟨A, cap, l, hv', h1, h2, h3, h4, h5⟩ := open_list (k := 2) RowArg.cells (fun a _ => RowAt w a.A (bytesV a.l) ∧ (a.A = none → a.cap = 0) ∧ a.l.length ≤ a.cap ∧ a.lim ≤ 9223372036854775807) (by decide) (fun _ => rfl) Tryz.underlying66 (by kernel_rfl) (fun n cs x hx hl => by
    obtain ⟨y0, y1, n', rfl, _, g0, g1⟩ := trod_struct2 Tryz.underlying68 hx
    match cs, hl with
    | [c0, c1], _ =>
      have e0 : Tryz.prog.cellsOf 35 = 1 := by kernel_rfl
      have e1 : Tryz.prog.cellsOf 3 = 1 := by kernel_rfl
      simp only [e0, e1, List.drop_zero, List.drop_succ_cons, List.take_succ_cons, List.take_zero] at g0 g1
      obtain ⟨B, cp, l, rfl, b1, b2, b3, _⟩ := open_byteList g0
      obtain ⟨z, k1, _, k2⟩ := DataW.trod_int Tryz.underlying3 g1
      injection k1 with k1
      subst k1
      have hbd := bounds_i64 k2
      exact ⟨⟨B, cp, l, z⟩, rfl, b1, b3, b2, by show z ≤ _; omega⟩) h
  refine ⟨A, cap, l, hv', ⟨h1, fun x hx => ?_⟩, by omega⟩
  obtain ⟨i, hi⟩ := List.getElem?_of_mem hx
  rcases h5 with ⟨rfl, _⟩ | ⟨es, sp, _, _, _, hq⟩
  · simp at hi
  · obtain ⟨_, _, q⟩ := hq i x hi
    exact q
end

set_option maxRecDepth 100000 in
theorem wordsAll_lifted (os : Os) (started : os.Started) (H : Type) (enc : TypeId × Value → H) :
    ReturnsInHanded {} Tryz.checked os 5 .any (fun w args => (Rows.wordsAllSpec.pre enc Tryz.prog Tryz.f5 [] false w args ∧ laidMetH Tryz.prog Rows.wordsAllRow.laid w) ∧ sizedMet enc Tryz.prog Tryz.f5 (OpenSpec.ofChange Rows.wordsAllSpec) false w args)
      (Rows.wordsAllSpec.post enc Tryz.prog Tryz.f5 false true false false) := by
  refine returns_laid_shaped (C := Tryz.checked) (X := fun w _ => laidMetH Tryz.prog Rows.wordsAllRow.laid w) (fun _ _ _ hh h => h.of_heap hh) ownKnob0 started (by kernel_rfl) Tryz.func5
    (ChangeSpec.witness_shaped (enc := enc) (C := Tryz.checked) (os := os) (X := fun w _ => laidMetH Tryz.prog Rows.wordsAllRow.laid w) false (World.laidAll Tryz.prog os Rows.wordsAllRow.laid) #[nilRow] 8 (World.laidAll_os _ _ _)
      (World.shaped_of_ZipB (by kernel_rfl) (by kernel_rfl)) (by kernel_rfl) (by kernel_rfl) (by kernel_rfl)
      (by rw [MakeChecks.laidMetH_plain _ _ _ (by kernel_rfl)]; exact laidMet_laidAll _ (by kernel_rfl) (by kernel_rfl))) ?_
  intro W base args ds gs before hval0 hW _ _ hL hsh
  have hW' := hW
  obtain ⟨p, q, hA0, hV, rfl, _, _⟩ := hW
  have hA : DataW.TrodAll enc Tryz.prog W 0 (fun _ => true) true Tryz.f5.params.toList args.toList ds p := hA0
  rw [Tryz.params5] at hA
  rw [MakeChecks.laidMetH_plain _ _ _ (by kernel_rfl)] at hL
  have hG : Glob W := glob_of hsh ⟨_, Lib.laidMet.reads hL (.tail _ (.tail _ (.tail _ (.tail _ (.tail _ (.head _))))))⟩ ⟨_, Lib.laidMet.reads hL (.tail _ (.tail _ (.tail _ (.tail _ (.head _)))))⟩
  obtain ⟨v, d, rfl, rfl, hd⟩ := trodAll_one hA
  have hv : Value.okWide Tryz.prog W .any base 66 v := hval0 0 _ v (by rw [Tryz.params5]; rfl) rfl
  obtain ⟨A, cap, xs, rfl, h1, h2⟩ := open_rowArgs hv hd
  have hT : TabAt W := tab_of (Lib.laidMet.reads hL (.tail _ (.tail _ (.head _))))
  refine (wordsAll_any hG hT h1 h2).mono fun e W' ⟨he, hb⟩ => ?_
  subst he
  exact ⟨_, rfl, law_post hW' rfl (by kernel_rfl) rfl (by rw [Tryz.params5]; intro t ht; simp at ht; subst ht; exact ⟨by kernel_rfl, of_decide_eq_true (by kernel_rfl)⟩) hb⟩

theorem wordsAll_row : Rows.wordsAllRow.holds Tryz.pinned (OpenSpec.ofChange Rows.wordsAllSpec) :=
  OpenClaim.holds_of_wide 5 Tryz.f5 rfl rfl rfl rfl rfl rfl rfl ⟨rfl, rfl, rfl, rfl, rfl⟩ rfl rfl rfl rfl rfl (by kernel_rfl) Tryz.func5 (by kernel_rfl)
    (of_decide_eq_true (by kernel_rfl)) (by unfold Func.isWrapper; first | (rw [if_pos (by decide +kernel)]; kernel_rfl) | (rw [if_neg (by decide +kernel)]; exact ⟨rfl, rfl⟩))
    (fun os started H enc _ => wordsAll_lifted os started H enc)

/-- the statement -/
theorem wordsAll_card : Rows.WordsAllCardSaid :=
  Claim7.holds_tied_plain_at .later [] [.data, .data, .data, .data, .sentinel, .sentinel, .pinned] true Rows.wordsAllCard.stood.harness true
    wordsAll_row (fun _ h => by cases h) (by kernel_rfl) (fun _ h => by cases h) wordsAll_row_tie rfl ⟨rfl, rfl⟩ (by kernel_rfl) rfl
    (fun f fn hf hfn => by
      obtain rfl : f = 5 := Option.some.inj ((show Tryz.prog.funcNamed "granary/granarylaw11.WordsAll" = some 5 by kernel_rfl).symm.trans hf) |>.symm
      obtain rfl : fn = Tryz.f5 := (Option.some.inj (Tryz.func5.symm.trans hfn)).symm
      exact ⟨by kernel_rfl, fun j t ht => by
        rw [Tryz.params5] at ht
        obtain rfl : t = 66 := by simpa using Array.mem_of_getElem? ht
        kernel_rfl⟩)
    (by kernel_rfl)
#print axioms wordsAll_card
end Go.Proofs.YthgfjafnclklpaaGreatDoor
end
