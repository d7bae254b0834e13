/- The two Feeders, the Book and a row of chunks beside each other; how a call moves them. Walk of the helper alike; the document's Feeder fed, beside the rest. Walk of the helper cut. Walk of the statement LineExact. -/
import Derived.Test.YthgfjafnclklpaaGreatDoorQ37
import Derived.Test.YthgfjafnclklpaaGreatDoorQ43
import Derived.Test.YthgfjafnclklpaaGreatDoorQ44
import Derived.Test.YthgfjafnclklpaaGreatDoorQ49
import Derived.Test.YthgfjafnclklpaaGreatDoorSm
import Derived.Test.YthgfjafnclklpaaGreatDoorPc
import Derived.Test.YthgfjafnclklpaaGreatDoorGl
import Derived.Test.YthgfjafnclklpaaGreatDoorG2
import Derived.Deep.CutRange
import Derived.Deep.DeepCutAuto
import Derived.Test.YthgfjafnclklpaaGreatDoorK1
section
namespace Go.Proofs.YthgfjafnclklpaaGreatDoor
open Go.RowKit Sp

theorem OnlyL.of_only {w w1 : World} {L : List Nat} (h : OnlyIn L w w1) (f : Nat → Lab) (hz : ∀ k ∈ L, k < w.heap.size → f k = (0, 0)) : OnlyL f (relab f w (0, 0)) (· = (0, 0)) w w1 :=
  ⟨h.os, h.tape, h.output, h.size, fun k hk hn => h.block k hk (fun hm => hn (hz k hm hk)), fun _ hk => relab_old hk, fun _ h1 _ => relab_new h1⟩
theorem notBook_zero : NotBook (· = (0, 0)) :=
  ⟨lab_ne (by decide), fun _ => ⟨lab_ne (by decide), lab_ne (by decide), lab_ne (by decide)⟩, fun _ => ⟨lab_ne (by decide), lab_ne (by decide), lab_ne (by decide), lab_ne (by decide), lab_ne (by decide)⟩⟩
theorem onLoan_no {a b : Nat} (h : a < 30) : ¬ OnLoan (a, b) := fun e => by have := e.1; dsimp only at this; omega
theorem notBook_loan : NotBook OnLoan :=
  ⟨onLoan_no (by decide), fun _ => ⟨onLoan_no (by decide), onLoan_no (by decide), onLoan_no (by decide)⟩, fun _ => ⟨onLoan_no (by decide), onLoan_no (by decide), onLoan_no (by decide), onLoan_no (by decide), onLoan_no (by decide)⟩⟩
theorem loan_zero : ¬ (fun l : Lab => l = (0, 0)) (30, 0) ∧ ∀ i, ¬ (fun l : Lab => l = (0, 0)) (31, i) ∧ ¬ (fun l : Lab => l = (0, 0)) (32, i) ∧ ¬ (fun l : Lab => l = (0, 0)) (33, i) ∧ ¬ (fun l : Lab => l = (0, 0)) (34, i) ∧ ¬ (fun l : Lab => l = (0, 0)) (35, i) ∧ ¬ (fun l : Lab => l = (0, 0)) (36, i) :=
  ⟨lab_ne (by decide), fun _ => ⟨lab_ne (by decide), lab_ne (by decide), lab_ne (by decide), lab_ne (by decide), lab_ne (by decide), lab_ne (by decide)⟩⟩
theorem WlE.apart {w wr w1 : World} {bk : Nat} {f f1 : Nat → Lab} {P : Lab → Prop} (h : WlE w bk f wr) (ho : OnlyL f f1 P wr w1) (hb : NotBook P) (h0 : Below w.heap.size w w1) : WlE w bk f1 w1 := by
  obtain ⟨b0, b1, t0, t1, s0, n, vs, ws, us, xs, ss, bs, ts, ls, h1⟩ := h.book
  exact ⟨⟨b0, b1, t0, t1, s0, n, vs, ws, us, xs, ss, bs, ts, ls, h1.apart ho hb⟩, fun k hk => by rw [ho.lab k (Nat.lt_of_lt_of_le hk h.below.size)]; exact h.zero k hk, h0⟩

/-- four lists of blocks that are nobody's, behind w, apart from each other -/
structure LxPart (w : World) (f : Nat → Lab) (X Y G Z : List Nat) : Prop where
  zero : ∀ k, (k ∈ X ∨ k ∈ Y) ∨ k ∈ G ∨ k ∈ Z → w.heap.size ≤ k ∧ f k = (0, 0)
  xy : ∀ k ∈ X, k ∉ Y
  xg : ∀ k ∈ X, k ∉ G
  xz : ∀ k ∈ X, k ∉ Z
  yg : ∀ k ∈ Y, k ∉ G
  yz : ∀ k ∈ Y, k ∉ Z
  gz : ∀ k ∈ G, k ∉ Z
/-- a Feeder, the document's, steps that were told, the row of chunks, and the Book -/
structure Lx (w : World) (fb wb bk lim : Nat) (zv : Value) (zc : List Value) (s : FeedV) (raw : Bs) (last : Nat) (quit : Bool) (ov : Value) (outs : List StepV) (tc : List Value) (T : List Nat) (f : Nat → Lab) (wr : World) : Prop where
  wl : WlE w bk f wr
  own : wr.ownsRow 0 99 16 ov outs.length tc
  st : StepsMem wr outs tc T
  nd : T.Nodup
  zs : wr.ownsRow 0 35 1 zv zc.length zc
  mem : ∃ ln dv kv mv rv, FeedAt wr fb lim s nilRow ln dv kv mv [] [] ∧ RefAt wr wb lim raw last quit rv ∧ LxPart w f (fb :: ownList [] nilRow ln dv kv mv) (wb :: rowBlock rv) (T ++ rowBlock ov) (rowBlock zv)
section
variable {w wr w1 : World} {fb wb bk lim last : Nat} {zv ov : Value} {zc tc : List Value} {s : FeedV} {raw : Bs} {quit : Bool} {outs : List StepV} {T : List Nat} {f f1 : Nat → Lab}
/-- what is nobody's stays as it is, but for what was told -/
theorem Lx.dropOn (h : Lx w fb wb bk lim zv zc s raw last quit ov outs tc T f wr) (hw : WlE w bk f1 w1) (hs : ∀ k, k < wr.heap.size → f k = (0, 0) → k ∉ T ++ rowBlock ov → w1.heap[k]? = wr.heap[k]? ∧ f1 k = (0, 0)) : Lx w fb wb bk lim zv zc s raw last quit nilRow [] [] [] f1 w1 := by
  obtain ⟨ln, dv, kv, mv, rv, hF, hR, hp⟩ := h.mem
  have hx : ∀ k ∈ fb :: ownList [] nilRow ln dv kv mv, w1.heap[k]? = wr.heap[k]? ∧ f1 k = (0, 0) := fun k hk => hs k (hF.lt k hk) (hp.zero k (.inl (.inl hk))).2 (hp.xg k hk)
  have hy : ∀ k ∈ wb :: rowBlock rv, w1.heap[k]? = wr.heap[k]? ∧ f1 k = (0, 0) := fun k hk => hs k (hR.lt k hk) (hp.zero k (.inl (.inr hk))).2 (hp.yg k hk)
  have hz : ∀ k ∈ rowBlock zv, w1.heap[k]? = wr.heap[k]? ∧ f1 k = (0, 0) := fun k hk => hs k (own_lt h.zs k hk) (hp.zero k (.inr (.inr hk))).2 (fun e => hp.gz k e hk)
  refine ⟨hw, World.ownsRow_nil _ _ _ _, ⟨rfl, rfl⟩, List.nodup_nil, own_same h.zs fun k hk => (hz k hk).1, ln, dv, kv, mv, rv, hF.same fun k hk => (hx k hk).1, hR.same fun k hk => (hy k hk).1, ⟨?_, hp.xy, fun k _ e => by simp [rowBlock_nil] at e, hp.xz, fun k _ e => by simp [rowBlock_nil] at e, hp.yz, fun k e => by simp [rowBlock_nil] at e⟩⟩
  rintro k ((hk | hk) | hk | hk)
  · exact ⟨(hp.zero k (.inl (.inl hk))).1, (hx k hk).2⟩
  · exact ⟨(hp.zero k (.inl (.inr hk))).1, (hy k hk).2⟩
  · simp [rowBlock_nil] at hk
  · exact ⟨(hp.zero k (.inr (.inr hk))).1, (hz k hk).2⟩
/-- what is nobody's stays as it is -/
theorem Lx.same (h : Lx w fb wb bk lim zv zc s raw last quit ov outs tc T f wr) (hw : WlE w bk f1 w1) (hs : ∀ k, k < wr.heap.size → f k = (0, 0) → w1.heap[k]? = wr.heap[k]? ∧ f1 k = (0, 0)) : Lx w fb wb bk lim zv zc s raw last quit ov outs tc T f1 w1 := by
  obtain ⟨ln, dv, kv, mv, rv, hF, hR, hp⟩ := h.mem
  have hx : ∀ k ∈ fb :: ownList [] nilRow ln dv kv mv, w1.heap[k]? = wr.heap[k]? ∧ f1 k = (0, 0) := fun k hk => hs k (hF.lt k hk) (hp.zero k (.inl (.inl hk))).2
  have hy : ∀ k ∈ wb :: rowBlock rv, w1.heap[k]? = wr.heap[k]? ∧ f1 k = (0, 0) := fun k hk => hs k (hR.lt k hk) (hp.zero k (.inl (.inr hk))).2
  have hg : ∀ k ∈ T ++ rowBlock ov, w1.heap[k]? = wr.heap[k]? ∧ f1 k = (0, 0) := fun k hk => hs k (by
    rcases List.mem_append.1 hk with h1 | h1
    · exact h.st.lt k h1
    · exact own_lt h.own k h1) (hp.zero k (.inr (.inl hk))).2
  have hz : ∀ k ∈ rowBlock zv, w1.heap[k]? = wr.heap[k]? ∧ f1 k = (0, 0) := fun k hk => hs k (own_lt h.zs k hk) (hp.zero k (.inr (.inr hk))).2
  refine ⟨hw, own_same h.own fun k hk => (hg k (List.mem_append_right _ hk)).1, h.st.same fun k hk => (hg k (List.mem_append_left _ hk)).1, h.nd, own_same h.zs fun k hk => (hz k hk).1, ln, dv, kv, mv, rv, hF.same fun k hk => (hx k hk).1, hR.same fun k hk => (hy k hk).1, ⟨?_, hp.xy, hp.xg, hp.xz, hp.yg, hp.yz, hp.gz⟩⟩
  rintro k ((hk | hk) | hk | hk)
  · exact ⟨(hp.zero k (.inl (.inl hk))).1, (hx k hk).2⟩
  · exact ⟨(hp.zero k (.inl (.inr hk))).1, (hy k hk).2⟩
  · exact ⟨(hp.zero k (.inr (.inl hk))).1, (hg k hk).2⟩
  · exact ⟨(hp.zero k (.inr (.inr hk))).1, (hz k hk).2⟩
theorem Lx.later (h : Lx w fb wb bk lim zv zc s raw last quit ov outs tc T f wr) (hb : Below wr.heap.size wr w1) : Lx w fb wb bk lim zv zc s raw last quit ov outs tc T f w1 :=
  h.same (h.wl.later hb fun _ _ => rfl) fun k hk h0 => ⟨hb.block k hk, h0⟩
theorem Lx.apart {P : Lab → Prop} (h : Lx w fb wb bk lim zv zc s raw last quit ov outs tc T f wr) (ho : OnlyL f f1 P wr w1) (hb : NotBook P) (h0 : ¬ P (0, 0)) : Lx w fb wb bk lim zv zc s raw last quit ov outs tc T f1 w1 :=
  h.same (h.wl.apart ho hb (h.wl.below.trans (ho.below h.wl.below.size fun k hk => by rw [h.wl.zero k hk]; exact h0))) fun k hk hz => ⟨ho.block k hk (by rw [hz]; exact h0), (ho.lab k hk).trans hz⟩

theorem Lx.feed (h : Lx w fb wb bk lim zv zc s raw last quit nilRow [] [] [] f wr) (hg : Glob wr) {N : Nat} (hN : s.Fits N) {A : Option Addr} {cap : Nat} {l : Bs} (hN2 : N + 3 * l.length + 3 ≤ 1000000000) (hrow : RowAt wr A (bytesV l)) (hA : ∀ a, A = some a → f a.block ≠ (0, 0)) :
    Calls Tryz.prog 35 #[.pointer (some ⟨fb, 0, none⟩), .slice A l.length cap] wr fun e w' => ∃ p c tc T f', e = .returned (.slice p (s.told lim l).length c) ∧ Lx w fb wb bk lim zv zc (s.feed lim l) raw last quit (.slice p (s.told lim l).length c) (s.told lim l) tc T f' w' ∧ OnlyL f f' (· = (0, 0)) wr w' := by
  obtain ⟨ln, dv, kv, mv, rv, hF, hR, hp⟩ := h.mem
  refine (feed_any hF hg hN hN2 hrow (fun a ha hm => hA a ha (hp.zero _ (.inl (.inl hm))).2)).mono ?_
  rintro e w' ⟨ov', ln', dv', kv', mv', tc', T', rfl, f1, f2, f3, f4, f5, f6⟩
  obtain ⟨p, c, rfl⟩ := own_form f2
  have ho : OnlyL f (relab f wr (0, 0)) (· = (0, 0)) wr w' := OnlyL.of_only f6 f (fun k hk _ => (hp.zero k (.inl (.inl hk))).2)
  have hb : Below w.heap.size w w' := h.wl.below.trans (f6.below h.wl.below.size fun k hk => (hp.zero k (.inl (.inl hk))).1)
  have hnew : ∀ k ∈ fb :: ownList T' (.slice p (s.told lim l).length c) ln' dv' kv' mv', k ∈ fb :: ownList [] nilRow ln dv kv mv ∨ wr.heap.size ≤ k := fun k hk => by
    rcases List.mem_cons.1 hk with rfl | hk
    · exact .inl (List.mem_cons_self ..)
    · exact (f5 k hk).1.imp (List.mem_cons_of_mem _) id
  have hz0 : ∀ k, k ∈ fb :: ownList [] nilRow ln dv kv mv ∨ wr.heap.size ≤ k → w.heap.size ≤ k ∧ relab f wr (0, 0) k = (0, 0) := fun k hk => by
    rcases hk with hk | hk
    · have := hp.zero k (.inl (.inl hk))
      exact ⟨this.1, by rw [relab_old (hF.lt k hk)]; exact this.2⟩
    · exact ⟨Nat.le_trans h.wl.below.size hk, relab_new hk⟩
  have hx' : ∀ k ∈ fb :: ownList [] nilRow ln' dv' kv' mv', k ∈ fb :: ownList T' (.slice p (s.told lim l).length c) ln' dv' kv' mv' := fun k hk => by
    rcases List.mem_cons.1 hk with rfl | hk
    · exact List.mem_cons_self ..
    · refine List.mem_cons_of_mem _ ?_
      simp only [ownList, rowBlock_nil, List.nil_append] at hk ⊢
      exact List.mem_append_right _ (List.mem_append_right _ hk)
  have hg' : ∀ k ∈ T' ++ rowBlock (.slice p (s.told lim l).length c), k ∈ fb :: ownList T' (.slice p (s.told lim l).length c) ln' dv' kv' mv' := fun k hk => by
    refine List.mem_cons_of_mem _ ?_
    unfold ownList
    rcases List.mem_append.1 hk with hk | hk
    · exact List.mem_append_left _ hk
    · exact List.mem_append_right _ (List.mem_append_left _ hk)
  have hxg : ∀ k ∈ fb :: ownList [] nilRow ln' dv' kv' mv', k ∉ T' ++ rowBlock (.slice p (s.told lim l).length c) := fun k hk hk2 => by
    have f4' : (fb :: ((T' ++ rowBlock (.slice p (s.told lim l).length c)) ++ (rowBlock ln' ++ (rowBlock kv' ++ (rowBlock dv' ++ rowBlock mv'))))).Nodup := by
      rw [List.append_assoc]; exact f4
    obtain ⟨n1, n2⟩ := List.nodup_cons.1 f4'
    rcases List.mem_cons.1 hk with rfl | hk
    · exact n1 (List.mem_append_left _ hk2)
    · simp only [ownList, rowBlock_nil, List.nil_append] at hk
      exact (List.nodup_append.1 n2).2.2 k hk2 k hk rfl
  have hy : ∀ k ∈ wb :: rowBlock rv, k < wr.heap.size ∧ k ∉ fb :: ownList [] nilRow ln dv kv mv := fun k hk => ⟨hR.lt k hk, fun e => hp.xy k e hk⟩
  have hz : ∀ k ∈ rowBlock zv, k < wr.heap.size ∧ k ∉ fb :: ownList [] nilRow ln dv kv mv := fun k hk => ⟨own_lt h.zs k hk, fun e => hp.xz k e hk⟩
  have hno : ∀ k, k < wr.heap.size ∧ k ∉ fb :: ownList [] nilRow ln dv kv mv → k ∉ fb :: ownList T' (.slice p (s.told lim l).length c) ln' dv' kv' mv' := fun k hk hm => by
    rcases hnew k hm with h1 | h1
    · exact hk.2 h1
    · omega
  have hsame : ∀ k, k < wr.heap.size ∧ k ∉ fb :: ownList [] nilRow ln dv kv mv → w'.heap[k]? = wr.heap[k]? := fun k hk => f6.block k hk.1 hk.2
  refine ⟨p, c, tc', T', relab f wr (0, 0), rfl, ⟨h.wl.apart ho notBook_zero hb, f2, f3, ?_, own_same h.zs fun k hk => hsame k (hz k hk), ln', dv', kv', mv', rv, f1, hR.same fun k hk => hsame k (hy k hk), ⟨?_, fun k hk e => hno k (hy k e) (hx' k hk), hxg, fun k hk e => hno k (hz k e) (hx' k hk), fun k hk e => hno k (hy k hk) (hg' k e), hp.yz, fun k hk e => hno k (hz k e) (hg' k hk)⟩⟩, ho⟩
  · obtain ⟨_, n2⟩ := List.nodup_cons.1 f4
    exact (List.nodup_append.1 n2).1
  · rintro k ((hk | hk) | hk | hk)
    · exact hz0 k (hnew k (hx' k hk))
    · exact ⟨(hp.zero k (.inl (.inr hk))).1, by rw [relab_old (hR.lt k hk)]; exact (hp.zero k (.inl (.inr hk))).2⟩
    · exact hz0 k (hnew k (hg' k hk))
    · exact ⟨(hp.zero k (.inr (.inr hk))).1, by rw [relab_old (own_lt h.zs k hk)]; exact (hp.zero k (.inr (.inr hk))).2⟩

/-- the document's Feeder was fed -/
theorem Lx.refFed {l : Bs} {e : Ending} {w' : World} (h : Lx w fb wb bk lim zv zc s raw last quit ov outs tc T f wr) (hr : ∀ rv, RefAt wr wb lim raw last quit rv → RefFed wr wb lim raw last quit rv l e w') :
    ∃ B c tcs bl f', e = .returned (.slice B (Twin.told lim raw last quit l).length c) ∧ Lx w fb wb bk lim zv zc s (raw ++ l) (Twin.last2 lim raw last quit l) (Twin.quit2 lim raw last quit l) ov outs tc T f' w' ∧ OnlyL f f' (· = (0, 0)) wr w' ∧
      w'.ownsRow wr.heap.size 99 16 (.slice B (Twin.told lim raw last quit l).length c) (Twin.told lim raw last quit l).length tcs ∧ StepsMem w' (Twin.told lim raw last quit l) tcs bl := by
  obtain ⟨ln, dv, kv, mv, rv, hF, hR, hp⟩ := h.mem
  obtain ⟨B, c, tcs, bl, rv', rfl, g1, g2, g3, g4, g5⟩ := (hr rv hR).ok
  have ho : OnlyL f (relab f wr (0, 0)) (· = (0, 0)) wr w' := OnlyL.of_only g5 f (fun k hk _ => (hp.zero k (.inl (.inr hk))).2)
  have hb : Below w.heap.size w w' := h.wl.below.trans (g5.below h.wl.below.size fun k hk => (hp.zero k (.inl (.inr hk))).1)
  have hnew : ∀ k ∈ wb :: rowBlock rv', k ∈ wb :: rowBlock rv ∨ wr.heap.size ≤ k := fun k hk => by
    rcases List.mem_cons.1 hk with rfl | hk
    · exact .inl (List.mem_cons_self ..)
    · exact (g4 k hk).imp (List.mem_cons_of_mem _) id
  have hx : ∀ k ∈ fb :: ownList [] nilRow ln dv kv mv, k < wr.heap.size ∧ k ∉ wb :: rowBlock rv := fun k hk => ⟨hF.lt k hk, hp.xy k hk⟩
  have hg : ∀ k ∈ T ++ rowBlock ov, k < wr.heap.size ∧ k ∉ wb :: rowBlock rv := fun k hk => ⟨by
    rcases List.mem_append.1 hk with h1 | h1
    · exact h.st.lt k h1
    · exact own_lt h.own k h1, fun e => hp.yg k e hk⟩
  have hz : ∀ k ∈ rowBlock zv, k < wr.heap.size ∧ k ∉ wb :: rowBlock rv := fun k hk => ⟨own_lt h.zs k hk, fun e => hp.yz k e hk⟩
  have hno : ∀ k, k < wr.heap.size ∧ k ∉ wb :: rowBlock rv → k ∉ wb :: rowBlock rv' := fun k hk hm => by
    rcases hnew k hm with h1 | h1
    · exact hk.2 h1
    · omega
  have hsame : ∀ k, k < wr.heap.size ∧ k ∉ wb :: rowBlock rv → w'.heap[k]? = wr.heap[k]? := fun k hk => g5.block k hk.1 hk.2
  have hold : ∀ k, k < wr.heap.size → w.heap.size ≤ k ∧ f k = (0, 0) → w.heap.size ≤ k ∧ relab f wr (0, 0) k = (0, 0) := fun k h1 h2 => ⟨h2.1, by rw [relab_old h1]; exact h2.2⟩
  refine ⟨B, c, tcs, bl, relab f wr (0, 0), rfl, ⟨h.wl.apart ho notBook_zero hb, own_same h.own fun k hk => hsame k (hg k (List.mem_append_right _ hk)), h.st.same fun k hk => hsame k (hg k (List.mem_append_left _ hk)), h.nd, own_same h.zs fun k hk => hsame k (hz k hk), ln, dv, kv, mv, rv', hF.same fun k hk => hsame k (hx k hk), g3,
    ⟨?_, fun k hk => hno k (hx k hk), hp.xg, hp.xz, fun k hk e => hno k (hg k e) hk, fun k hk e => hno k (hz k e) hk, hp.gz⟩⟩, ho, g1, g2⟩
  rintro k ((hk | hk) | hk | hk)
  · exact hold k (hx k hk).1 (hp.zero k (.inl (.inl hk)))
  · rcases hnew k hk with h1 | h1
    · exact hold k (hR.lt k h1) (hp.zero k (.inl (.inr h1)))
    · exact ⟨Nat.le_trans h.wl.below.size h1, relab_new h1⟩
  · exact hold k (hg k hk).1 (hp.zero k (.inr (.inl hk)))
  · exact hold k (hz k hk).1 (hp.zero k (.inr (.inr hk)))

/-- what was told is taken into the Book -/
theorem Lx.book {A : Option Addr} {c : Nat} (h : Lx w fb wb bk lim zv zc s raw last quit (.slice A outs.length c) outs tc T f wr) (hlen : outs.length ≤ 100000000) (hsm : ∀ t ∈ outs, t.cmd.keys.length ≤ 1000000000 ∧ t.cmd.data.length ≤ 70368744177664) :
    Calls Tryz.prog 29 #[.pointer (some ⟨bk, 0, none⟩), .slice A outs.length c] wr fun e w' => e = .returned (.tuple #[]) ∧ ∃ f', Lx w fb wb bk lim zv zc s raw last quit nilRow [] [] [] f' w' ∧ ∀ k, k < wr.heap.size → f k ≠ (0, 0) → ¬ Inner (f k) → w'.heap[k]? = wr.heap[k]? ∧ f' k = f k := by
  obtain ⟨ln, dv, kv, mv, rv, hF, hR, hp⟩ := h.mem
  have hG : ∀ k, k ∈ rowBlock (.slice A outs.length c) ∨ k ∈ T → k ∈ T ++ rowBlock (.slice A outs.length c) := fun k hk => by
    rcases hk with hk | hk
    · exact List.mem_append_right _ hk
    · exact List.mem_append_left _ hk
  refine (bookSteps_any h.wl h.own h.st h.nd hlen hsm (fun k hk => ?_)).mono ?_
  · have := hp.zero k (.inr (.inl (hG k hk)))
    exact ⟨this.2, this.1⟩
  · rintro e w' ⟨rfl, f', X, h1, h2, h3⟩
    refine ⟨rfl, f', h.dropOn h1 fun k hk h0 hn => ⟨h2.heap k hk (by rw [h0]; exact inner_zero), (h2.lab k hk fun e => hn (hG k (h3 k e).1)).trans h0⟩, fun k hk hn hi => ⟨h2.heap k hk hi, h2.lab k hk fun e => hn (hp.zero k (.inr (.inl (hG k (h3 k e).1)))).2⟩⟩
end
end Go.Proofs.YthgfjafnclklpaaGreatDoor
end
section
namespace Go.Proofs.YthgfjafnclklpaaGreatDoor
attribute [local go_sem ↓] Go.wp_at_zero Go.wp_at_succ
open Go.RowKit Sp

set_option maxHeartbeats 2000000 in
theorem alike_any {wr : World} {fb wb lim last : Nat} {s : FeedV} {raw : Bs} {quit : Bool} {ln dv kv mv rv : Value} (hF : FeedAt wr fb lim s nilRow ln dv kv mv [] []) (hR : RefAt wr wb lim raw last quit rv) (ht : Twin lim s raw last quit) (hlen : raw.length ≤ 100000000) :
    Calls Tryz.prog 33 #[.pointer (some ⟨fb, 0, none⟩), .pointer (some ⟨wb, 0, none⟩)] wr fun e w' => e = .returned (.bool true) ∧ Below wr.heap.size wr w' := by
  have k1 := held_any hF
  have k2 := refHeld_any hR ht.le hlen (fun e => (ht.on e).1)
  rw [← ht.held] at k2
  have k3 := fun (W : World) (hW : Below wr.heap.size wr W) => ended_any (hF.later hW)
  have k4 := fun (W : World) (hW : Below wr.heap.size wr W) => refEnded_any (hR.later hW)
  have k5 := fun (W : World) (hW : Below wr.heap.size wr W) => taken_any (hF.later hW)
  have k6 := fun (W : World) (hW : Below wr.heap.size wr W) => refTaken_any (hR.later hW)
  rw [ht.ended] at k3
  rw [ht.taken] at k5
  generalize s.held = a at k1 k2
  generalize raw.length = n at k5 k6
  have K1 := Lib.hid k1
  have K2 := Lib.hid k2
  have K3 := Lib.hid k3
  have K4 := Lib.hid k4
  have K5 := Lib.hid k5
  have K6 := Lib.hid k6
  clear k1 k2 k3 k4 k5 k6 hF hR ht hlen
  go_enter Tryz.func33, Tryz.ntmps33
  go_wp2_with (first | (go_at_call 71; refine K1.out.mono ?_; rintro e w1 ⟨rfl, rfl⟩) | (go_at_call 72; refine K2.out.mono ?_; rintro e w2 ⟨rfl, hb2⟩; have HB2 := Lib.hid hb2; clear hb2) | (go_at_call 73; refine (K3.out _ HB2.out).mono ?_; rintro e w3 ⟨rfl, rfl⟩) | (go_at_call 74; refine (K4.out _ HB2.out).mono ?_; rintro e w4 ⟨rfl, rfl⟩) | (go_at_call 75; refine (K5.out _ HB2.out).mono ?_; rintro e w5 ⟨rfl, rfl⟩) | (go_at_call 76; refine (K6.out _ HB2.out).mono ?_; rintro e w6 ⟨rfl, rfl⟩))
  go_ret
  exact ⟨rfl, HB2.out⟩
section
variable {w wr : World} {fb wb bk lim last : Nat} {zv ov : Value} {zc tc : List Value} {s : FeedV} {raw : Bs} {quit : Bool} {outs : List StepV} {T : List Nat} {f : Nat → Lab}
theorem Lx.alike (h : Lx w fb wb bk lim zv zc s raw last quit ov outs tc T f wr) (ht : Twin lim s raw last quit) (hlen : raw.length ≤ 100000000) :
    Calls Tryz.prog 33 #[.pointer (some ⟨fb, 0, none⟩), .pointer (some ⟨wb, 0, none⟩)] wr fun e w' => e = .returned (.bool true) ∧ Below wr.heap.size wr w' := by
  obtain ⟨ln, dv, kv, mv, rv, hF, hR, _⟩ := h.mem
  exact alike_any hF hR ht hlen
theorem RefAt.uniq {rv rv' : Value} (h : RefAt wr wb lim raw last quit rv) (h' : RefAt wr wb lim raw last quit rv') : rv = rv' := by
  have e1 : wr.cell? ⟨wb, 1, none⟩ = some rv := h.blk.cell 1
  have e2 : wr.cell? ⟨wb, 1, none⟩ = some rv' := h'.blk.cell 1
  exact Option.some.inj (e1.symm.trans e2)
theorem Lx.refFeed (h : Lx w fb wb bk lim zv zc s raw last quit ov outs tc T f wr) {A : Option Addr} {cap : Nat} {l : Bs} (hrow : RowAt wr A (bytesV l)) (hA : A = none → cap = 0) (hlast : last ≤ raw.length) (hlen : raw.length + l.length ≤ 100000) (hlim : (lim : Int) ≤ 9223372036854775807) :
    Calls Tryz.prog 37 #[.pointer (some ⟨wb, 0, none⟩), .slice A l.length cap] wr fun e w' =>
    ∃ B c tcs bl f', e = .returned (.slice B (Twin.told lim raw last quit l).length c) ∧ Lx w fb wb bk lim zv zc s (raw ++ l) (Twin.last2 lim raw last quit l) (Twin.quit2 lim raw last quit l) ov outs tc T f' w' ∧ OnlyL f f' (· = (0, 0)) wr w' ∧
      w'.ownsRow wr.heap.size 99 16 (.slice B (Twin.told lim raw last quit l).length c) (Twin.told lim raw last quit l).length tcs ∧ StepsMem w' (Twin.told lim raw last quit l) tcs bl := by
  obtain ⟨ln, dv, kv, mv, rv, hF, hR, hp⟩ := h.mem
  refine (refFeed_any (cap := cap) hR hrow hA hlast hlen hlim).mono fun e w' hr => ?_
  exact h.refFed fun rv' h' => by
    have := hR.uniq h'
    subst this
    exact hr
theorem Lx.sameSteps {A B : Option Addr} {c d base : Nat} {tds : List Value} {bm : List Nat} (h : Lx w fb wb bk lim zv zc s raw last quit (.slice A outs.length c) outs tc T f wr) (hw : wr.ownsRow base 99 16 (.slice B outs.length d) outs.length tds) (hs : StepsMem wr outs tds bm) (hl : outs.length ≤ 100000) (hfit : StepsFit outs) :
    Calls Tryz.prog 28 #[.slice A outs.length c, .slice B outs.length d] wr fun e w' => e = .returned (.bool true) ∧ Below wr.heap.size wr w' := by
  have r1 : RowAt wr A tc := RowAt.of_own h.own
  have r2 : RowAt wr B tds := RowAt.of_own hw
  have s1 := h.st.at
  have s2 := hs.at
  exact sameSteps_same (by omega) hfit r1 r2 s1 s2
end
end Go.Proofs.YthgfjafnclklpaaGreatDoor
end
section
namespace Go.Proofs.YthgfjafnclklpaaGreatDoor
attribute [local go_sem ↓] Go.wp_at_zero Go.wp_at_succ
open Go.RowKit Sp

/-- a chunk, as it lies in a row of them -/
structure ChunkArg where
  A : Option Addr
  cap : Nat
  l : Bs
def ChunkArg.val (a : ChunkArg) : Value := .slice a.A a.l.length a.cap
structure ChunkArgs (w : World) (A : Option Addr) (xs : List ChunkArg) : Prop where
  row : RowAt w A (xs.map ChunkArg.val)
  each : ∀ x ∈ xs, RowAt w x.A (bytesV x.l) ∧ (x.A = none → x.cap = 0) ∧ x.l.length ≤ x.cap
theorem ChunkArgs.cell {w : World} {A : Option Addr} {xs : List ChunkArg} (h : ChunkArgs w A xs) {k : Nat} {x : ChunkArg} (hx : xs[k]? = some x) : ∃ g o, A = some ⟨g, o, none⟩ ∧ g < w.heap.size ∧ w.cell? ⟨g, o + k, none⟩ = some (.slice x.A x.l.length x.cap) := by
  have hm : (xs.map ChunkArg.val)[k]? = some x.val := by rw [List.getElem?_map, hx]; rfl
  rcases h.row with h0 | ⟨g, o, h1, h2, h3⟩
  · rw [h0] at hm; simp at hm
  · exact ⟨g, o, h1, h2, h3 k _ hm⟩
/-- the bytes of some chunks -/
def total (ys : List ChunkArg) : Nat := (ys.map fun y => y.l.length).sum
theorem total_snoc (ys : List ChunkArg) (y : ChunkArg) : total (ys ++ [y]) = total ys + y.l.length := by simp [total]
/-- chunks that are not too many and not too long together -/
structure CutOk (w : World) (ys : List ChunkArg) : Prop where
  few : ys.length ≤ 400
  short : total ys ≤ 12000
  each : ∀ y ∈ ys, RowAt w y.A (bytesV y.l) ∧ (y.A = none → y.cap = 0)
theorem CutOk.nil (w : World) : CutOk w [] := ⟨Nat.zero_le _, Nat.zero_le _, fun _ h => by cases h⟩
theorem CutOk.snoc {w : World} {ys : List ChunkArg} (h : CutOk w ys) {x : ChunkArg} (hx : RowAt w x.A (bytesV x.l) ∧ (x.A = none → x.cap = 0)) (hn : ys.length < 400) {m : Nat} (hm : total ys + m ≤ 12000) (hmx : m ≤ x.l.length) : CutOk w (ys ++ [⟨x.A, x.cap, x.l.take m⟩]) := by
  have e : (x.l.take m).length = m := by rw [List.length_take]; omega
  refine ⟨by rw [List.length_append, List.length_singleton]; omega, by rw [total_snoc]; show _ + (x.l.take m).length ≤ _; omega, fun y hy => ?_⟩
  rcases List.mem_append.1 hy with hy | hy
  · exact h.each y hy
  · rw [List.mem_singleton.1 hy]
    refine ⟨?_, hx.2⟩
    have := hx.1.take m
    simpa [bytesV, List.map_take] using this
/-- where the loop of cut stands -/
structure CutMid (w0 w : World) (ys : List ChunkArg) (ov : Value) (wr : World) : Prop where
  ok : CutOk w0 ys
  mem : wr.ownsRow w.heap.size 35 1 ov ys.length (ys.map ChunkArg.val)
  below : Below w.heap.size w wr
theorem info_rowsD : (Tryz.prog.info? 35).map (fun i => (i.zero, i.size, i.bytes)) = some (some nilRow, 1, 24) := by kernel_rfl
/-- what cut tells -/
def CutPost (w0 w : World) (e : Ending) (w' : World) : Prop := ∃ ys Z c, e = .returned (.slice Z (List.length ys) c) ∧ CutMid w0 w ys (.slice Z ys.length c) w'
theorem CutMid.on {w0 w wr w3 : World} {ys : List ChunkArg} {ov : Value} (h : CutMid w0 w ys ov wr) {x : ChunkArg} (hx : RowAt w0 x.A (bytesV x.l) ∧ (x.A = none → x.cap = 0)) (hn : ys.length < 400) {m : Nat} (hm : total ys + m ≤ 12000) (hmx : m ≤ x.l.length) {o : Obj} {g c : Nat}
    (hown : w3.ownsRow w.heap.size 35 1 (.slice (some ⟨g, 0, none⟩) (ys.length + 1) c) (ys.length + 1) (ys.map ChunkArg.val ++ [.slice x.A m x.cap])) (hg : (wr.alloc o).grownBy w3 ov.ownBlock) :
    CutMid w0 w (ys ++ [⟨x.A, x.cap, x.l.take m⟩]) (.slice (some ⟨g, 0, none⟩) (ys.length + 1) c) w3 := by
  have e : (x.l.take m).length = m := by rw [List.length_take]; omega
  refine ⟨h.ok.snoc hx hn hm hmx, ?_, ?_⟩
  · rw [List.length_append, List.length_singleton, List.map_append]
    show w3.ownsRow _ _ _ _ _ (ys.map ChunkArg.val ++ [Value.slice x.A (x.l.take m).length x.cap])
    rw [e]; exact hown
  · have hb1 : Below w.heap.size w (wr.alloc o) := h.below.alloc h.below.size o
    exact hb1.grown hg hb1.size (fun k hk => ((own_later h.mem ((Below.refl _ _).alloc (Nat.le_refl _) o)).lt k hk).1)
theorem ChunkArgs.below {w w' : World} {A : Option Addr} {xs : List ChunkArg} (h : ChunkArgs w A xs) (hb : Below w.heap.size w w') : ChunkArgs w' A xs := ⟨h.row.below hb, fun x hx => ⟨(h.each x hx).1.below hb, (h.each x hx).2⟩⟩
set_option maxHeartbeats 4000000 in
set_option maxRecDepth 100000 in
theorem cut_any {w0 w : World} {A : Option Addr} {cap : Nat} {xs : List ChunkArg} (hA : ChunkArgs w0 A xs) (h0 : Below w0.heap.size w0 w) (hn : xs.length ≤ 9223372036854775807) : Calls Tryz.prog 34 #[.slice A xs.length cap] w (CutPost w0 w) := by
  generalize hR : CutPost w0 w = R
  have hstart : CutMid w0 w [] nilRow w := ⟨CutOk.nil w0, World.ownsRow_nil _ _ _ 1, Below.refl _ _⟩
  obtain ⟨i0, hi, hz0, hz1, hz2⟩ := info_parts info_rowsD
  have HR := Lib.hid hR
  have HA := Lib.hid hA
  have HS := Lib.hid hstart
  have H0 := Lib.hid h0
  clear hR hA hstart h0
  go_enter Tryz.func34, Tryz.ntmps34
  go_wp2_with fail
  go_loopw [3, 4, 5, 6] (fun o n i _ wr => ∃ (k : Nat) (ys : List ChunkArg), i = .int .i64 k ∧ n = .int .i64 (total ys) ∧ k ≤ xs.length ∧ ys.length = k ∧ CutMid w0 w ys o wr) (fun _ _ i _ _ => xs.length - (intOf i).toNat)
  case atStart => exact ⟨0, [], rfl, rfl, Nat.zero_le _, rfl, HS.out⟩
  case round =>
    obtain ⟨k, ys, rfl, rfl, hk, hy, hm⟩ := hrel
    subst hy
    by_cases hgo : ys.length < xs.length ∧ ys.length < 400
    · obtain ⟨g1, g2⟩ := hgo
      obtain ⟨x, hx⟩ : ∃ x, xs[ys.length]? = some x := ⟨xs[ys.length], by simp [g1]⟩
      have hxe := HA.out.each x (List.mem_of_getElem? hx)
      obtain ⟨g, o, hAe, _, ycell⟩ := (HA.out.below (H0.out.trans (hm.below.mono H0.out.size))).cell hx
      subst hAe
      have hshort := hm.ok.short
      have hxl := hxe.2.2
      obtain ⟨n, hnn⟩ : ∃ n, n = total ys := ⟨_, rfl⟩
      rw [← hnn] at hshort ⊢
      obtain ⟨m, hmm⟩ : ∃ m, m = min x.l.length (12000 - n) := ⟨_, rfl⟩
      have hm1 : m ≤ x.l.length := by omega
      have hm2 : total ys + m ≤ 12000 := by omega
      have hnm : n + m ≤ 12000 := by omega
      have HM := Lib.hid hm
      have HX := Lib.hid hxe
      have HMM := Lib.hid hmm
      have HM2 := Lib.hid hm2
      have HNN := Lib.hid hnn
      have hne : 12000 - n < x.l.length → ∃ b q, x.A = some ⟨b, q, none⟩ := fun h => by
        rcases hxe.1 with h0 | ⟨b, q, h1, _⟩
        · have : x.l = [] := by simpa [bytesV] using h0
          rw [this] at h; simp at h
        · exact ⟨b, q, h1⟩
      have HNE := Lib.hid hne
      clear hxe hmm hm2 hm hx hne hnn
      go_upto_if 25 with fail
      go_cut [6] (fun b wx => b = .slice x.A m x.cap ∧ wr = wx)
      case first =>
        by_cases hgt : (12000 : Int) - (n : Int) < (x.l.length : Int)
        · obtain ⟨b, q, hb⟩ := HNE.out (by omega)
          rw [hb]
          have h2 : (12000 : Int) - (n : Int) ≤ (x.cap : Int) := by omega
          go_wp2
          go_meet
          have := HMM.out
          exact ⟨by rw [hb]; congr 1; omega, rfl⟩
        · go_wp2
          go_meet
          have := HMM.out
          exact ⟨by congr 1; omega, rfl⟩
      case rest =>
        obtain ⟨rfl, rfl⟩ := hcut
        have hx2 : RowAt w0 x.A (bytesV x.l) ∧ (x.A = none → x.cap = 0) := ⟨HX.out.1, HX.out.2.1⟩
        have ho2 := own_later HM.out.mem ((Below.refl _ _).alloc (Nat.le_refl _) (.cells #[.slice x.A m x.cap] 35))
        have hsz := HM.out.below.size
        have HO2 := Lib.hid ho2
        have HX2 := Lib.hid hx2
        clear ho2 hx2
        go_wp2_with (at_builtin; refine wpList_append_put rfl (.tmp 34) (.tmp 36) _ rfl w.heap.size 35 i0 _ 1 24 Tryz.underlying24 hi hz0 hz1 hz2 rfl (by decide) u3 ys.length (ys.map ChunkArg.val) rfl HO2.out ⟨wr.heap.size, 0, none⟩ 1 1 [.slice x.A m x.cap] rfl rfl ?_ ?_ ?_ ?_ ?_ ?_ ?_; exact cells_one _ _ _; (intro u hu; simp at hu; subst hu; rfl); decide; (unfold maxLen; omega); omega; (simp; omega); intro g3 cap3 w3 hown3 hg3 hat3; have hon := HM.out.on HX2.out (by omega) HM2.out hm1 hown3 hg3; have HON := Lib.hid hon; clear hown3 hg3 hat3 hon)
        have e : (x.l.take m).length = m := by rw [List.length_take]; omega
        have ht : total (ys ++ [⟨x.A, x.cap, x.l.take m⟩]) = n + m := by rw [total_snoc, HNN.out]; show _ + (x.l.take m).length = _; rw [e]
        exact ⟨⟨ys.length + 1, ys ++ [⟨x.A, x.cap, x.l.take m⟩], by go_num, by rw [ht]; go_num, by omega, by rw [List.length_append, List.length_singleton], HON.out⟩, by show xs.length - ((ys.length : Int) + 1).toNat < xs.length - (ys.length : Int).toNat; omega⟩
    · have hfin : R (.returned u3) wr := by
        rw [← HR.out]
        obtain ⟨Z, c, hz⟩ := own_form hm.mem
        exact ⟨ys, Z, c, by rw [hz], by rw [← hz]; exact hm⟩
      have HF := Lib.hid hfin
      clear hm hfin
      by_cases hk1 : ys.length < xs.length
      · have h1 : (ys.length : Int) < (xs.length : Int) := by omega
        have h2 : decide ((ys.length : Int) < 400) = false := decide_eq_false (by omega)
        clear hgo
        go_wp2_with fail
        exact HF.out
      · have h1 : decide ((ys.length : Int) < (xs.length : Int)) = false := decide_eq_false (by omega)
        have h2 : decide (ys.length < xs.length) = false := decide_eq_false (by omega)
        clear hgo
        go_wp2_with fail
        exact HF.out

end Go.Proofs.YthgfjafnclklpaaGreatDoor
end
section
namespace Go.Proofs.YthgfjafnclklpaaGreatDoor
attribute [local go_sem ↓] Go.wp_at_zero Go.wp_at_succ
open Go.RowKit Sp

theorem oneV_data {lim : Nat} {l : Sp.Bs} {t : Sp.StepV} {n : Nat} (h : Sp.oneV lim l = some (t, n)) : t.cmd.data.length ≤ l.length := by
  unfold Sp.oneV at h
  split at h
  · cases h
  · split at h
    · split at h
      · rw [Option.map_eq_some_iff] at h
        obtain ⟨x, _, e⟩ := h
        injection e with e1 _
        subst e1; exact Nat.zero_le _
      · injection h with h; injection h with e1 _
        subst e1; exact Nat.zero_le _
    · rename_i c m hr
      have hs : c.data.length ≤ l.length := by rw [(lineOf_ok hr).2.2.1]; exact Nat.zero_le _
      split at h
      · injection h with h; injection h with e1 _
        subst e1; exact hs
      · rw [Option.map_eq_some_iff] at h
        obtain ⟨x, _, e⟩ := h
        injection e with e1 _
        subst e1
        split
        · exact hs
        · split
          · rename_i i _ _ _ _ _ _
            show (List.take _ (List.drop _ l)).length ≤ l.length
            rw [List.length_take, List.length_drop]; omega
          · exact Nat.zero_le _
theorem allV_data (lim : Nat) : ∀ (r a : Nat) (l : Sp.Bs), (Sp.allV lim r a l).1.length ≤ r ∧ ∀ t ∈ (Sp.allV lim r a l).1, t.cmd.data.length ≤ l.length
  | 0, _, _ => ⟨by simp [Sp.allV], fun t h => by simp [Sp.allV] at h⟩
  | r + 1, a, l => by
    unfold Sp.allV
    split
    · exact ⟨Nat.zero_le _, fun t h => by simp at h⟩
    · rename_i t0 n ho
      have hs := oneV_data ho
      split
      · exact ⟨by simp, fun t h => by simp at h; subst h; exact hs⟩
      · obtain ⟨g1, g2⟩ := allV_data lim r (a + n) (l.drop n)
        refine ⟨by simpa using g1, fun t h => ?_⟩
        rcases List.mem_cons.1 h with rfl | h
        · exact hs
        · have := g2 t h
          rw [List.length_drop] at this; omega

/-- what is told of a chunk is small -/
theorem told_small (lim : Nat) (raw : Bs) (last : Nat) (quit : Bool) (l : Bs) (h : (raw ++ l).length ≤ 12000) : (Twin.told lim raw last quit l).length ≤ 100000 ∧ StepsFit (Twin.told lim raw last quit l) ∧ ∀ t ∈ Twin.told lim raw last quit l, t.cmd.keys.length ≤ 1000000000 ∧ t.cmd.data.length ≤ 70368744177664 := by
  unfold Twin.told
  cases quit with
  | true => exact ⟨Nat.zero_le _, fun t h => (by cases h), fun t h => (by cases h)⟩
  | false =>
    rw [if_neg (by decide)]
    have hd : ((raw ++ l).drop last).length ≤ 12000 := by rw [List.length_drop]; omega
    obtain ⟨h1, h2⟩ := allV_data lim (((raw ++ l).drop last).length + 1) 0 ((raw ++ l).drop last)
    have h3 := allV_short lim (((raw ++ l).drop last).length + 1) 0 ((raw ++ l).drop last)
    refine ⟨by rw [List.length_map]; exact Nat.le_trans h1 (by omega), fun t ht => ?_, fun t ht => ?_⟩
    · obtain ⟨u, hu, rfl⟩ := List.mem_map.1 ht
      have := h3 u hu
      exact ⟨Nat.le_trans this.1 (by decide), Nat.le_trans this.2 (by decide)⟩
    · obtain ⟨u, hu, rfl⟩ := List.mem_map.1 ht
      have := h3 u hu
      have := h2 u hu
      exact ⟨Nat.le_trans (h3 u hu).1 (by decide), by show u.cmd.data.length ≤ _; omega⟩
theorem LoanAt.empty {w : World} {f : Nat → Lab} {lg : Nat} (hb : Blk w lg 43 #[nilRow, nilRow, nilRow, nilRow]) (hf : f lg = (30, 0)) : LoanAt w f lg nilRow nilRow nilRow nilRow [] [] [] [] [] [] :=
  ⟨hb, hf, RowL.nil _ _ _, RowL.nil _ _ _, RowL.nil _ _ _, RowL.nil _ _ _, rfl, rfl, rfl, rfl, LotsAt.nil _ _ _ _ _ _ _, LotsAt.nil _ _ _ _ _ _ _, LotsAt.nil _ _ _ _ _ _ _, LotsAt.nil _ _ _ _ _ _ _, ⟨by decide, by decide⟩, ⟨by simp, by simp⟩⟩
theorem lotB_row {w : World} {g c n : Nat} {l m : Bs} (h : Lot w 1 (.slice (some ⟨g, 0, none⟩) n c) (l ++ m).length (l ++ m).length (byteF (l ++ m))) : RowAt w (some ⟨g, 0, none⟩) (bytesV l) := by
  refine .inr ⟨g, 0, rfl, h.lt g rfl, fun j u hu => ?_⟩
  have hj : j < l.length := by have := (List.getElem?_eq_some_iff.1 hu).1; rwa [bytesV_length] at this
  have e : (byteF (l ++ m) j)[0]? = some u := by
    rw [← hu]
    simp [bytesV, byteF, List.getD_eq_getElem?_getD, List.getElem?_append_left hj, List.getElem?_eq_getElem hj]
  obtain ⟨g', cap', e1, hc⟩ := h.at (k := j) (c := 0) (by rw [List.length_append]; omega) e
  injection e1 with e1
  injection e1 with e1
  injection e1 with e1
  subst e1
  rw [Nat.mul_one, Nat.add_zero] at hc
  rw [Nat.zero_add]; exact hc

section
variable {w wr w3 w6 : World} {fb wb bk lim last : Nat} {zv ov : Value} {zc tc : List Value} {s : FeedV} {raw : Bs} {quit : Bool} {outs : List StepV} {T : List Nat} {f : Nat → Lab}
/-- ahead of the loop -/
theorem Lx.start {ys : List ChunkArg} (hF : FeedAt w3 fb lim {} nilRow nilRow nilRow nilRow nilRow [] []) (hR : RefAt w3 wb lim [] 0 false nilRow) (h0 : Below w.heap.size w w3) (hfb : w.heap.size ≤ fb) (hwb : w.heap.size ≤ wb) (hne : fb ≠ wb)
    {w0 : World} (hc : CutMid w0 ((w3.alloc (.cells (bookArr nilRow nilRow nilRow nilRow nilRow 0) 32)).alloc (.cells #[nilRow, nilRow, nilRow, nilRow] 43)) ys zv w6) :
    ∃ f, Lx w fb wb w3.heap.size lim zv (ys.map ChunkArg.val) {} [] 0 false nilRow [] [] [] f w6 ∧ Blk w6 (w3.heap.size + 1) 43 #[nilRow, nilRow, nilRow, nilRow] ∧ f (w3.heap.size + 1) = (30, 0) := by
  obtain ⟨f, hf⟩ : ∃ f : Nat → Lab, f = fun k => if k = w3.heap.size then (1, 0) else if k = w3.heap.size + 1 then (30, 0) else (0, 0) := ⟨_, rfl⟩
  have fb1 : f w3.heap.size = (1, 0) := by rw [hf]; exact if_pos rfl
  have fl1 : f (w3.heap.size + 1) = (30, 0) := by rw [hf]; dsimp only; rw [if_neg (by omega), if_pos rfl]
  have fz : ∀ k, k ≠ w3.heap.size → k ≠ w3.heap.size + 1 → f k = (0, 0) := fun k h1 h2 => by rw [hf]; dsimp only; rw [if_neg h1, if_neg h2]
  have b4 : Below w3.heap.size w3 (w3.alloc (.cells (bookArr nilRow nilRow nilRow nilRow nilRow 0) 32)) := (Below.refl _ _).alloc (Nat.le_refl _) _
  have s4 : (w3.alloc (.cells (bookArr nilRow nilRow nilRow nilRow nilRow 0) 32)).heap.size = w3.heap.size + 1 := by simp
  have hbook := BookAt.new w3 f fb1
  have hloan := LoanAt.new (w3.alloc (.cells (bookArr nilRow nilRow nilRow nilRow nilRow 0) 32)) f (by rw [s4]; exact fl1)
  rw [s4] at hloan
  obtain ⟨w4, hw4⟩ : ∃ w4, w4 = w3.alloc (.cells (bookArr nilRow nilRow nilRow nilRow nilRow 0) 32) := ⟨_, rfl⟩
  rw [← hw4] at b4 s4 hbook hloan hc
  have b5 : Below w4.heap.size w4 (w4.alloc (.cells #[nilRow, nilRow, nilRow, nilRow] 43)) := (Below.refl _ _).alloc (Nat.le_refl _) _
  have s5 : (w4.alloc (.cells #[nilRow, nilRow, nilRow, nilRow] 43)).heap.size = w3.heap.size + 2 := by simp [s4]
  obtain ⟨w5, hw5⟩ : ∃ w5, w5 = w4.alloc (.cells #[nilRow, nilRow, nilRow, nilRow] 43) := ⟨_, rfl⟩
  rw [← hw5] at b5 s5 hloan hc
  have b6 := hc.below
  have b35 : Below w3.heap.size w3 w5 := b4.trans (b5.mono b4.size)
  have b36 : Below w3.heap.size w3 w6 := b35.trans (b6.mono b35.size)
  have hF6 := hF.later b36
  have hR6 := hR.later b36
  have hlt := hF.lt
  have hlt2 := hR.lt
  have hbook6 := (hbook.later (f1 := f) b5 (fun _ _ => rfl)).later (f1 := f) b6 (fun _ _ => rfl)
  have hwl : WlE w w3.heap.size f w6 := ⟨⟨_, _, _, _, _, _, _, _, _, _, _, _, _, _, hbook6⟩, fun k hk => fz k (by have := h0.size; omega) (by have := h0.size; omega), h0.trans (b36.mono h0.size)⟩
  have hzs : w6.ownsRow 0 35 1 zv (ys.map ChunkArg.val).length (ys.map ChunkArg.val) := by rw [List.length_map]; exact World.ownsRow.mono hc.mem (Nat.zero_le _)
  have hz : ∀ k ∈ rowBlock zv, w3.heap.size + 2 ≤ k := fun k hk => by have := own_ge hc.mem k hk; omega
  have hX : ∀ k ∈ fb :: ownList [] nilRow nilRow nilRow nilRow nilRow, k = fb := fun k hk => by simpa [ownList, rowBlock_nil] using hk
  have hY : ∀ k ∈ wb :: rowBlock nilRow, k = wb := fun k hk => by simpa [rowBlock_nil] using hk
  have hfl : fb < w3.heap.size := hlt fb (List.mem_cons_self ..)
  have hwl2 : wb < w3.heap.size := hlt2 wb (List.mem_cons_self ..)
  have hG : ∀ k, k ∉ ([] : List Nat) ++ rowBlock nilRow := fun k hk => by simp [rowBlock_nil] at hk
  refine ⟨f, ⟨hwl, World.ownsRow_nil _ _ _ _, ⟨rfl, rfl⟩, List.nodup_nil, hzs, nilRow, nilRow, nilRow, nilRow, nilRow, hF6, hR6, ⟨?_, fun k h1 h2 => hne ((hX k h1).symm.trans (hY k h2)), fun k _ => hG k, fun k h1 h2 => ?_, fun k _ => hG k, fun k h1 h2 => ?_, fun k h1 => absurd h1 (hG k)⟩⟩, (hloan.later (f1 := f) b6 (fun _ _ => rfl)).blk, fl1⟩
  · rintro k ((hk | hk) | hk | hk)
    · rw [hX k hk]; exact ⟨hfb, fz fb (by omega) (by omega)⟩
    · rw [hY k hk]; exact ⟨hwb, fz wb (by omega) (by omega)⟩
    · exact absurd hk (hG k)
    · have := hz k hk
      exact ⟨by have := h0.size; omega, fz k (by omega) (by omega)⟩
  · have := hX k h1; have := hz k h2; omega
  · have := hY k h1; have := hz k h2; omega
/-- a chunk's cell -/
theorem Lx.cell {ys : List ChunkArg} {Z : Option Addr} {c i : Nat} {y : ChunkArg} (h : Lx w fb wb bk lim (.slice Z ys.length c) (ys.map ChunkArg.val) s raw last quit ov outs tc T f wr) (hy : ys[i]? = some y) : ∃ g, Z = some ⟨g, 0, none⟩ ∧ wr.cell? ⟨g, i, none⟩ = some (.slice y.A y.l.length y.cap) := by
  have hi := (List.getElem?_eq_some_iff.1 hy).1
  have hz := h.zs
  obtain ⟨g, cap, e, _, _⟩ := World.ownsRow.form hz (by rw [List.length_map]; omega)
  injection e with e1 _ e2
  subst e1 e2
  rw [List.length_map] at hz
  refine ⟨g, rfl, ?_⟩
  rw [hz.cellAt i (by omega), List.getElem?_map, hy]; rfl
end
theorem notBook_LB : NotBook (OnLB 0) :=
  ⟨onLB_no (by decide) (by decide) (by decide) (by decide), fun _ => ⟨onLB_no (by decide) (by decide) (by decide) (by decide), onLB_no (by decide) (by decide) (by decide) (by decide), onLB_no (by decide) (by decide) (by decide) (by decide)⟩,
    fun _ => ⟨onLB_no (by decide) (by decide) (by decide) (by decide), onLB_no (by decide) (by decide) (by decide) (by decide), onLB_no (by decide) (by decide) (by decide) (by decide), onLB_no (by decide) (by decide) (by decide) (by decide), onLB_no (by decide) (by decide) (by decide) (by decide)⟩⟩
theorem inner_no30 : ¬ Inner (30, 0) := by
  rintro (e | e | e | e | e | e | e | e) <;> first | (have := congrArg Prod.fst e; dsimp only at this; omega) | (dsimp only at e; omega)
theorem total_drop {ys : List ChunkArg} {i : Nat} {y : ChunkArg} (h : ys[i]? = some y) : total (ys.drop i) = y.l.length + total (ys.drop (i + 1)) := by
  obtain ⟨h1, h2⟩ := List.getElem?_eq_some_iff.1 h
  rw [List.drop_eq_getElem_cons h1, h2]
  simp [total]
/-- where the loop of LineExact stands -/
structure LxAt (w : World) (fb wb bk lg lim : Nat) (zv : Value) (ys : List ChunkArg) (i : Nat) (wr : World) : Prop where
  ok : ∃ s raw last quit f, Lx w fb wb bk lim zv (ys.map ChunkArg.val) s raw last quit nilRow [] [] [] f wr ∧ (Blk wr lg 43 #[nilRow, nilRow, nilRow, nilRow] ∧ f lg = (30, 0)) ∧ Twin lim s raw last quit ∧ raw.length + total (ys.drop i) ≤ 12000 ∧ s.Fits (3 * raw.length)
theorem Lx.next {w wr : World} {fb wb bk lg lim last : Nat} {zv : Value} {ys : List ChunkArg} {s : FeedV} {raw : Bs} {quit : Bool} {i : Nat} {f : Nat → Lab} {y : ChunkArg} (h : Lx w fb wb bk lim zv (ys.map ChunkArg.val) (s.feed lim y.l) (raw ++ y.l) (Twin.last2 lim raw last quit y.l) (Twin.quit2 lim raw last quit y.l) nilRow [] [] [] f wr)
    (hb : Blk wr lg 43 #[nilRow, nilRow, nilRow, nilRow]) (hf : f lg = (30, 0)) (ht : Twin lim s raw last quit) (hy : ys[i]? = some y) (hl : raw.length + total (ys.drop i) ≤ 12000) (hfit : s.Fits (3 * raw.length)) : LxAt w fb wb bk lg lim zv ys (i + 1) wr := by
  refine ⟨⟨_, _, _, _, f, h, ⟨hb, hf⟩, (ht.fed y.l).2, ?_, ?_⟩⟩
  · have := total_drop hy
    rw [List.length_append]; omega
  · rw [List.length_append, Nat.mul_add]
    exact fits_feed' hfit y.l
attribute [-go_sem] storeVar loadVar
attribute [local go_sem] storeVar_intR storeVar_sliceR loadVar_intR loadVar_rowR loadVar_u8B

set_option maxHeartbeats 4000000 in
set_option maxRecDepth 100000 in
theorem lineExact_any {w : World} (hg : Glob w) {limit : Int} (hlimit : limit ≤ 9223372036854775807) {A : Option Addr} {capA : Nat} {xs : List ChunkArg} (hA : ChunkArgs w A xs) (hn : xs.length ≤ 9223372036854775807) :
    Calls Tryz.prog 6 #[.int .i64 limit, .slice A xs.length capA] w fun e w' => e = .returned (.bool true) ∧ Below w.heap.size w w' := by
  generalize hR : (fun (e : Ending) (w' : World) => e = .returned (.bool true) ∧ Below w.heap.size w w') = R
  have hnew := new_any w hg.size limit
  have hrn : ∀ W : World, Calls Tryz.prog 32 #[.int .i64 limit] W _ := fun W => refNew_any W limit
  obtain ⟨lim, hlm⟩ : ∃ lim, lim = limit.toNat := ⟨_, rfl⟩
  rw [← hlm] at hnew hrn
  have hlim : (lim : Int) ≤ 9223372036854775807 := by omega
  obtain ⟨fb, hfb⟩ : ∃ fb, fb = w.heap.size := ⟨_, rfl⟩
  rw [← hfb] at hnew
  have HR := Lib.hid hR
  have HG := Lib.hid hg
  have HA := Lib.hid hA
  have HNEW := Lib.hid hnew
  have HRN := Lib.hid hrn
  have HFB := Lib.hid hfb
  clear hR hg hA hnew hrn hlm hfb hlimit
  go_enter Tryz.func6, Tryz.ntmps6
  go_upto_region 2 with (go_at_call 31; refine HNEW.out.mono ?_; rintro e w1 ⟨rfl, hF1, hb1⟩; rw [HFB.out] at hb1; have HF1 := Lib.hid hF1; have HB1 := Lib.hid hb1; clear hF1 hb1)
  go_upto_region 3 with (go_at_call 32; refine (HRN.out w1).mono ?_; rintro e w2 ⟨rfl, hR2, hb2⟩; have HR2 := Lib.hid hR2; have HB2 := Lib.hid hb2; clear hR2 hb2)
  have hal0 := alike_any (HF1.out.later HB2.out) HR2.out (Twin.new lim) (by decide)
  have HAL0 := Lib.hid hal0
  clear hal0
  go_upto_region 5 with (go_at_call 33; refine HAL0.out.mono ?_; rintro e w3 ⟨rfl, hb3⟩; have HB3 := Lib.hid hb3; clear hb3)
  go_upto_region 7 with fail
  have hcut := cut_any (cap := capA) (w := (w3.alloc (.cells (bookArr nilRow nilRow nilRow nilRow nilRow 0) 32)).alloc (.cells #[nilRow, nilRow, nilRow, nilRow] 43)) HA.out (by
    have hb := HB1.out.trans ((HB2.out.trans (HB3.out.mono HB2.out.size)).mono HB1.out.size)
    exact (hb.alloc hb.size _).alloc (Nat.le_trans hb.size (by simp)) _) hn
  have HCUT := Lib.hid hcut
  clear hcut
  go_upto_region 8 with (go_at_call 34; refine HCUT.out.mono ?_; rintro e w6 ⟨ys, Z, cz, rfl, hc⟩; have HC := Lib.hid hc; clear hc)
  have hst := Lx.start ((HF1.out.later HB2.out).later HB3.out) (HR2.out.later HB3.out) (HB1.out.trans ((HB2.out.trans (HB3.out.mono HB2.out.size)).mono HB1.out.size)) (by rw [HFB.out]; exact Nat.le_refl _) HB1.out.size (by
    have := HF1.out.lt fb (List.mem_cons_self ..)
    omega) HC.out
  obtain ⟨f0, hlx0, hlo0⟩ := hst
  have hstart : LxAt w fb w1.heap.size w3.heap.size (w3.heap.size + 1) lim (.slice Z ys.length cz) ys 0 w6 := ⟨⟨{}, [], 0, false, f0, hlx0, hlo0, Twin.new lim, by rw [List.drop_zero]; simpa using HC.out.ok.short, fits_new⟩⟩
  have HST := Lib.hid hstart
  have hok := HC.out.ok
  have HOK := Lib.hid hok
  have hyl : ys.length ≤ 400 := hok.few
  clear hlx0 hlo0 hstart hok HC HCUT HAL0 HF1 HR2
  obtain ⟨wb, hwb⟩ : ∃ wb, wb = w1.heap.size := ⟨_, rfl⟩
  obtain ⟨bk, hbk⟩ : ∃ bk, bk = w3.heap.size := ⟨_, rfl⟩
  obtain ⟨lg, hlg⟩ : ∃ lg, lg = bk + 1 := ⟨_, rfl⟩
  rw [← hwb, ← hbk, ← hlg] at HST
  simp only [← hwb, ← hbk, ← hlg]
  clear hwb hbk hlg HB1 HB2 HB3 HFB HRN HNEW HA
  go_wp2_with fail
  go_loopw [9, 10, 11] (fun iv _ _ wx => ∃ i : Nat, i ≤ ys.length ∧ iv = .int .i64 i ∧ LxAt w fb wb bk lg lim (.slice Z ys.length cz) ys i wx) (fun iv _ _ _ => ys.length - (intOf iv).toNat)
  case atStart => exact ⟨0, Nat.zero_le _, rfl, HST.out⟩
  case round =>
    obtain ⟨i, hi, rfl, hm⟩ := hrel
    obtain ⟨s, raw, last, quit, f, hlx, ⟨hlb, hlf⟩, htw, htot, hfit⟩ := hm.ok
    by_cases hlt : i < ys.length
    · obtain ⟨y, hy⟩ : ∃ y, ys[i]? = some y := ⟨ys[i], by simp [hlt]⟩
      have hyo := HOK.out.each y (List.mem_of_getElem? hy)
      have hdr := total_drop hy
      have hyl2 : raw.length + y.l.length ≤ 12000 := by omega
      obtain ⟨gz, hZ, zc⟩ := hlx.cell hy
      subst hZ
      have hi1 : (i : Int) < (ys.length : Int) := by omega
      have hbl := loanB_any (c := y.cap) (LoanAt.empty hlb hlf) (hyo.1.below hlx.wl.below) hyo.2 (by omega) (by decide)
      obtain ⟨outs, hO⟩ : ∃ outs, outs = Twin.told lim raw last quit y.l := ⟨_, rfl⟩
      have hold : s.told lim y.l = outs := (htw.fed y.l).1.trans hO.symm
      have hsm := told_small lim raw last quit y.l (by rw [List.length_append]; omega)
      rw [← hO] at hsm
      have hnx := fun (f' : Nat → Lab) (W : World) (h : Lx w fb wb bk lim (.slice (some ⟨gz, 0, none⟩) ys.length cz) (ys.map ChunkArg.val) (s.feed lim y.l) (raw ++ y.l) (Twin.last2 lim raw last quit y.l) (Twin.quit2 lim raw last quit y.l) nilRow [] [] [] f' W) (hb : Blk W lg 43 #[nilRow, nilRow, nilRow, nilRow]) (hf : f' lg = (30, 0)) => h.next hb hf htw hy htot hfit
      have htw2 := (htw.fed y.l).2
      obtain ⟨s2, hs2⟩ : ∃ s2, s2 = s.feed lim y.l := ⟨_, rfl⟩
      obtain ⟨raw2, hr2⟩ : ∃ raw2, raw2 = raw ++ y.l := ⟨_, rfl⟩
      obtain ⟨last2, hl2⟩ : ∃ last2, last2 = Twin.last2 lim raw last quit y.l := ⟨_, rfl⟩
      obtain ⟨quit2, hq2⟩ : ∃ quit2, quit2 = Twin.quit2 lim raw last quit y.l := ⟨_, rfl⟩
      have hraw2 : raw2.length ≤ 100000000 := by rw [hr2, List.length_append]; omega
      have hfeed : ∀ (f1 : Nat → Lab) (W : World) (g cp : Nat), OnlyL f f1 (OnLB 0) wr W → LotB W (.slice (some ⟨g, 0, none⟩) (y.l.length + 40) cp) (y.l ++ markBL) → f1 g = (33, 0) →
          Calls Tryz.prog 35 #[.pointer (some ⟨fb, 0, none⟩), .slice (some ⟨g, 0, none⟩) y.l.length cp] W fun e w' => ∃ p c tc T f', e = .returned (.slice p outs.length c) ∧ Lx w fb wb bk lim (.slice (some ⟨gz, 0, none⟩) ys.length cz) (ys.map ChunkArg.val) s2 raw last quit (.slice p outs.length c) outs tc T f' w' ∧ OnlyL f1 f' (· = (0, 0)) W w' := fun f1 W g cp h1 h2 h3 => by
        have hx1 := hlx.apart h1 notBook_LB (onLB_no (by decide) (by decide) (by decide) (by decide))
        have := hx1.feed (cap := cp) (HG.out.later hx1.wl.below) hfit (by omega) (lotB_row h2) (fun a ha => by
          injection ha with ha
          rw [← ha]
          show f1 g ≠ _
          rw [h3]; exact lab_ne (by decide))
        rw [hold, ← hs2] at this
        exact this
      have hrow : ∀ W : World, Below w.heap.size w W → RowAt W y.A (bytesV y.l) := fun W h => hyo.1.below h
      have hya := hyo.2
      have hle := htw.le
      have hcell : ∀ (s' : FeedV) (ov : Value) (us : List StepV) (tc : List Value) (T : List Nat) (f' : Nat → Lab) (W : World), Lx w fb wb bk lim (.slice (some ⟨gz, 0, none⟩) ys.length cz) (ys.map ChunkArg.val) s' raw last quit ov us tc T f' W → W.cell? ⟨gz, i, none⟩ = some (.slice y.A y.l.length y.cap) := fun _ _ _ _ _ _ _ h => by
        obtain ⟨g', e, h'⟩ := h.cell hy
        injection e with e
        injection e with e
        rw [e]; exact h'
      rw [← hs2, ← hr2, ← hl2, ← hq2] at hnx htw2
      have HBL := Lib.hid hbl
      have HFEED := Lib.hid hfeed
      have HROW := Lib.hid hrow
      have HYA := Lib.hid hya
      have HCELL := Lib.hid hcell
      have HNX := Lib.hid hnx
      have HTW2 := Lib.hid htw2
      have HSM := Lib.hid hsm
      have HO := Lib.hid hO
      have HR2 := Lib.hid hr2
      have HL2 := Lib.hid hl2
      have HQ2 := Lib.hid hq2
      clear hm hlx hlb hlf htw htot hfit hyo hdr hbl hO hold hsm hnx htw2 hs2 hr2 hl2 hq2 hfeed hrow hya hcell hy
      go_upto_region 12 with (first
        | (go_at_call 36; refine HBL.out.mono ?_; rintro e v1 ⟨g, cp, f1, l0, l1, q1, q2, rfl, -, -, ho1, hl1, hlot, hfg⟩; have hfd := HFEED.out f1 v1 g cp ho1 hlot hfg; have HFD := Lib.hid hfd; have HL1 := Lib.hid hl1; clear hfd hl1 hlot hfg ho1)
        | (go_at_call 35; refine HFD.out.mono ?_; rintro e v2 ⟨p, c, tc, T, f2, rfl, hx2, ho2⟩; have hl2 := HL1.out.apart ho2 loan_zero.1 loan_zero.2; have zc2 := HCELL.out _ _ _ _ _ _ _ hx2; have HX2 := Lib.hid hx2; have HLN2 := Lib.hid hl2; clear hx2 ho2 hl2))
      have hrf := HX2.out.refFeed (cap := y.cap) (HROW.out v2 HX2.out.wl.below) HYA.out hle (by omega) hlim
      rw [← HO.out, ← HR2.out, ← HL2.out, ← HQ2.out] at hrf
      have HRF := Lib.hid hrf
      clear hrf
      go_upto_region 13 with (go_at_call 37; refine HRF.out.mono ?_; rintro e v3 ⟨B, d, tds, bm, f3, rfl, hx3, ho3, hw3, hs3⟩; have hl3 := HLN2.out.apart ho3 loan_zero.1 loan_zero.2; have hss := hx3.sameSteps hw3 hs3 HSM.out.1 HSM.out.2.1; have HSS := Lib.hid hss; have HX3 := Lib.hid hx3; have HLN3 := Lib.hid hl3; clear hx3 ho3 hw3 hs3 hl3 hss zc2)
      go_upto_region 15 with (first
        | (go_at_call 28; refine HSS.out.mono ?_; rintro e v4 ⟨rfl, hb4⟩; have hl4 := HLN3.out.later (f1 := f3) hb4 (fun _ _ => rfl); have hbk := back_any hl4; have HBK := Lib.hid hbk; have HLN4 := Lib.hid hl4; have HB4 := Lib.hid hb4; clear hb4 hbk hl4)
        | (go_at_call 13; refine HBK.out.mono ?_; rintro e v5 ⟨rfl, f5, ho5, hk5⟩; have hx5 := (HX3.out.later HB4.out).apart ho5 notBook_loan (onLoan_no (by decide)); have hf5 : f5 lg = (30, 0) := (ho5.lab lg HLN4.out.blk.lt).trans HLN4.out.self; have hal := hx5.alike HTW2.out hraw2; have HX5 := Lib.hid hx5; have HK5 := Lib.hid hk5; have HF5 := Lib.hid hf5; have HAL := Lib.hid hal; clear hx5 hk5 hf5 ho5 hal)
        | (go_at_call 33; refine HAL.out.mono ?_; rintro e v6 ⟨rfl, hb6⟩; have hx6 := HX5.out.later hb6; have hk6 := HK5.out.later hb6; have HX6 := Lib.hid hx6; have HK6 := Lib.hid hk6; clear hx6 hk6 hb6))
      by_cases h0 : 0 < outs.length
      · have h01 : (0 : Int) < (outs.length : Int) := by omega
        have hbo := HX6.out.book (by have := HSM.out.1; omega) HSM.out.2.2
        have HBO := Lib.hid hbo
        clear hbo
        go_wp2_with (go_at_call 29; refine HBO.out.mono ?_; rintro e v7 ⟨rfl, f7, hx7, hk7⟩; have hlg := hk7 lg HK6.out.lt (by rw [HF5.out]; exact lab_ne (by decide)) (by rw [HF5.out]; exact inner_no30); have hnext := HNX.out f7 v7 hx7 (HK6.out.same hlg.1) (hlg.2.trans HF5.out); have HNEXT := Lib.hid hnext; clear hx7 hk7 hlg hnext)
        exact ⟨⟨i + 1, by omega, by go_num, HNEXT.out⟩, by show ys.length - ((i : Int) + 1).toNat < ys.length - (i : Int).toNat; omega⟩
      · have h01 : decide ((0 : Int) < (outs.length : Int)) = false := decide_eq_false (by omega)
        have h02 : decide (0 < outs.length) = false := decide_eq_false h0
        have hx7 := HX6.out.dropOn HX6.out.wl (fun k _ h1 _ => ⟨rfl, h1⟩)
        have hnext := HNX.out f5 v6 hx7 HK6.out HF5.out
        have HNEXT := Lib.hid hnext
        clear hx7 hnext h0
        go_wp2_with fail
        exact ⟨⟨i + 1, by omega, by go_num, HNEXT.out⟩, by show ys.length - ((i : Int) + 1).toNat < ys.length - (i : Int).toNat; omega⟩
    · have hi1 : decide ((i : Int) < (ys.length : Int)) = false := decide_eq_false (by omega)
      have hi2 : decide (i < ys.length) = false := decide_eq_false (by omega)
      have hcl := hlx.wl.close
      have HCL := Lib.hid hcl
      clear hm hlx hlb hlf htw htot hfit hcl hlt
      go_wp2_with (first
        | (go_at_call 15; refine HCL.out.mono ?_; rintro e v1 ⟨rfl, hb1⟩; have hwk := wakes_any (HG.out.later hb1); have HWK := Lib.hid hwk; have HB1 := Lib.hid hb1; clear hb1 hwk)
        | (go_at_call 38; refine HWK.out.mono ?_; rintro e v2 ⟨rfl, hb2⟩; have HB2 := Lib.hid hb2; clear hb2))
      rw [← HR.out]
      exact ⟨rfl, HB1.out.trans (HB2.out.mono HB1.out.size)⟩
end Go.Proofs.YthgfjafnclklpaaGreatDoor
end
