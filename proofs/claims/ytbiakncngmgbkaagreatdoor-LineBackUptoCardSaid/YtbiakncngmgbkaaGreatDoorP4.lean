/- A Feeder, and what it told so far, gathered in a list. -/
import Derived.Test.YtbiakncngmgbkaaGreatDoorFC
import Derived.Test.YtbiakncngmgbkaaGreatDoorF7
import Derived.Test.YtbiakncngmgbkaaGreatDoorP1
import Derived.Test.YtbiakncngmgbkaaGreatDoorFd
import Derived.Test.YtbiakncngmgbkaaGreatDoorSm
import Derived.Laws.AppendOwnNone
namespace Go.Proofs.YtbiakncngmgbkaaGreatDoor
open Go.RowKit

/-- the blocks of a list of steps: its own row's, and those of the steps' lists -/
abbrev toldList (allv : Value) (bl : List Nat) : List Nat := rowBlock allv ++ bl

/-- the Feeder in block fb has been fed; ts: what it told in all, held in allv; of what lay in w0 only the blocks of L were changed -/
structure FedOn (w0 : World) (L : List Nat) (fb lim : Nat) (s : Sp.FeedV) (ts : List Sp.StepV) (allv : Value) (wr : World) (S : List Nat) : Prop where
  feed : ∃ ln dv kv mv tcs bl, S = ownList [] nilRow ln dv kv mv ++ toldList allv bl ∧ FeedAt wr fb lim s nilRow ln dv kv mv [] [] ∧ wr.ownsRow w0.heap.size 61 16 allv ts.length tcs ∧ StepsMem wr ts tcs bl ∧
    (∀ k ∈ ownList [] nilRow ln dv kv mv ++ toldList allv bl, w0.heap.size ≤ k) ∧ (∀ k ∈ fb :: ownList [] nilRow ln dv kv mv, k ∉ toldList allv bl)
  only : OnlyIn L w0 wr
  glob : Glob wr
  mem : fb ∈ L

/-- behind a Feed, ahead of the append -/
structure FedGotOn (w0 : World) (L : List Nat) (fb lim : Nat) (s : Sp.FeedV) (ts told : List Sp.StepV) (allv : Value) (A : Option Addr) (c : Nat) (wr : World) (S : List Nat) : Prop where
  feed : ∃ ln dv kv mv tcs bl tc T, S = ownList [] nilRow ln dv kv mv ++ (toldList allv bl ++ T) ∧ FeedAt wr fb lim s nilRow ln dv kv mv [] [] ∧ wr.ownsRow w0.heap.size 61 16 allv ts.length tcs ∧ StepsMem wr ts tcs bl ∧
    wr.ownsRow 0 61 16 (.slice A told.length c) told.length tc ∧ StepsMem wr told tc T ∧
    (∀ k ∈ ownList [] nilRow ln dv kv mv ++ (toldList allv bl ++ T), w0.heap.size ≤ k) ∧ (∀ k ∈ fb :: ownList [] nilRow ln dv kv mv, k ∉ toldList allv bl ++ T) ∧ (∀ k ∈ rowBlock allv, k ∉ T)
  only : OnlyIn L w0 wr
  glob : Glob wr
  mem : fb ∈ L

theorem FedOn.fed {w0 wr : World} {L S : List Nat} {fb lim : Nat} {s : Sp.FeedV} {ts : List Sp.StepV} {allv : Value} (h : FedOn w0 L fb lim s ts allv wr S) {N : Nat} (hN : s.Fits N) {A : Option Addr} {cap : Nat} {l : Sp.Bs} (hN2 : N + 3 * l.length + 3 ≤ 1000000000)
    (hrow : RowAt wr A (bytesV l)) (hA : ∀ a, A = some a → a.block < w0.heap.size ∧ a.block ≠ fb) (hlow : ∀ k ∈ L, 8 ≤ k) (h0 : 8 ≤ w0.heap.size) :
    Calls Tryz.prog 12 #[.pointer (some ⟨fb, 0, none⟩), .slice A l.length cap] wr fun e w' => ∃ A' c', e = .returned (.slice A' (s.told lim l).length c') ∧ ∃ S', FedGotOn w0 L fb lim (s.feed lim l) ts (s.told lim l) allv A' c' w' S' ∧ (∀ k ∈ S', k ∈ S ∨ wr.heap.size ≤ k) ∧ OnlyIn (fb :: S) wr w' := by
  obtain ⟨ln, dv, kv, mv, tcs, bl, hS, h1, h2, h3, h4, h5⟩ := h.feed
  have hlt := h1.lt
  refine (feed_any h1 h.glob hN hN2 hrow (fun a ha hm => ?_)).mono ?_
  · have ⟨g1, g2⟩ := hA a ha
    rcases List.mem_cons.1 hm with e | hm
    · exact g2 e
    · have := h4 _ (List.mem_append_left _ hm); omega
  · rintro e w' ⟨ov, ln', dv', kv', mv', tc, T, rfl, f1, f2, f3, f4, f5, f6⟩
    obtain ⟨p, c, rfl⟩ := own_form f2
    have hsz := h.only.size
    have hlt2 : ∀ k ∈ toldList allv bl, k < wr.heap.size := fun k hk => by
      rcases List.mem_append.1 hk with hk | hk
      · exact own_lt h2 k hk
      · exact h3.lt k hk
    have hsame : ∀ k ∈ toldList allv bl, w'.heap[k]? = wr.heap[k]? := fun k hk => f6.block k (hlt2 k hk) (fun hm => by
      rcases List.mem_cons.1 hm with e | hm
      · exact h5 fb (by simp) (e ▸ hk)
      · exact h5 k (List.mem_cons_of_mem _ hm) hk)
    have hapart : ∀ k ∈ ownList T (.slice p (s.told lim l).length c) ln' dv' kv' mv', k ∉ toldList allv bl := fun k hk hm => by
      rcases (f5 k hk).1 with h | h
      · exact h5 k (List.mem_cons_of_mem _ h) hm
      · have := hlt2 k hm; omega
    have hge : ∀ k ∈ ownList T (.slice p (s.told lim l).length c) ln' dv' kv' mv', w0.heap.size ≤ k := fun k hk => by
      rcases (f5 k hk).1 with h | h
      · exact h4 k (List.mem_append_left _ h)
      · exact Nat.le_trans hsz h
    have hnew : ∀ k ∈ ownList [] nilRow ln' dv' kv' mv', k ∈ ownList T (.slice p (s.told lim l).length c) ln' dv' kv' mv' := fun k hk => by
      simp only [ownList, rowBlock_nil, List.nil_append] at hk ⊢
      exact List.mem_append_right _ (List.mem_append_right _ hk)
    have hT : ∀ k ∈ T, k ∈ ownList T (.slice p (s.told lim l).length c) ln' dv' kv' mv' := fun k hk => List.mem_append_left _ hk
    obtain ⟨n1, n2⟩ := List.nodup_cons.1 f4
    obtain ⟨n3, n4, n5⟩ := List.nodup_append.1 n2
    refine ⟨p, c, rfl, _, ⟨⟨ln', dv', kv', mv', tcs, bl, tc, T, rfl, f1, own_same h2 (fun k hk => hsame k (List.mem_append_left _ hk)), h3.same (fun k hk => hsame k (List.mem_append_right _ hk)), f2, f3, ?_, ?_, ?_⟩, ?_, ?_, h.mem⟩, ?_, ?_⟩
    · intro k hk
      rcases List.mem_append.1 hk with hk | hk
      · exact hge k (hnew k hk)
      · rcases List.mem_append.1 hk with hk | hk
        · exact h4 k (List.mem_append_right _ hk)
        · exact hge k (hT k hk)
    · intro k hk hm
      rcases List.mem_append.1 hm with hm | hm
      · rcases List.mem_cons.1 hk with rfl | hk
        · exact h5 k (by simp) hm
        · exact hapart k (hnew k hk) hm
      · rcases List.mem_cons.1 hk with rfl | hk
        · exact n1 (hT k hm)
        · simp only [ownList, rowBlock_nil, List.nil_append] at hk
          exact n5 k hm k (List.mem_append_right _ hk) rfl
    · intro k hk hm
      exact hapart k (hT k hm) (List.mem_append_left _ hk)
    · exact h.only.trans f6 (fun k hk => by
        rcases List.mem_cons.1 hk with rfl | hk
        · exact .inl h.mem
        · exact .inr (h4 k (List.mem_append_left _ hk)))
    · exact h.glob.onlyIn f6 (fun k hk => by
        rcases List.mem_cons.1 hk with rfl | hk
        · exact hlow k h.mem
        · exact Nat.le_trans h0 (h4 k (List.mem_append_left _ hk)))
    · intro k hk
      rw [hS]
      rcases List.mem_append.1 hk with hk | hk
      · rcases (f5 k (hnew k hk)).1 with h | h
        · exact .inl (List.mem_append_left _ h)
        · exact .inr h
      · rcases List.mem_append.1 hk with hk | hk
        · exact .inl (List.mem_append_right _ hk)
        · rcases (f5 k (hT k hk)).1 with h | h
          · exact .inl (List.mem_append_left _ h)
          · exact .inr h
    · refine ⟨f6.os, f6.tape, f6.output, f6.size, fun k hk hn => f6.block k hk (fun hm => hn ?_)⟩
      rw [hS]
      rcases List.mem_cons.1 hm with e | hm
      · exact e ▸ List.mem_cons_self
      · exact List.mem_cons_of_mem _ (List.mem_append_left _ hm)

/-- nothing was told -/
theorem FedGotOn.none {w0 wr : World} {L S : List Nat} {fb lim : Nat} {s : Sp.FeedV} {ts told : List Sp.StepV} {allv : Value} {A : Option Addr} {c : Nat} (h : FedGotOn w0 L fb lim s ts told allv A c wr S) (ht : told = []) : ∃ S', FedOn w0 L fb lim s (ts ++ told) allv wr S' ∧ ∀ k ∈ S', k ∈ S := by
  obtain ⟨ln, dv, kv, mv, tcs, bl, tc, T, hS, h1, h2, h3, h4, h5, h6, h7, h8⟩ := h.feed
  subst ht
  rw [List.append_nil]
  have hsub : ∀ k ∈ ownList [] nilRow ln dv kv mv ++ toldList allv bl, k ∈ ownList [] nilRow ln dv kv mv ++ (toldList allv bl ++ T) := fun k hk => by
    rcases List.mem_append.1 hk with hk | hk
    · exact List.mem_append_left _ hk
    · exact List.mem_append_right _ (List.mem_append_left _ hk)
  exact ⟨_, ⟨⟨ln, dv, kv, mv, tcs, bl, rfl, h1, h2, h3, fun k hk => h6 k (hsub k hk), fun k hk hm => h7 k hk (List.mem_append_left _ hm)⟩, h.only, h.glob, h.mem⟩, fun k hk => by rw [hS]; exact hsub k hk⟩

/-- what was told is appended -/
theorem FedGotOn.some {w0 wr w3 : World} {L S : List Nat} {fb lim : Nat} {s : Sp.FeedV} {ts told : List Sp.StepV} {allv v' : Value} {A : Option Addr} {c : Nat} (h : FedGotOn w0 L fb lim s ts told allv A c wr S) (h0 : 8 ≤ w0.heap.size)
    (hown : ∀ tcs tc, wr.ownsRow w0.heap.size 61 16 allv ts.length tcs → wr.ownsRow 0 61 16 (.slice A told.length c) told.length tc → w3.ownsRow w0.heap.size 61 16 v' (ts.length + told.length) (tcs ++ tc)) (hg : wr.grownBy w3 allv.ownBlock) (hat : v'.ownBlock = allv.ownBlock ∨ v'.ownBlock = some wr.heap.size) :
    ∃ S', FedOn w0 L fb lim s (ts ++ told) v' w3 S' ∧ (∀ k ∈ S', k ∈ S ∨ wr.heap.size ≤ k) ∧ OnlyIn S wr w3 := by
  obtain ⟨ln, dv, kv, mv, tcs, bl, tc, T, hS, h1, h2, h3, h4, h5, h6, h7, h8⟩ := h.feed
  have ho : OnlyIn (rowBlock allv) wr w3 := OnlyIn.grown hg
  have hown3 := hown tcs tc h2 h4
  have hbl : ∀ k ∈ bl, k ∉ rowBlock allv := fun k hk hm => by
    have := stepsBlocks_apart h3 h2 k hk
    exact this (mem_rowBlock.1 hm)
  have hlt := h1.lt
  have hk3 : ∀ k, k ∉ rowBlock allv → k < wr.heap.size → w3.heap[k]? = wr.heap[k]? := fun k hn hl => ho.block k hl hn
  have hrow3 : ∀ k ∈ rowBlock v', k ∈ rowBlock allv ∨ k = wr.heap.size := fun k hk => by
    rcases hat with e | e
    · left; rw [mem_rowBlock] at hk ⊢; rw [← e]; exact hk
    · right; rw [mem_rowBlock, e] at hk; injection hk with hk; exact hk.symm
  refine ⟨_, ⟨⟨ln, dv, kv, mv, tcs ++ tc, bl ++ T, rfl, h1.same (fun k hk => hk3 k (fun hm => h7 k hk (List.mem_append_left _ (List.mem_append_left _ hm))) (hlt k hk)), by rw [List.length_append]; exact hown3,
    (h3.same fun k hk => hk3 k (hbl k hk) (h3.lt k hk)).append (h5.same fun k hk => hk3 k (fun hm => h8 k hm hk) (h5.lt k hk)), ?_, ?_⟩, h.only.trans ho (fun k hk => .inr (own_ge h2 k hk)), h.glob.onlyIn ho (fun k hk => Nat.le_trans h0 (own_ge h2 k hk)), h.mem⟩, ?_, ?_⟩
  · intro k hk
    rcases List.mem_append.1 hk with hk | hk
    · exact h6 k (List.mem_append_left _ hk)
    · rcases List.mem_append.1 hk with hk | hk
      · exact own_ge hown3 k hk
      · rcases List.mem_append.1 hk with hk | hk
        · exact h6 k (List.mem_append_right _ (List.mem_append_left _ (List.mem_append_right _ hk)))
        · exact h6 k (List.mem_append_right _ (List.mem_append_right _ hk))
  · intro k hk hm
    rcases List.mem_append.1 hm with hm | hm
    · rcases hrow3 k hm with e | e
      · exact h7 k hk (List.mem_append_left _ (List.mem_append_left _ e))
      · have := hlt k hk; omega
    · rcases List.mem_append.1 hm with hm | hm
      · exact h7 k hk (List.mem_append_left _ (List.mem_append_right _ hm))
      · exact h7 k hk (List.mem_append_right _ hm)
  · intro k hk
    rw [hS]
    rcases List.mem_append.1 hk with hk | hk
    · exact .inl (List.mem_append_left _ hk)
    · rcases List.mem_append.1 hk with hk | hk
      · rcases hrow3 k hk with e | e
        · exact .inl (List.mem_append_right _ (List.mem_append_left _ (List.mem_append_left _ e)))
        · exact .inr (by omega)
      · rcases List.mem_append.1 hk with hk | hk
        · exact .inl (List.mem_append_right _ (List.mem_append_left _ (List.mem_append_right _ hk)))
        · exact .inl (List.mem_append_right _ (List.mem_append_right _ hk))
  · exact ho.mono (fun k hk => .inl (by rw [hS]; exact List.mem_append_right _ (List.mem_append_left _ (List.mem_append_left _ hk))))

/-- the same, the blocks unnamed -/
def FedMid (w0 : World) (L : List Nat) (fb lim : Nat) (s : Sp.FeedV) (ts : List Sp.StepV) (allv : Value) (wr : World) : Prop := ∃ S, FedOn w0 L fb lim s ts allv wr S
def FedGot (w0 : World) (L : List Nat) (fb lim : Nat) (s : Sp.FeedV) (ts told : List Sp.StepV) (allv : Value) (A : Option Addr) (c : Nat) (wr : World) : Prop := ∃ S, FedGotOn w0 L fb lim s ts told allv A c wr S

theorem FedOn.ge {w0 wr : World} {L S : List Nat} {fb lim : Nat} {s : Sp.FeedV} {ts : List Sp.StepV} {allv : Value} (h : FedOn w0 L fb lim s ts allv wr S) : ∀ k ∈ S, w0.heap.size ≤ k := by
  obtain ⟨ln, dv, kv, mv, tcs, bl, hS, h1, h2, h3, h4, h5⟩ := h.feed
  rw [hS]; exact h4
theorem FedGotOn.ge' {w0 wr : World} {L S : List Nat} {fb lim : Nat} {s : Sp.FeedV} {ts told : List Sp.StepV} {allv : Value} {A : Option Addr} {c : Nat} (h : FedGotOn w0 L fb lim s ts told allv A c wr S) : ∀ k ∈ S, w0.heap.size ≤ k := by
  obtain ⟨ln, dv, kv, mv, tcs, bl, tc, T, hS, h1, h2, h3, h4, h5, h6, h7, h8⟩ := h.feed
  rw [hS]; exact h6
theorem FedOn.lt {w0 wr : World} {L S : List Nat} {fb lim : Nat} {s : Sp.FeedV} {ts : List Sp.StepV} {allv : Value} (h : FedOn w0 L fb lim s ts allv wr S) : ∀ k ∈ fb :: S, k < wr.heap.size := by
  obtain ⟨ln, dv, kv, mv, tcs, bl, hS, h1, h2, h3, h4, h5⟩ := h.feed
  intro k hk
  rw [hS] at hk
  rcases List.mem_cons.1 hk with rfl | hk
  · exact h1.lt _ (by simp)
  · rcases List.mem_append.1 hk with hk | hk
    · exact h1.lt k (List.mem_cons_of_mem _ hk)
    · rcases List.mem_append.1 hk with hk | hk
      · exact own_lt h2 k hk
      · exact h3.lt k hk
/-- what happens elsewhere -/
theorem FedOn.same {w0 wr w' : World} {L S : List Nat} {fb lim : Nat} {s : Sp.FeedV} {ts : List Sp.StepV} {allv : Value} (h : FedOn w0 L fb lim s ts allv wr S) (hs : ∀ k ∈ fb :: S, w'.heap[k]? = wr.heap[k]?) (ho : OnlyIn L w0 w') (hg : Glob w') : FedOn w0 L fb lim s ts allv w' S := by
  obtain ⟨ln, dv, kv, mv, tcs, bl, hS, h1, h2, h3, h4, h5⟩ := h.feed
  rw [hS] at hs
  refine ⟨⟨ln, dv, kv, mv, tcs, bl, hS, h1.same fun k hk => hs k ?_, own_same h2 fun k hk => hs k ?_, h3.same fun k hk => hs k ?_, h4, h5⟩, ho, hg, h.mem⟩
  · rcases List.mem_cons.1 hk with rfl | hk
    · simp
    · exact List.mem_cons_of_mem _ (List.mem_append_left _ hk)
  · exact List.mem_cons_of_mem _ (List.mem_append_right _ (List.mem_append_left _ hk))
  · exact List.mem_cons_of_mem _ (List.mem_append_right _ (List.mem_append_right _ hk))
theorem FedOn.own {w0 wr : World} {L S : List Nat} {fb lim : Nat} {s : Sp.FeedV} {ts : List Sp.StepV} {allv : Value} (h : FedOn w0 L fb lim s ts allv wr S) : ∃ A c tcs bl, allv = .slice A ts.length c ∧ wr.ownsRow w0.heap.size 61 16 allv ts.length tcs ∧ StepsMem wr ts tcs bl := by
  obtain ⟨ln, dv, kv, mv, tcs, bl, hS, h1, h2, h3, h4, h5⟩ := h.feed
  obtain ⟨p, c, e⟩ := own_form h2
  exact ⟨p, c, tcs, bl, e, h2, h3⟩
theorem FedOn.at {w0 wr : World} {L S : List Nat} {fb lim : Nat} {s : Sp.FeedV} {ts : List Sp.StepV} {allv : Value} (h : FedOn w0 L fb lim s ts allv wr S) : ∃ ln dv kv mv, FeedAt wr fb lim s nilRow ln dv kv mv [] [] := by
  obtain ⟨ln, dv, kv, mv, tcs, bl, hS, h1, h2, h3, h4, h5⟩ := h.feed
  exact ⟨ln, dv, kv, mv, h1⟩
theorem FedGotOn.row {w0 wr : World} {L S : List Nat} {fb lim : Nat} {s : Sp.FeedV} {ts told : List Sp.StepV} {allv : Value} {A : Option Addr} {c : Nat} (h : FedGotOn w0 L fb lim s ts told allv A c wr S) :
    ∃ tcs tc, wr.ownsRow w0.heap.size 61 16 allv ts.length tcs ∧ wr.ownsRow 0 61 16 (.slice A told.length c) told.length tc ∧ ∀ u ∈ tc, u.oneCell' = true := by
  obtain ⟨ln, dv, kv, mv, tcs, bl, tc, T, hS, h1, h2, h3, h4, h5, h6, h7, h8⟩ := h.feed
  exact ⟨tcs, tc, h2, h4, h5.one⟩

/-- a Feeder that was made just now -/
theorem FedOn.new {w0 : World} {L : List Nat} {fb lim : Nat} (h : FeedAt w0 fb lim {} nilRow nilRow nilRow nilRow nilRow [] []) (hg : Glob w0) (hm : fb ∈ L) : FedOn w0 L fb lim {} [] nilRow w0 [] :=
  ⟨⟨nilRow, nilRow, nilRow, nilRow, [], [], by simp [ownList, toldList, rowBlock_nil], h, World.ownsRow_nil _ _ _ 16, ⟨rfl, rfl⟩, by simp [ownList, toldList, rowBlock_nil], by simp [toldList, rowBlock_nil]⟩, OnlyIn.refl _ _, hg, hm⟩

section
variable {w0 wr : World} {L : List Nat} {fb lim : Nat} {s : Sp.FeedV} {ts told : List Sp.StepV} {allv : Value} {A : Option Addr} {c : Nat}
theorem FedMid.only (h : FedMid w0 L fb lim s ts allv wr) : OnlyIn L w0 wr := h.elim fun _ h => h.only
theorem FedMid.glob (h : FedMid w0 L fb lim s ts allv wr) : Glob wr := h.elim fun _ h => h.glob
theorem FedGot.only (h : FedGot w0 L fb lim s ts told allv A c wr) : OnlyIn L w0 wr := h.elim fun _ h => h.only
theorem FedMid.at (h : FedMid w0 L fb lim s ts allv wr) : ∃ ln dv kv mv, FeedAt wr fb lim s nilRow ln dv kv mv [] [] := h.elim fun _ h => h.at
theorem FedMid.own (h : FedMid w0 L fb lim s ts allv wr) : ∃ A c tcs bl, allv = .slice A ts.length c ∧ wr.ownsRow w0.heap.size 61 16 allv ts.length tcs ∧ StepsMem wr ts tcs bl := h.elim fun _ h => h.own
theorem FedGot.row (h : FedGot w0 L fb lim s ts told allv A c wr) : ∃ tcs tc, wr.ownsRow w0.heap.size 61 16 allv ts.length tcs ∧ wr.ownsRow 0 61 16 (.slice A told.length c) told.length tc ∧ ∀ u ∈ tc, u.oneCell' = true := h.elim fun _ h => h.row
theorem FedGot.none (h : FedGot w0 L fb lim s ts told allv A c wr) (ht : told = []) : FedMid w0 L fb lim s (ts ++ told) allv wr := h.elim fun _ h => (h.none ht).elim fun S' h => ⟨S', h.1⟩
theorem FedGot.some {w3 : World} {v' : Value} (h : FedGot w0 L fb lim s ts told allv A c wr) (h0 : 8 ≤ w0.heap.size)
    (hown : ∀ tcs tc, wr.ownsRow w0.heap.size 61 16 allv ts.length tcs → wr.ownsRow 0 61 16 (.slice A told.length c) told.length tc → w3.ownsRow w0.heap.size 61 16 v' (ts.length + told.length) (tcs ++ tc)) (hg : wr.grownBy w3 allv.ownBlock) (hat : v'.ownBlock = allv.ownBlock ∨ v'.ownBlock = some wr.heap.size) :
    FedMid w0 L fb lim s (ts ++ told) v' w3 := h.elim fun _ h => (h.some h0 hown hg hat).elim fun S' h => ⟨S', h.1⟩
theorem FedMid.fed (h : FedMid w0 L fb lim s ts allv wr) {N : Nat} (hN : s.Fits N) {A : Option Addr} {cap : Nat} {l : Sp.Bs} (hN2 : N + 3 * l.length + 3 ≤ 1000000000)
    (hrow : RowAt wr A (bytesV l)) (hA : ∀ a, A = some a → a.block < w0.heap.size ∧ a.block ≠ fb) (hlow : ∀ k ∈ L, 8 ≤ k) (h0 : 8 ≤ w0.heap.size) :
    Calls Tryz.prog 12 #[.pointer (.some ⟨fb, 0, .none⟩), .slice A l.length cap] wr fun e w' => ∃ A' c', e = .returned (.slice A' (s.told lim l).length c') ∧ FedGot w0 L fb lim (s.feed lim l) ts (s.told lim l) allv A' c' w' ∧ Only fb w0.heap.size wr w' := by
  obtain ⟨S, h⟩ := h
  refine (h.fed hN hN2 hrow hA hlow h0).mono ?_
  rintro e w' ⟨A', c', rfl, S', h1, h2, h3⟩
  refine ⟨A', c', rfl, ⟨S', h1⟩, h3.os, h3.tape, h3.output, h3.size, fun k hk hn => h3.block k (by have := h.only.size; omega) (fun hm => ?_)⟩
  rcases List.mem_cons.1 hm with e | hm
  · exact hn e
  · have := h.ge k hm; omega
/-- a store into another block that was there ahead -/
theorem FedMid.put (h : FedMid w0 L fb lim s ts allv wr) {g : Nat} (hg : g ∈ L) (hne : g ≠ fb) (hlt : g < w0.heap.size) (hlow : 8 ≤ g) (i : Nat) (u : Value) : FedMid w0 L fb lim s ts allv (wr.setCell ⟨g, i, .none⟩ u) := by
  obtain ⟨S, h⟩ := h
  refine ⟨S, h.same (fun k hk => Below.heap_setCell wr ⟨g, i, .none⟩ u k ?_) (h.only.setCell (.inl hg) i u) (h.glob.setCell hlow u)⟩
  rcases List.mem_cons.1 hk with rfl | hk
  · exact fun e => hne e.symm
  · have := h.ge k hk
    intro e
    subst e
    exact absurd hlt (by show ¬ k < _; omega)
end

end Go.Proofs.YtbiakncngmgbkaaGreatDoor
