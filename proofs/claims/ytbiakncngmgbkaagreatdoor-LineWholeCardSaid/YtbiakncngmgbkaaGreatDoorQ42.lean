/- A Feeder, and what it told so far, gathered in a list. Walk of the statements' helper fed. Walk of the statement LineCuts. -/
import Derived.Test.YtbiakncngmgbkaaGreatDoorQ33
import Derived.Test.YtbiakncngmgbkaaGreatDoorF7
import Derived.Test.YtbiakncngmgbkaaGreatDoorQ37
import Derived.Test.YtbiakncngmgbkaaGreatDoorPf
import Derived.Test.YtbiakncngmgbkaaGreatDoorSm
import Derived.Laws.AppendOwnNone
import Derived.Laws.MakeOwn
import Derived.Deep.CutRange
import Derived.Deep.DeepCutAuto
import Derived.Test.YtbiakncngmgbkaaGreatDoorK1
section
namespace Go.Proofs.YtbiakncngmgbkaaGreatDoor
open Go.RowKit

/-- the blocks of a list of steps: its own row's, and those of the steps' lists -/
abbrev toldList (allv : Value) (bl : List Nat) : List Nat := rowBlock allv ++ bl

/-- the Feeder in block fb has been fed; ts: what it told in all, held in allv; of what lay in w0 only the blocks of L were changed -/
structure FedOn (w0 : World) (L : List Nat) (fb lim : Nat) (s : Sp.FeedV) (ts : List Sp.StepV) (allv : Value) (wr : World) (S : List Nat) : Prop where
  feed : ∃ ln dv kv mv tcs bl, S = ownList [] nilRow ln dv kv mv ++ toldList allv bl ∧ FeedAt wr fb lim s nilRow ln dv kv mv [] [] ∧ wr.ownsRow w0.heap.size 61 16 allv ts.length tcs ∧ StepsMem wr ts tcs bl ∧
    (∀ k ∈ ownList [] nilRow ln dv kv mv ++ toldList allv bl, w0.heap.size ≤ k) ∧ (∀ k ∈ fb :: ownList [] nilRow ln dv kv mv, k ∉ toldList allv bl)
  only : OnlyIn L w0 wr
  glob : Glob wr
  mem : fb ∈ L

/-- behind a Feed, ahead of the append -/
structure FedGotOn (w0 : World) (L : List Nat) (fb lim : Nat) (s : Sp.FeedV) (ts told : List Sp.StepV) (allv : Value) (A : Option Addr) (c : Nat) (wr : World) (S : List Nat) : Prop where
  feed : ∃ ln dv kv mv tcs bl tc T, S = ownList [] nilRow ln dv kv mv ++ (toldList allv bl ++ T) ∧ FeedAt wr fb lim s nilRow ln dv kv mv [] [] ∧ wr.ownsRow w0.heap.size 61 16 allv ts.length tcs ∧ StepsMem wr ts tcs bl ∧
    wr.ownsRow 0 61 16 (.slice A told.length c) told.length tc ∧ StepsMem wr told tc T ∧
    (∀ k ∈ ownList [] nilRow ln dv kv mv ++ (toldList allv bl ++ T), w0.heap.size ≤ k) ∧ (∀ k ∈ fb :: ownList [] nilRow ln dv kv mv, k ∉ toldList allv bl ++ T) ∧ (∀ k ∈ rowBlock allv, k ∉ T)
  only : OnlyIn L w0 wr
  glob : Glob wr
  mem : fb ∈ L

theorem own_form {w : World} {base : Nat} {e : TypeId} {size n : Nat} {v : Value} {xs : List Value} (h : w.ownsRow base e size v n xs) : ∃ p c, v = .slice p n c := by
  rcases h.2 with ⟨rfl, rfl⟩ | ⟨g, cap, cur, rfl, _⟩
  · exact ⟨_, _, rfl⟩
  · exact ⟨_, _, rfl⟩

/-- the steps' lists lie apart from a row of steps -/
theorem stepsBlocks_apart {w : World} {base n : Nat} {v : Value} {xs : List Value} : ∀ {ts : List Sp.StepV} {cs : List Value} {bl : List Nat}, StepsMem w ts cs bl → w.ownsRow base 61 16 v n xs → ∀ k ∈ bl, v.ownBlock ≠ some k
  | [], _, _, ⟨_, h⟩, _, k, hk => by simp [h] at hk
  | _ :: _, _, _, ⟨kv, dv, mv, cs', bl', h1, h2, h3, h4⟩, h, k, hk => by
    subst h2
    have hap : ∀ {e : TypeId} {size m : Nat} {u : Value} {ys : List Value}, w.ownsRow 0 e size u m ys → e ≠ 61 → k ∈ rowBlock u → v.ownBlock ≠ some k := by
      intro e size m u ys hu hne hk e2
      rw [mem_rowBlock] at hk
      rcases own_own_apart hu h hne with h0 | h0
      · rw [h0] at hk; cases hk
      · exact h0 (hk.trans e2.symm)
    rcases List.mem_append.1 hk with hk | hk
    · simp only [cmdBlocks, List.mem_append] at hk
      rcases hk with hk | hk | hk
      · exact hap h3.keys (by decide) hk
      · exact hap h3.data (by decide) hk
      · exact hap h3.metas (by decide) hk
    · exact stepsBlocks_apart h4 h k hk

theorem FedOn.fed {w0 wr : World} {L S : List Nat} {fb lim : Nat} {s : Sp.FeedV} {ts : List Sp.StepV} {allv : Value} (h : FedOn w0 L fb lim s ts allv wr S) {N : Nat} (hN : s.Fits N) {A : Option Addr} {cap : Nat} {l : Sp.Bs} (hN2 : N + 3 * l.length + 3 ≤ 1000000000)
    (hrow : RowAt wr A (bytesV l)) (hA : ∀ a, A = some a → a.block < w0.heap.size ∧ a.block ≠ fb) (hlow : ∀ k ∈ L, 8 ≤ k) (h0 : 8 ≤ w0.heap.size) :
    Calls Tryz.prog 12 #[.pointer (some ⟨fb, 0, none⟩), .slice A l.length cap] wr fun e w' => ∃ A' c', e = .returned (.slice A' (s.told lim l).length c') ∧ ∃ S', FedGotOn w0 L fb lim (s.feed lim l) ts (s.told lim l) allv A' c' w' S' ∧ (∀ k ∈ S', k ∈ S ∨ wr.heap.size ≤ k) ∧ OnlyIn (fb :: S) wr w' := by
  obtain ⟨ln, dv, kv, mv, tcs, bl, hS, h1, h2, h3, h4, h5⟩ := h.feed
  have hlt := h1.lt
  refine (feed_any h1 h.glob hN hN2 hrow (fun a ha hm => ?_)).mono ?_
  · have ⟨g1, g2⟩ := hA a ha
    rcases List.mem_cons.1 hm with e | hm
    · exact g2 e
    · have := h4 _ (List.mem_append_left _ hm); omega
  · rintro e w' ⟨ov, ln', dv', kv', mv', tc, T, rfl, f1, f2, f3, f4, f5, f6⟩
    obtain ⟨p, c, rfl⟩ := own_form f2
    have hsz := h.only.size
    have hlt2 : ∀ k ∈ toldList allv bl, k < wr.heap.size := fun k hk => by
      rcases List.mem_append.1 hk with hk | hk
      · exact own_lt h2 k hk
      · exact h3.lt k hk
    have hsame : ∀ k ∈ toldList allv bl, w'.heap[k]? = wr.heap[k]? := fun k hk => f6.block k (hlt2 k hk) (fun hm => by
      rcases List.mem_cons.1 hm with e | hm
      · exact h5 fb (by simp) (e ▸ hk)
      · exact h5 k (List.mem_cons_of_mem _ hm) hk)
    have hapart : ∀ k ∈ ownList T (.slice p (s.told lim l).length c) ln' dv' kv' mv', k ∉ toldList allv bl := fun k hk hm => by
      rcases (f5 k hk).1 with h | h
      · exact h5 k (List.mem_cons_of_mem _ h) hm
      · have := hlt2 k hm; omega
    have hge : ∀ k ∈ ownList T (.slice p (s.told lim l).length c) ln' dv' kv' mv', w0.heap.size ≤ k := fun k hk => by
      rcases (f5 k hk).1 with h | h
      · exact h4 k (List.mem_append_left _ h)
      · exact Nat.le_trans hsz h
    have hnew : ∀ k ∈ ownList [] nilRow ln' dv' kv' mv', k ∈ ownList T (.slice p (s.told lim l).length c) ln' dv' kv' mv' := fun k hk => by
      simp only [ownList, rowBlock_nil, List.nil_append] at hk ⊢
      exact List.mem_append_right _ (List.mem_append_right _ hk)
    have hT : ∀ k ∈ T, k ∈ ownList T (.slice p (s.told lim l).length c) ln' dv' kv' mv' := fun k hk => List.mem_append_left _ hk
    obtain ⟨n1, n2⟩ := List.nodup_cons.1 f4
    obtain ⟨n3, n4, n5⟩ := List.nodup_append.1 n2
    refine ⟨p, c, rfl, _, ⟨⟨ln', dv', kv', mv', tcs, bl, tc, T, rfl, f1, own_same h2 (fun k hk => hsame k (List.mem_append_left _ hk)), h3.same (fun k hk => hsame k (List.mem_append_right _ hk)), f2, f3, ?_, ?_, ?_⟩, ?_, ?_, h.mem⟩, ?_, ?_⟩
    · intro k hk
      rcases List.mem_append.1 hk with hk | hk
      · exact hge k (hnew k hk)
      · rcases List.mem_append.1 hk with hk | hk
        · exact h4 k (List.mem_append_right _ hk)
        · exact hge k (hT k hk)
    · intro k hk hm
      rcases List.mem_append.1 hm with hm | hm
      · rcases List.mem_cons.1 hk with rfl | hk
        · exact h5 k (by simp) hm
        · exact hapart k (hnew k hk) hm
      · rcases List.mem_cons.1 hk with rfl | hk
        · exact n1 (hT k hm)
        · simp only [ownList, rowBlock_nil, List.nil_append] at hk
          exact n5 k hm k (List.mem_append_right _ hk) rfl
    · intro k hk hm
      exact hapart k (hT k hm) (List.mem_append_left _ hk)
    · exact h.only.trans f6 (fun k hk => by
        rcases List.mem_cons.1 hk with rfl | hk
        · exact .inl h.mem
        · exact .inr (h4 k (List.mem_append_left _ hk)))
    · exact h.glob.onlyIn f6 (fun k hk => by
        rcases List.mem_cons.1 hk with rfl | hk
        · exact hlow k h.mem
        · exact Nat.le_trans h0 (h4 k (List.mem_append_left _ hk)))
    · intro k hk
      rw [hS]
      rcases List.mem_append.1 hk with hk | hk
      · rcases (f5 k (hnew k hk)).1 with h | h
        · exact .inl (List.mem_append_left _ h)
        · exact .inr h
      · rcases List.mem_append.1 hk with hk | hk
        · exact .inl (List.mem_append_right _ hk)
        · rcases (f5 k (hT k hk)).1 with h | h
          · exact .inl (List.mem_append_left _ h)
          · exact .inr h
    · refine ⟨f6.os, f6.tape, f6.output, f6.size, fun k hk hn => f6.block k hk (fun hm => hn ?_)⟩
      rw [hS]
      rcases List.mem_cons.1 hm with e | hm
      · exact e ▸ List.mem_cons_self
      · exact List.mem_cons_of_mem _ (List.mem_append_left _ hm)

theorem StepsMem.one {w : World} : ∀ {ts : List Sp.StepV} {cs : List Value} {bl : List Nat}, StepsMem w ts cs bl → ∀ u ∈ cs, u.oneCell' = true
  | [], _, _, ⟨h, _⟩, u, hu => by simp [h] at hu
  | t0 :: ts, cs, bl, ⟨kv, dv, mv, cs', bl', h1, h2, h3, h4⟩, u, hu => by
    rw [h1] at hu
    rcases List.mem_append.1 hu with hu | hu
    · have k1 := own_one h3.keys
      have k2 := own_one h3.data
      have k3 := own_one h3.metas
      simp only [stepCells, cmdCells, wrongCells, List.cons_append, List.nil_append, List.mem_cons, List.not_mem_nil, or_false] at hu
      rcases hu with rfl | rfl | rfl | rfl | rfl | rfl | rfl | rfl | rfl | rfl | rfl | rfl | rfl | rfl | rfl | rfl <;> first | rfl | assumption
    · exact h4.one u hu

theorem StepsMem.append {w : World} : ∀ {ts us : List Sp.StepV} {cs ds : List Value} {bl dl : List Nat}, StepsMem w ts cs bl → StepsMem w us ds dl → StepsMem w (ts ++ us) (cs ++ ds) (bl ++ dl)
  | [], _, _, _, _, _, ⟨h1, h2⟩, h => by subst h1; subst h2; exact h
  | _ :: _, _, _, _, _, _, ⟨kv, dv, mv, cs', bl', h1, h2, h3, h4⟩, h => ⟨kv, dv, mv, _, _, by rw [h1, List.append_assoc], by rw [h2, List.append_assoc], h3, h4.append h⟩

/-- nothing was told -/
theorem FedGotOn.none {w0 wr : World} {L S : List Nat} {fb lim : Nat} {s : Sp.FeedV} {ts told : List Sp.StepV} {allv : Value} {A : Option Addr} {c : Nat} (h : FedGotOn w0 L fb lim s ts told allv A c wr S) (ht : told = []) : ∃ S', FedOn w0 L fb lim s (ts ++ told) allv wr S' ∧ ∀ k ∈ S', k ∈ S := by
  obtain ⟨ln, dv, kv, mv, tcs, bl, tc, T, hS, h1, h2, h3, h4, h5, h6, h7, h8⟩ := h.feed
  subst ht
  rw [List.append_nil]
  have hsub : ∀ k ∈ ownList [] nilRow ln dv kv mv ++ toldList allv bl, k ∈ ownList [] nilRow ln dv kv mv ++ (toldList allv bl ++ T) := fun k hk => by
    rcases List.mem_append.1 hk with hk | hk
    · exact List.mem_append_left _ hk
    · exact List.mem_append_right _ (List.mem_append_left _ hk)
  exact ⟨_, ⟨⟨ln, dv, kv, mv, tcs, bl, rfl, h1, h2, h3, fun k hk => h6 k (hsub k hk), fun k hk hm => h7 k hk (List.mem_append_left _ hm)⟩, h.only, h.glob, h.mem⟩, fun k hk => by rw [hS]; exact hsub k hk⟩

/-- what was told is appended -/
theorem FedGotOn.some {w0 wr w3 : World} {L S : List Nat} {fb lim : Nat} {s : Sp.FeedV} {ts told : List Sp.StepV} {allv v' : Value} {A : Option Addr} {c : Nat} (h : FedGotOn w0 L fb lim s ts told allv A c wr S) (h0 : 8 ≤ w0.heap.size)
    (hown : ∀ tcs tc, wr.ownsRow w0.heap.size 61 16 allv ts.length tcs → wr.ownsRow 0 61 16 (.slice A told.length c) told.length tc → w3.ownsRow w0.heap.size 61 16 v' (ts.length + told.length) (tcs ++ tc)) (hg : wr.grownBy w3 allv.ownBlock) (hat : v'.ownBlock = allv.ownBlock ∨ v'.ownBlock = some wr.heap.size) :
    ∃ S', FedOn w0 L fb lim s (ts ++ told) v' w3 S' ∧ (∀ k ∈ S', k ∈ S ∨ wr.heap.size ≤ k) ∧ OnlyIn S wr w3 := by
  obtain ⟨ln, dv, kv, mv, tcs, bl, tc, T, hS, h1, h2, h3, h4, h5, h6, h7, h8⟩ := h.feed
  have ho : OnlyIn (rowBlock allv) wr w3 := OnlyIn.grown hg
  have hown3 := hown tcs tc h2 h4
  have hbl : ∀ k ∈ bl, k ∉ rowBlock allv := fun k hk hm => by
    have := stepsBlocks_apart h3 h2 k hk
    exact this (mem_rowBlock.1 hm)
  have hlt := h1.lt
  have hk3 : ∀ k, k ∉ rowBlock allv → k < wr.heap.size → w3.heap[k]? = wr.heap[k]? := fun k hn hl => ho.block k hl hn
  have hrow3 : ∀ k ∈ rowBlock v', k ∈ rowBlock allv ∨ k = wr.heap.size := fun k hk => by
    rcases hat with e | e
    · left; rw [mem_rowBlock] at hk ⊢; rw [← e]; exact hk
    · right; rw [mem_rowBlock, e] at hk; injection hk with hk; exact hk.symm
  refine ⟨_, ⟨⟨ln, dv, kv, mv, tcs ++ tc, bl ++ T, rfl, h1.same (fun k hk => hk3 k (fun hm => h7 k hk (List.mem_append_left _ (List.mem_append_left _ hm))) (hlt k hk)), by rw [List.length_append]; exact hown3,
    (h3.same fun k hk => hk3 k (hbl k hk) (h3.lt k hk)).append (h5.same fun k hk => hk3 k (fun hm => h8 k hm hk) (h5.lt k hk)), ?_, ?_⟩, h.only.trans ho (fun k hk => .inr (own_ge h2 k hk)), h.glob.onlyIn ho (fun k hk => Nat.le_trans h0 (own_ge h2 k hk)), h.mem⟩, ?_, ?_⟩
  · intro k hk
    rcases List.mem_append.1 hk with hk | hk
    · exact h6 k (List.mem_append_left _ hk)
    · rcases List.mem_append.1 hk with hk | hk
      · exact own_ge hown3 k hk
      · rcases List.mem_append.1 hk with hk | hk
        · exact h6 k (List.mem_append_right _ (List.mem_append_left _ (List.mem_append_right _ hk)))
        · exact h6 k (List.mem_append_right _ (List.mem_append_right _ hk))
  · intro k hk hm
    rcases List.mem_append.1 hm with hm | hm
    · rcases hrow3 k hm with e | e
      · exact h7 k hk (List.mem_append_left _ (List.mem_append_left _ e))
      · have := hlt k hk; omega
    · rcases List.mem_append.1 hm with hm | hm
      · exact h7 k hk (List.mem_append_left _ (List.mem_append_right _ hm))
      · exact h7 k hk (List.mem_append_right _ hm)
  · intro k hk
    rw [hS]
    rcases List.mem_append.1 hk with hk | hk
    · exact .inl (List.mem_append_left _ hk)
    · rcases List.mem_append.1 hk with hk | hk
      · rcases hrow3 k hk with e | e
        · exact .inl (List.mem_append_right _ (List.mem_append_left _ (List.mem_append_left _ e)))
        · exact .inr (by omega)
      · rcases List.mem_append.1 hk with hk | hk
        · exact .inl (List.mem_append_right _ (List.mem_append_left _ (List.mem_append_right _ hk)))
        · exact .inl (List.mem_append_right _ (List.mem_append_right _ hk))
  · exact ho.mono (fun k hk => .inl (by rw [hS]; exact List.mem_append_right _ (List.mem_append_left _ (List.mem_append_left _ hk))))

/-- the same, the blocks unnamed -/
def FedMid (w0 : World) (L : List Nat) (fb lim : Nat) (s : Sp.FeedV) (ts : List Sp.StepV) (allv : Value) (wr : World) : Prop := ∃ S, FedOn w0 L fb lim s ts allv wr S
def FedGot (w0 : World) (L : List Nat) (fb lim : Nat) (s : Sp.FeedV) (ts told : List Sp.StepV) (allv : Value) (A : Option Addr) (c : Nat) (wr : World) : Prop := ∃ S, FedGotOn w0 L fb lim s ts told allv A c wr S

theorem FedOn.ge {w0 wr : World} {L S : List Nat} {fb lim : Nat} {s : Sp.FeedV} {ts : List Sp.StepV} {allv : Value} (h : FedOn w0 L fb lim s ts allv wr S) : ∀ k ∈ S, w0.heap.size ≤ k := by
  obtain ⟨ln, dv, kv, mv, tcs, bl, hS, h1, h2, h3, h4, h5⟩ := h.feed
  rw [hS]; exact h4
theorem FedGotOn.ge' {w0 wr : World} {L S : List Nat} {fb lim : Nat} {s : Sp.FeedV} {ts told : List Sp.StepV} {allv : Value} {A : Option Addr} {c : Nat} (h : FedGotOn w0 L fb lim s ts told allv A c wr S) : ∀ k ∈ S, w0.heap.size ≤ k := by
  obtain ⟨ln, dv, kv, mv, tcs, bl, tc, T, hS, h1, h2, h3, h4, h5, h6, h7, h8⟩ := h.feed
  rw [hS]; exact h6
theorem FedOn.lt {w0 wr : World} {L S : List Nat} {fb lim : Nat} {s : Sp.FeedV} {ts : List Sp.StepV} {allv : Value} (h : FedOn w0 L fb lim s ts allv wr S) : ∀ k ∈ fb :: S, k < wr.heap.size := by
  obtain ⟨ln, dv, kv, mv, tcs, bl, hS, h1, h2, h3, h4, h5⟩ := h.feed
  intro k hk
  rw [hS] at hk
  rcases List.mem_cons.1 hk with rfl | hk
  · exact h1.lt _ (by simp)
  · rcases List.mem_append.1 hk with hk | hk
    · exact h1.lt k (List.mem_cons_of_mem _ hk)
    · rcases List.mem_append.1 hk with hk | hk
      · exact own_lt h2 k hk
      · exact h3.lt k hk
/-- what happens elsewhere -/
theorem FedOn.same {w0 wr w' : World} {L S : List Nat} {fb lim : Nat} {s : Sp.FeedV} {ts : List Sp.StepV} {allv : Value} (h : FedOn w0 L fb lim s ts allv wr S) (hs : ∀ k ∈ fb :: S, w'.heap[k]? = wr.heap[k]?) (ho : OnlyIn L w0 w') (hg : Glob w') : FedOn w0 L fb lim s ts allv w' S := by
  obtain ⟨ln, dv, kv, mv, tcs, bl, hS, h1, h2, h3, h4, h5⟩ := h.feed
  rw [hS] at hs
  refine ⟨⟨ln, dv, kv, mv, tcs, bl, hS, h1.same fun k hk => hs k ?_, own_same h2 fun k hk => hs k ?_, h3.same fun k hk => hs k ?_, h4, h5⟩, ho, hg, h.mem⟩
  · rcases List.mem_cons.1 hk with rfl | hk
    · simp
    · exact List.mem_cons_of_mem _ (List.mem_append_left _ hk)
  · exact List.mem_cons_of_mem _ (List.mem_append_right _ (List.mem_append_left _ hk))
  · exact List.mem_cons_of_mem _ (List.mem_append_right _ (List.mem_append_right _ hk))
theorem FedOn.own {w0 wr : World} {L S : List Nat} {fb lim : Nat} {s : Sp.FeedV} {ts : List Sp.StepV} {allv : Value} (h : FedOn w0 L fb lim s ts allv wr S) : ∃ A c tcs bl, allv = .slice A ts.length c ∧ wr.ownsRow w0.heap.size 61 16 allv ts.length tcs ∧ StepsMem wr ts tcs bl := by
  obtain ⟨ln, dv, kv, mv, tcs, bl, hS, h1, h2, h3, h4, h5⟩ := h.feed
  obtain ⟨p, c, e⟩ := own_form h2
  exact ⟨p, c, tcs, bl, e, h2, h3⟩
theorem FedOn.at {w0 wr : World} {L S : List Nat} {fb lim : Nat} {s : Sp.FeedV} {ts : List Sp.StepV} {allv : Value} (h : FedOn w0 L fb lim s ts allv wr S) : ∃ ln dv kv mv, FeedAt wr fb lim s nilRow ln dv kv mv [] [] := by
  obtain ⟨ln, dv, kv, mv, tcs, bl, hS, h1, h2, h3, h4, h5⟩ := h.feed
  exact ⟨ln, dv, kv, mv, h1⟩
theorem FedGotOn.row {w0 wr : World} {L S : List Nat} {fb lim : Nat} {s : Sp.FeedV} {ts told : List Sp.StepV} {allv : Value} {A : Option Addr} {c : Nat} (h : FedGotOn w0 L fb lim s ts told allv A c wr S) :
    ∃ tcs tc, wr.ownsRow w0.heap.size 61 16 allv ts.length tcs ∧ wr.ownsRow 0 61 16 (.slice A told.length c) told.length tc ∧ ∀ u ∈ tc, u.oneCell' = true := by
  obtain ⟨ln, dv, kv, mv, tcs, bl, tc, T, hS, h1, h2, h3, h4, h5, h6, h7, h8⟩ := h.feed
  exact ⟨tcs, tc, h2, h4, h5.one⟩

/-- a Feeder that was made just now -/
theorem FedOn.new {w0 : World} {L : List Nat} {fb lim : Nat} (h : FeedAt w0 fb lim {} nilRow nilRow nilRow nilRow nilRow [] []) (hg : Glob w0) (hm : fb ∈ L) : FedOn w0 L fb lim {} [] nilRow w0 [] :=
  ⟨⟨nilRow, nilRow, nilRow, nilRow, [], [], by simp [ownList, toldList, rowBlock_nil], h, World.ownsRow_nil _ _ _ 16, ⟨rfl, rfl⟩, by simp [ownList, toldList, rowBlock_nil], by simp [toldList, rowBlock_nil]⟩, OnlyIn.refl _ _, hg, hm⟩

section
variable {w0 wr : World} {L : List Nat} {fb lim : Nat} {s : Sp.FeedV} {ts told : List Sp.StepV} {allv : Value} {A : Option Addr} {c : Nat}
theorem FedMid.only (h : FedMid w0 L fb lim s ts allv wr) : OnlyIn L w0 wr := h.elim fun _ h => h.only
theorem FedMid.glob (h : FedMid w0 L fb lim s ts allv wr) : Glob wr := h.elim fun _ h => h.glob
theorem FedGot.only (h : FedGot w0 L fb lim s ts told allv A c wr) : OnlyIn L w0 wr := h.elim fun _ h => h.only
theorem FedMid.at (h : FedMid w0 L fb lim s ts allv wr) : ∃ ln dv kv mv, FeedAt wr fb lim s nilRow ln dv kv mv [] [] := h.elim fun _ h => h.at
theorem FedMid.own (h : FedMid w0 L fb lim s ts allv wr) : ∃ A c tcs bl, allv = .slice A ts.length c ∧ wr.ownsRow w0.heap.size 61 16 allv ts.length tcs ∧ StepsMem wr ts tcs bl := h.elim fun _ h => h.own
theorem FedGot.row (h : FedGot w0 L fb lim s ts told allv A c wr) : ∃ tcs tc, wr.ownsRow w0.heap.size 61 16 allv ts.length tcs ∧ wr.ownsRow 0 61 16 (.slice A told.length c) told.length tc ∧ ∀ u ∈ tc, u.oneCell' = true := h.elim fun _ h => h.row
theorem FedGot.none (h : FedGot w0 L fb lim s ts told allv A c wr) (ht : told = []) : FedMid w0 L fb lim s (ts ++ told) allv wr := h.elim fun _ h => (h.none ht).elim fun S' h => ⟨S', h.1⟩
theorem FedGot.some {w3 : World} {v' : Value} (h : FedGot w0 L fb lim s ts told allv A c wr) (h0 : 8 ≤ w0.heap.size)
    (hown : ∀ tcs tc, wr.ownsRow w0.heap.size 61 16 allv ts.length tcs → wr.ownsRow 0 61 16 (.slice A told.length c) told.length tc → w3.ownsRow w0.heap.size 61 16 v' (ts.length + told.length) (tcs ++ tc)) (hg : wr.grownBy w3 allv.ownBlock) (hat : v'.ownBlock = allv.ownBlock ∨ v'.ownBlock = some wr.heap.size) :
    FedMid w0 L fb lim s (ts ++ told) v' w3 := h.elim fun _ h => (h.some h0 hown hg hat).elim fun S' h => ⟨S', h.1⟩
theorem FedMid.fed (h : FedMid w0 L fb lim s ts allv wr) {N : Nat} (hN : s.Fits N) {A : Option Addr} {cap : Nat} {l : Sp.Bs} (hN2 : N + 3 * l.length + 3 ≤ 1000000000)
    (hrow : RowAt wr A (bytesV l)) (hA : ∀ a, A = some a → a.block < w0.heap.size ∧ a.block ≠ fb) (hlow : ∀ k ∈ L, 8 ≤ k) (h0 : 8 ≤ w0.heap.size) :
    Calls Tryz.prog 12 #[.pointer (.some ⟨fb, 0, .none⟩), .slice A l.length cap] wr fun e w' => ∃ A' c', e = .returned (.slice A' (s.told lim l).length c') ∧ FedGot w0 L fb lim (s.feed lim l) ts (s.told lim l) allv A' c' w' ∧ Only fb w0.heap.size wr w' := by
  obtain ⟨S, h⟩ := h
  refine (h.fed hN hN2 hrow hA hlow h0).mono ?_
  rintro e w' ⟨A', c', rfl, S', h1, h2, h3⟩
  refine ⟨A', c', rfl, ⟨S', h1⟩, h3.os, h3.tape, h3.output, h3.size, fun k hk hn => h3.block k (by have := h.only.size; omega) (fun hm => ?_)⟩
  rcases List.mem_cons.1 hm with e | hm
  · exact hn e
  · have := h.ge k hm; omega
/-- a store into another block that was there ahead -/
theorem FedMid.put (h : FedMid w0 L fb lim s ts allv wr) {g : Nat} (hg : g ∈ L) (hne : g ≠ fb) (hlt : g < w0.heap.size) (hlow : 8 ≤ g) (i : Nat) (u : Value) : FedMid w0 L fb lim s ts allv (wr.setCell ⟨g, i, .none⟩ u) := by
  obtain ⟨S, h⟩ := h
  refine ⟨S, h.same (fun k hk => Below.heap_setCell wr ⟨g, i, .none⟩ u k ?_) (h.only.setCell (.inl hg) i u) (h.glob.setCell hlow u)⟩
  rcases List.mem_cons.1 hk with rfl | hk
  · exact fun e => hne e.symm
  · have := h.ge k hk
    intro e
    subst e
    exact absurd hlt (by show ¬ k < _; omega)
end

/-- an append of a row of the call's own, nil or not, onto another one -/
theorem wpList_append_row {P : Program} {w : World} {ops : Array Oper} {rest : List Oper} {o : Oper} {a : Act} {Q : Exit → Act → World → Prop} (hgd : o.guard = none) (s x : Operand) (t : TypeId)
    (ho : o.op = .call { callee := .builtin .append, args := #[s, x], argTypes := #[t, t] })
    (base : Nat) (e : TypeId) (i : TypeInfo) (z : Value) (size bytes : Nat) (ht : P.underlying t = some (.slice e)) (hi : P.info? e = some i) (hz : i.zero = some z)
    (hsize : i.size = size) (hby : i.bytes = bytes) (hzs : z.cells.size = size) (hsz : 0 < size)
    (v : Value) (n : Nat) (xs : List Value) (hs : a.eval s = v) (hown : w.ownsRow base e size v n xs)
    (A : Option Addr) (m c : Nat) (news : List Value) (hx : a.eval x = .slice A m c) (base' : Nat) (hown' : w.ownsRow base' e size (.slice A m c) m news) (h1 : ∀ u ∈ news, u.oneCell' = true)
    (h63 : n + m ≤ maxLen) (hbytes : (n + m) * bytes ≤ 140737488355328) (hbase : base ≤ w.heap.size)
    (h : ∀ v' w', w'.ownsRow base e size v' (n + m) (xs ++ news) → w.grownBy w' v.ownBlock → (v'.ownBlock = v.ownBlock ∨ v'.ownBlock = some w.heap.size) → wpList P ops Q rest (a.put o.dst v') w') :
    wpList P ops Q (o :: rest) a w := by
  cases A with
  | none =>
    have hz : m = 0 ∧ c = 0 ∧ news = [] := by
      rcases hown'.2 with ⟨h1, h2⟩ | ⟨g, cap, cur, h1, _⟩
      · injection h1 with _ _ h3
        refine ⟨h2, h3, List.eq_nil_of_length_eq_zero ?_⟩
        rw [hown'.1, h2, Nat.zero_mul]
      · injection h1 with h1; cases h1
    obtain ⟨rfl, rfl, rfl⟩ := hz
    refine wpList_append_own_none hgd s x t ho base e i size ht hi v n xs hs hown hx ?_
    exact h v w (by rw [Nat.add_zero, List.append_nil]; exact hown) ⟨rfl, rfl, rfl, Nat.le_refl _, fun _ _ _ => rfl⟩ (.inl rfl)
  | some ad =>
    refine wpList_append_own_at w hgd s x t ho base e i z size bytes ht hi hz hsize hby hzs hsz v n xs hs hown ad m c news hx hown'.1 (RowAt.of_own hown').cells h1 h63 hbytes hbase ?_
    intro v' w' g1 g2 _ g4
    exact h v' w' g1 g2 g4
end Go.Proofs.YtbiakncngmgbkaaGreatDoor
end
section
namespace Go.Proofs.YtbiakncngmgbkaaGreatDoor
attribute [local go_sem ↓] Go.wp_at_zero Go.wp_at_succ
open Go.RowKit

theorem info_i64 : (Tryz.prog.info? 3).map (fun i => (i.zero, i.size, i.bytes)) = some (some (.int .i64 0), 1, 8) := by kernel_rfl

/-- what is held at the pieces' ends; -1 elsewhere -/
def HeldOk (lim : Nat) (raw : Sp.Bs) (hs : List Int) : Prop := ∀ (j : Nat) (v : Int), hs[j]? = some v → v = -1 ∨ v = heldAt lim raw j

/-- what fed leaves and tells -/
def FedPost (w : World) (lim : Nat) (raw : Sp.Bs) (e : Ending) (w' : World) : Prop :=
  ∃ fb hb A c hs, e = .returned (.tuple #[.pointer (some ⟨fb, 0, none⟩), .slice A (toldAll lim raw).length c, .slice (some ⟨hb, 0, none⟩) (raw.length + 1) (raw.length + 1)]) ∧
    (∃ ln dv kv mv, FeedAt w' fb lim (endAll lim raw) nilRow ln dv kv mv [] []) ∧
    (∃ tcs bl, w'.ownsRow w.heap.size 61 16 (.slice A (toldAll lim raw).length c) (toldAll lim raw).length tcs ∧ StepsMem w' (toldAll lim raw) tcs bl) ∧
    Blk w' hb 3 (intsV hs).toArray ∧ hs.length = raw.length + 1 ∧ HeldOk lim raw hs ∧ Below w.heap.size w w' ∧ Glob w'

theorem intsV_set (hs : List Int) (k : Nat) (v : Int) : (intsV hs).toArray.setIfInBounds k (.int .i64 v) = (intsV (hs.set k v)).toArray := by
  simp [intsV, List.map_set]

theorem intsV_made (n : Nat) : madeCells #[.int .i64 0] n = (intsV (List.replicate n 0)).toArray := by
  apply Array.ext'
  rw [toList_madeCells_one]
  simp [intsV]

theorem own_cells_eq {w : World} {base base' : Nat} {e e' : TypeId} {size n : Nat} {v : Value} {xs ys : List Value} (h1 : w.ownsRow base e size v n xs) (h2 : w.ownsRow base' e' size v n ys) : xs = ys := by
  rcases h1.2 with ⟨hv, hn⟩ | ⟨g, cap, cur, rfl, _, hg, _, _, _, ht⟩
  · have a := h1.1; have b := h2.1
    rw [hn, Nat.zero_mul] at a b
    rw [List.eq_nil_of_length_eq_zero a, List.eq_nil_of_length_eq_zero b]
  · rcases h2.2 with ⟨hv, _⟩ | ⟨g', cap', cur', hv, _, hg', _, _, _, ht'⟩
    · cases hv
    · injection hv with hv; injection hv with hv; injection hv with hv
      subst hv
      rw [hg] at hg'
      injection hg' with hg'; injection hg' with hc _
      rw [← ht, ← ht', hc]

set_option maxHeartbeats 8000000 in
set_option maxRecDepth 100000 in
theorem fed_any {w : World} (hg : Glob w) {A C : Option Addr} {capA capC : Nat} {bv cv : Value} {raw : Sp.Bs} {cuts : List Int} {limit : Int} (hn : raw.length ≤ 12000) (hcA : raw.length ≤ capA) (hcA2 : capA ≤ 9223372036854775807) (hcC : cuts.length ≤ 9223372036854775807)
    (hrow : RowAt w A (bytesV raw)) (hA : A = none → capA = 0) (hrowC : RowAt w C (intsV cuts)) :
    Calls Tryz.prog 25 #[.agg #[.slice A raw.length capA, .int .i64 limit, bv, cv], .slice C cuts.length capC] w (FedPost w limit.toNat raw) := by
  generalize hR : FedPost w limit.toNat raw = R
  have hb0 : Below w.heap.size w (w.alloc (.cells #[.slice A raw.length capA, .int .i64 limit, bv, cv] 66)) := (Below.refl _ _).alloc (Nat.le_refl _) _
  have hbx := Blk.new w 66 #[.slice A raw.length capA, .int .i64 limit, bv, cv]
  have hne := new_any (w.alloc (.cells #[.slice A raw.length capA, .int .i64 limit, bv, cv] 66)) (by have := hg.size; simp; omega) limit
  have hsz : (w.alloc (.cells #[.slice A raw.length capA, .int .i64 limit, bv, cv] 66)).heap.size = w.heap.size + 1 := by simp
  rw [hsz] at hne
  have hmk : ∀ W : World, (Instr.makeSlice 50 (.int .i64 ((raw.length : Int) + 1)) (.int .i64 ((raw.length : Int) + 1))).run Tryz.prog W = .ok (.slice (some ⟨W.heap.size, 0, none⟩) (raw.length + 1) (raw.length + 1)) (W.alloc (.cells (intsV (List.replicate (raw.length + 1) 0)).toArray 3)) := fun W => by
    obtain ⟨i0, hi, hz0, hz1, hz2⟩ := info_parts info_i64
    rw [run_make (P := Tryz.prog) W 50 3 i0 (.int .i64 0) Tryz.underlying50 hi hz0 .i64 .i64 ((raw.length : Int) + 1) ((raw.length : Int) + 1) (by omega) (by omega) (by rw [hz2]; omega) (by omega)]
    have e : ((raw.length : Int) + 1).toNat = raw.length + 1 := by omega
    rw [hz1, e, Nat.mul_one]
    show Result.ok _ (W.alloc (.cells (madeCells #[.int .i64 0] (raw.length + 1)) 3)) = _
    rw [intsV_made]
  have HR := Lib.hid hR
  have HG := Lib.hid hg
  have HROW := Lib.hid hrow
  have HROWC := Lib.hid hrowC
  have HA := Lib.hid hA
  have HB0 := Lib.hid hb0
  have HBX := Lib.hid hbx
  have HN := Lib.hid hne
  clear hR hg hrow hrowC hA hb0 hbx hne hsz
  go_enter Tryz.func25, Tryz.ntmps25
  go_upto_region 4 with (refine HN.out.mono ?_; rintro e w1 ⟨rfl, hf, hb1⟩; have HF := Lib.hid hf; have HB1 := Lib.hid hb1; clear hf hb1)
  have hx1 := HBX.out.later (HB1.out.mono (by simp))
  have y0 : _ = some (Value.slice A raw.length capA) := hx1.cell 0
  have hs1 : w.heap.size + 1 < w1.heap.size := HF.out.blk.lt
  have hbl := Blk.new w1 3 (intsV (List.replicate (raw.length + 1) 0)).toArray
  have hb2 : Below w1.heap.size w1 (w1.alloc (.cells (intsV (List.replicate (raw.length + 1) 0)).toArray 3)) := (Below.refl _ _).alloc (Nat.le_refl _) _
  have HBL := Lib.hid hbl
  have HB2 := Lib.hid hb2
  have HX1 := Lib.hid hx1
  have hsz2 : (w1.alloc (.cells (intsV (List.replicate (raw.length + 1) 0)).toArray 3)).heap.size = w1.heap.size + 1 := by simp
  have HSZ2 := Lib.hid hsz2
  clear hbl hb2 hx1 hsz2
  go_wp2_with fail
  go_loopw [9] (fun i wr => ∃ (k : Nat) (hs : List Int), k ≤ raw.length + 1 ∧ i = .int .i64 k ∧ Blk wr w1.heap.size 3 (intsV hs).toArray ∧ hs.length = raw.length + 1 ∧ (∀ j v, j < k → hs[j]? = some v → v = -1) ∧ OnlyIn [w1.heap.size] w1 wr ∧ w1.heap.size < wr.heap.size) (fun i _ => raw.length + 1 - (intOf i).toNat)
  case atStart => exact ⟨0, _, by omega, rfl, HBL.out, by simp, fun j v hj => by omega, OnlyIn.of HB2.out _, by rw [HSZ2.out]; omega⟩
  case round =>
    obtain ⟨k, hs, hk, rfl, hbk, hlen, hfill, ho, hlt1⟩ := hrel
    by_cases hlt : k < raw.length + 1
    · obtain ⟨v0, hv0⟩ : ∃ v, hs[k]? = some v := ⟨hs[k]'(by omega), List.getElem?_eq_getElem _⟩
      have x0 : wr.cell? ⟨w1.heap.size, k, none⟩ = some (.int .i64 v0) := by rw [hbk.cell k]; simp [intsV, hv0]
      have f0 := hbk.frozen k
      have hbn := hbk.put k (.int .i64 (-1))
      rw [intsV_set] at hbn
      have hfin : OnlyIn [w1.heap.size] w1 (wr.setCell ⟨w1.heap.size, k, none⟩ (.int .i64 (-1))) := ho.setCell (.inl (by simp)) k _
      have hfl : ∀ j v, j < k + 1 → (hs.set k (-1))[j]? = some v → v = -1 := fun j v hj hv => by
        rw [List.getElem?_set] at hv
        split at hv
        · split at hv
          · injection hv with hv; exact hv.symm
          · cases hv
        · exact hfill j v (by omega) hv
      have hl2 : w1.heap.size < (wr.setCell ⟨w1.heap.size, k, none⟩ (.int .i64 (-1))).heap.size := by simpa [World.setCell] using hlt1
      have hl3 : (hs.set k (-1)).length = raw.length + 1 := by rw [List.length_set]; exact hlen
      have hkk : (k : Int) < (raw.length : Int) + 1 := by omega
      have HBN := Lib.hid hbn
      have HFIN := Lib.hid hfin
      have HFL := Lib.hid hfl
      have HL2 := Lib.hid hl2
      have HL3 := Lib.hid hl3
      clear hbn hfin hfl hl2 hl3 hbk hfill ho hv0 hlen
      go_wp2_with fail
      exact ⟨⟨k + 1, hs.set k (-1), by omega, by go_num, HBN.out, HL3.out, HFL.out, HFIN.out, HL2.out⟩, by show raw.length + 1 - ((k : Int) + 1).toNat < raw.length + 1 - (k : Int).toNat; omega⟩
    · obtain rfl : k = raw.length + 1 := by omega
      obtain ⟨w3, rfl⟩ : ∃ x, x = wr := ⟨_, rfl⟩
      have hx2 := HX1.out.same (ho.block _ (by omega) (by simp; omega))
      have hf2 := HF.out.only ho (fun x hx => by simp [ownList, rowBlock_nil] at hx ⊢; omega)
      have hb0r : Below w.heap.size w w3 := ((HB0.out.trans (HB1.out.mono (by omega))).trans ((ho.below (Nat.le_refl _) (by simp)).mono (by omega)))
      have hgr := HG.out.later hb0r
      have z0 : _ = some (Value.slice A raw.length capA) := hx2.cell 0
      have hp := pieces_any (w := w3) (capB := capC) (by omega) hcA hcA2 hcC (HROW.out.below hb0r) HA.out (HROWC.out.below hb0r)
      have hpc := piecesOf_count raw cuts
      have hpf := piecesOf_flat raw cuts
      have hok : HeldOk limit.toNat raw hs := fun j v hv => .inl (hfill j v (by have := (List.getElem?_eq_some_iff.1 hv).1; omega) hv)
      have HP := Lib.hid hp
      have HF2 := Lib.hid hf2
      have HB0R := Lib.hid hb0r
      have HGR := Lib.hid hgr
      have HBK := Lib.hid hbk
      have HOK := Lib.hid hok
      have HPF := Lib.hid hpf
      have HHL := Lib.hid hlen
      clear hp hf2 hb0r hgr hbk hok hpf hlen hfill hx2 ho y0
      go_wp2_with (refine HP.out.mono ?_; rintro e w4 ⟨pg, pc, pcs, rfl, hown4, hrm4, hb4⟩; have HOWN4 := Lib.hid hown4; have HRM4 := Lib.hid hrm4; have HB4 := Lib.hid hb4; clear hown4 hrm4 hb4)
      obtain ⟨ps, hps⟩ : ∃ ps, ps = piecesOf raw cuts := ⟨_, rfl⟩
      have hflat := HPF.out
      rw [← hps] at hpc HOWN4 HRM4 hflat ⊢
      have HPS := Lib.hid hps
      have HFLAT := Lib.hid hflat
      have hfeed4 := HF2.out.later HB4.out
      have hfbl : w.heap.size + 1 < w3.heap.size := HF2.out.blk.lt
      have hgc := HG.out.size
      have hmid : FedMid w4 [w.heap.size + 1, w1.heap.size] (w.heap.size + 1) limit.toNat (fedBy limit.toNat (ps.take 0)) (toldBy limit.toNat (ps.take 0)) nilRow w4 :=
        ⟨[], FedOn.new hfeed4 (HGR.out.later HB4.out) (by simp)⟩
      have hbk4 := HBK.out.later HB4.out
      have hw4 : w3.heap.size ≤ w4.heap.size := HB4.out.size
      have HM := Lib.hid hmid
      have HBK4 := Lib.hid hbk4
      clear hps hflat hfeed4 hmid hbk4 HP
      go_loopw [10, 11, 13] (fun v a i wx => ∃ (k : Nat) (hs : List Int), k ≤ ps.length ∧ i = .int .i64 k ∧ a = .int .i64 (ps.take k).flatten.length ∧ FedMid w4 [w.heap.size + 1, w1.heap.size] (w.heap.size + 1) limit.toNat (fedBy limit.toNat (ps.take k)) (toldBy limit.toNat (ps.take k)) v wx ∧
        Blk wx w1.heap.size 3 (intsV hs).toArray ∧ hs.length = raw.length + 1 ∧ HeldOk limit.toNat raw hs) (fun _ _ i _ => ps.length - (intOf i).toNat)
      case atStart => exact ⟨0, hs, by omega, rfl, rfl, HM.out, HBK4.out, HHL.out, HOK.out⟩
      case round =>
        obtain ⟨k, hs2, hk2, rfl, rfl, hmid, hbk2, hlen2, hok2⟩ := hrel
        obtain ⟨hkeep, hfit, hout, htak⟩ := fedBy_ok limit.toNat _ (ps.take k) rfl
        have hle := flat_take_le ps k
        rw [HFLAT.out] at hle
        by_cases hlt : k < ps.length
        · obtain ⟨p, hp⟩ : ∃ p, ps[k]? = some p := ⟨ps[k], by simp [hlt]⟩
          have hsucc := fedBy_succ limit.toNat hp
          have htsucc := toldBy_succ limit.toNat hp
          have hflat := flat_take_succ hp
          have hle2 := flat_take_le ps (k + 1)
          rw [HFLAT.out, hflat, List.length_append] at hle2
          obtain ⟨gp, cp, hpcs, hpown⟩ := HRM4.out.2 k p hp
          have hpg : w3.heap.size ≤ pg := own_ge HOWN4.out pg (by simp [rowBlock, Value.ownBlock])
          have hpg2 : pg < w4.heap.size := own_lt HOWN4.out pg (by simp [rowBlock, Value.ownBlock])
          have hgp : w3.heap.size ≤ gp := own_ge hpown gp (by simp [rowBlock, Value.ownBlock])
          have hgp2 : gp < w4.heap.size := own_lt hpown gp (by simp [rowBlock, Value.ownBlock])
          have hcell4 : w4.cell? ⟨pg, k, none⟩ = some (.slice (some ⟨gp, 0, none⟩) p.length cp) := by
            have h := RowAt.of_own HOWN4.out
            have := h.cells k _ hpcs
            rwa [Addr.add_mid, Nat.zero_add] at this
          have hcellr : ∀ W, OnlyIn [w.heap.size + 1, w1.heap.size] w4 W → W.cell? ⟨pg, k, none⟩ = some (.slice (some ⟨gp, 0, none⟩) p.length cp) := fun W ho =>
            (World.cell?_of_block (ho.block pg hpg2 (by simp; omega))).trans hcell4
          have hrowp : RowAt wr (some ⟨gp, 0, none⟩) (bytesV p) := RowAt.of_own (own_same hpown fun x hx => hmid.only.block x (own_lt hpown x hx) (by have := own_ge hpown x hx; simp; omega))
          have hlow : ∀ x ∈ [w.heap.size + 1, w1.heap.size], 8 ≤ x := fun x hx => by simp at hx; omega
          have hc := hmid.fed (cap := cp) hfit (by omega) hrowp (fun a ha => by injection ha with ha; subst ha; exact ⟨hgp2, by show gp ≠ w.heap.size + 1; omega⟩) hlow (by omega)
          have yr := hcellr wr hmid.only
          rw [← hsucc] at hc
          have htc : (toldBy limit.toNat (ps.take (k + 1))).length ≤ 12000 := by have := toldBy_count limit.toNat (ps.take (k + 1)); rw [hflat, List.length_append] at this; omega
          have htk1 := (fedBy_ok limit.toNat _ (ps.take (k + 1)) rfl).2.2.2
          have hheld := fedBy_held limit.toNat HFLAT.out (k + 1)
          have hfl : (ps.take (k + 1)).flatten.length = (ps.take k).flatten.length + p.length := by rw [hflat, List.length_append]
          rw [hfl] at htk1 hheld
          generalize hs1 : fedBy limit.toNat (ps.take (k + 1)) = s1 at hc htk1 hheld ⊢
          generalize hs0 : fedBy limit.toNat (ps.take k) = s0 at *
          generalize (ps.take k).flatten.length = at0 at *
          generalize hts0 : toldBy limit.toNat (ps.take k) = ts0 at *
          generalize hts1 : toldBy limit.toNat (ps.take (k + 1)) = ts1 at *
          generalize s0.told limit.toNat p = tl at *
          have hc2 : Calls Tryz.prog 12 #[.pointer (some ⟨w.heap.size + 1, 0, none⟩), .slice (some ⟨gp, 0, none⟩) p.length cp] wr fun e w' => ∃ A' c', e = .returned (.slice A' tl.length c') ∧ FedGot w4 [w.heap.size + 1, w1.heap.size] (w.heap.size + 1) limit.toNat s1 ts0 tl u10 A' c' w' ∧ Blk w' w1.heap.size 3 (intsV hs2).toArray :=
            hc.mono fun e w' ⟨A', c', h1, h2, h3⟩ => ⟨A', c', h1, h2, hbk2.same (h3.block _ (by omega) (by omega))⟩
          obtain ⟨Au, cu, tcsu, blu, hu10, -, -⟩ := hmid.own
          have HC := Lib.hid hc2
          have HTK1 := Lib.hid htk1
          have HHELD := Lib.hid hheld
          have HFL := Lib.hid hfl
          have HS1 := Lib.hid hs1
          have HTS1 := Lib.hid hts1
          have HTSU := Lib.hid htsucc
          have HCR := Lib.hid hcellr
          have HOK2 := Lib.hid hok2
          have HLEN2 := Lib.hid hlen2
          have HLOW := Lib.hid hlow
          clear hc hc2 htk1 hheld hfl hs1 hs0 hts0 hts1 htsucc hsucc hcellr hok2 hlen2 hlow hmid hbk2 hrowp hcell4 hpown hpcs hp hflat hkeep hfit hout htak
          subst hu10
          go_upto_region 15 with fail
          go_cut [10] (fun v wx => FedMid w4 [w.heap.size + 1, w1.heap.size] (w.heap.size + 1) limit.toNat s1 ts1 v wx ∧ Blk wx w1.heap.size 3 (intsV hs2).toArray)
          case first =>
            obtain ⟨i0, hi, hz0, hz1, hz2⟩ := info_parts info_step
            go_wp2_with fail
            refine HC.out.mono ?_
            rintro e w5 ⟨A', c', rfl, hgot, hbk5⟩
            obtain ⟨tcs, tc, hr1, hr2, hone⟩ := hgot.row
            have htcl : tc.length = tl.length * 16 := hr2.1
            have hlw : w4.heap.size ≤ w5.heap.size := hgot.only.size
            have htsl : ts0.length + tl.length ≤ 12000 := by have := HTSU.out; rw [this, List.length_append] at htc; exact htc
            have HGOT := Lib.hid hgot
            have HBK5 := Lib.hid hbk5
            have HR1 := Lib.hid hr1
            have HR2 := Lib.hid hr2
            have HONE := Lib.hid hone
            have HTCL := Lib.hid htcl
            clear hgot hbk5 hr1 hr2 hone htcl
            cases A' with
            | none =>
              have hz : tl = [] ∧ c' = 0 := by
                rcases HR2.out.2 with ⟨h1, h2⟩ | ⟨g, cap, cur, h1, _⟩
                · injection h1 with _ _ h3
                  exact ⟨List.eq_nil_of_length_eq_zero h2, h3⟩
                · injection h1 with h1; cases h1
              obtain ⟨htl, rfl⟩ := hz
              have hmid : FedMid w4 [w.heap.size + 1, w1.heap.size] (w.heap.size + 1) limit.toNat s1 ts1 (.slice Au ts0.length cu) w5 := by
                have h := HGOT.out.none htl
                rwa [← HTSU.out] at h
              have HMID := Lib.hid hmid
              have htl0 : tl.length = 0 := by rw [htl]; rfl
              rw [htl0]
              clear hmid htl htl0
              go_wp2_with (at_builtin; refine wpList_append_own_none rfl (.tmp 43) (.tmp 49) _ rfl w4.heap.size 61 i0 16 Tryz.underlying41 hi (.slice Au ts0.length cu) ts0.length tcs rfl HR1.out rfl ?_)
              go_meet
              exact ⟨HMID.out, HBK5.out⟩
            | some ad =>
              have hnews : ∀ (j : Nat) (u : Value), tc[j]? = some u → w5.cell? (ad.add j) = some u := (RowAt.of_own HR2.out).cells
              have HNEWS := Lib.hid hnews
              clear hnews
              go_wp2_with (at_builtin; refine wpList_append_own_at w5 rfl (.tmp 43) (.tmp 49) _ rfl w4.heap.size 61 i0 _ 16 184 Tryz.underlying41 hi hz0 hz1 hz2 rfl (by decide) (.slice Au ts0.length cu) ts0.length tcs rfl HR1.out ad tl.length c' tc rfl HTCL.out HNEWS.out HONE.out ?_ ?_ hlw ?_; (unfold maxLen; omega); omega; intro v' w6 hown6 hg6 hnil6 hat6; have HOWN6 := Lib.hid hown6; have HG6 := Lib.hid hg6; have HAT6 := Lib.hid hat6; clear hown6 hg6 hnil6 hat6)
              go_meet
              refine ⟨?_, ?_⟩
              · have h := HGOT.out.some (w3 := w6) (v' := v') (by omega) (fun tcs' tc' h1 h2 => by
                  rw [own_cells_eq h1 HR1.out, own_cells_eq h2 HR2.out]; exact HOWN6.out) HG6.out HAT6.out
                rwa [← HTSU.out] at h
              · refine HBK5.out.grown HG6.out (fun e => ?_)
                have := own_ge HR1.out w1.heap.size (mem_rowBlock.2 e.symm)
                omega
          case rest =>
            obtain ⟨hmid1, hbk1⟩ := hcut
            have yc := HCR.out wc hmid1.only
            obtain ⟨ln1, dv1, kv1, mv1, hfd1⟩ := hmid1.at
            have hch : Calls Tryz.prog 22 #[.pointer (some ⟨w.heap.size + 1, 0, none⟩)] wc fun e w' => e = .returned (.int .i64 s1.held) ∧ wc = w' := (held_any hfd1).mono fun e w' ⟨h1, h2⟩ => ⟨h1, h2.symm⟩
            have hal : at0 + p.length < hs2.length := by rw [HLEN2.out]; omega
            obtain ⟨v0, hv0⟩ : ∃ v, hs2[at0 + p.length]? = some v := ⟨hs2[at0 + p.length], List.getElem?_eq_getElem _⟩
            have x0 : wc.cell? ⟨w1.heap.size, at0 + p.length, none⟩ = some (.int .i64 v0) := by rw [hbk1.cell]; simp [intsV, hv0]
            have f0 := hbk1.frozen (at0 + p.length)
            have hbn := hbk1.put (at0 + p.length) (.int .i64 s1.held)
            rw [intsV_set] at hbn
            have hmid2 := hmid1.put (g := w1.heap.size) (by simp) (by omega) (by omega) (by omega) (at0 + p.length) (.int .i64 s1.held)
            obtain ⟨ln2, dv2, kv2, mv2, hfd2⟩ := hmid2.at
            have hct : Calls Tryz.prog 24 #[.pointer (some ⟨w.heap.size + 1, 0, none⟩)] (wc.setCell ⟨w1.heap.size, at0 + p.length, none⟩ (.int .i64 s1.held)) fun e w' => e = .returned (.int .i64 s1.taken) ∧ (wc.setCell ⟨w1.heap.size, at0 + p.length, none⟩ (.int .i64 s1.held)) = w' := (taken_any hfd2).mono fun e w' ⟨h1, h2⟩ => ⟨h1, h2.symm⟩
            rw [HTK1.out] at hct
            have hok3 : HeldOk limit.toNat raw (hs2.set (at0 + p.length) s1.held) := fun j v hv => by
              rw [List.getElem?_set] at hv
              split at hv
              · rename_i hj
                injection hv with hv
                right; rw [← hv, ← hj]; exact HHELD.out
              · exact HOK2.out j v hv
            have hlen3 : (hs2.set (at0 + p.length) s1.held).length = raw.length + 1 := by rw [List.length_set]; exact HLEN2.out
            have hix : (at0 : Int) + (p.length : Int) < (raw.length : Int) + 1 := by omega
            have hcast : ((at0 + p.length : Nat) : Int) = (at0 : Int) + (p.length : Int) := by omega
            rw [hcast] at hct
            have HCH := Lib.hid hch
            have HCT := Lib.hid hct
            have HMID2 := Lib.hid hmid2
            have HBN := Lib.hid hbn
            have HOK3 := Lib.hid hok3
            have HLEN3 := Lib.hid hlen3
            clear hch hct hmid2 hmid1 hbn hok3 hlen3 hfd1 hfd2 hbk1 hv0 hal hcast
            go_wp2_with (first | (go_at_call 22; refine HCH.out.mono ?_; rintro e w' ⟨rfl, rfl⟩) | (go_at_call 24; refine HCT.out.mono ?_; rintro e w' ⟨rfl, rfl⟩))
            refine ⟨⟨k + 1, hs2.set (at0 + p.length) s1.held, by omega, by go_num, by rw [HFL.out]; go_num, ?_, HBN.out, HLEN3.out, HOK3.out⟩, by show ps.length - ((k : Int) + 1).toNat < ps.length - (k : Int).toNat; omega⟩
            rw [HS1.out, HTS1.out]
            exact HMID2.out
        · obtain rfl : k = ps.length := by omega
          rw [List.take_length] at hmid
          obtain ⟨Au, cu, tcsu, blu, rfl, hou, hsu⟩ := hmid.own
          obtain ⟨ln1, dv1, kv1, mv1, hfd1⟩ := hmid.at
          have hbw : Below w.heap.size w wr := HB0R.out.trans ((HB4.out.mono HB0R.out.size).trans (hmid.only.below (by have := HB0R.out.size; omega) (fun x hx => by simp at hx; omega)))
          have hfin : R (.returned (.tuple #[.pointer (some ⟨w.heap.size + 1, 0, none⟩), .slice Au (toldBy limit.toNat ps).length cu, .slice (some ⟨w1.heap.size, 0, none⟩) (raw.length + 1) (raw.length + 1)])) wr := by
            rw [← HR.out]
            unfold FedPost
            rw [← toldBy_flat limit.toNat HFLAT.out, ← fedBy_flat limit.toNat HFLAT.out]
            exact ⟨_, _, Au, cu, hs2, rfl, ⟨ln1, dv1, kv1, mv1, hfd1⟩, ⟨tcsu, blu, World.ownsRow.mono hou (by have := HB0R.out.size; omega), hsu⟩, hbk2, hlen2, hok2, hbw, hmid.glob⟩
          have HFIN := Lib.hid hfin
          clear hfin hbw hfd1 hou hsu hmid hbk2 hlen2 hok2 hkeep hfit hout htak hle
          go_wp2_with fail
          exact bodyPost_ret (v := .tuple #[.pointer (some ⟨w.heap.size + 1, 0, none⟩), .slice Au (toldBy limit.toNat ps).length cu, .slice (some ⟨w1.heap.size, 0, none⟩) (raw.length + 1) (raw.length + 1)]) (by simp [results, Tryz.results25, go_sem]) rfl HFIN.out
end Go.Proofs.YtbiakncngmgbkaaGreatDoor
end
section
namespace Go.Proofs.YtbiakncngmgbkaaGreatDoor
attribute [local go_sem ↓] Go.wp_at_zero Go.wp_at_succ
open Go.RowKit

/-- the box of the parameter -/
def boxRow (A : Option Addr) (n capA : Nat) (limit : Int) (bv cv : Value) : Array Value := #[.slice A n capA, .int .i64 limit, bv, cv]

theorem short_fit {ts : List Sp.StepV} (h : ∀ t ∈ ts, ShortStep t) : StepsFit ts := fun t ht => ⟨Nat.le_trans (h t ht).1 (by decide), Nat.le_trans (h t ht).2 (by decide)⟩

theorem heldAt_pos (lim : Nat) (raw : Sp.Bs) (j : Nat) : 0 ≤ heldAt lim raw j := by unfold heldAt; omega

set_option maxHeartbeats 8000000 in
set_option maxRecDepth 100000 in
theorem lineCuts_any {w : World} (hg : Glob w) {A B C : Option Addr} {capA capB capC : Nat} {raw : Sp.Bs} {one two : List Int} {limit : Int}
    (hcA : raw.length ≤ capA) (hcA2 : capA ≤ 9223372036854775807) (hcB : one.length ≤ 9223372036854775807) (hcC : two.length ≤ 9223372036854775807)
    (hrow : RowAt w A (bytesV raw)) (hA : A = none → capA = 0) (hrowB : RowAt w B (intsV one)) (hrowC : RowAt w C (intsV two)) :
    Calls Tryz.prog 5 #[.agg #[.slice A raw.length capA, .int .i64 limit, .slice B one.length capB, .slice C two.length capC]] w fun e w' => e = .returned (.bool true) ∧ Below w.heap.size w w' := by
  generalize hR : (fun (e : Ending) (w' : World) => e = .returned (.bool true) ∧ Below w.heap.size w w') = R
  have HR := Lib.hid hR
  have HG := Lib.hid hg
  have HROW := Lib.hid hrow
  have HROWB := Lib.hid hrowB
  have HROWC := Lib.hid hrowC
  have HA := Lib.hid hA
  clear hR hg hrow hrowB hrowC hA
  go_enter Tryz.func5, Tryz.ntmps5
  go_upto_if 13 with fail
  go_cut [1] (fun b wx => b = .pointer (some ⟨w.heap.size, 0, none⟩) ∧ Blk wx w.heap.size 66 (boxRow A (raw.take 12000).length capA limit (.slice B one.length capB) (.slice C two.length capC)) ∧ Below w.heap.size w wx)
  case first =>
    have hb0 : Below w.heap.size w (w.alloc (.cells (boxRow A raw.length capA limit (.slice B one.length capB) (.slice C two.length capC)) 66)) := (Below.refl _ _).alloc (Nat.le_refl _) _
    have hbl := Blk.new w 66 (boxRow A raw.length capA limit (.slice B one.length capB) (.slice C two.length capC))
    by_cases hc : (12000 : Int) < (raw.length : Int)
    · have hlen : (raw.take 12000).length = 12000 := by rw [List.length_take]; omega
      have hca : (12000 : Int) ≤ (capA : Int) := by omega
      have hbn := Blk.new w 66 (boxRow A 12000 capA limit (.slice B one.length capB) (.slice C two.length capC))
      have hb1 : Below w.heap.size w (w.alloc (.cells (boxRow A 12000 capA limit (.slice B one.length capB) (.slice C two.length capC)) 66)) := (Below.refl _ _).alloc (Nat.le_refl _) _
      rw [← hlen] at hbn hb1
      have HF := Lib.hid hbn
      have HB := Lib.hid hb1
      clear hbn hb1 hbl hb0
      go_wp2_with fail
      go_meet
      refine ⟨rfl, HF.out.same ?_, ?_⟩
      · rw [hlen]; rfl
      · have := HB.out
        rwa [hlen] at this
    · have hlen : raw.take 12000 = raw := List.take_of_length_le (by omega)
      have hfin : Blk (w.alloc (.cells (boxRow A raw.length capA limit (.slice B one.length capB) (.slice C two.length capC)) 66)) w.heap.size 66 (boxRow A (raw.take 12000).length capA limit (.slice B one.length capB) (.slice C two.length capC)) := by rw [hlen]; exact hbl
      have HF := Lib.hid hfin
      have HB := Lib.hid hb0
      clear hfin hbl hb0 hlen
      go_wp2_with fail
      go_meet
      exact ⟨rfl, HF.out, HB.out⟩
  case rest =>
    obtain ⟨rfl, hbx, hbw⟩ := hcut
    obtain ⟨raw', hraw'⟩ : ∃ raw', raw' = raw.take 12000 := ⟨_, rfl⟩
    have hlen1 : raw'.length ≤ 12000 := by rw [hraw', List.length_take]; omega
    have hlen2 : raw'.length ≤ capA := by rw [hraw', List.length_take]; omega
    have hrow1 : RowAt w A (bytesV raw') := by rw [hraw']; have := HROW.out.take 12000; simpa [bytesV] using this
    rw [← hraw'] at hbx
    have hgc := HG.out.later hbw
    have hltw : w.heap.size < wc.heap.size := hbx.lt
    have hf1 := fed_any hgc (bv := .slice B one.length capB) (cv := .slice C two.length capC) (limit := limit) (capC := capB) hlen1 hlen2 hcA2 hcB (hrow1.below hbw) HA.out (HROWB.out.below hbw)
    have y0 : _ = some (Value.slice A raw'.length capA) := hbx.cell 0
    have y1 : _ = some (Value.int .i64 limit) := hbx.cell 1
    have y2 : _ = some (Value.slice B one.length capB) := hbx.cell 2
    have y3 : _ = some (Value.slice C two.length capC) := hbx.cell 3
    have HROW1 := Lib.hid hrow1
    have HBX := Lib.hid hbx
    have HBW := Lib.hid hbw
    have HF1 := Lib.hid hf1
    clear hraw' hrow1 HROW hbx hbw hgc hf1
    go_wp2_with fail
    refine HF1.out.mono ?_
    rintro e w1 ⟨fb1, hb1, A1, c1, hs1, rfl, hfd1, ⟨tcs1, bl1, ho1, hst1⟩, hbk1, hsl1, hok1, hbe1, hg1⟩
    have hbx1 := HBX.out.later hbe1
    have hbw1 := HBW.out.trans (hbe1.mono HBW.out.size)
    have hf2 := fed_any hg1 (bv := .slice B one.length capB) (cv := .slice C two.length capC) (limit := limit) (capC := capC) hlen1 hlen2 hcA2 hcC (HROW1.out.below hbw1) HA.out (HROWC.out.below hbw1)
    clear y0 y1 y2 y3
    have y0 : _ = some (Value.slice A raw'.length capA) := hbx1.cell 0
    have y1 : _ = some (Value.int .i64 limit) := hbx1.cell 1
    have y2 : _ = some (Value.slice B one.length capB) := hbx1.cell 2
    have y3 : _ = some (Value.slice C two.length capC) := hbx1.cell 3
    have HF2 := Lib.hid hf2
    have HFD1 := Lib.hid hfd1
    have HO1 := Lib.hid ho1
    have HST1 := Lib.hid hst1
    have HBK1 := Lib.hid hbk1
    have HSL1 := Lib.hid hsl1
    have HOK1 := Lib.hid hok1
    have HBW1 := Lib.hid hbw1
    clear hf2 hfd1 ho1 hst1 hbk1 hsl1 hok1 hbx1 hbe1 hbw1 hg1
    go_wp2_with fail
    refine HF2.out.mono ?_
    rintro e w2 ⟨fb2, hb2, A2, c2, hs2, rfl, hfd2, ⟨tcs2, bl2, ho2, hst2⟩, hbk2, hsl2, hok2, hbe2, hg2⟩
    have hbx2 := hbe2
    have hbw2 := HBW1.out.trans (hbe2.mono HBW1.out.size)
    have hst1 := (HST1.out.same fun k hk => hbe2.block k (HST1.out.lt k hk)).at
    have hss := sameSteps_same (ca := c1) (cb := c2) (by have := toldAll_count limit.toNat raw'; omega) (short_fit (toldAll_short limit.toNat raw')) (RowAt.of_own (own_later HO1.out hbe2)) (RowAt.of_own ho2) hst1 hst2.at
    have hbk1 := HBK1.out.later hbe2
    obtain ⟨ln1, dv1, kv1, mv1, hfd1⟩ := HFD1.out
    have hfd1 := hfd1.later hbe2
    obtain ⟨ln2, dv2, kv2, mv2, hfd2⟩ := hfd2
    have he1 := fun (W : World) (hb : Below w2.heap.size w2 W) => (ended_any (hfd1.later hb)).mono (R' := fun e w' => e = .returned (.bool (endAll limit.toNat raw').ended) ∧ W = w') fun e w' ⟨h1, h2⟩ => ⟨h1, h2.symm⟩
    have he2 := fun (W : World) (hb : Below w2.heap.size w2 W) => (ended_any (hfd2.later hb)).mono (R' := fun e w' => e = .returned (.bool (endAll limit.toNat raw').ended) ∧ W = w') fun e w' ⟨h1, h2⟩ => ⟨h1, h2.symm⟩
    generalize (endAll limit.toNat raw').ended = eb at he1 he2
    have HSS := Lib.hid hss
    have HE1 := Lib.hid he1
    have HE2 := Lib.hid he2
    have HBK1' := Lib.hid hbk1
    have HBK2 := Lib.hid hbk2
    have HSL2 := Lib.hid hsl2
    have HOK2 := Lib.hid hok2
    have HBW2 := Lib.hid hbw2
    have HG2 := Lib.hid hg2
    clear hss he1 he2 hbk1 hbk2 hsl2 hok2 hbw2 hg2 hst1 hst2 ho2 hfd1 hfd2 hbx2 hbe2 y0 y1 y2 y3
    go_wp2_with fail
    refine HSS.out.mono ?_
    rintro e w3 ⟨rfl, hb3⟩
    have hc1 := HE1.out w3 hb3
    have hc2 := HE2.out w3 hb3
    have HB3 := Lib.hid hb3
    have HC1 := Lib.hid hc1
    have HC2 := Lib.hid hc2
    clear hb3 hc1 hc2
    cases eb
    all_goals
      go_wp2_with (first | (refine HC1.out.mono ?_; rintro e w' ⟨rfl, rfl⟩) | (refine HC2.out.mono ?_; rintro e w' ⟨rfl, rfl⟩))
      go_loopw [9] (fun i wx => ∃ k : Nat, k ≤ raw'.length + 1 ∧ i = .int .i64 k ∧ Below w3.heap.size w3 wx) (fun i _ => raw'.length + 1 - (intOf i).toNat)
      case atStart => exact ⟨0, by omega, rfl, Below.refl _ _⟩
      case round =>
        obtain ⟨k, hk, rfl, hb⟩ := hrel
        have hb1r := (HBK1'.out.later HB3.out).later hb
        have hb2r := (HBK2.out.later HB3.out).later hb
        have HBX := Lib.hid hb
        clear hb
        by_cases hlt : k < raw'.length + 1
        · obtain ⟨v1, hv1⟩ : ∃ v, hs1[k]? = some v := ⟨hs1[k]'(by rw [HSL1.out]; exact hlt), List.getElem?_eq_getElem _⟩
          obtain ⟨v2, hv2⟩ : ∃ v, hs2[k]? = some v := ⟨hs2[k]'(by rw [HSL2.out]; exact hlt), List.getElem?_eq_getElem _⟩
          have x1 : wr.cell? ⟨hb1, k, none⟩ = some (.int .i64 v1) := by rw [hb1r.cell k]; simp [intsV, hv1]
          have x2 : wr.cell? ⟨hb2, k, none⟩ = some (.int .i64 v2) := by rw [hb2r.cell k]; simp [intsV, hv2]
          have ho1 := HOK1.out k v1 hv1
          have ho2 := HOK2.out k v2 hv2
          have hpos := heldAt_pos limit.toNat raw' k
          generalize heldAt limit.toNat raw' k = h at ho1 ho2 hpos
          have hkk : (k : Int) < (raw'.length : Int) + 1 := by omega
          have hd : decide (0 ≤ h) = true := decide_eq_true hpos
          clear hb1r hb2r hv1 hv2
          rcases ho1 with rfl | rfl
          · clear ho2
            go_wp2_with fail
            go_quiet (fail)
            go_wp2_with fail
            exact ⟨⟨k + 1, by omega, by go_num, below_drewN' HBX.out _⟩, by show raw'.length + 1 - ((k : Int) + 1).toNat < raw'.length + 1 - (k : Int).toNat; omega⟩
          · rcases ho2 with rfl | rfl
            · go_wp2_with fail
              go_quiet (fail)
              go_wp2_with fail
              exact ⟨⟨k + 1, by omega, by go_num, below_drewN' HBX.out _⟩, by show raw'.length + 1 - ((k : Int) + 1).toNat < raw'.length + 1 - (k : Int).toNat; omega⟩
            · go_wp2_with fail
              go_quiet (fail)
              go_wp2_with fail
              exact ⟨⟨k + 1, by omega, by go_num, below_drewN' HBX.out _⟩, by show raw'.length + 1 - ((k : Int) + 1).toNat < raw'.length + 1 - (k : Int).toNat; omega⟩
        · have hbw3 := HBW2.out.trans ((HB3.out.trans (HBX.out.mono HB3.out.size)).mono HBW2.out.size)
          have hwk := wakes_any ((HG2.out.later HB3.out).later HBX.out)
          have HWK := Lib.hid hwk
          have HBF := Lib.hid hbw3
          have hkk : ¬ (k : Int) < (raw'.length : Int) + 1 := by omega
          clear hwk hbw3 hb1r hb2r
          go_wp2_with (refine HWK.out.mono ?_; rintro e w6 ⟨rfl, hb6⟩; have HB6 := Lib.hid hb6; clear hb6)
          rw [← HR.out]
          exact ⟨rfl, HBF.out.trans (HB6.out.mono HBF.out.size)⟩
end Go.Proofs.YtbiakncngmgbkaaGreatDoor
end
