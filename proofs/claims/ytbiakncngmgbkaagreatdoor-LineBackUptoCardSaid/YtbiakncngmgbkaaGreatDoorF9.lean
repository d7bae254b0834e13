/- What a line's reading leaves in a Feeder's memory. -/
import Derived.Test.YtbiakncngmgbkaaGreatDoorF4
import Derived.Test.YtbiakncngmgbkaaGreatDoorG2
namespace Go.Proofs.YtbiakncngmgbkaaGreatDoor
open Go.RowKit

section
variable {w : World} {fb lim : Nat} {s : Sp.FeedV} {ov ln dv kv mv : Value} {tc : List Value} {T : List Nat}

theorem feedCells_step (fb lim : Nat) (s : Sp.FeedV) (ov ln dv kv mv : Value) (t : Sp.StepV) (kv' mv' : Value) :
    (((stepArr t kv' nilRow mv').toList).zipIdx 9).foldl (fun cs x => cs.setIfInBounds x.2 x.1) (feedCells fb lim s ov ln dv kv mv) = feedCells fb lim { s with step := t } ov ln dv kv' mv' := by kernel_rfl

/-- another step at hand -/
theorem FeedAt.newStep (h : FeedAt w fb lim s ov ln dv kv mv tc T) (t : Sp.StepV) {kv' mv' : Value} {n : Nat} (hlt : ∀ k ∈ fb :: ownList T ov ln dv kv mv, k < n) (hn : 8 ≤ n)
    (hk : w.ownsRow n 9 1 kv' t.cmd.keys.length (t.cmd.keys.map str)) (hm : w.ownsRow n 118 3 mv' t.cmd.metas.length (flagsCells t.cmd.metas)) (hd : t.cmd.data = []) :
    FeedAt (w.setCells fb 9 (stepArr t kv' nilRow mv').toList) fb lim { s with step := t } ov ln dv kv' mv' tc T ∧ (∀ k ∈ ownList T ov ln dv kv' mv', k ∈ ownList T ov ln dv kv mv ∨ n ≤ k) := by
  have hkn := own_ge hk
  have hmn := own_ge hm
  have hfb := hlt fb (by simp)
  have hs : ∀ k, k ≠ fb → (w.setCells fb 9 (stepArr t kv' nilRow mv').toList).heap[k]? = w.heap[k]? := fun k hne => heap_setCells hne _ _
  have hne : ∀ k ∈ ownList T ov ln dv kv mv, k ≠ fb := fun k hk e => h.fb_notin (e ▸ hk)
  have hb := Blk.puts (stepArr t kv' nilRow mv').toList 9 h.blk
  rw [feedCells_step] at hb
  have hkm : rowBlock kv' = [] ∨ ∀ k ∈ rowBlock kv', k ∉ rowBlock mv' := by
    rcases own_own_apart hk hm (by decide) with e | e
    · left; simp [rowBlock, e]
    · right; intro k h1 h2; rw [mem_rowBlock] at h1 h2; exact e (h1.trans h2.symm)
  have nd1 : ∀ v : Value, (rowBlock v).Nodup := fun v => by unfold rowBlock; cases v.ownBlock <;> simp
  obtain ⟨n1, n2⟩ := List.nodup_cons.1 h.nodup
  have eo : ownList T ov ln dv kv mv = (T ++ (rowBlock ov ++ rowBlock ln)) ++ (rowBlock kv ++ (rowBlock dv ++ rowBlock mv)) := by simp [ownList]
  have eo' : ownList T ov ln dv kv' mv' = (T ++ (rowBlock ov ++ rowBlock ln)) ++ (rowBlock kv' ++ (rowBlock dv ++ rowBlock mv')) := by simp [ownList]
  rw [eo] at n2
  obtain ⟨n3, n4, n5⟩ := List.nodup_append.1 n2
  obtain ⟨n6, n7, n8⟩ := List.nodup_append.1 n4
  obtain ⟨n9, n10, n11⟩ := List.nodup_append.1 n7
  have ltA : ∀ k ∈ T ++ (rowBlock ov ++ rowBlock ln), k < n := fun k hk => hlt k (List.mem_cons_of_mem _ (by rw [eo]; exact List.mem_append_left _ hk))
  have ltD : ∀ k ∈ rowBlock dv, k < n := fun k hk => hlt k (List.mem_cons_of_mem _ (by rw [eo]; simp [hk]))
  refine ⟨⟨hb, own_same h.out fun k hk => hs k (hne k (by simp [ownList, hk])), h.told.same fun k hk => hs k (hne k (by simp [ownList, hk])), own_same h.line fun k hk => hs k (hne k (by simp [ownList, hk])),
    own_same h.data fun k hk => hs k (hne k (by simp [ownList, hk])), World.ownsRow.mono (own_same hk fun k hk => hs k (by have := hkn k hk; omega)) (Nat.zero_le _), World.ownsRow.mono (own_same hm fun k hk => hs k (by have := hmn k hk; omega)) (Nat.zero_le _), ?_, ?_, hd⟩, ?_⟩
  · rw [eo']
    refine List.nodup_cons.2 ⟨?_, List.nodup_append.2 ⟨n3, List.nodup_append.2 ⟨nd1 kv', List.nodup_append.2 ⟨n9, nd1 mv', ?_⟩, ?_⟩, ?_⟩⟩
    · intro hmem
      rcases List.mem_append.1 hmem with h1 | h1
      · exact n1 (by rw [eo]; exact List.mem_append_left _ h1)
      · rcases List.mem_append.1 h1 with h1 | h1
        · have := hkn fb h1; omega
        · rcases List.mem_append.1 h1 with h1 | h1
          · exact n1 (by rw [eo]; simp [h1])
          · have := hmn fb h1; omega
    · intro a ha b hb e
      subst e
      have := ltD a ha; have := hmn a hb; omega
    · intro a ha b hb e
      subst e
      rcases List.mem_append.1 hb with hb | hb
      · have := ltD a hb; have := hkn a ha; omega
      · rcases hkm with e | e
        · rw [e] at ha; cases ha
        · exact e a ha hb
    · intro a ha b hb e
      subst e
      have := ltA a ha
      rcases List.mem_append.1 hb with hb | hb
      · have := hkn a hb; omega
      · rcases List.mem_append.1 hb with hb | hb
        · exact n5 a ha a (by simp [hb]) rfl
        · have := hmn a hb; omega
  · intro k hk
    rw [eo'] at hk
    rcases List.mem_cons.1 hk with rfl | hk
    · exact h.low _ (by simp)
    · rcases List.mem_append.1 hk with h1 | h1
      · exact h.low k (List.mem_cons_of_mem _ (by rw [eo]; exact List.mem_append_left _ h1))
      · rcases List.mem_append.1 h1 with h1 | h1
        · have := hkn k h1; omega
        · rcases List.mem_append.1 h1 with h1 | h1
          · exact h.low k (List.mem_cons_of_mem _ (by rw [eo]; simp [h1]))
          · have := hmn k h1; omega
  · intro k hk
    rw [eo'] at hk
    rcases List.mem_append.1 hk with h1 | h1
    · left; rw [eo]; exact List.mem_append_left _ h1
    · rcases List.mem_append.1 h1 with h1 | h1
      · exact .inr (hkn k h1)
      · rcases List.mem_append.1 h1 with h1 | h1
        · left; rw [eo]; simp [h1]
        · exact .inr (hmn k h1)
end
end Go.Proofs.YtbiakncngmgbkaaGreatDoor
