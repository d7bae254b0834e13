/- A Feeder's rows grow: the line, the block's bytes. -/
import Derived.Test.YtbiakncngmgbkaaGreatDoorF3
namespace Go.Proofs.YtbiakncngmgbkaaGreatDoor
open Go.RowKit

theorem nodup_insert {fb : Nat} {A R B : List Nat} (h : (fb :: (A ++ (R ++ B))).Nodup) {g : Nat} (hg : R = [g] ∨ ∀ k ∈ fb :: (A ++ (R ++ B)), k ≠ g) : (fb :: (A ++ ([g] ++ B))).Nodup := by
  rcases hg with rfl | hg
  · exact h
  · obtain ⟨n1, n2⟩ := List.nodup_cons.1 h
    obtain ⟨n3, n4, n5⟩ := List.nodup_append.1 n2
    obtain ⟨n6, n7, n8⟩ := List.nodup_append.1 n4
    refine List.nodup_cons.2 ⟨?_, List.nodup_append.2 ⟨n3, List.nodup_append.2 ⟨by simp, n7, ?_⟩, ?_⟩⟩
    · intro hm
      rcases List.mem_append.1 hm with hm | hm
      · exact n1 (by simp [hm])
      · rcases List.mem_append.1 hm with hm | hm
        · simp at hm; exact hg fb (by simp) hm
        · exact n1 (by simp [hm])
    · intro a ha b hb e
      simp at ha
      subst ha; subst e
      exact hg a (by simp [hb]) rfl
    · intro a ha b hb e
      subst e
      rcases List.mem_append.1 hb with hb | hb
      · simp at hb; subst hb; exact hg a (by simp [ha]) rfl
      · exact n5 a ha a (by simp [hb]) rfl

section
variable {w w2 : World} {fb lim : Nat} {s : Sp.FeedV} {ov ln dv kv mv : Value} {tc : List Value} {T : List Nat}

theorem ownList_line (T : List Nat) (ov ln dv kv mv : Value) : ownList T ov ln dv kv mv = (T ++ rowBlock ov) ++ (rowBlock ln ++ (rowBlock kv ++ (rowBlock dv ++ rowBlock mv))) := by simp [ownList]
theorem ownList_data (T : List Nat) (ov ln dv kv mv : Value) : ownList T ov ln dv kv mv = (T ++ (rowBlock ov ++ (rowBlock ln ++ rowBlock kv))) ++ (rowBlock dv ++ rowBlock mv) := by simp [ownList]

theorem nodup_apart {fb : Nat} {A R B : List Nat} (h : (fb :: (A ++ (R ++ B))).Nodup) : ∀ k ∈ fb :: (A ++ B), k ∉ R := by
  obtain ⟨n1, n2⟩ := List.nodup_cons.1 h
  obtain ⟨n3, n4, n5⟩ := List.nodup_append.1 n2
  obtain ⟨n6, n7, n8⟩ := List.nodup_append.1 n4
  intro k hk hm
  rcases List.mem_cons.1 hk with rfl | hk
  · exact n1 (by simp [hm])
  · rcases List.mem_append.1 hk with hk | hk
    · exact n5 k hk k (by simp [hm]) rfl
    · exact n8 k hm k hk rfl

theorem FeedAt.moreLine (h : FeedAt w fb lim s ov ln dv kv mv tc T) {o : Obj} {b : UInt8} {g cap : Nat} (hg2 : (w.alloc o).grownBy w2 ln.ownBlock)
    (hown2 : w2.ownsRow 0 5 1 (.slice (some ⟨g, 0, none⟩) (s.line.length + 1) cap) (s.line.length + 1) (bytesV s.line ++ [.int .u8 b.toNat])) (hat : ln.ownBlock = some g ∨ g = (w.alloc o).heap.size) (hsz : 8 ≤ w.heap.size) :
    FeedAt (w2.setCell ⟨fb, 7, none⟩ (.slice (some ⟨g, 0, none⟩) (s.line.length + 1) cap)) fb lim { s with line := s.line ++ [b] } ov (.slice (some ⟨g, 0, none⟩) (s.line.length + 1) cap) dv kv mv tc T ∧
      (∀ k ∈ ownList T ov (.slice (some ⟨g, 0, none⟩) (s.line.length + 1) cap) dv kv mv, k ∈ ownList T ov ln dv kv mv ∨ w.heap.size ≤ k) ∧
      OnlyIn (fb :: ownList T ov ln dv kv mv) w (w2.setCell ⟨fb, 7, none⟩ (.slice (some ⟨g, 0, none⟩) (s.line.length + 1) cap)) := by
  have hb : Below w.heap.size w (w.alloc o) := (Below.refl _ _).alloc (Nat.le_refl _) o
  have hs1 : (w.alloc o).heap.size = w.heap.size + 1 := by simp
  have h1 := h.later hb
  have hnd := h.nodup
  rw [ownList_line] at hnd
  have hap := nodup_apart hnd
  have hlt := h.lt
  have hgl : rowBlock ln = [g] ∨ ∀ k ∈ fb :: ownList T ov ln dv kv mv, k ≠ g := by
    rcases hat with e | e
    · left; simp [rowBlock, e]
    · right; intro k hk e2; have := hlt k hk; omega
  have hgf : g ≠ fb := by
    rcases hat with e | e
    · intro e2; exact hap fb (by simp) (mem_rowBlock.2 (by rw [e, e2]))
    · intro e2; have := hlt fb (by simp); omega
  have hgk : ∀ k ∈ (T ++ rowBlock ov) ++ (rowBlock kv ++ (rowBlock dv ++ rowBlock mv)), (w2.setCell ⟨fb, 7, none⟩ (.slice (some ⟨g, 0, none⟩) (s.line.length + 1) cap)).heap[k]? = (w.alloc o).heap[k]? := by
    intro k hk
    have hkm : k ∈ ownList T ov ln dv kv mv := by
      rw [ownList_line]
      rcases List.mem_append.1 hk with hk | hk
      · exact List.mem_append_left _ hk
      · exact List.mem_append_right _ (List.mem_append_right _ hk)
    have hkf : k ≠ fb := fun e => h.fb_notin (e ▸ hkm)
    rw [Below.heap_setCell w2 ⟨fb, 7, none⟩ _ k hkf]
    exact hg2.block k (by have := hlt k (by simp [hkm]); omega) (fun e => hap k (List.mem_cons_of_mem _ hk) (mem_rowBlock.2 e.symm))
  have b2 := h1.blk.grown hg2 (fun e => hap fb (by simp) (mem_rowBlock.2 e.symm))
  refine ⟨⟨b2.put 7 _, own_same h1.out fun k hk => hgk k (by simp [hk]), h1.told.same fun k hk => hgk k (by simp [hk]), ?_, own_same h1.data fun k hk => hgk k (by simp [hk]), own_same h1.keys fun k hk => hgk k (by simp [hk]),
    own_same h1.metas fun k hk => hgk k (by simp [hk]), ?_, ?_, h.bare⟩, ?_, ?_⟩
  · have e1 : (s.line ++ [b]).length = s.line.length + 1 := by simp
    have e2 : bytesV (s.line ++ [b]) = bytesV s.line ++ [.int .u8 b.toNat] := by rw [bytesV_append]; rfl
    show (w2.setCell _ _).ownsRow 0 _ 1 _ (s.line ++ [b]).length (bytesV (s.line ++ [b]))
    rw [e1, e2]
    exact own_same hown2 fun k hk => Below.heap_setCell w2 ⟨fb, 7, none⟩ _ k (by rw [rowBlock_some] at hk; simp at hk; subst hk; exact hgf)
  · rw [ownList_line, rowBlock_some]
    exact nodup_insert hnd (by rw [← ownList_line]; exact hgl)
  · intro k hk
    rw [ownList_line, rowBlock_some] at hk
    rcases List.mem_cons.1 hk with rfl | hk
    · exact h.low _ (by simp)
    · rcases List.mem_append.1 hk with hk | hk
      · exact h.low k (List.mem_cons_of_mem _ (by rw [ownList_line]; exact List.mem_append_left _ hk))
      · rcases List.mem_append.1 hk with hk | hk
        · simp at hk; subst hk
          rcases hat with e | e
          · exact h.low k (by rw [ownList_line]; simp [mem_rowBlock, e])
          · omega
        · exact h.low k (List.mem_cons_of_mem _ (by rw [ownList_line]; exact List.mem_append_right _ (List.mem_append_right _ hk)))
  · intro k hk
    rw [ownList_line, rowBlock_some] at hk
    rcases List.mem_append.1 hk with hk | hk
    · left; rw [ownList_line]; exact List.mem_append_left _ hk
    · rcases List.mem_append.1 hk with hk | hk
      · simp at hk; subst hk
        rcases hat with e | e
        · left; rw [ownList_line]; simp [mem_rowBlock, e]
        · right; omega
      · left; rw [ownList_line]; exact List.mem_append_right _ (List.mem_append_right _ hk)
  · have o1 : OnlyIn (fb :: ownList T ov ln dv kv mv) w (w.alloc o) := OnlyIn.of hb _
    exact (o1.trans (OnlyIn.grown hg2) (fun k hk => .inl (by rw [ownList_line]; simp [hk]))).setCell (.inl (by simp)) 7 _

theorem FeedAt.moreData (h : FeedAt w fb lim s ov ln dv kv mv tc T) {o : Obj} {b : UInt8} {g cap : Nat} (hg2 : (w.alloc o).grownBy w2 dv.ownBlock)
    (hown2 : w2.ownsRow 0 5 1 (.slice (some ⟨g, 0, none⟩) (s.data.length + 1) cap) (s.data.length + 1) (bytesV s.data ++ [.int .u8 b.toNat])) (hat : dv.ownBlock = some g ∨ g = (w.alloc o).heap.size) (hsz : 8 ≤ w.heap.size) :
    FeedAt (w2.setCell ⟨fb, 25, none⟩ (.slice (some ⟨g, 0, none⟩) (s.data.length + 1) cap)) fb lim { s with data := s.data ++ [b] } ov ln (.slice (some ⟨g, 0, none⟩) (s.data.length + 1) cap) kv mv tc T ∧
      (∀ k ∈ ownList T ov ln (.slice (some ⟨g, 0, none⟩) (s.data.length + 1) cap) kv mv, k ∈ ownList T ov ln dv kv mv ∨ w.heap.size ≤ k) ∧
      OnlyIn (fb :: ownList T ov ln dv kv mv) w (w2.setCell ⟨fb, 25, none⟩ (.slice (some ⟨g, 0, none⟩) (s.data.length + 1) cap)) := by
  have hb : Below w.heap.size w (w.alloc o) := (Below.refl _ _).alloc (Nat.le_refl _) o
  have hs1 : (w.alloc o).heap.size = w.heap.size + 1 := by simp
  have h1 := h.later hb
  have hnd := h.nodup
  rw [ownList_data] at hnd
  have hap := nodup_apart hnd
  have hlt := h.lt
  have hgl : rowBlock dv = [g] ∨ ∀ k ∈ fb :: ownList T ov ln dv kv mv, k ≠ g := by
    rcases hat with e | e
    · left; simp [rowBlock, e]
    · right; intro k hk e2; have := hlt k hk; omega
  have hgf : g ≠ fb := by
    rcases hat with e | e
    · intro e2; exact hap fb (by simp) (mem_rowBlock.2 (by rw [e, e2]))
    · intro e2; have := hlt fb (by simp); omega
  have hgk : ∀ k ∈ (T ++ (rowBlock ov ++ (rowBlock ln ++ rowBlock kv))) ++ rowBlock mv, (w2.setCell ⟨fb, 25, none⟩ (.slice (some ⟨g, 0, none⟩) (s.data.length + 1) cap)).heap[k]? = (w.alloc o).heap[k]? := by
    intro k hk
    have hkm : k ∈ ownList T ov ln dv kv mv := by
      rw [ownList_data]
      rcases List.mem_append.1 hk with hk | hk
      · exact List.mem_append_left _ hk
      · exact List.mem_append_right _ (List.mem_append_right _ hk)
    have hkf : k ≠ fb := fun e => h.fb_notin (e ▸ hkm)
    rw [Below.heap_setCell w2 ⟨fb, 25, none⟩ _ k hkf]
    exact hg2.block k (by have := hlt k (by simp [hkm]); omega) (fun e => hap k (List.mem_cons_of_mem _ hk) (mem_rowBlock.2 e.symm))
  have b2 := h1.blk.grown hg2 (fun e => hap fb (by simp) (mem_rowBlock.2 e.symm))
  refine ⟨⟨b2.put 25 _, own_same h1.out fun k hk => hgk k (by simp [hk]), h1.told.same fun k hk => hgk k (by simp [hk]), own_same h1.line fun k hk => hgk k (by simp [hk]), ?_, own_same h1.keys fun k hk => hgk k (by simp [hk]),
    own_same h1.metas fun k hk => hgk k (by simp [hk]), ?_, ?_, h.bare⟩, ?_, ?_⟩
  · have e1 : (s.data ++ [b]).length = s.data.length + 1 := by simp
    have e2 : bytesV (s.data ++ [b]) = bytesV s.data ++ [.int .u8 b.toNat] := by rw [bytesV_append]; rfl
    show (w2.setCell _ _).ownsRow 0 _ 1 _ (s.data ++ [b]).length (bytesV (s.data ++ [b]))
    rw [e1, e2]
    exact own_same hown2 fun k hk => Below.heap_setCell w2 ⟨fb, 25, none⟩ _ k (by rw [rowBlock_some] at hk; simp at hk; subst hk; exact hgf)
  · rw [ownList_data, rowBlock_some]
    exact nodup_insert hnd (by rw [← ownList_data]; exact hgl)
  · intro k hk
    rw [ownList_data, rowBlock_some] at hk
    rcases List.mem_cons.1 hk with rfl | hk
    · exact h.low _ (by simp)
    · rcases List.mem_append.1 hk with hk | hk
      · exact h.low k (List.mem_cons_of_mem _ (by rw [ownList_data]; exact List.mem_append_left _ hk))
      · rcases List.mem_append.1 hk with hk | hk
        · simp at hk; subst hk
          rcases hat with e | e
          · exact h.low k (by rw [ownList_data]; simp [mem_rowBlock, e])
          · omega
        · exact h.low k (List.mem_cons_of_mem _ (by rw [ownList_data]; exact List.mem_append_right _ (List.mem_append_right _ hk)))
  · intro k hk
    rw [ownList_data, rowBlock_some] at hk
    rcases List.mem_append.1 hk with hk | hk
    · left; rw [ownList_data]; exact List.mem_append_left _ hk
    · rcases List.mem_append.1 hk with hk | hk
      · simp at hk; subst hk
        rcases hat with e | e
        · left; rw [ownList_data]; simp [mem_rowBlock, e]
        · right; omega
      · left; rw [ownList_data]; exact List.mem_append_right _ (List.mem_append_right _ hk)
  · have o1 : OnlyIn (fb :: ownList T ov ln dv kv mv) w (w.alloc o) := OnlyIn.of hb _
    exact (o1.trans (OnlyIn.grown hg2) (fun k hk => .inl (by rw [ownList_data]; simp [hk]))).setCell (.inl (by simp)) 25 _
end
end Go.Proofs.YtbiakncngmgbkaaGreatDoor
