/- Walks of package line: what is done with a byte; Feed. -/
import Derived.Test.YtbiakncngmgbkaaGreatDoorFA
import Derived.Test.YtbiakncngmgbkaaGreatDoorFB
import Derived.Test.YtbiakncngmgbkaaGreatDoorF6
import Derived.Test.YtbiakncngmgbkaaGreatDoorF8
namespace Go.Proofs.YtbiakncngmgbkaaGreatDoor
attribute [local go_sem ↓] Go.wp_at_zero Go.wp_at_succ
open Go.RowKit

section
variable {w : World} {fb lim : Nat} {s : Sp.FeedV} {ov ln dv kv mv : Value} {tc : List Value} {T : List Nat}

set_option maxHeartbeats 1000000 in
theorem inLine_end (h : FeedAt w fb lim s ov ln dv kv mv tc T) (hgl : Glob w) {N : Nat} (hN : s.Fits N) (hN2 : N + 1 ≤ 1000000000) :
    Calls Tryz.prog 28 #[.pointer (some ⟨fb, 0, none⟩), .int .u8 10] w (NextPost w fb lim (s.inLine lim 10) (ownList T ov ln dv kv mv)) := by
  have hs : s.inLine lim 10 = s.lineEnds lim := by unfold Sp.FeedV.inLine; rw [if_pos rfl]
  rw [hs]
  have hcall : Calls Tryz.prog 51 #[.pointer (some ⟨fb, 0, none⟩)] w (NextPost w fb lim (s.lineEnds lim) (ownList T ov ln dv kv mv)) := by
    cases hl : s.long with
    | true => exact lineEnds_long h hgl hN hN2 hl
    | false => exact lineEnds_short h hgl hN hN2 hl
  have hcall2 := hcall.mono (fun e w' hp => And.intro hp.1 hp)
  generalize NextPost w fb lim (s.lineEnds lim) (ownList T ov ln dv kv mv) = R at hcall2 ⊢
  have HC := Lib.hid hcall2
  clear hcall2 hcall hs h hgl hN
  go_enter Tryz.func28, Tryz.ntmps28
  go_wp2_with (refine HC.out.mono ?_; rintro e w8 ⟨rfl, hR8⟩)
  go_end0
  exact hR8

/-- the state's function, by the state -/
theorem next_any (h : FeedAt w fb lim s ov ln dv kv mv tc T) (hgl : Glob w) {N : Nat} (hN : s.Fits N) (hN2 : N + 1 ≤ 1000000000) (b : UInt8) :
    ∃ fn : FuncId, modeFn fb s.mode = .func (.func fn) #[.pointer (some ⟨fb, 0, none⟩)] #[] ∧ (fn = 28 ∨ fn = 94 ∨ fn = 79 ∨ fn = 93) ∧ Calls Tryz.prog fn #[.pointer (some ⟨fb, 0, none⟩), .int .u8 b.toNat] w (NextPost w fb lim (s.next lim b) (ownList T ov ln dv kv mv)) := by
  have hg := hgl.size
  unfold Sp.FeedV.next
  cases hm : s.mode with
  | inLine =>
    refine ⟨_, rfl, .inl rfl, ?_⟩
    by_cases hb : b = 10
    · subst hb; exact inLine_end h hgl hN hN2
    · exact inLine_on h hN hN2 hg b hb
  | passing => exact ⟨_, rfl, .inr (.inl rfl), passing_any h hN hN2 hg b⟩
  | inBlock =>
    refine ⟨_, rfl, .inr (.inr (.inl rfl)), ?_⟩
    by_cases hc : s.got + 1 ≤ s.need
    · exact inBlock_data h hN hN2 hg b hc
    · by_cases hb : b = 10
      · subst hb; exact inBlock_end h hN hN2 hg hc
      · exact inBlock_more h hN hN2 b hc hb
  | over => exact ⟨_, rfl, .inr (.inr (.inr rfl)), over_any h b⟩

theorem fits_bytes {lim : Nat} : ∀ (l : Sp.Bs) {s : Sp.FeedV} {N : Nat}, s.Fits N → (s.bytes lim l).Fits (N + 3 * l.length)
  | [], _, _, h => h
  | b :: l, s, N, h => by
    have := fits_bytes (lim := lim) l (fits_byte (lim := lim) h b)
    have e : N + 3 + 3 * l.length = N + 3 * (b :: l).length := by simp; omega
    rw [e] at this
    exact this

theorem bytes_take_succ (lim : Nat) (s : Sp.FeedV) {l : Sp.Bs} {k : Nat} {b : UInt8} (h : l[k]? = some b) : s.bytes lim (l.take (k + 1)) = (s.bytes lim (l.take k)).byte lim b := by
  unfold Sp.FeedV.bytes
  rw [List.take_add_one, h, List.foldl_append]
  rfl

theorem Glob.onlyIn {w w' : World} (h : Glob w) {L : List Nat} (ho : OnlyIn L w w') (hL : ∀ k ∈ L, 8 ≤ k) : Glob w' :=
  h.keep (fun k hk => ho.block k (by have := h.size; omega) (fun hm => by have := hL k hm; omega)) ho.size

/-- a row that the Feeder does not own stays -/
theorem RowAt.onlyIn {w w' : World} {A : Option Addr} {xs : List Value} (h : RowAt w A xs) {L : List Nat} (ho : OnlyIn L w w') (hA : ∀ a, A = some a → a.block ∉ L) : RowAt w' A xs := by
  rcases h with h | ⟨b, o, h1, h2, h3⟩
  · exact .inl h
  · exact .inr ⟨b, o, h1, Nat.lt_of_lt_of_le h2 ho.size, fun j u hu => (World.cell?_of_block (ho.block b h2 (hA _ h1))).trans (h3 j u hu)⟩

/-- in the middle of a chunk -/
structure FeedLoop (w : World) (fb lim : Nat) (s : Sp.FeedV) (l : Sp.Bs) (O : List Nat) (k : Nat) (wr : World) : Prop where
  feed : ∃ ov ln dv kv mv tc T, FeedAt wr fb lim (s.bytes lim (l.take k)) ov ln dv kv mv tc T ∧ ∀ x ∈ ownList T ov ln dv kv mv, x ∈ O ∨ w.heap.size ≤ x
  only : OnlyIn (fb :: O) w wr

/-- how Feed leaves the Feeder, and what it hands out -/
def FeedPost (w : World) (fb lim : Nat) (s : Sp.FeedV) (l : Sp.Bs) (O : List Nat) (e : Ending) (w' : World) : Prop :=
  ∃ ov ln dv kv mv tc T, e = .returned ov ∧ FeedAt w' fb lim (s.feed lim l) nilRow ln dv kv mv [] [] ∧ w'.ownsRow 0 61 16 ov (s.told lim l).length tc ∧ StepsMem w' (s.told lim l) tc T ∧
    (fb :: ownList T ov ln dv kv mv).Nodup ∧ (∀ k ∈ ownList T ov ln dv kv mv, (k ∈ O ∨ w.heap.size ≤ k) ∧ 8 ≤ k ∧ k < w'.heap.size) ∧ OnlyIn (fb :: O) w w'

theorem FeedAt.handOut (h : FeedAt w fb lim s ov ln dv kv mv tc T) : FeedAt (w.setCell ⟨fb, 2, none⟩ nilRow) fb lim { s with out := [] } nilRow ln dv kv mv [] [] ∧
    (w.setCell ⟨fb, 2, none⟩ nilRow).ownsRow 0 61 16 ov s.out.length tc ∧ StepsMem (w.setCell ⟨fb, 2, none⟩ nilRow) s.out tc T := by
  have hs : ∀ k ∈ ownList T ov ln dv kv mv, (w.setCell ⟨fb, 2, none⟩ nilRow).heap[k]? = w.heap[k]? := fun k hk =>
    Below.heap_setCell w ⟨fb, 2, none⟩ nilRow k (fun e => h.fb_notin (by simpa [e] using hk))
  have hsub : (ownList [] nilRow ln dv kv mv).Sublist (ownList T ov ln dv kv mv) := by
    unfold ownList
    rw [rowBlock_nil, List.nil_append, List.nil_append]
    exact (List.sublist_append_right _ _).trans (List.sublist_append_right _ _)
  refine ⟨⟨h.blk.put 2 nilRow, World.ownsRow_nil _ 0 _ 16, ⟨rfl, rfl⟩, own_same h.line ?_, own_same h.data ?_, own_same h.keys ?_, own_same h.metas ?_, ownList_nodup h.nodup hsub, fun k hk => h.low k ((hsub.cons_cons fb).subset hk), h.bare⟩, own_same h.out ?_, h.told.same ?_⟩ <;> (intro k hk; exact hs k (by simp [ownList, hk]))

set_option maxHeartbeats 8000000 in
set_option maxRecDepth 100000 in
theorem feed_any (h : FeedAt w fb lim s ov ln dv kv mv tc T) (hgl : Glob w) {N : Nat} (hN : s.Fits N) {A : Option Addr} {cap : Nat} {l : Sp.Bs} (hN2 : N + 3 * l.length + 3 ≤ 1000000000)
    (hrow : RowAt w A (bytesV l)) (hA : ∀ a, A = some a → a.block ∉ fb :: ownList T ov ln dv kv mv) :
    Calls Tryz.prog 12 #[.pointer (some ⟨fb, 0, none⟩), .slice A l.length cap] w (FeedPost w fb lim s l (ownList T ov ln dv kv mv)) := by
  have hlow := h.low
  have hstart : FeedLoop w fb lim s l (ownList T ov ln dv kv mv) 0 w := ⟨⟨ov, ln, dv, kv, mv, tc, T, by simpa [Sp.FeedV.bytes] using h, fun x hx => .inl hx⟩, OnlyIn.refl _ _⟩
  generalize ownList T ov ln dv kv mv = O at hlow hstart hA ⊢
  generalize hR : FeedPost w fb lim s l O = R
  have HS := Lib.hid hstart
  have HLOW := Lib.hid hlow
  have HGL := Lib.hid hgl
  have HN := Lib.hid hN
  have HROW := Lib.hid hrow
  have HA := Lib.hid hA
  have HR := Lib.hid hR
  clear h hstart hlow hgl hN hrow hA hR
  go_enter Tryz.func12, Tryz.ntmps12
  go_wp2_with fail
  go_loopw [10] (fun i wr => ∃ k : Nat, k ≤ l.length ∧ i = .int .i64 k ∧ FeedLoop w fb lim s l O k wr) (fun i _ => l.length - (intOf i).toNat)
  case atStart => exact ⟨0, by omega, rfl, HS.out⟩
  case round =>
    obtain ⟨k, hk, rfl, hloop⟩ := hrel
    obtain ⟨⟨ov1, ln1, dv1, kv1, mv1, tc1, T1, hf, hown⟩, ho⟩ := hloop
    have hglr := HGL.out.onlyIn ho HLOW.out
    have hNst := fits_bytes (lim := lim) (l.take k) HN.out
    have hkl : (l.take k).length ≤ l.length := by rw [List.length_take]; omega
    by_cases hlt : k < l.length
    · obtain ⟨b, hb⟩ : ∃ b, l[k]? = some b := ⟨l[k], by simp [hlt]⟩
      have hrowr := HROW.out.onlyIn ho HA.out
      obtain ⟨g, o, hAe, hcell⟩ : ∃ g o, A = some ⟨g, o, none⟩ ∧ wr.cell? ⟨g, o + k, none⟩ = some (.int .u8 b.toNat) := by
        rcases hrowr with h0 | ⟨g, o, h1, h2, h3⟩
        · have : l = [] := by simpa [bytesV] using h0
          rw [this] at hlt; simp at hlt
        · exact ⟨g, o, h1, h3 _ _ (by simp [bytesV, hb])⟩
      subst hAe
      have hnext := bytes_take_succ lim s hb
      obtain ⟨st, hst⟩ : ∃ st, st = s.bytes lim (l.take k) := ⟨_, rfl⟩
      rw [← hst] at hf hNst hnext
      have h1 := hf.put (s' := { st with taken := st.taken + 1 }) 3 (.int .i64 ((st.taken : Int) + 1)) (by kernel_rfl) rfl rfl rfl rfl rfl rfl
      have ho1 := ho.setCell (g := fb) (.inl (by simp)) 3 (.int .i64 ((st.taken : Int) + 1))
      obtain ⟨fn, hfn, hfs, hcall⟩ := next_any h1 (HGL.out.onlyIn ho1 HLOW.out) (fits_count hNst) (by omega) b
      have hcall2 := hcall.mono (R' := fun e w' => e = .returned (.tuple #[]) ∧ FeedLoop w fb lim s l O (k + 1) w') (fun e w' hp => by
        obtain ⟨he, ov', ln', dv', kv', mv', tc', T', p1, p2, p3⟩ := hp
        refine ⟨he, ⟨ov', ln', dv', kv', mv', tc', T', ?_, fun x hx => ?_⟩, ho1.trans p3 (fun x hx => ?_)⟩
        · rw [hnext]; exact p1
        · rcases p2 x hx with h | h
          · exact hown x h
          · right; have := ho1.size; omega
        · rcases List.mem_cons.1 hx with rfl | hx
          · left; simp
          · rcases hown x hx with h | h
            · left; simp [h]
            · exact .inr h)
      have htk : st.taken ≤ 1000000000 := by have := hNst.taken; omega
      have y1 : _ = some (modeFn fb st.mode) := hf.blk.cell 1
      have y3 : _ = some (Value.int .i64 st.taken) := hf.blk.cell 3
      have g3 := hf.blk.frozen 3
      change modeFn fb st.mode = _ at hfn
      rw [hfn] at y1
      have HC := Lib.hid hcall2
      clear hcall2 hcall h1 ho1 hf hown ho hglr hNst hnext hst hrowr hfn hb hkl
      rcases hfs with rfl | rfl | rfl | rfl
      all_goals
        go_wp2_with (refine HC.out.mono ?_; rintro e w9 ⟨rfl, hfl⟩)
        exact ⟨⟨k + 1, by omega, by go_num, hfl⟩, by show l.length - ((k : Int) + 1).toNat < l.length - (k : Int).toNat; omega⟩
    · obtain rfl : k = l.length := by omega
      rw [List.take_length] at hf
      have hh := hf.handOut
      have hnd := hf.nodup
      have hlw := hf.low
      have hltt := hf.lt
      have y2 : _ = some ov1 := hf.blk.cell 2
      have g2 := hf.blk.frozen 2
      have hfin : R (.returned ov1) (wr.setCell ⟨fb, 2, none⟩ nilRow) := by
        rw [← HR.out]
        exact ⟨ov1, ln1, dv1, kv1, mv1, tc1, T1, rfl, hh.1, hh.2.1, hh.2.2, hnd, fun x hx => ⟨hown x hx, hlw x (List.mem_cons_of_mem _ hx), by have := hltt x (List.mem_cons_of_mem _ hx); simpa [World.setCell] using this⟩, ho.setCell (.inl (by simp)) 2 _⟩
      have HF := Lib.hid hfin
      clear hfin hh hnd hlw hltt hf hown ho hglr hNst hkl
      go_wp2_with fail
      exact HF.out
end
end Go.Proofs.YtbiakncngmgbkaaGreatDoor
