/- Walks of package words: name of a number that is no verb's; Bytes of what it refuses at once. -/
import Derived.Test.YticigfpieeoolaaGreatDoorY5
namespace Go.Proofs.YticigfpieeoolaaGreatDoor
attribute [local go_sem ↓] Go.wp_at_zero Go.wp_at_succ
open Go.RowKit

/-- one look further, or the end -/
theorem NameMid.step {w wr : World} {b r n0 v : Nat} (h : NameMid w b r n0 v wr) (hr : w.heap.size ≤ r) :
    (∀ ty, (Instr.next (.pointer (some ⟨r, 0, none⟩)) false ty).run Tryz.prog wr = .ok (.tuple #[.bool false]) wr) ∨
    ∃ (i : Nat) (x : Sp.Bs × Sp.RowV) (w5 : World), Sp.tab[i]? = some x ∧ (∀ ty, (Instr.next (.pointer (some ⟨r, 0, none⟩)) false ty).run Tryz.prog wr = .ok (.tuple #[.bool true, str x.1, rowVal x.2]) w5) ∧
      (Instr.entry (.pointer (some ⟨r, 0, none⟩))).run Tryz.prog w5 = .ok (.tuple #[str x.1, rowVal x.2]) w5 ∧
      (x.2.verb ≠ v → ∀ o, NameMid w b r n0 v (w5.alloc o) ∧ (leftOf (ents rowVal 0 Sp.tab).toArray ((w5.alloc o).iterSeen r)).size < (leftOf (ents rowVal 0 Sp.tab).toArray (wr.iterSeen r)).size) := by
  obtain ⟨⟨seen, hit, hno⟩, hmap, hres, hbl⟩ := h
  have hlen : Sp.tab.length = 24 := rfl
  have law := fun ty => run_next_at (P := Tryz.prog) hmap hit ents_old (Nat.le_refl 24) ty
  have hbr : b ≠ r := by
    intro e
    subst e
    unfold HoldsTab at hmap
    rw [hit] at hmap
    cases hmap
  have hnr : n0 ≠ r := by
    intro e
    subst e
    unfold Blk at hres
    rw [hit] at hres
    cases hres
  have hrl : r < wr.heap.size := by
    rcases Nat.lt_or_ge r wr.heap.size with hlt | hge
    · exact hlt
    · rw [Array.getElem?_eq_none hge] at hit; cases hit
  by_cases hz : (leftOf (ents rowVal 0 Sp.tab).toArray seen).size = 0
  · left
    intro ty
    rcases law ty with ⟨_, h1⟩ | ⟨e, he, _⟩
    · exact h1
    · exfalso
      rw [Array.eq_empty_of_size_eq_zero hz] at he
      simp at he
  · right
    rcases law 0 with ⟨h0, _⟩ | ⟨e, he, n, hrun⟩
    · exact absurd h0 hz
    · obtain ⟨hes, hnew⟩ := mem_left he
      obtain ⟨i, x, hx, rfl⟩ := ents_mem rowVal Sp.tab 0 e (by simpa using hes)
      have hg : wr.grownBy { wr.drewN n with heap := wr.heap.setIfInBounds r (.mapIter (some b) 24 (seen.push (0 + i)) Sp.tab.length) } (some r) :=
        ⟨rfl, rfl, rfl, by simp, fun k _ hne => by
          simp only [Array.getElem?_setIfInBounds]
          rw [if_neg (by rintro rfl; exact hne rfl)]⟩
      have hit5 : ({ wr.drewN n with heap := wr.heap.setIfInBounds r (.mapIter (some b) 24 (seen.push (0 + i)) Sp.tab.length) } : World).heap[r]? = some (.mapIter (some b) 24 (seen.push (0 + i)) 24) := by simp [hrl, hlen]
      have hrun' : ∀ ty, (Instr.next (.pointer (some ⟨r, 0, none⟩)) false ty).run Tryz.prog wr = .ok (.tuple #[.bool true, str x.1, rowVal x.2]) { wr.drewN n with heap := wr.heap.setIfInBounds r (.mapIter (some b) 24 (seen.push (0 + i)) Sp.tab.length) } := fun _ => hrun
      generalize ({ wr.drewN n with heap := wr.heap.setIfInBounds r (.mapIter (some b) 24 (seen.push (0 + i)) Sp.tab.length) } : World) = w5 at hg hit5 hrun'
      have hmap5 : HoldsTab w5 b rowVal Sp.tab := hmap.same (hg.block b hmap.lt (by simpa using hbr))
      have hres5 := hres.grown hg (by simpa using hnr)
      have hbl5 : Below w.heap.size w w5 := hbl.grown hg hbl.size (fun k hk => by injection hk with hk; omega)
      refine ⟨i, x, w5, hx, hrun', run_entry_at hmap5 hit5 hes ents_nodup, fun hv o => ⟨⟨⟨seen.push (0 + i), (Below.heap_alloc w5 o r (Nat.lt_of_lt_of_le hrl hg.size)).trans hit5, fun j y hj hc => ?_⟩, hmap5.same (Below.heap_alloc w5 o b hmap5.lt), hres5.alloc o, hbl5.alloc hbl5.size o⟩, ?_⟩⟩
      · rw [contains_push] at hc
        rcases Bool.or_eq_true _ _ ▸ hc with h3 | h3
        · exact hno j y hj h3
        · have h4 := beq_iff_eq.1 h3
          have : j = i := by omega
          subst this
          rw [hx] at hj
          injection hj with hj
          rw [← hj]
          exact hv
      · have s1 : (w5.alloc o).iterSeen r = seen.push (0 + i) := by
          unfold World.iterSeen
          rw [(Below.heap_alloc w5 o r (Nat.lt_of_lt_of_le hrl hg.size)).trans hit5]
        have s2 : wr.iterSeen r = seen := by
          unfold World.iterSeen
          rw [hit]
        rw [s1, s2]
        generalize (ents rowVal 0 Sp.tab).toArray = ES at he ⊢
        exact left_shrinks ES seen _ he

theorem tab_verbs : ∀ x ∈ Sp.tab, 1 ≤ x.2.verb ∧ x.2.verb ≤ 24 := fun x hx => ⟨(tab_by x hx).2.2.1, (tab_by x hx).2.2.2⟩

set_option maxHeartbeats 4000000 in
set_option maxRecDepth 100000 in
theorem name_no (v : Int) (hv : v < 1 ∨ 24 < v) (w : World) :
    Calls Tryz.prog 68 #[.int .i64 v] w fun e w' => e = .returned (.tuple #[str [], rowVal { verb := 0 }, .bool false]) ∧ Below w.heap.size w w' := by
  generalize hR : (fun (e : Ending) (w' : World) => e = .returned (.tuple #[str [], rowVal { verb := 0 }, .bool false]) ∧ Below w.heap.size w w') = R
  have HR := Lib.hid hR
  have HV := Lib.hid hv
  clear hR hv
  have hrg := fun (W : World) (b : Nat) (hb : HoldsTab W b rowVal Sp.tab) => (run_range_map (P := Tryz.prog) W 138 9 118 b (ents rowVal 0 Sp.tab).toArray Sp.tab.length Tryz.underlying138 hb : _ = Result.ok _ (W.alloc (.mapIter (some b) 24 #[] 24)))
  have HRG := Lib.hid hrg
  clear hrg
  go_enter Tryz.func68, Tryz.ntmps68
  go_wp2_with (go_at_call 84; refine (rows_any _).mono ?_; rintro e w2 ⟨b, rfl, htab, hbb, hb2⟩; have hr2 := HRG.out w2 b htab; have HTAB := Lib.hid htab; have HB2 := Lib.hid hb2; clear htab hb2)
  have hsz : w.heap.size + 1 ≤ w2.heap.size := by have := HB2.out.size; simpa using this
  have hst := NameMid.start (w := w) (v := 25) HTAB.out ((Blk.new w 118 #[.int .i64 0, str [], .int .i64 0, .bool false, .bool false, .bool false]).later HB2.out) (((Below.refl w.heap.size w).alloc (Nat.le_refl _) _).trans (HB2.out.mono (by simp)))
  have HST := Lib.hid hst
  clear hr2 hst
  go_loopw [] (fun wr => NameMid w b w2.heap.size w.heap.size 25 wr) (fun wr => (leftOf (ents rowVal 0 Sp.tab).toArray (wr.iterSeen w2.heap.size)).size)
  case atStart => exact HST.out
  case round =>
    have hres := hrel.res
    have hbl := hrel.below
    rcases NameMid.step hrel (by omega) with hend | ⟨i, x, w5, hx, hnx, hen, hon⟩
    · have hlt := hres.lt
      have HBL := Lib.hid hbl
      have HRES := Lib.hid hres
      have z0 : _ = some (Value.int .i64 0) := hres.cell 0
      have z1 : _ = some (str []) := hres.cell 1
      have z2 : _ = some (Value.int .i64 0) := hres.cell 2
      have z3 : _ = some (Value.bool false) := hres.cell 3
      have z4 : _ = some (Value.bool false) := hres.cell 4
      have z5 : _ = some (Value.bool false) := hres.cell 5
      have f0 := hres.frozen 0
      have f1 := hres.frozen 1
      have f2 := hres.frozen 2
      have f3 := hres.frozen 3
      have f4 := hres.frozen 4
      have f5 := hres.frozen 5
      clear hrel hbl hres
      go_wp2_with fail
      have hb6 := (((((HRES.out.put 0 (.int .i64 0)).put 1 (str [])).put 2 (.int .i64 0)).put 3 (.bool false)).put 4 (.bool false)).put 5 (.bool false)
      have hbe := (((((HBL.out.setCell (p := ⟨w.heap.size, 0, none⟩) (Nat.le_refl _) (.int .i64 0)).setCell (p := ⟨w.heap.size, 1, none⟩) (Nat.le_refl _) (str [])).setCell (p := ⟨w.heap.size, 2, none⟩) (Nat.le_refl _) (.int .i64 0)).setCell (p := ⟨w.heap.size, 3, none⟩) (Nat.le_refl _) (.bool false)).setCell (p := ⟨w.heap.size, 4, none⟩) (Nat.le_refl _) (.bool false)).setCell (p := ⟨w.heap.size, 5, none⟩) (Nat.le_refl _) (.bool false)
      refine bodyPost_ret (name_results (k := []) (r := { verb := 0 }) (b := false) hb6 _ rfl rfl rfl) rfl ?_
      rw [← HR.out]
      exact ⟨rfl, hbe⟩
    · have hvs := tab_verbs x (List.mem_of_getElem? hx)
      obtain ⟨k, r⟩ := x
      simp only [rowVal] at hnx hen
      have hq : ((r.verb : Int) == v) = false := by
        rw [beq_eq_false_iff_ne]
        have := HV.out
        dsimp only at hvs
        omega
      have hon' := hon (by dsimp only at hvs ⊢; omega)
      have HON := Lib.hid hon'
      clear hon hon' hrel hx hres hbl hvs
      go_wp2_with fail
      exact ⟨(HON.out _).1, (HON.out _).2⟩

set_option maxHeartbeats 4000000 in
set_option maxRecDepth 100000 in
/-- a verb that is none -/
theorem bytes_no {w : World} {v : Int} (hv : v < 1 ∨ 24 < v) {c : Sp.CmdV} {K D M : Option Addr} {kn kc dn dc mn mc : Nat} :
    Calls Tryz.prog 31 #[.agg #[.int .i64 v, .slice K kn kc, .int .u64 c.flags, .int .i64 c.exptime, .int .u64 c.token, .int .u64 c.delta, .slice D dn dc, .bool c.noreply, .bool c.large, .slice M mn mc, str c.what]] w fun e w' => e = .returned (.tuple #[nilRow, .int .i64 7]) ∧ Below w.heap.size w w' := by
  generalize hR : (fun (e : Ending) (w' : World) => e = .returned (.tuple #[nilRow, .int .i64 7]) ∧ Below w.heap.size w w') = R
  have hb0 : Below w.heap.size w (w.alloc (.cells #[.int .i64 v, .slice K kn kc, .int .u64 c.flags, .int .i64 c.exptime, .int .u64 c.token, .int .u64 c.delta, .slice D dn dc, .bool c.noreply, .bool c.large, .slice M mn mc, str c.what] 41)) := (Below.refl _ _).alloc (Nat.le_refl _) _
  have hn := name_no v hv (w.alloc (.cells #[.int .i64 v, .slice K kn kc, .int .u64 c.flags, .int .i64 c.exptime, .int .u64 c.token, .int .u64 c.delta, .slice D dn dc, .bool c.noreply, .bool c.large, .slice M mn mc, str c.what] 41))
  simp only [rowVal] at hn
  have HR := Lib.hid hR
  have HB0 := Lib.hid hb0
  have HN := Lib.hid hn
  clear hR hb0 hn hv
  go_enter Tryz.func31, Tryz.ntmps31
  go_wp2_with (refine HN.out.mono ?_; rintro e w1 ⟨rfl, hb1⟩; have HB1 := Lib.hid hb1; clear hb1)
  rw [← HR.out]
  exact ⟨rfl, (HB0.out.trans (HB1.out.mono HB0.out.size)).alloc (HB0.out.trans (HB1.out.mono HB0.out.size)).size _⟩

set_option maxHeartbeats 4000000 in
set_option maxRecDepth 100000 in
/-- Large -/
theorem bytes_large {w : World} {c : Sp.CmdV} (h1 : 1 ≤ c.verb) (h2 : c.verb ≤ 24) (hl : c.large = true) {K D M : Option Addr} {kn kc dn dc mn mc : Nat} :
    Calls Tryz.prog 31 #[cmdV c (.slice K kn kc) (.slice D dn dc) (.slice M mn mc)] w fun e w' => e = .returned (.tuple #[nilRow, .int .i64 7]) ∧ Below w.heap.size w w' := by
  generalize hR : (fun (e : Ending) (w' : World) => e = .returned (.tuple #[nilRow, .int .i64 7]) ∧ Below w.heap.size w w') = R
  have hb0 : Below w.heap.size w (w.alloc (.cells (cmdArr c (.slice K kn kc) (.slice D dn dc) (.slice M mn mc)) 41)) := (Below.refl _ _).alloc (Nat.le_refl _) _
  have hbl := Blk.new w 41 (cmdArr c (.slice K kn kc) (.slice D dn dc) (.slice M mn mc))
  have hn := name_yes c.verb h1 h2 (w.alloc (.cells (cmdArr c (.slice K kn kc) (.slice D dn dc) (.slice M mn mc)) 41))
  simp only [rowVal] at hn
  have HR := Lib.hid hR
  have HB0 := Lib.hid hb0
  have HN := Lib.hid hn
  have HL := Lib.hid hl
  have HBL := Lib.hid hbl
  clear hR hb0 hn hl hbl h1 h2
  go_enter Tryz.func31, Tryz.ntmps31
  go_wp2_with (refine HN.out.mono ?_; rintro e w1 ⟨rfl, hb1⟩; have hlt1 : w.heap.size < w1.heap.size := (HBL.out.later hb1).lt; have x8 : _ = some (Value.bool c.large) := (HBL.out.later hb1).cell 8; rw [HL.out] at x8; have HB1 := Lib.hid hb1; clear hb1)
  rw [← HR.out]
  exact ⟨rfl, (HB0.out.trans (HB1.out.mono HB0.out.size)).alloc (HB0.out.trans (HB1.out.mono HB0.out.size)).size _⟩
end Go.Proofs.YticigfpieeoolaaGreatDoor
