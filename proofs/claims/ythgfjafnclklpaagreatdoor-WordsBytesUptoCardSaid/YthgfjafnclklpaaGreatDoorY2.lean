/- Walks of package words: name, a look through the rows in whatever order. -/
import Derived.Test.YthgfjafnclklpaaGreatDoorG1
import Derived.Test.YthgfjafnclklpaaGreatDoorW2
import Derived.Test.YthgfjafnclklpaaGreatDoorR0
import Derived.Laws.IdiomRangeMap
import Derived.RegionTactic
namespace Go.Proofs.YthgfjafnclklpaaGreatDoor
open Go.RowKit

/-- a step of an iterator that lies anywhere, over a map that is not written -/
theorem run_next_at {P : Program} {w : World} {bm r since c0 clock : Nat} {seen : Array Nat} {es : Array MapEntry} (hb : w.heap[bm]? = some (.map es clock)) (hr : w.heap[r]? = some (.mapIter (some bm) since seen c0))
    (hold : ∀ x ∈ es.toList, x.born < since) (hsc : since ≤ c0) (ty : TypeId) :
    ((leftOf es seen).size = 0 ∧ (Instr.next (.pointer (some ⟨r, 0, none⟩)) false ty).run P w = .ok (.tuple #[.bool false]) w) ∨
    ∃ e ∈ (leftOf es seen).toList, ∃ n : Nat, (Instr.next (.pointer (some ⟨r, 0, none⟩)) false ty).run P w = .ok (.tuple #[.bool true, e.key, e.val]) { w.drewN n with heap := w.heap.setIfInBounds r (.mapIter (some bm) since (seen.push e.born) clock) } := by
  simp only [Instr.next, getObj, Sem.run_bind, Sem.run, hr, hb, Result.andThen, next_test_false seen es since c0 hold hsc, Bool.false_eq_true, if_false]
  unfold leftOf
  have hmem : ∀ x ∈ (Array.filter (fun e => !seen.contains e.born) es).toList, x.born < since := fun x hx => hold x (by simp at hx ⊢; exact hx.1)
  generalize Array.filter (fun e => !seen.contains e.born) es = L at hmem ⊢
  have e1 : L.filter (fun x => decide (x.born < since)) = L := Array.filter_eq_self.2 (fun x hx => by simpa using hmem x (by simpa using hx))
  have e2 : L.filter (fun x => decide (x.born ≥ since)) = #[] := by
    rw [Array.filter_eq_empty_iff]
    intro x hx
    have := hmem x (by simpa using hx)
    simp
    omega
  simp only [e1, e2, Array.append_empty]
  by_cases h0 : L.size = 0
  · refine .inl ⟨h0, ?_⟩
    obtain rfl : L = #[] := Array.eq_empty_of_size_eq_zero h0
    simp [choose, Sem.run, Question.forced]
  · right
    have hne : L.isEmpty = false := by simp [Array.isEmpty, h0]
    simp only [hne, Bool.false_eq_true, if_false, Array.empty_append, Array.size_map]
    have hch : ∃ (j n : Nat), j < L.size ∧ (choose (Question.mapNext L.size)).run P w = .ok j (w.drewN n) := by
      by_cases hf : L.size ≤ 1
      · exact ⟨0, 0, by omega, by simp [choose, Sem.run, Question.forced, hf, World.drewN_zero]⟩
      · exact ⟨_, 1, Nat.mod_lt _ (by omega), by
          simp only [choose, Sem.run, Question.forced, decide_eq_true_eq, hf, if_false, Question.cut]
          rfl⟩
    obtain ⟨j, n, hj, hrun⟩ := hch
    refine ⟨L[j], by simp, n, ?_⟩
    have hrl : (w.drewN n).heap[r]? = some (.mapIter (some bm) since seen c0) := hr
    simp only [hrun, Array.getElem?_map, Array.getElem?_eq_getElem hj, Option.map_some, Sem.run_bind, Result.andThen, setObj, Sem.run, hrl]
    rfl
/-- the round's key and element, behind that step -/
theorem run_entry_at {P : Program} {w : World} {bm r since clock : Nat} {seen : Array Nat} {es : Array MapEntry} {e : MapEntry} (hb : w.heap[bm]? = some (.map es clock)) (hr : w.heap[r]? = some (.mapIter (some bm) since (seen.push e.born) clock))
    (he : e ∈ es.toList) (hn : (es.toList.map (·.born)).Nodup) : (Instr.entry (.pointer (some ⟨r, 0, none⟩))).run P w = .ok (.tuple #[e.key, e.val]) w := by
  have hf : es.find? (·.born == e.born) = some e := by rw [← Array.find?_toList]; exact find_born e es.toList hn he
  simp only [Instr.entry, getObj, Sem.run_bind, Sem.run, hr, hb, Result.andThen, Array.back?_push, bne_self_eq_false, Bool.false_eq_true, if_false, hf]
  rfl

theorem ents_mem {α : Type} (val : α → Value) : ∀ (l : List (List UInt8 × α)) (n : Nat) (e : MapEntry), e ∈ ents val n l → ∃ i x, l[i]? = some x ∧ e = { key := .string ⟨x.1.toArray⟩, val := val x.2, born := n + i }
  | [], _, _, h => by cases h
  | x :: t, n, e, h => by
    rcases List.mem_cons.1 h with rfl | h
    · exact ⟨0, x, rfl, rfl⟩
    · obtain ⟨i, y, h1, h2⟩ := ents_mem val t (n + 1) e h
      exact ⟨i + 1, y, by simpa using h1, by rw [h2]; congr 1; omega⟩
theorem ents_at {α : Type} (val : α → Value) : ∀ (l : List (List UInt8 × α)) (n i : Nat) (x : List UInt8 × α), l[i]? = some x → { key := .string ⟨x.1.toArray⟩, val := val x.2, born := n + i } ∈ ents val n l
  | [], _, i, x, h => by simp at h
  | y :: t, n, 0, x, h => by
    simp at h
    subst h
    exact List.mem_cons_self
  | y :: t, n, i + 1, x, h => by
    have := ents_at val t (n + 1) i x (by simpa using h)
    rw [show n + 1 + i = n + (i + 1) by omega] at this
    exact List.mem_cons_of_mem _ this
theorem ents_born {α : Type} (val : α → Value) : ∀ (l : List (List UInt8 × α)) (n : Nat), (ents val n l).map (·.born) = List.range' n l.length
  | [], _ => rfl
  | x :: t, n => by
    rw [ents, List.map_cons, ents_born val t (n + 1)]
    rfl

/-- where name's loop stands: of the rows seen so far none is the verb's -/
structure NameMid (w : World) (b r n0 : Nat) (v : Nat) (wr : World) : Prop where
  iter : ∃ seen : Array Nat, wr.heap[r]? = some (.mapIter (some b) 24 seen 24) ∧ ∀ (i : Nat) (x : Sp.Bs × Sp.RowV), Sp.tab[i]? = some x → seen.contains i = true → x.2.verb ≠ v
  map : HoldsTab wr b rowVal Sp.tab
  res : Blk wr n0 90 #[.int .i64 0, str [], .int .i64 0, .bool false, .bool false, .bool false]
  below : Below w.heap.size w wr

theorem ents_old : ∀ x ∈ (ents rowVal 0 Sp.tab).toArray.toList, x.born < 24 := by
  intro x hx
  obtain ⟨i, y, h1, rfl⟩ := ents_mem rowVal Sp.tab 0 x (by simpa using hx)
  have := (List.getElem?_eq_some_iff.1 h1).1
  have e : Sp.tab.length = 24 := rfl
  show 0 + i < 24
  omega
theorem ents_nodup : ((ents rowVal 0 Sp.tab).toArray.toList.map (·.born)).Nodup := by
  rw [show (ents rowVal 0 Sp.tab).toArray.toList = ents rowVal 0 Sp.tab by simp, ents_born]
  exact List.nodup_range'

theorem NameMid.start {w w2 : World} {b n0 v : Nat} (hm : HoldsTab w2 b rowVal Sp.tab) (hr : Blk w2 n0 90 #[.int .i64 0, str [], .int .i64 0, .bool false, .bool false, .bool false]) (hb : Below w.heap.size w w2) :
    NameMid w b w2.heap.size n0 v (w2.alloc (.mapIter (some b) 24 #[] 24)) :=
  ⟨⟨#[], heap_alloc_new w2 _, fun i x _ h => by simp at h⟩, hm.same (Below.heap_alloc w2 _ b hm.lt), hr.alloc _, hb.alloc hb.size _⟩

theorem NameMid.next {w wr : World} {b r n0 v : Nat} (h : NameMid w b r n0 v wr) (hr : w.heap.size ≤ r) (h1 : 1 ≤ v) (h2 : v ≤ 24) :
    ∃ (i : Nat) (x : Sp.Bs × Sp.RowV) (w5 : World), Sp.tab[i]? = some x ∧ (∀ ty, (Instr.next (.pointer (some ⟨r, 0, none⟩)) false ty).run Tryz.prog wr = .ok (.tuple #[.bool true, str x.1, rowVal x.2]) w5) ∧
      (Instr.entry (.pointer (some ⟨r, 0, none⟩))).run Tryz.prog w5 = .ok (.tuple #[str x.1, rowVal x.2]) w5 ∧ Blk w5 n0 90 #[.int .i64 0, str [], .int .i64 0, .bool false, .bool false, .bool false] ∧ Below w.heap.size w w5 ∧
      (x.2.verb ≠ v → ∀ o, NameMid w b r n0 v (w5.alloc o) ∧ (leftOf (ents rowVal 0 Sp.tab).toArray ((w5.alloc o).iterSeen r)).size < (leftOf (ents rowVal 0 Sp.tab).toArray (wr.iterSeen r)).size) := by
  obtain ⟨⟨seen, hit, hno⟩, hmap, hres, hbl⟩ := h
  have hlen : Sp.tab.length = 24 := rfl
  have law := fun ty => run_next_at (P := Tryz.prog) hmap hit ents_old (Nat.le_refl 24) ty
  have hleft : ¬ (leftOf (ents rowVal 0 Sp.tab).toArray seen).size = 0 := by
    intro h0
    have hin := (by_tab ⟨v - 1, by omega⟩)
    simp only [show v - 1 + 1 = v by omega] at hin
    obtain ⟨i, hi⟩ := List.getElem?_of_mem hin.1
    have hm := ents_at rowVal Sp.tab 0 i _ hi
    have : seen.contains i = true := all_seen (ents rowVal 0 Sp.tab).toArray seen h0 _ (by simpa using hm)
    exact hno i _ hi this hin.2
  have hbr : b ≠ r := by
    intro e
    subst e
    unfold HoldsTab at hmap
    rw [hit] at hmap
    cases hmap
  have hnr : n0 ≠ r := by
    intro e
    subst e
    unfold Blk at hres
    rw [hit] at hres
    cases hres
  have hrl : r < wr.heap.size := by
    rcases Nat.lt_or_ge r wr.heap.size with hlt | hge
    · exact hlt
    · rw [Array.getElem?_eq_none hge] at hit; cases hit
  rcases law 0 with ⟨h0, _⟩ | ⟨e, he, n, hrun⟩
  · exact absurd h0 hleft
  · obtain ⟨hes, hnew⟩ := mem_left he
    obtain ⟨i, x, hx, rfl⟩ := ents_mem rowVal Sp.tab 0 e (by simpa using hes)
    have hg : wr.grownBy { wr.drewN n with heap := wr.heap.setIfInBounds r (.mapIter (some b) 24 (seen.push (0 + i)) Sp.tab.length) } (some r) :=
      ⟨rfl, rfl, rfl, by simp, fun k _ hne => by
        simp only [Array.getElem?_setIfInBounds]
        rw [if_neg (by rintro rfl; exact hne rfl)]⟩
    have hit5 : ({ wr.drewN n with heap := wr.heap.setIfInBounds r (.mapIter (some b) 24 (seen.push (0 + i)) Sp.tab.length) } : World).heap[r]? = some (.mapIter (some b) 24 (seen.push (0 + i)) 24) := by simp [hrl, hlen]
    have hrun' : ∀ ty, (Instr.next (.pointer (some ⟨r, 0, none⟩)) false ty).run Tryz.prog wr = .ok (.tuple #[.bool true, str x.1, rowVal x.2]) { wr.drewN n with heap := wr.heap.setIfInBounds r (.mapIter (some b) 24 (seen.push (0 + i)) Sp.tab.length) } := fun _ => hrun
    generalize ({ wr.drewN n with heap := wr.heap.setIfInBounds r (.mapIter (some b) 24 (seen.push (0 + i)) Sp.tab.length) } : World) = w5 at hg hit5 hrun'
    have hmap5 : HoldsTab w5 b rowVal Sp.tab := hmap.same (hg.block b hmap.lt (by simpa using hbr))
    have hres5 := hres.grown hg (by simpa using hnr)
    have hbl5 : Below w.heap.size w w5 := hbl.grown hg hbl.size (fun k hk => by injection hk with hk; omega)
    refine ⟨i, x, w5, hx, hrun', run_entry_at hmap5 hit5 hes ents_nodup, hres5, hbl5, fun hv o => ⟨⟨⟨seen.push (0 + i), (Below.heap_alloc w5 o r (Nat.lt_of_lt_of_le hrl hg.size)).trans hit5, fun j y hj hc => ?_⟩, hmap5.same (Below.heap_alloc w5 o b hmap5.lt), hres5.alloc o, hbl5.alloc hbl5.size o⟩, ?_⟩⟩
    · rw [contains_push] at hc
      rcases Bool.or_eq_true _ _ ▸ hc with h3 | h3
      · exact hno j y hj h3
      · have h4 := beq_iff_eq.1 h3
        have : j = i := by omega
        subst this
        rw [hx] at hj
        injection hj with hj
        rw [← hj]
        exact hv
    · have s1 : (w5.alloc o).iterSeen r = seen.push (0 + i) := by
        unfold World.iterSeen
        rw [(Below.heap_alloc w5 o r (Nat.lt_of_lt_of_le hrl hg.size)).trans hit5]
      have s2 : wr.iterSeen r = seen := by
        unfold World.iterSeen
        rw [hit]
      rw [s1, s2]
      generalize (ents rowVal 0 Sp.tab).toArray = ES at he ⊢
      exact left_shrinks ES seen _ he

theorem name_results {W : World} {n0 : Nat} {k : Sp.Bs} {r : Sp.RowV} {b : Bool} (hb : Blk W n0 90 #[.int .i64 r.verb, str r.places, .int .i64 r.least, .bool r.more, .bool r.noreply, .bool r.block]) (tm : Array Value) (h2 : tm[2]?.getD undef = str k)
    (h3 : tm[3]?.getD undef = .pointer (some ⟨n0, 0, none⟩)) (h4 : tm[4]?.getD undef = .bool b) : (results Tryz.f43 tm).run Tryz.prog W = .ok (.tuple #[str k, rowVal r, .bool b]) W := by
  have z0 : _ = some (Value.int .i64 r.verb) := hb.cell 0
  have z1 : _ = some (str r.places) := hb.cell 1
  have z2 : _ = some (Value.int .i64 r.least) := hb.cell 2
  have z3 : _ = some (Value.bool r.more) := hb.cell 3
  have z4 : _ = some (Value.bool r.noreply) := hb.cell 4
  have z5 : _ = some (Value.bool r.block) := hb.cell 5
  clear hb
  simp [results, Tryz.results43, go_sem, h2, h3, h4, z0, z1, z2, z3, z4, z5, rowVal]

set_option maxHeartbeats 4000000 in
set_option maxRecDepth 100000 in
theorem name_yes (v : Nat) (h1 : 1 ≤ v) (h2 : v ≤ 24) (w : World) :
    Calls Tryz.prog 43 #[.int .i64 v] w fun e w' => e = .returned (.tuple #[str (wordBy v), rowVal (rowBy v), .bool true]) ∧ Below w.heap.size w w' := by
  generalize hR : (fun (e : Ending) (w' : World) => e = .returned (.tuple #[str (wordBy v), rowVal (rowBy v), .bool true]) ∧ Below w.heap.size w w') = R
  have HR := Lib.hid hR
  clear hR
  have hrg := fun (W : World) (b : Nat) (hb : HoldsTab W b rowVal Sp.tab) => (run_range_map (P := Tryz.prog) W 129 9 90 b (ents rowVal 0 Sp.tab).toArray Sp.tab.length Tryz.underlying129 hb : _ = Result.ok _ (W.alloc (.mapIter (some b) 24 #[] 24)))
  have HRG := Lib.hid hrg
  clear hrg
  go_enter Tryz.func43, Tryz.ntmps43
  go_wp2_with (go_at_call 82; refine (rows_any _).mono ?_; rintro e w2 ⟨b, rfl, htab, hbb, hb2⟩; have hr2 := HRG.out w2 b htab; have HTAB := Lib.hid htab; have HB2 := Lib.hid hb2; clear htab hb2)
  have hsz : w.heap.size + 1 ≤ w2.heap.size := by have := HB2.out.size; simpa using this
  have hst := NameMid.start (w := w) (v := v) HTAB.out ((Blk.new w 90 #[.int .i64 0, str [], .int .i64 0, .bool false, .bool false, .bool false]).later HB2.out) (((Below.refl w.heap.size w).alloc (Nat.le_refl _) _).trans (HB2.out.mono (by simp)))
  have HST := Lib.hid hst
  clear hr2 hst
  go_loopw [] (fun wr => NameMid w b w2.heap.size w.heap.size v wr) (fun wr => (leftOf (ents rowVal 0 Sp.tab).toArray (wr.iterSeen w2.heap.size)).size)
  case atStart => exact HST.out
  case round =>
    obtain ⟨i, x, w5, hx, hnx, hen, hres, hbl, hon⟩ := NameMid.next hrel (by omega) h1 h2
    have hlt := hres.lt
    have HX := Lib.hid hx
    have HBL := Lib.hid hbl
    have HRES := Lib.hid hres
    clear hrel hx hbl
    obtain ⟨k, r⟩ := x
    simp only [rowVal] at hnx hen
    by_cases hv : r.verb = v
    · have hby : rowBy v = r ∧ wordBy v = k := by
        have := tab_by _ (List.mem_of_getElem? HX.out)
        simp only [hv] at this
        exact ⟨this.1, this.2.1⟩
      have HBY := Lib.hid hby
      have hq : ((r.verb : Int) == (v : Int)) = true := by simp [hv]
      have z0 : _ = some (Value.int .i64 0) := hres.cell 0
      have z1 : _ = some (str []) := hres.cell 1
      have z2 : _ = some (Value.int .i64 0) := hres.cell 2
      have z3 : _ = some (Value.bool false) := hres.cell 3
      have z4 : _ = some (Value.bool false) := hres.cell 4
      have z5 : _ = some (Value.bool false) := hres.cell 5
      have f0 := hres.frozen 0
      have f1 := hres.frozen 1
      have f2 := hres.frozen 2
      have f3 := hres.frozen 3
      have f4 := hres.frozen 4
      have f5 := hres.frozen 5
      clear hby hv hon hres
      go_wp2_with fail
      go_region
      all_goals
        go_wp2_with fail
        have hb6 := (((((HRES.out.put 0 (.int .i64 r.verb)).put 1 (str r.places)).put 2 (.int .i64 r.least)).put 3 (.bool r.more)).put 4 (.bool r.noreply)).put 5 (.bool r.block)
        have hbe := (((((HBL.out.setCell (p := ⟨w.heap.size, 0, none⟩) (Nat.le_refl _) (.int .i64 r.verb)).setCell (p := ⟨w.heap.size, 1, none⟩) (Nat.le_refl _) (str r.places)).setCell (p := ⟨w.heap.size, 2, none⟩) (Nat.le_refl _) (.int .i64 r.least)).setCell (p := ⟨w.heap.size, 3, none⟩) (Nat.le_refl _) (.bool r.more)).setCell (p := ⟨w.heap.size, 4, none⟩) (Nat.le_refl _) (.bool r.noreply)).setCell (p := ⟨w.heap.size, 5, none⟩) (Nat.le_refl _) (.bool r.block)
        refine bodyPost_ret (name_results (k := k) (r := r) (b := true) ((hb6.alloc _).drew) _ rfl rfl rfl) rfl ?_
        rw [← HR.out]
        exact ⟨by rw [HBY.out.1, HBY.out.2], (hbe.alloc hbe.size _).drew⟩
    · have hq : ((r.verb : Int) == (v : Int)) = false := by simp; omega
      have hon' := hon hv
      have HON := Lib.hid hon'
      clear hon hon' hv hres
      go_wp2_with fail
      exact ⟨(HON.out _).1, (HON.out _).2⟩
end Go.Proofs.YthgfjafnclklpaaGreatDoor
