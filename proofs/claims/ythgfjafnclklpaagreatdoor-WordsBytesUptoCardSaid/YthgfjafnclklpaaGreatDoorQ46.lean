/- Walks of package words: name of a number that is no verb's; Bytes of what it refuses at once. Words for the statement WordsWhole: what All tells, plain; steps in memory. Walks of the statement WordsWhole's helpers: clip, shifted. Words for statements over words.Bytes and words.All: rows of commands, of bytes and of places. -/
import Derived.Test.YthgfjafnclklpaaGreatDoorY5
import Derived.Test.YthgfjafnclklpaaGreatDoorAp
import Derived.Test.YthgfjafnclklpaaGreatDoorFd
import Derived.Test.YthgfjafnclklpaaGreatDoorSm
import Derived.Test.YthgfjafnclklpaaGreatDoorG2
import Derived.Test.YthgfjafnclklpaaGreatDoorYc
import Derived.Test.YthgfjafnclklpaaGreatDoorOc
import Derived.Test.YthgfjafnclklpaaGreatDoorA9
import Derived.Lib.SlBytesRow
section
namespace Go.Proofs.YthgfjafnclklpaaGreatDoor
attribute [local go_sem ↓] Go.wp_at_zero Go.wp_at_succ
open Go.RowKit

/-- one look further, or the end -/
theorem NameMid.step {w wr : World} {b r n0 v : Nat} (h : NameMid w b r n0 v wr) (hr : w.heap.size ≤ r) :
    (∀ ty, (Instr.next (.pointer (some ⟨r, 0, none⟩)) false ty).run Tryz.prog wr = .ok (.tuple #[.bool false]) wr) ∨
    ∃ (i : Nat) (x : Sp.Bs × Sp.RowV) (w5 : World), Sp.tab[i]? = some x ∧ (∀ ty, (Instr.next (.pointer (some ⟨r, 0, none⟩)) false ty).run Tryz.prog wr = .ok (.tuple #[.bool true, str x.1, rowVal x.2]) w5) ∧
      (Instr.entry (.pointer (some ⟨r, 0, none⟩))).run Tryz.prog w5 = .ok (.tuple #[str x.1, rowVal x.2]) w5 ∧
      (x.2.verb ≠ v → ∀ o, NameMid w b r n0 v (w5.alloc o) ∧ (leftOf (ents rowVal 0 Sp.tab).toArray ((w5.alloc o).iterSeen r)).size < (leftOf (ents rowVal 0 Sp.tab).toArray (wr.iterSeen r)).size) := by
  obtain ⟨⟨seen, hit, hno⟩, hmap, hres, hbl⟩ := h
  have hlen : Sp.tab.length = 24 := rfl
  have law := fun ty => run_next_at (P := Tryz.prog) hmap hit ents_old (Nat.le_refl 24) ty
  have hbr : b ≠ r := by
    intro e
    subst e
    unfold HoldsTab at hmap
    rw [hit] at hmap
    cases hmap
  have hnr : n0 ≠ r := by
    intro e
    subst e
    unfold Blk at hres
    rw [hit] at hres
    cases hres
  have hrl : r < wr.heap.size := by
    rcases Nat.lt_or_ge r wr.heap.size with hlt | hge
    · exact hlt
    · rw [Array.getElem?_eq_none hge] at hit; cases hit
  by_cases hz : (leftOf (ents rowVal 0 Sp.tab).toArray seen).size = 0
  · left
    intro ty
    rcases law ty with ⟨_, h1⟩ | ⟨e, he, _⟩
    · exact h1
    · exfalso
      rw [Array.eq_empty_of_size_eq_zero hz] at he
      simp at he
  · right
    rcases law 0 with ⟨h0, _⟩ | ⟨e, he, n, hrun⟩
    · exact absurd h0 hz
    · obtain ⟨hes, hnew⟩ := mem_left he
      obtain ⟨i, x, hx, rfl⟩ := ents_mem rowVal Sp.tab 0 e (by simpa using hes)
      have hg : wr.grownBy { wr.drewN n with heap := wr.heap.setIfInBounds r (.mapIter (some b) 24 (seen.push (0 + i)) Sp.tab.length) } (some r) :=
        ⟨rfl, rfl, rfl, by simp, fun k _ hne => by
          simp only [Array.getElem?_setIfInBounds]
          rw [if_neg (by rintro rfl; exact hne rfl)]⟩
      have hit5 : ({ wr.drewN n with heap := wr.heap.setIfInBounds r (.mapIter (some b) 24 (seen.push (0 + i)) Sp.tab.length) } : World).heap[r]? = some (.mapIter (some b) 24 (seen.push (0 + i)) 24) := by simp [hrl, hlen]
      have hrun' : ∀ ty, (Instr.next (.pointer (some ⟨r, 0, none⟩)) false ty).run Tryz.prog wr = .ok (.tuple #[.bool true, str x.1, rowVal x.2]) { wr.drewN n with heap := wr.heap.setIfInBounds r (.mapIter (some b) 24 (seen.push (0 + i)) Sp.tab.length) } := fun _ => hrun
      generalize ({ wr.drewN n with heap := wr.heap.setIfInBounds r (.mapIter (some b) 24 (seen.push (0 + i)) Sp.tab.length) } : World) = w5 at hg hit5 hrun'
      have hmap5 : HoldsTab w5 b rowVal Sp.tab := hmap.same (hg.block b hmap.lt (by simpa using hbr))
      have hres5 := hres.grown hg (by simpa using hnr)
      have hbl5 : Below w.heap.size w w5 := hbl.grown hg hbl.size (fun k hk => by injection hk with hk; omega)
      refine ⟨i, x, w5, hx, hrun', run_entry_at hmap5 hit5 hes ents_nodup, fun hv o => ⟨⟨⟨seen.push (0 + i), (Below.heap_alloc w5 o r (Nat.lt_of_lt_of_le hrl hg.size)).trans hit5, fun j y hj hc => ?_⟩, hmap5.same (Below.heap_alloc w5 o b hmap5.lt), hres5.alloc o, hbl5.alloc hbl5.size o⟩, ?_⟩⟩
      · rw [contains_push] at hc
        rcases Bool.or_eq_true _ _ ▸ hc with h3 | h3
        · exact hno j y hj h3
        · have h4 := beq_iff_eq.1 h3
          have : j = i := by omega
          subst this
          rw [hx] at hj
          injection hj with hj
          rw [← hj]
          exact hv
      · have s1 : (w5.alloc o).iterSeen r = seen.push (0 + i) := by
          unfold World.iterSeen
          rw [(Below.heap_alloc w5 o r (Nat.lt_of_lt_of_le hrl hg.size)).trans hit5]
        have s2 : wr.iterSeen r = seen := by
          unfold World.iterSeen
          rw [hit]
        rw [s1, s2]
        generalize (ents rowVal 0 Sp.tab).toArray = ES at he ⊢
        exact left_shrinks ES seen _ he

theorem tab_verbs : ∀ x ∈ Sp.tab, 1 ≤ x.2.verb ∧ x.2.verb ≤ 24 := fun x hx => ⟨(tab_by x hx).2.2.1, (tab_by x hx).2.2.2⟩

set_option maxHeartbeats 4000000 in
set_option maxRecDepth 100000 in
theorem name_no (v : Int) (hv : v < 1 ∨ 24 < v) (w : World) :
    Calls Tryz.prog 43 #[.int .i64 v] w fun e w' => e = .returned (.tuple #[str [], rowVal { verb := 0 }, .bool false]) ∧ Below w.heap.size w w' := by
  generalize hR : (fun (e : Ending) (w' : World) => e = .returned (.tuple #[str [], rowVal { verb := 0 }, .bool false]) ∧ Below w.heap.size w w') = R
  have HR := Lib.hid hR
  have HV := Lib.hid hv
  clear hR hv
  have hrg := fun (W : World) (b : Nat) (hb : HoldsTab W b rowVal Sp.tab) => (run_range_map (P := Tryz.prog) W 129 9 90 b (ents rowVal 0 Sp.tab).toArray Sp.tab.length Tryz.underlying129 hb : _ = Result.ok _ (W.alloc (.mapIter (some b) 24 #[] 24)))
  have HRG := Lib.hid hrg
  clear hrg
  go_enter Tryz.func43, Tryz.ntmps43
  go_wp2_with (go_at_call 82; refine (rows_any _).mono ?_; rintro e w2 ⟨b, rfl, htab, hbb, hb2⟩; have hr2 := HRG.out w2 b htab; have HTAB := Lib.hid htab; have HB2 := Lib.hid hb2; clear htab hb2)
  have hsz : w.heap.size + 1 ≤ w2.heap.size := by have := HB2.out.size; simpa using this
  have hst := NameMid.start (w := w) (v := 25) HTAB.out ((Blk.new w 90 #[.int .i64 0, str [], .int .i64 0, .bool false, .bool false, .bool false]).later HB2.out) (((Below.refl w.heap.size w).alloc (Nat.le_refl _) _).trans (HB2.out.mono (by simp)))
  have HST := Lib.hid hst
  clear hr2 hst
  go_loopw [] (fun wr => NameMid w b w2.heap.size w.heap.size 25 wr) (fun wr => (leftOf (ents rowVal 0 Sp.tab).toArray (wr.iterSeen w2.heap.size)).size)
  case atStart => exact HST.out
  case round =>
    have hres := hrel.res
    have hbl := hrel.below
    rcases NameMid.step hrel (by omega) with hend | ⟨i, x, w5, hx, hnx, hen, hon⟩
    · have hlt := hres.lt
      have HBL := Lib.hid hbl
      have HRES := Lib.hid hres
      have z0 : _ = some (Value.int .i64 0) := hres.cell 0
      have z1 : _ = some (str []) := hres.cell 1
      have z2 : _ = some (Value.int .i64 0) := hres.cell 2
      have z3 : _ = some (Value.bool false) := hres.cell 3
      have z4 : _ = some (Value.bool false) := hres.cell 4
      have z5 : _ = some (Value.bool false) := hres.cell 5
      have f0 := hres.frozen 0
      have f1 := hres.frozen 1
      have f2 := hres.frozen 2
      have f3 := hres.frozen 3
      have f4 := hres.frozen 4
      have f5 := hres.frozen 5
      clear hrel hbl hres
      go_wp2_with fail
      have hb6 := (((((HRES.out.put 0 (.int .i64 0)).put 1 (str [])).put 2 (.int .i64 0)).put 3 (.bool false)).put 4 (.bool false)).put 5 (.bool false)
      have hbe := (((((HBL.out.setCell (p := ⟨w.heap.size, 0, none⟩) (Nat.le_refl _) (.int .i64 0)).setCell (p := ⟨w.heap.size, 1, none⟩) (Nat.le_refl _) (str [])).setCell (p := ⟨w.heap.size, 2, none⟩) (Nat.le_refl _) (.int .i64 0)).setCell (p := ⟨w.heap.size, 3, none⟩) (Nat.le_refl _) (.bool false)).setCell (p := ⟨w.heap.size, 4, none⟩) (Nat.le_refl _) (.bool false)).setCell (p := ⟨w.heap.size, 5, none⟩) (Nat.le_refl _) (.bool false)
      refine bodyPost_ret (name_results (k := []) (r := { verb := 0 }) (b := false) hb6 _ rfl rfl rfl) rfl ?_
      rw [← HR.out]
      exact ⟨rfl, hbe⟩
    · have hvs := tab_verbs x (List.mem_of_getElem? hx)
      obtain ⟨k, r⟩ := x
      simp only [rowVal] at hnx hen
      have hq : ((r.verb : Int) == v) = false := by
        rw [beq_eq_false_iff_ne]
        have := HV.out
        dsimp only at hvs
        omega
      have hon' := hon (by dsimp only at hvs ⊢; omega)
      have HON := Lib.hid hon'
      clear hon hon' hrel hx hres hbl hvs
      go_wp2_with fail
      exact ⟨(HON.out _).1, (HON.out _).2⟩

set_option maxHeartbeats 4000000 in
set_option maxRecDepth 100000 in
/-- a verb that is none -/
theorem bytes_no {w : World} {v : Int} (hv : v < 1 ∨ 24 < v) {c : Sp.CmdV} {K D M : Option Addr} {kn kc dn dc mn mc : Nat} :
    Calls Tryz.prog 9 #[.agg #[.int .i64 v, .slice K kn kc, .int .u64 c.flags, .int .i64 c.exptime, .int .u64 c.token, .int .u64 c.delta, .slice D dn dc, .bool c.noreply, .bool c.large, .slice M mn mc, str c.what]] w fun e w' => e = .returned (.tuple #[nilRow, .int .i64 7]) ∧ Below w.heap.size w w' := by
  generalize hR : (fun (e : Ending) (w' : World) => e = .returned (.tuple #[nilRow, .int .i64 7]) ∧ Below w.heap.size w w') = R
  have hb0 : Below w.heap.size w (w.alloc (.cells #[.int .i64 v, .slice K kn kc, .int .u64 c.flags, .int .i64 c.exptime, .int .u64 c.token, .int .u64 c.delta, .slice D dn dc, .bool c.noreply, .bool c.large, .slice M mn mc, str c.what] 38)) := (Below.refl _ _).alloc (Nat.le_refl _) _
  have hn := name_no v hv (w.alloc (.cells #[.int .i64 v, .slice K kn kc, .int .u64 c.flags, .int .i64 c.exptime, .int .u64 c.token, .int .u64 c.delta, .slice D dn dc, .bool c.noreply, .bool c.large, .slice M mn mc, str c.what] 38))
  simp only [rowVal] at hn
  have HR := Lib.hid hR
  have HB0 := Lib.hid hb0
  have HN := Lib.hid hn
  clear hR hb0 hn hv
  go_enter Tryz.func9, Tryz.ntmps9
  go_wp2_with (refine HN.out.mono ?_; rintro e w1 ⟨rfl, hb1⟩; have HB1 := Lib.hid hb1; clear hb1)
  rw [← HR.out]
  exact ⟨rfl, (HB0.out.trans (HB1.out.mono HB0.out.size)).alloc (HB0.out.trans (HB1.out.mono HB0.out.size)).size _⟩

set_option maxHeartbeats 4000000 in
set_option maxRecDepth 100000 in
/-- Large -/
theorem bytes_large {w : World} {c : Sp.CmdV} (h1 : 1 ≤ c.verb) (h2 : c.verb ≤ 24) (hl : c.large = true) {K D M : Option Addr} {kn kc dn dc mn mc : Nat} :
    Calls Tryz.prog 9 #[cmdV c (.slice K kn kc) (.slice D dn dc) (.slice M mn mc)] w fun e w' => e = .returned (.tuple #[nilRow, .int .i64 7]) ∧ Below w.heap.size w w' := by
  generalize hR : (fun (e : Ending) (w' : World) => e = .returned (.tuple #[nilRow, .int .i64 7]) ∧ Below w.heap.size w w') = R
  have hb0 : Below w.heap.size w (w.alloc (.cells (cmdArr c (.slice K kn kc) (.slice D dn dc) (.slice M mn mc)) 38)) := (Below.refl _ _).alloc (Nat.le_refl _) _
  have hbl := Blk.new w 38 (cmdArr c (.slice K kn kc) (.slice D dn dc) (.slice M mn mc))
  have hn := name_yes c.verb h1 h2 (w.alloc (.cells (cmdArr c (.slice K kn kc) (.slice D dn dc) (.slice M mn mc)) 38))
  simp only [rowVal] at hn
  have HR := Lib.hid hR
  have HB0 := Lib.hid hb0
  have HN := Lib.hid hn
  have HL := Lib.hid hl
  have HBL := Lib.hid hbl
  clear hR hb0 hn hl hbl h1 h2
  go_enter Tryz.func9, Tryz.ntmps9
  go_wp2_with (refine HN.out.mono ?_; rintro e w1 ⟨rfl, hb1⟩; have hlt1 : w.heap.size < w1.heap.size := (HBL.out.later hb1).lt; have x8 : _ = some (Value.bool c.large) := (HBL.out.later hb1).cell 8; rw [HL.out] at x8; have HB1 := Lib.hid hb1; clear hb1)
  rw [← HR.out]
  exact ⟨rfl, (HB0.out.trans (HB1.out.mono HB0.out.size)).alloc (HB0.out.trans (HB1.out.mono HB0.out.size)).size _⟩
end Go.Proofs.YthgfjafnclklpaaGreatDoor
end
section
section
namespace Go.Proofs.YthgfjafnclklpaaGreatDoor
open Go.Lib Sp Go.RowKit

theorem AllAt.upto {lim : Nat} {l : Bs} : ∀ (n : Nat), n ≤ (allOf lim l).1.length → ∃ a q, AllAt lim l n a q
  | 0, _ => ⟨0, false, AllAt.start lim l⟩
  | n + 1, h => by
    obtain ⟨a, q, h1⟩ := AllAt.upto (l := l) (lim := lim) n (by omega)
    obtain ⟨t, m, _, _, _, _, _, h2⟩ := h1.on (by omega)
    exact ⟨_, _, h2⟩

/-- the n-th step, if the bytes behind it are asked for -/
theorem AllAt.behind {lim : Nat} {l : Bs} {n a : Nat} (h : AllAt lim l n a false) :
    (allOf lim l).2 = (allOf lim (l.drop a)).2 ∧ (allOf lim (l.drop a)).1.length = (allOf lim l).1.length - n ∧ ∀ (m : Nat) (u : StepV), (allOf lim (l.drop a)).1[m]? = some u → (allOf lim l).1[n + m]? = some (StepV.shifted u a) := by
  obtain ⟨h1, h2⟩ := h.rest rfl
  refine ⟨h2, ?_, fun m u hu => ?_⟩
  · have := congrArg List.length h1
    simp at this
    omega
  · rw [← List.getElem?_drop, h1, List.getElem?_map, hu]
    rfl

theorem CmdAt.form {w : World} {c : CmdV} {kv dv mv : Value} (h : CmdAt w c kv dv mv) : (∃ A cap, kv = .slice A c.keys.length cap) ∧ (∃ A cap, dv = .slice A c.data.length cap) ∧ ∃ A cap, mv = .slice A c.metas.length cap := by
  obtain ⟨⟨A, a, h1, _⟩, ⟨B, b, h2, _⟩, ⟨C, d, h3, _⟩⟩ := h
  exact ⟨⟨A, a, h1⟩, ⟨B, b, h2⟩, ⟨C, d, h3⟩⟩

theorem StepsAt.take {w : World} {ts : List StepV} {cs : List Value} (h : StepsAt w ts cs) (n : Nat) : StepsAt w (ts.take n) (cs.take (n * 16)) := by
  refine ⟨by rw [List.length_take, List.length_take, h.1]; omega, fun j t ht => ?_⟩
  rw [List.getElem?_take] at ht
  split at ht
  · rename_i hj
    obtain ⟨kv, dv, mv, hc, hf⟩ := h.2 j t ht
    refine ⟨kv, dv, mv, hc, fun i u hu => ?_⟩
    have hi := (List.getElem?_eq_some_iff.1 hu).1
    rw [stepCells_length] at hi
    rw [List.getElem?_take, if_pos (by omega)]
    exact hf i u hu
  · cases ht
end Go.Proofs.YthgfjafnclklpaaGreatDoor
end
section
namespace Go.Proofs.YthgfjafnclklpaaGreatDoor
attribute [local go_sem ↓] Go.wp_at_zero Go.wp_at_succ
open Go.RowKit

/-- a step by value -/
abbrev stepW (t : Sp.StepV) (kv dv mv : Value) : Value := .agg (stepCells t kv dv mv).toArray

end Go.Proofs.YthgfjafnclklpaaGreatDoor
end
end
section
namespace Go.Proofs.YthgfjafnclklpaaGreatDoor
open Go.Lib Sp Go.RowKit

theorem bytes_cmd {w : World} (hg : Glob w) (ht : TabAt w) {x : CmdX} (h : CmdGood w x) : Calls Tryz.prog 9 #[.agg x.cells.toArray] w (BytesEndX w x) := by
  by_cases hv : 1 ≤ x.v ∧ x.v ≤ 24
  · have e : x.v = (x.c.verb : Int) := by rw [h.verb]; omega
    have h1 : 1 ≤ x.c.verb := by omega
    have h2 : x.c.verb ≤ 24 := by omega
    have ec : Value.agg x.cells.toArray = cmdV x.c (.slice x.K x.c.keys.length x.kc) (.slice x.D x.c.data.length x.dc) (.slice x.M x.c.metas.length x.mc) := by
      unfold CmdX.cells
      rw [e]
    rw [ec]
    cases hl : x.c.large with
    | true =>
      refine (bytes_large h1 h2 hl).mono fun e w' hp => ?_
      unfold BytesEndX CmdX.out
      rw [if_pos hv]
      unfold bytesV'
      rw [if_neg (by rw [hl]; exact fun h => absurd h.2.2.1 (by decide))]
      exact hp
    | false =>
      have hs := h.small h1 h2
      refine (bytes_some hg ht h.mem (h.fit h2) h1 hl (by omega) (by omega)).mono fun e w' hp => ?_
      unfold BytesEndX CmdX.out
      rw [if_pos hv]
      exact hp
  · refine (bytes_no (c := x.c) (by omega)).mono fun e w' hp => ?_
    unfold BytesEndX CmdX.out
    rw [if_neg hv]
    exact hp

/-- bytes, commands and places, gathered in rows of the call's own -/
structure BackRows (w : World) (l : Bs) (vs es : List Value) (n m : Nat) (av rv ev : Value) (wr : World) : Prop where
  all : wr.ownsRow w.heap.size 5 1 av l.length (bytesV l)
  row : wr.ownsRow w.heap.size 38 11 rv n vs
  ends : wr.ownsRow w.heap.size 3 1 ev m es
  below : Below w.heap.size w wr
section
variable {w wr w2 : World} {l k : Bs} {vs es vs' es' : List Value} {n m n' m' : Nat} {av rv ev v' : Value}
theorem BackRows.later (h : BackRows w l vs es n m av rv ev wr) (hb : Below wr.heap.size wr w2) : BackRows w l vs es n m av rv ev w2 :=
  ⟨own_later h.all hb, own_later h.row hb, own_later h.ends hb, h.below.trans (hb.mono h.below.size)⟩
end

/-- where the first loop stands -/
structure BackMid (w : World) (cs : List CmdX) (M : Nat) (av rv ev : Value) (wr : World) : Prop where
  rows : BackRows w (backAll cs) (cs.flatMap CmdX.cells) (backEnds cs) cs.length cs.length av rv ev wr
  good : ∀ x ∈ cs, CmdGood w x ∧ againV x.c = true ∧ 1 ≤ x.c.verb ∧ x.c.verb ≤ 24 ∧ x.c.large = false ∧ x.c.data.length ≤ M ∧ x.v = (x.c.verb : Int)
  M : M ≤ 65536
  small : (backAll cs).length ≤ cs.length * 70000
theorem BackMid.start (w : World) : BackMid w [] 0 nilRow nilRow nilRow w :=
  ⟨⟨World.ownsRow_nil _ _ _ 1, World.ownsRow_nil _ _ _ 11, World.ownsRow_nil _ _ _ 1, Below.refl _ _⟩, fun x hx => by (cases hx), by omega, Nat.le_refl _⟩
theorem BackMid.later {w wr w2 : World} {cs : List CmdX} {M : Nat} {av rv ev : Value} (h : BackMid w cs M av rv ev wr) (hb : Below wr.heap.size wr w2) : BackMid w cs M av rv ev w2 := ⟨h.rows.later hb, h.good, h.M, h.small⟩
theorem BackMid.on {w wr w2 : World} {cs : List CmdX} {M M' : Nat} {av rv ev av' rv' ev' : Value} (h : BackMid w cs M av rv ev wr) {x : CmdX} (hx : CmdGood w x) (ha : againV x.c = true) (h1 : 1 ≤ x.c.verb) (h2 : x.c.verb ≤ 24) (hl : x.c.large = false) (hv : x.v = (x.c.verb : Int)) (hd : x.c.data.length ≤ M') (hM : M ≤ M') (hM' : M' ≤ 65536)
    (hr : BackRows w (backAll cs ++ outV x.c) (cs.flatMap CmdX.cells ++ x.cells) (backEnds cs ++ [Value.int .i64 (backAll cs ++ outV x.c).length]) (cs.length + 1) (cs.length + 1) av' rv' ev' w2) : BackMid w (cs ++ [x]) M' av' rv' ev' w2 := by
  refine ⟨?_, fun y hy => ?_, hM', ?_⟩
  · rw [backAll_snoc, backEnds_snoc, List.flatMap_append, show (cs ++ [x]).length = cs.length + 1 by simp, show [x].flatMap CmdX.cells = x.cells by simp]
    exact hr
  · rcases List.mem_append.1 hy with hy | hy
    · obtain ⟨g1, g2, g3, g4, g5, g6, g7⟩ := h.good y hy
      exact ⟨g1, g2, g3, g4, g5, by omega, g7⟩
    · rw [List.mem_singleton.1 hy]
      exact ⟨hx, ha, h1, h2, hl, hd, hv⟩
  · have := line_small hx ha h1 h2 hl
    have h0 := h.small
    rw [backAll_snoc, List.length_append, List.length_append, List.length_singleton]
    omega
end Go.Proofs.YthgfjafnclklpaaGreatDoor
end
