/- Words for the statement WordsWhole: what All tells, plain; steps in memory. Walks of the statement WordsWhole's helpers: clip, shifted. -/
import Derived.Test.YticigfpieeoolaaGreatDoorAp
import Derived.Test.YticigfpieeoolaaGreatDoorFd
import Derived.Test.YticigfpieeoolaaGreatDoorSm
import Derived.Test.YticigfpieeoolaaGreatDoorG2
section
namespace Go.Proofs.YticigfpieeoolaaGreatDoor
open Go.Lib Sp Go.RowKit

theorem allOf_empty {lim : Nat} {l : Bs} (h : (allOf lim l).1 = []) : (allOf lim l).2 = l.length := by
  cases ho : oneV lim l with
  | none => rw [allOf_none ho]
  | some y =>
    obtain ⟨t, n⟩ := y
    rw [allOf_some ho] at h
    split at h <;> cases h

theorem AllAt.upto {lim : Nat} {l : Bs} : ∀ (n : Nat), n ≤ (allOf lim l).1.length → ∃ a q, AllAt lim l n a q
  | 0, _ => ⟨0, false, AllAt.start lim l⟩
  | n + 1, h => by
    obtain ⟨a, q, h1⟩ := AllAt.upto (l := l) (lim := lim) n (by omega)
    obtain ⟨t, m, _, _, _, _, _, h2⟩ := h1.on (by omega)
    exact ⟨_, _, h2⟩

/-- behind the last step -/
theorem AllAt.fin {lim : Nat} {l : Bs} {k a : Nat} {q : Bool} (h : AllAt lim l k a q) (hk : (allOf lim l).1.length ≤ k) : (allOf lim l).2 = if q then 0 else l.length - a := by
  cases q with
  | true => exact (h.over rfl).2
  | false =>
    obtain ⟨h1, h2⟩ := h.rest rfl
    rw [List.drop_eq_nil_of_le hk] at h1
    rw [h2, allOf_empty (List.map_eq_nil_iff.1 h1.symm), List.length_drop]
    rfl

theorem allOf_short (lim : Nat) (l : Bs) : ∀ t ∈ (allOf lim l).1, ShortStep t := allV_short _ _ _ _
theorem allOf_count (lim : Nat) (l : Bs) : (allOf lim l).1.length ≤ l.length := by
  unfold allOf
  rw [← toldAll_all]
  exact toldAll_count lim l

theorem allOf_in {lim : Nat} {l : Bs} {k : Nat} {t : StepV} (h : (allOf lim l).1[k]? = some t) : t.frm ≤ t.to ∧ t.to ≤ l.length := by
  have hk := (List.getElem?_eq_some_iff.1 h).1
  obtain ⟨a, q, ha⟩ := AllAt.upto (lim := lim) (l := l) k (Nat.le_of_lt hk)
  obtain ⟨t', n, _, _, hg, hn, hl, _⟩ := ha.on hk
  rw [h] at hg
  injection hg with hg
  subst hg
  exact ⟨by show a ≤ a + n; omega, hl⟩

/-- the n-th step, if the bytes behind it are asked for -/
theorem AllAt.behind {lim : Nat} {l : Bs} {n a : Nat} (h : AllAt lim l n a false) :
    (allOf lim l).2 = (allOf lim (l.drop a)).2 ∧ (allOf lim (l.drop a)).1.length = (allOf lim l).1.length - n ∧ ∀ (m : Nat) (u : StepV), (allOf lim (l.drop a)).1[m]? = some u → (allOf lim l).1[n + m]? = some (StepV.shifted u a) := by
  obtain ⟨h1, h2⟩ := h.rest rfl
  refine ⟨h2, ?_, fun m u hu => ?_⟩
  · have := congrArg List.length h1
    simp at this
    omega
  · rw [← List.getElem?_drop, h1, List.getElem?_map, hu]
    rfl

/-- where a step of a row lies -/
theorem steps_cell {w : World} {A : Option Addr} {ts : List StepV} {cs : List Value} (hA : RowAt w A cs) (hS : StepsAt w ts cs) {j : Nat} {t : StepV} (h : ts[j]? = some t) :
    ∃ g o kv dv mv, A = some ⟨g, o, none⟩ ∧ ∀ (W : World), Below w.heap.size w W → CmdAt W t.cmd kv dv mv ∧ ∀ (i : Nat) (u : Value), (stepCells t kv dv mv)[i]? = some u → W.cell? ⟨g, o + j * 16 + i, none⟩ = some u := by
  obtain ⟨kv, dv, mv, hc, hf⟩ := hS.2 j t h
  rcases hA with h0 | ⟨g, o, h1, h2, h3⟩
  · have := hf 0 (.int .i64 t.cmd.verb) rfl
    rw [h0] at this
    simp at this
  · refine ⟨g, o, kv, dv, mv, h1, fun W hb => ⟨hc.below hb, fun i u hu => ?_⟩⟩
    rw [hb.cell (p := ⟨g, o + j * 16 + i, none⟩) h2, Nat.add_assoc]
    exact h3 _ _ (hf i u hu)

theorem CmdAt.form {w : World} {c : CmdV} {kv dv mv : Value} (h : CmdAt w c kv dv mv) : (∃ A cap, kv = .slice A c.keys.length cap) ∧ (∃ A cap, dv = .slice A c.data.length cap) ∧ ∃ A cap, mv = .slice A c.metas.length cap := by
  obtain ⟨⟨A, a, h1, _⟩, ⟨B, b, h2, _⟩, ⟨C, d, h3, _⟩⟩ := h
  exact ⟨⟨A, a, h1⟩, ⟨B, b, h2⟩, ⟨C, d, h3⟩⟩

theorem StepsAt.take {w : World} {ts : List StepV} {cs : List Value} (h : StepsAt w ts cs) (n : Nat) : StepsAt w (ts.take n) (cs.take (n * 16)) := by
  refine ⟨by rw [List.length_take, List.length_take, h.1]; omega, fun j t ht => ?_⟩
  rw [List.getElem?_take] at ht
  split at ht
  · rename_i hj
    obtain ⟨kv, dv, mv, hc, hf⟩ := h.2 j t ht
    refine ⟨kv, dv, mv, hc, fun i u hu => ?_⟩
    have hi := (List.getElem?_eq_some_iff.1 hu).1
    rw [stepCells_length] at hi
    rw [List.getElem?_take, if_pos (by omega)]
    exact hf i u hu
  · cases ht
end Go.Proofs.YticigfpieeoolaaGreatDoor
end
section
namespace Go.Proofs.YticigfpieeoolaaGreatDoor
attribute [local go_sem ↓] Go.wp_at_zero Go.wp_at_succ
open Go.RowKit

set_option maxRecDepth 100000 in
/-- at most so many bytes -/
theorem clip_any {w : World} (A : Option Addr) (n cap : Nat) (hc : n ≤ cap) :
    Calls Tryz.prog 23 #[.slice A n cap] w fun e w' => e = .returned (.slice A (min n 65536) cap) ∧ w' = w := by
  go_enter Tryz.func23, Tryz.ntmps23
  by_cases h : (65536 : Int) < (n : Int)
  · have hca : (65536 : Int) ≤ (cap : Int) := by omega
    have hm : min n 65536 = 65536 := by omega
    rw [hm]
    go_wp2_with fail
    go_ret
    exact ⟨rfl, rfl⟩
  · have hm : min n 65536 = n := by omega
    rw [hm]
    go_wp2_with fail
    go_ret
    exact ⟨rfl, rfl⟩

/-- a step by value -/
abbrev stepW (t : Sp.StepV) (kv dv mv : Value) : Value := .agg (stepCells t kv dv mv).toArray

set_option maxHeartbeats 4000000 in
set_option maxRecDepth 100000 in
theorem shifted_any {w : World} (t : Sp.StepV) {kv dv mv : Value} (h : (∃ A cap, kv = .slice A t.cmd.keys.length cap) ∧ (∃ A cap, dv = .slice A t.cmd.data.length cap) ∧ ∃ A cap, mv = .slice A t.cmd.metas.length cap) {d : Nat} (h1 : (t.frm : Int) + d ≤ 9223372036854775807) (h2 : (t.to : Int) + d ≤ 9223372036854775807) :
    Calls Tryz.prog 38 #[stepW t kv dv mv, .int .i64 d] w fun e w' => e = .returned (stepW (StepV.shifted t d) kv dv mv) ∧ Below w.heap.size w w' := by
  obtain ⟨⟨A1, a1, rfl⟩, ⟨B1, b1, rfl⟩, ⟨C1, c1, rfl⟩⟩ := h
  change Calls Tryz.prog 38 #[stepV t _ _ _, .int .i64 d] w fun e w' => e = .returned (stepV (StepV.shifted t d) _ _ _) ∧ Below w.heap.size w w'
  generalize hR : (fun (e : Ending) (w' : World) => e = .returned (stepV (StepV.shifted t d) (.slice A1 t.cmd.keys.length a1) (.slice B1 t.cmd.data.length b1) (.slice C1 t.cmd.metas.length c1)) ∧ Below w.heap.size w w') = R
  have HR := Lib.hid hR
  clear hR
  go_enter Tryz.func38, Tryz.ntmps38
  go_wp2_with fail
  refine ⟨rfl, _, results_cell_row (P := Tryz.prog) (p := 4) (ty := 86) (by kernel_rfl) _ _ (w.heap.size + 1) 86 _ _ _ rfl (heap_alloc2_new _ _ _) Tryz.underlying86 rfl (by kernel_rfl), ?_⟩
  rw [← HR.out]
  exact ⟨rfl, ((Below.refl _ _).alloc (Nat.le_refl _) _).alloc (by simp) _⟩
end Go.Proofs.YticigfpieeoolaaGreatDoor
end
