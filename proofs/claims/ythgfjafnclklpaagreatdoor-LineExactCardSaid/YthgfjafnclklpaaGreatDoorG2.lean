/- Words for steps in memory: what a line tells, as a step; rows of steps. -/
import Derived.Test.YthgfjafnclklpaaGreatDoorG1
import Derived.Test.YthgfjafnclklpaaGreatDoorL2
import Derived.Test.YthgfjafnclklpaaGreatDoorPc
import Derived.Laws.AppendOwnNone
namespace Go.Proofs.YthgfjafnclklpaaGreatDoor
attribute [local go_sem ↓] Go.wp_at_zero Go.wp_at_succ
open Go.RowKit

def lineStep : Sp.LineR → Sp.StepV
  | .ok c _ => { cmd := c }
  | .bad x => { wrong := x }

def lineN : Sp.LineR → Int
  | .ok _ n => n
  | .bad _ => -1

theorem line_flat {w : World} (hg : Glob w) {A : Option Addr} {cap : Nat} {l : Sp.Bs} (h : RowAt w A (bytesV l)) :
    Calls Tryz.prog 19 #[.slice A l.length cap] w fun e w' => ∃ k1 k2 k3 m1 m2 m3, e = .returned (.tuple #[cmdV (lineStep (Sp.lineOf l)).cmd (.slice k1 k2 k3) nilRow (.slice m1 m2 m3), .int .i64 (lineN (Sp.lineOf l)), wrongV (lineStep (Sp.lineOf l)).wrong]) ∧
      w'.ownsRow w.heap.size 9 1 (.slice k1 k2 k3) (lineStep (Sp.lineOf l)).cmd.keys.length ((lineStep (Sp.lineOf l)).cmd.keys.map str) ∧
      w'.ownsRow w.heap.size 94 3 (.slice m1 m2 m3) (lineStep (Sp.lineOf l)).cmd.metas.length (flagsCells (lineStep (Sp.lineOf l)).cmd.metas) ∧ Below w.heap.size w w' := by
  refine (line_any hg h).mono ?_
  intro e w' hp
  cases hr : Sp.lineOf l with
  | ok c b =>
    rw [hr] at hp
    obtain ⟨⟨kv, mv, rfl, hk, hm⟩, hb⟩ := hp
    obtain ⟨k1, k2, k3, rfl⟩ := own_slice hk
    obtain ⟨m1, m2, m3, rfl⟩ := own_slice hm
    exact ⟨k1, k2, k3, m1, m2, m3, rfl, hk, hm, hb⟩
  | bad x =>
    rw [hr] at hp
    obtain ⟨rfl, hb⟩ := hp
    exact ⟨none, 0, 0, none, 0, 0, rfl, World.ownsRow_nil _ _ _ 1, World.ownsRow_nil _ _ _ 3, hb⟩

theorem lineStep_data (l : Sp.Bs) : (lineStep (Sp.lineOf l)).cmd.data = [] := by
  cases hr : Sp.lineOf l with
  | ok c b => exact (lineOf_ok hr).2.2.1
  | bad x => rfl

theorem heap_setCells {g : Nat} {k : Nat} (hk : k ≠ g) : ∀ (us : List Value) (o : Nat) {w : World}, (w.setCells g o us).heap[k]? = w.heap[k]?
  | [], _, _ => rfl
  | u :: us, o, w => by rw [World.setCells, heap_setCells hk us (o + 1), Below.heap_setCell w ⟨g, o, none⟩ u k hk]

theorem storeVar_cmd' (a : Addr) (cs : Array Value) : type_of% (storeVar.eq_1 38 a (.agg cs)) := storeVar.eq_1 38 a (.agg cs)

theorem storeVar_wrong' (a : Addr) (cs : Array Value) : type_of% (storeVar.eq_1 59 a (.agg cs)) := storeVar.eq_1 59 a (.agg cs)

theorem chop_take (l : Sp.Bs) : (Sp.chop l).length ≤ l.length ∧ Sp.chop l = l.take (Sp.chop l).length := by
  unfold Sp.chop
  split
  · exact ⟨by simp, by rw [List.dropLast_eq_take]; simp⟩
  · exact ⟨Nat.le_refl _, by simp⟩

theorem own_form {w : World} {base : Nat} {e : TypeId} {size n : Nat} {v : Value} {xs : List Value} (h : w.ownsRow base e size v n xs) : ∃ p c, v = .slice p n c := by
  rcases h.2 with ⟨rfl, rfl⟩ | ⟨g, cap, cur, rfl, _⟩
  · exact ⟨_, _, rfl⟩
  · exact ⟨_, _, rfl⟩

/-- the steps' lists lie apart from a row of steps -/
theorem stepsBlocks_apart {w : World} {base n : Nat} {v : Value} {xs : List Value} : ∀ {ts : List Sp.StepV} {cs : List Value} {bl : List Nat}, StepsMem w ts cs bl → w.ownsRow base 99 16 v n xs → ∀ k ∈ bl, v.ownBlock ≠ some k
  | [], _, _, ⟨_, h⟩, _, k, hk => by simp [h] at hk
  | _ :: _, _, _, ⟨kv, dv, mv, cs', bl', h1, h2, h3, h4⟩, h, k, hk => by
    subst h2
    have hap : ∀ {e : TypeId} {size m : Nat} {u : Value} {ys : List Value}, w.ownsRow 0 e size u m ys → e ≠ 99 → k ∈ rowBlock u → v.ownBlock ≠ some k := by
      intro e size m u ys hu hne hk e2
      rw [mem_rowBlock] at hk
      rcases own_own_apart hu h hne with h0 | h0
      · rw [h0] at hk; cases hk
      · exact h0 (hk.trans e2.symm)
    rcases List.mem_append.1 hk with hk | hk
    · simp only [cmdBlocks, List.mem_append] at hk
      rcases hk with hk | hk | hk
      · exact hap h3.keys (by decide) hk
      · exact hap h3.data (by decide) hk
      · exact hap h3.metas (by decide) hk
    · exact stepsBlocks_apart h4 h k hk

theorem StepsMem.one {w : World} : ∀ {ts : List Sp.StepV} {cs : List Value} {bl : List Nat}, StepsMem w ts cs bl → ∀ u ∈ cs, u.oneCell' = true
  | [], _, _, ⟨h, _⟩, u, hu => by simp [h] at hu
  | t0 :: ts, cs, bl, ⟨kv, dv, mv, cs', bl', h1, h2, h3, h4⟩, u, hu => by
    rw [h1] at hu
    rcases List.mem_append.1 hu with hu | hu
    · have k1 := own_one h3.keys
      have k2 := own_one h3.data
      have k3 := own_one h3.metas
      simp only [stepCells, cmdCells, wrongCells, List.cons_append, List.nil_append, List.mem_cons, List.not_mem_nil, or_false] at hu
      rcases hu with rfl | rfl | rfl | rfl | rfl | rfl | rfl | rfl | rfl | rfl | rfl | rfl | rfl | rfl | rfl | rfl <;> first | rfl | assumption
    · exact h4.one u hu

theorem StepsMem.append {w : World} : ∀ {ts us : List Sp.StepV} {cs ds : List Value} {bl dl : List Nat}, StepsMem w ts cs bl → StepsMem w us ds dl → StepsMem w (ts ++ us) (cs ++ ds) (bl ++ dl)
  | [], _, _, _, _, _, ⟨h1, h2⟩, h => by subst h1; subst h2; exact h
  | _ :: _, _, _, _, _, _, ⟨kv, dv, mv, cs', bl', h1, h2, h3, h4⟩, h => ⟨kv, dv, mv, _, _, by rw [h1, List.append_assoc], by rw [h2, List.append_assoc], h3, h4.append h⟩

end Go.Proofs.YthgfjafnclklpaaGreatDoor
