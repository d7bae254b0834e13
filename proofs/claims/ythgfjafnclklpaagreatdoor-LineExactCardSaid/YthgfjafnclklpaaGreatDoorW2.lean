/- Walks of package words: fail, rows. -/
import Derived.Test.YthgfjafnclklpaaGreatDoorW1
import Derived.Test.YthgfjafnclklpaaGreatDoorMp
import Derived.Lib.Hide
namespace Go.Proofs.YthgfjafnclklpaaGreatDoor
open Go.RowKit

theorem fail_any (b : Nat) (pass : Int) (text : ByteArray) (w : World) (hp : w.cell? ⟨b, 12, none⟩ = some (.int .i64 pass)) :
    Calls Tryz.prog 105 #[.pointer (some ⟨b, 0, none⟩), .string text] w fun e w' =>
      e = .panicked [{ v := .iface 112 (.agg #[.int .i64 2, .string text, .int .i64 pass]), recovered := false }] ∧ w = w' := by
  go_enter Tryz.func105, Tryz.ntmps105
  go_wp2
  exact ⟨rfl, rfl, rfl⟩

/-- a verb's row as it lies in the map -/
def rowVal (r : Sp.RowV) : Value := .agg #[.int .i64 r.verb, str r.places, .int .i64 r.least, .bool r.more, .bool r.noreply, .bool r.block]

theorem tab_new (i : Nat) (hi : i < 24) : (Sp.tab.take i).find? (fun x => (Sp.tab.getD i ([], { verb := 0 })).1 == x.1) = none := by
  have h : ∀ i : Fin 24, (Sp.tab.take i.1).find? (fun x => (Sp.tab.getD i.1 ([], { verb := 0 })).1 == x.1) = none := by decide
  exact h ⟨i, hi⟩

theorem tab_step (i : Nat) (hi : i < 24) : Sp.tab.take i ++ [Sp.tab.getD i ([], { verb := 0 })] = Sp.tab.take (i + 1) := by
  have h : ∀ i : Fin 24, Sp.tab.take i.1 ++ [Sp.tab.getD i.1 ([], { verb := 0 })] = Sp.tab.take (i.1 + 1) := by decide
  exact h ⟨i, hi⟩

/-- the map under way: it holds the first i rows -/
def RowsAt (w0 : World) (b i : Nat) (w : World) : Prop := HoldsTab w b rowVal (Sp.tab.take i) ∧ w0.heap.size ≤ b ∧ Below w0.heap.size w0 w

theorem RowsAt.new (w : World) : RowsAt w w.heap.size 0 (w.alloc (.map #[] 0)) := by
  refine ⟨?_, Nat.le_refl _, (Below.refl _ _).alloc (Nat.le_refl _) _⟩
  show (w.alloc (.map #[] 0)).heap[w.heap.size]? = some (.map (ents rowVal 0 (Sp.tab.take 0)).toArray (Sp.tab.take 0).length)
  simp only [List.take_zero, ents, List.length_nil]
  exact heap_alloc_new w _

theorem RowsAt.alloc {w0 w : World} {b i : Nat} (h : RowsAt w0 b i w) (o : Obj) : RowsAt w0 b i (w.alloc o) :=
  ⟨h.1.same (Below.heap_alloc w o b h.1.lt), h.2.1, h.2.2.alloc h.2.2.size o⟩

/-- the store of the i-th row, at the operation -/
theorem wpList_put_row {w : World} {ops : Array Oper} {rest : List Oper} {o : Oper} {a : Act} {Q : Exit → Act → World → Prop} (w0 : World) {b i : Nat}
    (hown : RowsAt w0 b i w) (hi : i < 24)
    (hg : o.guard = none) (m x v : Operand) (hop : o.op = Op.mapUpdate 129 m x v ∨ o.op = Op.insert 129 m x v)
    (hm : a.eval m = .map (some b)) (hx : a.eval x = str (Sp.tab.getD i ([], { verb := 0 })).1) (hv : a.eval v = rowVal (Sp.tab.getD i ([], { verb := 0 })).2)
    (hK : ∀ w', RowsAt w0 b (i + 1) w' → w.grownBy w' (some b) → wpList Tryz.prog ops Q rest (a.put o.dst undef) w') :
    wpList Tryz.prog ops Q (o :: rest) a w := by
  refine wpList_put_tab w hg m x v _ hop 9 90 Tryz.underlying129 Tryz.underlying9 b rowVal (Sp.tab.take i) (Sp.tab.getD i ([], { verb := 0 })) hm hown.1 hx hv (tab_new i hi) ?_
  intro w' h1 h2
  rw [tab_step i hi] at h1
  exact hK w' ⟨h1, hown.2.1, hown.2.2.grown h2 (by have := hown.2.2.size; omega) (fun k hk => by injection hk with hk; subst hk; exact hown.2.1)⟩ h2

def fiveWords : List Sp.Bs := [[115, 101, 116], [97, 100, 100], [114, 101, 112, 108, 97, 99, 101], [97, 112, 112, 101, 110, 100], [112, 114, 101, 112, 101, 110, 100]]
def FiveAt (g : Nat) (w : World) : Prop :=
  w.heap[g]? = some (.cells #[str [115, 101, 116], str [97, 100, 100], str [114, 101, 112, 108, 97, 99, 101], str [97, 112, 112, 101, 110, 100], str [112, 114, 101, 112, 101, 110, 100]] 9 (0, 0))
theorem FiveAt.cell {g : Nat} {w : World} (h : FiveAt g w) (k : Nat) (hk : k < 5) : w.cell? ⟨g, k, none⟩ = some (str (Sp.tab.getD (19 + k) ([], { verb := 0 })).1) := by
  unfold FiveAt at h
  have e : ∀ k : Fin 5, (#[str [115, 101, 116], str [97, 100, 100], str [114, 101, 112, 108, 97, 99, 101], str [97, 112, 112, 101, 110, 100], str [112, 114, 101, 112, 101, 110, 100]])[k.1]? = some (str (Sp.tab.getD (19 + k.1) ([], { verb := 0 })).1) := by
    intro k
    match k with
    | 0 => rfl
    | 1 => rfl
    | 2 => rfl
    | 3 => rfl
    | 4 => rfl
  simp only [World.cell?, h]
  exact e ⟨k, hk⟩
theorem FiveAt.grown {g b : Nat} {w w' : World} (h : FiveAt g w) (hg : w.grownBy w' (some b)) (hne : g ≠ b) : FiveAt g w' := by
  unfold FiveAt at h ⊢
  have hl : g < w.heap.size := by
    rcases Nat.lt_or_ge g w.heap.size with hlt | hge
    · exact hlt
    · rw [Array.getElem?_eq_none hge] at h; cases h
  rw [hg.block g hl (by simpa using hne)]
  exact h
theorem five_row (k : Nat) (hk : k < 5) : (Sp.tab.getD (19 + k) ([], { verb := 0 })).2 = { verb := 5 + k, places := [75, 70, 84, 78], least := 4, noreply := true, block := true } := by
  have h : ∀ k : Fin 5, (Sp.tab.getD (19 + k.1) ([], { verb := 0 })).2 = { verb := 5 + k.1, places := [75, 70, 84, 78], least := 4, noreply := true, block := true } := by decide
  exact h ⟨k, hk⟩

set_option maxRecDepth 100000 in
set_option maxHeartbeats 1000000 in
theorem rows_any (w : World) :
    Calls Tryz.prog 82 #[] w fun e w' => ∃ b, e = .returned (.map (some b)) ∧ HoldsTab w' b rowVal Sp.tab ∧ w.heap.size ≤ b ∧ Below w.heap.size w w' := by
  have hmm := @run_makeMap Tryz.prog
  have h0 := RowsAt.new w
  go_enter Tryz.func82, Tryz.ntmps82
  go_wp2_with (apply wpList_put_row w ?_ ?_ rfl _ _ _ (Or.inr rfl) ?_ ?_ ?_ ?_; rotate_left 2; assumption; decide; rfl; rfl; rfl; intro w1 h1 g1)
  obtain ⟨g, hg⟩ : ∃ g, g = w1.heap.size := ⟨_, rfl⟩
  have hcs : (w1.alloc (.cells #[str [115, 101, 116], str [97, 100, 100], str [114, 101, 112, 108, 97, 99, 101], str [97, 112, 112, 101, 110, 100], str [112, 114, 101, 112, 101, 110, 100]] 9)).heap[g]? = some (.cells #[str [115, 101, 116], str [97, 100, 100], str [114, 101, 112, 108, 97, 99, 101], str [97, 112, 112, 101, 110, 100], str [112, 114, 101, 112, 101, 110, 100]] 9 (0, 0)) := by
    subst hg; exact heap_alloc_new w1 _
  have hr := h1.alloc (.cells #[str [115, 101, 116], str [97, 100, 100], str [114, 101, 112, 108, 97, 99, 101], str [97, 112, 112, 101, 110, 100], str [112, 114, 101, 112, 101, 110, 100]] 9)
  have hne : g ≠ w.heap.size := by have := h1.1.lt; omega
  have hge : w.heap.size ≤ g := by have := h1.2.2.size; omega
  rw [← hg]
  clear hg
  generalize (w1.alloc (.cells #[str [115, 101, 116], str [97, 100, 100], str [114, 101, 112, 108, 97, 99, 101], str [97, 112, 112, 101, 110, 100], str [112, 114, 101, 112, 101, 110, 100]] 9)) = w2 at *
  clear h0 hmm h1 g1
  go_loopw [27] (fun i wr => ∃ k : Nat, k ≤ 5 ∧ i = .int .i64 k ∧ RowsAt w w.heap.size (19 + k) wr ∧ FiveAt g wr) (fun i _ => 5 - (intOf i).toNat)
  case atStart => exact ⟨0, by omega, rfl, hr, hcs⟩
  case round =>
    obtain ⟨k, hk, rfl, hrow, hfive⟩ := hrel
    by_cases hlt : k < 5
    · have hc := hfive.cell k hlt
      have hv5 : rowVal (Sp.tab.getD (19 + k) ([], { verb := 0 })).2 = .agg #[.int .i64 (5 + (k : Int)), .string ⟨#[75, 70, 84, 78]⟩, .int .i64 4, .bool false, .bool true, .bool true] := by
        rw [five_row k hlt]; rfl
      have HV := Lib.hid hv5
      clear hv5
      go_wp2_with (apply wpList_put_row w ?_ ?_ rfl _ _ _ (Or.inl rfl) ?_ ?_ ?_ ?_; rotate_left 2; assumption; omega; rfl; rfl; exact HV.out.symm; intro w3 h3 g3)
      refine ⟨⟨k + 1, by omega, by go_num, by rw [← Nat.add_assoc]; exact h3, hfive.grown g3 hne⟩, by simp [intOf]; omega⟩
    · obtain rfl : k = 5 := by omega
      go_wp2
      go_ret
      exact ⟨_, rfl, hrow.1, Nat.le_refl _, hrow.2.2⟩
#print axioms rows_any
end Go.Proofs.YthgfjafnclklpaaGreatDoor
