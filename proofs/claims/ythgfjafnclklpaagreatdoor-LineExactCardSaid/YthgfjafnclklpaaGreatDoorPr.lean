/- Plain laws for a line: its words, the rows of the table, the place of N. No program in sight. -/
import Derived.Test.YthgfjafnclklpaaGreatDoorPl
import Derived.Lib.IndexLaws
namespace Go.Proofs.YthgfjafnclklpaaGreatDoor
open Go.Lib Sp

theorem wordsGo_mem : ∀ (l cur : Bs) (w : Bs), w ∈ wordsGo l cur → w ≠ [] ∧ w.length ≤ cur.length + l.length
  | [], cur, w, h => by
    unfold wordsGo at h
    split at h
    · cases h
    · rename_i hc
      simp at h
      subst h
      exact ⟨by intro h0; subst h0; simp at hc, by simp⟩
  | c :: t, cur, w, h => by
    unfold wordsGo at h
    split at h
    · split at h
      · have := wordsGo_mem t [] w h
        exact ⟨this.1, by simp at this ⊢; omega⟩
      · rename_i hc
        rcases List.mem_cons.1 h with rfl | h
        · exact ⟨by intro h0; subst h0; simp at hc, by simp⟩
        · have := wordsGo_mem t [] w h
          exact ⟨this.1, by simp at this ⊢; omega⟩
    · have := wordsGo_mem t (cur ++ [c]) w h
      exact ⟨this.1, by simp at this ⊢; omega⟩

theorem wordsGo_count : ∀ (l cur : Bs), (wordsGo l cur).length ≤ l.length + 1 ∧ (cur = [] → (wordsGo l cur).length ≤ l.length)
  | [], cur => by
    unfold wordsGo
    split
    · simp
    · rename_i h; exact ⟨by simp, by intro h0; subst h0; simp at h⟩
  | c :: t, cur => by
    unfold wordsGo
    split
    · split
      · have := wordsGo_count t []
        exact ⟨by have := this.1; simp; omega, fun _ => by have := this.1; simp; omega⟩
      · rename_i hc
        have := wordsGo_count t []
        exact ⟨by have := this.2 rfl; simp; omega, fun h0 => by subst h0; simp at hc⟩
    · have := wordsGo_count t (cur ++ [c])
      exact ⟨by have := this.1; simp; omega, fun _ => by have := this.1; simp; omega⟩

theorem wordsOf_mem {l w : Bs} (h : w ∈ wordsOf l) : w ≠ [] ∧ w.length ≤ l.length := by
  have := wordsGo_mem l [] w h
  simpa using this
theorem wordsOf_count (l : Bs) : (wordsOf l).length ≤ l.length := (wordsGo_count l []).2 rfl

/-- what is true of every row -/
def RowOk (r : RowV) : Prop :=
  r.places.length ≤ 5 ∧ 1 ≤ r.verb ∧ r.verb ≤ 24 ∧ r.least ≤ 5 ∧ (r.more = true → 1 ≤ r.places.length) ∧ (∀ k ∈ r.places, k ∈ ([75, 70, 84, 78, 67, 48, 68, 83, 86, 87, 71] : Bs))
instance (r : RowV) : Decidable (RowOk r) := by unfold RowOk; infer_instance
theorem tab_ok : ∀ x ∈ tab, RowOk x.2 := by decide
theorem rowOf_ok {w : Bs} {r : RowV} (h : rowOf w = some r) : RowOk r := by
  unfold rowOf at h
  cases hf : tab.find? (fun x => w == x.1) with
  | none => rw [hf] at h; cases h
  | some x =>
    rw [hf] at h
    injection h with h
    subst h
    exact tab_ok x (List.mem_of_find?_eq_some hf)

theorem indexByte_indexOf (l : Bs) (c : UInt8) : indexByte l c = match indexOf l c with | some i => (i : Int) | none => -1 := by
  induction l with
  | nil => rfl
  | cons b t ih =>
    unfold indexOf at *
    rw [indexByte, List.findIdx?_cons]
    by_cases h : (b == c) = true
    · simp [h]
    · have h' : (b == c) = false := by simpa using h
      simp only [h', Bool.false_eq_true, if_false]
      rw [ih]
      cases ht : List.findIdx? (fun x => x == c) t with
      | none => simp
      | some i =>
        have : ¬ ((i : Int) = -1) := by omega
        simp [this]

theorem indexOf_lt {l : Bs} {c : UInt8} {i : Nat} (h : indexOf l c = some i) : i < l.length := by
  unfold indexOf at h
  exact (List.findIdx?_eq_some_iff_getElem.1 h).1

theorem number_le {w : Bs} {most n : Nat} (h : number w most = some n) : n ≤ most := by
  unfold number at h
  split at h
  · rename_i hx; injection h with h; simp at hx; omega
  · cases h

/-- how a word changes what is gathered -/
theorem wordAt_grows {c c' : CmdV} {b b' : Int} {k : UInt8} {w : Bs} (h : wordAt c b k w = .ok (c', b')) :
    c'.keys.length ≤ c.keys.length + 1 ∧ c'.metas.length ≤ c.metas.length + 1 ∧ c'.verb = c.verb ∧ c'.noreply = c.noreply ∧ c'.data = c.data ∧ c'.large = c.large ∧
      (∀ f ∈ c'.metas, f ∈ c.metas ∨ f.arg.length ≤ w.length) ∧ (b' = b ∨ (0 ≤ b' ∧ b' ≤ 2147483647)) := by
  unfold wordAt at h
  have done : ∀ (x : CmdV) (y : Int), (.ok (x, y) : Except Bs (CmdV × Int)) = .ok (c', b') → x = c' ∧ y = b' := by
    intro x y hxy; injection hxy with hxy; injection hxy with h1 h2; exact ⟨h1, h2⟩
  by_cases k1 : k = 75
  · rw [if_pos k1] at h
    split at h
    · obtain ⟨rfl, rfl⟩ := done _ _ h; exact ⟨by simp, by simp, rfl, rfl, rfl, rfl, fun f hf => .inl hf, .inl rfl⟩
    · cases h
  rw [if_neg k1] at h
  by_cases k2 : k = 70
  · rw [if_pos k2] at h
    split at h
    · obtain ⟨rfl, rfl⟩ := done _ _ h; exact ⟨by simp, by simp, rfl, rfl, rfl, rfl, fun f hf => .inl hf, .inl rfl⟩
    · cases h
  rw [if_neg k2] at h
  by_cases k3 : k = 78
  · rw [if_pos k3] at h
    split at h
    · rename_i n hn
      have hle := number_le hn
      obtain ⟨rfl, rfl⟩ := done _ _ h; exact ⟨by simp, by simp, rfl, rfl, rfl, rfl, fun f hf => .inl hf, .inr ⟨by omega, by omega⟩⟩
    · cases h
  rw [if_neg k3] at h
  by_cases k4 : k = 86
  · rw [if_pos k4] at h
    split at h
    · obtain ⟨rfl, rfl⟩ := done _ _ h; exact ⟨by simp, by simp, rfl, rfl, rfl, rfl, fun f hf => .inl hf, .inl rfl⟩
    · cases h
  rw [if_neg k4] at h
  by_cases k5 : k = 67
  · rw [if_pos k5] at h
    split at h
    · obtain ⟨rfl, rfl⟩ := done _ _ h; exact ⟨by simp, by simp, rfl, rfl, rfl, rfl, fun f hf => .inl hf, .inl rfl⟩
    · cases h
  rw [if_neg k5] at h
  by_cases k6 : k = 68
  · rw [if_pos k6] at h
    split at h
    · obtain ⟨rfl, rfl⟩ := done _ _ h; exact ⟨by simp, by simp, rfl, rfl, rfl, rfl, fun f hf => .inl hf, .inl rfl⟩
    · cases h
  rw [if_neg k6] at h
  by_cases k7 : k = 48
  · rw [if_pos k7] at h
    split at h
    · obtain ⟨rfl, rfl⟩ := done _ _ h; exact ⟨by simp, by simp, rfl, rfl, rfl, rfl, fun f hf => .inl hf, .inl rfl⟩
    · cases h
  rw [if_neg k7] at h
  by_cases k8 : k = 87
  · rw [if_pos k8] at h
    split at h
    · obtain ⟨rfl, rfl⟩ := done _ _ h; exact ⟨by simp, by simp, rfl, rfl, rfl, rfl, fun f hf => .inl hf, .inl rfl⟩
    · cases h
  rw [if_neg k8] at h
  by_cases k9 : k = 71
  · rw [if_pos k9] at h
    dsimp only at h
    split at h
    · obtain ⟨rfl, rfl⟩ := done _ _ h
      refine ⟨by simp, by simp, rfl, rfl, rfl, rfl, fun f hf => ?_, .inl rfl⟩
      rcases List.mem_append.1 hf with hf | hf
      · exact .inl hf
      · right
        simp at hf
        subst hf
        simp
    · cases h
  rw [if_neg k9] at h
  split at h
  · split at h
    · cases h
    · obtain ⟨rfl, rfl⟩ := done _ _ h; exact ⟨by simp, by simp, rfl, rfl, rfl, rfl, fun f hf => .inl hf, .inl rfl⟩
  · cases h
end Go.Proofs.YthgfjafnclklpaaGreatDoor
