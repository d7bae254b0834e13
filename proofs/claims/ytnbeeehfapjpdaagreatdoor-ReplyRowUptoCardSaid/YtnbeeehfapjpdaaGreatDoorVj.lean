/- Helpers for package reply's reader: rows of texts cut, searched; texts trimmed; the texts that may stand where an entry may. -/
import Derived.Test.YtnbeeehfapjpdaaGreatDoorVi
namespace Go.Proofs.YtnbeeehfapjpdaaGreatDoor
open Go.RowKit

theorem run_slice_texts (W : World) (A : Option Addr) (n cap a : Nat) (h : a ≤ n) :
    (Instr.slice 27 (.slice A n cap) (some (.int .i64 a)) none none).run Tryz.prog W = .ok (.slice (cutAddr A a cap) (n - a) (cap - a)) W := by
  obtain ⟨i0, hi, _, hz1, _⟩ := info_parts (show (Tryz.prog.info? 9).map (fun i => (i.zero, i.size, i.bytes)) = some (some (.string ⟨#[]⟩), 1, 16) by kernel_rfl)
  have he : Tryz.prog.elem 27 = 9 := by kernel_rfl
  have hu : Tryz.prog.underlying 27 = some (.slice (Tryz.prog.elem 27)) := by kernel_rfl
  rw [run_slice_l (P := Tryz.prog) W 27 A n cap hu .i64 (a : Int) (by omega) (by omega), he]
  have hs : (sizeOf 9).run Tryz.prog W = .ok 1 W := by simp [sizeOf, typeInfo, hi, hz1]
  rw [hs]
  simp [Result.andThen, sliced, cutAddr]
theorem mem_texts {ts : List Sp.Bs} {x : Sp.Bs} : (⟨x.toArray⟩ : ByteArray) ∈ ts.map (fun l => (⟨l.toArray⟩ : ByteArray)) ↔ x ∈ ts := by
  constructor
  · intro h
    obtain ⟨y, hy, e⟩ := List.mem_map.1 h
    injection e with e
    have : y = x := by simpa using congrArg Array.toList e
    rwa [← this]
  · intro h
    exact List.mem_map.2 ⟨x, h, rfl⟩
theorem texts_cells {w : World} {g o : Nat} {ts : List Sp.Bs} (h : ∀ j u, (ts.map str)[j]? = some u → w.cell? ⟨g, o + j, none⟩ = some u) : ∀ j, j < (ts.map (fun l => (⟨l.toArray⟩ : ByteArray))).length → w.cell? ⟨g, o + j, none⟩ = some (.string ((ts.map (fun l => (⟨l.toArray⟩ : ByteArray))).getD j ByteArray.empty)) := fun j hj => by
  rw [List.length_map] at hj
  have e : ts[j]? = some ts[j] := List.getElem?_eq_getElem hj
  rw [h j (str ts[j]) (by rw [List.getElem?_map, e]; rfl), List.getD_eq_getElem?_getD, List.getElem?_map, e]; rfl
theorem hasText_any {w : World} {T : Option Addr} {c : Nat} {ts : List Sp.Bs} (hrow : RowAt w T (ts.map str)) (hn : ts.length ≤ 9223372036854775807) (x : Sp.Bs) :
    Calls Tryz.prog 86 #[.slice T ts.length c, str x] w fun e w' => e = .returned (.bool (decide (x ∈ ts))) ∧ w = w' := by
  rcases hrow with h0 | ⟨g, o, rfl, _, h3⟩
  · have : ts = [] := by simpa using h0
    subst this
    exact (Tryz.slices_Contains_string_empty T c ⟨x.toArray⟩ w).mono fun e w' ⟨h1, h2⟩ => ⟨by rw [h1]; rfl, h2.symm⟩
  · have := Tryz.slices_Contains_string g o ts.length c (ts.map fun l => (⟨l.toArray⟩ : ByteArray)) ⟨x.toArray⟩ w (by rw [List.length_map]; exact Nat.le_refl _) hn (texts_cells h3)
    refine this.mono fun e w' ⟨h1, h2⟩ => ⟨?_, h2.symm⟩
    rw [h1, List.take_of_length_le (by rw [List.length_map]; exact Nat.le_refl _)]
    congr 2
    rw [Bool.eq_iff_iff, Lib.containsS_iff, decide_eq_true_eq]
    exact mem_texts
theorem idxText_any {w : World} {T : Option Addr} {c : Nat} {ts : List Sp.Bs} (hrow : RowAt w T (ts.map str)) (hn : ts.length ≤ 9223372036854775807) {x : Sp.Bs} (hx : x ∈ ts) :
    Calls Tryz.prog 74 #[.slice T ts.length c, str x] w fun e w' => e = .returned (.int .i64 (ts.idxOf x : Nat)) ∧ w = w' := by
  rcases hrow with h0 | ⟨g, o, rfl, _, h3⟩
  · have : ts = [] := by simpa using h0
    subst this; cases hx
  · have := Tryz.slices_Index_string g o ts.length c (ts.map fun l => (⟨l.toArray⟩ : ByteArray)) ⟨x.toArray⟩ w (by rw [List.length_map]; exact Nat.le_refl _) hn (texts_cells h3)
    refine this.mono fun e w' ⟨h1, h2⟩ => ⟨?_, h2.symm⟩
    rw [h1, List.take_of_length_le (by rw [List.length_map]; exact Nat.le_refl _)]
    have hlt : ts.idxOf x < ts.length := List.idxOf_lt_length_iff.2 hx
    have hget : ∀ j, j < ts.length → (ts.map (fun l => (⟨l.toArray⟩ : ByteArray))).getD j ByteArray.empty = ⟨(ts.getD j []).toArray⟩ := fun j hj => by
      rw [List.getD_eq_getElem?_getD, List.getElem?_map, List.getD_eq_getElem?_getD, List.getElem?_eq_getElem hj]; rfl
    have hhit := Lib.idxFromS_hit (⟨x.toArray⟩ : ByteArray) (ts.map (fun l => (⟨l.toArray⟩ : ByteArray))) (ts.idxOf x) 0 (by rw [List.length_map]; exact hlt) (by
      rw [hget _ hlt, List.getD_eq_getElem?_getD, List.getElem?_eq_getElem hlt]
      show (⟨(ts[ts.idxOf x]).toArray⟩ : ByteArray) = _
      rw [List.getElem_idxOf hlt]) (fun j hj e => by
      rw [hget j (by omega)] at e
      injection e with e
      have e2 : ts.getD j [] = x := by simpa using congrArg Array.toList e
      rw [List.getD_eq_getElem?_getD, List.getElem?_eq_getElem (by omega : j < ts.length)] at e2
      have := List.not_of_lt_findIdx (p := (· == x)) hj
      exact absurd e2 (by simpa using this))
    congr 2
    unfold Lib.idxOfS
    rw [hhit, Nat.zero_add]
def valueW : Sp.Bs := [86, 65, 76, 85, 69, 32]
theorem trim_front (k : Sp.Bs) : Lib.trimPrefix (valueW ++ k) valueW = k := by
  unfold Lib.trimPrefix
  have h : Lib.hasPrefix (valueW ++ k) valueW = true := List.isPrefixOf_iff_prefix.2 (List.prefix_append _ _)
  rw [if_pos h, List.drop_left]
theorem trim_back (k : Sp.Bs) : Lib.trimSuffix (k ++ [32]) [32] = k := by
  unfold Lib.trimSuffix
  have h : Lib.hasSuffix (k ++ [32]) [32] = true := List.isSuffixOf_iff_suffix.2 (List.suffix_append _ _)
  rw [if_pos h, List.length_append, List.length_singleton, Nat.add_sub_cancel, List.take_left]
/-- where the loop that lays the texts stands -/
structure TextsLoop (wo : World) (ks : List Sp.Bs) (tv : Value) (ts : List Sp.Bs) (j : Nat) (wr : World) : Prop where
  le : j ≤ ks.length
  own : wr.ownsRow wo.heap.size 9 1 tv ts.length (ts.map str)
  below : Below wo.heap.size wo wr
  go : Sp.valueTexts ts (ks.drop j) = Sp.valueTexts [Sp.endV ++ Sp.crlf] ks
  head : ∃ us, ts = (Sp.endV ++ Sp.crlf) :: us ∧ ∀ s ∈ us, ∃ k ∈ ks, Sp.legalR k = true ∧ s = valueW ++ k ++ [32]
  few : ts.length ≤ j + 1
theorem valueTexts_cons (ts ks : List Sp.Bs) (k : Sp.Bs) : Sp.valueTexts ts (k :: ks) = if Sp.legalR k = true ∧ (valueW ++ k ++ [32]) ∉ ts.drop 1 then Sp.valueTexts (ts ++ [valueW ++ k ++ [32]]) ks else Sp.valueTexts ts ks := by rw [Sp.valueTexts]; rfl
theorem legal_short {k : Sp.Bs} (h : Sp.legalR k = true) : k.length ≤ 250 := by
  unfold Sp.legalR at h
  simp only [Bool.and_eq_true, decide_eq_true_eq] at h
  exact h.1.2
/-- entries that were read -/
def EntsK (base : Nat) (l : List Sp.EntryV) (e : Ending) (w' : World) : Prop := ∃ E ec xs, xs.map EntX.e = l ∧ e = .returned (.slice E xs.length ec) ∧ EntsOwn w' base (.slice E xs.length ec) xs
structure ValuesLoop (w : World) (rb : Nat) (A : Option Addr) (cap : Nat) (raw : Sp.Bs) (v : Int) (r : Sp.RdV (List Sp.EntryV)) (C : Option Addr) (cc : Nat) (ks : List Sp.Bs) (ov : Value) (xs : List EntX) (k q : Nat) (wr : World) : Prop where
  rd : RdAt wr rb A cap raw q
  own : EntsOwn wr w.heap.size ov xs
  only : OnlyIn [rb] w wr
  keys : RowAt wr C (ks.map str)
  room : ks.length ≤ cc
  away : ks ≠ [] → ∀ a, C = some a → a.block ≠ rb
  old : ks ≠ [] → ∀ a, C = some a → a.block < w.heap.size
  short : ks.length ≤ 4000000 ∧ ∀ k ∈ ks, k.length ≤ 140737488355328
  go : Sp.valuesFrom raw v k ks (xs.map EntX.e) q = r
  fuel : ks.length < k
  few : xs.length ≤ q
theorem own_some {w : World} {base : Nat} {e : TypeId} {size n c : Nat} {A : Option Addr} {xs : List Value} (h : w.ownsRow base e size (.slice A n c) n xs) (hn : n ≠ 0) : ∃ g, A = some ⟨g, 0, none⟩ := by
  rcases h.2 with ⟨h1, _⟩ | ⟨g, cap, cur, h1, _⟩
  · injection h1 with _ h2 _
    exact absurd h2 hn
  · injection h1 with h1 _ _
    exact ⟨g, h1⟩
theorem cat_three (s : Sp.Bs) : (({ data := #[86, 65, 76, 85, 69, 32] } : ByteArray) ++ { data := s.toArray } ++ { data := #[32] }) = ⟨(valueW ++ s ++ [32]).toArray⟩ := by
  rw [← bytes_mk (({ data := #[86, 65, 76, 85, 69, 32] } : ByteArray) ++ { data := s.toArray } ++ { data := #[32] })]
  congr 2
theorem EntsOwn.snoc {w w' : World} {base : Nat} {v : Value} {xs : List EntX} {x : EntX} {o : Obj} {g cap : Nat} (h : EntsOwn w base v xs) (hx : w.ownsRow base 5 1 x.val x.e.value.length (bytesV x.e.value))
    (hnew : ∀ k ∈ rowBlock x.val, ∀ y ∈ xs, k ∉ rowBlock y.val) (hown : w'.ownsRow base 86 9 (.slice (some ⟨g, 0, none⟩) (xs.length + 1) cap) (xs.length + 1) (xs.flatMap EntX.cells ++ x.cells)) (hg : (w.alloc o).grownBy w' v.ownBlock) :
    EntsOwn w' base (.slice (some ⟨g, 0, none⟩) (xs.length + 1) cap) (xs ++ [x]) := by
  have hal : Below w.heap.size w (w.alloc o) := (Below.refl _ _).alloc (Nat.le_refl _) _
  have hstay : ∀ {y : EntX}, w.ownsRow base 5 1 y.val y.e.value.length (bytesV y.e.value) → w'.ownsRow base 5 1 y.val y.e.value.length (bytesV y.e.value) := fun {y} hy => own_same hy fun k hk => by
    have hlt := own_lt hy k hk
    refine (hg.block k (Nat.lt_of_lt_of_le hlt hal.size) fun e => ?_).trans (hal.block k hlt)
    have hk' := mem_rowBlock.1 hk
    rcases own_own_apart hy h.row (by decide) with h1 | h1
    · rw [h1] at hk'; cases hk'
    · exact h1 (hk'.trans e)
  refine ⟨?_, fun y hy => ?_, ?_⟩
  · rw [List.length_append, List.length_singleton, List.flatMap_append, List.flatMap_singleton]; exact hown
  · rcases List.mem_append.1 hy with h1 | h1
    · exact hstay (h.each y h1)
    · rw [List.mem_singleton.1 h1]; exact hstay hx
  · rw [List.flatMap_append, List.flatMap_singleton, List.nodup_append]
    refine ⟨h.apart, ?_, fun a ha b hb => ?_⟩
    · unfold rowBlock; cases x.val.ownBlock <;> simp
    · rintro rfl
      obtain ⟨y, hy, hay⟩ := List.mem_flatMap.1 ha
      exact hnew a hb y hy hay
theorem cut_block {A : Option Addr} {a cap : Nat} {x : Addr} (h : cutAddr A a cap = some x) : ∃ y, A = some y ∧ x.block = y.block := by
  unfold cutAddr at h
  split at h
  · exact ⟨x, h, rfl⟩
  · cases A with
    | none => cases h
    | some y =>
      injection h with h
      refine ⟨y, rfl, ?_⟩
      rw [← h]
      unfold Addr.add
      split <;> rfl
def lenOf : Value → Nat
  | .slice _ n _ => n
  | _ => 0
theorem info_ent : (Tryz.prog.info? 86).map (fun i => (i.zero, i.size, i.bytes)) = some (some (.agg #[.string ⟨#[]⟩, .slice none 0 0, .int .u64 0, .int .i64 0, .int .u64 0, .int .i64 0, .bool false, .bool false, .bool false]), 9, 80) := by kernel_rfl
end Go.Proofs.YtnbeeehfapjpdaaGreatDoor
