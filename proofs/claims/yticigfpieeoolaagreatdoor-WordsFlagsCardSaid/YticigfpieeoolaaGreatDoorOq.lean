/- Arguments opened: slices of whatever elements, texts, flags. -/
import Derived.Test.YticigfpieeoolaaGreatDoorOp
import Derived.Deep.Slices
import Derived.SizedLaws
import Derived.Lib.SmallJoins
namespace Go.Proofs.YticigfpieeoolaaGreatDoor
open Go.ChangeShapes Go.WideShapes Go.ChangeAt Go.RowKit

section
variable {H : Type} {enc : TypeId × Value → H} {w : World} {held : Bool}

theorem list_of {α : Type} {p : Nat → α → Prop} : ∀ {n : Nat}, (∀ i, i < n → ∃ x, p i x) → ∃ l : List α, l.length = n ∧ ∀ i x, l[i]? = some x → p i x
  | 0, _ => ⟨[], rfl, fun i x h => by simp at h⟩
  | n + 1, h => by
    obtain ⟨l, h1, h2⟩ := list_of (p := p) (n := n) (fun i hi => h i (by omega))
    obtain ⟨x, hx⟩ := h n (Nat.lt_succ_self n)
    refine ⟨l ++ [x], by simp [h1], fun i y hy => ?_⟩
    rcases Nat.lt_or_ge i l.length with hl | hl
    · rw [List.getElem?_append_left hl] at hy; exact h2 i y hy
    · rw [List.getElem?_append_right hl] at hy
      rcases Nat.eq_or_lt_of_le hl with e | e
      · have : i - l.length = 0 := by omega
        rw [this] at hy; simp at hy; subst hy; rw [← e, h1]; exact hx
      · rw [List.getElem?_eq_none (by simp; omega)] at hy; cases hy

theorem flatMap_at {α β : Type} {f : α → List β} {k : Nat} : ∀ {l : List α}, (∀ a ∈ l, (f a).length = k) → ∀ {j : Nat} {u : β}, (l.flatMap f)[j]? = some u → ∃ i a r, l[i]? = some a ∧ (f a)[r]? = some u ∧ j = i * k + r ∧ r < k
  | [], _, j, u, h => by simp at h
  | a :: t, hf, j, u, h => by
    rw [List.flatMap_cons] at h
    have ha := hf a (by simp)
    rcases Nat.lt_or_ge j k with hj | hj
    · rw [List.getElem?_append_left (by omega)] at h
      exact ⟨0, a, j, rfl, h, by simp, hj⟩
    · rw [List.getElem?_append_right (by omega), ha] at h
      obtain ⟨i, b, r, h1, h2, h3, h4⟩ := flatMap_at (fun x hx => hf x (by simp [hx])) h
      exact ⟨i + 1, b, r, by simpa using h1, h2, by rw [Nat.succ_mul]; omega, h4⟩

theorem open_list {α : Type} (cells : α → List Value) (Q : α → DataW H → Prop) {k : Nat} (hk0 : 0 < k) (hlen : ∀ a, (cells a).length = k) {t e : TypeId} {n : Nat} {v : Value} {y : DataW H × List MemPlace}
    (ht : Tryz.prog.underlying t = some (.slice e)) (hk : Tryz.prog.cellsOf e = k)
    (conv : ∀ (n : Nat) (cs : List Value) (x : DataW H × List MemPlace), DataW.trod enc Tryz.prog w 0 (fun _ => true) held n e cs = some x → cs.length = k → ∃ a, cs = cells a ∧ Q a x.1)
    (h : DataW.trod enc Tryz.prog w 0 (fun _ => true) held n t [v] = some y) :
    ∃ (A : Option Addr) (cap : Nat) (l : List α), v = .slice A l.length cap ∧ RowAt w A (l.flatMap cells) ∧ l.length ≤ cap ∧ cap ≤ 9223372036854775807 ∧ (A = none → cap = 0) ∧
      ((l = [] ∧ y.1 = .nil) ∨ ∃ es sp : List (DataW H), y.1 = .slice es sp ∧ es.length = l.length ∧ es.length + sp.length = cap ∧ ∀ (i : Nat) (a : α), l[i]? = some a → ∃ d : DataW H, es[i]? = some d ∧ Q a d) := by
  rcases Deep.open_slice ht h with ⟨h1, h2⟩ | ⟨a, len, cap, m, n', D, Pl, h1, _, hlc, hcm, hm, hx, hel⟩
  · injection h1 with h1
    exact ⟨none, 0, [], h1, .inl rfl, Nat.le_refl _, by decide, fun _ => rfl, .inl ⟨rfl, by rw [h2]⟩⟩
  · injection h1 with h1
    rw [if_pos rfl] at hm
    subst hm
    rw [hk] at hel
    obtain ⟨l, hl, hp⟩ := list_of (p := fun i (b : α) => (∀ r u, (cells b)[r]? = some u → w.cell? ((a.add (i * k)).add r) = some u) ∧ Q b (D i)) (n := len) (fun i hi => by
      obtain ⟨cs', h2, h3⟩ := hel i (by omega)
      obtain ⟨_, h4, h5⟩ := World.cells?_some h2
      obtain ⟨b, rfl, hq⟩ := conv _ _ _ h3 h4
      exact ⟨b, fun r u hu => by
        rw [h5 r (by rw [← h4]; exact (List.getElem?_eq_some_iff.1 hu).1)]; exact hu, hq⟩)
    have hrow : RowAt w (some a) (l.flatMap cells) := by
      cases l with
      | nil => exact .inl rfl
      | cons b0 t0 =>
        obtain ⟨u0, hu0⟩ : ∃ u0, (cells b0)[0]? = some u0 := ⟨_, List.getElem?_eq_getElem (by rw [hlen]; exact hk0)⟩
        have h0 := (hp 0 b0 rfl).1 0 u0 hu0
        obtain ⟨b, o, sp⟩ := a
        cases sp with
        | some x =>
          exfalso
          simp [Addr.add, World.cell?] at h0
          split at h0 <;> cases h0
        | none =>
          refine .inr ⟨b, o, rfl, ?_, fun j u hu => ?_⟩
          · rw [Addr.add_mid, Addr.add_mid] at h0
            exact World.block_lt_of_cell? w _ h0
          · obtain ⟨i, c, r, g1, g2, g3, _⟩ := flatMap_at (k := k) (fun c _ => hlen c) hu
            have := (hp i c g1).1 r u g2
            rw [Addr.add_mid, Addr.add_mid] at this
            rw [g3, ← Nat.add_assoc]
            exact this
    refine ⟨some a, m, l, by rw [hl]; exact h1, hrow, by omega, by unfold maxLen at hcm; exact hcm, fun h => (by cases h), .inr ⟨_, _, by rw [hx], by simp [hl], by simp; omega, fun i c hc => ?_⟩⟩
    have hi : i < len := by rw [← hl]; exact (List.getElem?_eq_some_iff.1 hc).1
    exact ⟨D i, by simp [hi], (hp i c hc).2⟩

theorem str_back (s : ByteArray) : Value.string s = str s.data.toList := by cases s; simp [str]

set_option maxRecDepth 100000 in
/-- a flag that came in -/
theorem open_flag {n : Nat} {cs : List Value} {x : DataW H × List MemPlace} (h : DataW.trod enc Tryz.prog w 0 (fun _ => true) held n 79 cs = some x) (hl : cs.length = 3) :
    ∃ f : Sp.FlagV, cs = flagCells f ∧ ∃ d0 d2, x.1 = .agg [d0, .lit (.string f.arg), d2] := by
  obtain ⟨y0, y1, y2, n', rfl, _, h0, h1, h2⟩ := Deep.trod_struct3 Tryz.underlying79 h
  match cs, hl with
  | [c0, c1, c2], _ =>
    have e0 : Tryz.prog.cellsOf 5 = 1 := by kernel_rfl
    have e1 : Tryz.prog.cellsOf 9 = 1 := by kernel_rfl
    have e2 : Tryz.prog.cellsOf 4 = 1 := by kernel_rfl
    simp only [e0, e1, e2, List.drop_zero, List.drop_succ_cons, List.take_succ_cons, List.take_zero] at h0 h1 h2
    obtain ⟨z, g0, _, hw⟩ := DataW.trod_int Tryz.underlying5 h0
    obtain ⟨s, g1, k1, _⟩ := DataW.trod_string Tryz.underlying9 h1
    obtain ⟨b, g2, _⟩ := DataW.trod_bool Tryz.underlying4 h2
    injection g0 with g0
    injection g1 with g1
    injection g2 with g2
    subst g0; subst g1; subst g2
    have hbd := bounds_u8 hw
    refine ⟨⟨UInt8.ofNat z.toNat, s.data.toList, b⟩, ?_, y0.1, y2.1, by rw [k1]⟩
    have hz : ((UInt8.ofNat z.toNat).toNat : Int) = z := by
      rw [UInt8.toNat_ofNat', Nat.mod_eq_of_lt (by have : (2 : Nat) ^ 8 = 256 := rfl; omega), Int.toNat_of_nonneg hbd.1]
    show [Value.int .u8 z, .string s, .bool b] = [Value.int .u8 ((UInt8.ofNat z.toNat).toNat : Int), str s.data.toList, .bool b]
    rw [hz, ← str_back]

/-- flags that came in -/
theorem open_flags {n : Nat} {v : Value} {y : DataW H × List MemPlace} (h : DataW.trod enc Tryz.prog w 0 (fun _ => true) held n 39 [v] = some y) :
    ∃ (A : Option Addr) (cap : Nat) (l : List Sp.FlagV), v = .slice A l.length cap ∧ RowAt w A (flagsCells l) ∧ l.length ≤ cap ∧ cap ≤ 9223372036854775807 ∧ (A = none → cap = 0) ∧
      ((l = [] ∧ y.1 = .nil) ∨ ∃ es sp : List (DataW H), y.1 = .slice es sp ∧ es.length = l.length ∧ es.length + sp.length = cap ∧ ∀ (i : Nat) (f : Sp.FlagV), l[i]? = some f → ∃ d : DataW H, es[i]? = some d ∧ ∃ d0 d2 : DataW H, d = .agg [d0, .lit (.string (Sp.FlagV.arg f)), d2]) :=
  open_list flagCells (fun f d => ∃ d0 d2 : DataW H, d = .agg [d0, .lit (.string f.arg), d2]) (by decide) (fun _ => rfl) Tryz.underlying39 (by kernel_rfl) (fun _ _ _ h hl => open_flag h hl) h

/-- texts that came in -/
theorem open_texts {n : Nat} {v : Value} {y : DataW H × List MemPlace} (h : DataW.trod enc Tryz.prog w 0 (fun _ => true) held n 36 [v] = some y) :
    ∃ (A : Option Addr) (cap : Nat) (l : List Sp.Bs), v = .slice A l.length cap ∧ RowAt w A (l.map str) ∧ l.length ≤ cap ∧ cap ≤ 9223372036854775807 ∧ (A = none → cap = 0) ∧
      ((l = [] ∧ y.1 = .nil) ∨ ∃ es sp : List (DataW H), y.1 = .slice es sp ∧ es.length = l.length ∧ es.length + sp.length = cap ∧ ∀ (i : Nat) (x : Sp.Bs), l[i]? = some x → ∃ d : DataW H, es[i]? = some d ∧ d = .lit (.string x)) := by
  obtain ⟨A, cap, l, h1, h2, h3⟩ := open_list (fun x : Sp.Bs => [str x]) (fun x d => d = .lit (.string x)) (by decide) (fun _ => rfl) Tryz.underlying36 (by kernel_rfl) (fun _ _ x h hl => by
    obtain ⟨s, rfl, k1, _⟩ := DataW.trod_string Tryz.underlying9 h
    exact ⟨s.data.toList, by rw [str_back], by rw [k1]⟩) h
  exact ⟨A, cap, l, h1, by rw [List.map_eq_flatMap]; exact h2, h3⟩

/-! what the reach bounds -/
theorem weights_all {P : Program} {e : TypeId} {d : DataW H} : ∀ {ds : List (DataW H)} {i : Nat}, ds[i]? = some d → ∀ n ∈ d.weights P e, n ∈ DataW.weightsAll P e ds
  | [], _, h, _, _ => by simp at h
  | x :: t, 0, h, n, hn => by
    simp at h; subst h
    rw [DataW.weightsAll]
    exact List.mem_append_left _ hn
  | x :: t, i + 1, h, n, hn => by
    rw [DataW.weightsAll]
    exact List.mem_append_right _ (weights_all (by simpa using h) n hn)
theorem weights_slice {P : Program} {t e : TypeId} (ht : P.underlying t = some (.slice e)) {es sp : List (DataW H)} {B : Nat} (h : ∀ n ∈ (DataW.slice es sp).weights P t, n ≤ B) :
    (es.length + sp.length) * P.bytesOf e ≤ B ∧ ∀ (i : Nat) (d : DataW H), es[i]? = some d → ∀ n ∈ d.weights P e, n ≤ B := by
  rw [DataW.weights, ht] at h
  exact ⟨h _ (List.mem_cons_self ..), fun i d hd n hn => h n (List.mem_cons_of_mem _ (List.mem_append_left _ (weights_all hd n hn)))⟩
theorem weights_agg {P : Program} {t : TypeId} {fs : Array Field} (ht : P.underlying t = some (.struct fs)) {ps : List (DataW H)} {B : Nat} (h : ∀ n ∈ (DataW.agg ps).weights P t, n ≤ B) :
    ∀ (i : Nat) (f : Field) (d : DataW H), fs[i]? = some f → ps[i]? = some d → ∀ n ∈ d.weights P f.type, n ≤ B := by
  rw [DataW.weights, ht] at h
  exact fun i f d hf hd n hn => h n (DataW.weights_mem_each (j := i) (by rw [List.getElem?_map, Array.getElem?_toList, hf]; rfl) hd n hn)
/-- flags' lengths, by the reach -/
theorem reach_flags {l : List Sp.FlagV} {d : DataW H} {B : Nat} (h : (l = [] ∧ d = .nil) ∨ ∃ es sp : List (DataW H), d = .slice es sp ∧ es.length = l.length ∧ (∀ (i : Nat) (f : Sp.FlagV), l[i]? = some f → ∃ d : DataW H, es[i]? = some d ∧ ∃ d0 d2 : DataW H, d = .agg [d0, .lit (.string (Sp.FlagV.arg f)), d2]))
    (hw : ∀ n ∈ d.weights Tryz.prog 39, n ≤ B) : l.length * 32 ≤ B ∧ ∀ f ∈ l, f.arg.length ≤ B := by
  rcases h with ⟨rfl, _⟩ | ⟨es, sp, rfl, h1, h2⟩
  · exact ⟨by simp, fun f hf => by cases hf⟩
  · obtain ⟨g1, g2⟩ := weights_slice Tryz.underlying39 hw
    have e32 : Tryz.prog.bytesOf 79 = 32 := by kernel_rfl
    rw [e32] at g1
    refine ⟨by omega, fun f hf => ?_⟩
    obtain ⟨i, hi⟩ := List.getElem?_of_mem hf
    obtain ⟨d, hd, d0, d2, rfl⟩ := h2 i f hi
    have := weights_agg Tryz.underlying79 (g2 i _ hd) 1 _ (.lit (.string f.arg)) rfl rfl f.arg.length (by simp [DataW.weights])
    exact this
end
end Go.Proofs.YticigfpieeoolaaGreatDoor
