/- Appends of bytes onto a row of the call's own whose block may bear a mark (what a text's conversion gives). -/
import Derived.Test.YticigfpieeoolaaGreatDoorY5
import Derived.Deep.AppendSrc
import Derived.Deep.Upon
namespace Go.Proofs.YticigfpieeoolaaGreatDoor
open Go.RowKit

theorem tape_setCells (b : Nat) : ∀ (vs : List Value) (o : Nat) (w : World), (w.setCells b o vs).tape = w.tape
  | [], _, _ => rfl
  | _ :: vs, o, _ => (tape_setCells b vs (o + 1) _).trans rfl
theorem size_setCells' (b : Nat) : ∀ (vs : List Value) (o : Nat) (w : World), (w.setCells b o vs).heap.size = w.heap.size
  | [], _, _ => rfl
  | _ :: vs, o, w => (size_setCells' b vs (o + 1) _).trans (by simp [World.setCell])
theorem below_setCells_size (g : Nat) (vs : List Value) (o : Nat) (w : World) : w.heap.size ≤ (w.setCells g o vs).heap.size := Nat.le_of_eq (size_setCells' g vs o w).symm

/-- the row in block g is the call's own: n bytes, and room up to cap; none of it is frozen -/
structure Free (w : World) (base g n cap : Nat) (l : Sp.Bs) : Prop where
  ge : base ≤ g
  lt : g < w.heap.size
  len : l.length = n
  room : n ≤ cap
  small : cap ≤ maxLen
  there : ∀ j, j < cap → (w.cell? ⟨g, j, none⟩).isSome = true ∧ w.frozen? ⟨g, j, none⟩ = false
  cells : ∀ j u, (bytesV l)[j]? = some u → w.cell? ⟨g, j, none⟩ = some u

section
variable {w : World} {base g n cap m : Nat} {l k : Sp.Bs}
theorem Free.row (h : Free w base g n cap l) : RowAt w (some ⟨g, 0, none⟩) (bytesV l) := .inr ⟨g, 0, rfl, h.lt, fun j u hu => by rw [Nat.zero_add]; exact h.cells j u hu⟩
theorem Free.later {w' : World} (h : Free w base g n cap l) (hb : Below w.heap.size w w') : Free w' base g n cap l := by
  have hh := hb.block g h.lt
  have hc : ∀ j, w'.cell? ⟨g, j, none⟩ = w.cell? ⟨g, j, none⟩ := fun j => World.cell?_of_block hh
  have hf : ∀ j, w'.frozen? ⟨g, j, none⟩ = w.frozen? ⟨g, j, none⟩ := fun j => World.frozen?_of_block hh
  exact ⟨h.ge, Nat.lt_of_lt_of_le h.lt hb.size, h.len, h.room, h.small, fun j hj => by rw [hc, hf]; exact h.there j hj, fun j u hu => by rw [hc]; exact h.cells j u hu⟩

theorem info_u8' : (Tryz.prog.info? 5).map (fun i => (i.zero, i.size, i.bytes)) = some (some (.int .u8 0), 1, 1) := by kernel_rfl

theorem run_append_free {tx ty : TypeId} (h : Free w base g n cap l) {x : Value} (hs : Src Tryz.prog 1 tx x m (bytesV k) w) (hk : k.length = m) (h47 : n + m ≤ 140737488355328) (hbase : base ≤ w.heap.size) :
    ∃ g' cap' w', (Builtin.append_ #[38, tx] ty #[.slice (some ⟨g, 0, none⟩) n cap, x]).run Tryz.prog w = .ok (.slice (some ⟨g', 0, none⟩) (n + m) cap') w' ∧
      Free w' base g' (n + m) cap' (l ++ k) ∧ w.grownBy w' (some g) := by
  obtain ⟨i, hi, hz, hsz, hby⟩ := info_parts info_u8'
  have hkl : (bytesV k).length = m := by rw [bytesV_length, hk]
  have hll : (bytesV l).length = n := by rw [bytesV_length, h.len]
  by_cases hroom : n + m ≤ cap
  · have hr := run_append_room_src (P := Tryz.prog) w 38 tx ty 5 i Tryz.underlying38 hi g 0 n cap x m (bytesV k) (by rw [hsz]; exact hs) hroom
      (fun j hj => by rw [hsz]; exact (h.there _ (by omega)).1) (fun j hj => by rw [hsz]; exact (h.there _ (by omega)).2)
    rw [hsz, Nat.zero_add, Nat.mul_one] at hr
    refine ⟨g, cap, _, hr, ⟨h.ge, ?_, by rw [List.length_append, h.len, hk], hroom, h.small, fun j hj => ?_, fun j u hu => ?_⟩, ?_⟩
    · exact Nat.lt_of_lt_of_le h.lt (below_setCells_size g (bytesV k) n w)
    · rw [World.frozen?_setCells]
      exact ⟨World.isSome_setCells g _ _ _ _ (h.there j hj).1, (h.there j hj).2⟩
    · have hap : bytesV (l ++ k) = bytesV l ++ bytesV k := by simp [bytesV]
      rw [hap] at hu
      rcases Nat.lt_or_ge j n with hj | hj
      · rw [List.getElem?_append_left (by omega)] at hu
        rw [World.cell?_setCells_out g _ _ _ ⟨g, j, none⟩ (fun _ _ => .inl hj)]
        exact h.cells j u hu
      · rw [List.getElem?_append_right (by omega), hll] at hu
        have hj2 := (List.getElem?_eq_some_iff.1 hu).1
        have := World.cell?_setCells_in g (bytesV k) n w (fun j hj => (h.there _ (by omega)).1) (j - n) hj2
        rw [show n + (j - n) = j by omega] at this
        rw [this]
        have := (List.getElem?_eq_some_iff.1 hu).2
        simp [this]
    · exact ⟨World.os_setCells w g n _, tape_setCells g _ _ _, World.output_setCells w g n _, below_setCells_size g _ _ _, fun i hi hne => World.heap_setCells_other w g n _ hi (fun e => hne (by rw [e]))⟩
  · have hold : (Builtin.firstCells i.size n (.slice (some ⟨g, 0, none⟩) n cap)).run Tryz.prog w.drew = .ok (bytesV l).toArray w.drew := by
      rw [hsz]
      refine run_firstCells_some w.drew 1 n ⟨g, 0, none⟩ n cap (bytesV l) (by omega) (fun j u hu => ?_)
      rw [Addr.add_mid, Nat.zero_add]
      exact h.cells j u hu
    have hgf := growslice_fits (need := n + m) (old := cap) (bytes := 1) (by omega) (by omega)
    have hr := run_append_grow_src (P := Tryz.prog) w 38 tx ty 5 i _ Tryz.underlying38 hi hz (some ⟨g, 0, none⟩) n cap (bytesV l) hold x m (bytesV k) (by rw [hsz]; exact hs) (by omega) (by omega) (by rw [hby]; exact hgf)
    have hge := grownCap_ge w (n + m) cap 5
    have hcm : grownCap w (n + m) cap 5 ≤ maxLen := grownCap_le_maxLen w (n + m) cap _ (by unfold maxLen; omega)
    generalize grownCap w (n + m) cap 5 = cp at hr hge hcm
    refine ⟨_, _, _, hr, ⟨hbase, by simp, by rw [List.length_append, h.len, hk], hge, hcm, fun j hj => ?_, fun j u hu => ?_⟩, ⟨rfl, rfl, rfl, by simp, fun k hk _ => heap_alloc_old w.drew _ hk⟩⟩
    · have hh := heap_alloc_new w.drew (.cells ((bytesV l ++ bytesV k).toArray ++ Builtin.zeroCells (Value.int .u8 0).cells (cp - (n + m))) 5)
      change (World.alloc _ _).heap[w.heap.size]? = _ at hh
      refine ⟨?_, ?_⟩
      · unfold World.cell?
        rw [hh]
        simp only [Option.isSome_none, Bool.false_eq_true, if_false]
        rw [Array.getElem?_eq_getElem (by simp [size_zeroCells, Value.cells, hkl, hll]; omega)]
        rfl
      · unfold World.frozen?
        rw [hh]
        simp
    · have hh := heap_alloc_new w.drew (.cells ((bytesV l ++ bytesV k).toArray ++ Builtin.zeroCells (Value.int .u8 0).cells (cp - (n + m))) 5)
      change (World.alloc _ _).heap[w.heap.size]? = _ at hh
      have hap : bytesV (l ++ k) = bytesV l ++ bytesV k := by simp [bytesV]
      rw [hap] at hu
      unfold World.cell?
      rw [hh]
      simp only [Option.isSome_none, Bool.false_eq_true, if_false]
      rw [Array.getElem?_append_left (by have := (List.getElem?_eq_some_iff.1 hu).1; simpa using this)]
      simpa using hu

theorem wpList_append_free {ops : Array Oper} {rest : List Oper} {o : Oper} {a : Act} {Q : Exit → Act → World → Prop} (hgd : o.guard = none) (s x : Operand) (tx : TypeId)
    (ho : o.op = .call { callee := .builtin .append, args := #[s, x], argTypes := #[38, tx] }) (hs : a.eval s = .slice (some ⟨g, 0, none⟩) n cap) (h : Free w base g n cap l) {xv : Value} (hx : a.eval x = xv)
    (k : Sp.Bs) (m : Nat) (hsrc : Src Tryz.prog 1 tx xv m (bytesV k) w) (hk : k.length = m) (h47 : n + m ≤ 140737488355328) (hbase : base ≤ w.heap.size)
    (hK : ∀ g' cap' w', Free w' base g' (n + m) cap' (l ++ k) → w.grownBy w' (some g) → wpList Tryz.prog ops Q rest (a.put o.dst (.slice (some ⟨g', 0, none⟩) (n + m) cap')) w') :
    wpList Tryz.prog ops Q (o :: rest) a w := by
  refine wpList_plain hgd fun K hK' => ?_
  obtain ⟨g', cap', w', hr, h2, h3⟩ := run_append_free (ty := o.type) h hsrc hk h47 hbase
  unfold Oper.wp execOp
  simp only [ho, resolve, invoke, builtin, Sem.run_bind, Sem.run_pure, Result.andThen_ok, List.map_toArray, List.map_cons, List.map_nil, hs, hx, hr]
  exact hK' _ _ (hK _ _ _ h2 h3)

/-- bytes that lie in a row, to be appended -/
theorem src_row {A : Option Addr} {c : Nat} (hr : RowAt w A (bytesV k)) (hA : A = none → c = 0) : Src Tryz.prog 1 38 (.slice A k.length c) k.length (bytesV k) w := by
  cases A with
  | none =>
    obtain rfl := hA rfl
    rcases hr with h0 | ⟨_, _, h, _⟩
    · have : k = [] := by simpa [bytesV] using h0
      subst this
      exact Src.ofNil w Tryz.underlying38 0
    · cases h
  | some a =>
    refine Src.ofSlice w Tryz.underlying38 a k.length c (bytesV k) (by rw [bytesV_length, Nat.mul_one]) hr.cells (fun u hu => ?_)
    obtain ⟨b, _, rfl⟩ := List.mem_map.1 hu
    rfl
/-- a text, to be appended -/
theorem src_text (w : World) (k : Sp.Bs) : Src Tryz.prog 1 9 (str k) k.length (bytesV k) w := by
  have := Src.ofString (P := Tryz.prog) w Tryz.underlying9 ⟨k.toArray⟩
  rw [str_size] at this
  have e : byteCells ⟨k.toArray⟩ = bytesV k := by simp [byteCells, bytesV]
  rwa [e] at this
end

/-- a text's bytes in new memory, with their room -/
theorem convert_free (w2 : World) (l : Sp.Bs) {base : Nat} (hb : base ≤ w2.heap.size) (hl : l.length ≤ maxLen) : ∃ W3 cp2, (convert 9 38 (.string ⟨l.toArray⟩)).run Tryz.prog w2 = .ok (.slice (some ⟨w2.heap.size, 0, none⟩) l.length cp2) W3 ∧
    Free W3 base w2.heap.size l.length cp2 l ∧ Below w2.heap.size w2 W3 := by
  have h := run_bytes_of_string (P := Tryz.prog) w2 9 38 5 ⟨l.toArray⟩ Tryz.underlying9 Tryz.underlying38 Tryz.underlying5
  rw [str_size] at h
  have hge := grownCap_ge w2 l.length 0 5
  have hcm := grownCap_le_maxLen w2 l.length 0 5 hl
  generalize grownCap w2 l.length 0 5 = cp at h hge hcm
  have hh := heap_alloc_new w2.drew (.cells (bytesRow ⟨l.toArray⟩ cp) 5 ((bytesRow ⟨l.toArray⟩ cp).size, (bytesRow ⟨l.toArray⟩ cp).size + 1))
  change (World.alloc _ _).heap[w2.heap.size]? = _ at hh
  have hsz : (bytesRow ⟨l.toArray⟩ cp).size = cp := by simp [bytesRow, str_size]; omega
  refine ⟨_, _, h, ⟨hb, by simp, rfl, hge, hcm, fun j hj => ⟨?_, ?_⟩, fun j u hu => ?_⟩, ((Below.refl _ _).drew).alloc (Nat.le_refl _) _⟩
  · unfold World.cell?
    rw [hh]
    simp only [Option.isSome_none, Bool.false_eq_true, if_false]
    rw [Array.getElem?_eq_getElem (by rw [hsz]; exact hj)]
    rfl
  · unfold World.frozen?
    rw [hh]
    simp [hsz]
    omega
  · unfold World.cell?
    rw [hh]
    simp only [Option.isSome_none, Bool.false_eq_true, if_false]
    have hj : j < l.length := by have := (List.getElem?_eq_some_iff.1 hu).1; rwa [bytesV_length] at this
    unfold bytesRow
    rw [Array.getElem?_append_left (by simpa using hj)]
    simpa [bytesV] using hu
end Go.Proofs.YticigfpieeoolaaGreatDoor
