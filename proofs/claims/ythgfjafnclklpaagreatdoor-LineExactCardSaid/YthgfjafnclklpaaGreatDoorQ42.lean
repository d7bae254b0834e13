/- Lists of flags that were told: taken in; written full and grown (its parts). Bytes that are lent: with marks behind them; looked at; written over. -/
import Derived.Test.YthgfjafnclklpaaGreatDoorBx
import Derived.Test.YthgfjafnclklpaaGreatDoorRE
import Derived.Test.YthgfjafnclklpaaGreatDoorQ39
import Derived.Test.YthgfjafnclklpaaGreatDoorL2
import Derived.Test.YthgfjafnclklpaaGreatDoorOc
import Derived.Laws.MakeOwn
section
namespace Go.Proofs.YthgfjafnclklpaaGreatDoor
attribute [local go_sem ↓] Go.wp_at_zero Go.wp_at_succ
open Go.RowKit

/-- the mark of place k of the i-th list of flags -/
def markF (i k : Nat) : List Value := [.int .u8 (IntKind.u8.wrap (k : Int)), str (Lib.decDigits i), .bool false]
theorem run_store_flag (w : World) (b o : Nat) (l : Int) (s : ByteArray) (h : Bool) (ht : canPut w b o 3 = true) :
    (storeVar 94 ⟨b, o, none⟩ (.agg #[.int .u8 l, .string s, .bool h])).run Tryz.prog w = .ok () (w.setCells b o [.int .u8 l, .string s, .bool h]) :=
  run_storeVar_mid w b o _ _ (canPut_there ht) (by kernel_rfl) (by simp [Value.oneCell'])
theorem canPut_of {w : World} {b o n : Nat} (h : ∀ j, j < n → (w.cell? ⟨b, o + j, none⟩).isSome = true ∧ w.frozen? ⟨b, o + j, none⟩ = false) : canPut w b o n = true := by
  unfold canPut
  rw [List.all_eq_true]
  intro j hj
  have := h j (by simpa using hj)
  simpa using this
/-- a new element of several cells, to be appended -/
theorem src_agg (w : World) {tx e : TypeId} (ht : Tryz.prog.underlying tx = some (.slice e)) (cs : List Value) (h1 : ∀ u ∈ cs, u.oneCell' = true) (t : TypeId) : Src Tryz.prog cs.length tx (.slice (some ⟨w.heap.size, 0, none⟩) 1 1) 1 cs (w.alloc (.cells cs.toArray t)) :=
  Src.ofSlice _ ht _ 1 1 cs (by rw [Nat.one_mul]) (fun j v hv => by
    have hb := (Blk.new w t cs.toArray).cell j
    rw [Addr.add_mid, Nat.zero_add, hb]; simpa using hv) h1

/-- the lists of flags in block mk -/
structure FlagsAt (w : World) (f : Nat → Lab) (mk : Nat) (fv : Value) (vs : List Value) (ns : Nat → Nat) : Prop where
  blk : Blk w mk 57 #[fv]
  self : f mk = (50, 0)
  row : RowL w f (62, 0) fv vs
  lots : LotsAt w f 52 3 vs ns (fun _ => 0) (fun i => markF i)
  few : vs.length ≤ 300
  big : ∀ i, ns i ≤ 1000000
def OnF (l : Lab) : Prop := l = (50, 0) ∨ l = (62, 0)
def NotFlags (P : Lab → Prop) : Prop := ¬ P (50, 0) ∧ ¬ P (62, 0) ∧ ∀ i, ¬ P (52, i)
section
variable {w w1 : World} {f f1 : Nat → Lab} {P : Lab → Prop} {mk : Nat} {fv : Value} {vs : List Value} {ns : Nat → Nat}
theorem FlagsAt.apart (h : FlagsAt w f mk fv vs ns) (ho : OnlyL f f1 P w w1) (hn : NotFlags P) : FlagsAt w1 f1 mk fv vs ns :=
  { h with
    blk := h.blk.same (ho.block mk h.blk.lt (by rw [h.self]; exact hn.1))
    self := by rw [ho.lab mk h.blk.lt]; exact h.self
    row := h.row.apart ho hn.2.1
    lots := h.lots.apart ho hn.2.2 }
theorem FlagsAt.later (h : FlagsAt w f mk fv vs ns) (hb : Below w.heap.size w w1) (hf : ∀ k, k < w.heap.size → f1 k = f k) : FlagsAt w1 f1 mk fv vs ns :=
  { h with
    blk := h.blk.later hb
    self := by rw [hf mk h.blk.lt]; exact h.self
    row := ⟨h.row.lot.later hb, fun g hg => (hf g (h.row.lot.lt g hg)).trans (h.row.lab g hg)⟩
    lots := fun i u hu => ⟨(h.lots i u hu).1.later hb, fun g hg => (hf g ((h.lots i u hu).1.lt g hg)).trans ((h.lots i u hu).2 g hg)⟩ }
theorem FlagsAt.new (w : World) (f : Nat → Lab) (hf : f w.heap.size = (50, 0)) : FlagsAt (w.alloc (.cells #[nilRow] 57)) f w.heap.size nilRow [] (fun _ => 0) :=
  ⟨Blk.new w _ _, hf, RowL.nil _ _ _, LotsAt.nil _ _ _ _ _ _ _, by decide, fun _ => by decide⟩
end

attribute [-go_sem] storeVar loadVar
theorem loadVar_flagsB (a : Addr) : type_of% (loadVar.eq_1 36 a) := loadVar.eq_1 36 a
theorem loadVar_flagssB (a : Addr) : type_of% (loadVar.eq_1 55 a) := loadVar.eq_1 55 a
attribute [local go_sem] storeVar_intB storeVar_sliceB storeVar_strB loadVar_flagsB loadVar_flagssB run_store_flag

end Go.Proofs.YthgfjafnclklpaaGreatDoor
end
section
namespace Go.Proofs.YthgfjafnclklpaaGreatDoor
attribute [local go_sem ↓] Go.wp_at_zero Go.wp_at_succ
open Go.RowKit

/-- bytes, and the marks behind them -/
def lentF (l : Sp.Bs) (k : Nat) : List Value := if k < l.length then [.int .u8 (l.getD k 0).toNat] else [.int .u8 (165 - (k - l.length : Nat))]
theorem lentF_low {l : Sp.Bs} {k : Nat} (h : k < l.length) : lentF l k = [.int .u8 (l.getD k 0).toNat] := if_pos h
theorem Lot.of_own {w : World} {base : Nat} {e : TypeId} {sz n : Nat} {v : Value} {xs : List Value} {F : Nat → List Value} (h : w.ownsRow base e sz v n xs) (hF : ∀ k, (F k).length = sz) (hx : ∀ k, k < n → ∀ (c : Nat) (u : Value), (F k)[c]? = some u → xs[k * sz + c]? = some u) : Lot w sz v n n F := by
  rcases h.2 with ⟨rfl, rfl⟩ | ⟨g, cap, cur, rfl, _, hg, h1, h2, h3, h4⟩
  · exact .inl ⟨rfl, rfl, rfl⟩
  · have hk : Blk w g e cur := hg
    refine .inr ⟨g, cap, rfl, Nat.le_refl _, h1, h2, hk.lt, fun j hj => ⟨?_, hk.frozen j⟩, fun k hk1 c u hu => ?_⟩
    · rw [hk.cell j]
      rw [← h3] at hj
      simp [hj]
    · rw [hk.cell]
      have hy := hx k hk1 c u hu
      have hc : c < sz := by rw [← hF k]; exact (List.getElem?_eq_some_iff.1 hu).1
      have hlt : k * sz + c < n * sz := (mul_add_cmp hc).2 hk1
      rw [← h4, List.getElem?_take_of_lt hlt] at hy
      simpa using hy
attribute [-go_sem] storeVar loadVar
attribute [local go_sem] storeVar_intB storeVar_sliceB loadVar_u8B

/-- lent bytes lie in block g -/
def LentB (w : World) (g c : Nat) (l : Sp.Bs) : Prop := LotAt w 1 g (l.length + 70) c (l.length + 70) (lentF l)
theorem LentB.later {w w' : World} {g c : Nat} {l : Sp.Bs} (h : LentB w g c l) (hb : Below w.heap.size w w') : LentB w' g c l :=
  ⟨h.room, h.small, Nat.lt_of_lt_of_le h.lt hb.size, fun j hj => by rw [World.cell?_of_block (hb.block g h.lt), World.frozen?_of_block (hb.block g h.lt)]; exact h.there j hj, fun k hk c u hu => by rw [World.cell?_of_block (hb.block g h.lt)]; exact h.cells k hk c u hu⟩
theorem LentB.row {w : World} {g c : Nat} {l : Sp.Bs} (h : LentB w g c l) : RowAt w (some ⟨g, 0, none⟩) (bytesV l) := by
  refine .inr ⟨g, 0, rfl, h.lt, fun j u hu => ?_⟩
  have hj : j < l.length := by have := (List.getElem?_eq_some_iff.1 hu).1; simpa [bytesV] using this
  have := h.cells j (by omega) 0 (.int .u8 (l.getD j 0).toNat) (by rw [lentF_low hj]; rfl)
  rw [Nat.mul_one, Nat.add_zero] at this
  rw [Nat.zero_add, this]
  rw [← hu]
  simp [bytesV, List.getD_eq_getElem?_getD, List.getElem?_eq_getElem hj]

end Go.Proofs.YthgfjafnclklpaaGreatDoor
end
