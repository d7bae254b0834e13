/- What the laws of words keep beside them: the Book and the lists of flags; one step of each. Walk of the statement WordsLine. From the listed table to what the walks ask. An argument of type [][]byte, opened. The row WordsLine; the statement. -/
import Derived.Test.YthgfjafnclklpaaGreatDoorQ27
import Derived.Test.YthgfjafnclklpaaGreatDoorQ36
import Derived.Test.YthgfjafnclklpaaGreatDoorQ39
import Derived.Test.YthgfjafnclklpaaGreatDoorSm
import Derived.Test.YthgfjafnclklpaaGreatDoorL2
import Derived.Test.YthgfjafnclklpaaGreatDoorQ47
import Derived.Test.YthgfjafnclklpaaGreatDoorA3
import Derived.Deep.RegionHeld3
import Derived.Test.YthgfjafnclklpaaGreatDoorKw
import Derived.Lib.LaidTab
import Derived.Test.YthgfjafnclklpaaGreatDoorPc
section
namespace Go.Proofs.YthgfjafnclklpaaGreatDoor
open Go.RowKit

/-- what changes in a step -/
def OnZ (l : Lab) : Prop := l ≠ (0, 0) ∧ l.1 ≠ 52
theorem onZ_of {l : Lab} {a b : Nat} (h : l = (a, b)) (ha : a ≠ 0) (hb : a ≠ 52) : OnZ l := by
  subst h
  exact ⟨fun e => ha (congrArg Prod.fst e), hb⟩
theorem OnT1.z {m : Nat} {l : Lab} (h : OnT1 m l) : OnZ l := by
  rcases h with h | h | h | h <;> exact onZ_of h (by decide) (by decide)
theorem OnB1.z {m : Nat} {l : Lab} (h : OnB1 m l) : OnZ l := by
  rcases h with h | h | h | h <;> exact onZ_of h (by decide) (by decide)
theorem OnF.z {l : Lab} (h : OnF l) : OnZ l := by
  rcases h with h | h <;> exact onZ_of h (by decide) (by decide)
theorem onZ_zero : ¬ OnZ (0, 0) := fun h => h.1 rfl

/-- the Book and the flags, beside what was there -/
structure WlF (w : World) (bk mk : Nat) (f : Nat → Lab) (tl gl : Nat) (wr : World) : Prop where
  book : ∃ b0 b1 t0 t1 n vs ws us xs bs ts, BookAt wr f bk b0 b1 t0 t1 nilRow n vs ws us xs [] bs ts [] ∧ ts.length = tl
  flags : ∃ fv gs ns, FlagsAt wr f mk fv gs ns ∧ gs.length = gl
  zero : ∀ k, k < w.heap.size → f k = (0, 0)
  below : Below w.heap.size w wr
section
variable {w wr w1 : World} {bk mk tl gl : Nat} {f f1 : Nat → Lab}
theorem WlF.later (h : WlF w bk mk f tl gl wr) (hb : Below wr.heap.size wr w1) (hf : ∀ k, k < wr.heap.size → f1 k = f k) : WlF w bk mk f1 tl gl w1 := by
  obtain ⟨b0, b1, t0, t1, n, vs, ws, us, xs, bs, ts, h1, h2⟩ := h.book
  obtain ⟨fv, gs, ns, h3, h4⟩ := h.flags
  exact ⟨⟨b0, b1, t0, t1, n, vs, ws, us, xs, bs, ts, h1.later hb hf, h2⟩, ⟨fv, gs, ns, h3.later hb hf, h4⟩, fun k hk => by rw [hf k (Nat.lt_of_lt_of_le hk h.below.size)]; exact h.zero k hk, h.below.trans (hb.mono h.below.size)⟩
theorem WlF.start (w : World) : ∃ f, WlF w w.heap.size (w.heap.size + 1) f 0 0 ((w.alloc (.cells (bookArr nilRow nilRow nilRow nilRow nilRow 0) 32)).alloc (.cells #[nilRow] 57)) := by
  have hs : (w.alloc (.cells (bookArr nilRow nilRow nilRow nilRow nilRow 0) 32)).heap.size = w.heap.size + 1 := by simp
  refine ⟨fun k => if k < w.heap.size then (0, 0) else if k = w.heap.size then (1, 0) else (50, 0), ⟨_, _, _, _, _, _, _, _, _, _, _, (BookAt.new w (fun k => if k < w.heap.size then (0, 0) else if k = w.heap.size then (1, 0) else (50, 0)) (by rw [if_neg (Nat.lt_irrefl _), if_pos rfl])).later ((Below.refl _ _).alloc (Nat.le_refl _) _) (fun _ _ => rfl), rfl⟩, ?_, fun k hk => if_pos hk, ((Below.refl _ _).alloc (Nat.le_refl _) _).alloc (by simp) _⟩
  have hn := FlagsAt.new (w.alloc (.cells (bookArr nilRow nilRow nilRow nilRow nilRow 0) 32)) (fun k => if k < w.heap.size then (0, 0) else if k = w.heap.size then (1, 0) else (50, 0)) (by rw [hs, if_neg (by omega), if_neg (by omega)])
  rw [hs] at hn
  exact ⟨_, _, _, hn, rfl⟩
theorem flags_notT {m : Nat} : NotFlags (OnT1 m) := ⟨onT1_no (by decide) (by decide) (by decide), onT1_no (by decide) (by decide) (by decide), fun _ => onT1_no (by decide) (by decide) (by decide)⟩
theorem flags_notB {m : Nat} : NotFlags (OnB1 m) := ⟨onB1_no (by decide) (by decide) (by decide), onB1_no (by decide) (by decide) (by decide), fun _ => onB1_no (by decide) (by decide) (by decide)⟩
theorem book_notF : NotBook OnF := by
  have hno : ∀ a b : Nat, a ≠ 50 → a ≠ 62 → ¬ OnF (a, b) := fun a b h1 h2 h => by
    rcases h with h | h
    · exact h1 (congrArg Prod.fst h)
    · exact h2 (congrArg Prod.fst h)
  exact ⟨hno _ _ (by decide) (by decide), fun _ => ⟨hno _ _ (by decide) (by decide), hno _ _ (by decide) (by decide), hno _ _ (by decide) (by decide)⟩, fun _ => ⟨hno _ _ (by decide) (by decide), hno _ _ (by decide) (by decide), hno _ _ (by decide) (by decide), hno _ _ (by decide) (by decide), hno _ _ (by decide) (by decide)⟩⟩
theorem WlF.zeroOn (h : WlF w bk mk f tl gl wr) (ho : OnlyL f f1 OnZ wr w1) : (∀ k, k < w.heap.size → f1 k = (0, 0)) ∧ Below w.heap.size w w1 :=
  ⟨fun k hk => by rw [ho.lab k (Nat.lt_of_lt_of_le hk h.below.size)]; exact h.zero k hk, h.below.trans (ho.below h.below.size (fun k hk => by rw [h.zero k hk]; exact onZ_zero))⟩
/-- a list of texts is taken in -/
theorem WlF.texts (h : WlF w bk mk f tl gl wr) {A : Option Addr} {c : Nat} {l : List Sp.Bs} (hl : LotT wr (.slice A l.length c) l) (hv : LabV f (.slice A l.length c) (3, tl)) (hlen : l.length ≤ 1000000000) :
    Calls Tryz.prog 22 #[.pointer (some ⟨bk, 0, none⟩), .slice A l.length c] wr fun e w' => e = .returned (.tuple #[]) ∧ ∃ f' tl', WlF w bk mk f' tl' gl w' ∧ OnlyL f f' OnZ wr w' := by
  obtain ⟨b0, b1, t0, t1, n, vs, ws, us, xs, bs, ts, h1, h2⟩ := h.book
  obtain ⟨fv, gs, ns, h3, h4⟩ := h.flags
  subst h2
  by_cases hn : n ≤ 200000
  · refine (bookTexts_any h1 hl hv hlen hn).mono ?_
    rintro e w' ⟨rfl, f', t0', t1', n', v, x, ho, hb⟩
    have hz := h.zeroOn (ho.mono fun _ h => h.z)
    exact ⟨rfl, f', _, ⟨⟨_, _, _, _, _, _, _, _, _, _, _, hb, rfl⟩, ⟨fv, gs, ns, h3.apart ho flags_notT, h4⟩, hz.1, hz.2⟩, ho.mono fun _ h => h.z⟩
  · refine (bookTexts_full (h1.blk.cell 26) (by omega)).mono ?_
    rintro e w' ⟨rfl, rfl⟩
    exact ⟨rfl, f, _, h, OnlyL.refl _ _ _⟩
/-- bytes are taken in -/
theorem WlF.bytes (h : WlF w bk mk f tl gl wr) {A : Option Addr} {c : Nat} {l : Sp.Bs} (hbl : ∀ b0 b1 t0 t1 n vs ws us xs bs ts, BookAt wr f bk b0 b1 t0 t1 nilRow n vs ws us xs [] bs ts [] → LabV f (.slice A l.length c) (2, bs.length)) (hl : LotB wr (.slice A l.length c) l) (hlen : l.length ≤ 70368744177664) :
    Calls Tryz.prog 14 #[.pointer (some ⟨bk, 0, none⟩), .slice A l.length c] wr fun e w' => e = .returned (.tuple #[]) ∧ ∃ f', WlF w bk mk f' tl gl w' ∧ OnlyL f f' OnZ wr w' := by
  obtain ⟨b0, b1, t0, t1, n, vs, ws, us, xs, bs, ts, h1, h2⟩ := h.book
  obtain ⟨fv, gs, ns, h3, h4⟩ := h.flags
  by_cases hn : n ≤ 200000
  · refine (bookBytes_any h1 hl (hbl _ _ _ _ _ _ _ _ _ _ _ h1) hlen hn).mono ?_
    rintro e w' ⟨rfl, f', b0', b1', n', v, x, ho, hb⟩
    have hz := h.zeroOn (ho.mono fun _ h => h.z)
    exact ⟨rfl, f', ⟨⟨_, _, _, _, _, _, _, _, _, _, _, hb, h2⟩, ⟨fv, gs, ns, h3.apart ho flags_notB, h4⟩, hz.1, hz.2⟩, ho.mono fun _ h => h.z⟩
  · refine (bookBytes_more (h1.blk.cell 26) (by omega)).mono ?_
    rintro e w' ⟨rfl, rfl⟩
    exact ⟨rfl, f, h, OnlyL.refl _ _ _⟩
theorem WlF.bytesNil (h : WlF w bk mk f tl gl wr) :
    Calls Tryz.prog 14 #[.pointer (some ⟨bk, 0, none⟩), .slice none 0 0] wr fun e w' => e = .returned (.tuple #[]) ∧ ∃ f', WlF w bk mk f' tl gl w' ∧ OnlyL f f' OnZ wr w' :=
  h.bytes (A := none) (c := 0) (l := []) (fun _ _ _ _ _ _ _ _ _ _ _ _ g hg => by cases hg) (.inl ⟨rfl, rfl, rfl⟩) (by decide)
/-- flags are taken in -/
theorem WlF.add (h : WlF w bk mk f tl gl wr) {A : Option Addr} {n c : Nat} {F : Nat → List Value} (hl : Lot wr 3 (.slice A n c) n 0 F) (hv : LabV f (.slice A n c) (52, gl)) (hn : n ≤ 1000000) :
    Calls Tryz.prog 23 #[.pointer (some ⟨mk, 0, none⟩), .slice A n c] wr fun e w' => e = .returned (.tuple #[]) ∧ ∃ f' gl', WlF w bk mk f' tl gl' w' ∧ OnlyL f f' OnZ wr w' := by
  obtain ⟨b0, b1, t0, t1, n0, vs, ws, us, xs, bs, ts, h1, h2⟩ := h.book
  obtain ⟨fv, gs, ns, h3, h4⟩ := h.flags
  subst h4
  refine (add_any h3 hl hv hn).mono ?_
  rintro e w' ⟨rfl, f', fv', gs', ns', hf, ho⟩
  have hz := h.zeroOn (ho.mono fun _ h => h.z)
  exact ⟨rfl, f', _, ⟨⟨_, _, _, _, _, _, _, _, _, _, _, h1.apart ho book_notF, h2⟩, ⟨_, _, _, hf, rfl⟩, hz.1, hz.2⟩, ho.mono fun _ h => h.z⟩
/-- the Book is closed: the flags stand -/
theorem WlF.close (h : WlF w bk mk f tl gl wr) :
    Calls Tryz.prog 15 #[.pointer (some ⟨bk, 0, none⟩)] wr fun e w' => e = .returned (.bool true) ∧ ∃ f' fv gs ns, FlagsAt w' f' mk fv gs ns ∧ (∀ k, k < w.heap.size → f' k = (0, 0)) ∧ Below w.heap.size w w' := by
  obtain ⟨b0, b1, t0, t1, n, vs, ws, us, xs, bs, ts, h1, h2⟩ := h.book
  obtain ⟨fv, gs, ns, h3, h4⟩ := h.flags
  refine (close_texts h1).mono ?_
  rintro e w' ⟨rfl, f', ho⟩
  have hno : ∀ a b : Nat, a = 0 ∨ a = 50 ∨ a = 52 ∨ a = 62 → ¬ OnC (a, b) := fun a b ha h => by
    rcases h with h | h | h | h | h | h | h
    · have := congrArg Prod.fst h; dsimp only at this; omega
    all_goals (dsimp only at h; omega)
  exact ⟨rfl, f', fv, gs, ns, h3.apart ho ⟨hno _ _ (by decide), hno _ _ (by decide), fun _ => hno _ _ (by decide)⟩, fun k hk => by rw [ho.lab k (Nat.lt_of_lt_of_le hk h.below.size)]; exact h.zero k hk, h.below.trans (ho.below h.below.size (fun k hk => by rw [h.zero k hk]; exact hno _ _ (by decide)))⟩
end
/-- the lists of flags are nobody else's -/
theorem own_any {w wr : World} {f : Nat → Lab} {mk : Nat} {fv : Value} {gs : List Value} {ns : Nat → Nat} (h : FlagsAt wr f mk fv gs ns) (hz : ∀ k, k < w.heap.size → f k = (0, 0)) (hb : Below w.heap.size w wr) :
    Calls Tryz.prog 24 #[.pointer (some ⟨mk, 0, none⟩)] wr fun e w' => e = .returned (.bool true) ∧ Below w.heap.size w w' := by
  obtain ⟨f2, hf2⟩ : ∃ f2 : Nat → Lab, f2 = fun k => if k = mk then (1, 0) else if f k = (1, 0) then (0, 0) else f k := ⟨_, rfl⟩
  have hkeep : ∀ g l, f g = l → l ≠ (1, 0) → l ≠ (50, 0) → f2 g = l := fun g l h1 h2 h3 => by
    rw [hf2]
    dsimp only
    rw [if_neg (fun e => h3 (by rw [← h1, e]; exact h.self)), if_neg (by rw [h1]; exact h2)]
    exact h1
  have hmk0 : w.heap.size ≤ mk := by
    rcases Nat.lt_or_ge mk w.heap.size with hlt | hge
    · have := (hz mk hlt).symm.trans h.self; cases this
    · exact hge
  have hx : FillX wr f2 57 mk #[fv] 52 3 markF fv gs ns 0 0 f2 wr := by
    refine ⟨h.blk, by rw [hf2]; exact if_pos rfl, ⟨h.row.lot, fun g hg => hkeep g _ (h.row.lab g hg) (lab_ne (by decide)) (lab_ne (by decide))⟩, fun i u hu => ?_, OnlyL.refl _ _ _⟩
    obtain ⟨g1, g2⟩ := h.lots i u hu
    refine ⟨?_, fun g hg => hkeep g _ (g2 g hg) (lab_ne (by decide)) (lab_ne (by decide))⟩
    have : (if i < 0 then ns i else if i = 0 then 0 else 0) = 0 := by rw [if_neg (Nat.not_lt_zero i)]; split <;> rfl
    dsimp only
    rw [this]
    exact g1
  refine (ownF_any h.few h.big hx).mono ?_
  rintro e w' ⟨rfl, f', ho⟩
  refine ⟨rfl, hb.trans (ho.below hb.size (fun k hk => ?_))⟩
  have : f2 k = (0, 0) := hkeep k _ (hz k hk) (by decide) (by decide)
  rw [this]
  rintro (h | h | h)
  · exact absurd h (by decide)
  · exact absurd h (by decide)
  · exact absurd h (by decide)

/-- what Line tells of a line -/
def lineTold : Sp.LineR → Sp.CmdV × Int × Sp.WrongV
  | .ok c n => (c, n, {})
  | .bad x => ({}, -1, x)
/-- the lists of a command that was told -/
structure LineGot (w : World) (c : Sp.CmdV) (K : Option Addr) (kc : Nat) (M : Option Addr) (mc : Nat) (w' : World) : Prop where
  own : CmdOwn w' w.heap.size c (.slice K c.keys.length kc) (.slice M c.metas.length mc)
  below : Below w.heap.size w w'
theorem LinePost.told {w : World} {r : Sp.LineR} {e : Ending} {w' : World} (h : LinePost w r e w') :
    ∃ K kc M mc, e = .returned (.tuple #[cmdV (lineTold r).1 (.slice K (lineTold r).1.keys.length kc) nilRow (.slice M (lineTold r).1.metas.length mc), .int .i64 (lineTold r).2.1, wrongV (lineTold r).2.2]) ∧ LineGot w (lineTold r).1 K kc M mc w' := by
  obtain ⟨h1, h2⟩ := h
  cases r with
  | ok c n =>
    obtain ⟨kv, mv, rfl, h3, h4⟩ := h1
    obtain ⟨K, kc, rfl⟩ := own_form h3
    obtain ⟨M, mc, rfl⟩ := own_form h4
    exact ⟨K, kc, M, mc, rfl, ⟨h3, h4⟩, h2⟩
  | bad x => exact ⟨none, 0, none, 0, h1, ⟨World.ownsRow_nil _ _ _ 1, World.ownsRow_nil _ _ _ 3⟩, h2⟩
theorem LineEnd.told {w : World} {r : Sp.LineR} {e : Ending} {w' : World} (h : LineEnd w r e w') :
    ∃ K kc M mc, e = .returned (.tuple #[cmdV (lineTold r).1 (.slice K (lineTold r).1.keys.length kc) nilRow (.slice M (lineTold r).1.metas.length mc), .int .i64 (lineTold r).2.1, wrongV (lineTold r).2.2]) ∧ LineGot w (lineTold r).1 K kc M mc w' := by
  obtain ⟨c, kv, mv, n, x, rfl, h2, h3⟩ := h
  cases r with
  | ok c2 n2 =>
    obtain ⟨rfl, rfl, rfl, h4⟩ := h3
    obtain ⟨K, kc, rfl⟩ := own_form h4.keys
    obtain ⟨M, mc, rfl⟩ := own_form h4.metas
    exact ⟨K, kc, M, mc, rfl, h4, h2⟩
  | bad y =>
    obtain ⟨rfl, rfl, rfl, rfl, rfl⟩ := h3
    exact ⟨none, 0, none, 0, rfl, ⟨World.ownsRow_nil _ _ _ 1, World.ownsRow_nil _ _ _ 3⟩, h2⟩
theorem lineTold_small (l : Sp.Bs) : (lineTold (Sp.lineOf l)).1.keys.length ≤ 2048 ∧ (lineTold (Sp.lineOf l)).1.metas.length ≤ 2048 ∧ (lineTold (Sp.lineOf l)).1.data = [] := by
  cases h : Sp.lineOf l with
  | ok c n =>
    have := lineOf_ok h
    exact ⟨this.2.2.2.2.2.2.1, this.2.2.2.2.2.2.2, this.2.2.1⟩
  | bad x => exact ⟨Nat.zero_le _, Nat.zero_le _, rfl⟩
theorem LineGot.at {w w1 w' : World} {c : Sp.CmdV} {K M : Option Addr} {kc mc : Nat} (h : LineGot w c K kc M mc w1) (hd : c.data = []) (hs : ∀ j, w.heap.size ≤ j → j < w1.heap.size → w'.heap[j]? = w1.heap[j]?) : CmdAt w' c (.slice K c.keys.length kc) nilRow (.slice M c.metas.length mc) := by
  have h1 := own_same h.own.keys (w' := w') (fun k hk => hs k (own_ge h.own.keys k hk) (own_lt h.own.keys k hk))
  have h2 := own_same h.own.metas (w' := w') (fun k hk => hs k (own_ge h.own.metas k hk) (own_lt h.own.metas k hk))
  exact ⟨⟨K, kc, rfl, RowAt.of_own h1⟩, ⟨none, 0, by rw [hd]; rfl, by rw [hd]; exact .inl rfl⟩, ⟨M, mc, rfl, RowAt.of_own h2⟩⟩
end Go.Proofs.YthgfjafnclklpaaGreatDoor
end
section
namespace Go.Proofs.YthgfjafnclklpaaGreatDoor
attribute [local go_sem ↓] Go.wp_at_zero Go.wp_at_succ
open Go.RowKit

/-- bytes, as they lie in a row of them -/
structure BytesArg where
  A : Option Addr
  cap : Nat
  l : Sp.Bs
def BytesArg.val (a : BytesArg) : Value := .slice a.A a.l.length a.cap
structure BytesArgs (w : World) (A : Option Addr) (xs : List BytesArg) : Prop where
  row : RowAt w A (xs.map BytesArg.val)
  each : ∀ x ∈ xs, RowAt w x.A (bytesV x.l) ∧ (x.A = none → x.cap = 0) ∧ x.l.length ≤ 140737488351232
theorem BytesArgs.cell {w : World} {A : Option Addr} {xs : List BytesArg} (h : BytesArgs w A xs) {k : Nat} {x : BytesArg} (hx : xs[k]? = some x) : ∃ g o, A = some ⟨g, o, none⟩ ∧ g < w.heap.size ∧ w.cell? ⟨g, o + k, none⟩ = some (.slice x.A x.l.length x.cap) := by
  have hm : (xs.map BytesArg.val)[k]? = some x.val := by rw [List.getElem?_map, hx]; rfl
  rcases h.row with h0 | ⟨g, o, h1, h2, h3⟩
  · rw [h0] at hm; simp at hm
  · exact ⟨g, o, h1, h2, h3 k _ hm⟩
theorem loadVar_flagsL (a : Addr) : type_of% (loadVar.eq_1 36 a) := loadVar.eq_1 36 a
attribute [-go_sem] storeVar loadVar
attribute [local go_sem] storeVar_intR storeVar_sliceR loadVar_intR loadVar_rowR loadVar_rowsR loadVar_textsR loadVar_flagsL run_store_cmd run_store_wrong canPut_alloc canPut_setCells canPut_new

/-- two boxes that hold what a line told, beside what was there -/
structure TwoBoxes (w1 : World) (cc : Sp.CmdV) (kv mv : Value) (xw : Sp.WrongV) (W : World) : Prop where
  cmd : Blk W w1.heap.size 38 (cmdArr cc kv nilRow mv)
  wrong : Blk W (w1.heap.size + 1) 59 (wrongArr xw)
  below : Below w1.heap.size w1 W
  size : W.heap.size = w1.heap.size + 2
theorem TwoBoxes.new (w1 : World) (cc : Sp.CmdV) (kv mv : Value) (xw : Sp.WrongV) : TwoBoxes w1 cc kv mv xw ((((w1.alloc (.cells (cmdArr {} nilRow nilRow nilRow) 38)).alloc (.cells (wrongArr {}) 59)).setCells w1.heap.size 0 (cmdList cc kv nilRow mv)).setCells (w1.heap.size + 1) 0 (wrongList xw)) := by
  have h := (LineBoxes.new w1).put cc kv nilRow mv xw
  exact ⟨h.1, h.2.1, h.2.2, by rw [size_putCells, size_putCells]; simp⟩

/-- what the inner loop keeps: the Book and the flags; what was made ahead of it stands -/
def WlIn (w W2 : World) (n0 bk mk : Nat) (wr : World) : Prop :=
  ∃ f tl gl, WlF w bk mk f tl gl wr ∧ W2.heap.size ≤ wr.heap.size ∧ ∀ j, n0 ≤ j → j < W2.heap.size → f j = (0, 0) ∧ wr.heap[j]? = W2.heap[j]?

/-- all but one block stands -/
def Past (g3 : Nat) (W5 W : World) : Prop := W5.heap.size ≤ W.heap.size ∧ ∀ j, j < W5.heap.size → j ≠ g3 → W.heap[j]? = W5.heap[j]?
theorem Past.refl (g3 : Nat) (W : World) : Past g3 W W := ⟨Nat.le_refl _, fun _ _ _ => rfl⟩
theorem Past.later {g3 : Nat} {W5 W W' : World} (h : Past g3 W5 W) (hb : Below W.heap.size W W') : Past g3 W5 W' := ⟨Nat.le_trans h.1 hb.size, fun j h1 h2 => (hb.block j (Nat.lt_of_lt_of_le h1 h.1)).trans (h.2 j h1 h2)⟩
/-- Over, told without labels -/
theorem over_past {w W5 W : World} {n0 g c : Nat} {l : Sp.Bs} (h : LentB W g c l) (hl : l.length ≤ 140737488351232) (hp : Past g W5 W) (hb : Below n0 w W) (hn : n0 ≤ g) :
    Calls Tryz.prog 21 #[.slice (some ⟨g, 0, none⟩) l.length c] W fun e w' => e = .returned (.tuple #[]) ∧ Past g W5 w' ∧ Below n0 w w' := by
  refine (over_any (f := fun k => if k = g then (9, 9) else (0, 0)) h (if_pos rfl) hl).mono ?_
  rintro e w' ⟨rfl, ho⟩
  have hne : ∀ j, j ≠ g → ¬ ((if j = g then ((9, 9) : Lab) else (0, 0)) = (9, 9)) := fun j hj => by rw [if_neg hj]; decide
  exact ⟨rfl, ⟨Nat.le_trans hp.1 ho.size, fun j h1 h2 => (ho.block j (Nat.lt_of_lt_of_le h1 hp.1) (hne j h2)).trans (hp.2 j h1 h2)⟩, { os := ho.os.trans hb.os, tape := ho.tape.trans hb.tape, output := ho.output.trans hb.output, size := Nat.le_trans hb.size ho.size, block := fun j hj => (by
    rcases Nat.lt_or_ge j W.heap.size with h1 | h1
    · exact (ho.block j h1 (hne j (by omega))).trans (hb.block j hj)
    · have h2 := hb.block j hj
      have h3 : j < g := Nat.lt_of_lt_of_le hj hn
      have := h.lt
      omega) }⟩
theorem own_lotT {w : World} {base : Nat} {v : Value} {l : List Sp.Bs} (h : w.ownsRow base 9 1 v l.length (l.map str)) : LotT w v l :=
  Lot.of_own h (textF_length l) (fun k hk c u hu => by
    have hc : c = 0 := by
      have := (List.getElem?_eq_some_iff.1 hu).1
      rw [textF_length] at this; omega
    subst hc
    rw [Nat.mul_one, Nat.add_zero, ← hu]
    simp [textF, List.getD_eq_getElem?_getD, List.getElem?_eq_getElem hk])
def flagF (l : List Sp.FlagV) (k : Nat) : List Value := flagCells (l.getD k ⟨0, [], false⟩)
theorem own_lotF {w : World} {base : Nat} {v : Value} {l : List Sp.FlagV} (h : w.ownsRow base 94 3 v l.length (flagsCells l)) : Lot w 3 v l.length 0 (flagF l) :=
  (Lot.of_own (F := flagF l) h (fun _ => rfl) (fun k hk c u hu => by
    have hc : c < 3 := (List.getElem?_eq_some_iff.1 hu).1
    unfold flagsCells
    rw [fm_get (k := 3) (fun _ _ => rfl) (List.getElem?_eq_getElem hk) hc, ← hu]
    unfold flagF
    rw [List.getD_eq_getElem?_getD, List.getElem?_eq_getElem hk]; rfl)).blank _

set_option maxHeartbeats 4000000 in
set_option maxRecDepth 100000 in
theorem wordsLine_any {w : World} (hg : Glob w) (ht : TabAt w) {A : Option Addr} {capA : Nat} {xs : List BytesArg} (hA : BytesArgs w A xs) (hn : xs.length ≤ 9223372036854775807) :
    Calls Tryz.prog 4 #[.slice A xs.length capA] w fun e w' => e = .returned (.bool true) ∧ Below w.heap.size w w' := by
  generalize hR : (fun (e : Ending) (w' : World) => e = .returned (.bool true) ∧ Below w.heap.size w w') = R
  have HR := Lib.hid hR
  have HG := Lib.hid hg
  have HT := Lib.hid ht
  have HA := Lib.hid hA
  have hst := WlF.start w
  obtain ⟨w0, hw0⟩ : ∃ w0, w0 = ((w.alloc (.cells #[.slice none 0 0, .slice none 0 0, .slice none 0 0, .slice none 0 0, .slice none 0 0, .slice none 0 0, .slice none 0 0, .slice none 0 0, .slice none 0 0, .slice none 0 0, .slice none 0 0, .slice none 0 0, .slice none 0 0, .slice none 0 0, .slice none 0 0, .slice none 0 0, .slice none 0 0, .slice none 0 0, .slice none 0 0, .slice none 0 0, .slice none 0 0, .slice none 0 0, .slice none 0 0, .slice none 0 0, .slice none 0 0, .slice none 0 0, .int .i64 0] 32)).alloc (.cells #[.slice none 0 0] 57)) := ⟨_, rfl⟩
  replace hst : ∃ f, WlF w w.heap.size (w.heap.size + 1) f 0 0 w0 := by rw [hw0]; exact hst
  obtain ⟨bk, hbk⟩ : ∃ bk, bk = w.heap.size := ⟨_, rfl⟩
  obtain ⟨mk, hmk⟩ : ∃ mk, mk = w.heap.size + 1 := ⟨_, rfl⟩
  rw [← hmk] at hst
  have hst2 : ∃ f, WlF w bk mk f 0 0 w0 := by rw [hbk]; exact hst
  have HST := Lib.hid hst2
  have HBK := Lib.hid hbk
  have HMK := Lib.hid hmk
  have HW0 := Lib.hid hw0
  clear hR hg ht hA hst hst2 hbk hmk hw0
  go_enter Tryz.func4, Tryz.ntmps4
  go_upto_region 3 with fail
  rw [← HW0.out, ← HMK.out, ← HBK.out]
  go_wp2_with fail
  go_loopw [5, 6, 7, 8, 9, 10, 11, 12, 13, 14] (fun iv _ _ _ _ _ _ _ _ _ wr => ∃ k : Nat, k ≤ xs.length ∧ iv = .int .i64 k ∧ ∃ f tl gl, WlF w bk mk f tl gl wr) (fun iv _ _ _ _ _ _ _ _ _ _ => xs.length - (intOf iv).toNat)
  case atStart => exact ⟨0, Nat.zero_le _, rfl, by obtain ⟨f, hf⟩ := HST.out; exact ⟨f, 0, 0, hf⟩⟩
  case round =>
    obtain ⟨k, hk, rfl, f, tl, gl, hm⟩ := hrel
    obtain ⟨wo, rfl⟩ : ∃ wo, wo = wr := ⟨wr, rfl⟩
    by_cases hlt : k < xs.length ∧ k < 300
    · obtain ⟨x, hx⟩ : ∃ x, xs[k]? = some x := ⟨xs[k]'hlt.1, List.getElem?_eq_getElem _⟩
      obtain ⟨hrow, hxa, hxl⟩ := HA.out.each x (List.mem_of_getElem? hx)
      obtain ⟨g, o, hAe, hglt, hcell⟩ := HA.out.cell hx
      subst hAe
      have hcell0 : wo.cell? ⟨g, o + k, none⟩ = some (.slice x.A x.l.length x.cap) := (hm.below.cell (p := ⟨g, o + k, none⟩) hglt).trans hcell
      have hk1 : (k : Int) < (xs.length : Int) := by omega
      have hk2 : (k : Int) < 300 := by omega
      have hme : xs.length - ((k : Int) + 1).toNat < xs.length - (k : Int).toNat := by omega
      obtain ⟨cc, hcc⟩ : ∃ cc, cc = (lineTold (Sp.lineOf x.l)).1 := ⟨_, rfl⟩
      obtain ⟨nn, hnn⟩ : ∃ nn, nn = (lineTold (Sp.lineOf x.l)).2.1 := ⟨_, rfl⟩
      obtain ⟨xw, hxw⟩ : ∃ xw, xw = (lineTold (Sp.lineOf x.l)).2.2 := ⟨_, rfl⟩
      have hrl : Calls Tryz.prog 17 #[.slice x.A x.l.length x.cap] wo fun e w' => ∃ K kc M mc, e = .returned (.tuple #[.agg #[.int .i64 cc.verb, .slice K cc.keys.length kc, .int .u64 cc.flags, .int .i64 cc.exptime, .int .u64 cc.token, .int .u64 cc.delta, .slice none 0 0, .bool cc.noreply, .bool cc.large, .slice M cc.metas.length mc, .string ⟨cc.what.toArray⟩], .int .i64 nn, .agg #[.int .i64 xw.kind, .string ⟨xw.text.toArray⟩, .int .i64 xw.pass]]) ∧ LineGot wo cc K kc M mc w' := (refLine11_any (cap := x.cap) (hrow.below hm.below)).mono fun e w' h => by
        rw [hcc, hnn, hxw]; exact h.told
      have hwl : ∀ (W : World) (g c : Nat), Below w.heap.size w W → LentB W g c x.l → Calls Tryz.prog 19 #[.slice (some ⟨g, 0, none⟩) x.l.length c] W fun e w' => ∃ K kc M mc, e = .returned (.tuple #[.agg #[.int .i64 cc.verb, .slice K cc.keys.length kc, .int .u64 cc.flags, .int .i64 cc.exptime, .int .u64 cc.token, .int .u64 cc.delta, .slice none 0 0, .bool cc.noreply, .bool cc.large, .slice M cc.metas.length mc, .string ⟨cc.what.toArray⟩], .int .i64 nn, .agg #[.int .i64 xw.kind, .string ⟨xw.text.toArray⟩, .int .i64 xw.pass]]) ∧ LineGot W cc K kc M mc w' := fun W g c hW hl => (line_any (HG.out.later hW) hl.row).mono fun e w' h => by
        rw [hcc, hnn, hxw]; exact h.told
      have hsm := lineTold_small x.l
      rw [← hcc] at hsm
      have HM := Lib.hid hm
      have HROW := Lib.hid hrow
      have HXA := Lib.hid hxa
      have HXL := Lib.hid hxl
      have HC := Lib.hid hcell
      have HGL := Lib.hid hglt
      have HME := Lib.hid hme
      have HRL := Lib.hid hrl
      have HWL := Lib.hid hwl
      have HSM := Lib.hid hsm
      clear hm hrow hxa hxl hcell hglt hme hrl hwl hsm hcc hnn hxw hx hlt
      go_upto_region 7 with (go_at_call 17; refine HRL.out.mono ?_; rintro e w1 ⟨K, kc, M, mc, rfl, hgot⟩; have HGOT := Lib.hid hgot; clear hgot)
      obtain ⟨W2, hW2⟩ : ∃ W2, W2 = ((((w1.alloc (.cells #[.int .i64 0, .slice none 0 0, .int .u64 0, .int .i64 0, .int .u64 0, .int .u64 0, .slice none 0 0, .bool false, .bool false, .slice none 0 0, .string ⟨#[]⟩] 38)).alloc (.cells #[.int .i64 0, .string ⟨#[]⟩, .int .i64 0] 59)).setCells w1.heap.size 0 [.int .i64 cc.verb, .slice K cc.keys.length kc, .int .u64 cc.flags, .int .i64 cc.exptime, .int .u64 cc.token, .int .u64 cc.delta, .slice none 0 0, .bool cc.noreply, .bool cc.large, .slice M cc.metas.length mc, .string ⟨cc.what.toArray⟩]).setCells (w1.heap.size + 1) 0 [.int .i64 xw.kind, .string ⟨xw.text.toArray⟩, .int .i64 xw.pass]) := ⟨_, rfl⟩
      have htb : TwoBoxes w1 cc (.slice K cc.keys.length kc) (.slice M cc.metas.length mc) xw W2 := by rw [hW2]; exact TwoBoxes.new w1 cc _ _ xw
      have hb2 : Below wo.heap.size wo W2 := HGOT.out.below.trans (htb.below.mono HGOT.out.below.size)
      have hin : WlIn w W2 wo.heap.size bk mk W2 := ⟨fun k => if k < wo.heap.size then f k else (0, 0), tl, gl, HM.out.later hb2 (fun k hk => if_pos hk), Nat.le_refl _, fun j h1 _ => ⟨if_neg (by omega), rfl⟩⟩
      have HTB := Lib.hid htb
      have HIN := Lib.hid hin
      rw [← hW2]
      clear hW2 htb hb2 hin hcell0
      obtain ⟨n0, hn0⟩ : ∃ n0, n0 = wo.heap.size := ⟨_, rfl⟩
      obtain ⟨b6, hb6⟩ : ∃ b6, b6 = w1.heap.size := ⟨_, rfl⟩
      rw [← hn0] at HIN
      have HN0 := Lib.hid hn0
      have HB6 := Lib.hid hb6
      rw [← hb6]
      clear hn0 hb6
      go_wp2_with fail
      go_loopw [9, 10, 11, 12, 13, 14] (fun kv _ _ _ _ _ wr => ∃ j : Nat, j ≤ 2 ∧ kv = .int .i64 j ∧ WlIn w W2 n0 bk mk wr) (fun kv _ _ _ _ _ _ => 2 - (intOf kv).toNat)
      case atStart => exact ⟨0, by decide, rfl, HIN.out⟩
      case round =>
        obtain ⟨j, hj, rfl, f1, tl1, gl1, hm1, hsz1, hold⟩ := hrel
        by_cases hlj : j < 2
        · have hj1 : (j : Int) < 2 := by omega
          have ycell : wr.cell? ⟨g, o + k, none⟩ = some (.slice x.A x.l.length x.cap) := (hm1.below.cell (p := ⟨g, o + k, none⟩) HGL.out).trans HC.out
          have hld := lend_any (c := x.cap) (HROW.out.below hm1.below) HXA.out HXL.out
          have HM1 := Lib.hid hm1
          have HSZ1 := Lib.hid hsz1
          have HOLD := Lib.hid hold
          have HLD := Lib.hid hld
          have HLJ := Lib.hid hlj
          clear hm1 hsz1 hold hld hlj
          go_upto_region 11 with (go_at_call 18; refine HLD.out.mono ?_; rintro e w3 ⟨g3, c3, rfl, hge3, hlb3, hb3⟩; have HGE3 := Lib.hid hge3; have HLB3 := Lib.hid hlb3; have HB3 := Lib.hid hb3; clear hge3 hlb3 hb3)
          have hwl3 := HWL.out w3 g3 c3 (HM1.out.below.trans (HB3.out.mono HM1.out.below.size)) HLB3.out
          have HWL3 := Lib.hid hwl3
          clear hwl3 ycell
          go_upto_region 12 with (go_at_call 19; refine HWL3.out.mono ?_; rintro e w4 ⟨K1, kc1, M1, mc1, rfl, hgot1⟩; have HGOT1 := Lib.hid hgot1; clear hgot1)
          obtain ⟨W5, hW5⟩ : ∃ W5, W5 = ((((w4.alloc (.cells #[.int .i64 0, .slice none 0 0, .int .u64 0, .int .i64 0, .int .u64 0, .int .u64 0, .slice none 0 0, .bool false, .bool false, .slice none 0 0, .string ⟨#[]⟩] 38)).alloc (.cells #[.int .i64 0, .string ⟨#[]⟩, .int .i64 0] 59)).setCells w4.heap.size 0 [.int .i64 cc.verb, .slice K1 cc.keys.length kc1, .int .u64 cc.flags, .int .i64 cc.exptime, .int .u64 cc.token, .int .u64 cc.delta, .slice none 0 0, .bool cc.noreply, .bool cc.large, .slice M1 cc.metas.length mc1, .string ⟨cc.what.toArray⟩]).setCells (w4.heap.size + 1) 0 [.int .i64 xw.kind, .string ⟨xw.text.toArray⟩, .int .i64 xw.pass]) := ⟨_, rfl⟩
          have htb5 : TwoBoxes w4 cc (.slice K1 cc.keys.length kc1) (.slice M1 cc.metas.length mc1) xw W5 := by rw [hW5]; exact TwoBoxes.new w4 cc _ _ xw
          rw [← hW5]
          obtain ⟨b11, hb11⟩ : ∃ b11, b11 = w4.heap.size := ⟨_, rfl⟩
          rw [← hb11]
          have hb35 : Below w3.heap.size w3 W5 := HGOT1.out.below.trans (htb5.below.mono HGOT1.out.below.size)
          have hb5 : Below wr.heap.size wr W5 := HB3.out.trans (hb35.mono HB3.out.size)
          have hlb5 := HLB3.out.later hb35
          have hg3lt : g3 < w3.heap.size := HLB3.out.lt
          have hs3 := HGOT1.out.below.size
          have hs1 := HGOT.out.below.size
          have hk5 : Blk W5 b11 38 (cmdArr cc (.slice K1 cc.keys.length kc1) nilRow (.slice M1 cc.metas.length mc1)) := by rw [hb11]; exact htb5.cmd
          have hk5w : Blk W5 (b11 + 1) 59 (wrongArr xw) := by rw [hb11]; exact htb5.wrong
          have hkr : Blk wr b6 38 (cmdArr cc (.slice K cc.keys.length kc) nilRow (.slice M cc.metas.length mc)) := by
            rw [HB6.out]; exact HTB.out.cmd.same (HOLD.out w1.heap.size (by rw [HN0.out]; exact hs1) (by rw [HTB.out.size]; omega)).2
          have hkrw : Blk wr (b6 + 1) 59 (wrongArr xw) := by
            rw [HB6.out]; exact HTB.out.wrong.same (HOLD.out (w1.heap.size + 1) (by rw [HN0.out]; omega) (by rw [HTB.out.size]; omega)).2
          have hpc : ∀ W, Past g3 W5 W → Blk W b11 38 (cmdArr cc (.slice K1 cc.keys.length kc1) nilRow (.slice M1 cc.metas.length mc1)) := fun W hW => hk5.same (hW.2 b11 hk5.lt (by omega))
          have hpw : ∀ W, Past g3 W5 W → Blk W (b11 + 1) 59 (wrongArr xw) := fun W hW => hk5w.same (hW.2 (b11 + 1) hk5w.lt (by omega))
          have hqc : ∀ W, Below wr.heap.size wr W → Blk W b6 38 (cmdArr cc (.slice K cc.keys.length kc) nilRow (.slice M cc.metas.length mc)) := fun W hW => hkr.later hW
          have hqw : ∀ W, Below wr.heap.size wr W → Blk W (b6 + 1) 59 (wrongArr xw) := fun W hW => hkrw.later hW
          have hldc : ∀ (W : World) (b : Nat) (Ka : Option Addr) (ka : Nat) (Ma : Option Addr) (ma : Nat), Blk W b 38 (cmdArr cc (.slice Ka cc.keys.length ka) nilRow (.slice Ma cc.metas.length ma)) → (loadVar 38 ⟨b, 0, none⟩).run Tryz.prog W = .ok (.agg #[.int .i64 cc.verb, .slice Ka cc.keys.length ka, .int .u64 cc.flags, .int .i64 cc.exptime, .int .u64 cc.token, .int .u64 cc.delta, .slice none 0 0, .bool cc.noreply, .bool cc.large, .slice Ma cc.metas.length ma, .string ⟨cc.what.toArray⟩]) W := fun W b Ka ka Ma ma hb =>
            run_loadVar_mid (P := Tryz.prog) W b 0 38 (cmdList cc (.slice Ka cc.keys.length ka) nilRow (.slice Ma cc.metas.length ma)) _ (fun j v hv => by rw [Nat.zero_add, hb.cell j]; simpa [cmdList, cmdArr] using hv) Tryz.underlying38 rfl (by kernel_rfl)
          have hldw : ∀ (W : World) (b : Nat), Blk W b 59 (wrongArr xw) → (loadVar 59 ⟨b, 0, none⟩).run Tryz.prog W = .ok (.agg #[.int .i64 xw.kind, .string ⟨xw.text.toArray⟩, .int .i64 xw.pass]) W := fun W b hb =>
            run_loadVar_mid (P := Tryz.prog) W b 0 59 (wrongList xw) _ (fun j v hv => by rw [Nat.zero_add, hb.cell j]; simpa [wrongList, wrongArr] using hv) Tryz.underlying59 rfl (by kernel_rfl)
          have hsame : ∀ W : World, Past g3 W5 W → Below wr.heap.size wr W → Calls Tryz.prog 12 #[.agg #[.int .i64 cc.verb, .slice K1 cc.keys.length kc1, .int .u64 cc.flags, .int .i64 cc.exptime, .int .u64 cc.token, .int .u64 cc.delta, .slice none 0 0, .bool cc.noreply, .bool cc.large, .slice M1 cc.metas.length mc1, .string ⟨cc.what.toArray⟩], .agg #[.int .i64 cc.verb, .slice K cc.keys.length kc, .int .u64 cc.flags, .int .i64 cc.exptime, .int .u64 cc.token, .int .u64 cc.delta, .slice none 0 0, .bool cc.noreply, .bool cc.large, .slice M cc.metas.length mc, .string ⟨cc.what.toArray⟩]] W fun e w' => e = .returned (.bool true) ∧ Below W.heap.size W w' := fun W hW hbW => by
            have h1 : CmdAt W cc (.slice K1 cc.keys.length kc1) nilRow (.slice M1 cc.metas.length mc1) := HGOT1.out.at HSM.out.2.2 fun q q1 q2 => (hW.2 q (by have := htb5.size; omega) (by omega)).trans (htb5.below.block q q2)
            have h2 : CmdAt W cc (.slice K cc.keys.length kc) nilRow (.slice M cc.metas.length mc) := HGOT.out.at HSM.out.2.2 fun q q1 q2 => (hbW.block q (by have := HTB.out.size; have := HSZ1.out; omega)).trans ((HOLD.out q (by rw [HN0.out]; exact q1) (by have := HTB.out.size; omega)).2.trans (HTB.out.below.block q q2))
            exact same_same h1 h2 (by have := HSM.out.1; omega) (by have := HSM.out.2.1; omega)
          have hxt : (xw.text == xw.text) = true := by simp
          have HPC := Lib.hid hpc
          have HPW := Lib.hid hpw
          have HQC := Lib.hid hqc
          have HQW := Lib.hid hqw
          have HLC := Lib.hid hldc
          have HLW := Lib.hid hldw
          have HSAME := Lib.hid hsame
          have hl11 := hldc W5 b11 _ _ _ _ hk5
          have hl6 := hldc W5 b6 _ _ _ _ (hqc W5 hb5)
          have HPAST := Lib.hid (Past.refl g3 W5)
          have HBW := Lib.hid hb5
          have HLB := Lib.hid hlb5
          have HTB5 := Lib.hid htb5
          have HG3 := Lib.hid hg3lt
          have HS3 := Lib.hid hs3
          have HB11 := Lib.hid hb11
          have HNM := Lib.hid (show ∀ W, Below wr.heap.size wr W → W.cell? ⟨g, o + k, none⟩ = some (.slice x.A x.l.length x.cap) from fun W hW => ((HM1.out.below.trans (hW.mono HM1.out.below.size)).cell (p := ⟨g, o + k, none⟩) HGL.out).trans HC.out)
          clear hW5 htb5 hb35 hb5 hlb5 hg3lt hs3 hs1 hk5 hk5w hkr hkrw hpc hpw hqc hqw hldc hldw hsame hb11
          go_upto_region 14 with (first
            | (go_at_call 12; (with_reducible refine (HSAME.out _ HPAST.out HBW.out).mono ?_); rintro e w6 ⟨rfl, hb6'⟩; have hlb := HLB.out.later hb6'; have HLB := Lib.hid hlb; have hp := HPAST.out.later hb6'; have HPAST := Lib.hid hp; have hbw := HBW.out.trans (hb6'.mono HBW.out.size); have HBW := Lib.hid hbw; have hl13 := HLW.out _ _ (HPW.out _ hp); have hl8 := HLW.out _ _ (HQW.out _ hbw); have ycell := HNM.out _ hbw; clear hl11 hl6 hb6' hlb hp hbw)
            | (go_at_call 20; refine (intact_any HLB.out ((HROW.out.below HM1.out.below).below HBW.out) HXL.out).mono ?_; rintro e w7 ⟨rfl, hb7'⟩; have hlb := HLB.out.later hb7'; have HLB := Lib.hid hlb; have hp := HPAST.out.later hb7'; have HPAST := Lib.hid hp; have hbw := HBW.out.trans (hb7'.mono HBW.out.size); have HBW := Lib.hid hbw; clear hl13 hl8 ycell hb7' hlb hp hbw)
            | (go_at_call 21; refine (over_past HLB.out HXL.out HPAST.out HBW.out HGE3.out).mono ?_; rintro e w8 ⟨rfl, hp, hbw⟩; have HPAST := Lib.hid hp; have HBW := Lib.hid hbw; have hl11 := HLC.out _ _ _ _ _ _ (HPC.out _ hp); have hl6 := HLC.out _ _ _ _ _ _ (HQC.out _ hbw); clear hp hbw))
          go_upto_region 16 with (go_at_call 12; (with_reducible refine (HSAME.out _ HPAST.out HBW.out).mono ?_); rintro e w9 ⟨rfl, hb9'⟩; have hp := HPAST.out.later hb9'; have HPAST := Lib.hid hp; have hbw := HBW.out.trans (hb9'.mono HBW.out.size); have HBW := Lib.hid hbw; clear hl11 hl6 hb9' hp hbw)
          have hk9 := HPC.out _ HPAST.out
          have y1 : w9.cell? ⟨b11, 1, none⟩ = some (.slice K1 cc.keys.length kc1) := hk9.cell 1
          have hge := HB3.out.size
          have hs3 := HS3.out
          have hg3 := HG3.out
          have hb11 := HB11.out
          have hsm9 : ∀ q, w3.heap.size ≤ q → q < w4.heap.size → w9.heap[q]? = w4.heap[q]? := fun q q1 q2 => (HPAST.out.2 q (by have := HTB5.out.size; omega) (by omega)).trans (HTB5.out.below.block q q2)
          have hok := own_same HGOT1.out.own.keys (w' := w9) (fun q hq => hsm9 q (own_ge HGOT1.out.own.keys q hq) (own_lt HGOT1.out.own.keys q hq))
          have hom := own_same HGOT1.out.own.metas (w' := w9) (fun q hq => hsm9 q (own_ge HGOT1.out.own.metas q hq) (own_lt HGOT1.out.own.metas q hq))
          have hltk := fun (q : Nat) (hq : (Value.slice K1 cc.keys.length kc1).ownBlock = some q) => own_lt HGOT1.out.own.keys q (mem_rowBlock.2 hq)
          have hltm := fun (q : Nat) (hq : (Value.slice M1 cc.metas.length mc1).ownBlock = some q) => own_lt HGOT1.out.own.metas q (mem_rowBlock.2 hq)
          have hne : ∀ q, (Value.slice M1 cc.metas.length mc1).ownBlock = some q → (Value.slice K1 cc.keys.length kc1).ownBlock ≠ some q := fun q hq => by
            rcases hom.2 with ⟨h1, _⟩ | ⟨g', cap, cur, h1, _, h2, _⟩
            · rw [h1] at hq; cases hq
            · have e1 : g' = q := by rw [h1] at hq; injection hq
              rw [e1] at h2
              exact own_apart hok (g := q) (t := 94) (cs := cur) h2 (by decide)
          obtain ⟨f9, hf9⟩ : ∃ f9 : Nat → Lab, f9 = fun q => if q < wr.heap.size then f1 q else if (Value.slice K1 cc.keys.length kc1).ownBlock = some q then (3, tl1) else if (Value.slice M1 cc.metas.length mc1).ownBlock = some q then (52, gl1) else (0, 0) := ⟨_, rfl⟩
          have hf9o : ∀ q, q < wr.heap.size → f9 q = f1 q := fun q hq => by rw [hf9]; exact if_pos hq
          have hm9 := HM1.out.later (f1 := f9) HBW.out hf9o
          have hv9 : LabV f9 (.slice K1 cc.keys.length kc1) (3, tl1) := fun q hq => by
            have h1 := own_isNew hok q hq
            rw [hf9]
            show (if q < wr.heap.size then _ else _) = _
            rw [if_neg (by omega), if_pos hq]
          have hvm : LabV f9 (.slice M1 cc.metas.length mc1) (52, gl1) := fun q hq => by
            have h1 := own_isNew hom q hq
            rw [hf9]
            show (if q < wr.heap.size then _ else _) = _
            rw [if_neg (by omega), if_neg (hne q hq), if_pos hq]
          have hz11 : f9 b11 = (0, 0) := by
            rw [hf9]
            show (if b11 < wr.heap.size then _ else _) = _
            rw [if_neg (by omega), if_neg (fun h => by have := hltk _ h; omega), if_neg (fun h => by have := hltm _ h; omega)]
          have hlm := own_lotF hom
          have htx := hm9.texts (own_lotT hok) hv9 (by have := HSM.out.1; omega)
          have HTX := Lib.hid htx
          have HK9 := Lib.hid hk9
          have HF9 := Lib.hid hf9o
          have HVM := Lib.hid hvm
          have HZ11 := Lib.hid hz11
          have HLM := Lib.hid hlm
          clear hk9 hge hs3 hg3 hb11 hsm9 hok hom hltk hltm hne hf9 hf9o hm9 hv9 hvm hz11 hlm htx
          go_wp2_with (first
            | (go_at_call 22; refine HTX.out.mono ?_; rintro e w10 ⟨rfl, f10, tl2, hm10, ho10⟩; have hl10 := HLM.out.apart ho10 HVM.out (fun h => h.2 rfl); have hv10 := HVM.out.on ho10 HLM.out.lt; have hz10 : f10 b11 = (0, 0) := (ho10.lab b11 HK9.out.lt).trans HZ11.out; have hk10 := HK9.out.same (ho10.block b11 HK9.out.lt (by rw [HZ11.out]; exact onZ_zero)); have y6 : w10.cell? ⟨b11, 6, none⟩ = some (.slice none 0 0) := hk10.cell 6; have hby := hm10.bytesNil; have HBY := Lib.hid hby; have HL10 := Lib.hid hl10; have HV10 := Lib.hid hv10; have HZ10 := Lib.hid hz10; have HK10 := Lib.hid hk10; have HO10 := Lib.hid ho10; clear hm10 ho10 hl10 hv10 hz10 hk10 hby y1)
            | (go_at_call 14; refine HBY.out.mono ?_; rintro e w11 ⟨rfl, f11, hm11, ho11⟩; have hl11 := HL10.out.apart ho11 HV10.out (fun h => h.2 rfl); have hv11 := HV10.out.on ho11 HL10.out.lt; have hk11 := HK10.out.same (ho11.block b11 HK10.out.lt (by rw [HZ10.out]; exact onZ_zero)); have y9 : w11.cell? ⟨b11, 9, none⟩ = some (.slice M1 cc.metas.length mc1) := hk11.cell 9; have had := hm11.add hl11 hv11 (by have := HSM.out.2.1; omega); have HAD := Lib.hid had; have HO11 := Lib.hid ho11; clear hm11 ho11 hl11 hv11 hk11 had y6)
            | (go_at_call 23; refine HAD.out.mono ?_; rintro e w12 ⟨rfl, f12, gl2, hm12, ho12⟩; have HM12 := Lib.hid hm12; have HO12 := Lib.hid ho12; clear hm12 ho12 y9))
          have ho := (HO10.out.trans HO11.out).trans HO12.out
          exact ⟨⟨j + 1, by have := HLJ.out; omega, by go_num, f12, tl2, gl2, HM12.out, Nat.le_trans HSZ1.out (Nat.le_trans HBW.out.size ho.size), fun q q1 q2 => by
            have hq := HOLD.out q q1 q2
            have hqr : q < wr.heap.size := Nat.lt_of_lt_of_le q2 HSZ1.out
            have hq9 : q < w9.heap.size := Nat.lt_of_lt_of_le hqr HBW.out.size
            have hfq : f9 q = (0, 0) := (HF9.out q hqr).trans hq.1
            exact ⟨(ho.lab q hq9).trans hfq, (ho.block q hq9 (by rw [hfq]; exact onZ_zero)).trans ((HBW.out.block q hqr).trans hq.2)⟩⟩, by show 2 - ((j : Int) + 1).toNat < 2 - (j : Int).toNat; have := HLJ.out; omega⟩
        · have hj1 : decide ((j : Int) < 2) = false := decide_eq_false (by omega)
          have HM1 := Lib.hid hm1
          clear hm1 hsz1 hold hlj
          go_wp2_with fail
          exact ⟨⟨k + 1, by omega, by go_num, f1, tl1, gl1, HM1.out⟩, HME.out⟩
    · have hcl := hm.close
      have hwk := fun (W : World) (hW : Below w.heap.size w W) => wakes11_any (HG.out.later hW) (HT.out.later HG.out hW)
      have HCL := Lib.hid hcl
      have HWK := Lib.hid hwk
      clear hcl hwk hm
      by_cases hk1 : k < xs.length
      · have h1 : (k : Int) < (xs.length : Int) := by omega
        have h2 : decide ((k : Int) < 300) = false := decide_eq_false (by omega)
        clear hlt
        go_wp2_with (first | (go_at_call 15; refine HCL.out.mono ?_; rintro e w2 ⟨rfl, f2, fv, gs, ns, hfl, hz, hb2⟩; have hown := own_any hfl hz hb2; have HOWN := Lib.hid hown; clear hfl hz hb2 hown) | (go_at_call 24; refine HOWN.out.mono ?_; rintro e w3 ⟨rfl, hb3⟩; have HB3 := Lib.hid hb3; clear hb3) | (go_at_call 16; refine (HWK.out _ HB3.out).mono ?_; rintro e w4 ⟨rfl, hb4⟩; have HB4 := Lib.hid hb4; clear hb4))
        rw [← HR.out]
        exact ⟨rfl, HB3.out.trans (HB4.out.mono HB3.out.size)⟩
      · have h1 : decide (k < xs.length) = false := decide_eq_false (by omega)
        clear hlt
        go_wp2_with (first | (go_at_call 15; refine HCL.out.mono ?_; rintro e w2 ⟨rfl, f2, fv, gs, ns, hfl, hz, hb2⟩; have hown := own_any hfl hz hb2; have HOWN := Lib.hid hown; clear hfl hz hb2 hown) | (go_at_call 24; refine HOWN.out.mono ?_; rintro e w3 ⟨rfl, hb3⟩; have HB3 := Lib.hid hb3; clear hb3) | (go_at_call 16; refine (HWK.out _ HB3.out).mono ?_; rintro e w4 ⟨rfl, hb4⟩; have HB4 := Lib.hid hb4; clear hb4))
        rw [← HR.out]
        exact ⟨rfl, HB3.out.trans (HB4.out.mono HB3.out.size)⟩
end Go.Proofs.YthgfjafnclklpaaGreatDoor
end
section
namespace Go.Proofs.YthgfjafnclklpaaGreatDoor
open Go.ChangeShapes Go.WideShapes Go.ChangeAt Go.RowKit

/-- the listed table -/
theorem tab_of {W : World} (h : Lib.VarReads Tryz.prog W "internal/strconv.uint64pow10" Rows.laid_internal_strconv_uint64pow10) : TabAt W := by
  obtain ⟨g', t', cs, fuel, p, h1, h2, h3, h4⟩ := h
  obtain rfl := Option.some.inj ((show Tryz.prog.globalNamed "internal/strconv.uint64pow10" = some 1 by kernel_rfl).symm.trans h1)
  obtain rfl := Option.some.inj ((show (Tryz.prog.globals[1]?).map (·.type) = some 207 by kernel_rfl).symm.trans h2)
  unfold TabAt Lib.TabIs
  rw [h3, ← Lib.cells_of_tab Tryz.underlying207 Tryz.underlying34 (by kernel_rfl) (by kernel_rfl) (k := .u64) (zs := Lib.pow10Tab) h4]
end Go.Proofs.YthgfjafnclklpaaGreatDoor
end
section
namespace Go.Proofs.YthgfjafnclklpaaGreatDoor
open Go.ChangeShapes Go.WideShapes Go.ChangeAt Go.RowKit

section
variable {H : Type} {enc : TypeId × Value → H} {w : World} {held : Bool}
/-- bytes that came in -/
theorem open_byteList {n : Nat} {v : Value} {y : DataW H × List MemPlace} (h : DataW.trod enc Tryz.prog w 0 (fun _ => true) held n 35 [v] = some y) :
    ∃ (A : Option Addr) (cap : Nat) (l : Sp.Bs), v = .slice A l.length cap ∧ RowAt w A (bytesV l) ∧ l.length ≤ cap ∧ (A = none → cap = 0) ∧ ((l = [] ∧ y.1 = .nil) ∨ ∃ es sp : List (DataW H), y.1 = .slice es sp ∧ es.length = l.length) := by
  obtain ⟨A, cap, l, h1, h2, h3, _, h5, h6⟩ := open_list (fun x : UInt8 => [Value.int .u8 (x.toNat : Int)]) (fun _ _ => True) (by decide) (fun _ => rfl) Tryz.underlying35 (by kernel_rfl) (fun _ _ x h hl => by
    obtain ⟨z, rfl, _, hw⟩ := DataW.trod_int Tryz.underlying5 h
    have hbd := bounds_u8 hw
    refine ⟨UInt8.ofNat z.toNat, ?_, trivial⟩
    have hz : ((UInt8.ofNat z.toNat).toNat : Int) = z := by
      rw [UInt8.toNat_ofNat', Nat.mod_eq_of_lt (by have : (2 : Nat) ^ 8 = 256 := rfl; omega), Int.toNat_of_nonneg hbd.1]
    rw [hz]) h
  refine ⟨A, cap, l, h1, by unfold bytesV; rw [List.map_eq_flatMap]; exact h2, h3, h5, ?_⟩
  rcases h6 with h6 | ⟨es, sp, q1, q2, _⟩
  · exact .inl h6
  · exact .inr ⟨es, sp, q1, q2⟩
set_option maxRecDepth 100000 in
theorem open_byteArgs {base : Nat} {v : Value} {d : DataW H} {p : List MemPlace} (hv : Value.okWide Tryz.prog w .any base 24 v) (h : DataW.Trod enc Tryz.prog w 0 (fun _ => true) held 24 v d p) (hw : ∀ n ∈ d.weights Tryz.prog 24, n ≤ reachBytes) :
    ∃ (A : Option Addr) (cap : Nat) (xs : List BytesArg), v = .slice A xs.length cap ∧ BytesArgs w A xs ∧ xs.length ≤ 9223372036854775807 := by
  obtain ⟨fuel, h⟩ := h
  obtain ⟨a0, n0, c0, rfl⟩ := okWide_slice Tryz.underlying24 hv
  replace h : DataW.trod enc Tryz.prog w 0 (fun _ => true) held fuel 24 [.slice a0 n0 c0] = some (d, p) := h
  obtain ⟨A, cap, l, hv', h1, h2, h3, h4, h5⟩ := open_list (k := 1) (fun a : BytesArg => [a.val]) (fun a d => (RowAt w a.A (bytesV a.l) ∧ (a.A = none → a.cap = 0)) ∧ ((a.l = [] ∧ d = .nil) ∨ ∃ es sp : List (DataW H), d = .slice es sp ∧ es.length = a.l.length)) (by decide) (fun _ => rfl) Tryz.underlying24 (by kernel_rfl) (fun n cs x hx hl => by
    match cs, hl with
    | [c0], _ =>
      obtain ⟨B, cp, l, rfl, b1, b2, b3, b4⟩ := open_byteList hx
      exact ⟨⟨B, cp, l⟩, rfl, ⟨b1, b3⟩, b4⟩) h
  refine ⟨A, cap, l, hv', ⟨by rw [List.map_eq_flatMap]; exact h1, fun x hx => ?_⟩, by omega⟩
  obtain ⟨i, hi⟩ := List.getElem?_of_mem hx
  rcases h5 with ⟨rfl, _⟩ | ⟨es, sp, hy, _, _, hq⟩
  · simp at hi
  · obtain ⟨d', hd', ⟨q1, q2⟩, q3⟩ := hq i x hi
    refine ⟨q1, q2, ?_⟩
    change d = _ at hy
    subst hy
    have hw1 := (weights_slice Tryz.underlying24 hw).2 i _ hd'
    rcases q3 with ⟨q3, _⟩ | ⟨es2, sp2, rfl, q4⟩
    · rw [q3]; exact Nat.zero_le _
    · have hw2 := (weights_slice Tryz.underlying35 hw1).1
      have e1 : Tryz.prog.bytesOf 5 = 1 := by kernel_rfl
      rw [e1] at hw2
      unfold reachBytes at hw2
      omega
end

set_option maxRecDepth 100000 in
theorem wordsLine_lifted (os : Os) (started : os.Started) (H : Type) (enc : TypeId × Value → H) :
    ReturnsInHanded {} Tryz.checked os 4 .any (fun w args => (Rows.wordsLineSpec.pre enc Tryz.prog Tryz.f4 [] false w args ∧ laidMetH Tryz.prog Rows.wordsLineRow.laid w) ∧ sizedMet enc Tryz.prog Tryz.f4 (OpenSpec.ofChange Rows.wordsLineSpec) false w args)
      (Rows.wordsLineSpec.post enc Tryz.prog Tryz.f4 false true false false) := by
  refine returns_laid_shaped (C := Tryz.checked) (X := fun w _ => laidMetH Tryz.prog Rows.wordsLineRow.laid w) (fun _ _ _ hh h => h.of_heap hh) ownKnob0 started (by kernel_rfl) Tryz.func4
    (ChangeSpec.witness_shaped (enc := enc) (C := Tryz.checked) (os := os) (X := fun w _ => laidMetH Tryz.prog Rows.wordsLineRow.laid w) false (World.laidAll Tryz.prog os Rows.wordsLineRow.laid) #[nilRow] 8 (World.laidAll_os _ _ _)
      (World.shaped_of_ZipB (by kernel_rfl) (by kernel_rfl)) (by kernel_rfl) (by kernel_rfl) (by kernel_rfl)
      (by rw [MakeChecks.laidMetH_plain _ _ _ (by kernel_rfl)]; exact laidMet_laidAll _ (by kernel_rfl) (by kernel_rfl))) ?_
  intro W base args ds gs before hval0 hW _ hsz hL hsh
  have hW' := hW
  obtain ⟨p, q, hA0, hV, rfl, _, _⟩ := hW
  have hA : DataW.TrodAll enc Tryz.prog W 0 (fun _ => true) true Tryz.f4.params.toList args.toList ds p := hA0
  rw [Tryz.params4] at hA
  rw [MakeChecks.laidMetH_plain _ _ _ (by kernel_rfl)] at hL
  have hG : Glob W := glob_of hsh ⟨_, Lib.laidMet.reads hL (.tail _ (.tail _ (.tail _ (.tail _ (.tail _ (.head _))))))⟩ ⟨_, Lib.laidMet.reads hL (.tail _ (.tail _ (.tail _ (.tail _ (.head _)))))⟩
  obtain ⟨v, d, rfl, rfl, hd⟩ := trodAll_one hA
  have hv : Value.okWide Tryz.prog W .any base 24 v := hval0 0 _ v (by rw [Tryz.params4]; rfl) rfl
  obtain ⟨A, cap, xs, rfl, h1, h2⟩ := open_byteArgs hv hd (fun n hn => by
    have := List.all_eq_true.1 hsz n (DataW.weights_mem_each (j := 0) (by rw [Tryz.params4]; rfl) rfl n hn)
    simpa using this)
  have hT : TabAt W := tab_of (Lib.laidMet.reads hL (.tail _ (.tail _ (.head _))))
  refine (wordsLine_any hG hT h1 h2).mono fun e W' ⟨he, hb⟩ => ?_
  subst he
  exact ⟨_, rfl, law_post hW' rfl (by kernel_rfl) rfl (by rw [Tryz.params4]; intro t ht; simp at ht; subst ht; exact ⟨by kernel_rfl, of_decide_eq_true (by kernel_rfl)⟩) hb⟩

theorem wordsLine_row : Rows.wordsLineRow.holds Tryz.pinned (OpenSpec.ofChange Rows.wordsLineSpec) :=
  OpenClaim.holds_of_wide 4 Tryz.f4 rfl rfl rfl rfl rfl rfl rfl ⟨rfl, rfl, rfl, rfl, rfl⟩ rfl rfl rfl rfl rfl (by kernel_rfl) Tryz.func4 (by kernel_rfl)
    (of_decide_eq_true (by kernel_rfl)) (by unfold Func.isWrapper; first | (rw [if_pos (by decide +kernel)]; kernel_rfl) | (rw [if_neg (by decide +kernel)]; exact ⟨rfl, rfl⟩))
    (fun os started H enc _ => wordsLine_lifted os started H enc)

/-- the statement -/
theorem wordsLine_card : Rows.WordsLineCardSaid :=
  Claim7.holds_tied_plain_at .later [] [.data, .data, .data, .data, .sentinel, .sentinel, .pinned] true Rows.wordsLineCard.stood.harness true
    wordsLine_row (fun _ h => by cases h) (by kernel_rfl) (fun _ h => by cases h) wordsLine_row_tie rfl ⟨rfl, rfl⟩ (by kernel_rfl) rfl
    (fun f fn hf hfn => by
      obtain rfl : f = 4 := Option.some.inj ((show Tryz.prog.funcNamed "granary/granarylaw11.WordsLine" = some 4 by kernel_rfl).symm.trans hf) |>.symm
      obtain rfl : fn = Tryz.f4 := (Option.some.inj (Tryz.func4.symm.trans hfn)).symm
      exact ⟨by kernel_rfl, fun j t ht => by
        rw [Tryz.params4] at ht
        obtain rfl : t = 24 := by simpa using Array.mem_of_getElem? ht
        kernel_rfl⟩)
    (by kernel_rfl)
#print axioms wordsLine_card
end Go.Proofs.YthgfjafnclklpaaGreatDoor
end
