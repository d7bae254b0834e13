/- Walk of package words: word, whatever the letter. Walks of package words: read where the line is too long, has no word, or its first word is no verb. Walk of package words: read where there are words. Walk of package words: read, whatever the line. -/
import Derived.Test.YthgfjafnclklpaaGreatDoorW9
import Derived.Test.YthgfjafnclklpaaGreatDoorPr
import Derived.Deep.RegionHeld3
import Derived.Laws.CopyOwn
import Derived.Deep.WholeRow
import Derived.Deep.DrawnRows
section
namespace Go.Proofs.YthgfjafnclklpaaGreatDoor
open Go.RowKit

theorem Glob.only {rb : Nat} {w w' : World} (h : Glob w) (ho : Only rb w.heap.size w w') (hr : 8 ≤ rb) : Glob w' :=
  h.keep (fun k hk => ho.block k (by have := h.size; omega) (by omega)) ho.size

theorem word_any {base rb : Nat} {c : Sp.CmdV} {block pass : Int} {kv mv : Value} {w : World} (h : RdIs base w rb c block pass kv mv) (hg : Glob w) (hgb : 8 ≤ base) (hgr : 8 ≤ rb) (k : UInt8) (hk : k ∈ ([75, 70, 84, 78, 67, 48, 68, 83, 86, 87, 71] : Sp.Bs))
    (l : Sp.Bs) (hne : l ≠ []) (hl : l.length ≤ 4294967270) (hn1 : c.keys.length ≤ 1000000) (hn2 : c.metas.length ≤ 1000000) (hm : ∀ f ∈ c.metas, f.arg.length ≤ 140737488355328) :
    Calls Tryz.prog 110 #[.pointer (some ⟨rb, 0, none⟩), .int .u8 k.toNat, str l] w (WordPost base rb pass w (Sp.wordAt c block k l)) := by
  have hl' : l.length ≤ 140737488355328 := by omega
  simp only [List.mem_cons, List.mem_nil_iff, or_false] at hk
  rcases hk with rfl | rfl | rfl | rfl | rfl | rfl | rfl | rfl | rfl | rfl | rfl
  · exact word_K h l hl' hn1
  · exact word_F h hg l hl'
  · cases ht : Sp.timeOf l with
    | none => exact word_time_no h hg l hl' 84 (.inl rfl) ht
    | some t => exact word_T h l hl' t ht
  · exact word_N h hg l hl'
  · exact word_C h hg l hl'
  · exact word_0 h l
  · exact word_D h hg l hl'
  · cases ht : Sp.timeOf l with
    | none => exact word_time_no h hg l hl' 83 (.inr rfl) ht
    | some t =>
      by_cases hneg : t < 0
      · exact word_time_neg h l hl' t hneg ht
      · exact word_S h l hl' t hneg ht
  · exact word_V h hg l hl'
  · exact word_W h l
  · cases l with
    | nil => exact absurd rfl hne
    | cons x t => exact word_G h hg hgb hgr x t (by simp at hl; omega) hn2 hm
end Go.Proofs.YthgfjafnclklpaaGreatDoor
end
section
namespace Go.Proofs.YthgfjafnclklpaaGreatDoor
open Go.RowKit

/-- what is thrown of a wrong line -/
abbrev thrownW (wr : Sp.WrongV) : Ending := .panicked [{ v := .iface 112 (.agg #[.int .i64 wr.kind, str wr.text, .int .i64 wr.pass]), recovered := false }]

abbrev nilSlice : Value := .slice none 0 0

/-- a reader that has read nothing -/
def RdNew (w : World) (rb : Nat) : Prop := Blk w rb 110 (rdCells {} nilSlice nilSlice (-1) (-1))

theorem RdNew.is {w : World} {rb : Nat} (h : RdNew w rb) {base : Nat} (hb : base ≤ w.heap.size) : RdIs base w rb {} (-1) (-1) nilSlice nilSlice :=
  ⟨h, hb, World.ownsRow_nil w base _ 1, World.ownsRow_nil w base _ 3⟩

/-- how read leaves the reader -/
def ReadPost (rb : Nat) (w : World) (r : Sp.LineR) (e : Ending) (w' : World) : Prop :=
  (match r with
    | .ok c b => e = .returned (.tuple #[]) ∧ ∃ pass kv mv, RdIs w.heap.size w' rb c b pass kv mv
    | .bad wr => e = thrownW wr) ∧ Only rb w.heap.size w w'

theorem ReadPost.ok {rb : Nat} {w w' : World} {r : Sp.LineR} {c : Sp.CmdV} {b : Int} (hr : r = .ok c b) {pass : Int} {kv mv : Value} (h : RdIs w.heap.size w' rb c b pass kv mv) (hb : Only rb w.heap.size w w') : ReadPost rb w r (.returned (.tuple #[])) w' := by
  subst hr; exact ⟨⟨rfl, pass, kv, mv, h⟩, hb⟩
theorem ReadPost.bad {rb : Nat} {w w' : World} {r : Sp.LineR} {wr : Sp.WrongV} (hr : r = .bad wr) (hb : Only rb w.heap.size w w') : ReadPost rb w r (thrownW wr) w' := by
  subst hr; exact ⟨rfl, hb⟩

theorem fields_any (line : Sp.Bs) (w : World) (hl : line.length ≤ 4294967280) :
    Calls Tryz.prog 106 #[str line, .func (.func 107) #[] #[]] w fun e w' => ∃ A, e = .returned (.slice (some ⟨A, 0, none⟩) (Sp.wordsOf line).length (Sp.wordsOf line).length) ∧ w.heap.size ≤ A ∧
      w'.ownsRow w.heap.size 9 1 (.slice (some ⟨A, 0, none⟩) (Sp.wordsOf line).length (Sp.wordsOf line).length) (Sp.wordsOf line).length ((Sp.wordsOf line).map str) ∧ Below w.heap.size w w' := by
  have hp : PredAt Tryz.prog 107 #[] encR isBlank w := fun W r _ => (read1_any r W).mono fun e w' ⟨h1, h2⟩ => ⟨h1, 0, h2.symm⟩
  have h1 := Tryz.strings_FieldsFunc 107 #[] (enters_of Tryz.func107 (by kernel_rfl) rfl) isBlank ⟨line.toArray⟩ w (by rw [str_size]; omega) hp
  rw [fields_words, str_list] at h1
  simp only [List.length_map, List.map_map] at h1
  exact h1

theorem lineOf_words {line : Sp.Bs} (h : line.length ≤ 2048) : Sp.lineOf line = match Sp.wordsOf line with
    | [] => .bad ⟨1, [], -1⟩
    | v :: ws => match Sp.rowOf v with
      | none => .bad ⟨1, [], -1⟩
      | some r => Sp.rest r ws := by
  unfold Sp.lineOf
  rw [if_neg (by omega)]
  cases Sp.wordsOf line with
  | nil => rfl
  | cons v ws => dsimp only; cases Sp.rowOf v <;> rfl

section
variable {rb : Nat} {w : World}

theorem read_long (h : RdNew w rb) (line : Sp.Bs) (hl : 2048 < line.length) :
    Calls Tryz.prog 65 #[.pointer (some ⟨rb, 0, none⟩), str line] w (ReadPost rb w (Sp.lineOf line)) := by
  have hr : Sp.lineOf line = .bad ⟨2, Sp.tooLong, -1⟩ := by unfold Sp.lineOf; rw [if_pos hl]
  have hf := fail_any rb (-1) ⟨Sp.tooLong.toArray⟩ w (Blk.cell h 12)
  generalize Sp.lineOf line = R at hr ⊢
  have HR := Lib.hid hr
  have Hf := Lib.hid hf
  clear hr hf h
  go_enter Tryz.func65, Tryz.ntmps65
  go_wp2_with fail
  refine Hf.out.mono ?_
  rintro e w1 ⟨rfl, rfl⟩
  go_wp2
  exact ⟨rfl, ReadPost.bad HR.out (Only.refl _ _ _)⟩

theorem read_empty (line : Sp.Bs) (hl : line.length ≤ 2048) (hw : Sp.wordsOf line = []) :
    Calls Tryz.prog 65 #[.pointer (some ⟨rb, 0, none⟩), str line] w (ReadPost rb w (Sp.lineOf line)) := by
  have hr : Sp.lineOf line = .bad ⟨1, [], -1⟩ := by rw [lineOf_words hl, hw]
  have hf := fields_any line w (by omega)
  rw [hw] at hf
  generalize Sp.lineOf line = R at hr ⊢
  have HR := Lib.hid hr
  have Hf := Lib.hid hf
  clear hr hf hw
  go_enter Tryz.func65, Tryz.ntmps65
  go_wp2_with fail
  refine Hf.out.mono ?_
  rintro e w1 ⟨A, rfl, hA, hown, hb1⟩
  go_wp2
  exact ⟨rfl, ReadPost.bad HR.out (Only.of hb1)⟩

theorem row_zero (w : World) : (zeroValue 90).run Tryz.prog w = .ok (.agg #[.int .i64 0, .string ⟨#[]⟩, .int .i64 0, .bool false, .bool false, .bool false]) w := by kernel_rfl

theorem rows_no {w2 : World} {b : Nat} (ht : HoldsTab w2 b rowVal Sp.tab) (v : Sp.Bs) (h : Sp.rowOf v = none) :
    (Instr.lookup 129 (.map (some b)) (str v) true).run Tryz.prog w2 = .ok (.tuple #[.agg #[.int .i64 0, .string ⟨#[]⟩, .int .i64 0, .bool false, .bool false, .bool false], .bool false]) w2 := by
  refine run_lookup_no (e := 90) Tryz.underlying129 Tryz.underlying9 ht ⟨v.toArray⟩ (row_zero w2) ?_
  have h' : Sp.tab.find? (fun x => v == x.1) = none := by
    unfold Sp.rowOf at h
    cases hf : Sp.tab.find? (fun x => v == x.1) with
    | none => rfl
    | some x => rw [hf] at h; cases h
  simpa using findNow_none rowVal v Sp.tab h'

theorem rows_yes {w2 : World} {b : Nat} (ht : HoldsTab w2 b rowVal Sp.tab) (v : Sp.Bs) (r : Sp.RowV) (h : Sp.rowOf v = some r) :
    (Instr.lookup 129 (.map (some b)) (str v) true).run Tryz.prog w2 = .ok (.tuple #[.agg #[.int .i64 r.verb, str r.places, .int .i64 r.least, .bool r.more, .bool r.noreply, .bool r.block], .bool true]) w2 := by
  have h' : ∃ x, Sp.tab.find? (fun x => v == x.1) = some x ∧ x.2 = r := by
    unfold Sp.rowOf at h
    cases hf : Sp.tab.find? (fun x => v == x.1) with
    | none => rw [hf] at h; cases h
    | some x => rw [hf] at h; injection h with h; exact ⟨x, rfl, h⟩
  obtain ⟨x, hx, rfl⟩ := h'
  obtain ⟨i, hi⟩ := findNow_some rowVal v Sp.tab hx
  exact run_lookup_ok (e := 90) Tryz.underlying129 Tryz.underlying9 ht ⟨v.toArray⟩ (i := i) (by rw [show ((ents rowVal 0 Sp.tab).toArray).toList = ents rowVal 0 Sp.tab from by simp]; exact hi)
end
end Go.Proofs.YthgfjafnclklpaaGreatDoor
end
section
namespace Go.Proofs.YthgfjafnclklpaaGreatDoor
attribute [local go_sem ↓] Go.wp_at_zero Go.wp_at_succ
open Go.RowKit

/-- a row's cells in a variable of its own -/
def rowCells (r : Sp.RowV) : Array Value := #[.int .i64 r.verb, str r.places, .int .i64 r.least, .bool r.more, .bool r.noreply, .bool r.block]

/-- behind the look-up -/
def Looked (w1 : World) (r : Sp.RowV) (ok : Bool) (p s : Value) (wx : World) : Prop :=
  ∃ b5, p = .pointer (some ⟨b5, 0, none⟩) ∧ s = .bool ok ∧ Blk wx b5 90 (rowCells r) ∧ w1.heap.size ≤ b5 ∧ Below w1.heap.size w1 wx

theorem looked_new {w1 w2 : World} {r : Sp.RowV} {ok : Bool} (hB : Below w1.heap.size w1 w2) :
    Looked w1 r ok (.pointer (some ⟨w2.heap.size, 0, none⟩)) (.bool ok) (w2.alloc (.cells (rowCells r) 90)) :=
  ⟨_, rfl, rfl, Blk.new _ _ _, hB.size, hB.alloc hB.size _⟩

theorem looked_cell {w1 wx : World} {r : Sp.RowV} {ok : Bool} {p s x : Value} {A : Nat} (h : Looked w1 r ok p s wx) (hA : A < w1.heap.size) (hx : w1.cell? ⟨A, 0, none⟩ = some x) : wx.cell? ⟨A, 0, none⟩ = some x := by
  obtain ⟨_, _, _, _, _, hb⟩ := h
  exact (hb.cell (p := ⟨A, 0, none⟩) hA).trans hx

/-- a block of a row's cells -/
def RowIn (w : World) (b : Nat) : Prop := ∃ z0 z1 z2 z3 z4 z5, Blk w b 90 #[z0, z1, z2, z3, z4, z5]

theorem rowIn_of {w : World} {b : Nat} {z0 z1 z2 z3 z4 z5 : Value} (h : Blk w b 90 #[z0, z1, z2, z3, z4, z5]) : RowIn w b := ⟨_, _, _, _, _, _, h⟩

theorem run_store_rowIn (w : World) (b : Nat) (a : Int) (s : ByteArray) (d : Int) (x y z : Bool) (h : RowIn w b) :
    (storeVar 90 ⟨b, 0, none⟩ (.agg #[.int .i64 a, .string s, .int .i64 d, .bool x, .bool y, .bool z])).run Tryz.prog w = .ok () (w.setRow b #[.int .i64 a, .string s, .int .i64 d, .bool x, .bool y, .bool z]) := by
  obtain ⟨_, _, _, _, _, _, hb⟩ := h
  exact run_storeVar_row w b _ _ _ _ hb (by kernel_rfl) rfl (by simp [Value.oneCell'])

theorem run_store_rowNew (w : World) (z0 z1 z2 z3 z4 z5 : Value) (a : Int) (s : ByteArray) (d : Int) (x y z : Bool) :
    (storeVar 90 ⟨w.heap.size, 0, none⟩ (.agg #[.int .i64 a, .string s, .int .i64 d, .bool x, .bool y, .bool z])).run Tryz.prog (w.alloc (.cells #[z0, z1, z2, z3, z4, z5] 90)) =
      .ok () (w.alloc (.cells #[.int .i64 a, .string s, .int .i64 d, .bool x, .bool y, .bool z] 90)) := by
  rw [run_store_rowIn _ _ a s d x y z (rowIn_of (Blk.new w _ _)), World.setRow_alloc_new]

theorem looked_row {w1 w2 : World} {r : Sp.RowV} {ok : Bool} {z0 z1 z2 z3 z4 z5 : Value} (hB : Below w1.heap.size w1 w2) (hb : Blk w2 w1.heap.size 90 #[z0, z1, z2, z3, z4, z5]) :
    Looked w1 r ok (.pointer (some ⟨w1.heap.size, 0, none⟩)) (.bool ok) (w2.setRow w1.heap.size (rowCells r)) :=
  ⟨_, rfl, rfl, setRow_heap _ _ _ _ _ _ hb, Nat.le_refl _, below_setRow hB (Nat.le_refl _) _⟩

theorem RowAt.tail {w : World} {A o : Nat} {x : Value} {xs : List Value} (h : RowAt w (some ⟨A, o, none⟩) (x :: xs)) : RowAt w (some ⟨A, o + 1, none⟩) xs := by
  rcases h with h | ⟨b, o', h1, h2, h3⟩
  · cases h
  · injection h1 with h1; injection h1 with e1 e2; subst e1; subst e2
    exact .inr ⟨A, o + 1, rfl, h2, fun j u hu => by
      have := h3 (j + 1) u (by simpa using hu)
      rw [show o + 1 + j = o + (j + 1) by omega]
      exact this⟩

/-- the reader in the middle of a line: its words lie in one row, the verb's row in a block of its own; its own lists lie from B on -/
structure Mid (w : World) (rb : Nat) (c : Sp.CmdV) (block pass : Int) (kv mv : Value) (A o : Nat) (ws : List Sp.Bs) (b5 : Nat) (r : Sp.RowV) (B : Nat) (wx : World) : Prop where
  rd : RdIs B wx rb c block pass kv mv
  row : RowAt wx (some ⟨A, o, none⟩) (ws.map str)
  rowb : Blk wx b5 90 (rowCells r)
  only : Only rb w.heap.size w wx
  apart : rb < A
  hA : A < B
  h5 : b5 < B
  hB : w.heap.size ≤ B

theorem RowAt.far {w : World} {A o : Nat} {xs : List Value} (h : RowAt w (some ⟨A, o, none⟩) xs) {p : Addr} (hp : p.block ≠ A) (u : Value) : RowAt (w.setCell p u) (some ⟨A, o, none⟩) xs := by
  rcases h with h | ⟨b, o', h1, h2, h3⟩
  · exact .inl h
  · injection h1 with h1; injection h1 with e1 e2; subst e1; subst e2
    refine .inr ⟨A, o, rfl, by simpa [World.setCell] using h2, fun j u' hu => ?_⟩
    rw [World.cell?_of_block (w := w) (Below.heap_setCell w p u A (fun e => hp e.symm))]
    exact h3 j u' hu

/-- is there a word in N's place? -/
def nAt (r : Sp.RowV) (ws : List Sp.Bs) : Bool := decide (0 ≤ Lib.indexByte r.places 78) && decide (Lib.indexByte r.places 78 < ws.length)

theorem pass_no {r : Sp.RowV} {ws : List Sp.Bs} (h : nAt r ws = false) : Sp.passOf r ws = -1 := by
  unfold nAt at h
  rw [indexByte_indexOf] at h
  unfold Sp.passOf
  cases hi : Sp.indexOf r.places 78 with
  | none => rfl
  | some i =>
    rw [hi] at h
    have : ws[i]? = none := by
      rw [List.getElem?_eq_none_iff]
      simp at h
      omega
    dsimp only
    rw [this]

theorem pass_at {r : Sp.RowV} {ws : List Sp.Bs} (h : nAt r ws = true) : ∃ (i : Nat) (l : Sp.Bs), Lib.indexByte r.places 78 = (i : Int) ∧ ws[i]? = some l ∧
    Sp.passOf r ws = (match Sp.number l 2147483647 with | some n => (n : Int) | none => -1) := by
  unfold nAt at h
  rw [indexByte_indexOf] at h
  unfold Sp.passOf
  rw [indexByte_indexOf]
  cases hi : Sp.indexOf r.places 78 with
  | none => rw [hi] at h; simp at h
  | some i =>
    rw [hi] at h
    simp at h
    refine ⟨i, ws[i], rfl, by simp [h], ?_⟩
    dsimp only
    rw [List.getElem?_eq_getElem h]
    dsimp only
    cases Sp.number ws[i] 2147483647 <;> rfl

/-- the words that are looked at -/
def restOf (r : Sp.RowV) (ws : List Sp.Bs) : List Sp.Bs := if Sp.isNoreply r ws then ws.dropLast else ws

/-- too few words, or too many -/
def offCount (r : Sp.RowV) (qs : List Sp.Bs) : Bool := decide (qs.length < r.least) || (decide (r.places.length < qs.length) && !r.more)

theorem rest_is (r : Sp.RowV) (ws : List Sp.Bs) : Sp.rest r ws =
    if offCount r (restOf r ws) = true then .bad ⟨2, Sp.badFormat, Sp.passOf r ws⟩
    else match Sp.wordsAt r.places 0 { verb := r.verb, noreply := Sp.isNoreply r ws } (-1) (restOf r ws) with
      | .ok (c, b) => .ok c b
      | .error e => .bad ⟨2, e, Sp.passOf r ws⟩ := by
  unfold Sp.rest restOf offCount
  dsimp only
  congr 1
  simp only [Bool.or_eq_true, Bool.and_eq_true, decide_eq_true_eq, Bool.not_eq_true']

theorem byte_getD (l : Sp.Bs) (m : Nat) (h : m < (⟨l.toArray⟩ : ByteArray).size) : (⟨l.toArray⟩ : ByteArray)[m]'h = l.getD m 0 := by
  have h' : m < l.length := by rwa [str_size] at h
  show l.toArray[m] = _
  simp [List.getD, h']

theorem wordsAt_step (places : Sp.Bs) (k : Nat) (c : Sp.CmdV) (b : Int) (qs : List Sp.Bs) {l : Sp.Bs} (h : qs[k]? = some l) : Sp.wordsAt places k c b (qs.drop k) =
    match Sp.wordAt c b (places.getD (min k (places.length - 1)) 0) l with
    | .ok (c', b') => Sp.wordsAt places (k + 1) c' b' (qs.drop (k + 1))
    | .error e => .error e := by
  obtain ⟨hk, rfl⟩ := List.getElem?_eq_some_iff.1 h
  rw [List.drop_eq_getElem_cons hk]
  rfl

/-- the loop over the words, behind k of them -/
def LoopAt (w : World) (rb : Nat) (r : Sp.RowV) (qs : List Sp.Bs) (pass : Int) (A o b5 : Nat) (nr : Bool) (B : Nat) (k : Nat) (wr : World) : Prop :=
  ∃ c bl kv mv, Mid w rb c bl pass kv mv A o qs b5 r B wr ∧ Sp.wordsAt r.places 0 { verb := r.verb, noreply := nr } (-1) qs = Sp.wordsAt r.places k c bl (qs.drop k) ∧
    c.keys.length ≤ k ∧ c.metas.length ≤ k ∧ ∀ f ∈ c.metas, f.arg.length ≤ 2048

section
variable {rb : Nat} {kv mv : Value} {w wx wy : World} {c c' : Sp.CmdV} {block block' pass pass' : Int} {A o b5 B : Nat} {ws : List Sp.Bs} {r : Sp.RowV}
theorem Mid.later (h : Mid w rb c block pass kv mv A o ws b5 r B wx) (hb : Below wx.heap.size wx wy) : Mid w rb c block pass kv mv A o ws b5 r B wy :=
  ⟨h.rd.later hb, h.row.below hb, h.rowb.later hb, h.only.later hb h.only.size, h.apart, h.hA, h.h5, h.hB⟩
theorem Mid.put (h : Mid w rb c block pass kv mv A o ws b5 r B wx) (i : Nat) (u : Value) (hc : (rdCells c kv mv block pass).setIfInBounds i u = rdCells c' kv mv block' pass') (hk : c'.keys = c.keys) (hm : c'.metas = c.metas) :
    Mid w rb c' block' pass' kv mv A o ws b5 r B (wx.setCell ⟨rb, i, none⟩ u) :=
  ⟨h.rd.put i u hc hk hm, h.row.far (by have := h.apart; simp; omega) u, h.rowb.far (by have := Blk.apart h.rd.blk h.rowb (by decide); simp; omega) u, h.only.put i u, h.apart, h.hA, h.h5, h.hB⟩
/-- a word, by its place -/
theorem Mid.word (h : Mid w rb c block pass kv mv A o ws b5 r B wx) {i : Nat} {l : Sp.Bs} (hl : ws[i]? = some l) : wx.cell? ⟨A, o + i, none⟩ = some (str l) := by
  rcases h.row with h0 | ⟨b, o', h1, h2, h3⟩
  · have : ws = [] := by simpa using h0
    subst this
    simp at hl
  · injection h1 with h1; injection h1 with e1 e2; subst e1; subst e2
    exact h3 i _ (by simp [hl])
theorem Mid.word_ok {kv' mv' : Value} (h : Mid w rb c block pass kv mv A o ws b5 r B wx) (hr : RdIs B wy rb c' block' pass kv' mv') (ho : Only rb B wx wy) : Mid w rb c' block' pass kv' mv' A o ws b5 r B wy := by
  have hA := h.hA
  have h5 := h.h5
  have hap := h.apart
  have hne : b5 ≠ rb := fun e => Blk.apart h.rd.blk h.rowb (by decide) e.symm
  refine ⟨hr, ?_, h.rowb.same (ho.block b5 h5 hne), h.only.trans (ho.mono h.hB), h.apart, h.hA, h.h5, h.hB⟩
  rcases h.row with h0 | ⟨b, o', h1, h2, h3⟩
  · exact .inl h0
  · injection h1 with h1; injection h1 with e1 e2; subst e1; subst e2
    exact .inr ⟨A, o, rfl, Nat.lt_of_lt_of_le h2 ho.size, fun j u hu => (World.cell?_of_block (ho.block A hA (by omega))).trans (h3 j u hu)⟩
/-- its lists lie from w on -/
theorem Mid.rdw (h : Mid w rb c block pass kv mv A o ws b5 r B wx) : RdIs w.heap.size wx rb c block pass kv mv :=
  ⟨h.rd.blk, h.only.size, own_base h.rd.keys (fun k hk => Nat.le_trans h.hB (h.rd.keys.lt k hk).1), own_base h.rd.metas (fun k hk => Nat.le_trans h.hB (h.rd.metas.lt k hk).1)⟩
theorem Mid.take (h : Mid w rb c block pass kv mv A o ws b5 r B wx) (k : Nat) : Mid w rb c block pass kv mv A o (ws.take k) b5 r B wx :=
  ⟨h.rd, by have := h.row.take k; rwa [← List.map_take] at this, h.rowb, h.only, h.apart, h.hA, h.h5, h.hB⟩
end

section
variable {rb : Nat} {w : World}

theorem storeVar_int (t : TypeId) (a : Addr) (k : IntKind) (n : Int) : type_of% (storeVar.eq_1 t a (.int k n)) := storeVar.eq_1 t a (.int k n)
theorem storeVar_bool (t : TypeId) (a : Addr) (b : Bool) : type_of% (storeVar.eq_1 t a (.bool b)) := storeVar.eq_1 t a (.bool b)
attribute [-go_sem] storeVar
attribute [local go_sem] run_store_rowIn run_store_rowNew storeVar_int storeVar_bool

set_option maxRecDepth 100000 in
set_option maxHeartbeats 16000000 in
theorem read_words (h : RdNew w rb) (hg : Glob w) (hgr : 8 ≤ rb) (line : Sp.Bs) (hl : line.length ≤ 2048) (v : Sp.Bs) (ws : List Sp.Bs) (hw : Sp.wordsOf line = v :: ws) (r : Sp.RowV) (ok : Bool) (hrowof : Sp.rowOf v = if ok then some r else none) (hok : ok = true → RowOk r)
    (hlook : ∀ (w2 : World) (b : Nat), HoldsTab w2 b rowVal Sp.tab → (Instr.lookup 129 (.map (some b)) (str v) true).run Tryz.prog w2 = .ok (.tuple #[.agg #[.int .i64 r.verb, str r.places, .int .i64 r.least, .bool r.more, .bool r.noreply, .bool r.block], .bool ok]) w2) :
    Calls Tryz.prog 65 #[.pointer (some ⟨rb, 0, none⟩), str line] w (ReadPost rb w (Sp.lineOf line)) := by
  have hf := fields_any line w (by omega)
  have hne : ((ws.length : Int) + 1 == 0) = false := by simp; omega
  have hwsl : ws.length ≤ 2048 := by have := wordsOf_count line; rw [hw] at this; simp at this; omega
  rw [hw] at hf
  have Hf := Lib.hid hf
  have HL := Lib.hid hlook
  have H := Lib.hid h
  have HW := Lib.hid hw
  have HG := Lib.hid hg
  have HOK0 := Lib.hid hok
  clear hf h hw hlook hg hok
  go_enter Tryz.func65, Tryz.ntmps65
  go_wp2_with fail
  refine Hf.out.mono ?_
  rintro e w1 ⟨A, rfl, hA, hown, hb1⟩
  have hrow := RowAt.of_own hown
  have x0 : w1.cell? ⟨A, 0, none⟩ = some (str v) := by
    rcases hrow with h0 | ⟨b, o, hab, hb, hc⟩
    · simp at h0
    · injection hab with hab; injection hab with e1 e2; subst e1; subst e2
      exact hc 0 _ rfl
  have hAlt : A < w1.heap.size := by
    rcases hrow with h0 | ⟨b, o, hab, hb, hc⟩
    · simp at h0
    · injection hab with hab; injection hab with e1 e2; subst e1; exact hb
  have Hown := Lib.hid hown
  have HX0 := Lib.hid x0
  clear hown hrow x0
  have h0 := HX0.out
  go_wp2_with fail
  go_cut [5, 6] (fun p s wx => Looked w1 r ok p s wx)
  case first =>
    have hne0 := World.new_ne w1 _ HX0.out
    go_region_held3 (fun w' => w'.cell? ⟨A, 0, none⟩ = some (str v)) (first | with_reducible exact y0 | with_reducible exact h0 | exact looked_cell (looked_row (r := r) (ok := ok) hB bk) hAlt HX0.out | exact looked_cell (looked_new (r := r) (ok := ok) hB) hAlt HX0.out | go_keep) ((go_at_call 82; refine (rows_any _).mono ?_; rintro e w2 ⟨b, rfl, htab, hbb, hb2⟩; have hlk := HL.out w2 b htab; first | (have hlk2 := fun o => HL.out (w2.alloc o) b (htab.same (Below.heap_alloc w2 o b htab.lt)); have y0 := (hb2.cell (p := ⟨A, 0, none⟩) hAlt).trans HX0.out; have hne1 := World.new_ne w2 _ y0; have hA2 : A < w2.heap.size := Nat.lt_of_lt_of_le hAlt hb2.size; have hB : Below w1.heap.size w1 w2 := ((Below.refl w1.heap.size w1).drew).trans hb2) | (have hB : Below w1.heap.size w1 w2 := boxed_below hb2; have y0 := (hB.cell (p := ⟨A, 0, none⟩) hAlt).trans HX0.out; have hA2 : A < w2.heap.size := Nat.lt_of_lt_of_le hAlt hB.size; have bk := boxed hb2; have hri := rowIn_of bk)))
    all_goals (go_wp2_with fail; go_meet; first | exact looked_new hB | exact looked_row hB bk)
  case rest =>
    obtain ⟨b5, rfl, rfl, hb5, hlow5, hbc⟩ := hcut
    have hspec := lineOf_words hl
    rw [HW.out] at hspec
    dsimp only at hspec
    rw [hrowof] at hspec
    cases ok with
    | false =>
      have hr : Sp.lineOf line = .bad ⟨1, [], -1⟩ := hspec
      have HR := Lib.hid hr
      have hbb : Below w.heap.size w wc := hb1.trans (hbc.mono hb1.size)
      clear hspec hr hb5 hbc hrowof
      go_wp2
      exact ⟨rfl, ReadPost.bad HR.out (Only.of hbb)⟩
    | true =>
      have hr : Sp.lineOf line = Sp.rest r ws := hspec
      have HOK := Lib.hid (HOK0.out rfl)
      have HR := Lib.hid hr
      have hbw : Below w.heap.size w wc := hb1.trans (hbc.mono hb1.size)
      have hrd : RdIs wc.heap.size wc rb {} (-1) (-1) nilSlice nilSlice := RdNew.is (Blk.later H.out hbw) (Nat.le_refl _)
      have hAc : A < wc.heap.size := Nat.lt_of_lt_of_le hAlt hbc.size
      have h5c : b5 < wc.heap.size := hb5.lt
      obtain ⟨B, hB⟩ : ∃ B, B = wc.heap.size := ⟨_, rfl⟩
      rw [← hB] at hrd hAc h5c
      have hBw : w.heap.size ≤ B := by rw [hB]; exact hbw.size
      have hown := own_later Hown.out hbc
      have hapart : rb < A := Nat.lt_of_lt_of_le (Blk.lt H.out) hA
      clear hspec hr hrowof h0
      go_upto_region 8 with (fail)
      go_cut [4] (fun s wy => ∃ o, s = .slice (some ⟨A, o, none⟩) ws.length ws.length ∧ Mid w rb {} (-1) (-1) nilSlice nilSlice A o ws b5 r B wy)
      case first =>
        rcases ws with _ | ⟨x, t⟩
        · go_wp2_with fail
          go_meet
          exact ⟨0, rfl, hrd, .inl rfl, hb5, Only.of hbw, hapart, hAc, h5c, hBw⟩
        · go_wp2_with fail
          go_meet
          exact ⟨1, rfl, hrd, (RowAt.of_own hown).tail, hb5, Only.of hbw, hapart, hAc, h5c, hBw⟩
      case rest =>
        obtain ⟨o, rfl, hmid⟩ := hcut
        clear hrd hown hb5 hbc hbw hAc h5c hB
        have HM := Lib.hid hmid
        have x0 := hmid.rd.blk.cell 0
        have f0 := hmid.rd.blk.frozen 0
        have y0 := hmid.rowb.cell 0
        change wc.cell? ⟨rb, 0, none⟩ = some _ at x0
        change wc.cell? ⟨b5, 0, none⟩ = some (.int .i64 r.verb) at y0
        clear hmid
        go_upto_region 9 with (fail)
        go_cut [] (fun wy => Mid w rb { verb := r.verb } (-1) (-1) nilSlice nilSlice A o ws b5 r B wy)
        case first =>
          go_wp2_with fail
          go_meet
          exact HM.out.put 0 _ rfl rfl rfl
        case rest =>
          clear x0 f0 y0 HM
          have HM := Lib.hid hcut
          have y1 := hcut.rowb.cell 1
          change wc.cell? ⟨b5, 1, none⟩ = some (str r.places) at y1
          clear hcut
          go_upto_region 11 with (go_at_call 108; refine (idx_byte r.places 78 _).mono ?_; rintro e w9 ⟨rfl, rfl⟩)
          go_cut [57] (fun s wy => s = .bool (nAt r ws) ∧ Mid w rb { verb := r.verb } (-1) (-1) nilSlice nilSlice A o ws b5 r B wy)
          case first =>
            by_cases hi0 : 0 ≤ Lib.indexByte r.places 78
            · have e : nAt r ws = decide (Lib.indexByte r.places 78 < ws.length) := by simp [nAt, hi0]
              have HE := Lib.hid e
              clear e
              go_wp2_with fail
              go_meet
              exact ⟨by rw [HE.out], HM.out⟩
            · have e : nAt r ws = false := by simp [nAt, hi0]
              have hi1 : decide (0 ≤ Lib.indexByte r.places 78) = false := by simpa using hi0
              have HE := Lib.hid e
              clear e hi0
              go_wp2_with fail
              go_meet
              exact ⟨by rw [HE.out], HM.out⟩
          case rest =>
            clear HM y1
            obtain ⟨rfl, hmid⟩ := hcut
            have HM := Lib.hid hmid
            clear hmid
            go_upto_if 57 with (fail)
            go_cut [7] (fun _ wy => Mid w rb { verb := r.verb } (-1) (Sp.passOf r ws) nilSlice nilSlice A o ws b5 r B wy)
            case first =>
              cases hB : nAt r ws with
              | false =>
                have e : Sp.passOf r ws = -1 := pass_no hB
                have HE := Lib.hid e
                clear e hB
                go_wp2_with fail
                go_meet
                rw [HE.out]
                exact HM.out
              | true =>
                obtain ⟨i, l, e1, e2, e3⟩ := pass_at hB
                have hword := HM.out.word e2
                have hil : i < ws.length := (List.getElem?_eq_some_iff.1 e2).1
                have hmem : l ∈ Sp.wordsOf line := by rw [HW.out]; exact List.mem_cons_of_mem _ (List.mem_of_getElem? e2)
                have hll : l.length ≤ 2048 := Nat.le_trans (wordsOf_mem hmem).2 hl
                have hgc := HG.out.only HM.out.only hgr
                clear e2 hmem
                cases hnum : Sp.number l 2147483647 with
                | none =>
                  rw [hnum] at e3
                  have h1 := number_no l 2147483647 wc (by omega) hgc hnum
                  have HE := Lib.hid e3
                  have H1 := Lib.hid h1
                  clear e3 h1 hB hnum hgc
                  go_wp2_with fail
                  refine H1.out.mono ?_
                  rintro e w9 ⟨n, rfl, hb9⟩
                  go_wp2_with fail
                  go_meet
                  rw [HE.out]
                  exact HM.out.later hb9
                | some n =>
                  rw [hnum] at e3
                  have h1 := number_yes l 2147483647 n wc (by omega) (by decide) hnum
                  have hn := number_le hnum
                  have HE := Lib.hid e3
                  have H1 := Lib.hid h1
                  clear e3 h1 hB hnum hgc
                  go_wp2_with fail
                  refine H1.out.mono ?_
                  rintro e w9 ⟨rfl, hb9⟩
                  have hm9 := HM.out.later hb9
                  have x9 := hm9.rd.blk.cell 12
                  have f9 := hm9.rd.blk.frozen 12
                  change w9.cell? ⟨rb, 12, none⟩ = some _ at x9
                  have HM9 := Lib.hid hm9
                  clear hm9
                  go_wp2_with fail
                  go_meet
                  rw [HE.out]
                  exact HM9.out.put 12 _ rfl rfl rfl
            case rest =>
              clear HM
              have HM := Lib.hid hcut
              clear hcut
              go_upto_region 16 with (fail)
              go_cut [10, 89] (fun q s wy => q = .int .i64 ((ws.length : Int) - 1) ∧ s = .bool (Sp.isNoreply r ws) ∧ Mid w rb { verb := r.verb } (-1) (Sp.passOf r ws) nilSlice nilSlice A o ws b5 r B wy)
              case first =>
                have y2 := HM.out.rowb.cell 2
                have y4 := HM.out.rowb.cell 4
                change wc.cell? ⟨b5, 2, none⟩ = some (.int .i64 r.least) at y2
                change wc.cell? ⟨b5, 4, none⟩ = some (.bool r.noreply) at y4
                cases hnr : r.noreply with
                | false =>
                  rw [hnr] at y4
                  have e : Sp.isNoreply r ws = false := by simp [Sp.isNoreply, hnr]
                  have HE := Lib.hid e
                  clear e hnr
                  go_wp2_with fail
                  go_meet
                  exact ⟨rfl, by rw [HE.out], HM.out⟩
                | true =>
                  rw [hnr] at y4
                  by_cases hle : r.least + 1 ≤ ws.length
                  · obtain ⟨l, hl1⟩ : ∃ l, ws[ws.length - 1]? = some l := ⟨ws[ws.length - 1]'(by omega), by simp⟩
                    have hword := HM.out.word hl1
                    have hge : decide ((r.least : Int) ≤ (ws.length : Int) - 1) = true := by simp; omega
                    have hpos : 1 ≤ ws.length := by omega
                    have hlast : ws.getLast? = some l := by rw [List.getLast?_eq_getElem?]; exact hl1
                    have e : Sp.isNoreply r ws = (l == [110, 111, 114, 101, 112, 108, 121]) := by
                      simp [Sp.isNoreply, hnr, hle, hlast, Sp.noreplyW]
                    have HE := Lib.hid e
                    clear e hnr hl1 hlast
                    go_wp2_with fail
                    go_meet
                    exact ⟨rfl, by rw [HE.out], HM.out⟩
                  · have hge : decide ((r.least : Int) ≤ (ws.length : Int) - 1) = false := by simp; omega
                    have e : Sp.isNoreply r ws = false := by simp [Sp.isNoreply]; intro _ h; omega
                    have HE := Lib.hid e
                    clear e hnr
                    go_wp2_with fail
                    go_meet
                    exact ⟨rfl, by rw [HE.out], HM.out⟩
              case rest =>
                clear HM
                obtain ⟨rfl, rfl, hmid⟩ := hcut
                have HM := Lib.hid hmid
                clear hmid
                go_upto_if 89 with (fail)
                go_cut [4] (fun s wy => s = .slice (some ⟨A, o, none⟩) (restOf r ws).length ws.length ∧ Mid w rb { verb := r.verb, noreply := Sp.isNoreply r ws } (-1) (Sp.passOf r ws) nilSlice nilSlice A o (restOf r ws) b5 r B wy)
                case first =>
                  cases hB : Sp.isNoreply r ws with
                  | false =>
                    have e : restOf r ws = ws := by simp [restOf, hB]
                    have HE := Lib.hid e
                    have HBB := Lib.hid hB
                    clear e hB
                    go_wp2_with fail
                    go_meet
                    rw [HE.out, HBB.out]
                    exact ⟨rfl, HM.out⟩
                  | true =>
                    have e : restOf r ws = ws.take (ws.length - 1) := by simp [restOf, hB, List.dropLast_eq_take]
                    have hpos : 1 ≤ ws.length := by
                      simp [Sp.isNoreply] at hB
                      omega
                    have x7 := HM.out.rd.blk.cell 7
                    have f7 := HM.out.rd.blk.frozen 7
                    change wc.cell? ⟨rb, 7, none⟩ = some _ at x7
                    have HE := Lib.hid e
                    have HBB := Lib.hid hB
                    clear e hB
                    go_wp2_with fail
                    go_meet
                    rw [HE.out, HBB.out]
                    exact ⟨by simp, (HM.out.put (c' := { verb := r.verb, noreply := true }) 7 (.bool true) rfl rfl rfl).take _⟩
                case rest =>
                  clear HM
                  obtain ⟨rfl, hmid⟩ := hcut
                  have HM := Lib.hid hmid
                  clear hmid
                  have hqs : ∀ l ∈ restOf r ws, l ≠ [] ∧ l.length ≤ 2048 := by
                    intro l hl1
                    have hm1 : l ∈ ws := by
                      unfold restOf at hl1
                      split at hl1
                      · exact (List.dropLast_sublist ws).subset hl1
                      · exact hl1
                    have hm2 : l ∈ Sp.wordsOf line := by rw [HW.out]; exact List.mem_cons_of_mem _ hm1
                    exact ⟨(wordsOf_mem hm2).1, Nat.le_trans (wordsOf_mem hm2).2 hl⟩
                  have hqn : (restOf r ws).length ≤ 2048 := by
                    have : (restOf r ws).length ≤ ws.length := by unfold restOf; split <;> simp
                    omega
                  have hR2 := HR.out.trans (rest_is r ws)
                  generalize restOf r ws = qs at HM hqs hqn hR2 ⊢
                  generalize Sp.passOf r ws = pass at HM hR2
                  generalize Sp.isNoreply r ws = nr at HM hR2
                  have HR2 := Lib.hid hR2
                  have HQ := Lib.hid hqs
                  clear hR2 hqs HR
                  go_upto_region 19 with (fail)
                  go_cut [114] (fun s wy => s = .bool (offCount r qs) ∧ Mid w rb { verb := r.verb, noreply := nr } (-1) pass nilSlice nilSlice A o qs b5 r B wy)
                  case first =>
                    have y1 := HM.out.rowb.cell 1
                    have y2 := HM.out.rowb.cell 2
                    have y3 := HM.out.rowb.cell 3
                    change wc.cell? ⟨b5, 1, none⟩ = some (str r.places) at y1
                    change wc.cell? ⟨b5, 2, none⟩ = some (.int .i64 r.least) at y2
                    change wc.cell? ⟨b5, 3, none⟩ = some (.bool r.more) at y3
                    have hpl : r.places.length ≤ 2048 := by have := HOK.out.1; omega
                    by_cases h1 : qs.length < r.least
                    · have e : offCount r qs = true := by simp [offCount, h1]
                      have HE := Lib.hid e
                      clear e
                      go_wp2_with fail
                      go_meet
                      exact ⟨by rw [HE.out], HM.out⟩
                    · have h1' : decide (qs.length < r.least) = false := by simpa using h1
                      by_cases h2 : r.places.length < qs.length
                      · have e : offCount r qs = !r.more := by simp [offCount, h1, h2]
                        have HE := Lib.hid e
                        clear e h1
                        go_wp2_with fail
                        go_meet
                        exact ⟨by rw [HE.out], HM.out⟩
                      · have e : offCount r qs = false := by simp [offCount, h1, h2]
                        have h2' : decide (r.places.length < qs.length) = false := by simpa using h2
                        have HE := Lib.hid e
                        clear e h1 h2
                        go_wp2_with fail
                        go_meet
                        exact ⟨by rw [HE.out], HM.out⟩
                  case rest =>
                    clear HM
                    obtain ⟨rfl, hmid⟩ := hcut
                    have HM := Lib.hid hmid
                    clear hmid
                    cases hB : offCount r qs with
                    | true =>
                      have hr3 := HR2.out.trans (if_pos hB)
                      have HR3 := Lib.hid hr3
                      have hf := fail_any rb pass ⟨Sp.badFormat.toArray⟩ wc (HM.out.rd.blk.cell 12)
                      have Hf := Lib.hid hf
                      clear hr3 hf hB
                      go_wp2_with fail
                      refine Hf.out.mono ?_
                      rintro e w9 ⟨rfl, rfl⟩
                      go_wp2
                      exact ⟨rfl, ReadPost.bad HR3.out HM.out.only⟩
                    | false =>
                      have hr3 := HR2.out.trans (if_neg (by rw [hB]; decide))
                      have HR3 := Lib.hid hr3
                      have HBB := Lib.hid hB
                      clear hr3 hB
                      go_wp2_with fail
                      go_loopw [119] (fun i wr => ∃ k : Nat, k ≤ qs.length ∧ i = .int .i64 k ∧ LoopAt w rb r qs pass A o b5 nr B k wr) (fun i _ => qs.length - (intOf i).toNat)
                      case atStart => exact ⟨0, by omega, rfl, _, _, _, _, HM.out, by rw [List.drop_zero], by simp, by simp, by simp⟩
                      case round =>
                        obtain ⟨k, hk, rfl, c, bl, kv', mv', hmid, heq, hck, hcm, hcf⟩ := hrel
                        by_cases hlt : k < qs.length
                        · obtain ⟨l, hl1⟩ : ∃ l, qs[k]? = some l := ⟨qs[k], by simp [hlt]⟩
                          have hword := hmid.word hl1
                          have y1 := hmid.rowb.cell 1
                          change wr.cell? ⟨b5, 1, none⟩ = some (str r.places) at y1
                          have hpos : 1 ≤ r.places.length := by
                            have h1 := HBB.out
                            simp [offCount] at h1
                            rcases Nat.lt_or_ge r.places.length qs.length with h2 | h2
                            · exact HOK.out.2.2.2.2.1 (h1.2 h2)
                            · omega
                          have hpl : r.places.length ≤ 2048 := by have := HOK.out.1; omega
                          obtain ⟨m, hm⟩ : ∃ m, m = min k (r.places.length - 1) := ⟨_, rfl⟩
                          have hmin : min (k : Int) ((r.places.length : Int) - 1) = (m : Int) := by omega
                          have hml : m < r.places.length := by omega
                          have hkm : r.places.getD m 0 ∈ r.places := by
                            rw [show r.places.getD m 0 = r.places[m] from by simp [List.getD, hml]]; exact List.getElem_mem hml
                          have hstep := wordsAt_step r.places k c bl qs hl1
                          rw [← hm] at hstep
                          have hq := HQ.out l (List.mem_of_getElem? hl1)
                          have hwd := fun (K : UInt8) (hK : K = r.places.getD m 0) => word_any hmid.rd (HG.out.only hmid.only hgr) (Nat.le_trans HG.out.size hmid.hB) hgr K (HOK.out.2.2.2.2.2 K (by rw [hK]; exact hkm)) l hq.1 (by omega) (by omega) (by omega) (fun f hf => Nat.le_trans (hcf f hf) (by decide))
                          have HM' := Lib.hid hmid
                          have HEQ := Lib.hid heq
                          have HST := Lib.hid hstep
                          have HWD := Lib.hid hwd
                          have HCF := Lib.hid hcf
                          have HMM := Lib.hid hm
                          clear heq hstep hwd hcf hm hkm hl1 hmid
                          have hqlen := hq.2
                          clear hq
                          cases hwa : Sp.wordAt c bl (r.places.getD m 0) l with
                          | ok p =>
                            obtain ⟨c', bl'⟩ := p
                            have hgrow := wordAt_grows hwa
                            have HWA := Lib.hid hwa
                            have HGR := Lib.hid hgrow
                            clear hwa hgrow
                            go_wp2_with fail
                            refine (HWD.out _ (byte_getD _ _ _)).mono ?_
                            intro e w9 hpost
                            rw [byte_getD] at hpost
                            obtain ⟨rfl, ⟨kv2, mv2, hrd2⟩, honly⟩ := WordPost.inv_ok HWA.out hpost
                            have hm9 := HM'.out.word_ok hrd2 honly
                            have HM9 := Lib.hid hm9
                            have HPO := Lib.hid hpost
                            clear hpost hrd2 honly hm9
                            go_wp2_with fail
                            have h1 := HGR.out
                            exact ⟨⟨k+1, by omega, by go_num, c', bl', kv2, mv2, HM9.out, HEQ.out.trans (HST.out.trans (by rw [HWA.out])), by omega, by omega, fun f hf => by exact (h1.2.2.2.2.2.2.1 f hf).elim (fun h => HCF.out f h) (fun h => by omega)⟩, by show qs.length - ((k:Int)+1).toNat < qs.length - (k:Int).toNat; omega⟩
                          | error tx =>
                            have HWA := Lib.hid hwa
                            clear hwa
                            go_wp2_with fail
                            refine (HWD.out _ (byte_getD _ _ _)).mono ?_
                            intro e w9 hpost
                            rw [byte_getD] at hpost
                            obtain ⟨rfl, honly⟩ := WordPost.inv_bad HWA.out hpost
                            have hr4 : Sp.lineOf line = .bad ⟨2, tx, pass⟩ := by
                              rw [HR3.out, HEQ.out, HST.out, HWA.out]
                            have HR4 := Lib.hid hr4
                            have HPO := Lib.hid hpost
                            have HON := Lib.hid (HM'.out.only.trans (honly.mono HM'.out.hB))
                            clear hpost honly hr4
                            go_wp2_with fail
                            exact ⟨rfl, ReadPost.bad HR4.out HON.out⟩
                        · obtain rfl : k = qs.length := by omega
                          have hr4 : Sp.lineOf line = .ok c bl := by
                            rw [HR3.out, heq, List.drop_length]
                            rfl
                          have HR4 := Lib.hid hr4
                          have HM' := Lib.hid hmid
                          clear hr4 heq hmid hcf
                          go_wp2
                          go_end0
                          exact ReadPost.ok HR4.out HM'.out.rdw HM'.out.only
end
end Go.Proofs.YthgfjafnclklpaaGreatDoor
end
section
namespace Go.Proofs.YthgfjafnclklpaaGreatDoor
open Go.RowKit

section
variable {rb : Nat} {w : World}

theorem read_any (h : RdNew w rb) (hg : Glob w) (hgr : 8 ≤ rb) (line : Sp.Bs) :
    Calls Tryz.prog 65 #[.pointer (some ⟨rb, 0, none⟩), str line] w (ReadPost rb w (Sp.lineOf line)) := by
  by_cases hl : 2048 < line.length
  · exact read_long h line hl
  · have hl' : line.length ≤ 2048 := by omega
    cases hw : Sp.wordsOf line with
    | nil => exact read_empty line hl' hw
    | cons v ws =>
      cases hr : Sp.rowOf v with
      | none => exact read_words h hg hgr line hl' v ws hw { verb := 0 } false hr (fun h => by cases h) (fun w2 b ht => rows_no ht v hr)
      | some r => exact read_words h hg hgr line hl' v ws hw r true hr (fun _ => rowOf_ok hr) (fun w2 b ht => rows_yes ht v r hr)
end
end Go.Proofs.YthgfjafnclklpaaGreatDoor
end
