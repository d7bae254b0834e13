/- Walks of package words: read where the line is too long, has no word, or its first word is no verb. -/
import Derived.Test.YticigfpieeoolaaGreatDoorW10
namespace Go.Proofs.YticigfpieeoolaaGreatDoor
open Go.RowKit

/-- what is thrown of a wrong line -/
abbrev thrownW (wr : Sp.WrongV) : Ending := .panicked [{ v := .iface 109 (.agg #[.int .i64 wr.kind, str wr.text, .int .i64 wr.pass]), recovered := false }]

abbrev nilSlice : Value := .slice none 0 0

/-- a reader that has read nothing -/
def RdNew (w : World) (rb : Nat) : Prop := Blk w rb 107 (rdCells {} nilSlice nilSlice (-1) (-1))

theorem RdNew.is {w : World} {rb : Nat} (h : RdNew w rb) {base : Nat} (hb : base ≤ w.heap.size) : RdIs base w rb {} (-1) (-1) nilSlice nilSlice :=
  ⟨h, hb, World.ownsRow_nil w base _ 1, World.ownsRow_nil w base _ 3⟩

/-- how read leaves the reader -/
def ReadPost (rb : Nat) (w : World) (r : Sp.LineR) (e : Ending) (w' : World) : Prop :=
  (match r with
    | .ok c b => e = .returned (.tuple #[]) ∧ ∃ pass kv mv, RdIs w.heap.size w' rb c b pass kv mv
    | .bad wr => e = thrownW wr) ∧ Only rb w.heap.size w w'

theorem ReadPost.ok {rb : Nat} {w w' : World} {r : Sp.LineR} {c : Sp.CmdV} {b : Int} (hr : r = .ok c b) {pass : Int} {kv mv : Value} (h : RdIs w.heap.size w' rb c b pass kv mv) (hb : Only rb w.heap.size w w') : ReadPost rb w r (.returned (.tuple #[])) w' := by
  subst hr; exact ⟨⟨rfl, pass, kv, mv, h⟩, hb⟩
theorem ReadPost.bad {rb : Nat} {w w' : World} {r : Sp.LineR} {wr : Sp.WrongV} (hr : r = .bad wr) (hb : Only rb w.heap.size w w') : ReadPost rb w r (thrownW wr) w' := by
  subst hr; exact ⟨rfl, hb⟩

theorem fields_any (line : Sp.Bs) (w : World) (hl : line.length ≤ 4294967280) :
    Calls Tryz.prog 82 #[str line, .func (.func 83) #[] #[]] w fun e w' => ∃ A, e = .returned (.slice (some ⟨A, 0, none⟩) (Sp.wordsOf line).length (Sp.wordsOf line).length) ∧ w.heap.size ≤ A ∧
      w'.ownsRow w.heap.size 9 1 (.slice (some ⟨A, 0, none⟩) (Sp.wordsOf line).length (Sp.wordsOf line).length) (Sp.wordsOf line).length ((Sp.wordsOf line).map str) ∧ Below w.heap.size w w' := by
  have hp : PredAt Tryz.prog 83 #[] encR isBlank w := fun W r _ => (read1_any r W).mono fun e w' ⟨h1, h2⟩ => ⟨h1, 0, h2.symm⟩
  have h1 := Tryz.strings_FieldsFunc 83 #[] (enters_of Tryz.func83 (by kernel_rfl) rfl) isBlank ⟨line.toArray⟩ w (by rw [str_size]; omega) hp
  rw [fields_words, str_list] at h1
  simp only [List.length_map, List.map_map] at h1
  exact h1

theorem lineOf_words {line : Sp.Bs} (h : line.length ≤ 2048) : Sp.lineOf line = match Sp.wordsOf line with
    | [] => .bad ⟨1, [], -1⟩
    | v :: ws => match Sp.rowOf v with
      | none => .bad ⟨1, [], -1⟩
      | some r => Sp.rest r ws := by
  unfold Sp.lineOf
  rw [if_neg (by omega)]
  cases Sp.wordsOf line with
  | nil => rfl
  | cons v ws => dsimp only; cases Sp.rowOf v <;> rfl

section
variable {rb : Nat} {w : World}

theorem read_long (h : RdNew w rb) (line : Sp.Bs) (hl : 2048 < line.length) :
    Calls Tryz.prog 50 #[.pointer (some ⟨rb, 0, none⟩), str line] w (ReadPost rb w (Sp.lineOf line)) := by
  have hr : Sp.lineOf line = .bad ⟨2, Sp.tooLong, -1⟩ := by unfold Sp.lineOf; rw [if_pos hl]
  have hf := fail_any rb (-1) ⟨Sp.tooLong.toArray⟩ w (Blk.cell h 12)
  generalize Sp.lineOf line = R at hr ⊢
  have HR := Lib.hid hr
  have Hf := Lib.hid hf
  clear hr hf h
  go_enter Tryz.func50, Tryz.ntmps50
  go_wp2_with fail
  refine Hf.out.mono ?_
  rintro e w1 ⟨rfl, rfl⟩
  go_wp2
  exact ⟨rfl, ReadPost.bad HR.out (Only.refl _ _ _)⟩

theorem read_empty (line : Sp.Bs) (hl : line.length ≤ 2048) (hw : Sp.wordsOf line = []) :
    Calls Tryz.prog 50 #[.pointer (some ⟨rb, 0, none⟩), str line] w (ReadPost rb w (Sp.lineOf line)) := by
  have hr : Sp.lineOf line = .bad ⟨1, [], -1⟩ := by rw [lineOf_words hl, hw]
  have hf := fields_any line w (by omega)
  rw [hw] at hf
  generalize Sp.lineOf line = R at hr ⊢
  have HR := Lib.hid hr
  have Hf := Lib.hid hf
  clear hr hf hw
  go_enter Tryz.func50, Tryz.ntmps50
  go_wp2_with fail
  refine Hf.out.mono ?_
  rintro e w1 ⟨A, rfl, hA, hown, hb1⟩
  go_wp2
  exact ⟨rfl, ReadPost.bad HR.out (Only.of hb1)⟩

theorem row_zero (w : World) : (zeroValue 118).run Tryz.prog w = .ok (.agg #[.int .i64 0, .string ⟨#[]⟩, .int .i64 0, .bool false, .bool false, .bool false]) w := by kernel_rfl

theorem rows_no {w2 : World} {b : Nat} (ht : HoldsTab w2 b rowVal Sp.tab) (v : Sp.Bs) (h : Sp.rowOf v = none) :
    (Instr.lookup 138 (.map (some b)) (str v) true).run Tryz.prog w2 = .ok (.tuple #[.agg #[.int .i64 0, .string ⟨#[]⟩, .int .i64 0, .bool false, .bool false, .bool false], .bool false]) w2 := by
  refine run_lookup_no (e := 118) Tryz.underlying138 Tryz.underlying9 ht ⟨v.toArray⟩ (row_zero w2) ?_
  have h' : Sp.tab.find? (fun x => v == x.1) = none := by
    unfold Sp.rowOf at h
    cases hf : Sp.tab.find? (fun x => v == x.1) with
    | none => rfl
    | some x => rw [hf] at h; cases h
  simpa using findNow_none rowVal v Sp.tab h'

theorem rows_yes {w2 : World} {b : Nat} (ht : HoldsTab w2 b rowVal Sp.tab) (v : Sp.Bs) (r : Sp.RowV) (h : Sp.rowOf v = some r) :
    (Instr.lookup 138 (.map (some b)) (str v) true).run Tryz.prog w2 = .ok (.tuple #[.agg #[.int .i64 r.verb, str r.places, .int .i64 r.least, .bool r.more, .bool r.noreply, .bool r.block], .bool true]) w2 := by
  have h' : ∃ x, Sp.tab.find? (fun x => v == x.1) = some x ∧ x.2 = r := by
    unfold Sp.rowOf at h
    cases hf : Sp.tab.find? (fun x => v == x.1) with
    | none => rw [hf] at h; cases h
    | some x => rw [hf] at h; injection h with h; exact ⟨x, rfl, h⟩
  obtain ⟨x, hx, rfl⟩ := h'
  obtain ⟨i, hi⟩ := findNow_some rowVal v Sp.tab hx
  exact run_lookup_ok (e := 118) Tryz.underlying138 Tryz.underlying9 ht ⟨v.toArray⟩ (i := i) (by rw [show ((ents rowVal 0 Sp.tab).toArray).toList = ents rowVal 0 Sp.tab from by simp]; exact hi)
end
end Go.Proofs.YticigfpieeoolaaGreatDoor
