/- Words for steps in memory: stores of a whole step, a step's block. Walk of package words: word, whatever the letter. Walks of package words: read where the line is too long, has no word, or its first word is no verb. Walk of package words: read where there are words. Walk of package words: read, whatever the line. Walks of package words: the deferred function of Line. Walk of package words: Line. Words for steps in memory: what a line tells, as a step; rows of steps. -/
import Derived.Test.YtnbeeehfapjpdaaGreatDoorFm
import Derived.Deep.RegionHeld3
import Derived.Laws.CopyOwn
import Derived.Deep.WholeRow
import Derived.Deep.DrawnRows
import Derived.Deep.MidRow
import Derived.Laws.EntriesVeiled
import Derived.Test.YtnbeeehfapjpdaaGreatDoorQW3
import Derived.Test.YtnbeeehfapjpdaaGreatDoorPr
import Derived.Defers
import Derived.Recover
import Derived.Test.YtnbeeehfapjpdaaGreatDoorFd
import Derived.Laws.BytesString
import Derived.Deep.Onto
import Derived.Test.YtnbeeehfapjpdaaGreatDoorPc
import Derived.Laws.AppendOwnNone
section
namespace Go.Proofs.YtnbeeehfapjpdaaGreatDoor
attribute [local go_sem ↓] Go.wp_at_zero Go.wp_at_succ
open Go.RowKit

/-- a store of some cells at once, as the walk meets it -/
def canPut (w : World) (b o n : Nat) : Bool := (List.range n).all fun j => (w.cell? ⟨b, o + j, none⟩).isSome && !w.frozen? ⟨b, o + j, none⟩

theorem isSome_setCell (w : World) (p q : Addr) (u : Value) : ((w.setCell p u).cell? q).isSome = (w.cell? q).isSome := by
  by_cases e : p = q
  · subst e
    cases hc : w.cell? p with
    | some x => rw [World.cell?_setCell_same _ _ _ hc]; rfl
    | none =>
      cases hd : (w.setCell p u).cell? p with
      | none => rfl
      | some y =>
        exfalso
        unfold World.setCell World.cell? at hd
        unfold World.cell? at hc
        simp [Array.getElem?_modify] at hd hc
        cases ho : w.heap[p.block]? with
        | none => simp [ho] at hd
        | some o =>
          cases o <;> simp [ho] at hd hc
          obtain ⟨h1, h2⟩ := hd
          have h3 := hc h1
          rw [h1] at h2
          rw [Array.getElem?_eq_none (by simpa using h3)] at h2
          cases h2
  · rw [World.cell?_setCell_other _ _ _ _ e]

theorem canPut_setCell (w : World) (p : Addr) (u : Value) (b o n : Nat) : canPut (w.setCell p u) b o n = canPut w b o n := by
  unfold canPut
  simp only [isSome_setCell, World.frozen?_setCell]

theorem canPut_there {w : World} {b o n : Nat} (h : canPut w b o n = true) : w.there b o n := fun j hj => by
  unfold canPut at h
  have := List.all_eq_true.1 h j (by simpa using hj)
  simpa using this

theorem Blk.there {w : World} {g : Nat} {t : TypeId} {cs : Array Value} (h : Blk w g t cs) (o n : Nat) (hn : o + n ≤ cs.size) : w.there g o n := fun j hj =>
  ⟨by rw [h.cell]; simp; omega, h.frozen _⟩

theorem Blk.can {w : World} {g : Nat} {t : TypeId} {cs : Array Value} (h : Blk w g t cs) (o n : Nat) (hn : o + n ≤ cs.size) : canPut w g o n = true := by
  unfold canPut
  rw [List.all_eq_true]
  intro j hj
  have := h.there o n hn j (by simpa using hj)
  simpa using this

theorem storeVar_int' (t : TypeId) (a : Addr) (k : IntKind) (n : Int) : type_of% (storeVar.eq_1 t a (.int k n)) := storeVar.eq_1 t a (.int k n)

theorem storeVar_bool' (t : TypeId) (a : Addr) (b : Bool) : type_of% (storeVar.eq_1 t a (.bool b)) := storeVar.eq_1 t a (.bool b)

theorem storeVar_slice' (t : TypeId) (a : Addr) (p : Option Addr) (n c : Nat) : type_of% (storeVar.eq_1 t a (.slice p n c)) := storeVar.eq_1 t a (.slice p n c)

theorem storeVar_func' (t : TypeId) (a : Addr) (f : Fn) (x y : Array Value) : type_of% (storeVar.eq_1 t a (.func f x y)) := storeVar.eq_1 t a (.func f x y)

theorem own_slice {w : World} {base : Nat} {e : TypeId} {size n : Nat} {v : Value} {xs : List Value} (h : w.ownsRow base e size v n xs) : ∃ p m c, v = .slice p m c := by
  rcases h.2 with ⟨rfl, _⟩ | ⟨g, cap, cur, rfl, _⟩
  · exact ⟨_, _, _, rfl⟩
  · exact ⟨_, _, _, rfl⟩

theorem Blk.puts {g : Nat} {t : TypeId} : ∀ (us : List Value) (o : Nat) {w : World} {cs : Array Value}, Blk w g t cs → Blk (w.setCells g o us) g t ((us.zipIdx o).foldl (fun cs x => cs.setIfInBounds x.2 x.1) cs)
  | [], _, _, _, h => h
  | u :: us, o, w, cs, h => by
    rw [World.setCells]
    exact Blk.puts (w := w.setCell ⟨g, o, none⟩ u) us (o + 1) (h.put o u)

abbrev stepV (t : Sp.StepV) (kv dv mv : Value) : Value :=
  .agg #[.int .i64 t.cmd.verb, kv, .int .u64 t.cmd.flags, .int .i64 t.cmd.exptime, .int .u64 t.cmd.token, .int .u64 t.cmd.delta, dv, .bool t.cmd.noreply, .bool t.cmd.large, mv, str t.cmd.what,
    .int .i64 t.wrong.kind, str t.wrong.text, .int .i64 t.wrong.pass, .int .i64 t.frm, .int .i64 t.to]

def stepZero : Value := stepV {} nilRow nilRow nilRow

def stepArr (t : Sp.StepV) (kv dv mv : Value) : Array Value :=
  #[.int .i64 t.cmd.verb, kv, .int .u64 t.cmd.flags, .int .i64 t.cmd.exptime, .int .u64 t.cmd.token, .int .u64 t.cmd.delta, dv, .bool t.cmd.noreply, .bool t.cmd.large, mv, str t.cmd.what,
    .int .i64 t.wrong.kind, str t.wrong.text, .int .i64 t.wrong.pass, .int .i64 t.frm, .int .i64 t.to]

theorem own_one {w : World} {base : Nat} {e : TypeId} {size n : Nat} {v : Value} {xs : List Value} (h : w.ownsRow base e size v n xs) : v.oneCell' = true := by
  obtain ⟨p, m, c, rfl⟩ := own_slice h
  rfl

theorem Below.setCells {B : Nat} {w0 : World} {g : Nat} (hg : B ≤ g) : ∀ (us : List Value) (o : Nat) {w : World}, Below B w0 w → Below B w0 (w.setCells g o us)
  | [], _, _, h => h
  | u :: us, o, w, h => by
    rw [World.setCells]
    exact Below.setCells hg us (o + 1) (h.setCell (p := ⟨g, o, none⟩) hg u)
end Go.Proofs.YtnbeeehfapjpdaaGreatDoor
end
section
section
namespace Go.Proofs.YtnbeeehfapjpdaaGreatDoor
open Go.RowKit

end Go.Proofs.YtnbeeehfapjpdaaGreatDoor
end
section
namespace Go.Proofs.YtnbeeehfapjpdaaGreatDoor
open Go.RowKit

abbrev nilSlice : Value := .slice none 0 0

section
variable {rb : Nat} {w : World}

end
end Go.Proofs.YtnbeeehfapjpdaaGreatDoor
end
section
namespace Go.Proofs.YtnbeeehfapjpdaaGreatDoor
attribute [local go_sem ↓] Go.wp_at_zero Go.wp_at_succ
open Go.RowKit

/-- a row's cells in a variable of its own -/
def rowCells (r : Sp.RowV) : Array Value := #[.int .i64 r.verb, str r.places, .int .i64 r.least, .bool r.more, .bool r.noreply, .bool r.block]

theorem RowAt.tail {w : World} {A o : Nat} {x : Value} {xs : List Value} (h : RowAt w (some ⟨A, o, none⟩) (x :: xs)) : RowAt w (some ⟨A, o + 1, none⟩) xs := by
  rcases h with h | ⟨b, o', h1, h2, h3⟩
  · cases h
  · injection h1 with h1; injection h1 with e1 e2; subst e1; subst e2
    exact .inr ⟨A, o + 1, rfl, h2, fun j u hu => by
      have := h3 (j + 1) u (by simpa using hu)
      rw [show o + 1 + j = o + (j + 1) by omega]
      exact this⟩

theorem RowAt.far {w : World} {A o : Nat} {xs : List Value} (h : RowAt w (some ⟨A, o, none⟩) xs) {p : Addr} (hp : p.block ≠ A) (u : Value) : RowAt (w.setCell p u) (some ⟨A, o, none⟩) xs := by
  rcases h with h | ⟨b, o', h1, h2, h3⟩
  · exact .inl h
  · injection h1 with h1; injection h1 with e1 e2; subst e1; subst e2
    refine .inr ⟨A, o, rfl, by simpa [World.setCell] using h2, fun j u' hu => ?_⟩
    rw [World.cell?_of_block (w := w) (Below.heap_setCell w p u A (fun e => hp e.symm))]
    exact h3 j u' hu

/-- is there a word in N's place? -/
def nAt (r : Sp.RowV) (ws : List Sp.Bs) : Bool := decide (0 ≤ Lib.indexByte r.places 78) && decide (Lib.indexByte r.places 78 < ws.length)

/-- the words that are looked at -/
def restOf (r : Sp.RowV) (ws : List Sp.Bs) : List Sp.Bs := if Sp.isNoreply r ws then ws.dropLast else ws

/-- too few words, or too many -/
def offCount (r : Sp.RowV) (qs : List Sp.Bs) : Bool := decide (qs.length < r.least) || (decide (r.places.length < qs.length) && !r.more)

section
variable {rb : Nat} {kv mv : Value} {w wx wy : World} {c c' : Sp.CmdV} {block block' pass pass' : Int} {A o b5 B : Nat} {ws : List Sp.Bs} {r : Sp.RowV}
end

section
variable {rb : Nat} {w : World}

theorem storeVar_int (t : TypeId) (a : Addr) (k : IntKind) (n : Int) : type_of% (storeVar.eq_1 t a (.int k n)) := storeVar.eq_1 t a (.int k n)
theorem storeVar_bool (t : TypeId) (a : Addr) (b : Bool) : type_of% (storeVar.eq_1 t a (.bool b)) := storeVar.eq_1 t a (.bool b)
attribute [-go_sem] storeVar
attribute [local go_sem] storeVar_int storeVar_bool

end
end Go.Proofs.YtnbeeehfapjpdaaGreatDoor
end
section
namespace Go.Proofs.YtnbeeehfapjpdaaGreatDoor
open Go.RowKit

section
variable {rb : Nat} {w : World}

end
end Go.Proofs.YtnbeeehfapjpdaaGreatDoor
end
end
section
section
namespace Go.Proofs.YtnbeeehfapjpdaaGreatDoor
attribute [local go_sem ↓] Go.wp_at_zero Go.wp_at_succ
open Go.RowKit

/-- a command's value; a wrong's value -/
abbrev cmdV (c : Sp.CmdV) (kv dv mv : Value) : Value := .agg #[.int .i64 c.verb, kv, .int .u64 c.flags, .int .i64 c.exptime, .int .u64 c.token, .int .u64 c.delta, dv, .bool c.noreply, .bool c.large, mv, str c.what]
abbrev wrongV (x : Sp.WrongV) : Value := .agg #[.int .i64 x.kind, str x.text, .int .i64 x.pass]
def cmdArr (c : Sp.CmdV) (kv dv mv : Value) : Array Value := #[.int .i64 c.verb, kv, .int .u64 c.flags, .int .i64 c.exptime, .int .u64 c.token, .int .u64 c.delta, dv, .bool c.noreply, .bool c.large, mv, str c.what]
def wrongArr (x : Sp.WrongV) : Array Value := #[.int .i64 x.kind, str x.text, .int .i64 x.pass]

theorem run_store_cmd (w : World) (b o : Nat) (v : Int) (kp : Option Addr) (kn kc : Nat) (fl ex tk dl : Int) (dp : Option Addr) (dn dc : Nat) (nr lg : Bool) (mp : Option Addr) (mn mc : Nat) (wh : ByteArray) (ht : canPut w b o 11 = true) :
    (storeVar 32 ⟨b, o, none⟩ (.agg #[.int .i64 v, .slice kp kn kc, .int .u64 fl, .int .i64 ex, .int .u64 tk, .int .u64 dl, .slice dp dn dc, .bool nr, .bool lg, .slice mp mn mc, .string wh])).run Tryz.prog w =
      .ok () (w.setCells b o [.int .i64 v, .slice kp kn kc, .int .u64 fl, .int .i64 ex, .int .u64 tk, .int .u64 dl, .slice dp dn dc, .bool nr, .bool lg, .slice mp mn mc, .string wh]) :=
  run_storeVar_mid w b o _ _ (canPut_there ht) (by kernel_rfl) (by simp [Value.oneCell'])
theorem run_store_wrong (w : World) (b o : Nat) (k : Int) (s : ByteArray) (p : Int) (ht : canPut w b o 3 = true) :
    (storeVar 83 ⟨b, o, none⟩ (.agg #[.int .i64 k, .string s, .int .i64 p])).run Tryz.prog w = .ok () (w.setCells b o [.int .i64 k, .string s, .int .i64 p]) :=
  run_storeVar_mid w b o _ _ (canPut_there ht) (by kernel_rfl) (by simp [Value.oneCell'])
theorem canPut_drew (w : World) (b o n : Nat) : canPut w.drew b o n = canPut w b o n := rfl
theorem canPut_alloc (w : World) (x : Obj) (b o n : Nat) (hb : b < w.heap.size) : canPut (w.alloc x) b o n = canPut w b o n := by
  unfold canPut
  congr 1
  funext j
  rw [World.cell?_alloc_lt w x ⟨b, o + j, none⟩ hb, World.frozen?_alloc_past x b (o + j) hb]
theorem cell_setCells_far (w : World) (b o : Nat) (us : List Value) (c i : Nat) (h : c ≠ b) : (w.setCells b o us).cell? ⟨c, i, none⟩ = w.cell? ⟨c, i, none⟩ :=
  World.cell?_setCells_out b us o w ⟨c, i, none⟩ fun e _ => absurd e h
theorem canPut_setCells (b' : Nat) : ∀ (us : List Value) (o' : Nat) (w : World) (b o n : Nat), canPut (w.setCells b' o' us) b o n = canPut w b o n
  | [], _, _, _, _, _ => rfl
  | u :: us, o', w, b, o, n => by rw [World.setCells, canPut_setCells b' us, canPut_setCell]

/-- a command's, a wrong's cells stored -/
def cmdList (c : Sp.CmdV) (kv dv mv : Value) : List Value := [.int .i64 c.verb, kv, .int .u64 c.flags, .int .i64 c.exptime, .int .u64 c.token, .int .u64 c.delta, dv, .bool c.noreply, .bool c.large, mv, str c.what]
def wrongList (x : Sp.WrongV) : List Value := [.int .i64 x.kind, str x.text, .int .i64 x.pass]
theorem OnlyIn.setCells {L : List Nat} {a : World} {g : Nat} (hg : g ∈ L ∨ a.heap.size ≤ g) : ∀ (us : List Value) (o : Nat) {w : World}, OnlyIn L a w → OnlyIn L a (w.setCells g o us)
  | [], _, _, h => h
  | u :: us, o, w, h => by
    rw [World.setCells]
    exact OnlyIn.setCells hg us (o + 1) (h.setCell hg o u)

theorem wp_gen {P : Program} {c : Code} {Q : Exit → Act → World → Prop} {a : Act} {w : World} (h : ∀ Q', Q' = Q → Code.wp P c Q' a w) : Code.wp P c Q a w := h Q rfl

attribute [-go_sem] storeVar
attribute [local go_sem] run_store_cmd run_store_wrong storeVar_int' storeVar_bool' storeVar_slice' storeVar_func' canPut_setCell canPut_drew canPut_alloc canPut_setCells cell_setCells_far World.frozen?_setCells
end Go.Proofs.YtnbeeehfapjpdaaGreatDoor
end
section
namespace Go.Proofs.YtnbeeehfapjpdaaGreatDoor
attribute [local go_sem ↓] Go.wp_at_zero Go.wp_at_succ
open Go.RowKit

theorem push_all : ∀ (l : Sp.Bs) (s : ByteArray), (l.map fun b => (b.toNat : Int)).foldl (fun r n => r.push (UInt8.ofNat n.toNat)) s = ⟨s.data ++ l.toArray⟩
  | [], s => by simp
  | b :: l, s => by
    rw [List.map_cons, List.foldl_cons, push_all l]
    have e : (s.push (UInt8.ofNat (b.toNat : Int).toNat)).data = s.data ++ #[b] := by simp [ByteArray.push]
    rw [e]
    simp

/-- bytes in memory, as a text -/
theorem run_bytes_str {w : World} {A : Option Addr} {cap : Nat} {l : Sp.Bs} (h : RowAt w A (bytesV l)) :
    (convert 29 9 (.slice A l.length cap)).run Tryz.prog w = .ok (str l) w := by
  rw [run_convert_bytes_string w _ _ 5 A l.length cap (by kernel_rfl) (by kernel_rfl) (by kernel_rfl)]
  cases A with
  | none =>
    rcases h with h | ⟨b, o, h, _⟩
    · have : l = [] := by simpa [bytesV] using h
      subst this
      rfl
    · cases h
  | some a =>
    have hl : (loadCells a l.length).run Tryz.prog w = .ok ((l.map fun b => (b.toNat : Int)).map (Value.int .u8)).toArray w := by
      have e : (l.map fun b => (b.toNat : Int)).map (Value.int .u8) = bytesV l := by simp [bytesV]
      rw [e]
      have := run_loadCells_list (P := Tryz.prog) w a (bytesV l) (fun j v hv => by
        rcases h with h | ⟨b, o, h1, h2, h3⟩
        · rw [h] at hv; simp at hv
        · injection h1 with h1; subst h1
          rw [Addr.add_mid]; exact h3 j v hv)
      rwa [bytesV_length] at this
    rw [run_bytesToString w a l.length cap _ hl, push_all]
    simp

/-- what Line tells -/
def LinePost (w : World) (r : Sp.LineR) (e : Ending) (w' : World) : Prop :=
  (match r with
    | .ok c b => ∃ kv mv, e = .returned (.tuple #[cmdV c kv nilRow mv, .int .i64 b, wrongV {}]) ∧ w'.ownsRow w.heap.size 9 1 kv c.keys.length (c.keys.map str) ∧ w'.ownsRow w.heap.size 225 3 mv c.metas.length (flagsCells c.metas)
    | .bad x => e = .returned (.tuple #[cmdV {} nilRow nilRow nilRow, .int .i64 (-1), wrongV x])) ∧ Below w.heap.size w w'

end Go.Proofs.YtnbeeehfapjpdaaGreatDoor
end
end
section
namespace Go.Proofs.YtnbeeehfapjpdaaGreatDoor
attribute [local go_sem ↓] Go.wp_at_zero Go.wp_at_succ
open Go.RowKit

def lineStep : Sp.LineR → Sp.StepV
  | .ok c _ => { cmd := c }
  | .bad x => { wrong := x }

def lineN : Sp.LineR → Int
  | .ok _ n => n
  | .bad _ => -1

theorem own_form {w : World} {base : Nat} {e : TypeId} {size n : Nat} {v : Value} {xs : List Value} (h : w.ownsRow base e size v n xs) : ∃ p c, v = .slice p n c := by
  rcases h.2 with ⟨rfl, rfl⟩ | ⟨g, cap, cur, rfl, _⟩
  · exact ⟨_, _, rfl⟩
  · exact ⟨_, _, rfl⟩

theorem StepsMem.one {w : World} : ∀ {ts : List Sp.StepV} {cs : List Value} {bl : List Nat}, StepsMem w ts cs bl → ∀ u ∈ cs, u.oneCell' = true
  | [], _, _, ⟨h, _⟩, u, hu => by simp [h] at hu
  | t0 :: ts, cs, bl, ⟨kv, dv, mv, cs', bl', h1, h2, h3, h4⟩, u, hu => by
    rw [h1] at hu
    rcases List.mem_append.1 hu with hu | hu
    · have k1 := own_one h3.keys
      have k2 := own_one h3.data
      have k3 := own_one h3.metas
      simp only [stepCells, cmdCells, wrongCells, List.cons_append, List.nil_append, List.mem_cons, List.not_mem_nil, or_false] at hu
      rcases hu with rfl | rfl | rfl | rfl | rfl | rfl | rfl | rfl | rfl | rfl | rfl | rfl | rfl | rfl | rfl | rfl <;> first | rfl | assumption
    · exact h4.one u hu

theorem StepsMem.append {w : World} : ∀ {ts us : List Sp.StepV} {cs ds : List Value} {bl dl : List Nat}, StepsMem w ts cs bl → StepsMem w us ds dl → StepsMem w (ts ++ us) (cs ++ ds) (bl ++ dl)
  | [], _, _, _, _, _, ⟨h1, h2⟩, h => by subst h1; subst h2; exact h
  | _ :: _, _, _, _, _, _, ⟨kv, dv, mv, cs', bl', h1, h2, h3, h4⟩, h => ⟨kv, dv, mv, _, _, by rw [h1, List.append_assoc], by rw [h2, List.append_assoc], h3, h4.append h⟩

/-- an append of a row of the call's own, nil or not, onto another one -/
theorem wpList_append_row {P : Program} {w : World} {ops : Array Oper} {rest : List Oper} {o : Oper} {a : Act} {Q : Exit → Act → World → Prop} (hgd : o.guard = none) (s x : Operand) (t : TypeId)
    (ho : o.op = .call { callee := .builtin .append, args := #[s, x], argTypes := #[t, t] })
    (base : Nat) (e : TypeId) (i : TypeInfo) (z : Value) (size bytes : Nat) (ht : P.underlying t = some (.slice e)) (hi : P.info? e = some i) (hz : i.zero = some z)
    (hsize : i.size = size) (hby : i.bytes = bytes) (hzs : z.cells.size = size) (hsz : 0 < size)
    (v : Value) (n : Nat) (xs : List Value) (hs : a.eval s = v) (hown : w.ownsRow base e size v n xs)
    (A : Option Addr) (m c : Nat) (news : List Value) (hx : a.eval x = .slice A m c) (base' : Nat) (hown' : w.ownsRow base' e size (.slice A m c) m news) (h1 : ∀ u ∈ news, u.oneCell' = true)
    (h63 : n + m ≤ maxLen) (hbytes : (n + m) * bytes ≤ 140737488355328) (hbase : base ≤ w.heap.size)
    (h : ∀ v' w', w'.ownsRow base e size v' (n + m) (xs ++ news) → w.grownBy w' v.ownBlock → (v'.ownBlock = v.ownBlock ∨ v'.ownBlock = some w.heap.size) → wpList P ops Q rest (a.put o.dst v') w') :
    wpList P ops Q (o :: rest) a w := by
  cases A with
  | none =>
    have hz : m = 0 ∧ c = 0 ∧ news = [] := by
      rcases hown'.2 with ⟨h1, h2⟩ | ⟨g, cap, cur, h1, _⟩
      · injection h1 with _ _ h3
        refine ⟨h2, h3, List.eq_nil_of_length_eq_zero ?_⟩
        rw [hown'.1, h2, Nat.zero_mul]
      · injection h1 with h1; cases h1
    obtain ⟨rfl, rfl, rfl⟩ := hz
    refine wpList_append_own_none hgd s x t ho base e i size ht hi v n xs hs hown hx ?_
    exact h v w (by rw [Nat.add_zero, List.append_nil]; exact hown) ⟨rfl, rfl, rfl, Nat.le_refl _, fun _ _ _ => rfl⟩ (.inl rfl)
  | some ad =>
    refine wpList_append_own_at w hgd s x t ho base e i z size bytes ht hi hz hsize hby hzs hsz v n xs hs hown ad m c news hx hown'.1 (RowAt.of_own hown').cells h1 h63 hbytes hbase ?_
    intro v' w' g1 g2 _ g4
    exact h v' w' g1 g2 g4
end Go.Proofs.YtnbeeehfapjpdaaGreatDoor
end
