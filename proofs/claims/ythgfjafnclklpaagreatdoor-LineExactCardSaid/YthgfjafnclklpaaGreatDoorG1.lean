/- Words for steps in memory: stores of a whole step, a step's block. -/
import Derived.Test.YthgfjafnclklpaaGreatDoorFm
import Derived.Deep.RegionHeld3
import Derived.Laws.CopyOwn
import Derived.Deep.WholeRow
import Derived.Deep.DrawnRows
import Derived.Deep.MidRow
import Derived.Laws.EntriesVeiled
namespace Go.Proofs.YthgfjafnclklpaaGreatDoor
attribute [local go_sem ↓] Go.wp_at_zero Go.wp_at_succ
open Go.RowKit

/-- a store of some cells at once, as the walk meets it -/
def canPut (w : World) (b o n : Nat) : Bool := (List.range n).all fun j => (w.cell? ⟨b, o + j, none⟩).isSome && !w.frozen? ⟨b, o + j, none⟩

theorem isSome_setCell (w : World) (p q : Addr) (u : Value) : ((w.setCell p u).cell? q).isSome = (w.cell? q).isSome := by
  by_cases e : p = q
  · subst e
    cases hc : w.cell? p with
    | some x => rw [World.cell?_setCell_same _ _ _ hc]; rfl
    | none =>
      cases hd : (w.setCell p u).cell? p with
      | none => rfl
      | some y =>
        exfalso
        unfold World.setCell World.cell? at hd
        unfold World.cell? at hc
        simp [Array.getElem?_modify] at hd hc
        cases ho : w.heap[p.block]? with
        | none => simp [ho] at hd
        | some o =>
          cases o <;> simp [ho] at hd hc
          obtain ⟨h1, h2⟩ := hd
          have h3 := hc h1
          rw [h1] at h2
          rw [Array.getElem?_eq_none (by simpa using h3)] at h2
          cases h2
  · rw [World.cell?_setCell_other _ _ _ _ e]

theorem canPut_setCell (w : World) (p : Addr) (u : Value) (b o n : Nat) : canPut (w.setCell p u) b o n = canPut w b o n := by
  unfold canPut
  simp only [isSome_setCell, World.frozen?_setCell]

theorem canPut_there {w : World} {b o n : Nat} (h : canPut w b o n = true) : w.there b o n := fun j hj => by
  unfold canPut at h
  have := List.all_eq_true.1 h j (by simpa using hj)
  simpa using this

theorem Blk.there {w : World} {g : Nat} {t : TypeId} {cs : Array Value} (h : Blk w g t cs) (o n : Nat) (hn : o + n ≤ cs.size) : w.there g o n := fun j hj =>
  ⟨by rw [h.cell]; simp; omega, h.frozen _⟩

theorem Blk.can {w : World} {g : Nat} {t : TypeId} {cs : Array Value} (h : Blk w g t cs) (o n : Nat) (hn : o + n ≤ cs.size) : canPut w g o n = true := by
  unfold canPut
  rw [List.all_eq_true]
  intro j hj
  have := h.there o n hn j (by simpa using hj)
  simpa using this

theorem storeVar_int' (t : TypeId) (a : Addr) (k : IntKind) (n : Int) : type_of% (storeVar.eq_1 t a (.int k n)) := storeVar.eq_1 t a (.int k n)

theorem storeVar_bool' (t : TypeId) (a : Addr) (b : Bool) : type_of% (storeVar.eq_1 t a (.bool b)) := storeVar.eq_1 t a (.bool b)

theorem storeVar_slice' (t : TypeId) (a : Addr) (p : Option Addr) (n c : Nat) : type_of% (storeVar.eq_1 t a (.slice p n c)) := storeVar.eq_1 t a (.slice p n c)

theorem storeVar_func' (t : TypeId) (a : Addr) (f : Fn) (x y : Array Value) : type_of% (storeVar.eq_1 t a (.func f x y)) := storeVar.eq_1 t a (.func f x y)

theorem run_store_step (w : World) (b o : Nat) (v : Int) (kp : Option Addr) (kn kc : Nat) (fl ex tk dl : Int) (dp : Option Addr) (dn dc : Nat) (nr lg : Bool) (mp : Option Addr) (mn mc : Nat) (wh : ByteArray) (wk : Int) (wt : ByteArray) (wp fr tt : Int) (ht : canPut w b o 16 = true) :
    (storeVar 99 ⟨b, o, none⟩ (.agg #[.int .i64 v, .slice kp kn kc, .int .u64 fl, .int .i64 ex, .int .u64 tk, .int .u64 dl, .slice dp dn dc, .bool nr, .bool lg, .slice mp mn mc, .string wh, .int .i64 wk, .string wt, .int .i64 wp, .int .i64 fr, .int .i64 tt])).run Tryz.prog w =
      .ok () (w.setCells b o [.int .i64 v, .slice kp kn kc, .int .u64 fl, .int .i64 ex, .int .u64 tk, .int .u64 dl, .slice dp dn dc, .bool nr, .bool lg, .slice mp mn mc, .string wh, .int .i64 wk, .string wt, .int .i64 wp, .int .i64 fr, .int .i64 tt]) :=
  run_storeVar_mid w b o _ _ (canPut_there ht) (by kernel_rfl) (by simp [Value.oneCell'])

theorem own_slice {w : World} {base : Nat} {e : TypeId} {size n : Nat} {v : Value} {xs : List Value} (h : w.ownsRow base e size v n xs) : ∃ p m c, v = .slice p m c := by
  rcases h.2 with ⟨rfl, _⟩ | ⟨g, cap, cur, rfl, _⟩
  · exact ⟨_, _, _, rfl⟩
  · exact ⟨_, _, _, rfl⟩

theorem Blk.puts {g : Nat} {t : TypeId} : ∀ (us : List Value) (o : Nat) {w : World} {cs : Array Value}, Blk w g t cs → Blk (w.setCells g o us) g t ((us.zipIdx o).foldl (fun cs x => cs.setIfInBounds x.2 x.1) cs)
  | [], _, _, _, h => h
  | u :: us, o, w, cs, h => by
    rw [World.setCells]
    exact Blk.puts (w := w.setCell ⟨g, o, none⟩ u) us (o + 1) (h.put o u)

abbrev stepV (t : Sp.StepV) (kv dv mv : Value) : Value :=
  .agg #[.int .i64 t.cmd.verb, kv, .int .u64 t.cmd.flags, .int .i64 t.cmd.exptime, .int .u64 t.cmd.token, .int .u64 t.cmd.delta, dv, .bool t.cmd.noreply, .bool t.cmd.large, mv, str t.cmd.what,
    .int .i64 t.wrong.kind, str t.wrong.text, .int .i64 t.wrong.pass, .int .i64 t.frm, .int .i64 t.to]

def stepZero : Value := stepV {} nilRow nilRow nilRow

theorem info_step : (Tryz.prog.info? 99).map (fun i => (i.zero, i.size, i.bytes)) = some (some stepZero, 16, 184) := by kernel_rfl

def stepArr (t : Sp.StepV) (kv dv mv : Value) : Array Value :=
  #[.int .i64 t.cmd.verb, kv, .int .u64 t.cmd.flags, .int .i64 t.cmd.exptime, .int .u64 t.cmd.token, .int .u64 t.cmd.delta, dv, .bool t.cmd.noreply, .bool t.cmd.large, mv, str t.cmd.what,
    .int .i64 t.wrong.kind, str t.wrong.text, .int .i64 t.wrong.pass, .int .i64 t.frm, .int .i64 t.to]

theorem stepArr_list (t : Sp.StepV) (kv dv mv : Value) : (stepArr t kv dv mv).toList = stepCells t kv dv mv := by simp [stepArr, stepCells, cmdCells, wrongCells]

theorem own_one {w : World} {base : Nat} {e : TypeId} {size n : Nat} {v : Value} {xs : List Value} (h : w.ownsRow base e size v n xs) : v.oneCell' = true := by
  obtain ⟨p, m, c, rfl⟩ := own_slice h
  rfl

theorem run_store_stepNew (w : World) (z : Array Value) (hz : z.size = 16) (v : Int) (kp : Option Addr) (kn kc : Nat) (fl ex tk dl : Int) (dp : Option Addr) (dn dc : Nat) (nr lg : Bool) (mp : Option Addr) (mn mc : Nat) (wh : ByteArray) (wk : Int) (wt : ByteArray) (wp fr tt : Int) :
    (storeVar 99 ⟨w.heap.size, 0, none⟩ (.agg #[.int .i64 v, .slice kp kn kc, .int .u64 fl, .int .i64 ex, .int .u64 tk, .int .u64 dl, .slice dp dn dc, .bool nr, .bool lg, .slice mp mn mc, .string wh, .int .i64 wk, .string wt, .int .i64 wp, .int .i64 fr, .int .i64 tt])).run Tryz.prog (w.alloc (.cells z 99)) =
      .ok () (w.alloc (.cells #[.int .i64 v, .slice kp kn kc, .int .u64 fl, .int .i64 ex, .int .u64 tk, .int .u64 dl, .slice dp dn dc, .bool nr, .bool lg, .slice mp mn mc, .string wh, .int .i64 wk, .string wt, .int .i64 wp, .int .i64 fr, .int .i64 tt] 99)) :=
  run_storeVar_new w _ _ _ (by kernel_rfl) hz (by simp [Value.oneCell'])

theorem run_store_stepDrew (w : World) (z : Array Value) (hz : z.size = 16) (v : Int) (kp : Option Addr) (kn kc : Nat) (fl ex tk dl : Int) (dp : Option Addr) (dn dc : Nat) (nr lg : Bool) (mp : Option Addr) (mn mc : Nat) (wh : ByteArray) (wk : Int) (wt : ByteArray) (wp fr tt : Int) :
    (storeVar 99 ⟨w.heap.size, 0, none⟩ (.agg #[.int .i64 v, .slice kp kn kc, .int .u64 fl, .int .i64 ex, .int .u64 tk, .int .u64 dl, .slice dp dn dc, .bool nr, .bool lg, .slice mp mn mc, .string wh, .int .i64 wk, .string wt, .int .i64 wp, .int .i64 fr, .int .i64 tt])).run Tryz.prog (w.alloc (.cells z 99)).drew =
      .ok () (w.alloc (.cells #[.int .i64 v, .slice kp kn kc, .int .u64 fl, .int .i64 ex, .int .u64 tk, .int .u64 dl, .slice dp dn dc, .bool nr, .bool lg, .slice mp mn mc, .string wh, .int .i64 wk, .string wt, .int .i64 wp, .int .i64 fr, .int .i64 tt] 99)).drew := by
  refine (run_storeVar_row (w.alloc (.cells z 99)).drew w.heap.size 99 99 z _ (heap_alloc_last w _) (by kernel_rfl) (by simpa using hz) (by simp [Value.oneCell'])).trans ?_
  exact congrArg (fun W => Result.ok () (World.drew W)) (World.setRow_alloc_new w z _ 99)

theorem canPut_drew' (w : World) (b o n : Nat) : canPut w.drew b o n = canPut w b o n := rfl

theorem Blk.putStep {w : World} {g : Nat} {t : TypeId} {t0 : Sp.StepV} {k0 d0 m0 : Value} (h : Blk w g t (stepArr t0 k0 d0 m0)) (t1 : Sp.StepV) (kv dv mv : Value) : Blk (w.setCells g 0 (stepArr t1 kv dv mv).toList) g t (stepArr t1 kv dv mv) := by
  have := Blk.puts (stepArr t1 kv dv mv).toList 0 h
  rwa [show ((stepArr t1 kv dv mv).toList.zipIdx 0).foldl (fun cs x => cs.setIfInBounds x.2 x.1) (stepArr t0 k0 d0 m0) = stepArr t1 kv dv mv from by kernel_rfl] at this

theorem Below.setCells {B : Nat} {w0 : World} {g : Nat} (hg : B ≤ g) : ∀ (us : List Value) (o : Nat) {w : World}, Below B w0 w → Below B w0 (w.setCells g o us)
  | [], _, _, h => h
  | u :: us, o, w, h => by
    rw [World.setCells]
    exact Below.setCells hg us (o + 1) (h.setCell (p := ⟨g, o, none⟩) hg u)
end Go.Proofs.YthgfjafnclklpaaGreatDoor
