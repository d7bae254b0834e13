/- From the listed variables and the world's shape to what the walks ask. The wrap for a row that bears a condition of its own, listed variables and the world's shape; what the bulk bounds. Walks of the statements' comparisons: what is the same is told so. Plain laws for the document's own reading of lines, beside the program's. No program in sight. The plain model of words.Bytes, in Lean alone. No program in sight. The library's functions over rows of bytes: IndexByte, HasPrefix, TrimSuffix, Clone. Walk of package words: skip. -/
import Derived.Test.YtnbeeehfapjpdaaGreatDoorQMp
import Derived.Test.YtnbeeehfapjpdaaGreatDoorTie
import Derived.Test.YtnbeeehfapjpdaaGreatDoorCards
import Derived.WalkKit
import Derived.ProofKit
import Derived.OpenShut
import Derived.Lay
import Derived.LaidOnce
import Derived.SevenTiedAt
import Derived.HandedShaped
import Derived.Shelf.Vars
import Derived.Lib.LaidU8
import Derived.MakeChecks
import Derived.JoinedCond
import Derived.Test.YtnbeeehfapjpdaaGreatDoorQG1
import Derived.Deep.QuietTactic
import Derived.BigQuiet
import Derived.StillTailTactics
import Derived.Test.YtnbeeehfapjpdaaGreatDoorPr
import Derived.Test.YtnbeeehfapjpdaaGreatDoorFd
import Derived.Lib.ItoaNum
import Derived.Lib.Join
import Derived.Test.YtnbeeehfapjpdaaGreatDoorPc
import Derived.Test.YtnbeeehfapjpdaaGreatDoorShelf
import Derived.Lib.SlBytesConst
section
section
namespace Go.Proofs.YtnbeeehfapjpdaaGreatDoor
open Go.ChangeShapes Go.WideShapes Go.ChangeAt Go.RowKit

theorem ownKnob0 : ownKnob Tryz.prog.godebug = none := by kernel_rfl

section
variable {H : Type} {enc : TypeId × Value → H}
end

end Go.Proofs.YtnbeeehfapjpdaaGreatDoor
end
section
namespace Go.Proofs.YtnbeeehfapjpdaaGreatDoor
open Go.ChangeShapes Go.WideShapes Go.ChangeAt Go.RowKit

section
variable {H : Type} {enc : TypeId × Value → H}
theorem returns_laid_cond {a : Assume} {C : Checked} {os : Os} {f : FuncId} {fn : Func} {s : OpenSpec} {k : (H : Type) → List (DataW H) → Bool} (hk : s.cond = some k) {s0 : ChangeSpec} {conds : List PathCond} {apart fresh handsOn again : Bool} {X : World → Array Value → Prop}
    (hX : ∀ (w w' : World) (args : Array Value), w.heap = w'.heap → X w args → X w' args)
    (own : ownKnob C.prog.godebug = none) (started : os.Started) (noInit : C.prog.inits.idxOf? f = none) (hfn : C.prog.funcs[f]? = some fn)
    (witness : ∃ (w : World) (tape : Tape) (i : Input), w.os = os ∧ (w.forCall tape i).Shaped C.prog ∧ i.vars = [] ∧ Input.okWide C.prog (w.forCall tape i) .any w.heap.size f i ∧
      ((s.pre enc C.prog fn conds apart (w.forCall tape i).memory i.args ∧ X (w.forCall tape i).memory i.args) ∧ sizedMet enc C.prog fn s apart (w.forCall tape i).memory i.args) ∧ a.holds C.prog (lone (Frame.enter C.prog f i.args .normal) [] (w.forCall tape i)))
    (contract : ∀ (W : World) (base : Nat) (args : Array Value) (ds gs : List (DataW H)) (before : List MemPlace),
      (∀ (j : Nat) t v, fn.params[j]? = some t → args[j]? = some v → Value.okWide C.prog W .any base t v) →
      DataW.Whole enc C.prog fn.params.toList s.vars apart W args.toList ds gs before → k H (ds ++ gs) = true → X W args → W.ShapedOpen C.prog →
      Calls C.prog f args W fun e W' => ∃ v, e = .returned v ∧ s0.post enc C.prog fn apart fresh handsOn again W args v W') :
    ReturnsInHanded a C os f .any (fun w args => (s.pre enc C.prog fn conds apart w args ∧ X w args) ∧ sizedMet enc C.prog fn s apart w args) (s0.post enc C.prog fn apart fresh handsOn again) := by
  refine returnsInHanded_of_calls own started noInit witness ?_
  intro w tape i _ hsh _ hok hpre _
  obtain ⟨_, _, _, fn', hfn', _, _, _, _, hval⟩ := hok
  have e : fn' = fn := Option.some.inj (hfn'.symm.trans hfn)
  subst e
  obtain ⟨⟨hp, hx⟩, hz⟩ := hpre
  obtain ⟨ds, gs, before, hw, hc, hkk⟩ := (OpenSpec.pre_some hk conds apart _ _).1 hp
  have hw' := DataW.Whole.of_heap (w' := w.forCall tape i) (by rfl) hw
  refine (contract (w.forCall tape i) w.heap.size i.args ds gs before hval hw' hkk (hX _ _ _ (by rfl) hx) hsh).mono fun e W' ⟨v, he, hp⟩ => ?_
  subst he
  exact ChangeSpec.post_blind hp

theorem witness_cond {C : Checked} {os : Os} {f : FuncId} {fn : Func} {s : OpenSpec} {k : (H : Type) → List (DataW H) → Bool} (hk : s.cond = some k) {conds : List PathCond} {apart : Bool} {X : World → Array Value → Prop} (modest : Bool) (w0 : World) (args : Array Value) (fuel : Nat) (hos : w0.os = os)
    (hsh : (w0.forCall (fun _ _ => 0) ⟨#[], args, []⟩).Shaped C.prog)
    (hok : Input.okWideB C.prog (w0.forCall (fun _ _ => 0) ⟨#[], args, []⟩) f ⟨#[], args, []⟩ = true)
    {x : List (DataW H) × List (DataW H) × List MemPlace} (hx : DataW.whole enc C.prog (w0.forCall (fun _ _ => 0) ⟨#[], args, []⟩).memory fn.params.toList s.vars apart args.toList fuel = some x)
    (hconds : conds.all (PathCond.test C.prog ⟨fn.params.toList, x.1, s.bare.plain.varTypes C.prog, x.2.1⟩) = true) (hkk : k H (x.1 ++ x.2.1) = true)
    (hsz : s.bare.sizedB enc C.prog fn apart (w0.forCall (fun _ _ => 0) ⟨#[], args, []⟩).memory args fuel = true)
    (hX : X (w0.forCall (fun _ _ => 0) ⟨#[], args, []⟩).memory args) :
    ∃ (w : World) (tape : Tape) (i : Input), w.os = os ∧ (w.forCall tape i).Shaped C.prog ∧ i.vars = [] ∧ Input.okWide C.prog (w.forCall tape i) .any w.heap.size f i ∧
      ((s.pre enc C.prog fn conds apart (w.forCall tape i).memory i.args ∧ X (w.forCall tape i).memory i.args) ∧ sizedMet enc C.prog fn s apart (w.forCall tape i).memory i.args) ∧ ({ modest := modest } : Assume).holds C.prog (lone (Frame.enter C.prog f i.args .normal) [] (w.forCall tape i)) :=
  ⟨w0, fun _ _ => 0, ⟨#[], args, []⟩, hos, hsh, (Input.okWide_of_okWideB (base := 0) hok).1, (Input.okWide_of_okWideB hok).2,
    ⟨⟨(OpenSpec.pre_some hk conds apart _ _).2 ⟨x.1, x.2.1, x.2.2, DataW.Whole_of_whole hx, hconds, hkk⟩, hX⟩, sizedMet_of_sizedB hsz⟩, by
    simp only [Assume.holds]
    exact ⟨by simp, by simp, fun _ => Modest.zero, by simp, by simp⟩⟩

/-! what the bulk bounds -/
theorem bulk_mem {ds : List (DataW H)} {d : DataW H} (h : d ∈ ds) : Rows.uptoBulk d ≤ Rows.uptoBulkAll ds := by
  induction ds with
  | nil => cases h
  | cons x t ih =>
    rw [Rows.uptoBulkAll]
    rcases List.mem_cons.1 h with rfl | h
    · omega
    · have := ih h; omega
theorem bulk_pos (d : DataW H) : 1 ≤ Rows.uptoBulk d := by
  cases d with
  | lit l => cases l <;> simp [Rows.uptoBulk]
  | _ => simp [Rows.uptoBulk]
theorem bulk_length (ds : List (DataW H)) : ds.length ≤ Rows.uptoBulkAll ds := by
  induction ds with
  | nil => exact Nat.zero_le _
  | cons x t ih =>
    rw [Rows.uptoBulkAll, List.length_cons]
    have := bulk_pos x
    omega
theorem bulk_slice {es sp : List (DataW H)} : es.length < Rows.uptoBulk (.slice es sp) ∧ ∀ d ∈ es, Rows.uptoBulk d < Rows.uptoBulk (.slice es sp) := by
  rw [Rows.uptoBulk]
  exact ⟨by have := bulk_length es; omega, fun d hd => by have := bulk_mem hd; omega⟩
theorem small_one {d : DataW H} (h : Rows.uptoSmall H ([d] ++ []) = true) : Rows.uptoBulk d ≤ 1048576 := by
  have := of_decide_eq_true h
  rw [List.append_nil] at this
  have h2 := bulk_mem (ds := [d]) (d := d) (by simp)
  omega
end
end Go.Proofs.YtnbeeehfapjpdaaGreatDoor
end
end
section
namespace Go.Proofs.YtnbeeehfapjpdaaGreatDoor
attribute [local go_sem ↓] Go.wp_at_zero Go.wp_at_succ
open Go.RowKit

theorem below_drewN' {B : Nat} {a w : World} (h : Below B a w) (n : Nat) : Below B a (w.drewN n) := ⟨h.os, h.tape, h.output, h.size, h.block⟩

/-- a command's lists can be read -/
structure CmdAt (w : World) (c : Sp.CmdV) (kv dv mv : Value) : Prop where
  keys : ∃ A cap, kv = .slice A c.keys.length cap ∧ RowAt w A (c.keys.map str)
  data : ∃ A cap, dv = .slice A c.data.length cap ∧ RowAt w A (bytesV c.data)
  metas : ∃ A cap, mv = .slice A c.metas.length cap ∧ RowAt w A (flagsCells c.metas)

theorem own_at {w : World} {base : Nat} {e : TypeId} {size n : Nat} {v : Value} {xs : List Value} (h : w.ownsRow base e size v n xs) : ∃ A cap, v = .slice A n cap ∧ RowAt w A xs := by
  have h0 := h
  rcases h.2 with ⟨rfl, rfl⟩ | ⟨g, cap, cur, rfl, _⟩
  · exact ⟨none, 0, rfl, RowAt.of_own h0⟩
  · exact ⟨_, cap, rfl, RowAt.of_own h0⟩

theorem CmdMem.at {w : World} {c : Sp.CmdV} {kv dv mv : Value} (h : CmdMem w c kv dv mv) : CmdAt w c kv dv mv := ⟨own_at h.keys, own_at h.data, own_at h.metas⟩
theorem CmdAt.below {w w' : World} {c : Sp.CmdV} {kv dv mv : Value} (h : CmdAt w c kv dv mv) (hb : Below w.heap.size w w') : CmdAt w' c kv dv mv := by
  obtain ⟨⟨A, a, h1, h2⟩, ⟨B, b, h3, h4⟩, ⟨C, d, h5, h6⟩⟩ := h
  exact ⟨⟨A, a, h1, h2.below hb⟩, ⟨B, b, h3, h4.below hb⟩, ⟨C, d, h5, h6.below hb⟩⟩

/-- these cells are those of these steps -/
def StepsAt (w : World) (ts : List Sp.StepV) (cs : List Value) : Prop :=
  cs.length = ts.length * 16 ∧ ∀ (j : Nat) (t : Sp.StepV), ts[j]? = some t → ∃ kv dv mv, CmdAt w t.cmd kv dv mv ∧ ∀ (i : Nat) (u : Value), (stepCells t kv dv mv)[i]? = some u → cs[j * 16 + i]? = some u

theorem stepCells_length (t : Sp.StepV) (kv dv mv : Value) : (stepCells t kv dv mv).length = 16 := rfl

theorem StepsMem.at {w : World} : ∀ {ts : List Sp.StepV} {cs : List Value} {bl : List Nat}, StepsMem w ts cs bl → StepsAt w ts cs
  | [], _, _, ⟨h, _⟩ => ⟨by simp [h], fun j t ht => by simp at ht⟩
  | t0 :: ts, cs, bl, ⟨kv, dv, mv, cs', bl', h1, h2, h3, h4⟩ => by
    obtain ⟨g1, g2⟩ := h4.at
    refine ⟨by rw [h1, List.length_append, g1, stepCells_length, List.length_cons]; omega, fun j t ht => ?_⟩
    cases j with
    | zero =>
      simp at ht; subst ht
      refine ⟨kv, dv, mv, h3.at, fun i u hu => ?_⟩
      rw [h1, Nat.zero_mul, Nat.zero_add, List.getElem?_append_left (List.getElem?_eq_some_iff.1 hu).1]
      exact hu
    | succ j =>
      obtain ⟨k, d, m, e1, e2⟩ := g2 j t (by simpa using ht)
      refine ⟨k, d, m, e1, fun i u hu => ?_⟩
      have := e2 i u hu
      rw [h1, show (j + 1) * 16 + i = (stepCells t0 kv dv mv).length + (j * 16 + i) by rw [stepCells_length]; omega, List.getElem?_append_right (by omega)]
      simpa using this
theorem StepsAt.below {w w' : World} {ts : List Sp.StepV} {cs : List Value} (h : StepsAt w ts cs) (hb : Below w.heap.size w w') : StepsAt w' ts cs :=
  ⟨h.1, fun j t ht => by obtain ⟨k, d, m, e1, e2⟩ := h.2 j t ht; exact ⟨k, d, m, e1.below hb, e2⟩⟩

/-- no list in these steps is too long -/
def StepsFit (ts : List Sp.StepV) : Prop := ∀ t ∈ ts, t.cmd.keys.length ≤ 1000000000 ∧ t.cmd.metas.length ≤ 1000000000

/-- a command's numbers fit -/
structure CmdFit (c : Sp.CmdV) : Prop where
  verb : c.verb ≤ 24
  flags : c.flags < 18446744073709551616
  token : c.token < 18446744073709551616
  delta : c.delta < 18446744073709551616
  time : -9223372036854775808 ≤ c.exptime ∧ c.exptime ≤ 9223372036854775807
  data : c.data.length ≤ 100000000
  keys : c.keys.length ≤ 100000000
  metas : c.metas.length ≤ 100000000
  args : ∀ f ∈ c.metas, f.arg.length ≤ 1000000000

/-- an append of a row that can be read, wherever it lies -/
theorem wpList_append_in {P : Program} {w : World} {ops : Array Oper} {rest : List Oper} {o : Oper} {a : Act} {Q : Exit → Act → World → Prop} (hgd : o.guard = none) (s x : Operand) (t : TypeId)
    (ho : o.op = .call { callee := .builtin .append, args := #[s, x], argTypes := #[t, t] })
    (base : Nat) (e : TypeId) (i : TypeInfo) (z : Value) (size bytes : Nat) (ht : P.underlying t = some (.slice e)) (hi : P.info? e = some i) (hz : i.zero = some z)
    (hsize : i.size = size) (hby : i.bytes = bytes) (hzs : z.cells.size = size) (hsz : 0 < size)
    (v : Value) (n : Nat) (xs : List Value) (hs : a.eval s = v) (hown : w.ownsRow base e size v n xs)
    (A : Option Addr) (m c : Nat) (news : List Value) (hx : a.eval x = .slice A m c) (hrow : RowAt w A news) (hA : A = none → c = 0) (hl : news.length = m * size) (h1 : ∀ u ∈ news, u.oneCell' = true)
    (h63 : n + m ≤ maxLen) (hbytes : (n + m) * bytes ≤ 140737488355328) (hbase : base ≤ w.heap.size)
    (h : ∀ v' w', w'.ownsRow base e size v' (n + m) (xs ++ news) → w.grownBy w' v.ownBlock → wpList P ops Q rest (a.put o.dst v') w') :
    wpList P ops Q (o :: rest) a w := by
  cases A with
  | none =>
    obtain rfl := hA rfl
    obtain rfl : news = [] := hrow.elim id (fun ⟨_, _, h, _⟩ => by cases h)
    obtain rfl : m = 0 := by
      rcases Nat.eq_zero_or_pos m with h0 | h0
      · exact h0
      · have := Nat.mul_pos h0 hsz; simp at hl; omega
    refine wpList_append_own_none hgd s x t ho base e i size ht hi v n xs hs hown hx ?_
    exact h v w (by rw [Nat.add_zero, List.append_nil]; exact hown) ⟨rfl, rfl, rfl, Nat.le_refl _, fun _ _ _ => rfl⟩
  | some ad =>
    refine wpList_append_own_at w hgd s x t ho base e i z size bytes ht hi hz hsize hby hzs hsz v n xs hs hown ad m c news hx hl hrow.cells h1 h63 hbytes hbase ?_
    intro v' w' g1 g2 _ _
    exact h v' w' g1 g2

/-- a command's lists can be read; none of them is an odd nil -/
structure CmdIn (w : World) (c : Sp.CmdV) (K : Option Addr) (kc : Nat) (D : Option Addr) (dc : Nat) (M : Option Addr) (mc : Nat) : Prop where
  keys : RowAt w K (c.keys.map str)
  data : RowAt w D (bytesV c.data)
  metas : RowAt w M (flagsCells c.metas)
  nk : K = none → kc = 0
  nd : D = none → dc = 0
theorem CmdIn.below {w w' : World} {c : Sp.CmdV} {K D M : Option Addr} {kc dc mc : Nat} (h : CmdIn w c K kc D dc M mc) (hb : Below w.heap.size w w') : CmdIn w' c K kc D dc M mc :=
  ⟨h.keys.below hb, h.data.below hb, h.metas.below hb, h.nk, h.nd⟩
theorem CmdIn.at {w : World} {c : Sp.CmdV} {K D M : Option Addr} {kc dc mc : Nat} (h : CmdIn w c K kc D dc M mc) : CmdAt w c (.slice K c.keys.length kc) (.slice D c.data.length dc) (.slice M c.metas.length mc) :=
  ⟨⟨K, kc, rfl, h.keys⟩, ⟨D, dc, rfl, h.data⟩, ⟨M, mc, rfl, h.metas⟩⟩

end Go.Proofs.YtnbeeehfapjpdaaGreatDoor
end
section
section
namespace Go.Proofs.YtnbeeehfapjpdaaGreatDoor
open Go.Lib Sp

theorem take_snocD (l : Bs) {k : Nat} (h : k < l.length) : l.take (k + 1) = l.take k ++ [l.getD k 0] := by
  rw [List.take_add_one, List.getD_eq_getElem?_getD, List.getElem?_eq_getElem h]
  rfl
theorem val_snoc (p : Bs) (c : UInt8) : val (p ++ [c]) = 10 * val p + (c.toNat - 48) := by simp [val, valOn]
/-- the document's reading of a number, behind k bytes: what is gathered, and whether it is right so far -/
structure NumMid (l : Bs) (most k m : Nat) (b : Bool) : Prop where
  dig : ∀ c ∈ l.take k, isDigit c = true
  ok : b = (!l.isEmpty && decide (val (l.take k) ≤ most))
  here : b = true → m = val (l.take k)
  fit : m ≤ 18446744073709551615

theorem NumMid.start (l : Bs) (most : Nat) : NumMid l most 0 0 (!l.isEmpty) :=
  ⟨by simp, by simp [val, valOn], fun _ => by simp [val, valOn], by omega⟩

section
variable {l : Bs} {most k m d : Nat} {b : Bool}
theorem NumMid.dig' (h : NumMid l most k m b) (hk : k < l.length) (hc : isDigit (l.getD k 0) = true) : ∀ c ∈ l.take (k + 1), isDigit c = true := by
  intro c hm
  rw [take_snocD l hk] at hm
  rcases List.mem_append.1 hm with hm | hm
  · exact h.dig c hm
  · simp at hm; subst hm; simpa using hc
theorem NumMid.over (h : NumMid l most k m b) (hk : k < l.length) (hc : isDigit (l.getD k 0) = true) (hd : d = (l.getD k 0).toNat - 48) (hd9 : d ≤ 9) (hov : (18446744073709551615 - d) / 10 < m) (hm : most ≤ 18446744073709551615) :
    NumMid l most (k + 1) 0 false := by
  refine ⟨h.dig' hk hc, ?_, (fun hx => absurd hx (by decide)), by omega⟩
  have hne : l.isEmpty = false := by cases l with | nil => simp at hk | cons => rfl
  have hb := h.ok
  rw [hne] at hb ⊢
  rw [take_snocD l hk, val_snoc, ← hd]
  symm
  rw [Bool.not_false, Bool.true_and, decide_eq_false_iff_not]
  rw [Bool.not_false, Bool.true_and] at hb
  cases b with
  | true => have := h.here rfl; omega
  | false =>
    have := of_decide_eq_false hb.symm
    omega
theorem NumMid.on (h : NumMid l most k m b) (hk : k < l.length) (hc : isDigit (l.getD k 0) = true) (hd : d = (l.getD k 0).toNat - 48) (hd9 : d ≤ 9) (hov : m ≤ (18446744073709551615 - d) / 10) :
    NumMid l most (k + 1) (10 * m + d) (b && decide (10 * m + d ≤ most)) := by
  have hne : l.isEmpty = false := by cases l with | nil => simp at hk | cons => rfl
  have hb := h.ok
  rw [hne, Bool.not_false, Bool.true_and] at hb
  refine ⟨h.dig' hk hc, ?_, fun hx => ?_, by omega⟩
  · rw [take_snocD l hk, val_snoc, ← hd, hne, Bool.not_false, Bool.true_and]
    cases b with
    | true => rw [Bool.true_and, h.here rfl]
    | false =>
      have := of_decide_eq_false hb.symm
      symm
      rw [Bool.false_and, decide_eq_false_iff_not]
      omega
  · rw [Bool.and_eq_true] at hx
    rw [take_snocD l hk, val_snoc, ← hd, h.here hx.1]
theorem NumMid.end (h : NumMid l most l.length m b) : number l most = if b = true then some m else none := by
  have hd := h.dig
  have hk := h.ok
  have hh := h.here
  rw [List.take_length] at hd hk hh
  have hdig : digits l = !l.isEmpty := by
    unfold digits
    have : l.all isDigit = true := List.all_eq_true.2 hd
    rw [this, Bool.and_true]
  unfold number
  rw [hdig]
  by_cases hb : b = true
  · rw [if_pos hb, hh hb, ← hk, hb, if_pos rfl]
  · rw [if_neg hb, ← hk, if_neg hb]
end

/-- a key: what the document takes for one -/
def keyV (w : Bs) : Bool := legal w && !w.isEmpty
/-- the verbs' words, by their numbers -/
def verbWords : List Bs := [[103, 101, 116], [103, 101, 116, 115], [103, 97, 116], [103, 97, 116, 115], [115, 101, 116], [97, 100, 100], [114, 101, 112, 108, 97, 99, 101], [97, 112, 112, 101, 110, 100], [112, 114, 101, 112, 101, 110, 100],
  [99, 97, 115], [100, 101, 108, 101, 116, 101], [105, 110, 99, 114], [100, 101, 99, 114], [116, 111, 117, 99, 104], [102, 108, 117, 115, 104, 95, 97, 108, 108], [118, 101, 114, 115, 105, 111, 110],
  [118, 101, 114, 98, 111, 115, 105, 116, 121], [113, 117, 105, 116], [115, 116, 97, 116, 115], [109, 103], [109, 115], [109, 100], [109, 97], [109, 110]]
/-- the row of a verb -/
def rowBy (v : Nat) : RowV := match tab.find? (fun x => x.2.verb == v) with | some x => x.2 | none => { verb := v }
/-- the word of a verb -/
def wordBy (v : Nat) : Bs := verbWords.getD (v - 1) []

theorem by_tab : ∀ v : Fin 24, (wordBy (v.val + 1), rowBy (v.val + 1)) ∈ tab ∧ (rowBy (v.val + 1)).verb = v.val + 1 := by decide
theorem tab_words : ∀ x ∈ tab, tab.find? (fun y => x.1 == y.1) = some x := by decide
theorem rowOf_word {v : Nat} (h1 : 1 ≤ v) (h2 : v ≤ 24) : rowOf (wordBy v) = some (rowBy v) := by
  have := by_tab ⟨v - 1, by omega⟩
  simp only [show v - 1 + 1 = v by omega] at this
  unfold rowOf
  rw [tab_words _ this.1]
  rfl
/-- the document's letter for a nought is Z -/
def zed (c : UInt8) : UInt8 := if c = 48 then 90 else c
def zeds (l : Bs) : Bs := l.map zed
/-- the document's look behind a flag's letter -/
def behindR (v : Nat) (f : FlagV) : Bool :=
  if f.letter = 79 then keyV f.arg
  else if f.letter = 84 ∨ f.letter = 78 then (timeOf f.arg).isSome
  else if f.letter = 70 then (number f.arg 4294967295).isSome
  else if f.letter = 82 ∨ f.letter = 67 ∨ f.letter = 68 ∨ f.letter = 74 then (number f.arg 18446744073709551615).isSome
  else if f.arg.length ≠ 1 then false
  else if v = 21 then ([83, 69, 65, 80, 82, 115, 101, 97, 112, 114] : Bs).contains (f.arg.getD 0 0)
  else ([73, 68, 105, 100] : Bs).contains (f.arg.getD 0 0)

end Go.Proofs.YtnbeeehfapjpdaaGreatDoor
end
section
namespace Go.Proofs.YtnbeeehfapjpdaaGreatDoor
open Go.Lib

namespace Sp
/-- the texts that stand at a place of a row -/
def putV (c : CmdV) (k : UInt8) : List Bs :=
  if k = 75 then c.keys
  else if k = 71 then c.metas.map fun f => f.letter :: f.arg
  else if k = 70 then [decDigits c.flags]
  else if k = 78 then [decDigits c.data.length]
  else if k = 86 then [[49]]
  else if k = 67 then [decDigits c.token]
  else if k = 68 then [decDigits c.delta]
  else if k = 84 then [itoa c.exptime]
  else if k = 83 then (if c.exptime = 0 then [] else [itoa c.exptime])
  else if k = 87 then (if c.what = [] then [] else [c.what])
  else []
/-- the words of a command's line -/
def partsV (r : RowV) (word : Bs) (c : CmdV) : List Bs := word :: (r.places.flatMap (putV c)) ++ (if c.noreply then [noreplyW] else [])
/-- a command written down -/
def outV (c : CmdV) : Bs := join (partsV (rowBy c.verb) (wordBy c.verb) c) [32] ++ [13, 10] ++ (if (rowBy c.verb).block then c.data ++ [13, 10] else [])
/-- is it read again as it was? -/
def againV (c : CmdV) : Bool := match allV c.data.length ((outV c).length + 1) 0 (outV c) with
  | ([t], left) => decide (left = 0) && decide (t.cmd = c) && decide (t.to = (outV c).length)
  | _ => false
/-- what Bytes tells -/
def bytesV' (c : CmdV) : Option Bs := if 1 ≤ c.verb ∧ c.verb ≤ 24 ∧ c.large = false ∧ againV c = true then some (outV c) else none
end Sp
end Go.Proofs.YtnbeeehfapjpdaaGreatDoor
end
end
section
section
namespace Go.Proofs.YtnbeeehfapjpdaaGreatDoor
open Go.RowKit

def numsOf (l : Sp.Bs) : List Int := l.map fun b => (b.toNat : Int)
theorem numsOf_length (l : Sp.Bs) : (numsOf l).length = l.length := by simp [numsOf]
theorem bytesOf_nums (l : Sp.Bs) : Lib.bytesOf (numsOf l) = l := by
  unfold Lib.bytesOf numsOf
  rw [List.map_map]
  conv => rhs; rw [← List.map_id l]
  exact List.map_congr_left fun b _ => by simp
theorem nums_cells {w : World} {a : Addr} {l : Sp.Bs} (h : RowAt w (some a) (bytesV l)) : ∀ i, i < l.length → w.cell? (a.add i) = some (.int .u8 ((numsOf l).getD i 0)) := by
  intro i hi
  refine h.cells i _ ?_
  simp [bytesV, numsOf, hi]

theorem bytesIn_row {w : World} {A : Option Addr} {l : Sp.Bs} (h : RowAt w A (bytesV l)) : Lib.BytesIn w A l.length (numsOf l) := by
  intro hn
  rcases h with h | ⟨b, o, h1, _, h3⟩
  · have : l = [] := by simpa [bytesV] using h
    rw [this] at hn; simp at hn
  · refine ⟨b, o, h1, fun i hi => h3 i _ ?_⟩
    simp [bytesV, numsOf, hi]

theorem hasPrefix_eq (l p : Sp.Bs) : Lib.hasPrefix l p = decide (l.take p.length = p) := by
  unfold Lib.hasPrefix
  rw [Bool.eq_iff_iff, List.isPrefixOf_iff_prefix, List.prefix_iff_eq_take, decide_eq_true_eq]
  exact eq_comm

theorem prefix_any {w : World} {A B : Option Addr} {cap d : Nat} {l p : Sp.Bs} (h : RowAt w A (bytesV l)) (hp : RowAt w B (bytesV p)) (hc : l.length ≤ cap) :
    Calls Tryz.prog 145 #[.slice A l.length cap, .slice B p.length d] w fun e w' => e = .returned (.bool (decide (l.take p.length = p))) ∧ w = w' := by
  refine (Tryz.bytes_HasPrefix_all A B l.length cap p.length d (numsOf l) (numsOf p) w (numsOf_length l) (numsOf_length p) hc (bytesIn_row h) (bytesIn_row hp)).mono ?_
  rintro e w' ⟨h1, h2⟩
  rw [bytesOf_nums, bytesOf_nums, hasPrefix_eq] at h1
  exact ⟨h1, h2.symm⟩

theorem clone_any {w : World} {A : Option Addr} {cap : Nat} {l : Sp.Bs} (h : RowAt w A (bytesV l)) (hn : l.length ≤ 100000000000) :
    Calls Tryz.prog 161 #[.slice A l.length cap] w fun e w' => ∃ v, e = .returned v ∧ w'.ownsRow w.heap.size 5 1 v l.length (bytesV l) ∧ Below w.heap.size w w' := by
  cases A with
  | none =>
    obtain rfl := h.none_nil
    refine (Tryz.bytes_Clone_nil 0 cap w).mono ?_
    rintro e w' ⟨rfl, rfl⟩
    exact ⟨_, rfl, World.ownsRow_nil _ _ _ 1, Below.refl _ _⟩
  | some a =>
    refine (Tryz.bytes_Clone_at a l.length cap (numsOf l) w (numsOf_length l) (by omega) (nums_cells h)).mono ?_
    rintro e w' ⟨v, rfl, h1, _, h2⟩
    refine ⟨v, rfl, ?_, h2⟩
    have e : (numsOf l).map (Value.int .u8) = bytesV l := by simp [numsOf, bytesV]
    rw [e] at h1
    exact h1
end Go.Proofs.YtnbeeehfapjpdaaGreatDoor
end
section
namespace Go.Proofs.YtnbeeehfapjpdaaGreatDoor
attribute [local go_sem ↓] Go.wp_at_zero Go.wp_at_succ
open Go.RowKit

theorem skipV_cases (l : Sp.Bs) (k : Nat) (hk : k < l.length) :
    Sp.skipV l k = if (l.drop k).take 2 = [13, 10] then some (k + 2, true) else if l.drop k = [13] then none else (Sp.indexOf (l.drop k) 10).map fun i => (k + i + 1, false) := by
  unfold Sp.skipV
  rw [if_neg (by omega)]
  split
  · rfl
  · split
    · rfl
    · cases Sp.indexOf (l.drop k) 10 <;> rfl

theorem indexOf_in {l : Sp.Bs} {c : UInt8} {i : Nat} (h : Sp.indexOf l c = some i) : i < l.length := by
  unfold Sp.indexOf at h
  exact (List.findIdx?_eq_some_iff_getElem.1 h).1

theorem skipV_some {l : Sp.Bs} {k m : Nat} {g : Bool} (h : Sp.skipV l k = some (m, g)) : k < l.length ∧ k < m := by
  by_cases hk : k < l.length
  · rw [skipV_cases l k hk] at h
    refine ⟨hk, ?_⟩
    split at h
    · injection h with h; injection h with h; omega
    · split at h
      · cases h
      · obtain ⟨i, _, h⟩ := Option.map_eq_some_iff.1 h
        injection h with h; omega
  · unfold Sp.skipV at h
    rw [if_pos (by omega)] at h
    cases h

def SkipPost (w : World) (at' : Nat) (r : Option (Nat × Bool)) (e : Ending) (w' : World) : Prop :=
  ∃ (v : Nat) (gd : Bool), e = .returned (.tuple #[.int .i64 v, .bool gd, .bool r.isSome]) ∧ (∀ m g, r = some (m, g) → v = at' + m ∧ gd = g) ∧ (r = none → gd = false) ∧ Below w.heap.size w w'

end Go.Proofs.YtnbeeehfapjpdaaGreatDoor
end
end
