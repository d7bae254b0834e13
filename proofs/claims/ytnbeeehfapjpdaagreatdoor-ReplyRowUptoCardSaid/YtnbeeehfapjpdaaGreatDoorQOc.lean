/- Appends of bytes onto a row of the call's own whose block may bear a mark (what a text's conversion gives). Arguments opened: slices of commands, where what comes in is of small bulk. Walks of package reply's reader: could, want. -/
import Derived.Test.YtnbeeehfapjpdaaGreatDoorPc
import Derived.Test.YtnbeeehfapjpdaaGreatDoorQG1
import Derived.Deep.AppendSrc
import Derived.Deep.Upon
import Derived.Test.YtnbeeehfapjpdaaGreatDoorQKw
import Derived.Test.YtnbeeehfapjpdaaGreatDoorQAp
import Derived.Test.YtnbeeehfapjpdaaGreatDoorV8
section
section
namespace Go.Proofs.YtnbeeehfapjpdaaGreatDoor
open Go.RowKit

/-- the row in block g is the call's own: n bytes, and room up to cap; none of it is frozen -/
structure Free (w : World) (base g n cap : Nat) (l : Sp.Bs) : Prop where
  ge : base ≤ g
  lt : g < w.heap.size
  len : l.length = n
  room : n ≤ cap
  small : cap ≤ maxLen
  there : ∀ j, j < cap → (w.cell? ⟨g, j, none⟩).isSome = true ∧ w.frozen? ⟨g, j, none⟩ = false
  cells : ∀ j u, (bytesV l)[j]? = some u → w.cell? ⟨g, j, none⟩ = some u

section
variable {w : World} {base g n cap m : Nat} {l k : Sp.Bs}
theorem Free.row (h : Free w base g n cap l) : RowAt w (some ⟨g, 0, none⟩) (bytesV l) := .inr ⟨g, 0, rfl, h.lt, fun j u hu => by rw [Nat.zero_add]; exact h.cells j u hu⟩
theorem Free.later {w' : World} (h : Free w base g n cap l) (hb : Below w.heap.size w w') : Free w' base g n cap l := by
  have hh := hb.block g h.lt
  have hc : ∀ j, w'.cell? ⟨g, j, none⟩ = w.cell? ⟨g, j, none⟩ := fun j => World.cell?_of_block hh
  have hf : ∀ j, w'.frozen? ⟨g, j, none⟩ = w.frozen? ⟨g, j, none⟩ := fun j => World.frozen?_of_block hh
  exact ⟨h.ge, Nat.lt_of_lt_of_le h.lt hb.size, h.len, h.room, h.small, fun j hj => by rw [hc, hf]; exact h.there j hj, fun j u hu => by rw [hc]; exact h.cells j u hu⟩

end

/-- a text's bytes in new memory, with their room -/
theorem convert_free (w2 : World) (l : Sp.Bs) {base : Nat} (hb : base ≤ w2.heap.size) (hl : l.length ≤ maxLen) : ∃ W3 cp2, (convert 9 29 (.string ⟨l.toArray⟩)).run Tryz.prog w2 = .ok (.slice (some ⟨w2.heap.size, 0, none⟩) l.length cp2) W3 ∧
    Free W3 base w2.heap.size l.length cp2 l ∧ Below w2.heap.size w2 W3 := by
  have h := run_bytes_of_string (P := Tryz.prog) w2 9 29 5 ⟨l.toArray⟩ Tryz.underlying9 Tryz.underlying29 Tryz.underlying5
  rw [str_size] at h
  have hge := grownCap_ge w2 l.length 0 5
  have hcm := grownCap_le_maxLen w2 l.length 0 5 hl
  generalize grownCap w2 l.length 0 5 = cp at h hge hcm
  have hh := heap_alloc_new w2.drew (.cells (bytesRow ⟨l.toArray⟩ cp) 5 ((bytesRow ⟨l.toArray⟩ cp).size, (bytesRow ⟨l.toArray⟩ cp).size + 1))
  change (World.alloc _ _).heap[w2.heap.size]? = _ at hh
  have hsz : (bytesRow ⟨l.toArray⟩ cp).size = cp := by simp [bytesRow, str_size]; omega
  refine ⟨_, _, h, ⟨hb, by simp, rfl, hge, hcm, fun j hj => ⟨?_, ?_⟩, fun j u hu => ?_⟩, ((Below.refl _ _).drew).alloc (Nat.le_refl _) _⟩
  · unfold World.cell?
    rw [hh]
    simp only [Option.isSome_none, Bool.false_eq_true, if_false]
    rw [Array.getElem?_eq_getElem (by rw [hsz]; exact hj)]
    rfl
  · unfold World.frozen?
    rw [hh]
    simp [hsz]
    omega
  · unfold World.cell?
    rw [hh]
    simp only [Option.isSome_none, Bool.false_eq_true, if_false]
    have hj : j < l.length := by have := (List.getElem?_eq_some_iff.1 hu).1; rwa [bytesV_length] at this
    unfold bytesRow
    rw [Array.getElem?_append_left (by simpa using hj)]
    simpa [bytesV] using hu

/-- what Bytes tells, in a row of the caller's own -/
def BytesOwn (w : World) (out : Sp.Bs) (e : Ending) (w' : World) : Prop :=
  ∃ g cap, e = .returned (.tuple #[.slice (some ⟨g, 0, none⟩) out.length cap, .int .i64 0]) ∧ Free w' w.heap.size g out.length cap out ∧ Below w.heap.size w w'
theorem Free.le {w : World} {base base' g n cap : Nat} {l : Sp.Bs} (h : Free w base g n cap l) (hb : base' ≤ base) : Free w base' g n cap l := ⟨Nat.le_trans hb h.ge, h.lt, h.len, h.room, h.small, h.there, h.cells⟩


theorem row_new (W : World) {n : Nat} (hn : W.heap.size = n) (t : TypeId) (cs : List Value) : RowAt (W.alloc (.cells cs.toArray t)) (some ⟨n, 0, none⟩) cs := by
  subst hn
  have hb := Blk.new W t cs.toArray
  refine .inr ⟨_, _, rfl, by simp, fun j u hu => ?_⟩
  rw [Nat.zero_add, hb.cell j]
  simpa using hu
end Go.Proofs.YtnbeeehfapjpdaaGreatDoor
end
section
namespace Go.Proofs.YtnbeeehfapjpdaaGreatDoor
open Go.ChangeShapes Go.WideShapes Go.ChangeAt Go.RowKit

/-- a command that came in, as it lies in memory -/
structure CmdX where
  v : Int
  c : Sp.CmdV
  K : Option Addr
  kc : Nat
  D : Option Addr
  dc : Nat
  M : Option Addr
  mc : Nat
def CmdX.cells (x : CmdX) : List Value := [.int .i64 x.v, .slice x.K x.c.keys.length x.kc, .int .u64 x.c.flags, .int .i64 x.c.exptime, .int .u64 x.c.token, .int .u64 x.c.delta, .slice x.D x.c.data.length x.dc, .bool x.c.noreply, .bool x.c.large, .slice x.M x.c.metas.length x.mc, str x.c.what]

structure CmdGood (w : World) (x : CmdX) : Prop where
  mem : CmdIn w x.c x.K x.kc x.D x.dc x.M x.mc
  verb : x.c.verb = x.v.toNat
  vb : -9223372036854775808 ≤ x.v ∧ x.v ≤ 9223372036854775807
  kc : x.c.keys.length ≤ x.kc
  dc : x.c.data.length ≤ x.dc
  mc : x.c.metas.length ≤ x.mc
  nm : x.M = none → x.mc = 0
  caps : x.kc ≤ 9223372036854775807 ∧ x.dc ≤ 9223372036854775807 ∧ x.mc ≤ 9223372036854775807
  flags : x.c.flags < 18446744073709551616
  token : x.c.token < 18446744073709551616
  delta : x.c.delta < 18446744073709551616
  time : -9223372036854775808 ≤ x.c.exptime ∧ x.c.exptime ≤ 9223372036854775807
  keysT : tails x.c.keys ≤ 1048576
  metasT : tails (x.c.metas.map fun f => f.letter :: f.arg) ≤ 1048576
  dataL : x.c.data.length ≤ 1048576
  whatL : x.c.what.length ≤ 1048576

theorem tails_count : ∀ (l : List Sp.Bs), l.length ≤ tails l
  | [] => Nat.zero_le _
  | y :: t => by rw [tails, List.length_cons]; have := tails_count t; omega
theorem tails_mem : ∀ {l : List Sp.Bs} {x : Sp.Bs}, x ∈ l → x.length < tails l
  | y :: t, x, h => by
    rw [tails]
    rcases List.mem_cons.1 h with rfl | h
    · omega
    · have := tails_mem h; omega

section
variable {w : World} {x : CmdX}
theorem CmdGood.below {w' : World} (h : CmdGood w x) (hb : Below w.heap.size w w') : CmdGood w' x :=
  ⟨h.mem.below hb, h.verb, h.vb, h.kc, h.dc, h.mc, h.nm, h.caps, h.flags, h.token, h.delta, h.time, h.keysT, h.metasT, h.dataL, h.whatL⟩
theorem CmdGood.counts (h : CmdGood w x) : x.c.keys.length ≤ 1048576 ∧ x.c.metas.length ≤ 1048576 ∧ ∀ f ∈ x.c.metas, f.arg.length ≤ 1048576 := by
  have h1 := tails_count x.c.keys
  have h2 := tails_count (x.c.metas.map fun f => f.letter :: f.arg)
  rw [List.length_map] at h2
  have h3 := h.keysT
  have h4 := h.metasT
  refine ⟨by omega, by omega, fun f hf => ?_⟩
  have := tails_mem (List.mem_map_of_mem (f := fun f : Sp.FlagV => f.letter :: f.arg) hf)
  rw [List.length_cons] at this
  omega
theorem CmdGood.fit (h : CmdGood w x) (hv : x.c.verb ≤ 24) : CmdFit x.c := by
  obtain ⟨h1, h2, h3⟩ := h.counts
  have h4 := h.dataL
  exact ⟨hv, h.flags, h.token, h.delta, h.time, by omega, by omega, by omega, fun f hf => by have := h3 f hf; omega⟩
theorem CmdGood.range (h : CmdGood w x) : Range x.c := ⟨by have := h.token; omega, by have := h.delta; omega, h.time⟩

theorem dec_len {u : Nat} (h : u < 18446744073709551616) : (Lib.decDigits u).length ≤ 20 := by
  rw [Lib.decDigits_length]
  exact nDigits_le 20 u (by decide) (by have : (10 : Nat) ^ 20 = 100000000000000000000 := by decide
                                        omega)
theorem itoa_len {e : Int} (h : -9223372036854775808 ≤ e ∧ e ≤ 9223372036854775807) : (Lib.itoa e).length ≤ 21 := by
  unfold Lib.itoa
  split
  · rw [List.length_cons]; have := dec_len (u := e.natAbs) (by omega); omega
  · have := dec_len (u := e.toNat) (by omega); omega
theorem CmdGood.put (h : CmdGood w x) (k : UInt8) : tails (Sp.putV x.c k) ≤ 1048600 := by
  unfold Sp.putV
  by_cases k0 : k = 75
  · rw [if_pos k0]; have := h.keysT; omega
  rw [if_neg k0]
  by_cases k1 : k = 71
  · rw [if_pos k1]; have := h.metasT; omega
  rw [if_neg k1]
  by_cases k2 : k = 70
  · rw [if_pos k2]; have := dec_len h.flags; simp only [tails]; omega
  rw [if_neg k2]
  by_cases k3 : k = 78
  · rw [if_pos k3]; have := dec_len (u := x.c.data.length) (by have := h.dataL; omega); simp only [tails]; omega
  rw [if_neg k3]
  by_cases k4 : k = 86
  · rw [if_pos k4]; simp [tails]
  rw [if_neg k4]
  by_cases k5 : k = 67
  · rw [if_pos k5]; have := dec_len h.token; simp only [tails]; omega
  rw [if_neg k5]
  by_cases k6 : k = 68
  · rw [if_pos k6]; have := dec_len h.delta; simp only [tails]; omega
  rw [if_neg k6]
  by_cases k7 : k = 84
  · rw [if_pos k7]; have := itoa_len h.time; simp only [tails]; omega
  rw [if_neg k7]
  by_cases k8 : k = 83
  · rw [if_pos k8]
    by_cases he : x.c.exptime = 0
    · rw [if_pos he]; simp [tails]
    · rw [if_neg he]; have := itoa_len h.time; simp only [tails]; omega
  rw [if_neg k8]
  by_cases k9 : k = 87
  · rw [if_pos k9]
    by_cases he : x.c.what = []
    · rw [if_pos he]; simp [tails]
    · rw [if_neg he]; have := h.whatL; simp only [tails]; omega
  rw [if_neg k9]
  simp [tails]
theorem CmdGood.args (h : CmdGood w x) : ∀ (ps : Sp.Bs), tails (ps.flatMap (Sp.putV x.c)) ≤ ps.length * 1048600
  | [] => by simp [tails]
  | k :: t => by
    rw [List.flatMap_cons, tails_append, List.length_cons]
    have h1 := h.put k
    have h2 := h.args t
    omega
theorem words_short : ∀ v : Fin 24, (wordBy (v.val + 1)).length ≤ 9 := by decide
theorem CmdGood.small (h : CmdGood w x) (h1 : 1 ≤ x.c.verb) (h2 : x.c.verb ≤ 24) : (Sp.outV x.c).length ≤ 8000000 ∧ (Sp.partsV (rowBy x.c.verb) (wordBy x.c.verb) x.c).length ≤ 8000000 := by
  have hok := rowOf_ok (rowOf_word h1 h2)
  have ha := h.args (rowBy x.c.verb).places
  have hw : (wordBy x.c.verb).length ≤ 9 := by
    have := words_short ⟨x.c.verb - 1, by omega⟩
    simpa only [show x.c.verb - 1 + 1 = x.c.verb by omega] using this
  have hn : tails (nrV x.c) ≤ 8 := by
    unfold nrV
    split
    · decide
    · simp [tails]
  have hp : tails (Sp.partsV (rowBy x.c.verb) (wordBy x.c.verb) x.c) ≤ 5243100 := by
    rw [parts_args]
    simp only [tails, tails_append]
    have h5 : (rowBy x.c.verb).places.length * 1048600 ≤ 5 * 1048600 := Nat.mul_le_mul_right _ hok.1
    have : tails (argsV (rowBy x.c.verb) x.c) ≤ 5 * 1048600 := Nat.le_trans ha h5
    omega
  have hj := join_tails (Sp.partsV (rowBy x.c.verb) (wordBy x.c.verb) x.c) (by rw [parts_args]; simp)
  have hd := h.dataL
  refine ⟨?_, by have := tails_count (Sp.partsV (rowBy x.c.verb) (wordBy x.c.verb) x.c); omega⟩
  unfold Sp.outV
  rw [List.length_append, List.length_append]
  have : (if (rowBy x.c.verb).block = true then x.c.data ++ [13, 10] else []).length ≤ x.c.data.length + 2 := by split <;> simp
  simp only [List.length_cons, List.length_nil]
  omega
end

section
variable {H : Type} {enc : TypeId × Value → H} {w : World} {held : Bool}
theorem list11 {α : Type} {l : List α} (h : l.length = 11) : ∃ a0 a1 a2 a3 a4 a5 a6 a7 a8 a9 a10, l = [a0, a1, a2, a3, a4, a5, a6, a7, a8, a9, a10] := by
  match l, h with
  | [a0, a1, a2, a3, a4, a5, a6, a7, a8, a9, a10], _ => exact ⟨_, _, _, _, _, _, _, _, _, _, _, rfl⟩

theorem bulk_texts : ∀ {l : List Sp.Bs} {es : List (DataW H)}, es.length = l.length → (∀ (i : Nat) (x : Sp.Bs), l[i]? = some x → ∃ d : DataW H, es[i]? = some d ∧ d = .lit (.string x)) → tails l ≤ Rows.uptoBulkAll es
  | [], _, _, _ => Nat.zero_le _
  | x :: t, [], h, _ => by cases h
  | x :: t, d :: es, h, hx => by
    obtain ⟨d', h1, h2⟩ := hx 0 x rfl
    have e : d = d' := Option.some.inj h1
    subst e; subst h2
    have := bulk_texts (l := t) (es := es) (by simpa using h) (fun i y hy => by simpa using hx (i + 1) y (by simpa using hy))
    rw [tails, Rows.uptoBulkAll, Rows.uptoBulk]; omega
theorem bulk_flags : ∀ {l : List Sp.FlagV} {es : List (DataW H)}, es.length = l.length → (∀ (i : Nat) (f : Sp.FlagV), l[i]? = some f → ∃ d : DataW H, es[i]? = some d ∧ ∃ d0 d2 : DataW H, d = .agg [d0, .lit (.string f.arg), d2]) →
    tails (l.map fun f => f.letter :: f.arg) ≤ Rows.uptoBulkAll es
  | [], _, _, _ => Nat.zero_le _
  | x :: t, [], h, _ => by cases h
  | x :: t, d :: es, h, hx => by
    obtain ⟨d', h1, d0, d2, h2⟩ := hx 0 x rfl
    have e : d = d' := Option.some.inj h1
    subst e; subst h2
    have := bulk_flags (l := t) (es := es) (by simpa using h) (fun i y hy => by simpa using hx (i + 1) y (by simpa using hy))
    have p0 := bulk_pos d0
    rw [List.map_cons, tails, Rows.uptoBulkAll, Rows.uptoBulk, Rows.uptoBulkAll, Rows.uptoBulkAll, Rows.uptoBulk, List.length_cons]; omega
theorem bulk_len {t e : TypeId} {A : Option Addr} {n cap f : Nat} {y : DataW H × List MemPlace} (ht : Tryz.prog.underlying t = some (.slice e)) (h : DataW.trod enc Tryz.prog w 0 (fun _ => true) held f t [.slice A n cap] = some y) : n ≤ Rows.uptoBulk y.1 := by
  have hs := Joins.sliceLen_trod ht (d := y.1) (ps := y.2) h
  cases hy : y.1 with
  | slice es sp =>
    rw [hy] at hs
    have := (bulk_slice (es := es) (sp := sp)).1
    simp only [Joins.sliceLen] at hs
    omega
  | _ => rw [hy] at hs; simp only [Joins.sliceLen] at hs; omega

set_option maxHeartbeats 2000000 in
set_option maxRecDepth 100000 in
theorem open_cmd {n : Nat} {cs : List Value} {x : DataW H × List MemPlace} (h : DataW.trod enc Tryz.prog w 0 (fun _ => true) held n 32 cs = some x) (hl : cs.length = 11) :
    ∃ X : CmdX, cs = X.cells ∧ (Rows.uptoBulk x.1 ≤ 1048576 → CmdGood w X) := by
  obtain ⟨xs, n', _, rfl, _, hxl, hf⟩ := DataW.trod_struct Tryz.underlying32 h
  obtain ⟨c0, c1, c2, c3, c4, c5, c6, c7, c8, c9, c10, rfl⟩ := list11 hl
  obtain ⟨y0, y1, y2, y3, y4, y5, y6, y7, y8, y9, y10, rfl⟩ := list11 hxl
  have k : ∀ t, t ∈ ([3, 27, 28, 29, 4, 30, 9] : List TypeId) → Tryz.prog.cellsOf t = 1 := by
    intro t ht
    simp only [List.mem_cons, List.not_mem_nil, or_false] at ht
    rcases ht with rfl | rfl | rfl | rfl | rfl | rfl | rfl <;> kernel_rfl
  have g0 : DataW.trod enc Tryz.prog w 0 (fun _ => true) held n' 3 [c0] = some y0 := by
    have h0 : DataW.trod enc Tryz.prog w 0 (fun _ => true) held n' 3 (([c0, c1, c2, c3, c4, c5, c6, c7, c8, c9, c10].drop 0).take (Tryz.prog.cellsOf 3)) = some y0 := hf 0 _ rfl
    rw [k 3 (by simp)] at h0
    exact h0
  have g1 : DataW.trod enc Tryz.prog w 0 (fun _ => true) held n' 27 [c1] = some y1 := by
    have h0 : DataW.trod enc Tryz.prog w 0 (fun _ => true) held n' 27 (([c0, c1, c2, c3, c4, c5, c6, c7, c8, c9, c10].drop 1).take (Tryz.prog.cellsOf 27)) = some y1 := hf 1 _ rfl
    rw [k 27 (by simp)] at h0
    exact h0
  have g2 : DataW.trod enc Tryz.prog w 0 (fun _ => true) held n' 28 [c2] = some y2 := by
    have h0 : DataW.trod enc Tryz.prog w 0 (fun _ => true) held n' 28 (([c0, c1, c2, c3, c4, c5, c6, c7, c8, c9, c10].drop 2).take (Tryz.prog.cellsOf 28)) = some y2 := hf 2 _ rfl
    rw [k 28 (by simp)] at h0
    exact h0
  have g3 : DataW.trod enc Tryz.prog w 0 (fun _ => true) held n' 3 [c3] = some y3 := by
    have h0 : DataW.trod enc Tryz.prog w 0 (fun _ => true) held n' 3 (([c0, c1, c2, c3, c4, c5, c6, c7, c8, c9, c10].drop 3).take (Tryz.prog.cellsOf 3)) = some y3 := hf 3 _ rfl
    rw [k 3 (by simp)] at h0
    exact h0
  have g4 : DataW.trod enc Tryz.prog w 0 (fun _ => true) held n' 28 [c4] = some y4 := by
    have h0 : DataW.trod enc Tryz.prog w 0 (fun _ => true) held n' 28 (([c0, c1, c2, c3, c4, c5, c6, c7, c8, c9, c10].drop 4).take (Tryz.prog.cellsOf 28)) = some y4 := hf 4 _ rfl
    rw [k 28 (by simp)] at h0
    exact h0
  have g5 : DataW.trod enc Tryz.prog w 0 (fun _ => true) held n' 28 [c5] = some y5 := by
    have h0 : DataW.trod enc Tryz.prog w 0 (fun _ => true) held n' 28 (([c0, c1, c2, c3, c4, c5, c6, c7, c8, c9, c10].drop 5).take (Tryz.prog.cellsOf 28)) = some y5 := hf 5 _ rfl
    rw [k 28 (by simp)] at h0
    exact h0
  have g6 : DataW.trod enc Tryz.prog w 0 (fun _ => true) held n' 29 [c6] = some y6 := by
    have h0 : DataW.trod enc Tryz.prog w 0 (fun _ => true) held n' 29 (([c0, c1, c2, c3, c4, c5, c6, c7, c8, c9, c10].drop 6).take (Tryz.prog.cellsOf 29)) = some y6 := hf 6 _ rfl
    rw [k 29 (by simp)] at h0
    exact h0
  have g7 : DataW.trod enc Tryz.prog w 0 (fun _ => true) held n' 4 [c7] = some y7 := by
    have h0 : DataW.trod enc Tryz.prog w 0 (fun _ => true) held n' 4 (([c0, c1, c2, c3, c4, c5, c6, c7, c8, c9, c10].drop 7).take (Tryz.prog.cellsOf 4)) = some y7 := hf 7 _ rfl
    rw [k 4 (by simp)] at h0
    exact h0
  have g8 : DataW.trod enc Tryz.prog w 0 (fun _ => true) held n' 4 [c8] = some y8 := by
    have h0 : DataW.trod enc Tryz.prog w 0 (fun _ => true) held n' 4 (([c0, c1, c2, c3, c4, c5, c6, c7, c8, c9, c10].drop 8).take (Tryz.prog.cellsOf 4)) = some y8 := hf 8 _ rfl
    rw [k 4 (by simp)] at h0
    exact h0
  have g9 : DataW.trod enc Tryz.prog w 0 (fun _ => true) held n' 30 [c9] = some y9 := by
    have h0 : DataW.trod enc Tryz.prog w 0 (fun _ => true) held n' 30 (([c0, c1, c2, c3, c4, c5, c6, c7, c8, c9, c10].drop 9).take (Tryz.prog.cellsOf 30)) = some y9 := hf 9 _ rfl
    rw [k 30 (by simp)] at h0
    exact h0
  have g10 : DataW.trod enc Tryz.prog w 0 (fun _ => true) held n' 9 [c10] = some y10 := by
    have h0 : DataW.trod enc Tryz.prog w 0 (fun _ => true) held n' 9 (([c0, c1, c2, c3, c4, c5, c6, c7, c8, c9, c10].drop 10).take (Tryz.prog.cellsOf 9)) = some y10 := hf 10 _ rfl
    rw [k 9 (by simp)] at h0
    exact h0
  obtain ⟨v, e0, _, w0⟩ := DataW.trod_int Tryz.underlying3 g0
  obtain ⟨K, kc, ks, rfl, r1, a1, b1, n1, q1⟩ := open_texts g1
  obtain ⟨fl, e2, _, w2⟩ := DataW.trod_int Tryz.underlying28 g2
  obtain ⟨tm, e3, _, w3⟩ := DataW.trod_int Tryz.underlying3 g3
  obtain ⟨tk, e4, _, w4⟩ := DataW.trod_int Tryz.underlying28 g4
  obtain ⟨dl, e5, _, w5⟩ := DataW.trod_int Tryz.underlying28 g5
  obtain ⟨D, dc, ds, rfl, r6, a6, b6, n6⟩ := open_byterow Tryz.underlying29 Tryz.underlying5 (by kernel_rfl) g6
  obtain ⟨nr, e7, _⟩ := DataW.trod_bool Tryz.underlying4 g7
  obtain ⟨lg, e8, _⟩ := DataW.trod_bool Tryz.underlying4 g8
  obtain ⟨M, mc, ms, rfl, r9, a9, b9, n9, q9⟩ := open_flags g9
  obtain ⟨s, e10, k10, _⟩ := DataW.trod_string Tryz.underlying9 g10
  have z6 := bulk_len Tryz.underlying29 g6
  injection e0 with e0; injection e2 with e2; injection e3 with e3; injection e4 with e4; injection e5 with e5; injection e7 with e7; injection e8 with e8; injection e10 with e10
  subst e0 e2 e3 e4 e5 e7 e8 e10
  have p0 := bounds_i64 w0
  have p2 := bounds_u64 w2
  have p3 := bounds_i64 w3
  have p4 := bounds_u64 w4
  have p5 := bounds_u64 w5
  have i2 : ((fl.toNat : Nat) : Int) = fl := Int.toNat_of_nonneg p2.1
  have i4 : ((tk.toNat : Nat) : Int) = tk := Int.toNat_of_nonneg p4.1
  have i5 : ((dl.toNat : Nat) : Int) = dl := Int.toNat_of_nonneg p5.1
  refine ⟨⟨v, ⟨v.toNat, ks, fl.toNat, tm, tk.toNat, dl.toNat, ds, nr, lg, ms, s.data.toList⟩, K, kc, D, dc, M, mc⟩, ?_, fun hb => ?_⟩
  · unfold CmdX.cells
    dsimp only
    rw [i2, i4, i5, ← str_back]
  · simp only [Rows.uptoBulk, Rows.uptoBulkAll, List.map_cons, List.map_nil] at hb
    have t1 : tails ks ≤ Rows.uptoBulk y1.1 := by
      rcases q1 with ⟨rfl, _⟩ | ⟨es, sp, h1, h2, _, h3⟩
      · exact Nat.zero_le _
      · rw [h1, Rows.uptoBulk]; have := bulk_texts h2 h3; omega
    have t9 : tails (ms.map fun f => f.letter :: f.arg) ≤ Rows.uptoBulk y9.1 := by
      rcases q9 with ⟨rfl, _⟩ | ⟨es, sp, h1, h2, _, h3⟩
      · exact Nat.zero_le _
      · rw [h1, Rows.uptoBulk]; have := bulk_flags h2 h3; omega
    have t10 : s.data.toList.length ≤ Rows.uptoBulk y10.1 := by rw [k10, Rows.uptoBulk]; omega
    exact ⟨⟨r1, r6, r9, n1, n6⟩, rfl, p0, a1, a6, a9, n9, ⟨b1, b6, b9⟩, (by show fl.toNat < _; omega), (by show tk.toNat < _; omega), (by show dl.toNat < _; omega), p3, (by show tails ks ≤ _; omega), (by show tails (ms.map fun f => f.letter :: f.arg) ≤ _; omega), (by show ds.length ≤ _; omega), (by show s.data.toList.length ≤ _; omega)⟩

/-- commands that lie in a row -/
structure CmdsAt (w : World) (A : Option Addr) (xs : List CmdX) : Prop where
  row : RowAt w A (xs.flatMap CmdX.cells)
  good : ∀ x ∈ xs, CmdGood w x
theorem CmdsAt.below {w w' : World} {A : Option Addr} {xs : List CmdX} (h : CmdsAt w A xs) (hb : Below w.heap.size w w') : CmdsAt w' A xs := ⟨h.row.below hb, fun x hx => (h.good x hx).below hb⟩
theorem CmdX.cells_length (x : CmdX) : x.cells.length = 11 := rfl
theorem CmdsAt.cell {w : World} {A : Option Addr} {xs : List CmdX} (h : CmdsAt w A xs) {i : Nat} {x : CmdX} (hx : xs[i]? = some x) :
    ∃ g o, A = some ⟨g, o, none⟩ ∧ g < w.heap.size ∧ ∀ (j : Nat) (u : Value), x.cells[j]? = some u → w.cell? ⟨g, o + i * 11 + j, none⟩ = some u := by
  have c0 : (xs.flatMap CmdX.cells)[i * 11 + 0]? = x.cells[0]? := flatMap_get (k := 11) (fun _ _ => rfl) hx (by decide)
  rcases h.row with h0 | ⟨g, o, h1, h2, h3⟩
  · rw [h0] at c0; cases c0
  · refine ⟨g, o, h1, h2, fun j u hu => ?_⟩
    have hj : j < 11 := by have := (List.getElem?_eq_some_iff.1 hu).1; rwa [CmdX.cells_length] at this
    have := flatMap_get (k := 11) (f := CmdX.cells) (fun _ _ => rfl) hx hj
    rw [Nat.add_assoc]
    exact h3 _ _ (by rw [this]; exact hu)

end
end Go.Proofs.YtnbeeehfapjpdaaGreatDoor

section
namespace Go.Proofs.YtnbeeehfapjpdaaGreatDoor
open Go.Lib Sp Go.RowKit
theorem own_room3 {w : World} {base : Nat} {e : TypeId} {size n c : Nat} {A : Option Addr} {xs : List Value} (h : w.ownsRow base e size (.slice A n c) n xs) : n ≤ c ∧ c ≤ 9223372036854775807 ∧ (A = none → c = 0) := by
  rcases h.2 with ⟨h1, h2⟩ | ⟨g', cap, cur, h1, _, _, h2, h4, _⟩
  · injection h1 with h0 h3 h4
    exact ⟨by omega, by omega, fun _ => h4⟩
  · injection h1 with h0 _ h3
    subst h3
    exact ⟨h2, by unfold maxLen at h4; exact h4, fun h => by rw [h] at h0; cases h0⟩
/-- what Bytes tells of a command that came in -/
def CmdX.out (x : CmdX) : Option Bs := if 1 ≤ x.v ∧ x.v ≤ 24 then bytesV' x.c else none
/-- commands that were kept: their bytes, their cells, their ends -/
def backAll (cs : List CmdX) : Bs := (cs.map (·.c)).flatMap outV
def backEnds (cs : List CmdX) : List Value := (List.range cs.length).map fun i => Value.int .i64 (backEnd (cs.map (·.c)) (i + 1))
/-- Bytes of a command that came in -/
def BytesEndX (w : World) (x : CmdX) (e : Ending) (w' : World) : Prop := match x.out with
  | some out => BytesOwn w out e w'
  | none => e = .returned (.tuple #[nilRow, .int .i64 7]) ∧ Below w.heap.size w w'
end Go.Proofs.YtnbeeehfapjpdaaGreatDoor
end
end
end
section
namespace Go.Proofs.YtnbeeehfapjpdaaGreatDoor
attribute [local go_sem ↓] Go.wp_at_zero Go.wp_at_succ
open Go.RowKit

/-- what could tells -/
def CouldPost (w : World) (rb : Nat) (A : Option Addr) (cap : Nat) (raw : Sp.Bs) (p : Nat) (r : Sp.RdV Unit) (e : Ending) (w' : World) : Prop :=
  OnlyIn [rb] w w' ∧ match r with
    | .got _ q => e = .returned (.bool true) ∧ RdAt w' rb A cap raw q
    | .more => e = thrownR true ∧ RdAt w' rb A cap raw p
    | .fail => e = .returned (.bool false) ∧ RdAt w' rb A cap raw p
theorem RdAt.move {w : World} {rb : Nat} {A : Option Addr} {cap : Nat} {raw : Sp.Bs} {p q : Nat} (h : RdAt w rb A cap raw p) (hq : q ≤ raw.length) : RdAt (w.setCell ⟨rb, 1, none⟩ (.int .i64 q)) rb A cap raw q := by
  refine { h with blk := ?_, row := ?_, le := hq }
  · have := h.blk.put 1 (.int .i64 q)
    exact this
  · rcases h.row with h0 | ⟨b, o, h1, h2, h3⟩
    · exact .inl h0
    · refine .inr ⟨b, o, h1, by simpa [World.setCell] using h2, fun j u hu => ?_⟩
      have hb : b ≠ rb := by have := h.old _ h1; dsimp only at this; omega
      exact (World.cell?_of_block (a := ⟨b, o + j, none⟩) (Below.heap_setCell w ⟨rb, 1, none⟩ _ b hb)).trans (h3 j u hu)
set_option maxHeartbeats 2000000 in
set_option maxRecDepth 100000 in
theorem could_any {w : World} {rb : Nat} {A : Option Addr} {cap : Nat} {raw : Sp.Bs} {p : Nat} (h : RdAt w rb A cap raw p) (s : Sp.Bs) (hs : s.length ≤ 100000) :
    Calls Tryz.prog 142 #[.pointer (some ⟨rb, 0, none⟩), str s] w (CouldPost w rb A cap raw p (Sp.wantV raw p s)) := by
  generalize hR : CouldPost w rb A cap raw p (Sp.wantV raw p s) = R
  have hlen : (raw.drop p).length = raw.length - p := List.length_drop
  have hr := rest_any h
  have hpre : ∀ W : World, Below w.heap.size w W → ∀ (B : Option Addr) (d : Nat), RowAt W B (bytesV s) → Calls Tryz.prog 145 #[restV A cap raw p, .slice B s.length d] W fun e w' => e = .returned (.bool (decide ((raw.drop p).take s.length = s))) ∧ W = w' := fun W hW B d hB => by
    have := prefix_any (cap := cap - p) (d := d) (h.rest.below hW) hB (by have := h.room; omega)
    rw [hlen] at this
    exact this
  have hcv : ∀ W : World, ∃ W3 cp2, (convert 9 29 (.string ⟨s.toArray⟩)).run Tryz.prog W = .ok (.slice (some ⟨W.heap.size, 0, none⟩) s.length cp2) W3 ∧ RowAt W3 (some ⟨W.heap.size, 0, none⟩) (bytesV s) ∧ Below W.heap.size W W3 := fun W => by
    obtain ⟨W3, cp2, h1, h2, h3⟩ := convert_free W s (Nat.le_refl _) (by unfold maxLen; omega)
    exact ⟨W3, cp2, h1, h2.row, h3⟩
  have hstr : ∀ W : World, Below w.heap.size w W → (convert 29 9 (restV A cap raw p)).run Tryz.prog W = .ok (.string ⟨(raw.drop p).toArray⟩) W := fun W hW => by
    have := run_bytes_str (cap := cap - p) (h.rest.below hW)
    rw [hlen] at this
    exact this
  have hle := h.le
  have hsm := h.small
  have HR := Lib.hid hR
  have HH := Lib.hid h
  have HR0 := Lib.hid hr
  have HPRE := Lib.hid hpre
  have HCV := Lib.hid hcv
  have HSTR := Lib.hid hstr
  clear hR hr hpre hcv hstr h
  by_cases h1 : s.isPrefixOf (raw.drop p) = true
  · obtain ⟨r, hr⟩ := List.isPrefixOf_iff_prefix.1 h1
    have hle2 : p + s.length ≤ raw.length := by
      have := congrArg List.length hr
      rw [List.length_append, hlen] at this
      omega
    have hw : Sp.wantV raw p s = .got () (p + s.length) := by unfold Sp.wantV; rw [if_pos h1]
    have ht : decide ((raw.drop p).take s.length = s) = true := by rw [← hr, List.take_left, decide_eq_true rfl]
    have HW := Lib.hid hw
    have HT := Lib.hid ht
    clear hr hw ht h1 hlen
    go_enter Tryz.func142, Tryz.ntmps142
    go_wp2_with (first
      | (go_at_call 135; refine HR0.out.mono ?_; rintro e w1 ⟨rfl, hb1⟩; obtain ⟨W3, cp2, k1, k2, k3⟩ := HCV.out w1; have hb3 := hb1.trans (k3.mono hb1.size); have hp3 := HPRE.out W3 hb3 _ cp2 k2; rw [HT.out] at hp3; have hx3 := HH.out.later hb3; have x1 : W3.cell? ⟨rb, 1, none⟩ = some (.int .i64 p) := hx3.blk.cell 1; have x1f := hx3.blk.frozen 1; have HP3 := Lib.hid hp3; have HX3 := Lib.hid hx3; have HB3 := Lib.hid hb3; clear hb1 k2 k3 hb3 hp3 hx3)
      | (go_at_call 145; refine HP3.out.mono ?_; rintro e w4 ⟨rfl, rfl⟩))
    rw [← HR.out, HW.out]
    have hm := HX3.out.move hle2
    have e : (((p + s.length : Nat) : Int)) = (p : Int) + (s.length : Int) := Int.natCast_add _ _
    rw [e] at hm
    exact ⟨(OnlyIn.of HB3.out [rb]).setCell (.inl (List.mem_singleton.2 rfl)) 1 _, rfl, hm⟩
  · have ht : decide ((raw.drop p).take s.length = s) = false := decide_eq_false fun e => h1 (List.isPrefixOf_iff_prefix.2 (by
      have := List.take_prefix s.length (raw.drop p)
      rwa [e] at this))
    have hhp : ∀ W : World, Calls Tryz.prog 82 #[str s, str (raw.drop p)] W fun e w' => e = .returned (.bool ((raw.drop p).isPrefixOf s)) ∧ W = w' := fun W => by
      have := Tryz.strings_HasPrefix ⟨s.toArray⟩ ⟨(raw.drop p).toArray⟩ W
      rw [strR_list, strR_list] at this
      exact this.mono fun e w' ⟨h1, h2⟩ => ⟨h1, h2.symm⟩
    have HT := Lib.hid ht
    by_cases h2 : (raw.drop p).isPrefixOf s = true
    · have hw : Sp.wantV raw p s = .more := by unfold Sp.wantV; rw [if_neg h1, if_pos h2]
      rw [h2] at hhp
      have HHP := Lib.hid hhp
      have HW := Lib.hid hw
      clear hhp hw ht h1 h2 hlen
      go_enter Tryz.func142, Tryz.ntmps142
      go_wp2_with (first
        | (go_at_call 135; refine HR0.out.mono ?_; rintro e w1 ⟨rfl, hb1⟩; obtain ⟨W3, cp2, k1, k2, k3⟩ := HCV.out w1; have hb3 := hb1.trans (k3.mono hb1.size); have hp3 := HPRE.out W3 hb3 _ cp2 k2; rw [HT.out] at hp3; have hx3 := HH.out.later hb3; have k4 := HSTR.out W3 hb3; have h5 := HHP.out W3; have HP3 := Lib.hid hp3; have HX3 := Lib.hid hx3; have HB3 := Lib.hid hb3; have H5 := Lib.hid h5; clear hb1 k2 k3 hb3 hp3 hx3 h5)
        | (go_at_call 145; refine HP3.out.mono ?_; rintro e w4 ⟨rfl, rfl⟩)
        | (go_at_call 82; refine H5.out.mono ?_; rintro e w5 ⟨rfl, rfl⟩))
      refine ⟨rfl, ?_⟩
      rw [← HR.out, HW.out]
      exact ⟨OnlyIn.of HB3.out [rb], rfl, HX3.out⟩
    · have h2' : (raw.drop p).isPrefixOf s = false := Bool.eq_false_iff.2 h2
      have hw : Sp.wantV raw p s = .fail := by unfold Sp.wantV; rw [if_neg h1, if_neg h2]
      rw [h2'] at hhp
      have HHP := Lib.hid hhp
      have HW := Lib.hid hw
      clear hhp hw ht h1 h2 h2' hlen
      go_enter Tryz.func142, Tryz.ntmps142
      go_wp2_with (first
        | (go_at_call 135; refine HR0.out.mono ?_; rintro e w1 ⟨rfl, hb1⟩; obtain ⟨W3, cp2, k1, k2, k3⟩ := HCV.out w1; have hb3 := hb1.trans (k3.mono hb1.size); have hp3 := HPRE.out W3 hb3 _ cp2 k2; rw [HT.out] at hp3; have hx3 := HH.out.later hb3; have k4 := HSTR.out W3 hb3; have h5 := HHP.out W3; have HP3 := Lib.hid hp3; have HX3 := Lib.hid hx3; have HB3 := Lib.hid hb3; have H5 := Lib.hid h5; clear hb1 k2 k3 hb3 hp3 hx3 h5)
        | (go_at_call 145; refine HP3.out.mono ?_; rintro e w4 ⟨rfl, rfl⟩)
        | (go_at_call 82; refine H5.out.mono ?_; rintro e w5 ⟨rfl, rfl⟩))
      rw [← HR.out, HW.out]
      exact ⟨OnlyIn.of HB3.out [rb], rfl, HX3.out⟩
/-- what a reading without a value tells -/
def WantPost (w : World) (rb : Nat) (A : Option Addr) (cap : Nat) (raw : Sp.Bs) (p : Nat) (r : Sp.RdV Unit) (e : Ending) (w' : World) : Prop :=
  OnlyIn [rb] w w' ∧ match r with
    | .got _ q => e = .returned (.tuple #[]) ∧ RdAt w' rb A cap raw q
    | .more => e = thrownR true ∧ RdAt w' rb A cap raw p
    | .fail => e = thrownR false ∧ RdAt w' rb A cap raw p
set_option maxHeartbeats 1000000 in
theorem readerWant_any {w : World} {rb : Nat} {A : Option Addr} {cap : Nat} {raw : Sp.Bs} {p : Nat} (h : RdAt w rb A cap raw p) (s : Sp.Bs) (hs : s.length ≤ 100000) :
    Calls Tryz.prog 109 #[.pointer (some ⟨rb, 0, none⟩), str s] w (WantPost w rb A cap raw p (Sp.wantV raw p s)) := by
  generalize hR : WantPost w rb A cap raw p (Sp.wantV raw p s) = R
  have hc := could_any h s hs
  have hf := fun W : World => readerFail_any W rb
  have HF := Lib.hid hf
  cases hr : Sp.wantV raw p s with
  | got u q =>
    rw [hr] at hc hR
    have HR := Lib.hid hR
    have HC := Lib.hid hc
    clear hR hc h hf hr
    go_enter Tryz.func109, Tryz.ntmps109
    go_wp2_with (go_at_call 142; refine HC.out.mono ?_; rintro e w1 ⟨ho, rfl, hx⟩; have HO := Lib.hid ho; have HX := Lib.hid hx; clear ho hx)
    refine ⟨rfl, .tuple #[], by simp [results, Tryz.results109, go_sem], ?_⟩
    rw [← HR.out]
    exact ⟨HO.out, rfl, HX.out⟩
  | more =>
    rw [hr] at hc hR
    have HR := Lib.hid hR
    have HC := Lib.hid hc
    clear hR hc h hf hr
    go_enter Tryz.func109, Tryz.ntmps109
    go_wp2_with (go_at_call 142; refine HC.out.mono ?_; rintro e w1 ⟨ho, rfl, hx⟩; have HO := Lib.hid ho; have HX := Lib.hid hx; clear ho hx)
    refine ⟨rfl, ?_⟩
    rw [← HR.out]
    exact ⟨HO.out, rfl, HX.out⟩
  | fail =>
    rw [hr] at hc hR
    have HR := Lib.hid hR
    have HC := Lib.hid hc
    clear hR hc h hf hr
    go_enter Tryz.func109, Tryz.ntmps109
    go_wp2_with (first | (go_at_call 142; refine HC.out.mono ?_; rintro e w1 ⟨ho, rfl, hx⟩; have HO := Lib.hid ho; have HX := Lib.hid hx; clear ho hx) | (go_at_call 137; refine (HF.out _).mono ?_; rintro e w2 ⟨rfl, rfl⟩))
    refine ⟨rfl, ?_⟩
    rw [← HR.out]
    exact ⟨HO.out, rfl, HX.out⟩
end Go.Proofs.YtnbeeehfapjpdaaGreatDoor
end
