/- Appends of bytes onto a row of the call's own whose block may bear a mark (what a text's conversion gives). Arguments opened: slices of commands, where what comes in is of small bulk. -/
import Derived.Test.YthgfjafnclklpaaGreatDoorPc
import Derived.Test.YthgfjafnclklpaaGreatDoorG2
import Derived.Deep.AppendSrc
import Derived.Deep.Upon
import Derived.Test.YthgfjafnclklpaaGreatDoorKw
import Derived.Test.YthgfjafnclklpaaGreatDoorSm
import Derived.Test.YthgfjafnclklpaaGreatDoorPj
section
namespace Go.Proofs.YthgfjafnclklpaaGreatDoor
open Go.RowKit

theorem tape_setCells (b : Nat) : ∀ (vs : List Value) (o : Nat) (w : World), (w.setCells b o vs).tape = w.tape
  | [], _, _ => rfl
  | _ :: vs, o, _ => (tape_setCells b vs (o + 1) _).trans rfl
theorem size_setCells' (b : Nat) : ∀ (vs : List Value) (o : Nat) (w : World), (w.setCells b o vs).heap.size = w.heap.size
  | [], _, _ => rfl
  | _ :: vs, o, w => (size_setCells' b vs (o + 1) _).trans (by simp [World.setCell])
theorem below_setCells_size (g : Nat) (vs : List Value) (o : Nat) (w : World) : w.heap.size ≤ (w.setCells g o vs).heap.size := Nat.le_of_eq (size_setCells' g vs o w).symm

/-- the row in block g is the call's own: n bytes, and room up to cap; none of it is frozen -/
structure Free (w : World) (base g n cap : Nat) (l : Sp.Bs) : Prop where
  ge : base ≤ g
  lt : g < w.heap.size
  len : l.length = n
  room : n ≤ cap
  small : cap ≤ maxLen
  there : ∀ j, j < cap → (w.cell? ⟨g, j, none⟩).isSome = true ∧ w.frozen? ⟨g, j, none⟩ = false
  cells : ∀ j u, (bytesV l)[j]? = some u → w.cell? ⟨g, j, none⟩ = some u

section
variable {w : World} {base g n cap m : Nat} {l k : Sp.Bs}
theorem Free.row (h : Free w base g n cap l) : RowAt w (some ⟨g, 0, none⟩) (bytesV l) := .inr ⟨g, 0, rfl, h.lt, fun j u hu => by rw [Nat.zero_add]; exact h.cells j u hu⟩
theorem Free.later {w' : World} (h : Free w base g n cap l) (hb : Below w.heap.size w w') : Free w' base g n cap l := by
  have hh := hb.block g h.lt
  have hc : ∀ j, w'.cell? ⟨g, j, none⟩ = w.cell? ⟨g, j, none⟩ := fun j => World.cell?_of_block hh
  have hf : ∀ j, w'.frozen? ⟨g, j, none⟩ = w.frozen? ⟨g, j, none⟩ := fun j => World.frozen?_of_block hh
  exact ⟨h.ge, Nat.lt_of_lt_of_le h.lt hb.size, h.len, h.room, h.small, fun j hj => by rw [hc, hf]; exact h.there j hj, fun j u hu => by rw [hc]; exact h.cells j u hu⟩

theorem info_u8' : (Tryz.prog.info? 5).map (fun i => (i.zero, i.size, i.bytes)) = some (some (.int .u8 0), 1, 1) := by kernel_rfl

theorem run_append_free {tx ty : TypeId} (h : Free w base g n cap l) {x : Value} (hs : Src Tryz.prog 1 tx x m (bytesV k) w) (hk : k.length = m) (h47 : n + m ≤ 140737488355328) (hbase : base ≤ w.heap.size) :
    ∃ g' cap' w', (Builtin.append_ #[35, tx] ty #[.slice (some ⟨g, 0, none⟩) n cap, x]).run Tryz.prog w = .ok (.slice (some ⟨g', 0, none⟩) (n + m) cap') w' ∧
      Free w' base g' (n + m) cap' (l ++ k) ∧ w.grownBy w' (some g) := by
  obtain ⟨i, hi, hz, hsz, hby⟩ := info_parts info_u8'
  have hkl : (bytesV k).length = m := by rw [bytesV_length, hk]
  have hll : (bytesV l).length = n := by rw [bytesV_length, h.len]
  by_cases hroom : n + m ≤ cap
  · have hr := run_append_room_src (P := Tryz.prog) w 35 tx ty 5 i Tryz.underlying35 hi g 0 n cap x m (bytesV k) (by rw [hsz]; exact hs) hroom
      (fun j hj => by rw [hsz]; exact (h.there _ (by omega)).1) (fun j hj => by rw [hsz]; exact (h.there _ (by omega)).2)
    rw [hsz, Nat.zero_add, Nat.mul_one] at hr
    refine ⟨g, cap, _, hr, ⟨h.ge, ?_, by rw [List.length_append, h.len, hk], hroom, h.small, fun j hj => ?_, fun j u hu => ?_⟩, ?_⟩
    · exact Nat.lt_of_lt_of_le h.lt (below_setCells_size g (bytesV k) n w)
    · rw [World.frozen?_setCells]
      exact ⟨World.isSome_setCells g _ _ _ _ (h.there j hj).1, (h.there j hj).2⟩
    · have hap : bytesV (l ++ k) = bytesV l ++ bytesV k := by simp [bytesV]
      rw [hap] at hu
      rcases Nat.lt_or_ge j n with hj | hj
      · rw [List.getElem?_append_left (by omega)] at hu
        rw [World.cell?_setCells_out g _ _ _ ⟨g, j, none⟩ (fun _ _ => .inl hj)]
        exact h.cells j u hu
      · rw [List.getElem?_append_right (by omega), hll] at hu
        have hj2 := (List.getElem?_eq_some_iff.1 hu).1
        have := World.cell?_setCells_in g (bytesV k) n w (fun j hj => (h.there _ (by omega)).1) (j - n) hj2
        rw [show n + (j - n) = j by omega] at this
        rw [this]
        have := (List.getElem?_eq_some_iff.1 hu).2
        simp [this]
    · exact ⟨World.os_setCells w g n _, tape_setCells g _ _ _, World.output_setCells w g n _, below_setCells_size g _ _ _, fun i hi hne => World.heap_setCells_other w g n _ hi (fun e => hne (by rw [e]))⟩
  · have hold : (Builtin.firstCells i.size n (.slice (some ⟨g, 0, none⟩) n cap)).run Tryz.prog w.drew = .ok (bytesV l).toArray w.drew := by
      rw [hsz]
      refine run_firstCells_some w.drew 1 n ⟨g, 0, none⟩ n cap (bytesV l) (by omega) (fun j u hu => ?_)
      rw [Addr.add_mid, Nat.zero_add]
      exact h.cells j u hu
    have hgf := growslice_fits (need := n + m) (old := cap) (bytes := 1) (by omega) (by omega)
    have hr := run_append_grow_src (P := Tryz.prog) w 35 tx ty 5 i _ Tryz.underlying35 hi hz (some ⟨g, 0, none⟩) n cap (bytesV l) hold x m (bytesV k) (by rw [hsz]; exact hs) (by omega) (by omega) (by rw [hby]; exact hgf)
    have hge := grownCap_ge w (n + m) cap 5
    have hcm : grownCap w (n + m) cap 5 ≤ maxLen := grownCap_le_maxLen w (n + m) cap _ (by unfold maxLen; omega)
    generalize grownCap w (n + m) cap 5 = cp at hr hge hcm
    refine ⟨_, _, _, hr, ⟨hbase, by simp, by rw [List.length_append, h.len, hk], hge, hcm, fun j hj => ?_, fun j u hu => ?_⟩, ⟨rfl, rfl, rfl, by simp, fun k hk _ => heap_alloc_old w.drew _ hk⟩⟩
    · have hh := heap_alloc_new w.drew (.cells ((bytesV l ++ bytesV k).toArray ++ Builtin.zeroCells (Value.int .u8 0).cells (cp - (n + m))) 5)
      change (World.alloc _ _).heap[w.heap.size]? = _ at hh
      refine ⟨?_, ?_⟩
      · unfold World.cell?
        rw [hh]
        simp only [Option.isSome_none, Bool.false_eq_true, if_false]
        rw [Array.getElem?_eq_getElem (by simp [size_zeroCells, Value.cells, hkl, hll]; omega)]
        rfl
      · unfold World.frozen?
        rw [hh]
        simp
    · have hh := heap_alloc_new w.drew (.cells ((bytesV l ++ bytesV k).toArray ++ Builtin.zeroCells (Value.int .u8 0).cells (cp - (n + m))) 5)
      change (World.alloc _ _).heap[w.heap.size]? = _ at hh
      have hap : bytesV (l ++ k) = bytesV l ++ bytesV k := by simp [bytesV]
      rw [hap] at hu
      unfold World.cell?
      rw [hh]
      simp only [Option.isSome_none, Bool.false_eq_true, if_false]
      rw [Array.getElem?_append_left (by have := (List.getElem?_eq_some_iff.1 hu).1; simpa using this)]
      simpa using hu

theorem wpList_append_free {ops : Array Oper} {rest : List Oper} {o : Oper} {a : Act} {Q : Exit → Act → World → Prop} (hgd : o.guard = none) (s x : Operand) (tx : TypeId)
    (ho : o.op = .call { callee := .builtin .append, args := #[s, x], argTypes := #[35, tx] }) (hs : a.eval s = .slice (some ⟨g, 0, none⟩) n cap) (h : Free w base g n cap l) {xv : Value} (hx : a.eval x = xv)
    (k : Sp.Bs) (m : Nat) (hsrc : Src Tryz.prog 1 tx xv m (bytesV k) w) (hk : k.length = m) (h47 : n + m ≤ 140737488355328) (hbase : base ≤ w.heap.size)
    (hK : ∀ g' cap' w', Free w' base g' (n + m) cap' (l ++ k) → w.grownBy w' (some g) → wpList Tryz.prog ops Q rest (a.put o.dst (.slice (some ⟨g', 0, none⟩) (n + m) cap')) w') :
    wpList Tryz.prog ops Q (o :: rest) a w := by
  refine wpList_plain hgd fun K hK' => ?_
  obtain ⟨g', cap', w', hr, h2, h3⟩ := run_append_free (ty := o.type) h hsrc hk h47 hbase
  unfold Oper.wp execOp
  simp only [ho, resolve, invoke, builtin, Sem.run_bind, Sem.run_pure, Result.andThen_ok, List.map_toArray, List.map_cons, List.map_nil, hs, hx, hr]
  exact hK' _ _ (hK _ _ _ h2 h3)

/-- bytes that lie in a row, to be appended -/
theorem src_row {A : Option Addr} {c : Nat} (hr : RowAt w A (bytesV k)) (hA : A = none → c = 0) : Src Tryz.prog 1 35 (.slice A k.length c) k.length (bytesV k) w := by
  cases A with
  | none =>
    obtain rfl := hA rfl
    rcases hr with h0 | ⟨_, _, h, _⟩
    · have : k = [] := by simpa [bytesV] using h0
      subst this
      exact Src.ofNil w Tryz.underlying35 0
    · cases h
  | some a =>
    refine Src.ofSlice w Tryz.underlying35 a k.length c (bytesV k) (by rw [bytesV_length, Nat.mul_one]) hr.cells (fun u hu => ?_)
    obtain ⟨b, _, rfl⟩ := List.mem_map.1 hu
    rfl
/-- a text, to be appended -/
theorem src_text (w : World) (k : Sp.Bs) : Src Tryz.prog 1 9 (str k) k.length (bytesV k) w := by
  have := Src.ofString (P := Tryz.prog) w Tryz.underlying9 ⟨k.toArray⟩
  rw [str_size] at this
  have e : byteCells ⟨k.toArray⟩ = bytesV k := by simp [byteCells, bytesV]
  rwa [e] at this
end

/-- a text's bytes in new memory, with their room -/
theorem convert_free (w2 : World) (l : Sp.Bs) {base : Nat} (hb : base ≤ w2.heap.size) (hl : l.length ≤ maxLen) : ∃ W3 cp2, (convert 9 35 (.string ⟨l.toArray⟩)).run Tryz.prog w2 = .ok (.slice (some ⟨w2.heap.size, 0, none⟩) l.length cp2) W3 ∧
    Free W3 base w2.heap.size l.length cp2 l ∧ Below w2.heap.size w2 W3 := by
  have h := run_bytes_of_string (P := Tryz.prog) w2 9 35 5 ⟨l.toArray⟩ Tryz.underlying9 Tryz.underlying35 Tryz.underlying5
  rw [str_size] at h
  have hge := grownCap_ge w2 l.length 0 5
  have hcm := grownCap_le_maxLen w2 l.length 0 5 hl
  generalize grownCap w2 l.length 0 5 = cp at h hge hcm
  have hh := heap_alloc_new w2.drew (.cells (bytesRow ⟨l.toArray⟩ cp) 5 ((bytesRow ⟨l.toArray⟩ cp).size, (bytesRow ⟨l.toArray⟩ cp).size + 1))
  change (World.alloc _ _).heap[w2.heap.size]? = _ at hh
  have hsz : (bytesRow ⟨l.toArray⟩ cp).size = cp := by simp [bytesRow, str_size]; omega
  refine ⟨_, _, h, ⟨hb, by simp, rfl, hge, hcm, fun j hj => ⟨?_, ?_⟩, fun j u hu => ?_⟩, ((Below.refl _ _).drew).alloc (Nat.le_refl _) _⟩
  · unfold World.cell?
    rw [hh]
    simp only [Option.isSome_none, Bool.false_eq_true, if_false]
    rw [Array.getElem?_eq_getElem (by rw [hsz]; exact hj)]
    rfl
  · unfold World.frozen?
    rw [hh]
    simp [hsz]
    omega
  · unfold World.cell?
    rw [hh]
    simp only [Option.isSome_none, Bool.false_eq_true, if_false]
    have hj : j < l.length := by have := (List.getElem?_eq_some_iff.1 hu).1; rwa [bytesV_length] at this
    unfold bytesRow
    rw [Array.getElem?_append_left (by simpa using hj)]
    simpa [bytesV] using hu

/-- what Bytes tells, in a row of the caller's own -/
def BytesOwn (w : World) (out : Sp.Bs) (e : Ending) (w' : World) : Prop :=
  ∃ g cap, e = .returned (.tuple #[.slice (some ⟨g, 0, none⟩) out.length cap, .int .i64 0]) ∧ Free w' w.heap.size g out.length cap out ∧ Below w.heap.size w w'
theorem Free.le {w : World} {base base' g n cap : Nat} {l : Sp.Bs} (h : Free w base g n cap l) (hb : base' ≤ base) : Free w base' g n cap l := ⟨Nat.le_trans hb h.ge, h.lt, h.len, h.room, h.small, h.there, h.cells⟩


theorem row_new (W : World) {n : Nat} (hn : W.heap.size = n) (t : TypeId) (cs : List Value) : RowAt (W.alloc (.cells cs.toArray t)) (some ⟨n, 0, none⟩) cs := by
  subst hn
  have hb := Blk.new W t cs.toArray
  refine .inr ⟨_, _, rfl, by simp, fun j u hu => ?_⟩
  rw [Nat.zero_add, hb.cell j]
  simpa using hu
end Go.Proofs.YthgfjafnclklpaaGreatDoor
end
section
namespace Go.Proofs.YthgfjafnclklpaaGreatDoor
open Go.ChangeShapes Go.WideShapes Go.ChangeAt Go.RowKit

/-- a command that came in, as it lies in memory -/
structure CmdX where
  v : Int
  c : Sp.CmdV
  K : Option Addr
  kc : Nat
  D : Option Addr
  dc : Nat
  M : Option Addr
  mc : Nat
def CmdX.cells (x : CmdX) : List Value := [.int .i64 x.v, .slice x.K x.c.keys.length x.kc, .int .u64 x.c.flags, .int .i64 x.c.exptime, .int .u64 x.c.token, .int .u64 x.c.delta, .slice x.D x.c.data.length x.dc, .bool x.c.noreply, .bool x.c.large, .slice x.M x.c.metas.length x.mc, str x.c.what]

structure CmdGood (w : World) (x : CmdX) : Prop where
  mem : CmdIn w x.c x.K x.kc x.D x.dc x.M x.mc
  verb : x.c.verb = x.v.toNat
  vb : -9223372036854775808 ≤ x.v ∧ x.v ≤ 9223372036854775807
  kc : x.c.keys.length ≤ x.kc
  dc : x.c.data.length ≤ x.dc
  mc : x.c.metas.length ≤ x.mc
  nm : x.M = none → x.mc = 0
  caps : x.kc ≤ 9223372036854775807 ∧ x.dc ≤ 9223372036854775807 ∧ x.mc ≤ 9223372036854775807
  flags : x.c.flags < 18446744073709551616
  token : x.c.token < 18446744073709551616
  delta : x.c.delta < 18446744073709551616
  time : -9223372036854775808 ≤ x.c.exptime ∧ x.c.exptime ≤ 9223372036854775807
  keysT : tails x.c.keys ≤ 1048576
  metasT : tails (x.c.metas.map fun f => f.letter :: f.arg) ≤ 1048576
  dataL : x.c.data.length ≤ 1048576
  whatL : x.c.what.length ≤ 1048576

theorem tails_count : ∀ (l : List Sp.Bs), l.length ≤ tails l
  | [] => Nat.zero_le _
  | y :: t => by rw [tails, List.length_cons]; have := tails_count t; omega
theorem tails_mem : ∀ {l : List Sp.Bs} {x : Sp.Bs}, x ∈ l → x.length < tails l
  | y :: t, x, h => by
    rw [tails]
    rcases List.mem_cons.1 h with rfl | h
    · omega
    · have := tails_mem h; omega

section
variable {w : World} {x : CmdX}
theorem CmdGood.below {w' : World} (h : CmdGood w x) (hb : Below w.heap.size w w') : CmdGood w' x :=
  ⟨h.mem.below hb, h.verb, h.vb, h.kc, h.dc, h.mc, h.nm, h.caps, h.flags, h.token, h.delta, h.time, h.keysT, h.metasT, h.dataL, h.whatL⟩
theorem CmdGood.counts (h : CmdGood w x) : x.c.keys.length ≤ 1048576 ∧ x.c.metas.length ≤ 1048576 ∧ ∀ f ∈ x.c.metas, f.arg.length ≤ 1048576 := by
  have h1 := tails_count x.c.keys
  have h2 := tails_count (x.c.metas.map fun f => f.letter :: f.arg)
  rw [List.length_map] at h2
  have h3 := h.keysT
  have h4 := h.metasT
  refine ⟨by omega, by omega, fun f hf => ?_⟩
  have := tails_mem (List.mem_map_of_mem (f := fun f : Sp.FlagV => f.letter :: f.arg) hf)
  rw [List.length_cons] at this
  omega
theorem CmdGood.fit (h : CmdGood w x) (hv : x.c.verb ≤ 24) : CmdFit x.c := by
  obtain ⟨h1, h2, h3⟩ := h.counts
  have h4 := h.dataL
  exact ⟨hv, h.flags, h.token, h.delta, h.time, by omega, by omega, by omega, fun f hf => by have := h3 f hf; omega⟩
theorem CmdGood.range (h : CmdGood w x) : Range x.c := ⟨by have := h.token; omega, by have := h.delta; omega, h.time⟩

theorem dec_len {u : Nat} (h : u < 18446744073709551616) : (Lib.decDigits u).length ≤ 20 := by
  rw [Lib.decDigits_length]
  exact nDigits_le 20 u (by decide) (by have : (10 : Nat) ^ 20 = 100000000000000000000 := by decide
                                        omega)
theorem itoa_len {e : Int} (h : -9223372036854775808 ≤ e ∧ e ≤ 9223372036854775807) : (Lib.itoa e).length ≤ 21 := by
  unfold Lib.itoa
  split
  · rw [List.length_cons]; have := dec_len (u := e.natAbs) (by omega); omega
  · have := dec_len (u := e.toNat) (by omega); omega
theorem CmdGood.put (h : CmdGood w x) (k : UInt8) : tails (Sp.putV x.c k) ≤ 1048600 := by
  unfold Sp.putV
  by_cases k0 : k = 75
  · rw [if_pos k0]; have := h.keysT; omega
  rw [if_neg k0]
  by_cases k1 : k = 71
  · rw [if_pos k1]; have := h.metasT; omega
  rw [if_neg k1]
  by_cases k2 : k = 70
  · rw [if_pos k2]; have := dec_len h.flags; simp only [tails]; omega
  rw [if_neg k2]
  by_cases k3 : k = 78
  · rw [if_pos k3]; have := dec_len (u := x.c.data.length) (by have := h.dataL; omega); simp only [tails]; omega
  rw [if_neg k3]
  by_cases k4 : k = 86
  · rw [if_pos k4]; simp [tails]
  rw [if_neg k4]
  by_cases k5 : k = 67
  · rw [if_pos k5]; have := dec_len h.token; simp only [tails]; omega
  rw [if_neg k5]
  by_cases k6 : k = 68
  · rw [if_pos k6]; have := dec_len h.delta; simp only [tails]; omega
  rw [if_neg k6]
  by_cases k7 : k = 84
  · rw [if_pos k7]; have := itoa_len h.time; simp only [tails]; omega
  rw [if_neg k7]
  by_cases k8 : k = 83
  · rw [if_pos k8]
    by_cases he : x.c.exptime = 0
    · rw [if_pos he]; simp [tails]
    · rw [if_neg he]; have := itoa_len h.time; simp only [tails]; omega
  rw [if_neg k8]
  by_cases k9 : k = 87
  · rw [if_pos k9]
    by_cases he : x.c.what = []
    · rw [if_pos he]; simp [tails]
    · rw [if_neg he]; have := h.whatL; simp only [tails]; omega
  rw [if_neg k9]
  simp [tails]
theorem CmdGood.args (h : CmdGood w x) : ∀ (ps : Sp.Bs), tails (ps.flatMap (Sp.putV x.c)) ≤ ps.length * 1048600
  | [] => by simp [tails]
  | k :: t => by
    rw [List.flatMap_cons, tails_append, List.length_cons]
    have h1 := h.put k
    have h2 := h.args t
    omega
theorem words_short : ∀ v : Fin 24, (wordBy (v.val + 1)).length ≤ 9 := by decide
theorem CmdGood.small (h : CmdGood w x) (h1 : 1 ≤ x.c.verb) (h2 : x.c.verb ≤ 24) : (Sp.outV x.c).length ≤ 8000000 ∧ (Sp.partsV (rowBy x.c.verb) (wordBy x.c.verb) x.c).length ≤ 8000000 := by
  have hok := rowOf_ok (rowOf_word h1 h2)
  have ha := h.args (rowBy x.c.verb).places
  have hw : (wordBy x.c.verb).length ≤ 9 := by
    have := words_short ⟨x.c.verb - 1, by omega⟩
    simpa only [show x.c.verb - 1 + 1 = x.c.verb by omega] using this
  have hn : tails (nrV x.c) ≤ 8 := by
    unfold nrV
    split
    · decide
    · simp [tails]
  have hp : tails (Sp.partsV (rowBy x.c.verb) (wordBy x.c.verb) x.c) ≤ 5243100 := by
    rw [parts_args]
    simp only [tails, tails_append]
    have h5 : (rowBy x.c.verb).places.length * 1048600 ≤ 5 * 1048600 := Nat.mul_le_mul_right _ hok.1
    have : tails (argsV (rowBy x.c.verb) x.c) ≤ 5 * 1048600 := Nat.le_trans ha h5
    omega
  have hj := join_tails (Sp.partsV (rowBy x.c.verb) (wordBy x.c.verb) x.c) (by rw [parts_args]; simp)
  have hd := h.dataL
  refine ⟨?_, by have := tails_count (Sp.partsV (rowBy x.c.verb) (wordBy x.c.verb) x.c); omega⟩
  unfold Sp.outV
  rw [List.length_append, List.length_append]
  have : (if (rowBy x.c.verb).block = true then x.c.data ++ [13, 10] else []).length ≤ x.c.data.length + 2 := by split <;> simp
  simp only [List.length_cons, List.length_nil]
  omega
end

section
variable {H : Type} {enc : TypeId × Value → H} {w : World} {held : Bool}
theorem list11 {α : Type} {l : List α} (h : l.length = 11) : ∃ a0 a1 a2 a3 a4 a5 a6 a7 a8 a9 a10, l = [a0, a1, a2, a3, a4, a5, a6, a7, a8, a9, a10] := by
  match l, h with
  | [a0, a1, a2, a3, a4, a5, a6, a7, a8, a9, a10], _ => exact ⟨_, _, _, _, _, _, _, _, _, _, _, rfl⟩

theorem bulk_texts : ∀ {l : List Sp.Bs} {es : List (DataW H)}, es.length = l.length → (∀ (i : Nat) (x : Sp.Bs), l[i]? = some x → ∃ d : DataW H, es[i]? = some d ∧ d = .lit (.string x)) → tails l ≤ Rows.uptoBulkAll es
  | [], _, _, _ => Nat.zero_le _
  | x :: t, [], h, _ => by cases h
  | x :: t, d :: es, h, hx => by
    obtain ⟨d', h1, h2⟩ := hx 0 x rfl
    have e : d = d' := Option.some.inj h1
    subst e; subst h2
    have := bulk_texts (l := t) (es := es) (by simpa using h) (fun i y hy => by simpa using hx (i + 1) y (by simpa using hy))
    rw [tails, Rows.uptoBulkAll, Rows.uptoBulk]; omega
theorem bulk_flags : ∀ {l : List Sp.FlagV} {es : List (DataW H)}, es.length = l.length → (∀ (i : Nat) (f : Sp.FlagV), l[i]? = some f → ∃ d : DataW H, es[i]? = some d ∧ ∃ d0 d2 : DataW H, d = .agg [d0, .lit (.string f.arg), d2]) →
    tails (l.map fun f => f.letter :: f.arg) ≤ Rows.uptoBulkAll es
  | [], _, _, _ => Nat.zero_le _
  | x :: t, [], h, _ => by cases h
  | x :: t, d :: es, h, hx => by
    obtain ⟨d', h1, d0, d2, h2⟩ := hx 0 x rfl
    have e : d = d' := Option.some.inj h1
    subst e; subst h2
    have := bulk_flags (l := t) (es := es) (by simpa using h) (fun i y hy => by simpa using hx (i + 1) y (by simpa using hy))
    have p0 := bulk_pos d0
    rw [List.map_cons, tails, Rows.uptoBulkAll, Rows.uptoBulk, Rows.uptoBulkAll, Rows.uptoBulkAll, Rows.uptoBulk, List.length_cons]; omega
theorem bulk_len {t e : TypeId} {A : Option Addr} {n cap f : Nat} {y : DataW H × List MemPlace} (ht : Tryz.prog.underlying t = some (.slice e)) (h : DataW.trod enc Tryz.prog w 0 (fun _ => true) held f t [.slice A n cap] = some y) : n ≤ Rows.uptoBulk y.1 := by
  have hs := Joins.sliceLen_trod ht (d := y.1) (ps := y.2) h
  cases hy : y.1 with
  | slice es sp =>
    rw [hy] at hs
    have := (bulk_slice (es := es) (sp := sp)).1
    simp only [Joins.sliceLen] at hs
    omega
  | _ => rw [hy] at hs; simp only [Joins.sliceLen] at hs; omega

set_option maxHeartbeats 2000000 in
set_option maxRecDepth 100000 in
theorem open_cmd {n : Nat} {cs : List Value} {x : DataW H × List MemPlace} (h : DataW.trod enc Tryz.prog w 0 (fun _ => true) held n 38 cs = some x) (hl : cs.length = 11) :
    ∃ X : CmdX, cs = X.cells ∧ (Rows.uptoBulk x.1 ≤ 1048576 → CmdGood w X) := by
  obtain ⟨xs, n', _, rfl, _, hxl, hf⟩ := DataW.trod_struct Tryz.underlying38 h
  obtain ⟨c0, c1, c2, c3, c4, c5, c6, c7, c8, c9, c10, rfl⟩ := list11 hl
  obtain ⟨y0, y1, y2, y3, y4, y5, y6, y7, y8, y9, y10, rfl⟩ := list11 hxl
  have k : ∀ t, t ∈ ([3, 33, 34, 35, 4, 36, 9] : List TypeId) → Tryz.prog.cellsOf t = 1 := by
    intro t ht
    simp only [List.mem_cons, List.not_mem_nil, or_false] at ht
    rcases ht with rfl | rfl | rfl | rfl | rfl | rfl | rfl <;> kernel_rfl
  have g0 : DataW.trod enc Tryz.prog w 0 (fun _ => true) held n' 3 [c0] = some y0 := by
    have h0 : DataW.trod enc Tryz.prog w 0 (fun _ => true) held n' 3 (([c0, c1, c2, c3, c4, c5, c6, c7, c8, c9, c10].drop 0).take (Tryz.prog.cellsOf 3)) = some y0 := hf 0 _ rfl
    rw [k 3 (by simp)] at h0
    exact h0
  have g1 : DataW.trod enc Tryz.prog w 0 (fun _ => true) held n' 33 [c1] = some y1 := by
    have h0 : DataW.trod enc Tryz.prog w 0 (fun _ => true) held n' 33 (([c0, c1, c2, c3, c4, c5, c6, c7, c8, c9, c10].drop 1).take (Tryz.prog.cellsOf 33)) = some y1 := hf 1 _ rfl
    rw [k 33 (by simp)] at h0
    exact h0
  have g2 : DataW.trod enc Tryz.prog w 0 (fun _ => true) held n' 34 [c2] = some y2 := by
    have h0 : DataW.trod enc Tryz.prog w 0 (fun _ => true) held n' 34 (([c0, c1, c2, c3, c4, c5, c6, c7, c8, c9, c10].drop 2).take (Tryz.prog.cellsOf 34)) = some y2 := hf 2 _ rfl
    rw [k 34 (by simp)] at h0
    exact h0
  have g3 : DataW.trod enc Tryz.prog w 0 (fun _ => true) held n' 3 [c3] = some y3 := by
    have h0 : DataW.trod enc Tryz.prog w 0 (fun _ => true) held n' 3 (([c0, c1, c2, c3, c4, c5, c6, c7, c8, c9, c10].drop 3).take (Tryz.prog.cellsOf 3)) = some y3 := hf 3 _ rfl
    rw [k 3 (by simp)] at h0
    exact h0
  have g4 : DataW.trod enc Tryz.prog w 0 (fun _ => true) held n' 34 [c4] = some y4 := by
    have h0 : DataW.trod enc Tryz.prog w 0 (fun _ => true) held n' 34 (([c0, c1, c2, c3, c4, c5, c6, c7, c8, c9, c10].drop 4).take (Tryz.prog.cellsOf 34)) = some y4 := hf 4 _ rfl
    rw [k 34 (by simp)] at h0
    exact h0
  have g5 : DataW.trod enc Tryz.prog w 0 (fun _ => true) held n' 34 [c5] = some y5 := by
    have h0 : DataW.trod enc Tryz.prog w 0 (fun _ => true) held n' 34 (([c0, c1, c2, c3, c4, c5, c6, c7, c8, c9, c10].drop 5).take (Tryz.prog.cellsOf 34)) = some y5 := hf 5 _ rfl
    rw [k 34 (by simp)] at h0
    exact h0
  have g6 : DataW.trod enc Tryz.prog w 0 (fun _ => true) held n' 35 [c6] = some y6 := by
    have h0 : DataW.trod enc Tryz.prog w 0 (fun _ => true) held n' 35 (([c0, c1, c2, c3, c4, c5, c6, c7, c8, c9, c10].drop 6).take (Tryz.prog.cellsOf 35)) = some y6 := hf 6 _ rfl
    rw [k 35 (by simp)] at h0
    exact h0
  have g7 : DataW.trod enc Tryz.prog w 0 (fun _ => true) held n' 4 [c7] = some y7 := by
    have h0 : DataW.trod enc Tryz.prog w 0 (fun _ => true) held n' 4 (([c0, c1, c2, c3, c4, c5, c6, c7, c8, c9, c10].drop 7).take (Tryz.prog.cellsOf 4)) = some y7 := hf 7 _ rfl
    rw [k 4 (by simp)] at h0
    exact h0
  have g8 : DataW.trod enc Tryz.prog w 0 (fun _ => true) held n' 4 [c8] = some y8 := by
    have h0 : DataW.trod enc Tryz.prog w 0 (fun _ => true) held n' 4 (([c0, c1, c2, c3, c4, c5, c6, c7, c8, c9, c10].drop 8).take (Tryz.prog.cellsOf 4)) = some y8 := hf 8 _ rfl
    rw [k 4 (by simp)] at h0
    exact h0
  have g9 : DataW.trod enc Tryz.prog w 0 (fun _ => true) held n' 36 [c9] = some y9 := by
    have h0 : DataW.trod enc Tryz.prog w 0 (fun _ => true) held n' 36 (([c0, c1, c2, c3, c4, c5, c6, c7, c8, c9, c10].drop 9).take (Tryz.prog.cellsOf 36)) = some y9 := hf 9 _ rfl
    rw [k 36 (by simp)] at h0
    exact h0
  have g10 : DataW.trod enc Tryz.prog w 0 (fun _ => true) held n' 9 [c10] = some y10 := by
    have h0 : DataW.trod enc Tryz.prog w 0 (fun _ => true) held n' 9 (([c0, c1, c2, c3, c4, c5, c6, c7, c8, c9, c10].drop 10).take (Tryz.prog.cellsOf 9)) = some y10 := hf 10 _ rfl
    rw [k 9 (by simp)] at h0
    exact h0
  obtain ⟨v, e0, _, w0⟩ := DataW.trod_int Tryz.underlying3 g0
  obtain ⟨K, kc, ks, rfl, r1, a1, b1, n1, q1⟩ := open_texts g1
  obtain ⟨fl, e2, _, w2⟩ := DataW.trod_int Tryz.underlying34 g2
  obtain ⟨tm, e3, _, w3⟩ := DataW.trod_int Tryz.underlying3 g3
  obtain ⟨tk, e4, _, w4⟩ := DataW.trod_int Tryz.underlying34 g4
  obtain ⟨dl, e5, _, w5⟩ := DataW.trod_int Tryz.underlying34 g5
  obtain ⟨D, dc, ds, rfl, r6, a6, b6, n6⟩ := open_byterow Tryz.underlying35 Tryz.underlying5 (by kernel_rfl) g6
  obtain ⟨nr, e7, _⟩ := DataW.trod_bool Tryz.underlying4 g7
  obtain ⟨lg, e8, _⟩ := DataW.trod_bool Tryz.underlying4 g8
  obtain ⟨M, mc, ms, rfl, r9, a9, b9, n9, q9⟩ := open_flags g9
  obtain ⟨s, e10, k10, _⟩ := DataW.trod_string Tryz.underlying9 g10
  have z6 := bulk_len Tryz.underlying35 g6
  injection e0 with e0; injection e2 with e2; injection e3 with e3; injection e4 with e4; injection e5 with e5; injection e7 with e7; injection e8 with e8; injection e10 with e10
  subst e0 e2 e3 e4 e5 e7 e8 e10
  have p0 := bounds_i64 w0
  have p2 := bounds_u64 w2
  have p3 := bounds_i64 w3
  have p4 := bounds_u64 w4
  have p5 := bounds_u64 w5
  have i2 : ((fl.toNat : Nat) : Int) = fl := Int.toNat_of_nonneg p2.1
  have i4 : ((tk.toNat : Nat) : Int) = tk := Int.toNat_of_nonneg p4.1
  have i5 : ((dl.toNat : Nat) : Int) = dl := Int.toNat_of_nonneg p5.1
  refine ⟨⟨v, ⟨v.toNat, ks, fl.toNat, tm, tk.toNat, dl.toNat, ds, nr, lg, ms, s.data.toList⟩, K, kc, D, dc, M, mc⟩, ?_, fun hb => ?_⟩
  · unfold CmdX.cells
    dsimp only
    rw [i2, i4, i5, ← str_back]
  · simp only [Rows.uptoBulk, Rows.uptoBulkAll, List.map_cons, List.map_nil] at hb
    have t1 : tails ks ≤ Rows.uptoBulk y1.1 := by
      rcases q1 with ⟨rfl, _⟩ | ⟨es, sp, h1, h2, _, h3⟩
      · exact Nat.zero_le _
      · rw [h1, Rows.uptoBulk]; have := bulk_texts h2 h3; omega
    have t9 : tails (ms.map fun f => f.letter :: f.arg) ≤ Rows.uptoBulk y9.1 := by
      rcases q9 with ⟨rfl, _⟩ | ⟨es, sp, h1, h2, _, h3⟩
      · exact Nat.zero_le _
      · rw [h1, Rows.uptoBulk]; have := bulk_flags h2 h3; omega
    have t10 : s.data.toList.length ≤ Rows.uptoBulk y10.1 := by rw [k10, Rows.uptoBulk]; omega
    exact ⟨⟨r1, r6, r9, n1, n6⟩, rfl, p0, a1, a6, a9, n9, ⟨b1, b6, b9⟩, (by show fl.toNat < _; omega), (by show tk.toNat < _; omega), (by show dl.toNat < _; omega), p3, (by show tails ks ≤ _; omega), (by show tails (ms.map fun f => f.letter :: f.arg) ≤ _; omega), (by show ds.length ≤ _; omega), (by show s.data.toList.length ≤ _; omega)⟩

/-- commands that lie in a row -/
structure CmdsAt (w : World) (A : Option Addr) (xs : List CmdX) : Prop where
  row : RowAt w A (xs.flatMap CmdX.cells)
  good : ∀ x ∈ xs, CmdGood w x
theorem CmdsAt.below {w w' : World} {A : Option Addr} {xs : List CmdX} (h : CmdsAt w A xs) (hb : Below w.heap.size w w') : CmdsAt w' A xs := ⟨h.row.below hb, fun x hx => (h.good x hx).below hb⟩
theorem CmdX.cells_length (x : CmdX) : x.cells.length = 11 := rfl
theorem CmdsAt.cell {w : World} {A : Option Addr} {xs : List CmdX} (h : CmdsAt w A xs) {i : Nat} {x : CmdX} (hx : xs[i]? = some x) :
    ∃ g o, A = some ⟨g, o, none⟩ ∧ g < w.heap.size ∧ ∀ (j : Nat) (u : Value), x.cells[j]? = some u → w.cell? ⟨g, o + i * 11 + j, none⟩ = some u := by
  have c0 : (xs.flatMap CmdX.cells)[i * 11 + 0]? = x.cells[0]? := flatMap_get (k := 11) (fun _ _ => rfl) hx (by decide)
  rcases h.row with h0 | ⟨g, o, h1, h2, h3⟩
  · rw [h0] at c0; cases c0
  · refine ⟨g, o, h1, h2, fun j u hu => ?_⟩
    have hj : j < 11 := by have := (List.getElem?_eq_some_iff.1 hu).1; rwa [CmdX.cells_length] at this
    have := flatMap_get (k := 11) (f := CmdX.cells) (fun _ _ => rfl) hx hj
    rw [Nat.add_assoc]
    exact h3 _ _ (by rw [this]; exact hu)

set_option maxRecDepth 100000 in
theorem open_cmds {base : Nat} {v : Value} {d : DataW H} {p : List MemPlace} (hv : Value.okWide Tryz.prog w .any base 22 v) (h : DataW.Trod enc Tryz.prog w 0 (fun _ => true) held 22 v d p) (hw : Rows.uptoBulk d ≤ 1048576) :
    ∃ (A : Option Addr) (cap : Nat) (xs : List CmdX), v = .slice A xs.length cap ∧ CmdsAt w A xs ∧ xs.length ≤ cap ∧ cap ≤ 9223372036854775807 := by
  obtain ⟨fuel, h⟩ := h
  obtain ⟨a0, n0, c0, rfl⟩ := okWide_slice Tryz.underlying22 hv
  replace h : DataW.trod enc Tryz.prog w 0 (fun _ => true) held fuel 22 [.slice a0 n0 c0] = some (d, p) := h
  obtain ⟨A, cap, l, hv', h1, h2, h3, h4, h5⟩ := open_list (k := 11) CmdX.cells (fun X d => Rows.uptoBulk d ≤ 1048576 → CmdGood w X) (by decide) CmdX.cells_length Tryz.underlying22 (by kernel_rfl) (fun n cs x hx hl => open_cmd hx hl) h
  refine ⟨A, cap, l, hv', ⟨h1, fun x hx => ?_⟩, h2, h3⟩
  obtain ⟨i, hi⟩ := List.getElem?_of_mem hx
  rcases h5 with ⟨rfl, _⟩ | ⟨es, sp, hy, _, _, hq⟩
  · cases hx
  · obtain ⟨d', hd', hg⟩ := hq i x hi
    change d = _ at hy
    subst hy
    have := bulk_slice (es := es) (sp := sp)
    exact hg (by have := this.2 d' (List.mem_of_getElem? hd'); omega)
end
end Go.Proofs.YthgfjafnclklpaaGreatDoor

section
namespace Go.Proofs.YthgfjafnclklpaaGreatDoor
open Go.Lib Sp Go.RowKit
theorem own_room3 {w : World} {base : Nat} {e : TypeId} {size n c : Nat} {A : Option Addr} {xs : List Value} (h : w.ownsRow base e size (.slice A n c) n xs) : n ≤ c ∧ c ≤ 9223372036854775807 ∧ (A = none → c = 0) := by
  rcases h.2 with ⟨h1, h2⟩ | ⟨g', cap, cur, h1, _, _, h2, h4, _⟩
  · injection h1 with h0 h3 h4
    exact ⟨by omega, by omega, fun _ => h4⟩
  · injection h1 with h0 _ h3
    subst h3
    exact ⟨h2, by unfold maxLen at h4; exact h4, fun h => by rw [h] at h0; cases h0⟩
theorem range_below {w w' : World} {b o : Nat} {cs : List Value} (h : w.rangeAt b o cs) (hb : Below w.heap.size w w') : w'.rangeAt b o cs := fun j v hv => by
  have := h j v hv
  rw [hb.cell (p := ⟨b, o + j, none⟩) (World.block_lt_of_cell? w _ this)]
  exact this
/-- what Bytes tells of a command that came in -/
def CmdX.out (x : CmdX) : Option Bs := if 1 ≤ x.v ∧ x.v ≤ 24 then bytesV' x.c else none
theorem CmdX.out_some {w : World} {x : CmdX} (h : CmdGood w x) {out : Bs} (ho : x.out = some out) : out = outV x.c ∧ againV x.c = true ∧ 1 ≤ x.c.verb ∧ x.c.verb ≤ 24 ∧ x.c.large = false ∧ x.v = (x.c.verb : Int) := by
  unfold CmdX.out at ho
  split at ho
  · rename_i hv
    unfold bytesV' at ho
    split at ho
    · rename_i hb
      injection ho with ho
      exact ⟨ho.symm, hb.2.2.2, hb.1, hb.2.1, hb.2.2.1, by rw [h.verb]; omega⟩
    · cases ho
  · cases ho

/-- commands that were kept: their bytes, their cells, their ends -/
def backAll (cs : List CmdX) : Bs := (cs.map (·.c)).flatMap outV
def backEnds (cs : List CmdX) : List Value := (List.range cs.length).map fun i => Value.int .i64 (backEnd (cs.map (·.c)) (i + 1))
theorem backAll_snoc (cs : List CmdX) (x : CmdX) : backAll (cs ++ [x]) = backAll cs ++ outV x.c := by simp [backAll]
theorem backEnd_all (cs : List CmdX) : backEnd (cs.map (·.c)) cs.length = (backAll cs).length := by
  unfold backEnd backAll
  rw [List.take_of_length_le (by simp)]
theorem backEnd_old (cs : List CmdX) (x : CmdX) {i : Nat} (h : i ≤ cs.length) : backEnd ((cs ++ [x]).map (·.c)) i = backEnd (cs.map (·.c)) i := by
  unfold backEnd
  rw [List.map_append, List.take_append_of_le_length (by simpa using h)]
theorem backEnds_snoc (cs : List CmdX) (x : CmdX) : backEnds (cs ++ [x]) = backEnds cs ++ [Value.int .i64 (backAll cs ++ outV x.c).length] := by
  unfold backEnds
  rw [List.length_append, List.length_singleton, List.range_succ, List.map_append]
  congr 1
  · refine List.map_congr_left fun i hi => ?_
    rw [backEnd_old cs x (by have := List.mem_range.1 hi; omega)]
  · have := backEnd_all (cs ++ [x])
    rw [List.length_append, List.length_singleton, backAll_snoc] at this
    simp only [List.map_cons, List.map_nil]
    rw [this]
theorem line_small {x : CmdX} {w : World} (h : CmdGood w x) (ha : againV x.c = true) (h1 : 1 ≤ x.c.verb) (h2 : x.c.verb ≤ 24) (hl : x.c.large = false) : (outV x.c).length ≤ 2052 + x.c.data.length := by
  have := ((again_iff h1 h2 hl h.range).1 ha).2.2
  rw [outV_line, List.length_append, List.length_append, List.length_cons]
  have hb : (if (rowBy x.c.verb).block = true then x.c.data ++ [13, 10] else []).length ≤ x.c.data.length + 2 := by split <;> simp
  simp only [List.length_cons, List.length_nil]
  omega

/-- Bytes of a command that came in -/
def BytesEndX (w : World) (x : CmdX) (e : Ending) (w' : World) : Prop := match x.out with
  | some out => BytesOwn w out e w'
  | none => e = .returned (.tuple #[nilRow, .int .i64 7]) ∧ Below w.heap.size w w'
end Go.Proofs.YthgfjafnclklpaaGreatDoor
end
end
