/- Answers, pairs and streams that came in, opened; how much they hold. -/
import Derived.Test.YtnbeeehfapjpdaaGreatDoorQU4
import Derived.Test.YtnbeeehfapjpdaaGreatDoorQOc
import Derived.Test.YtnbeeehfapjpdaaGreatDoorPc
import Derived.Test.YtnbeeehfapjpdaaGreatDoorQKw
namespace Go.Proofs.YtnbeeehfapjpdaaGreatDoor
open Go.ChangeShapes Go.WideShapes Go.ChangeAt Go.RowKit

namespace Sp
/-- how much entries, stats, an answer hold -/
def entSize (l : List EntryV) : Nat := (l.map fun e => e.key.length + e.value.length + 1).sum
def statSize (l : List (Bs × Nat)) : Nat := (l.map fun x => x.1.length + 1).sum
def sizeA (a : AnswerV) : Nat := entSize a.entries + statSize a.stats + a.text.length
theorem digF_len : ∀ r n, (digF r n).length ≤ r
  | 0, _ => Nat.zero_le _
  | r + 1, n => by
    unfold digF
    split
    · simp
    · rw [List.length_append, List.length_singleton]; have := digF_len r (n / 10); omega
theorem digits_len (n : Nat) : (digitsV n).length ≤ 20 := digF_len 20 n
theorem lineR_len1 (a : Bs) : (lineR [a]).length = a.length + 2 := by unfold lineR; simp [List.intercalate, List.intersperse]
theorem lineR_len2 (a b : Bs) : (lineR [a, b]).length = a.length + b.length + 3 := by unfold lineR; simp [List.intercalate, List.intersperse]; omega
theorem lineR_len3 (a b c : Bs) : (lineR [a, b, c]).length = a.length + b.length + c.length + 4 := by unfold lineR; simp [List.intercalate, List.intersperse]; omega
theorem lineR_len4 (a b c d : Bs) : (lineR [a, b, c, d]).length = a.length + b.length + c.length + d.length + 5 := by unfold lineR; simp [List.intercalate, List.intersperse]; omega
theorem lineR_len5 (a b c d e : Bs) : (lineR [a, b, c, d, e]).length = a.length + b.length + c.length + d.length + e.length + 6 := by unfold lineR; simp [List.intercalate, List.intersperse]; omega
theorem entryW_len (v : Int) (e : EntryV) : (entryW v e).length ≤ 100 * (e.key.length + e.value.length + 1) := by
  unfold entryW
  have h1 := digits_len e.flags
  have h2 := digits_len e.value.length
  have h3 := digits_len e.token
  have h4 : valueV.length = 5 := rfl
  split
  · have := lineR_len5 valueV e.key (digitsV e.flags) (digitsV e.value.length) (digitsV e.token)
    simp only [List.cons_append, List.nil_append, List.length_append, List.length_cons, List.length_nil] at this ⊢
    omega
  · have := lineR_len4 valueV e.key (digitsV e.flags) (digitsV e.value.length)
    simp only [List.append_nil, List.length_append, List.length_cons, List.length_nil] at this ⊢
    omega
theorem entries_len (v : Int) : ∀ l : List EntryV, (l.flatMap (entryW v)).length ≤ 100 * entSize l
  | [] => by simp
  | e :: l => by
    rw [List.flatMap_cons, List.length_append]
    have h1 := entryW_len v e
    have h2 := entries_len v l
    have h3 : entSize (e :: l) = (e.key.length + e.value.length + 1) + entSize l := by simp [entSize]
    omega
theorem stats_len : ∀ l : List (Bs × Nat), (l.flatMap fun x => lineR [statV, x.1, digitsV x.2]).length ≤ 100 * statSize l
  | [] => by simp
  | e :: l => by
    rw [List.flatMap_cons, List.length_append]
    have h1 := lineR_len3 statV e.1 (digitsV e.2)
    have h2 := stats_len l
    have h3 : statSize (e :: l) = (e.1.length + 1) + statSize l := by simp [statSize]
    have h4 := digits_len e.2
    have h5 : statV.length = 4 := rfl
    omega
theorem blocks_len : ∀ l : List EntryV, (l.flatMap fun e => e.value ++ [13, 10]).length ≤ 100 * entSize l
  | [] => by simp
  | e :: l => by
    rw [List.flatMap_cons, List.length_append]
    have h2 := blocks_len l
    have h3 : entSize (e :: l) = (e.key.length + e.value.length + 1) + entSize l := by simp [entSize]
    simp only [List.length_append, List.length_cons, List.length_nil]
    omega
theorem fixedV_len (k : Int) : (fixedV k).length ≤ 20 := by
  unfold fixedV
  repeat' (first | (split) | decide)
theorem answerW_len (v : Int) (a : AnswerV) : (answerW v a).length ≤ 100 * sizeA a + 100 := by
  have h1 := entries_len v a.entries
  have h2 := stats_len a.stats
  have h3 := blocks_len a.entries
  have h4 := digits_len a.number
  have h5 := fixedV_len a.kind
  have e1 := lineR_len1 endV
  have e2 := lineR_len1 (digitsV a.number)
  have e3 := lineR_len2 versionV a.text
  have e4 := lineR_len1 a.text
  have e5 := lineR_len1 (fixedV a.kind)
  have l1 : endV.length = 3 := rfl
  have l2 : versionV.length = 7 := rfl
  have hs : sizeA a = entSize a.entries + statSize a.stats + a.text.length := rfl
  unfold answerW
  repeat' split
  all_goals (first | omega | (simp only [List.length_append]; omega))
theorem entSize_le : ∀ l : List EntryV, l.length ≤ entSize l
  | [] => Nat.zero_le _
  | e :: l => by
    have h2 := entSize_le l
    have h3 : entSize (e :: l) = (e.key.length + e.value.length + 1) + entSize l := by simp [entSize]
    rw [List.length_cons]; omega
theorem entSize_mem : ∀ {l : List EntryV} {e : EntryV}, e ∈ l → e.key.length + e.value.length + 1 ≤ entSize l
  | x :: l, e, h => by
    have h3 : entSize (x :: l) = (x.key.length + x.value.length + 1) + entSize l := by simp [entSize]
    rcases List.mem_cons.1 h with rfl | h
    · omega
    · have := entSize_mem h; omega
theorem statSize_le : ∀ l : List (Bs × Nat), l.length ≤ statSize l
  | [] => Nat.zero_le _
  | e :: l => by
    have h2 := statSize_le l
    have h3 : statSize (e :: l) = (e.1.length + 1) + statSize l := by simp [statSize]
    rw [List.length_cons]; omega
theorem statSize_mem : ∀ {l : List (Bs × Nat)} {e : Bs × Nat}, e ∈ l → e.1.length + 1 ≤ statSize l
  | x :: l, e, h => by
    have h3 : statSize (x :: l) = (x.1.length + 1) + statSize l := by simp [statSize]
    rcases List.mem_cons.1 h with rfl | h
    · omega
    · have := statSize_mem h; omega
end Sp

/-- an answer that came in, small -/
structure AnsGood (w : World) (x : AnsX) : Prop where
  mem : AnsIn w x
  size : Sp.sizeA x.v ≤ 1048576
theorem AnsGood.below {w w' : World} {x : AnsX} (h : AnsGood w x) (hb : Below w.heap.size w w') : AnsGood w' x := ⟨h.mem.below hb, h.size⟩
theorem AnsGood.big {w : World} {x : AnsX} (h : AnsGood w x) (v : Int) : (Sp.answerW v x.v).length ≤ 200000000 := by
  have := Sp.answerW_len v x.v
  have := h.size
  omega

section
variable {H : Type} {enc : TypeId × Value → H} {w : World} {held : Bool}
theorem list9 {α : Type} {l : List α} (h : l.length = 9) : ∃ a0 a1 a2 a3 a4 a5 a6 a7 a8, l = [a0, a1, a2, a3, a4, a5, a6, a7, a8] := by
  match l, h with
  | [a0, a1, a2, a3, a4, a5, a6, a7, a8], _ => exact ⟨_, _, _, _, _, _, _, _, _, rfl⟩
theorem list5 {α : Type} {l : List α} (h : l.length = 5) : ∃ a0 a1 a2 a3 a4, l = [a0, a1, a2, a3, a4] := by
  match l, h with
  | [a0, a1, a2, a3, a4], _ => exact ⟨_, _, _, _, _, rfl⟩
theorem list16 {α : Type} {l : List α} (h : l.length = 16) : ∃ a0 a1 a2 a3 a4 a5 a6 a7 a8 a9 a10 a11 a12 a13 a14 a15, l = [a0, a1, a2, a3, a4, a5, a6, a7, a8, a9, a10, a11, a12, a13, a14, a15] := by
  match l, h with
  | [a0, a1, a2, a3, a4, a5, a6, a7, a8, a9, a10, a11, a12, a13, a14, a15], _ => exact ⟨_, _, _, _, _, _, _, _, _, _, _, _, _, _, _, _, rfl⟩
theorem list18 {α : Type} {l : List α} (h : l.length = 18) : ∃ a0 a1 a2 a3 a4 a5 a6 a7 a8 a9 a10 a11 a12 a13 a14 a15 a16 a17, l = [a0, a1, a2, a3, a4, a5, a6, a7, a8, a9, a10, a11, a12, a13, a14, a15, a16, a17] := by
  match l, h with
  | [a0, a1, a2, a3, a4, a5, a6, a7, a8, a9, a10, a11, a12, a13, a14, a15, a16, a17], _ => exact ⟨_, _, _, _, _, _, _, _, _, _, _, _, _, _, _, _, _, _, rfl⟩
theorem bulk_sum {α : Type} {f : α → Nat} : ∀ {l : List α} {es : List (DataW H)}, es.length = l.length → (∀ (i : Nat) (a : α), l[i]? = some a → ∃ d : DataW H, es[i]? = some d ∧ f a ≤ Rows.uptoBulk d) → (l.map f).sum ≤ Rows.uptoBulkAll es
  | [], _, _, _ => Nat.zero_le _
  | x :: t, [], h, _ => by cases h
  | x :: t, d :: es, h, hx => by
    obtain ⟨d', h1, h2⟩ := hx 0 x rfl
    have e : d = d' := Option.some.inj h1
    subst e
    have := bulk_sum (f := f) (l := t) (es := es) (by simpa using h) (fun i y hy => by simpa using hx (i + 1) y (by simpa using hy))
    rw [List.map_cons, List.sum_cons, Rows.uptoBulkAll]; omega

set_option maxRecDepth 100000 in
/-- a stat that came in -/
theorem open_stat {n : Nat} {cs : List Value} {x : DataW H × List MemPlace} (h : DataW.trod enc Tryz.prog w 0 (fun _ => true) held n 90 cs = some x) (hl : cs.length = 2) :
    ∃ X : Sp.Bs × Nat, cs = [str X.1, .int .u64 X.2] ∧ X.2 ≤ 18446744073709551615 ∧ X.1.length + 1 ≤ Rows.uptoBulk x.1 := by
  obtain ⟨y0, y1, n', rfl, _, g0, g1⟩ := trod_struct2 Tryz.underlying90 h
  match cs, hl with
  | [c0, c1], _ =>
    have e0 : Tryz.prog.cellsOf 9 = 1 := by kernel_rfl
    have e1 : Tryz.prog.cellsOf 28 = 1 := by kernel_rfl
    simp only [e0, e1, List.drop_zero, List.drop_succ_cons, List.take_succ_cons, List.take_zero] at g0 g1
    obtain ⟨s, k0, q0, _⟩ := DataW.trod_string Tryz.underlying9 g0
    obtain ⟨z, k1, _, w1⟩ := DataW.trod_int Tryz.underlying28 g1
    injection k0 with k0; injection k1 with k1
    subst k0 k1
    have p1 := bounds_u64 w1
    have i1 : ((z.toNat : Nat) : Int) = z := Int.toNat_of_nonneg p1.1
    refine ⟨(s.data.toList, z.toNat), ?_, (by show z.toNat ≤ _; omega), ?_⟩
    · dsimp only; rw [i1, ← str_back]
    · simp only [Rows.uptoBulk, Rows.uptoBulkAll]
      rw [q0, Rows.uptoBulk]
      show s.data.toList.length + 1 ≤ _
      omega

set_option maxHeartbeats 2000000 in
set_option maxRecDepth 100000 in
/-- an entry that came in -/
theorem open_ent {n : Nat} {cs : List Value} {x : DataW H × List MemPlace} (h : DataW.trod enc Tryz.prog w 0 (fun _ => true) held n 86 cs = some x) (hl : cs.length = 9) :
    ∃ X : EntX, cs = X.cells ∧ (RowAt w X.B (bytesV X.e.value) ∧ X.e.value.length ≤ X.c ∧ (X.B = none → X.c = 0) ∧ X.e.flags ≤ 18446744073709551615 ∧ X.e.token ≤ 18446744073709551615) ∧ X.e.key.length + X.e.value.length + 1 ≤ Rows.uptoBulk x.1 := by
  obtain ⟨xs, n', _, rfl, _, hxl, hf⟩ := DataW.trod_struct Tryz.underlying86 h
  obtain ⟨c0, c1, c2, c3, c4, c5, c6, c7, c8, rfl⟩ := list9 hl
  obtain ⟨y0, y1, y2, y3, y4, y5, y6, y7, y8, rfl⟩ := list9 hxl
  have g0 : DataW.trod enc Tryz.prog w 0 (fun _ => true) held n' 9 [c0] = some y0 := by
    have h0 : DataW.trod enc Tryz.prog w 0 (fun _ => true) held n' 9 (([c0, c1, c2, c3, c4, c5, c6, c7, c8].drop 0).take (Tryz.prog.cellsOf 9)) = some y0 := hf 0 _ rfl
    rw [show Tryz.prog.cellsOf 9 = 1 by kernel_rfl] at h0
    exact h0
  have g1 : DataW.trod enc Tryz.prog w 0 (fun _ => true) held n' 29 [c1] = some y1 := by
    have h0 : DataW.trod enc Tryz.prog w 0 (fun _ => true) held n' 29 (([c0, c1, c2, c3, c4, c5, c6, c7, c8].drop 1).take (Tryz.prog.cellsOf 29)) = some y1 := hf 1 _ rfl
    rw [show Tryz.prog.cellsOf 29 = 1 by kernel_rfl] at h0
    exact h0
  have g2 : DataW.trod enc Tryz.prog w 0 (fun _ => true) held n' 28 [c2] = some y2 := by
    have h0 : DataW.trod enc Tryz.prog w 0 (fun _ => true) held n' 28 (([c0, c1, c2, c3, c4, c5, c6, c7, c8].drop 2).take (Tryz.prog.cellsOf 28)) = some y2 := hf 2 _ rfl
    rw [show Tryz.prog.cellsOf 28 = 1 by kernel_rfl] at h0
    exact h0
  have g3 : DataW.trod enc Tryz.prog w 0 (fun _ => true) held n' 3 [c3] = some y3 := by
    have h0 : DataW.trod enc Tryz.prog w 0 (fun _ => true) held n' 3 (([c0, c1, c2, c3, c4, c5, c6, c7, c8].drop 3).take (Tryz.prog.cellsOf 3)) = some y3 := hf 3 _ rfl
    rw [show Tryz.prog.cellsOf 3 = 1 by kernel_rfl] at h0
    exact h0
  have g4 : DataW.trod enc Tryz.prog w 0 (fun _ => true) held n' 28 [c4] = some y4 := by
    have h0 : DataW.trod enc Tryz.prog w 0 (fun _ => true) held n' 28 (([c0, c1, c2, c3, c4, c5, c6, c7, c8].drop 4).take (Tryz.prog.cellsOf 28)) = some y4 := hf 4 _ rfl
    rw [show Tryz.prog.cellsOf 28 = 1 by kernel_rfl] at h0
    exact h0
  have g5 : DataW.trod enc Tryz.prog w 0 (fun _ => true) held n' 3 [c5] = some y5 := by
    have h0 : DataW.trod enc Tryz.prog w 0 (fun _ => true) held n' 3 (([c0, c1, c2, c3, c4, c5, c6, c7, c8].drop 5).take (Tryz.prog.cellsOf 3)) = some y5 := hf 5 _ rfl
    rw [show Tryz.prog.cellsOf 3 = 1 by kernel_rfl] at h0
    exact h0
  have g6 : DataW.trod enc Tryz.prog w 0 (fun _ => true) held n' 4 [c6] = some y6 := by
    have h0 : DataW.trod enc Tryz.prog w 0 (fun _ => true) held n' 4 (([c0, c1, c2, c3, c4, c5, c6, c7, c8].drop 6).take (Tryz.prog.cellsOf 4)) = some y6 := hf 6 _ rfl
    rw [show Tryz.prog.cellsOf 4 = 1 by kernel_rfl] at h0
    exact h0
  have g7 : DataW.trod enc Tryz.prog w 0 (fun _ => true) held n' 4 [c7] = some y7 := by
    have h0 : DataW.trod enc Tryz.prog w 0 (fun _ => true) held n' 4 (([c0, c1, c2, c3, c4, c5, c6, c7, c8].drop 7).take (Tryz.prog.cellsOf 4)) = some y7 := hf 7 _ rfl
    rw [show Tryz.prog.cellsOf 4 = 1 by kernel_rfl] at h0
    exact h0
  have g8 : DataW.trod enc Tryz.prog w 0 (fun _ => true) held n' 4 [c8] = some y8 := by
    have h0 : DataW.trod enc Tryz.prog w 0 (fun _ => true) held n' 4 (([c0, c1, c2, c3, c4, c5, c6, c7, c8].drop 8).take (Tryz.prog.cellsOf 4)) = some y8 := hf 8 _ rfl
    rw [show Tryz.prog.cellsOf 4 = 1 by kernel_rfl] at h0
    exact h0
  obtain ⟨s, e0, k0, _⟩ := DataW.trod_string Tryz.underlying9 g0
  obtain ⟨D, dc, ds, rfl, r1, a1, b1, n1⟩ := open_byterow Tryz.underlying29 Tryz.underlying5 (by kernel_rfl) g1
  obtain ⟨fl, e2, _, w2⟩ := DataW.trod_int Tryz.underlying28 g2
  obtain ⟨tm, e3, _, w3⟩ := DataW.trod_int Tryz.underlying3 g3
  obtain ⟨tk, e4, _, w4⟩ := DataW.trod_int Tryz.underlying28 g4
  obtain ⟨tc, e5, _, w5⟩ := DataW.trod_int Tryz.underlying3 g5
  obtain ⟨b6, e6, _⟩ := DataW.trod_bool Tryz.underlying4 g6
  obtain ⟨b7, e7, _⟩ := DataW.trod_bool Tryz.underlying4 g7
  obtain ⟨b8, e8, _⟩ := DataW.trod_bool Tryz.underlying4 g8
  have z1 := bulk_len Tryz.underlying29 g1
  injection e0 with e0; injection e2 with e2; injection e3 with e3; injection e4 with e4; injection e5 with e5; injection e6 with e6; injection e7 with e7; injection e8 with e8
  subst e0 e2 e3 e4 e5 e6 e7 e8
  have p2 := bounds_u64 w2
  have p4 := bounds_u64 w4
  have i2 : ((fl.toNat : Nat) : Int) = fl := Int.toNat_of_nonneg p2.1
  have i4 : ((tk.toNat : Nat) : Int) = tk := Int.toNat_of_nonneg p4.1
  refine ⟨⟨⟨s.data.toList, ds, fl.toNat, tm, tk.toNat, tc, b6, b7, b8⟩, D, dc⟩, ?_, ⟨r1, a1, n1, (by show fl.toNat ≤ _; omega), (by show tk.toNat ≤ _; omega)⟩, ?_⟩
  · unfold EntX.cells
    dsimp only
    rw [i2, i4, ← str_back]
  · simp only [Rows.uptoBulk, Rows.uptoBulkAll, List.map_cons, List.map_nil]
    have t0 : s.data.toList.length + 1 ≤ Rows.uptoBulk y0.1 := by rw [k0, Rows.uptoBulk]; omega
    show s.data.toList.length + ds.length + 1 ≤ _
    omega

set_option maxHeartbeats 2000000 in
set_option maxRecDepth 100000 in
/-- an answer that came in -/
theorem open_ans {n : Nat} {cs : List Value} {x : DataW H × List MemPlace} (h : DataW.trod enc Tryz.prog w 0 (fun _ => true) held n 36 cs = some x) (hl : cs.length = 5) :
    ∃ X : AnsX, cs = X.cells.toList ∧ Sp.sizeA X.v ≤ Rows.uptoBulk x.1 ∧ (Rows.uptoBulk x.1 ≤ 1048576 → AnsGood w X) := by
  obtain ⟨xs, n', _, rfl, _, hxl, hf⟩ := DataW.trod_struct Tryz.underlying36 h
  obtain ⟨c0, c1, c2, c3, c4, rfl⟩ := list5 hl
  obtain ⟨y0, y1, y2, y3, y4, rfl⟩ := list5 hxl
  have g0 : DataW.trod enc Tryz.prog w 0 (fun _ => true) held n' 3 [c0] = some y0 := by
    have h0 : DataW.trod enc Tryz.prog w 0 (fun _ => true) held n' 3 (([c0, c1, c2, c3, c4].drop 0).take (Tryz.prog.cellsOf 3)) = some y0 := hf 0 _ rfl
    rw [show Tryz.prog.cellsOf 3 = 1 by kernel_rfl] at h0
    exact h0
  have g1 : DataW.trod enc Tryz.prog w 0 (fun _ => true) held n' 33 [c1] = some y1 := by
    have h0 : DataW.trod enc Tryz.prog w 0 (fun _ => true) held n' 33 (([c0, c1, c2, c3, c4].drop 1).take (Tryz.prog.cellsOf 33)) = some y1 := hf 1 _ rfl
    rw [show Tryz.prog.cellsOf 33 = 1 by kernel_rfl] at h0
    exact h0
  have g2 : DataW.trod enc Tryz.prog w 0 (fun _ => true) held n' 28 [c2] = some y2 := by
    have h0 : DataW.trod enc Tryz.prog w 0 (fun _ => true) held n' 28 (([c0, c1, c2, c3, c4].drop 2).take (Tryz.prog.cellsOf 28)) = some y2 := hf 2 _ rfl
    rw [show Tryz.prog.cellsOf 28 = 1 by kernel_rfl] at h0
    exact h0
  have g3 : DataW.trod enc Tryz.prog w 0 (fun _ => true) held n' 9 [c3] = some y3 := by
    have h0 : DataW.trod enc Tryz.prog w 0 (fun _ => true) held n' 9 (([c0, c1, c2, c3, c4].drop 3).take (Tryz.prog.cellsOf 9)) = some y3 := hf 3 _ rfl
    rw [show Tryz.prog.cellsOf 9 = 1 by kernel_rfl] at h0
    exact h0
  have g4 : DataW.trod enc Tryz.prog w 0 (fun _ => true) held n' 34 [c4] = some y4 := by
    have h0 : DataW.trod enc Tryz.prog w 0 (fun _ => true) held n' 34 (([c0, c1, c2, c3, c4].drop 4).take (Tryz.prog.cellsOf 34)) = some y4 := hf 4 _ rfl
    rw [show Tryz.prog.cellsOf 34 = 1 by kernel_rfl] at h0
    exact h0
  obtain ⟨v, e0, _, w0⟩ := DataW.trod_int Tryz.underlying3 g0
  obtain ⟨E, ec, es, rfl, r1, a1, b1, n1, q1⟩ := open_list (k := 9) EntX.cells (fun X d => (RowAt w X.B (bytesV X.e.value) ∧ X.e.value.length ≤ X.c ∧ (X.B = none → X.c = 0) ∧ X.e.flags ≤ 18446744073709551615 ∧ X.e.token ≤ 18446744073709551615) ∧ X.e.key.length + X.e.value.length + 1 ≤ Rows.uptoBulk d) (by decide) (fun _ => rfl) Tryz.underlying33 (by kernel_rfl) (fun n cs x hx hl => open_ent hx hl) g1
  obtain ⟨nu, e2, _, w2⟩ := DataW.trod_int Tryz.underlying28 g2
  obtain ⟨s, e3, k3, _⟩ := DataW.trod_string Tryz.underlying9 g3
  obtain ⟨S, sc, ss, rfl, r4, a4, b4, n4, q4⟩ := open_list (k := 2) (fun X : Sp.Bs × Nat => [str X.1, .int .u64 X.2]) (fun X d => X.2 ≤ 18446744073709551615 ∧ X.1.length + 1 ≤ Rows.uptoBulk d) (by decide) (fun _ => rfl) Tryz.underlying34 (by kernel_rfl) (fun n cs x hx hl => open_stat hx hl) g4
  injection e0 with e0; injection e2 with e2; injection e3 with e3
  subst e0 e2 e3
  have p2 := bounds_u64 w2
  have i2 : ((nu.toNat : Nat) : Int) = nu := Int.toNat_of_nonneg p2.1
  refine ⟨{ kind := v, E := E, ec := ec, xs := es, number := nu.toNat, text := s.data.toList, S := S, sc := sc, stats := ss }, ?_, ?_⟩
  · unfold AnsX.cells
    dsimp only
    rw [i2, ← str_back]
  · simp only [Rows.uptoBulk, Rows.uptoBulkAll, List.map_cons, List.map_nil]
    have t1 : Sp.entSize (es.map (·.e)) ≤ Rows.uptoBulk y1.1 := by
      rcases q1 with ⟨rfl, _⟩ | ⟨ls, sp, h1, h2, _, h3⟩
      · exact Nat.zero_le _
      · rw [h1, Rows.uptoBulk]
        have := bulk_sum (f := fun X : EntX => X.e.key.length + X.e.value.length + 1) h2 (fun i a ha => by obtain ⟨d, q1, _, q2⟩ := h3 i a ha; exact ⟨d, q1, q2⟩)
        unfold Sp.entSize
        rw [List.map_map]
        have e : (es.map ((fun e : Sp.EntryV => e.key.length + e.value.length + 1) ∘ fun X : EntX => X.e)) = es.map fun X : EntX => X.e.key.length + X.e.value.length + 1 := rfl
        rw [e]; omega
    have t4 : Sp.statSize ss ≤ Rows.uptoBulk y4.1 := by
      rcases q4 with ⟨rfl, _⟩ | ⟨ls, sp, h1, h2, _, h3⟩
      · exact Nat.zero_le _
      · rw [h1, Rows.uptoBulk]
        have := bulk_sum (f := fun X : Sp.Bs × Nat => X.1.length + 1) h2 (fun i a ha => by obtain ⟨d, q1, _, q2⟩ := h3 i a ha; exact ⟨d, q1, q2⟩)
        unfold Sp.statSize
        omega
    have t3 : s.data.toList.length ≤ Rows.uptoBulk y3.1 := by rw [k3, Rows.uptoBulk]; omega
    have hes : ∀ X ∈ es, (RowAt w X.B (bytesV X.e.value) ∧ X.e.value.length ≤ X.c ∧ (X.B = none → X.c = 0) ∧ X.e.flags ≤ 18446744073709551615 ∧ X.e.token ≤ 18446744073709551615) := fun X hX => by
      obtain ⟨i, hi⟩ := List.getElem?_of_mem hX
      rcases q1 with ⟨rfl, _⟩ | ⟨ls, sp, h1, h2, _, h3⟩
      · cases hX
      · obtain ⟨d, _, q, _⟩ := h3 i X hi; exact q
    have hss : ∀ X ∈ ss, X.2 ≤ 18446744073709551615 := fun X hX => by
      obtain ⟨i, hi⟩ := List.getElem?_of_mem hX
      rcases q4 with ⟨rfl, _⟩ | ⟨ls, sp, h1, h2, _, h3⟩
      · cases hX
      · obtain ⟨d, _, q, _⟩ := h3 i X hi; exact q
    have u1 := Sp.entSize_le (es.map (·.e))
    rw [List.length_map] at u1
    have u4 := Sp.statSize_le ss
    refine ⟨by show Sp.entSize (es.map (·.e)) + Sp.statSize ss + s.data.toList.length ≤ _; omega, fun hb => ?_⟩
    have hb0 := hb
    refine ⟨⟨⟨r1, fun X hX => ?_⟩, r4, ⟨by show es.length ≤ _; omega, by show ss.length ≤ _; omega⟩, by show s.data.toList.length ≤ _; omega, by show nu.toNat ≤ _; omega, fun y hy => ?_⟩, ?_⟩
    · obtain ⟨z1, z2, z3, z4, z5⟩ := hes X hX
      have h9 : X.e.key.length + X.e.value.length + 1 ≤ Sp.entSize (es.map (·.e)) := Sp.entSize_mem (List.mem_map_of_mem (f := fun X : EntX => X.e) hX)
      exact ⟨z1, z2, z3, by omega, by omega, z4, z5⟩
    · have h9 : y.1.length + 1 ≤ Sp.statSize ss := Sp.statSize_mem hy
      exact ⟨by omega, hss y hy⟩
    · show Sp.entSize (es.map (·.e)) + Sp.statSize ss + s.data.toList.length ≤ 1048576
      omega

/-- a command and an answer -/
structure PairX where
  C : CmdX
  R : AnsX
def PairX.cells (p : PairX) : List Value := p.C.cells ++ p.R.cells.toList
theorem PairX.cells_length (p : PairX) : p.cells.length = 16 := rfl
structure PairGood (w : World) (p : PairX) : Prop where
  cmd : CmdGood w p.C
  ans : AnsGood w p.R
theorem PairGood.below {w w' : World} {p : PairX} (h : PairGood w p) (hb : Below w.heap.size w w') : PairGood w' p := ⟨h.cmd.below hb, h.ans.below hb⟩

set_option maxHeartbeats 2000000 in
set_option maxRecDepth 100000 in
/-- a command and an answer that came in -/
theorem open_pair {n : Nat} {cs : List Value} {x : DataW H × List MemPlace} (h : DataW.trod enc Tryz.prog w 0 (fun _ => true) held n 38 cs = some x) (hl : cs.length = 16) :
    ∃ X : PairX, cs = X.cells ∧ Sp.sizeA X.R.v ≤ Rows.uptoBulk x.1 ∧ (Rows.uptoBulk x.1 ≤ 1048576 → PairGood w X) := by
  obtain ⟨xs, n', _, rfl, _, hxl, hf⟩ := DataW.trod_struct Tryz.underlying38 h
  obtain ⟨c0, c1, c2, c3, c4, c5, c6, c7, c8, c9, c10, c11, c12, c13, c14, c15, rfl⟩ := list16 hl
  obtain ⟨y0, y1, rfl⟩ : ∃ y0 y1, xs = [y0, y1] := by
    match xs, hxl with
    | [y0, y1], _ => exact ⟨_, _, rfl⟩
  have g0 : DataW.trod enc Tryz.prog w 0 (fun _ => true) held n' 32 [c0, c1, c2, c3, c4, c5, c6, c7, c8, c9, c10] = some y0 := by
    have h0 : DataW.trod enc Tryz.prog w 0 (fun _ => true) held n' 32 (([c0, c1, c2, c3, c4, c5, c6, c7, c8, c9, c10, c11, c12, c13, c14, c15].drop 0).take (Tryz.prog.cellsOf 32)) = some y0 := hf 0 _ rfl
    rw [show Tryz.prog.cellsOf 32 = 11 by kernel_rfl] at h0
    exact h0
  have g1 : DataW.trod enc Tryz.prog w 0 (fun _ => true) held n' 36 [c11, c12, c13, c14, c15] = some y1 := by
    have h0 : DataW.trod enc Tryz.prog w 0 (fun _ => true) held n' 36 (([c0, c1, c2, c3, c4, c5, c6, c7, c8, c9, c10, c11, c12, c13, c14, c15].drop 11).take (Tryz.prog.cellsOf 36)) = some y1 := hf 1 _ rfl
    rw [show Tryz.prog.cellsOf 36 = 5 by kernel_rfl] at h0
    exact h0
  obtain ⟨C, hC, gC⟩ := open_cmd g0 rfl
  obtain ⟨R, hR, gs, gR⟩ := open_ans g1 rfl
  simp only [Rows.uptoBulk, Rows.uptoBulkAll, List.map_cons, List.map_nil]
  refine ⟨⟨C, R⟩, ?_, ?_, fun hb => ⟨gC (by omega), gR (by omega)⟩⟩
  · show _ = C.cells ++ R.cells.toList
    rw [← hC, ← hR]; rfl
  · show Sp.sizeA R.v ≤ _
    omega

/-- a command and bytes -/
structure StreamX where
  C : CmdX
  B : Option Addr
  cap : Nat
  l : Sp.Bs
def StreamX.cells (p : StreamX) : List Value := p.C.cells ++ [.slice p.B p.l.length p.cap]
theorem StreamX.cells_length (p : StreamX) : p.cells.length = 12 := rfl
structure StreamGood (w : World) (p : StreamX) : Prop where
  cmd : CmdGood w p.C
  row : RowAt w p.B (bytesV p.l)
  room : p.l.length ≤ p.cap
  cap : p.cap ≤ 9223372036854775807
  null : p.B = none → p.cap = 0
  few : p.l.length ≤ 1048576
theorem StreamGood.below {w w' : World} {p : StreamX} (h : StreamGood w p) (hb : Below w.heap.size w w') : StreamGood w' p := { h with cmd := h.cmd.below hb, row := h.row.below hb }
/-- a pair, what stands behind, places -/
structure CutX where
  P : PairX
  B : Option Addr
  bc : Nat
  behind : Sp.Bs
  A : Option Addr
  ac : Nat
  ks : List Int
def CutX.cells (p : CutX) : List Value := p.P.cells ++ [.slice p.B p.behind.length p.bc, .slice p.A p.ks.length p.ac]
theorem CutX.cells_length (p : CutX) : p.cells.length = 18 := rfl
structure CutGood (w : World) (p : CutX) : Prop where
  pair : PairGood w p.P
  row : RowAt w p.B (bytesV p.behind)
  room : p.behind.length ≤ p.bc
  few : p.behind.length ≤ 1048576
  null : p.B = none → p.bc = 0
  ks : RowAt w p.A (p.ks.map (Value.int .i64))
  kn : p.ks.length ≤ 1048576
  kb : ∀ x ∈ p.ks, -9223372036854775808 ≤ x ∧ x ≤ 9223372036854775807
set_option maxHeartbeats 2000000 in
set_option maxRecDepth 100000 in
theorem open_cut13 {n : Nat} {cs : List Value} {x : DataW H × List MemPlace} (h : DataW.trod enc Tryz.prog w 0 (fun _ => true) held n 76 cs = some x) (hl : cs.length = 18) :
    ∃ X : CutX, cs = X.cells ∧ (Rows.uptoBulk x.1 ≤ 1048576 → CutGood w X) := by
  obtain ⟨xs, n', _, rfl, _, hxl, hf⟩ := DataW.trod_struct Tryz.underlying76 h
  obtain ⟨c0, c1, c2, c3, c4, c5, c6, c7, c8, c9, c10, c11, c12, c13, c14, c15, c16, c17, rfl⟩ := list18 hl
  obtain ⟨y0, y1, y2, rfl⟩ : ∃ y0 y1 y2, xs = [y0, y1, y2] := by
    match xs, hxl with
    | [y0, y1, y2], _ => exact ⟨_, _, _, rfl⟩
  have g0 : DataW.trod enc Tryz.prog w 0 (fun _ => true) held n' 38 [c0, c1, c2, c3, c4, c5, c6, c7, c8, c9, c10, c11, c12, c13, c14, c15] = some y0 := by
    have h0 : DataW.trod enc Tryz.prog w 0 (fun _ => true) held n' 38 (([c0, c1, c2, c3, c4, c5, c6, c7, c8, c9, c10, c11, c12, c13, c14, c15, c16, c17].drop 0).take (Tryz.prog.cellsOf 38)) = some y0 := hf 0 _ rfl
    rw [show Tryz.prog.cellsOf 38 = 16 by kernel_rfl] at h0
    exact h0
  have g1 : DataW.trod enc Tryz.prog w 0 (fun _ => true) held n' 29 [c16] = some y1 := by
    have h0 : DataW.trod enc Tryz.prog w 0 (fun _ => true) held n' 29 (([c0, c1, c2, c3, c4, c5, c6, c7, c8, c9, c10, c11, c12, c13, c14, c15, c16, c17].drop 16).take (Tryz.prog.cellsOf 29)) = some y1 := hf 1 _ rfl
    rw [show Tryz.prog.cellsOf 29 = 1 by kernel_rfl] at h0
    exact h0
  have g2 : DataW.trod enc Tryz.prog w 0 (fun _ => true) held n' 74 [c17] = some y2 := by
    have h0 : DataW.trod enc Tryz.prog w 0 (fun _ => true) held n' 74 (([c0, c1, c2, c3, c4, c5, c6, c7, c8, c9, c10, c11, c12, c13, c14, c15, c16, c17].drop 17).take (Tryz.prog.cellsOf 74)) = some y2 := hf 2 _ rfl
    rw [show Tryz.prog.cellsOf 74 = 1 by kernel_rfl] at h0
    exact h0
  obtain ⟨P, hP, _, gP⟩ := open_pair g0 rfl
  obtain ⟨D, dc, ds, hD, r1, a1, b1, n1⟩ := open_byterow Tryz.underlying29 Tryz.underlying5 (by kernel_rfl) g1
  obtain ⟨A, ac, ks, hA, r2, a2, b2, n2, q2⟩ := open_introw Tryz.underlying74 Tryz.underlying3 (by kernel_rfl) g2
  rw [hD] at g1
  rw [hA] at g2
  have z1 := bulk_len Tryz.underlying29 g1
  have z2 := bulk_len Tryz.underlying74 g2
  simp only [Rows.uptoBulk, Rows.uptoBulkAll, List.map_cons, List.map_nil]
  refine ⟨⟨P, D, dc, ds, A, ac, ks⟩, ?_, fun hb => ⟨gP (by omega), r1, a1, by show ds.length ≤ _; omega, n1, r2, by show ks.length ≤ _; omega, q2⟩⟩
  show _ = P.cells ++ [.slice D ds.length dc, .slice A ks.length ac]
  rw [← hP, ← hD, ← hA]; rfl
end
end Go.Proofs.YtnbeeehfapjpdaaGreatDoor
