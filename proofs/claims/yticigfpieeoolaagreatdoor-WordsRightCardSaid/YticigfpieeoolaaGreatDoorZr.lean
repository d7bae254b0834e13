/- Walks of WordsRight's helpers: texts, keyed, counted, Eq. Where a step's parts lie. -/
import Derived.Test.YticigfpieeoolaaGreatDoorPw
import Derived.Test.YticigfpieeoolaaGreatDoorZh
import Derived.Test.YticigfpieeoolaaGreatDoorY6
import Derived.Lib.Hide
import Derived.Test.YticigfpieeoolaaGreatDoorW6
import Derived.Deep.QuietTactic
import Derived.BigQuiet
namespace Go.Proofs.YticigfpieeoolaaGreatDoor
attribute [local go_sem ↓] Go.wp_at_zero Go.wp_at_succ
open Go.RowKit

/-- where a step's parts lie, and their room -/
structure CmdLies (w : World) (c : Sp.CmdV) (K : Option Addr) (kc : Nat) (D : Option Addr) (dc : Nat) (M : Option Addr) (mc : Nat) : Prop where
  mem : CmdIn w c K kc D dc M mc
  rk : c.keys.length ≤ kc
  rd : c.data.length ≤ dc
  rm : c.metas.length ≤ mc
  caps : kc ≤ 9223372036854775807 ∧ dc ≤ 9223372036854775807 ∧ mc ≤ 9223372036854775807
theorem CmdLies.below {w w' : World} {c : Sp.CmdV} {K D M : Option Addr} {kc dc mc : Nat} (h : CmdLies w c K kc D dc M mc) (hb : Below w.heap.size w w') : CmdLies w' c K kc D dc M mc :=
  ⟨h.mem.below hb, h.rk, h.rd, h.rm, h.caps⟩
/-- the steps' cells, and where their parts lie -/
def StepsIn (w : World) (ts : List Sp.StepV) (cs : List Value) : Prop :=
  ∀ (j : Nat) (t : Sp.StepV), ts[j]? = some t → ∃ K kc D dc M mc, CmdLies w t.cmd K kc D dc M mc ∧ ∀ (i : Nat) (u : Value), (stepCells t (.slice K t.cmd.keys.length kc) (.slice D t.cmd.data.length dc) (.slice M t.cmd.metas.length mc))[i]? = some u → cs[j * 16 + i]? = some u
theorem StepsMem.in {w : World} : ∀ {ts : List Sp.StepV} {cs : List Value} {bl : List Nat}, StepsMem w ts cs bl → StepsIn w ts cs
  | [], _, _, _ => fun j t ht => by simp at ht
  | t0 :: ts, cs, bl, ⟨kv, dv, mv, cs', bl', h1, h2, h3, h4⟩ => fun j t ht => by
    cases j with
    | zero =>
      simp at ht; subst ht
      have g1 := h3.keys
      have g2 := h3.data
      have g3 := h3.metas
      obtain ⟨K, kc, rfl⟩ := own_form g1
      obtain ⟨D, dc, rfl⟩ := own_form g2
      obtain ⟨M, mc, rfl⟩ := own_form g3
      obtain ⟨a1, a2, a3⟩ := own_room3 g1
      obtain ⟨b1, b2, b3⟩ := own_room3 g2
      obtain ⟨c1, c2, c3⟩ := own_room3 g3
      refine ⟨K, kc, D, dc, M, mc, ⟨⟨RowAt.of_own g1, RowAt.of_own g2, RowAt.of_own g3, a3, b3⟩, a1, b1, c1, a2, b2, c2⟩, fun i u hu => ?_⟩
      rw [h1, Nat.zero_mul, Nat.zero_add, List.getElem?_append_left (List.getElem?_eq_some_iff.1 hu).1]
      exact hu
    | succ j =>
      obtain ⟨K, kc, D, dc, M, mc, e1, e2⟩ := h4.in j t (by simpa using ht)
      refine ⟨K, kc, D, dc, M, mc, e1, fun i u hu => ?_⟩
      have := e2 i u hu
      rw [h1, show (j + 1) * 16 + i = (stepCells t0 kv dv mv).length + (j * 16 + i) by rw [stepCells_length]; omega, List.getElem?_append_right (by omega)]
      simpa using this
theorem StepsIn.below {w w' : World} {ts : List Sp.StepV} {cs : List Value} (h : StepsIn w ts cs) (hb : Below w.heap.size w w') : StepsIn w' ts cs := fun j t ht => by
  obtain ⟨K, kc, D, dc, M, mc, e1, e2⟩ := h j t ht
  exact ⟨K, kc, D, dc, M, mc, e1.below hb, e2⟩

/-- the same bytes? -/
theorem eq_any {w : World} {A B : Option Addr} {ca cb : Nat} {l : Sp.Bs} {n m : Nat} (hn : n = l.length) (hm : m = l.length) (h1 : RowAt w A (bytesV l)) (h2 : RowAt w B (bytesV l)) :
    Calls Tryz.prog 33 #[.slice A n ca, .slice B m cb] w fun e w' => e = .returned (.bool true) ∧ Below w.heap.size w w' := by
  subst hn; subst hm
  have hc1 := run_bytes_str (cap := ca) h1
  have hc2 := run_bytes_str (cap := cb) h2
  have hq : (l == l) = true := by simp
  clear h1 h2
  go_enter Tryz.func33, Tryz.ntmps33
  go_wp2_with fail
  go_ret
  exact ⟨rfl, Below.refl _ _⟩

theorem byte_getD3 (l : Sp.Bs) (m : Nat) (h : m < (⟨l.toArray⟩ : ByteArray).size) : (⟨l.toArray⟩ : ByteArray)[m]'h = l.getD m 0 := by
  rw [List.getD_eq_getElem?_getD, List.getElem?_eq_getElem (by simpa [ByteArray.size] using h)]
  rfl

set_option maxHeartbeats 4000000 in
set_option maxRecDepth 100000 in
theorem keyed_any (l : Sp.Bs) (w : World) (hl : l.length ≤ 4611686018427387904) :
    Calls Tryz.prog 41 #[str l] w fun e w' => e = .returned (.bool (keyV l)) ∧ w = w' := by
  have hsz := str_size l
  have hbad : ∀ k, k < l.length → Sp.keyByte (l.getD k 0) = false → keyV l = false := fun k h1 h2 => keyV_bad h1 h2
  have hend : (∀ c ∈ l.take l.length, Sp.keyByte c = true) → keyV l = (decide (1 ≤ l.length) && decide (l.length ≤ 250)) := fun h => keyV_end h
  generalize keyV l = V at hbad hend
  have HB := Lib.hid hbad
  have HE := Lib.hid hend
  clear hbad hend
  go_enter Tryz.func41, Tryz.ntmps41
  go_wp2
  go_loop [3] (fun i => ∃ k : Nat, k ≤ l.length ∧ i = .int .i64 k ∧ ∀ c ∈ l.take k, Sp.keyByte c = true) (fun i => l.length - (intOf i).toNat)
  case atStart => exact ⟨0, Nat.zero_le _, rfl, fun c h => by simp at h⟩
  case round =>
    obtain ⟨k, hk, rfl, hd⟩ := hrel
    have HD := Lib.hid hd
    clear hd
    by_cases hlt : k < l.length
    · have hby := byte_getD3 l k (by rw [str_size]; exact hlt)
      have hkb := keyByte_is (l.getD k 0)
      obtain ⟨c, hc⟩ : ∃ c, c = l.getD k 0 := ⟨_, rfl⟩
      rw [← hc] at hby hkb
      have HC := Lib.hid hc
      clear hc
      by_cases h1 : (c.toNat : Int) ≤ 32
      · have hv := HB.out k hlt (by rw [← HC.out, hkb, decide_eq_true h1]; rfl)
        subst hv
        clear hkb
        go_wp2
        go_ret
        exact ⟨rfl, rfl⟩
      · have hd1 : decide ((c.toNat : Int) ≤ 32) = false := decide_eq_false h1
        by_cases h2 : (c.toNat : Int) = 127
        · have hv := HB.out k hlt (by rw [← HC.out, hkb, decide_eq_true h2, hd1]; rfl)
          subst hv
          have hd2 : ((c.toNat : Int) == 127) = true := by simp [h2]
          clear hkb h1
          go_wp2
          go_ret
          exact ⟨rfl, rfl⟩
        · have hd2 : ((c.toNat : Int) == 127) = false := by simpa using h2
          have hok : Sp.keyByte (l.getD k 0) = true := by rw [← HC.out, hkb, hd1, decide_eq_false h2]; rfl
          have HOK := Lib.hid hok
          clear hkb h1 h2 hok
          go_wp2
          exact ⟨⟨k + 1, by omega, by go_num, all_snoc HD.out hlt HOK.out⟩, by show l.length - ((k : Int) + 1).toNat < l.length - (k : Int).toNat; omega⟩
    · obtain rfl : k = l.length := by omega
      have hv := HE.out HD.out
      have HV := Lib.hid hv
      clear hv
      by_cases h1 : 1 ≤ l.length
      · have hd1 : decide ((1 : Int) ≤ (l.length : Int)) = true := decide_eq_true (by omega)
        have hd2 : decide ((l.length : Int) ≤ 250) = decide (l.length ≤ 250) := by rw [Bool.eq_iff_iff, decide_eq_true_eq, decide_eq_true_eq]; omega
        have hfin : decide ((l.length : Int) ≤ 250) = V := by rw [HV.out, decide_eq_true h1, Bool.true_and, hd2]
        have HF := Lib.hid hfin
        clear hd2 hfin
        go_wp2
        go_ret
        exact ⟨congrArg (fun b => Ending.returned (.bool b)) HF.out, rfl⟩
      · have hd1 : decide ((1 : Int) ≤ (l.length : Int)) = false := decide_eq_false (by omega)
        have hfin : false = V := by rw [HV.out, decide_eq_false h1, Bool.false_and]
        have HF := Lib.hid hfin
        clear hfin
        go_wp2
        go_ret
        exact ⟨congrArg (fun b => Ending.returned (.bool b)) HF.out, rfl⟩

set_option maxHeartbeats 4000000 in
set_option maxRecDepth 100000 in
theorem counted_any (v n : Nat) (w : World) (h1 : 1 ≤ v) (h2 : v ≤ 24) (h : countedV v n = true) :
    Calls Tryz.prog 40 #[.int .i64 v, .int .i64 n] w fun e w' => e = .returned (.bool true) ∧ w = w' := by
  have hv : v = 1 ∨ v = 2 ∨ v = 3 ∨ v = 4 ∨ v = 5 ∨ v = 6 ∨ v = 7 ∨ v = 8 ∨ v = 9 ∨ v = 10 ∨ v = 11 ∨ v = 12 ∨ v = 13 ∨ v = 14 ∨ v = 15 ∨ v = 16 ∨ v = 17 ∨ v = 18 ∨ v = 19 ∨ v = 20 ∨ v = 21 ∨ v = 22 ∨ v = 23 ∨ v = 24 := by omega
  clear h1 h2
  rcases hv with rfl | rfl | rfl | rfl | rfl | rfl | rfl | rfl | rfl | rfl | rfl | rfl | rfl | rfl | rfl | rfl | rfl | rfl | rfl | rfl | rfl | rfl | rfl | rfl
  · have hn : decide ((n : Int) ≥ 1) = true := decide_eq_true (by have := of_decide_eq_true (show decide (1 ≤ n) = true from h); omega)
    have hn2 : (1 : Int) ≤ (n : Int) := of_decide_eq_true hn
    clear h
    go_enter Tryz.func40, Tryz.ntmps40
    go_wp2_with fail
    go_ret
    exact ⟨rfl, rfl⟩
  · have hn : decide ((n : Int) ≥ 1) = true := decide_eq_true (by have := of_decide_eq_true (show decide (1 ≤ n) = true from h); omega)
    have hn2 : (1 : Int) ≤ (n : Int) := of_decide_eq_true hn
    clear h
    go_enter Tryz.func40, Tryz.ntmps40
    go_wp2_with fail
    go_ret
    exact ⟨rfl, rfl⟩
  · have hn : decide ((n : Int) ≥ 1) = true := decide_eq_true (by have := of_decide_eq_true (show decide (1 ≤ n) = true from h); omega)
    have hn2 : (1 : Int) ≤ (n : Int) := of_decide_eq_true hn
    clear h
    go_enter Tryz.func40, Tryz.ntmps40
    go_wp2_with fail
    go_ret
    exact ⟨rfl, rfl⟩
  · have hn : decide ((n : Int) ≥ 1) = true := decide_eq_true (by have := of_decide_eq_true (show decide (1 ≤ n) = true from h); omega)
    have hn2 : (1 : Int) ≤ (n : Int) := of_decide_eq_true hn
    clear h
    go_enter Tryz.func40, Tryz.ntmps40
    go_wp2_with fail
    go_ret
    exact ⟨rfl, rfl⟩
  · obtain rfl : n = 1 := of_decide_eq_true (show decide (n = 1) = true from h)
    clear h
    go_enter Tryz.func40, Tryz.ntmps40
    go_wp2_with fail
    go_ret
    exact ⟨rfl, rfl⟩
  · obtain rfl : n = 1 := of_decide_eq_true (show decide (n = 1) = true from h)
    clear h
    go_enter Tryz.func40, Tryz.ntmps40
    go_wp2_with fail
    go_ret
    exact ⟨rfl, rfl⟩
  · obtain rfl : n = 1 := of_decide_eq_true (show decide (n = 1) = true from h)
    clear h
    go_enter Tryz.func40, Tryz.ntmps40
    go_wp2_with fail
    go_ret
    exact ⟨rfl, rfl⟩
  · obtain rfl : n = 1 := of_decide_eq_true (show decide (n = 1) = true from h)
    clear h
    go_enter Tryz.func40, Tryz.ntmps40
    go_wp2_with fail
    go_ret
    exact ⟨rfl, rfl⟩
  · obtain rfl : n = 1 := of_decide_eq_true (show decide (n = 1) = true from h)
    clear h
    go_enter Tryz.func40, Tryz.ntmps40
    go_wp2_with fail
    go_ret
    exact ⟨rfl, rfl⟩
  · obtain rfl : n = 1 := of_decide_eq_true (show decide (n = 1) = true from h)
    clear h
    go_enter Tryz.func40, Tryz.ntmps40
    go_wp2_with fail
    go_ret
    exact ⟨rfl, rfl⟩
  · obtain rfl : n = 1 := of_decide_eq_true (show decide (n = 1) = true from h)
    clear h
    go_enter Tryz.func40, Tryz.ntmps40
    go_wp2_with fail
    go_ret
    exact ⟨rfl, rfl⟩
  · obtain rfl : n = 1 := of_decide_eq_true (show decide (n = 1) = true from h)
    clear h
    go_enter Tryz.func40, Tryz.ntmps40
    go_wp2_with fail
    go_ret
    exact ⟨rfl, rfl⟩
  · obtain rfl : n = 1 := of_decide_eq_true (show decide (n = 1) = true from h)
    clear h
    go_enter Tryz.func40, Tryz.ntmps40
    go_wp2_with fail
    go_ret
    exact ⟨rfl, rfl⟩
  · obtain rfl : n = 1 := of_decide_eq_true (show decide (n = 1) = true from h)
    clear h
    go_enter Tryz.func40, Tryz.ntmps40
    go_wp2_with fail
    go_ret
    exact ⟨rfl, rfl⟩
  · obtain rfl : n = 0 := of_decide_eq_true (show decide (n = 0) = true from h)
    clear h
    go_enter Tryz.func40, Tryz.ntmps40
    go_wp2_with fail
    go_ret
    exact ⟨rfl, rfl⟩
  · obtain rfl : n = 0 := of_decide_eq_true (show decide (n = 0) = true from h)
    clear h
    go_enter Tryz.func40, Tryz.ntmps40
    go_wp2_with fail
    go_ret
    exact ⟨rfl, rfl⟩
  · obtain rfl : n = 0 := of_decide_eq_true (show decide (n = 0) = true from h)
    clear h
    go_enter Tryz.func40, Tryz.ntmps40
    go_wp2_with fail
    go_ret
    exact ⟨rfl, rfl⟩
  · obtain rfl : n = 0 := of_decide_eq_true (show decide (n = 0) = true from h)
    clear h
    go_enter Tryz.func40, Tryz.ntmps40
    go_wp2_with fail
    go_ret
    exact ⟨rfl, rfl⟩
  · obtain rfl : n = 0 := of_decide_eq_true (show decide (n = 0) = true from h)
    clear h
    go_enter Tryz.func40, Tryz.ntmps40
    go_wp2_with fail
    go_ret
    exact ⟨rfl, rfl⟩
  · obtain rfl : n = 1 := of_decide_eq_true (show decide (n = 1) = true from h)
    clear h
    go_enter Tryz.func40, Tryz.ntmps40
    go_wp2_with fail
    go_ret
    exact ⟨rfl, rfl⟩
  · obtain rfl : n = 1 := of_decide_eq_true (show decide (n = 1) = true from h)
    clear h
    go_enter Tryz.func40, Tryz.ntmps40
    go_wp2_with fail
    go_ret
    exact ⟨rfl, rfl⟩
  · obtain rfl : n = 1 := of_decide_eq_true (show decide (n = 1) = true from h)
    clear h
    go_enter Tryz.func40, Tryz.ntmps40
    go_wp2_with fail
    go_ret
    exact ⟨rfl, rfl⟩
  · obtain rfl : n = 1 := of_decide_eq_true (show decide (n = 1) = true from h)
    clear h
    go_enter Tryz.func40, Tryz.ntmps40
    go_wp2_with fail
    go_ret
    exact ⟨rfl, rfl⟩
  · obtain rfl : n = 0 := of_decide_eq_true (show decide (n = 0) = true from h)
    clear h
    go_enter Tryz.func40, Tryz.ntmps40
    go_wp2_with fail
    go_ret
    exact ⟨rfl, rfl⟩

theorem texts_cases {t : Sp.WrongV} (h : textsV t = true) : (t.text = [] ∧ t.kind = 1 ∧ t.pass = -1) ∨ (t.text = Sp.tooLong ∧ t.kind = 2 ∧ t.pass = -1) ∨ (t.text = Sp.badChunk ∧ t.kind = 2 ∧ t.pass = -1) ∨
    ((t.text = Sp.badFormat ∨ t.text = Sp.badTime ∨ t.text = Sp.badDelta ∨ t.text = Sp.invalidFlag ∨ t.text = Sp.twiceFlag ∨ t.text = Sp.opaqueLong ∨ t.text = Sp.badToken) ∧ t.kind = 2 ∧ -1 ≤ t.pass ∧ t.pass ≤ 2147483647) := by
  unfold textsV at h
  split at h
  · rename_i h0
    simp only [Bool.and_eq_true, decide_eq_true_eq] at h
    exact .inl ⟨h0, h⟩
  · split at h
    · rename_i h0
      simp only [Bool.and_eq_true, decide_eq_true_eq] at h
      rcases h0 with h0 | h0
      · exact .inr (.inl ⟨h0, h⟩)
      · exact .inr (.inr (.inl ⟨h0, h⟩))
    · split at h
      · rename_i h0
        simp only [Bool.and_eq_true, decide_eq_true_eq] at h
        exact .inr (.inr (.inr ⟨h0, h.1.1, h.1.2, h.2⟩))
      · cases h

set_option maxHeartbeats 8000000 in
set_option maxRecDepth 100000 in
theorem texts_any (t : Sp.WrongV) (w : World) (h : textsV t = true) :
    Calls Tryz.prog 39 #[wrongV t] w fun e w' => e = .returned (.bool true) ∧ Below w.heap.size w w' := by
  obtain ⟨kd, T, ps⟩ := t
  have hc := texts_cases h
  clear h
  dsimp only at hc
  have hbx := Blk.new w 43 (wrongArr ⟨kd, T, ps⟩)
  have v0 : _ = some (Value.int .i64 kd) := hbx.cell 0
  have v1 : _ = some (str T) := hbx.cell 1
  have v2 : _ = some (Value.int .i64 ps) := hbx.cell 2
  have hfin : Below w.heap.size w (w.alloc (.cells (wrongArr ⟨kd, T, ps⟩) 43)) := (Below.refl _ _).alloc (Nat.le_refl _) _
  have HFIN := Lib.hid hfin
  clear hbx hfin
  rcases hc with ⟨hT, rfl, rfl⟩ | ⟨hT, rfl, rfl⟩ | ⟨hT, rfl, rfl⟩ | ⟨hT | hT | hT | hT | hT | hT | hT, rfl, hp1, hp2⟩
  · have q0 : (T == ([] : Sp.Bs)) = true := by rw [hT]; decide
    have q1 : (T == ([108, 105, 110, 101, 32, 116, 111, 111, 32, 108, 111, 110, 103] : Sp.Bs)) = false := by rw [hT]; decide
    have q2 : (T == ([98, 97, 100, 32, 100, 97, 116, 97, 32, 99, 104, 117, 110, 107] : Sp.Bs)) = false := by rw [hT]; decide
    have q3 : (T == ([98, 97, 100, 32, 99, 111, 109, 109, 97, 110, 100, 32, 108, 105, 110, 101, 32, 102, 111, 114, 109, 97, 116] : Sp.Bs)) = false := by rw [hT]; decide
    have q4 : (T == ([105, 110, 118, 97, 108, 105, 100, 32, 101, 120, 112, 116, 105, 109, 101, 32, 97, 114, 103, 117, 109, 101, 110, 116] : Sp.Bs)) = false := by rw [hT]; decide
    have q5 : (T == ([105, 110, 118, 97, 108, 105, 100, 32, 110, 117, 109, 101, 114, 105, 99, 32, 100, 101, 108, 116, 97, 32, 97, 114, 103, 117, 109, 101, 110, 116] : Sp.Bs)) = false := by rw [hT]; decide
    have q6 : (T == ([105, 110, 118, 97, 108, 105, 100, 32, 102, 108, 97, 103] : Sp.Bs)) = false := by rw [hT]; decide
    have q7 : (T == ([100, 117, 112, 108, 105, 99, 97, 116, 101, 32, 102, 108, 97, 103] : Sp.Bs)) = false := by rw [hT]; decide
    have q8 : (T == ([111, 112, 97, 113, 117, 101, 32, 116, 111, 107, 101, 110, 32, 116, 111, 111, 32, 108, 111, 110, 103] : Sp.Bs)) = false := by rw [hT]; decide
    have q9 : (T == ([98, 97, 100, 32, 116, 111, 107, 101, 110, 32, 105, 110, 32, 99, 111, 109, 109, 97, 110, 100, 32, 108, 105, 110, 101, 32, 102, 111, 114, 109, 97, 116] : Sp.Bs)) = false := by rw [hT]; decide
    clear hT
    go_enter Tryz.func39, Tryz.ntmps39
    go_wp2_with fail
    go_ret
    exact ⟨rfl, HFIN.out⟩
  · have q0 : (T == ([] : Sp.Bs)) = false := by rw [hT]; decide
    have q1 : (T == ([108, 105, 110, 101, 32, 116, 111, 111, 32, 108, 111, 110, 103] : Sp.Bs)) = true := by rw [hT]; decide
    have q2 : (T == ([98, 97, 100, 32, 100, 97, 116, 97, 32, 99, 104, 117, 110, 107] : Sp.Bs)) = false := by rw [hT]; decide
    have q3 : (T == ([98, 97, 100, 32, 99, 111, 109, 109, 97, 110, 100, 32, 108, 105, 110, 101, 32, 102, 111, 114, 109, 97, 116] : Sp.Bs)) = false := by rw [hT]; decide
    have q4 : (T == ([105, 110, 118, 97, 108, 105, 100, 32, 101, 120, 112, 116, 105, 109, 101, 32, 97, 114, 103, 117, 109, 101, 110, 116] : Sp.Bs)) = false := by rw [hT]; decide
    have q5 : (T == ([105, 110, 118, 97, 108, 105, 100, 32, 110, 117, 109, 101, 114, 105, 99, 32, 100, 101, 108, 116, 97, 32, 97, 114, 103, 117, 109, 101, 110, 116] : Sp.Bs)) = false := by rw [hT]; decide
    have q6 : (T == ([105, 110, 118, 97, 108, 105, 100, 32, 102, 108, 97, 103] : Sp.Bs)) = false := by rw [hT]; decide
    have q7 : (T == ([100, 117, 112, 108, 105, 99, 97, 116, 101, 32, 102, 108, 97, 103] : Sp.Bs)) = false := by rw [hT]; decide
    have q8 : (T == ([111, 112, 97, 113, 117, 101, 32, 116, 111, 107, 101, 110, 32, 116, 111, 111, 32, 108, 111, 110, 103] : Sp.Bs)) = false := by rw [hT]; decide
    have q9 : (T == ([98, 97, 100, 32, 116, 111, 107, 101, 110, 32, 105, 110, 32, 99, 111, 109, 109, 97, 110, 100, 32, 108, 105, 110, 101, 32, 102, 111, 114, 109, 97, 116] : Sp.Bs)) = false := by rw [hT]; decide
    clear hT
    go_enter Tryz.func39, Tryz.ntmps39
    go_wp2_with fail
    go_ret
    exact ⟨rfl, HFIN.out⟩
  · have q0 : (T == ([] : Sp.Bs)) = false := by rw [hT]; decide
    have q1 : (T == ([108, 105, 110, 101, 32, 116, 111, 111, 32, 108, 111, 110, 103] : Sp.Bs)) = false := by rw [hT]; decide
    have q2 : (T == ([98, 97, 100, 32, 100, 97, 116, 97, 32, 99, 104, 117, 110, 107] : Sp.Bs)) = true := by rw [hT]; decide
    have q3 : (T == ([98, 97, 100, 32, 99, 111, 109, 109, 97, 110, 100, 32, 108, 105, 110, 101, 32, 102, 111, 114, 109, 97, 116] : Sp.Bs)) = false := by rw [hT]; decide
    have q4 : (T == ([105, 110, 118, 97, 108, 105, 100, 32, 101, 120, 112, 116, 105, 109, 101, 32, 97, 114, 103, 117, 109, 101, 110, 116] : Sp.Bs)) = false := by rw [hT]; decide
    have q5 : (T == ([105, 110, 118, 97, 108, 105, 100, 32, 110, 117, 109, 101, 114, 105, 99, 32, 100, 101, 108, 116, 97, 32, 97, 114, 103, 117, 109, 101, 110, 116] : Sp.Bs)) = false := by rw [hT]; decide
    have q6 : (T == ([105, 110, 118, 97, 108, 105, 100, 32, 102, 108, 97, 103] : Sp.Bs)) = false := by rw [hT]; decide
    have q7 : (T == ([100, 117, 112, 108, 105, 99, 97, 116, 101, 32, 102, 108, 97, 103] : Sp.Bs)) = false := by rw [hT]; decide
    have q8 : (T == ([111, 112, 97, 113, 117, 101, 32, 116, 111, 107, 101, 110, 32, 116, 111, 111, 32, 108, 111, 110, 103] : Sp.Bs)) = false := by rw [hT]; decide
    have q9 : (T == ([98, 97, 100, 32, 116, 111, 107, 101, 110, 32, 105, 110, 32, 99, 111, 109, 109, 97, 110, 100, 32, 108, 105, 110, 101, 32, 102, 111, 114, 109, 97, 116] : Sp.Bs)) = false := by rw [hT]; decide
    clear hT
    go_enter Tryz.func39, Tryz.ntmps39
    go_wp2_with fail
    go_ret
    exact ⟨rfl, HFIN.out⟩
  · have q0 : (T == ([] : Sp.Bs)) = false := by rw [hT]; decide
    have q1 : (T == ([108, 105, 110, 101, 32, 116, 111, 111, 32, 108, 111, 110, 103] : Sp.Bs)) = false := by rw [hT]; decide
    have q2 : (T == ([98, 97, 100, 32, 100, 97, 116, 97, 32, 99, 104, 117, 110, 107] : Sp.Bs)) = false := by rw [hT]; decide
    have q3 : (T == ([98, 97, 100, 32, 99, 111, 109, 109, 97, 110, 100, 32, 108, 105, 110, 101, 32, 102, 111, 114, 109, 97, 116] : Sp.Bs)) = true := by rw [hT]; decide
    have q4 : (T == ([105, 110, 118, 97, 108, 105, 100, 32, 101, 120, 112, 116, 105, 109, 101, 32, 97, 114, 103, 117, 109, 101, 110, 116] : Sp.Bs)) = false := by rw [hT]; decide
    have q5 : (T == ([105, 110, 118, 97, 108, 105, 100, 32, 110, 117, 109, 101, 114, 105, 99, 32, 100, 101, 108, 116, 97, 32, 97, 114, 103, 117, 109, 101, 110, 116] : Sp.Bs)) = false := by rw [hT]; decide
    have q6 : (T == ([105, 110, 118, 97, 108, 105, 100, 32, 102, 108, 97, 103] : Sp.Bs)) = false := by rw [hT]; decide
    have q7 : (T == ([100, 117, 112, 108, 105, 99, 97, 116, 101, 32, 102, 108, 97, 103] : Sp.Bs)) = false := by rw [hT]; decide
    have q8 : (T == ([111, 112, 97, 113, 117, 101, 32, 116, 111, 107, 101, 110, 32, 116, 111, 111, 32, 108, 111, 110, 103] : Sp.Bs)) = false := by rw [hT]; decide
    have q9 : (T == ([98, 97, 100, 32, 116, 111, 107, 101, 110, 32, 105, 110, 32, 99, 111, 109, 109, 97, 110, 100, 32, 108, 105, 110, 101, 32, 102, 111, 114, 109, 97, 116] : Sp.Bs)) = false := by rw [hT]; decide
    clear hT
    have hp3 : decide (ps ≥ -1) = true := decide_eq_true hp1
    have hp4 : decide (ps ≤ 2147483647) = true := decide_eq_true hp2
    go_enter Tryz.func39, Tryz.ntmps39
    go_wp2_with fail
    go_ret
    exact ⟨rfl, HFIN.out⟩
  · have q0 : (T == ([] : Sp.Bs)) = false := by rw [hT]; decide
    have q1 : (T == ([108, 105, 110, 101, 32, 116, 111, 111, 32, 108, 111, 110, 103] : Sp.Bs)) = false := by rw [hT]; decide
    have q2 : (T == ([98, 97, 100, 32, 100, 97, 116, 97, 32, 99, 104, 117, 110, 107] : Sp.Bs)) = false := by rw [hT]; decide
    have q3 : (T == ([98, 97, 100, 32, 99, 111, 109, 109, 97, 110, 100, 32, 108, 105, 110, 101, 32, 102, 111, 114, 109, 97, 116] : Sp.Bs)) = false := by rw [hT]; decide
    have q4 : (T == ([105, 110, 118, 97, 108, 105, 100, 32, 101, 120, 112, 116, 105, 109, 101, 32, 97, 114, 103, 117, 109, 101, 110, 116] : Sp.Bs)) = true := by rw [hT]; decide
    have q5 : (T == ([105, 110, 118, 97, 108, 105, 100, 32, 110, 117, 109, 101, 114, 105, 99, 32, 100, 101, 108, 116, 97, 32, 97, 114, 103, 117, 109, 101, 110, 116] : Sp.Bs)) = false := by rw [hT]; decide
    have q6 : (T == ([105, 110, 118, 97, 108, 105, 100, 32, 102, 108, 97, 103] : Sp.Bs)) = false := by rw [hT]; decide
    have q7 : (T == ([100, 117, 112, 108, 105, 99, 97, 116, 101, 32, 102, 108, 97, 103] : Sp.Bs)) = false := by rw [hT]; decide
    have q8 : (T == ([111, 112, 97, 113, 117, 101, 32, 116, 111, 107, 101, 110, 32, 116, 111, 111, 32, 108, 111, 110, 103] : Sp.Bs)) = false := by rw [hT]; decide
    have q9 : (T == ([98, 97, 100, 32, 116, 111, 107, 101, 110, 32, 105, 110, 32, 99, 111, 109, 109, 97, 110, 100, 32, 108, 105, 110, 101, 32, 102, 111, 114, 109, 97, 116] : Sp.Bs)) = false := by rw [hT]; decide
    clear hT
    have hp3 : decide (ps ≥ -1) = true := decide_eq_true hp1
    have hp4 : decide (ps ≤ 2147483647) = true := decide_eq_true hp2
    go_enter Tryz.func39, Tryz.ntmps39
    go_wp2_with fail
    go_ret
    exact ⟨rfl, HFIN.out⟩
  · have q0 : (T == ([] : Sp.Bs)) = false := by rw [hT]; decide
    have q1 : (T == ([108, 105, 110, 101, 32, 116, 111, 111, 32, 108, 111, 110, 103] : Sp.Bs)) = false := by rw [hT]; decide
    have q2 : (T == ([98, 97, 100, 32, 100, 97, 116, 97, 32, 99, 104, 117, 110, 107] : Sp.Bs)) = false := by rw [hT]; decide
    have q3 : (T == ([98, 97, 100, 32, 99, 111, 109, 109, 97, 110, 100, 32, 108, 105, 110, 101, 32, 102, 111, 114, 109, 97, 116] : Sp.Bs)) = false := by rw [hT]; decide
    have q4 : (T == ([105, 110, 118, 97, 108, 105, 100, 32, 101, 120, 112, 116, 105, 109, 101, 32, 97, 114, 103, 117, 109, 101, 110, 116] : Sp.Bs)) = false := by rw [hT]; decide
    have q5 : (T == ([105, 110, 118, 97, 108, 105, 100, 32, 110, 117, 109, 101, 114, 105, 99, 32, 100, 101, 108, 116, 97, 32, 97, 114, 103, 117, 109, 101, 110, 116] : Sp.Bs)) = true := by rw [hT]; decide
    have q6 : (T == ([105, 110, 118, 97, 108, 105, 100, 32, 102, 108, 97, 103] : Sp.Bs)) = false := by rw [hT]; decide
    have q7 : (T == ([100, 117, 112, 108, 105, 99, 97, 116, 101, 32, 102, 108, 97, 103] : Sp.Bs)) = false := by rw [hT]; decide
    have q8 : (T == ([111, 112, 97, 113, 117, 101, 32, 116, 111, 107, 101, 110, 32, 116, 111, 111, 32, 108, 111, 110, 103] : Sp.Bs)) = false := by rw [hT]; decide
    have q9 : (T == ([98, 97, 100, 32, 116, 111, 107, 101, 110, 32, 105, 110, 32, 99, 111, 109, 109, 97, 110, 100, 32, 108, 105, 110, 101, 32, 102, 111, 114, 109, 97, 116] : Sp.Bs)) = false := by rw [hT]; decide
    clear hT
    have hp3 : decide (ps ≥ -1) = true := decide_eq_true hp1
    have hp4 : decide (ps ≤ 2147483647) = true := decide_eq_true hp2
    go_enter Tryz.func39, Tryz.ntmps39
    go_wp2_with fail
    go_ret
    exact ⟨rfl, HFIN.out⟩
  · have q0 : (T == ([] : Sp.Bs)) = false := by rw [hT]; decide
    have q1 : (T == ([108, 105, 110, 101, 32, 116, 111, 111, 32, 108, 111, 110, 103] : Sp.Bs)) = false := by rw [hT]; decide
    have q2 : (T == ([98, 97, 100, 32, 100, 97, 116, 97, 32, 99, 104, 117, 110, 107] : Sp.Bs)) = false := by rw [hT]; decide
    have q3 : (T == ([98, 97, 100, 32, 99, 111, 109, 109, 97, 110, 100, 32, 108, 105, 110, 101, 32, 102, 111, 114, 109, 97, 116] : Sp.Bs)) = false := by rw [hT]; decide
    have q4 : (T == ([105, 110, 118, 97, 108, 105, 100, 32, 101, 120, 112, 116, 105, 109, 101, 32, 97, 114, 103, 117, 109, 101, 110, 116] : Sp.Bs)) = false := by rw [hT]; decide
    have q5 : (T == ([105, 110, 118, 97, 108, 105, 100, 32, 110, 117, 109, 101, 114, 105, 99, 32, 100, 101, 108, 116, 97, 32, 97, 114, 103, 117, 109, 101, 110, 116] : Sp.Bs)) = false := by rw [hT]; decide
    have q6 : (T == ([105, 110, 118, 97, 108, 105, 100, 32, 102, 108, 97, 103] : Sp.Bs)) = true := by rw [hT]; decide
    have q7 : (T == ([100, 117, 112, 108, 105, 99, 97, 116, 101, 32, 102, 108, 97, 103] : Sp.Bs)) = false := by rw [hT]; decide
    have q8 : (T == ([111, 112, 97, 113, 117, 101, 32, 116, 111, 107, 101, 110, 32, 116, 111, 111, 32, 108, 111, 110, 103] : Sp.Bs)) = false := by rw [hT]; decide
    have q9 : (T == ([98, 97, 100, 32, 116, 111, 107, 101, 110, 32, 105, 110, 32, 99, 111, 109, 109, 97, 110, 100, 32, 108, 105, 110, 101, 32, 102, 111, 114, 109, 97, 116] : Sp.Bs)) = false := by rw [hT]; decide
    clear hT
    have hp3 : decide (ps ≥ -1) = true := decide_eq_true hp1
    have hp4 : decide (ps ≤ 2147483647) = true := decide_eq_true hp2
    go_enter Tryz.func39, Tryz.ntmps39
    go_wp2_with fail
    go_ret
    exact ⟨rfl, HFIN.out⟩
  · have q0 : (T == ([] : Sp.Bs)) = false := by rw [hT]; decide
    have q1 : (T == ([108, 105, 110, 101, 32, 116, 111, 111, 32, 108, 111, 110, 103] : Sp.Bs)) = false := by rw [hT]; decide
    have q2 : (T == ([98, 97, 100, 32, 100, 97, 116, 97, 32, 99, 104, 117, 110, 107] : Sp.Bs)) = false := by rw [hT]; decide
    have q3 : (T == ([98, 97, 100, 32, 99, 111, 109, 109, 97, 110, 100, 32, 108, 105, 110, 101, 32, 102, 111, 114, 109, 97, 116] : Sp.Bs)) = false := by rw [hT]; decide
    have q4 : (T == ([105, 110, 118, 97, 108, 105, 100, 32, 101, 120, 112, 116, 105, 109, 101, 32, 97, 114, 103, 117, 109, 101, 110, 116] : Sp.Bs)) = false := by rw [hT]; decide
    have q5 : (T == ([105, 110, 118, 97, 108, 105, 100, 32, 110, 117, 109, 101, 114, 105, 99, 32, 100, 101, 108, 116, 97, 32, 97, 114, 103, 117, 109, 101, 110, 116] : Sp.Bs)) = false := by rw [hT]; decide
    have q6 : (T == ([105, 110, 118, 97, 108, 105, 100, 32, 102, 108, 97, 103] : Sp.Bs)) = false := by rw [hT]; decide
    have q7 : (T == ([100, 117, 112, 108, 105, 99, 97, 116, 101, 32, 102, 108, 97, 103] : Sp.Bs)) = true := by rw [hT]; decide
    have q8 : (T == ([111, 112, 97, 113, 117, 101, 32, 116, 111, 107, 101, 110, 32, 116, 111, 111, 32, 108, 111, 110, 103] : Sp.Bs)) = false := by rw [hT]; decide
    have q9 : (T == ([98, 97, 100, 32, 116, 111, 107, 101, 110, 32, 105, 110, 32, 99, 111, 109, 109, 97, 110, 100, 32, 108, 105, 110, 101, 32, 102, 111, 114, 109, 97, 116] : Sp.Bs)) = false := by rw [hT]; decide
    clear hT
    have hp3 : decide (ps ≥ -1) = true := decide_eq_true hp1
    have hp4 : decide (ps ≤ 2147483647) = true := decide_eq_true hp2
    go_enter Tryz.func39, Tryz.ntmps39
    go_wp2_with fail
    go_ret
    exact ⟨rfl, HFIN.out⟩
  · have q0 : (T == ([] : Sp.Bs)) = false := by rw [hT]; decide
    have q1 : (T == ([108, 105, 110, 101, 32, 116, 111, 111, 32, 108, 111, 110, 103] : Sp.Bs)) = false := by rw [hT]; decide
    have q2 : (T == ([98, 97, 100, 32, 100, 97, 116, 97, 32, 99, 104, 117, 110, 107] : Sp.Bs)) = false := by rw [hT]; decide
    have q3 : (T == ([98, 97, 100, 32, 99, 111, 109, 109, 97, 110, 100, 32, 108, 105, 110, 101, 32, 102, 111, 114, 109, 97, 116] : Sp.Bs)) = false := by rw [hT]; decide
    have q4 : (T == ([105, 110, 118, 97, 108, 105, 100, 32, 101, 120, 112, 116, 105, 109, 101, 32, 97, 114, 103, 117, 109, 101, 110, 116] : Sp.Bs)) = false := by rw [hT]; decide
    have q5 : (T == ([105, 110, 118, 97, 108, 105, 100, 32, 110, 117, 109, 101, 114, 105, 99, 32, 100, 101, 108, 116, 97, 32, 97, 114, 103, 117, 109, 101, 110, 116] : Sp.Bs)) = false := by rw [hT]; decide
    have q6 : (T == ([105, 110, 118, 97, 108, 105, 100, 32, 102, 108, 97, 103] : Sp.Bs)) = false := by rw [hT]; decide
    have q7 : (T == ([100, 117, 112, 108, 105, 99, 97, 116, 101, 32, 102, 108, 97, 103] : Sp.Bs)) = false := by rw [hT]; decide
    have q8 : (T == ([111, 112, 97, 113, 117, 101, 32, 116, 111, 107, 101, 110, 32, 116, 111, 111, 32, 108, 111, 110, 103] : Sp.Bs)) = true := by rw [hT]; decide
    have q9 : (T == ([98, 97, 100, 32, 116, 111, 107, 101, 110, 32, 105, 110, 32, 99, 111, 109, 109, 97, 110, 100, 32, 108, 105, 110, 101, 32, 102, 111, 114, 109, 97, 116] : Sp.Bs)) = false := by rw [hT]; decide
    clear hT
    have hp3 : decide (ps ≥ -1) = true := decide_eq_true hp1
    have hp4 : decide (ps ≤ 2147483647) = true := decide_eq_true hp2
    go_enter Tryz.func39, Tryz.ntmps39
    go_wp2_with fail
    go_ret
    exact ⟨rfl, HFIN.out⟩
  · have q0 : (T == ([] : Sp.Bs)) = false := by rw [hT]; decide
    have q1 : (T == ([108, 105, 110, 101, 32, 116, 111, 111, 32, 108, 111, 110, 103] : Sp.Bs)) = false := by rw [hT]; decide
    have q2 : (T == ([98, 97, 100, 32, 100, 97, 116, 97, 32, 99, 104, 117, 110, 107] : Sp.Bs)) = false := by rw [hT]; decide
    have q3 : (T == ([98, 97, 100, 32, 99, 111, 109, 109, 97, 110, 100, 32, 108, 105, 110, 101, 32, 102, 111, 114, 109, 97, 116] : Sp.Bs)) = false := by rw [hT]; decide
    have q4 : (T == ([105, 110, 118, 97, 108, 105, 100, 32, 101, 120, 112, 116, 105, 109, 101, 32, 97, 114, 103, 117, 109, 101, 110, 116] : Sp.Bs)) = false := by rw [hT]; decide
    have q5 : (T == ([105, 110, 118, 97, 108, 105, 100, 32, 110, 117, 109, 101, 114, 105, 99, 32, 100, 101, 108, 116, 97, 32, 97, 114, 103, 117, 109, 101, 110, 116] : Sp.Bs)) = false := by rw [hT]; decide
    have q6 : (T == ([105, 110, 118, 97, 108, 105, 100, 32, 102, 108, 97, 103] : Sp.Bs)) = false := by rw [hT]; decide
    have q7 : (T == ([100, 117, 112, 108, 105, 99, 97, 116, 101, 32, 102, 108, 97, 103] : Sp.Bs)) = false := by rw [hT]; decide
    have q8 : (T == ([111, 112, 97, 113, 117, 101, 32, 116, 111, 107, 101, 110, 32, 116, 111, 111, 32, 108, 111, 110, 103] : Sp.Bs)) = false := by rw [hT]; decide
    have q9 : (T == ([98, 97, 100, 32, 116, 111, 107, 101, 110, 32, 105, 110, 32, 99, 111, 109, 109, 97, 110, 100, 32, 108, 105, 110, 101, 32, 102, 111, 114, 109, 97, 116] : Sp.Bs)) = true := by rw [hT]; decide
    clear hT
    have hp3 : decide (ps ≥ -1) = true := decide_eq_true hp1
    have hp4 : decide (ps ≤ 2147483647) = true := decide_eq_true hp2
    go_enter Tryz.func39, Tryz.ntmps39
    go_wp2_with fail
    go_ret
    exact ⟨rfl, HFIN.out⟩
end Go.Proofs.YticigfpieeoolaaGreatDoor
