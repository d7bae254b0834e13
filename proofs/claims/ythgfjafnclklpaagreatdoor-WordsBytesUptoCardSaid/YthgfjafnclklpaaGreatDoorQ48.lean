/- Walks of the document's reading of lines: digits, the verbs' rows and words. Walk of the document's Signed. Walk of the document's fields of a shape. Walk of the document's line of a command. -/
import Derived.Test.YthgfjafnclklpaaGreatDoorR3
import Derived.Test.YthgfjafnclklpaaGreatDoorG1
import Derived.Test.YthgfjafnclklpaaGreatDoorPj
import Derived.Deep.CutRange
import Derived.Deep.DeepCutAuto
import Derived.Test.YthgfjafnclklpaaGreatDoorOc
section
section
namespace Go.Proofs.YthgfjafnclklpaaGreatDoor
attribute [local go_sem ↓] Go.wp_at_zero Go.wp_at_succ
open Go.RowKit

def spelledArr : Array Value := #[Value.string ⟨#[103, 101, 116]⟩, Value.string ⟨#[103, 101, 116, 115]⟩, Value.string ⟨#[103, 97, 116]⟩, Value.string ⟨#[103, 97, 116, 115]⟩, Value.string ⟨#[115, 101, 116]⟩, Value.string ⟨#[97, 100, 100]⟩, Value.string ⟨#[114, 101, 112, 108, 97, 99, 101]⟩, Value.string ⟨#[97, 112, 112, 101, 110, 100]⟩, Value.string ⟨#[112, 114, 101, 112, 101, 110, 100]⟩, Value.string ⟨#[99, 97, 115]⟩, Value.string ⟨#[100, 101, 108, 101, 116, 101]⟩, Value.string ⟨#[105, 110, 99, 114]⟩, Value.string ⟨#[100, 101, 99, 114]⟩, Value.string ⟨#[116, 111, 117, 99, 104]⟩, Value.string ⟨#[102, 108, 117, 115, 104, 95, 97, 108, 108]⟩, Value.string ⟨#[118, 101, 114, 115, 105, 111, 110]⟩, Value.string ⟨#[118, 101, 114, 98, 111, 115, 105, 116, 121]⟩, Value.string ⟨#[113, 117, 105, 116]⟩, Value.string ⟨#[115, 116, 97, 116, 115]⟩, Value.string ⟨#[109, 103]⟩, Value.string ⟨#[109, 115]⟩, Value.string ⟨#[109, 100]⟩, Value.string ⟨#[109, 97]⟩, Value.string ⟨#[109, 110]⟩]
theorem spelled_at : ∀ v : Fin 24, spelledArr[v.val]? = some (str (wordBy (v.val + 1))) := by
  intro v
  have h : v = 0 ∨ v = 1 ∨ v = 2 ∨ v = 3 ∨ v = 4 ∨ v = 5 ∨ v = 6 ∨ v = 7 ∨ v = 8 ∨ v = 9 ∨ v = 10 ∨ v = 11 ∨ v = 12 ∨ v = 13 ∨ v = 14 ∨ v = 15 ∨ v = 16 ∨ v = 17 ∨ v = 18 ∨ v = 19 ∨ v = 20 ∨ v = 21 ∨ v = 22 ∨ v = 23 := by omega
  rcases h with rfl | rfl | rfl | rfl | rfl | rfl | rfl | rfl | rfl | rfl | rfl | rfl | rfl | rfl | rfl | rfl | rfl | rfl | rfl | rfl | rfl | rfl | rfl | rfl <;> rfl
set_option maxRecDepth 100000 in
theorem run_store_spelled (w : World) (z : Array Value) (hz : z.size = 24) :
    (storeVar 180 ⟨w.heap.size, 0, none⟩ (.agg #[Value.string ⟨#[103, 101, 116]⟩, Value.string ⟨#[103, 101, 116, 115]⟩, Value.string ⟨#[103, 97, 116]⟩, Value.string ⟨#[103, 97, 116, 115]⟩, Value.string ⟨#[115, 101, 116]⟩, Value.string ⟨#[97, 100, 100]⟩, Value.string ⟨#[114, 101, 112, 108, 97, 99, 101]⟩, Value.string ⟨#[97, 112, 112, 101, 110, 100]⟩, Value.string ⟨#[112, 114, 101, 112, 101, 110, 100]⟩, Value.string ⟨#[99, 97, 115]⟩, Value.string ⟨#[100, 101, 108, 101, 116, 101]⟩, Value.string ⟨#[105, 110, 99, 114]⟩, Value.string ⟨#[100, 101, 99, 114]⟩, Value.string ⟨#[116, 111, 117, 99, 104]⟩, Value.string ⟨#[102, 108, 117, 115, 104, 95, 97, 108, 108]⟩, Value.string ⟨#[118, 101, 114, 115, 105, 111, 110]⟩, Value.string ⟨#[118, 101, 114, 98, 111, 115, 105, 116, 121]⟩, Value.string ⟨#[113, 117, 105, 116]⟩, Value.string ⟨#[115, 116, 97, 116, 115]⟩, Value.string ⟨#[109, 103]⟩, Value.string ⟨#[109, 115]⟩, Value.string ⟨#[109, 100]⟩, Value.string ⟨#[109, 97]⟩, Value.string ⟨#[109, 110]⟩])).run Tryz.prog (w.alloc (.cells z 180)) = .ok () (w.alloc (.cells #[Value.string ⟨#[103, 101, 116]⟩, Value.string ⟨#[103, 101, 116, 115]⟩, Value.string ⟨#[103, 97, 116]⟩, Value.string ⟨#[103, 97, 116, 115]⟩, Value.string ⟨#[115, 101, 116]⟩, Value.string ⟨#[97, 100, 100]⟩, Value.string ⟨#[114, 101, 112, 108, 97, 99, 101]⟩, Value.string ⟨#[97, 112, 112, 101, 110, 100]⟩, Value.string ⟨#[112, 114, 101, 112, 101, 110, 100]⟩, Value.string ⟨#[99, 97, 115]⟩, Value.string ⟨#[100, 101, 108, 101, 116, 101]⟩, Value.string ⟨#[105, 110, 99, 114]⟩, Value.string ⟨#[100, 101, 99, 114]⟩, Value.string ⟨#[116, 111, 117, 99, 104]⟩, Value.string ⟨#[102, 108, 117, 115, 104, 95, 97, 108, 108]⟩, Value.string ⟨#[118, 101, 114, 115, 105, 111, 110]⟩, Value.string ⟨#[118, 101, 114, 98, 111, 115, 105, 116, 121]⟩, Value.string ⟨#[113, 117, 105, 116]⟩, Value.string ⟨#[115, 116, 97, 116, 115]⟩, Value.string ⟨#[109, 103]⟩, Value.string ⟨#[109, 115]⟩, Value.string ⟨#[109, 100]⟩, Value.string ⟨#[109, 97]⟩, Value.string ⟨#[109, 110]⟩] 180)) :=
  run_storeVar_new w _ _ _ (by kernel_rfl) hz (by simp [Value.oneCell'])

section
attribute [-go_sem] storeVar
attribute [local go_sem] run_store_spelled
set_option maxHeartbeats 4000000 in
set_option maxRecDepth 100000 in
theorem refSpelled_any (v : Nat) (w : World) (h1 : 1 ≤ v) (h2 : v ≤ 24) :
    Calls Tryz.prog 80 #[.int .i64 v] w fun e w' => e = .returned (str (wordBy v)) ∧ Below w.heap.size w w' := by
  have hb0 : Below w.heap.size w (w.alloc (.cells spelledArr 180)) := (Below.refl _ _).alloc (Nat.le_refl _) _
  have hbl := Blk.new w 180 spelledArr
  generalize hR : (fun (e : Ending) (w' : World) => e = .returned (str (wordBy v)) ∧ Below w.heap.size w w') = R
  have HR := Lib.hid hR
  have HBL := Lib.hid hbl
  have HB0 := Lib.hid hb0
  clear hR hbl hb0
  go_enter Tryz.func80, Tryz.ntmps80
  go_upto_region 1 with (fail)
  go_cut [3] (fun p wx => p = .pointer (some ⟨w.heap.size, 0, none⟩) ∧ Blk wx w.heap.size 180 spelledArr ∧ Below w.heap.size w wx)
  case first =>
    go_wp2_with fail
    go_meet
    exact ⟨rfl, HBL.out, HB0.out⟩
  case rest =>
    obtain ⟨rfl, hbl, hb⟩ := hcut
    obtain ⟨n, rfl⟩ : ∃ n, v = n + 1 := ⟨v - 1, by omega⟩
    have x := (hbl.cell n).trans (spelled_at ⟨n, by omega⟩)
    have HB := Lib.hid hb
    have hs : ((n + 1 : Nat) : Int) - 1 = (n : Int) := by omega
    have h0 : (0 : Int) ≤ (n : Int) := by omega
    have h24 : (n : Int) < 24 := by omega
    clear hbl hb
    go_wp2_with fail
    rw [← HR.out]
    exact ⟨rfl, HB.out⟩
end

/-- what the document's RowOf tells -/
abbrev refRow (v : Nat) (r : Sp.RowV) : Value := .agg #[.int .i64 v, str (zeds r.places), .int .i64 r.least, .bool r.more, .bool r.noreply, .bool r.block]
theorem refRowOf_one (v : Nat) (w : World) (h : v = 1 ∨ v = 2 ∨ v = 3 ∨ v = 4 ∨ v = 5 ∨ v = 6 ∨ v = 7 ∨ v = 8) :
    Calls Tryz.prog 41 #[.int .i64 v] w fun e w' => e = .returned (refRow v (rowBy v)) ∧ Below w.heap.size w w' := by
  rcases h with rfl | rfl | rfl | rfl | rfl | rfl | rfl | rfl
  all_goals
    go_enter Tryz.func41, Tryz.ntmps41
    go_wp2
    refine ⟨rfl, _, results_cell_row (P := Tryz.prog) (p := 2) (ty := 86) (by kernel_rfl) _ _ w.heap.size 86 _ _ _ rfl (heap_alloc_new _ _) Tryz.underlying86 rfl (by kernel_rfl), ?_⟩
    exact ⟨rfl, (Below.refl _ _).alloc (Nat.le_refl _) _⟩
theorem refRowOf_two (v : Nat) (w : World) (h : v = 9 ∨ v = 10 ∨ v = 11 ∨ v = 12 ∨ v = 13 ∨ v = 14 ∨ v = 15 ∨ v = 16) :
    Calls Tryz.prog 41 #[.int .i64 v] w fun e w' => e = .returned (refRow v (rowBy v)) ∧ Below w.heap.size w w' := by
  rcases h with rfl | rfl | rfl | rfl | rfl | rfl | rfl | rfl
  all_goals
    go_enter Tryz.func41, Tryz.ntmps41
    go_wp2
    refine ⟨rfl, _, results_cell_row (P := Tryz.prog) (p := 2) (ty := 86) (by kernel_rfl) _ _ w.heap.size 86 _ _ _ rfl (heap_alloc_new _ _) Tryz.underlying86 rfl (by kernel_rfl), ?_⟩
    exact ⟨rfl, (Below.refl _ _).alloc (Nat.le_refl _) _⟩
theorem refRowOf_three (v : Nat) (w : World) (h : v = 17 ∨ v = 18 ∨ v = 19 ∨ v = 20 ∨ v = 21 ∨ v = 22 ∨ v = 23 ∨ v = 24) :
    Calls Tryz.prog 41 #[.int .i64 v] w fun e w' => e = .returned (refRow v (rowBy v)) ∧ Below w.heap.size w w' := by
  rcases h with rfl | rfl | rfl | rfl | rfl | rfl | rfl | rfl
  all_goals
    go_enter Tryz.func41, Tryz.ntmps41
    go_wp2
    refine ⟨rfl, _, results_cell_row (P := Tryz.prog) (p := 2) (ty := 86) (by kernel_rfl) _ _ w.heap.size 86 _ _ _ rfl (heap_alloc_new _ _) Tryz.underlying86 rfl (by kernel_rfl), ?_⟩
    exact ⟨rfl, (Below.refl _ _).alloc (Nat.le_refl _) _⟩
theorem refRowOf_any (v : Nat) (w : World) (h1 : 1 ≤ v) (h2 : v ≤ 24) : Calls Tryz.prog 41 #[.int .i64 v] w fun e w' => e = .returned (refRow v (rowBy v)) ∧ Below w.heap.size w w' := by
  rcases Nat.lt_or_ge v 9 with h | h
  · exact refRowOf_one v w (by omega)
  · rcases Nat.lt_or_ge v 17 with h' | h'
    · exact refRowOf_two v w (by omega)
    · exact refRowOf_three v w (by omega)

theorem dec_length {u : Nat} (h : u < 18446744073709551616) : (Lib.decDigits u).length ≤ 20 := by
  rw [Lib.decDigits_length]
  exact nDigits_le 20 u (by decide) (by have : (10 : Nat) ^ 20 = 100000000000000000000 := by decide
                                        omega)
set_option maxHeartbeats 4000000 in
set_option maxRecDepth 100000 in
theorem refDigits_any : ∀ (n : Nat) (w : World), n < 18446744073709551616 →
    Calls Tryz.prog 66 #[.int .u64 n] w fun e w' => e = .returned (str (Lib.decDigits n)) ∧ Below w.heap.size w w' := by
  intro n
  induction n using Nat.strongRecOn with
  | _ n ih =>
    intro w hn
    by_cases h : n < 10
    · have hd := Lib.decDigits_one h
      rw [hd]
      have hx := dec_digit n h
      obtain ⟨x, hxe⟩ : ∃ x : UInt8, x = UInt8.ofNat (48 + n) := ⟨_, rfl⟩
      rw [← hxe] at hx ⊢
      have hcv : (convert 35 9 (.slice (some ⟨w.heap.size, 0, none⟩) 1 1)).run Tryz.prog (w.alloc (.cells #[.int .u8 (48 + (n : Int))] 5)) = .ok (str [x]) (w.alloc (.cells #[.int .u8 (48 + (n : Int))] 5)) := by
        have hb := Blk.new w 5 #[.int .u8 (48 + (n : Int))]
        have := run_convert_bytes_back (P := Tryz.prog) (w.alloc (.cells #[.int .u8 (48 + (n : Int))] 5)) 35 9 5 ⟨w.heap.size, 0, none⟩ 1 [x] Tryz.underlying35 Tryz.underlying5 Tryz.underlying9 (fun i hi => by
          obtain rfl : i = 0 := by simpa using hi
          show (w.alloc (.cells #[.int .u8 (48 + (n : Int))] 5)).cell? ⟨w.heap.size, 0, none⟩ = some (.int .u8 ((x.toNat : Nat) : Int))
          rw [show ((x.toNat : Nat) : Int) = 48 + (n : Int) by omega]
          exact hb.cell 0)
        exact this
      have hg : decide ((10 : Int) ≤ (n : Int)) = false := decide_eq_false (by omega)
      have hB : Below w.heap.size w (w.alloc (.cells #[.int .u8 (48 + (n : Int))] 5)) := (Below.refl _ _).alloc (Nat.le_refl _) _
      have HB := Lib.hid hB
      clear hB hd hxe ih
      go_enter Tryz.func66, Tryz.ntmps66
      go_wp2_with fail
      go_ret
      exact ⟨rfl, HB.out⟩
    · have hd : Lib.decDigits n = Lib.decDigits (n / 10) ++ Lib.decDigits (n % 10) := by
        rw [Lib.decDigits, dif_neg h, Lib.decDigits_one (by omega : n % 10 < 10)]
      have h1 := fun W : World => ih (n / 10) (by omega) W (by omega)
      have h2 := fun W : World => ih (n % 10) (by omega) W (by omega)
      have e1 : ((n / 10 : Nat) : Int) = (n : Int) / 10 := by omega
      have e2 : ((n % 10 : Nat) : Int) = (n : Int) % 10 := by omega
      rw [e1] at h1
      rw [e2] at h2
      rw [hd]
      have l1 : (Lib.decDigits (n / 10)).length ≤ 20 := by
        rw [Lib.decDigits_length]
        exact nDigits_le 20 _ (by decide) (by have : (10 : Nat) ^ 20 = 100000000000000000000 := by decide
                                              omega)
      have l2 : (Lib.decDigits (n % 10)).length ≤ 20 := by
        rw [Lib.decDigits_length]
        exact nDigits_le 20 _ (by decide) (by have : (10 : Nat) ^ 20 = 100000000000000000000 := by decide
                                              omega)
      generalize Lib.decDigits (n / 10) = d1 at h1 l1 ⊢
      generalize Lib.decDigits (n % 10) = d2 at h2 l2 ⊢
      have hap : (({ data := d1.toArray } : ByteArray) ++ { data := d2.toArray }) = ⟨(d1 ++ d2).toArray⟩ := by
        apply ByteArray.ext
        simp
      have hg : decide ((10 : Int) ≤ (n : Int)) = true := decide_eq_true (by omega)
      have H1 := Lib.hid h1
      have H2 := Lib.hid h2
      clear h1 h2 hd e1 e2 ih
      go_enter Tryz.func66, Tryz.ntmps66
      go_wp2_with fail
      refine (H1.out _).mono ?_
      rintro e w1 ⟨rfl, hb1⟩
      have HB1 := Lib.hid hb1
      clear hb1
      go_wp2_with fail
      refine (H2.out _).mono ?_
      rintro e w2 ⟨rfl, hb2⟩
      have HB2 := Lib.hid hb2
      clear hb2
      go_wp2_with fail
      go_ret
      exact ⟨by show Ending.returned (Value.string (({ data := d1.toArray } : ByteArray) ++ { data := d2.toArray })) = _; rw [hap], HB1.out.trans (HB2.out.mono HB1.out.size)⟩

end Go.Proofs.YthgfjafnclklpaaGreatDoor
end
section
namespace Go.Proofs.YthgfjafnclklpaaGreatDoor
attribute [local go_sem ↓] Go.wp_at_zero Go.wp_at_succ
open Go.RowKit

set_option maxHeartbeats 4000000 in
set_option maxRecDepth 100000 in
theorem refSigned_any (e : Int) (w : World) (h : -9223372036854775808 ≤ e ∧ e ≤ 9223372036854775807) :
    Calls Tryz.prog 81 #[.int .i64 e] w fun en w' => en = .returned (str (Lib.itoa e)) ∧ Below w.heap.size w w' := by
  unfold Lib.itoa
  by_cases he : e < 0
  · rw [if_pos he]
    have h1 := fun W : World => refDigits_any e.natAbs W (by omega)
    have hl := dec_length (u := e.natAbs) (by omega)
    have e1 : ((e.natAbs : Nat) : Int) = -e := by omega
    rw [e1] at h1
    generalize Lib.decDigits e.natAbs = d at h1 hl ⊢
    have hap : (({ data := #[45] } : ByteArray) ++ { data := d.toArray }) = ⟨(45 :: d).toArray⟩ := by
      apply ByteArray.ext
      simp
    have w1 : IntKind.u64.wrap e = e + 18446744073709551616 := by
      rw [IntKind.wrap_u64]; omega
    have w2 : IntKind.u64.wrap (-(e + 18446744073709551616)) = -e := by
      rw [IntKind.wrap_u64]; omega
    have H1 := Lib.hid h1
    clear h1 e1
    go_enter Tryz.func81, Tryz.ntmps81
    go_wp2_with (go_at_call 66; refine (H1.out _).mono ?_; rintro en w3 ⟨rfl, hb1⟩; have HB1 := Lib.hid hb1; clear hb1)
    go_ret
    exact ⟨by show Ending.returned (Value.string (({ data := #[45] } : ByteArray) ++ { data := d.toArray })) = _; rw [hap], HB1.out⟩
  · rw [if_neg he]
    have h1 := fun W : World => refDigits_any e.toNat W (by omega)
    have e1 : ((e.toNat : Nat) : Int) = e := by omega
    rw [e1] at h1
    have hg : decide (e < 0) = false := decide_eq_false he
    have w1 : IntKind.u64.wrap e = e := by
      rw [IntKind.wrap_u64]; omega
    have H1 := Lib.hid h1
    clear h1 e1
    go_enter Tryz.func81, Tryz.ntmps81
    go_wp2_with (go_at_call 66; refine (H1.out _).mono ?_; rintro en w3 ⟨rfl, hb1⟩; have HB1 := Lib.hid hb1; clear hb1)
    go_ret
    exact ⟨rfl, HB1.out⟩
end Go.Proofs.YthgfjafnclklpaaGreatDoor
end
end
section
section
namespace Go.Proofs.YthgfjafnclklpaaGreatDoor
attribute [local go_sem ↓] Go.wp_at_zero Go.wp_at_succ
open Go.RowKit

/-- which fields a shape has -/
def hasArr (ps : Sp.Bs) : Array Value := #[.bool (ps.contains 75), .bool (ps.contains 70), .bool (ps.contains 84 || ps.contains 83), .bool (ps.contains 67), .bool (ps.contains 68), .bool (ps.contains 71)]
theorem take_contains {ps : Sp.Bs} {k : Nat} {y : UInt8} (h : ps[k]? = some y) (c : UInt8) : (ps.take (k + 1)).contains c = ((ps.take k).contains c || c == y) := by
  rw [List.take_add_one, h, Bool.eq_iff_iff, List.contains_iff_mem, Bool.or_eq_true, List.contains_iff_mem, List.mem_append, beq_iff_eq]
  simp
theorem hasArr_other {ps : Sp.Bs} {k : Nat} {y : UInt8} (h : ps[k]? = some y) (h1 : y = 78 ∨ y = 86 ∨ y = 87 ∨ y = 48) : hasArr (ps.take (k + 1)) = hasArr (ps.take k) := by
  unfold hasArr
  simp only [take_contains h]
  rcases h1 with rfl | rfl | rfl | rfl <;> simp
theorem hasArr_set {ps : Sp.Bs} {k : Nat} {y : UInt8} (h : ps[k]? = some y) {j : Nat} (h1 : (y = 75 ∧ j = 0) ∨ (y = 70 ∧ j = 1) ∨ (y = 84 ∧ j = 2) ∨ (y = 83 ∧ j = 2) ∨ (y = 67 ∧ j = 3) ∨ (y = 68 ∧ j = 4) ∨ (y = 71 ∧ j = 5)) :
    hasArr (ps.take (k + 1)) = (hasArr (ps.take k)).setIfInBounds j (.bool true) := by
  unfold hasArr
  simp only [take_contains h]
  rcases h1 with ⟨rfl, rfl⟩ | ⟨rfl, rfl⟩ | ⟨rfl, rfl⟩ | ⟨rfl, rfl⟩ | ⟨rfl, rfl⟩ | ⟨rfl, rfl⟩ | ⟨rfl, rfl⟩ <;> simp

set_option maxHeartbeats 8000000 in
set_option maxRecDepth 100000 in
theorem refFields_any {ps : Sp.Bs} (hlet : ∀ k ∈ ps, k = 75 ∨ k = 70 ∨ k = 84 ∨ k = 78 ∨ k = 67 ∨ k = 68 ∨ k = 86 ∨ k = 87 ∨ k = 71 ∨ k = 83 ∨ k = 48) (hl : ps.length ≤ 5) (w : World) :
    Calls Tryz.prog 77 #[str (zeds ps)] w fun e w' => e = .returned (.agg (hasArr ps)) ∧ Below w.heap.size w w' := by
  generalize hR : (fun (e : Ending) (w' : World) => e = .returned (.agg (hasArr ps)) ∧ Below w.heap.size w w') = R
  have hb0 : Below w.heap.size w (w.alloc (.cells (hasArr []) 124)) := (Below.refl _ _).alloc (Nat.le_refl _) _
  have hb1 := hb0.alloc (by simp) (.cells (hasArr []) 124)
  have hk0 := (Blk.new w 124 (hasArr [])).alloc (.cells (hasArr []) 124)
  have hk1 := Blk.new (w.alloc (.cells (hasArr []) 124)) 124 (hasArr [])
  rw [show (w.alloc (.cells (hasArr []) 124)).heap.size = w.heap.size + 1 by simp] at hk1
  have hsz : (⟨(zeds ps).toArray⟩ : ByteArray).size = ps.length := by rw [str_size, zeds_length]
  have HR := Lib.hid hR
  have HB := Lib.hid hb1
  have HK0 := Lib.hid hk0
  have HK1 := Lib.hid hk1
  have HL := Lib.hid hlet
  clear hR hb0 hb1 hk0 hk1 hlet
  go_enter Tryz.func77, Tryz.ntmps77
  go_wp2_with fail
  go_loopw [4] (fun iv wr => ∃ k : Nat, k ≤ ps.length ∧ iv = .int .i64 k ∧ Blk wr w.heap.size 124 (hasArr []) ∧ Blk wr (w.heap.size + 1) 124 (hasArr (ps.take k)) ∧ Below w.heap.size w wr) (fun iv _ => ps.length - (intOf iv).toNat)
  case atStart => exact ⟨0, Nat.zero_le _, rfl, HK0.out, HK1.out, HB.out⟩
  case round =>
    obtain ⟨k, hk, rfl, hr0, hr1, hb⟩ := hrel
    by_cases hlt : k < ps.length
    · obtain ⟨y, hy⟩ : ∃ y, ps[k]? = some y := ⟨ps[k]'hlt, List.getElem?_eq_getElem _⟩
      have hby : (⟨(zeds ps).toArray⟩ : ByteArray)[k]'(by rw [hsz]; exact hlt) = zed y := by
        rw [byte_getD']
        unfold zeds
        rw [List.getD_eq_getElem?_getD, List.getElem?_map, hy]
        rfl
      have hlt2 := HL.out y (List.mem_of_getElem? hy)
      have y0 : wr.cell? ⟨w.heap.size + 1, 0, none⟩ = some (.bool ((ps.take k).contains 75)) := hr1.cell 0
      have y1 : wr.cell? ⟨w.heap.size + 1, 1, none⟩ = some (.bool ((ps.take k).contains 70)) := hr1.cell 1
      have y2 : wr.cell? ⟨w.heap.size + 1, 2, none⟩ = some (.bool ((ps.take k).contains 84 || (ps.take k).contains 83)) := hr1.cell 2
      have y3 : wr.cell? ⟨w.heap.size + 1, 3, none⟩ = some (.bool ((ps.take k).contains 67)) := hr1.cell 3
      have y4 : wr.cell? ⟨w.heap.size + 1, 4, none⟩ = some (.bool ((ps.take k).contains 68)) := hr1.cell 4
      have y5 : wr.cell? ⟨w.heap.size + 1, 5, none⟩ = some (.bool ((ps.take k).contains 71)) := hr1.cell 5
      have f0 := hr1.frozen 0
      have f1 := hr1.frozen 1
      have f2 := hr1.frozen 2
      have f3 := hr1.frozen 3
      have f4 := hr1.frozen 4
      have f5 := hr1.frozen 5
      generalize (ps.take k).contains 75 = c0 at y0
      generalize (ps.take k).contains 70 = c1 at y1
      generalize ((ps.take k).contains 84 || (ps.take k).contains 83) = c2 at y2
      generalize (ps.take k).contains 67 = c3 at y3
      generalize (ps.take k).contains 68 = c4 at y4
      generalize (ps.take k).contains 71 = c5 at y5
      have hno : (y = 78 ∨ y = 86 ∨ y = 87 ∨ y = 48) → Blk wr (w.heap.size + 1) 124 (hasArr (ps.take (k + 1))) := fun h => by rw [hasArr_other hy h]; exact hr1
      have hyes : ∀ j : Nat, ((y = 75 ∧ j = 0) ∨ (y = 70 ∧ j = 1) ∨ (y = 84 ∧ j = 2) ∨ (y = 83 ∧ j = 2) ∨ (y = 67 ∧ j = 3) ∨ (y = 68 ∧ j = 4) ∨ (y = 71 ∧ j = 5)) →
          Blk (wr.setCell ⟨w.heap.size + 1, j, none⟩ (.bool true)) (w.heap.size + 1) 124 (hasArr (ps.take (k + 1))) := fun j h => by rw [hasArr_set hy h]; exact hr1.put j _
      have hr0' : ∀ j : Nat, Blk (wr.setCell ⟨w.heap.size + 1, j, none⟩ (.bool true)) w.heap.size 124 (hasArr []) := fun j => hr0.far (by show w.heap.size ≠ w.heap.size + 1; omega) _
      have hb' : ∀ j : Nat, Below w.heap.size w (wr.setCell ⟨w.heap.size + 1, j, none⟩ (.bool true)) := fun j => hb.setCell (by show w.heap.size ≤ w.heap.size + 1; omega) _
      have hme : ps.length - ((k : Int) + 1).toNat < ps.length - (k : Int).toNat := by omega
      have HNO := Lib.hid hno
      have HYES := Lib.hid hyes
      have HR0 := Lib.hid hr0
      have HR0' := Lib.hid hr0'
      have HBR := Lib.hid hb
      have HB' := Lib.hid hb'
      have HME := Lib.hid hme
      clear hno hyes hr0 hr0' hb hb' hr1 hme hy
      rcases hlt2 with rfl | rfl | rfl | rfl | rfl | rfl | rfl | rfl | rfl | rfl | rfl
      · replace hby : (⟨(zeds ps).toArray⟩ : ByteArray)[k]'(by rw [hsz]; exact hlt) = 75 := hby
        go_wp2_with fail
        exact ⟨⟨k + 1, by omega, by go_num, HR0'.out 0, HYES.out 0 (by decide), HB'.out 0⟩, HME.out⟩
      · replace hby : (⟨(zeds ps).toArray⟩ : ByteArray)[k]'(by rw [hsz]; exact hlt) = 70 := hby
        go_wp2_with fail
        exact ⟨⟨k + 1, by omega, by go_num, HR0'.out 1, HYES.out 1 (by decide), HB'.out 1⟩, HME.out⟩
      · replace hby : (⟨(zeds ps).toArray⟩ : ByteArray)[k]'(by rw [hsz]; exact hlt) = 84 := hby
        go_wp2_with fail
        exact ⟨⟨k + 1, by omega, by go_num, HR0'.out 2, HYES.out 2 (by decide), HB'.out 2⟩, HME.out⟩
      · replace hby : (⟨(zeds ps).toArray⟩ : ByteArray)[k]'(by rw [hsz]; exact hlt) = 78 := hby
        go_wp2_with fail
        exact ⟨⟨k + 1, by omega, by go_num, HR0.out, HNO.out (by decide), HBR.out⟩, HME.out⟩
      · replace hby : (⟨(zeds ps).toArray⟩ : ByteArray)[k]'(by rw [hsz]; exact hlt) = 67 := hby
        go_wp2_with fail
        exact ⟨⟨k + 1, by omega, by go_num, HR0'.out 3, HYES.out 3 (by decide), HB'.out 3⟩, HME.out⟩
      · replace hby : (⟨(zeds ps).toArray⟩ : ByteArray)[k]'(by rw [hsz]; exact hlt) = 68 := hby
        go_wp2_with fail
        exact ⟨⟨k + 1, by omega, by go_num, HR0'.out 4, HYES.out 4 (by decide), HB'.out 4⟩, HME.out⟩
      · replace hby : (⟨(zeds ps).toArray⟩ : ByteArray)[k]'(by rw [hsz]; exact hlt) = 86 := hby
        go_wp2_with fail
        exact ⟨⟨k + 1, by omega, by go_num, HR0.out, HNO.out (by decide), HBR.out⟩, HME.out⟩
      · replace hby : (⟨(zeds ps).toArray⟩ : ByteArray)[k]'(by rw [hsz]; exact hlt) = 87 := hby
        go_wp2_with fail
        exact ⟨⟨k + 1, by omega, by go_num, HR0.out, HNO.out (by decide), HBR.out⟩, HME.out⟩
      · replace hby : (⟨(zeds ps).toArray⟩ : ByteArray)[k]'(by rw [hsz]; exact hlt) = 71 := hby
        go_wp2_with fail
        exact ⟨⟨k + 1, by omega, by go_num, HR0'.out 5, HYES.out 5 (by decide), HB'.out 5⟩, HME.out⟩
      · replace hby : (⟨(zeds ps).toArray⟩ : ByteArray)[k]'(by rw [hsz]; exact hlt) = 83 := hby
        go_wp2_with fail
        exact ⟨⟨k + 1, by omega, by go_num, HR0'.out 2, HYES.out 2 (by decide), HB'.out 2⟩, HME.out⟩
      · replace hby : (⟨(zeds ps).toArray⟩ : ByteArray)[k]'(by rw [hsz]; exact hlt) = 90 := hby
        go_wp2_with fail
        exact ⟨⟨k + 1, by omega, by go_num, HR0.out, HNO.out (by decide), HBR.out⟩, HME.out⟩
    · obtain rfl : k = ps.length := by omega
      rw [List.take_length] at hr1
      obtain ⟨c0, e0⟩ : ∃ c, c = ps.contains 75 := ⟨_, rfl⟩
      obtain ⟨c1, e1⟩ : ∃ c, c = ps.contains 70 := ⟨_, rfl⟩
      obtain ⟨c2, e2⟩ : ∃ c, c = (ps.contains 84 || ps.contains 83) := ⟨_, rfl⟩
      obtain ⟨c3, e3⟩ : ∃ c, c = ps.contains 67 := ⟨_, rfl⟩
      obtain ⟨c4, e4⟩ : ∃ c, c = ps.contains 68 := ⟨_, rfl⟩
      obtain ⟨c5, e5⟩ : ∃ c, c = ps.contains 71 := ⟨_, rfl⟩
      have hha : hasArr ps = #[.bool c0, .bool c1, .bool c2, .bool c3, .bool c4, .bool c5] := by rw [e0, e1, e2, e3, e4, e5]; rfl
      rw [hha] at hr1
      have y0 : wr.cell? ⟨w.heap.size + 1, 0, none⟩ = some (.bool c0) := hr1.cell 0
      have y1 : wr.cell? ⟨w.heap.size + 1, 1, none⟩ = some (.bool c1) := hr1.cell 1
      have y2 : wr.cell? ⟨w.heap.size + 1, 2, none⟩ = some (.bool c2) := hr1.cell 2
      have y3 : wr.cell? ⟨w.heap.size + 1, 3, none⟩ = some (.bool c3) := hr1.cell 3
      have y4 : wr.cell? ⟨w.heap.size + 1, 4, none⟩ = some (.bool c4) := hr1.cell 4
      have y5 : wr.cell? ⟨w.heap.size + 1, 5, none⟩ = some (.bool c5) := hr1.cell 5
      have x0 : wr.cell? ⟨w.heap.size, 0, none⟩ = some (.bool false) := hr0.cell 0
      have x1 : wr.cell? ⟨w.heap.size, 1, none⟩ = some (.bool false) := hr0.cell 1
      have x2 : wr.cell? ⟨w.heap.size, 2, none⟩ = some (.bool false) := hr0.cell 2
      have x3 : wr.cell? ⟨w.heap.size, 3, none⟩ = some (.bool false) := hr0.cell 3
      have x4 : wr.cell? ⟨w.heap.size, 4, none⟩ = some (.bool false) := hr0.cell 4
      have x5 : wr.cell? ⟨w.heap.size, 5, none⟩ = some (.bool false) := hr0.cell 5
      have f0 := hr0.frozen 0
      have f1 := hr0.frozen 1
      have f2 := hr0.frozen 2
      have f3 := hr0.frozen 3
      have f4 := hr0.frozen 4
      have f5 := hr0.frozen 5
      have hfin : Blk ((((((wr.setCell ⟨w.heap.size, 0, none⟩ (.bool c0)).setCell ⟨w.heap.size, 1, none⟩ (.bool c1)).setCell ⟨w.heap.size, 2, none⟩ (.bool c2)).setCell ⟨w.heap.size, 3, none⟩ (.bool c3)).setCell ⟨w.heap.size, 4, none⟩ (.bool c4)).setCell ⟨w.heap.size, 5, none⟩ (.bool c5)) w.heap.size 124 #[.bool c0, .bool c1, .bool c2, .bool c3, .bool c4, .bool c5] :=
        (((((hr0.put 0 (.bool c0)).put 1 (.bool c1)).put 2 (.bool c2)).put 3 (.bool c3)).put 4 (.bool c4)).put 5 (.bool c5)
      have hbf : Below w.heap.size w ((((((wr.setCell ⟨w.heap.size, 0, none⟩ (.bool c0)).setCell ⟨w.heap.size, 1, none⟩ (.bool c1)).setCell ⟨w.heap.size, 2, none⟩ (.bool c2)).setCell ⟨w.heap.size, 3, none⟩ (.bool c3)).setCell ⟨w.heap.size, 4, none⟩ (.bool c4)).setCell ⟨w.heap.size, 5, none⟩ (.bool c5)) :=
        (((((hb.setCell (Nat.le_refl _) _).setCell (Nat.le_refl _) _).setCell (Nat.le_refl _) _).setCell (Nat.le_refl _) _).setCell (Nat.le_refl _) _).setCell (Nat.le_refl _) _
      have HFIN := Lib.hid hfin
      have HBF := Lib.hid hbf
      have HHA := Lib.hid hha
      clear hfin hbf hr0 hr1 hb hha e0 e1 e2 e3 e4 e5
      go_wp2_with fail
      refine ⟨rfl, _, results_cell_row (P := Tryz.prog) (p := 2) (ty := 124) (by kernel_rfl) _ _ w.heap.size 124 _ _ _ rfl HFIN.out Tryz.underlying124 rfl (by kernel_rfl), ?_⟩
      rw [← HR.out]
      exact ⟨by rw [HHA.out], HBF.out⟩
end Go.Proofs.YthgfjafnclklpaaGreatDoor
end
section
namespace Go.Proofs.YthgfjafnclklpaaGreatDoor
attribute [local go_sem ↓] Go.wp_at_zero Go.wp_at_succ
open Go.RowKit

theorem bs_app (a b : Sp.Bs) : (⟨a.toArray⟩ : ByteArray) ++ ⟨b.toArray⟩ = ⟨(a ++ b).toArray⟩ := by
  apply ByteArray.ext
  simp
theorem str_app (a b : Sp.Bs) : Value.string ((⟨a.toArray⟩ : ByteArray) ++ ⟨b.toArray⟩) = str (a ++ b) := by rw [bs_app]
/-- a blank and a text put behind a text -/
theorem str_app2 (a b : Sp.Bs) : Value.string (((⟨a.toArray⟩ : ByteArray) ++ ⟨#[32]⟩) ++ ⟨b.toArray⟩) = str (a ++ ([32] ++ b)) := by
  rw [show (⟨#[32]⟩ : ByteArray) = ⟨([32] : Sp.Bs).toArray⟩ from rfl, bs_app, bs_app, List.append_assoc]
theorem str_app3 (a b : Sp.Bs) (c : UInt8) : Value.string ((((⟨a.toArray⟩ : ByteArray) ++ ⟨#[32]⟩) ++ ⟨#[c]⟩) ++ ⟨b.toArray⟩) = str (a ++ ([32] ++ (c :: b))) := by
  rw [show (⟨#[32]⟩ : ByteArray) = ⟨([32] : Sp.Bs).toArray⟩ from rfl, show (⟨#[c]⟩ : ByteArray) = ⟨([c] : Sp.Bs).toArray⟩ from rfl, bs_app, bs_app, bs_app, List.append_assoc, List.append_assoc]
  rfl
theorem txt_ne {a b : Sp.Bs} (h : a ≠ b) : ((⟨a.toArray⟩ : ByteArray) == ⟨b.toArray⟩) = false := by rw [str_beq, beq_eq_false_iff_ne]; exact h
theorem txt_eq {a b : Sp.Bs} (h : ¬ a ≠ b) : ((⟨a.toArray⟩ : ByteArray) == ⟨b.toArray⟩) = true := by rw [str_beq, beq_iff_eq]; exact Classical.not_not.1 h
theorem row_letters : ∀ v : Fin 24, ∀ k ∈ (rowBy (v.val + 1)).places, k = 75 ∨ k = 70 ∨ k = 84 ∨ k = 78 ∨ k = 67 ∨ k = 68 ∨ k = 86 ∨ k = 87 ∨ k = 71 ∨ k = 83 ∨ k = 48 := by decide
theorem row_letter {v : Nat} (h1 : 1 ≤ v) (h2 : v ≤ 24) {i : Nat} {k : UInt8} (h : (rowBy v).places[i]? = some k) : k = 75 ∨ k = 70 ∨ k = 84 ∨ k = 78 ∨ k = 67 ∨ k = 68 ∨ k = 86 ∨ k = 87 ∨ k = 71 ∨ k = 83 ∨ k = 48 := by
  have := row_letters ⟨v - 1, by omega⟩ k
  simp only [show v - 1 + 1 = v by omega] at this
  exact this (List.mem_of_getElem? h)
theorem RowAt.text {w : World} {A : Option Addr} {l : List Sp.Bs} (h : RowAt w A (l.map str)) {k : Nat} {x : Sp.Bs} (hx : l[k]? = some x) : ∃ g o, A = some ⟨g, o, none⟩ ∧ w.cell? ⟨g, o + k, none⟩ = some (str x) := by
  rcases h with h0 | ⟨g, o, h1, _, h3⟩
  · rw [List.map_eq_nil_iff.1 h0] at hx; cases hx
  · exact ⟨g, o, h1, h3 _ _ (by simp [hx])⟩
theorem CmdGood.line {w : World} {x : CmdX} (h : CmdGood w x) (h1 : 1 ≤ x.c.verb) (h2 : x.c.verb ≤ 24) : (lineV x.c).length ≤ 8000000 := by
  have := (h.small h1 h2).1
  rw [outV_line, List.length_append, List.length_append] at this
  omega

/-- where the loop over the letters stands -/
def lineCell (x : CmdX) : Array Value := #[.int .i64 x.c.verb, .slice x.K x.c.keys.length x.kc, .int .u64 x.c.flags, .int .i64 x.c.exptime, .int .u64 x.c.token, .int .u64 x.c.delta, .slice x.D x.c.data.length x.dc, .bool x.c.noreply, .bool x.c.large, .slice x.M x.c.metas.length x.mc, str x.c.what]
theorem lineCell_cells {x : CmdX} (hv : x.v = (x.c.verb : Int)) : x.cells.toArray = lineCell x := by
  unfold CmdX.cells lineCell
  rw [hv]

set_option maxHeartbeats 16000000 in
set_option maxRecDepth 100000 in
theorem refLine_any {w : World} {x : CmdX} (h : CmdGood w x) (h1 : 1 ≤ x.c.verb) (h2 : x.c.verb ≤ 24) :
    Calls Tryz.prog 40 #[.agg (lineCell x)] w fun e w' => e = .returned (str (lineV x.c)) ∧ Below w.heap.size w w' := by
  generalize hR : (fun (e : Ending) (w' : World) => e = .returned (str (lineV x.c)) ∧ Below w.heap.size w w') = R
  have hbx := Blk.new w 38 (lineCell x)
  have hb0 : Below w.heap.size w (w.alloc (.cells (lineCell x) 38)) := (Below.refl _ _).alloc (Nat.le_refl _) _
  obtain ⟨v, hv⟩ : ∃ v, v = x.c.verb := ⟨_, rfl⟩
  obtain ⟨r, hr⟩ : ∃ r, r = rowBy v := ⟨_, rfl⟩
  obtain ⟨ps, hps⟩ : ∃ ps, ps = r.places := ⟨_, rfl⟩
  have hro := fun W : World => refRowOf_any v W (by omega) (by omega)
  have hsp := fun W : World => refSpelled_any v W (by omega) (by omega)
  rw [← hr] at hro
  simp only [refRow, ← hps] at hro
  obtain ⟨wd, hwd⟩ : ∃ wd, wd = wordBy v := ⟨_, rfl⟩
  rw [← hwd] at hsp
  have hst : lineUp x.c 0 = wd := by rw [lineUp_zero, hwd, hv]
  have hlin := h.line h1 h2
  have hps2 : ps = (rowBy x.c.verb).places := by rw [hps, hr, hv]
  have hps0 : ps.length ≤ 5 := by rw [hps2]; exact (rowOf_ok (rowOf_word h1 h2)).1
  have hlc : lineCell x = #[.int .i64 v, .slice x.K x.c.keys.length x.kc, .int .u64 x.c.flags, .int .i64 x.c.exptime, .int .u64 x.c.token, .int .u64 x.c.delta, .slice x.D x.c.data.length x.dc, .bool x.c.noreply, .bool x.c.large, .slice x.M x.c.metas.length x.mc, str x.c.what] := by
    unfold lineCell; rw [hv]
  rw [hlc] at hbx hb0 ⊢
  have HR := Lib.hid hR
  have HX := Lib.hid h
  have HBX := Lib.hid hbx
  have HB0 := Lib.hid hb0
  have HRO := Lib.hid hro
  have HSP := Lib.hid hsp
  have HLIN := Lib.hid hlin
  have HPS := Lib.hid hps2
  have HST := Lib.hid hst
  have HV := Lib.hid hv
  clear hR h hbx hb0 hro hsp hlin hps hps2 hst hwd hlc
  clear hv hr
  go_enter Tryz.func40, Tryz.ntmps40
  go_upto_region 3 with (first | (go_at_call 41; refine (HRO.out _).mono ?_; rintro e w1 ⟨rfl, hb1⟩; have z0 : w1.cell? ⟨w.heap.size, 0, none⟩ = some (.int .i64 v) := (HBX.out.later hb1).cell 0; have hlt1 : w.heap.size < w1.heap.size := (HBX.out.later hb1).lt; have HB1 := Lib.hid hb1; clear hb1) | (go_at_call 80; refine (HSP.out _).mono ?_; rintro e w2 ⟨rfl, hb2⟩; have HB2 := Lib.hid hb2; clear hb2))
  have hx2 := ((HBX.out.later HB1.out).alloc (.cells #[.int .i64 v, str (zeds ps), .int .i64 r.least, .bool r.more, .bool r.noreply, .bool r.block] 86)).later HB2.out
  clear z0
  have hr2 := (Blk.new w1 86 #[.int .i64 v, str (zeds ps), .int .i64 r.least, .bool r.more, .bool r.noreply, .bool r.block]).later HB2.out
  have hb1 : Below w.heap.size w w1 := HB0.out.trans (HB1.out.mono HB0.out.size)
  have hb1a := hb1.alloc hb1.size (.cells #[.int .i64 v, str (zeds ps), .int .i64 r.least, .bool r.more, .bool r.noreply, .bool r.block] 86)
  have hb2 : Below w.heap.size w w2 := hb1a.trans (HB2.out.mono hb1a.size)
  clear hb1 hb1a
  obtain ⟨g1, hg1⟩ : ∃ g1, g1 = w1.heap.size := ⟨_, rfl⟩
  rw [← hg1] at hr2 ⊢
  have HX2 := Lib.hid hx2
  have HR2 := Lib.hid hr2
  have HW2 := Lib.hid hb2
  clear hx2 hr2 hb2 hg1
  go_wp2_with fail
  go_loopw [4, 5] (fun ov iv wr => ∃ k : Nat, k ≤ ps.length ∧ iv = .int .i64 k ∧ ov = str (lineUp x.c k) ∧ Below w2.heap.size w2 wr) (fun _ iv _ => ps.length - (intOf iv).toNat)
  case atStart => exact ⟨0, Nat.zero_le _, rfl, by rw [HST.out], Below.refl _ _⟩
  case round =>
    obtain ⟨k, hk, rfl, rfl, hbr⟩ := hrel
    obtain ⟨wo, rfl⟩ : ∃ wo, wo = wr := ⟨wr, rfl⟩
    have hxr := HX2.out.later hbr
    have hrr := HR2.out.later hbr
    have hwr : Below w.heap.size w wo := HW2.out.trans (hbr.mono HW2.out.size)
    have q1 : wo.cell? ⟨g1, 1, none⟩ = some (str (zeds ps)) := hrr.cell 1
    have hsz : (⟨(zeds ps).toArray⟩ : ByteArray).size = ps.length := by rw [str_size, zeds_length]
    by_cases hlt : k < ps.length
    · obtain ⟨y, hy⟩ : ∃ y, ps[k]? = some y := ⟨ps[k]'hlt, List.getElem?_eq_getElem _⟩
      have hby : (⟨(zeds ps).toArray⟩ : ByteArray)[k]'(by rw [hsz]; exact hlt) = zed y := by
        rw [byte_getD']
        unfold zeds
        rw [List.getD_eq_getElem?_getD, List.getElem?_map, hy]
        rfl
      have hy2 : (rowBy x.c.verb).places[k]? = some y := by rw [← HPS.out]; exact hy
      have hlet := row_letter (by omega) (by omega) hy2
      have hsucc := lineUp_succ (c := x.c) hy2
      have hsg := lineUp_seg (c := x.c) hy2
      have hll := HLIN.out
      have hme : ps.length - ((k : Int) + 1).toNat < ps.length - (k : Int).toNat := by omega
      have HSUCC := Lib.hid hsucc
      have HME := Lib.hid hme
      have HBR := Lib.hid hbr
      have HWR := Lib.hid hwr
      generalize lineUp x.c k = up at HSUCC hsg ⊢
      have hupl : up.length ≤ 8000000 := by omega
      have hsl : (segV x.c y).length ≤ 8000000 := by omega
      have hz0 : wo.cell? ⟨w.heap.size, 0, none⟩ = some (.int .i64 v) := hxr.cell 0
      have hz1 : wo.cell? ⟨w.heap.size, 1, none⟩ = some (.slice x.K x.c.keys.length x.kc) := hxr.cell 1
      have hz2 : wo.cell? ⟨w.heap.size, 2, none⟩ = some (.int .u64 x.c.flags) := hxr.cell 2
      have hz3 : wo.cell? ⟨w.heap.size, 3, none⟩ = some (.int .i64 x.c.exptime) := hxr.cell 3
      have hz4 : wo.cell? ⟨w.heap.size, 4, none⟩ = some (.int .u64 x.c.token) := hxr.cell 4
      have hz5 : wo.cell? ⟨w.heap.size, 5, none⟩ = some (.int .u64 x.c.delta) := hxr.cell 5
      have hz6 : wo.cell? ⟨w.heap.size, 6, none⟩ = some (.slice x.D x.c.data.length x.dc) := hxr.cell 6
      have hz9 : wo.cell? ⟨w.heap.size, 9, none⟩ = some (.slice x.M x.c.metas.length x.mc) := hxr.cell 9
      have hz10 : wo.cell? ⟨w.heap.size, 10, none⟩ = some (str x.c.what) := hxr.cell 10
      have HXR := Lib.hid hxr
      clear hsucc hme hbr hwr hxr hrr hy hy2 hsg hll
      rcases hlet with rfl | rfl | rfl | rfl | rfl | rfl | rfl | rfl | rfl | rfl | rfl
      · replace hby : (⟨(zeds ps).toArray⟩ : ByteArray)[k]'(by rw [hsz]; exact hlt) = 75 := hby
        have hseg : segV x.c 75 = segs x.c.keys := rfl
        rw [hseg] at hsl HSUCC
        have hkc := HX.out.counts.1
        clear hz0 hz2 hz3 hz4 hz5 hz6 hz9 hz10
        go_wp2_with fail
        go_loopw [4, 6] (fun ov jv wx => ∃ j : Nat, j ≤ x.c.keys.length ∧ jv = .int .i64 j ∧ ov = str (up ++ segs (x.c.keys.take j)) ∧ Below wo.heap.size wo wx) (fun _ jv _ => x.c.keys.length - (intOf jv).toNat)
        case atStart => exact ⟨0, Nat.zero_le _, rfl, by simp [segs], Below.refl _ _⟩
        case round =>
          obtain ⟨j, hj, rfl, rfl, hb⟩ := hrel
          have z1 : wr.cell? ⟨w.heap.size, 1, none⟩ = some (.slice x.K x.c.keys.length x.kc) := (HXR.out.later hb).cell 1
          by_cases hjl : j < x.c.keys.length
          · obtain ⟨tx, htx⟩ : ∃ tx, x.c.keys[j]? = some tx := ⟨x.c.keys[j]'hjl, List.getElem?_eq_getElem _⟩
            obtain ⟨ga, oa, hAe, ya⟩ := RowAt.text ((HX.out.mem.keys.below HWR.out).below hb) htx
            have htl := tails_mem (List.mem_of_getElem? htx)
            have hkt := HX.out.keysT
            have hs := segs_succ htx
            have hsl2 := segs_take_le x.c.keys j
            rw [hAe] at z1
            have hme2 : x.c.keys.length - ((j : Int) + 1).toNat < x.c.keys.length - (j : Int).toNat := by omega
            generalize segs (x.c.keys.take j) = s0 at hs hsl2 ⊢
            generalize tails x.c.keys = tk at htl hkt
            have HS := Lib.hid hs
            have HME2 := Lib.hid hme2
            have HBB := Lib.hid hb
            have hup2 : (up ++ s0).length ≤ 16000000 := by rw [List.length_append]; omega
            obtain ⟨u2, hu2⟩ : ∃ u2, u2 = up ++ s0 := ⟨_, rfl⟩
            rw [← hu2] at hup2 ⊢
            have HU2 := Lib.hid hu2
            clear hs hme2 hb htx hAe hu2
            go_wp2_with fail
            exact ⟨⟨j + 1, by omega, by go_num, by rw [HS.out, ← List.append_assoc up, ← HU2.out]; exact str_app2 _ _, HBB.out⟩, HME2.out⟩
          · obtain rfl : j = x.c.keys.length := by omega
            rw [List.take_length, ← HSUCC.out]
            have HBB := Lib.hid hb
            clear hb
            go_wp2_with fail
            exact ⟨⟨k + 1, by omega, by go_num, rfl, HBR.out.trans (HBB.out.mono HBR.out.size)⟩, HME.out⟩
      · replace hby : (⟨(zeds ps).toArray⟩ : ByteArray)[k]'(by rw [hsz]; exact hlt) = 70 := hby
        obtain ⟨d, hd⟩ : ∃ d, d = Lib.decDigits x.c.flags := ⟨_, rfl⟩
        have hseg : segV x.c 70 = [32] ++ d := by rw [hd]; show segs [_] = _; simp [segs]
        have hdc := fun W : World => refDigits_any x.c.flags W (by have := HX.out.flags; omega)
        have hdl := dec_length (u := x.c.flags) (by have := HX.out.flags; omega)
        rw [← hd] at hdc hdl
        have HDC := Lib.hid hdc
        have HSEG := Lib.hid hseg
        clear hdc hseg hd
        go_wp2_with (go_at_call 66; refine (HDC.out _).mono ?_; rintro e w3 ⟨rfl, hb3⟩; have HB3 := Lib.hid hb3; clear hb3)
        exact ⟨⟨k + 1, by omega, by go_num, by rw [HSUCC.out, HSEG.out]; exact str_app2 _ _, HBR.out.trans (HB3.out.mono HBR.out.size)⟩, HME.out⟩
      · replace hby : (⟨(zeds ps).toArray⟩ : ByteArray)[k]'(by rw [hsz]; exact hlt) = 84 := hby
        obtain ⟨d, hd⟩ : ∃ d, d = Lib.itoa x.c.exptime := ⟨_, rfl⟩
        have hseg : segV x.c 84 = [32] ++ d := by rw [hd]; show segs [_] = _; simp [segs]
        have hdc := fun W : World => refSigned_any x.c.exptime W HX.out.time
        have hdl := itoa_len HX.out.time
        rw [← hd] at hdc hdl
        have HDC := Lib.hid hdc
        have HSEG := Lib.hid hseg
        clear hdc hseg hd
        go_wp2_with (go_at_call 81; refine (HDC.out _).mono ?_; rintro e w3 ⟨rfl, hb3⟩; have HB3 := Lib.hid hb3; clear hb3)
        exact ⟨⟨k + 1, by omega, by go_num, by rw [HSUCC.out, HSEG.out]; exact str_app2 _ _, HBR.out.trans (HB3.out.mono HBR.out.size)⟩, HME.out⟩
      · replace hby : (⟨(zeds ps).toArray⟩ : ByteArray)[k]'(by rw [hsz]; exact hlt) = 78 := hby
        obtain ⟨d, hd⟩ : ∃ d, d = Lib.decDigits x.c.data.length := ⟨_, rfl⟩
        have hseg : segV x.c 78 = [32] ++ d := by rw [hd]; show segs [_] = _; simp [segs]
        have hdc := fun W : World => refDigits_any x.c.data.length W (by have := HX.out.dataL; omega)
        have hdl := dec_length (u := x.c.data.length) (by have := HX.out.dataL; omega)
        rw [← hd] at hdc hdl
        have HDC := Lib.hid hdc
        have HSEG := Lib.hid hseg
        clear hdc hseg hd
        have hwp : IntKind.u64.wrap (x.c.data.length : Int) = (x.c.data.length : Int) := by
          have := HX.out.dataL
          rw [IntKind.wrap_u64]; omega
        go_wp2_with (go_at_call 66; refine (HDC.out _).mono ?_; rintro e w3 ⟨rfl, hb3⟩; have HB3 := Lib.hid hb3; clear hb3)
        exact ⟨⟨k + 1, by omega, by go_num, by rw [HSUCC.out, HSEG.out]; exact str_app2 _ _, HBR.out.trans (HB3.out.mono HBR.out.size)⟩, HME.out⟩
      · replace hby : (⟨(zeds ps).toArray⟩ : ByteArray)[k]'(by rw [hsz]; exact hlt) = 67 := hby
        obtain ⟨d, hd⟩ : ∃ d, d = Lib.decDigits x.c.token := ⟨_, rfl⟩
        have hseg : segV x.c 67 = [32] ++ d := by rw [hd]; show segs [_] = _; simp [segs]
        have hdc := fun W : World => refDigits_any x.c.token W (by have := HX.out.token; omega)
        have hdl := dec_length (u := x.c.token) (by have := HX.out.token; omega)
        rw [← hd] at hdc hdl
        have HDC := Lib.hid hdc
        have HSEG := Lib.hid hseg
        clear hdc hseg hd
        go_wp2_with (go_at_call 66; refine (HDC.out _).mono ?_; rintro e w3 ⟨rfl, hb3⟩; have HB3 := Lib.hid hb3; clear hb3)
        exact ⟨⟨k + 1, by omega, by go_num, by rw [HSUCC.out, HSEG.out]; exact str_app2 _ _, HBR.out.trans (HB3.out.mono HBR.out.size)⟩, HME.out⟩
      · replace hby : (⟨(zeds ps).toArray⟩ : ByteArray)[k]'(by rw [hsz]; exact hlt) = 68 := hby
        obtain ⟨d, hd⟩ : ∃ d, d = Lib.decDigits x.c.delta := ⟨_, rfl⟩
        have hseg : segV x.c 68 = [32] ++ d := by rw [hd]; show segs [_] = _; simp [segs]
        have hdc := fun W : World => refDigits_any x.c.delta W (by have := HX.out.delta; omega)
        have hdl := dec_length (u := x.c.delta) (by have := HX.out.delta; omega)
        rw [← hd] at hdc hdl
        have HDC := Lib.hid hdc
        have HSEG := Lib.hid hseg
        clear hdc hseg hd
        go_wp2_with (go_at_call 66; refine (HDC.out _).mono ?_; rintro e w3 ⟨rfl, hb3⟩; have HB3 := Lib.hid hb3; clear hb3)
        exact ⟨⟨k + 1, by omega, by go_num, by rw [HSUCC.out, HSEG.out]; exact str_app2 _ _, HBR.out.trans (HB3.out.mono HBR.out.size)⟩, HME.out⟩
      · replace hby : (⟨(zeds ps).toArray⟩ : ByteArray)[k]'(by rw [hsz]; exact hlt) = 86 := hby
        have hseg : segV x.c 86 = [32, 49] := rfl
        have HSEG := Lib.hid hseg
        clear hseg
        go_wp2_with fail
        exact ⟨⟨k + 1, by omega, by go_num, by rw [HSUCC.out, HSEG.out]; exact str_app _ _, HBR.out⟩, HME.out⟩
      · replace hby : (⟨(zeds ps).toArray⟩ : ByteArray)[k]'(by rw [hsz]; exact hlt) = 87 := hby
        have hwl := HX.out.whatL
        by_cases hw : x.c.what ≠ []
        · have hseg : segV x.c 87 = [32] ++ x.c.what := by
            unfold segV
            rw [show Sp.putV x.c 87 = [x.c.what] from if_neg hw]
            simp [segs]
          have i0 : ((⟨x.c.what.toArray⟩ : ByteArray) == ⟨#[]⟩) = false := txt_ne hw
          have i2 : x.c.what.isEmpty = false := List.isEmpty_eq_false_iff.2 hw
          have HSEG := Lib.hid hseg
          clear hseg hw
          go_wp2_with fail
          exact ⟨⟨k + 1, by omega, by go_num, by rw [HSUCC.out, HSEG.out]; exact str_app2 _ _, HBR.out⟩, HME.out⟩
        · have hseg : segV x.c 87 = [] := by
            unfold segV
            rw [show Sp.putV x.c 87 = [] from if_pos (Classical.not_not.1 hw)]
            rfl
          have i0 : ((⟨x.c.what.toArray⟩ : ByteArray) == ⟨#[]⟩) = true := txt_eq hw
          have i2 : x.c.what.isEmpty = true := List.isEmpty_iff.2 (Classical.not_not.1 hw)
          have HSEG := Lib.hid hseg
          clear hseg hw
          go_wp2_with fail
          exact ⟨⟨k + 1, by omega, by go_num, by rw [HSUCC.out, HSEG.out, List.append_nil], HBR.out⟩, HME.out⟩
      · replace hby : (⟨(zeds ps).toArray⟩ : ByteArray)[k]'(by rw [hsz]; exact hlt) = 71 := hby
        have hseg : segV x.c 71 = segs (x.c.metas.map fun f => f.letter :: f.arg) := rfl
        rw [hseg] at hsl HSUCC
        have hmc := HX.out.counts.2.1
        have hlw : w.heap.size < wo.heap.size := HXR.out.lt
        clear hz0 hz1 hz2 hz3 hz4 hz5 hz6 hz10
        go_wp2_with fail
        go_loopw [4, 7] (fun ov jv wx => ∃ j : Nat, j ≤ x.c.metas.length ∧ jv = .int .i64 j ∧ ov = str (up ++ segs ((x.c.metas.map fun f => f.letter :: f.arg).take j)) ∧ Below wo.heap.size wo wx) (fun _ jv _ => x.c.metas.length - (intOf jv).toNat)
        case atStart => exact ⟨0, Nat.zero_le _, rfl, by simp [segs], Below.refl _ _⟩
        case round =>
          obtain ⟨j, hj, rfl, rfl, hb⟩ := hrel
          obtain ⟨wi, rfl⟩ : ∃ wi, wi = wr := ⟨wr, rfl⟩
          have z9 : wi.cell? ⟨w.heap.size, 9, none⟩ = some (.slice x.M x.c.metas.length x.mc) := (HXR.out.later hb).cell 9
          have hlwi : w.heap.size < wi.heap.size := (HXR.out.later hb).lt
          by_cases hjl : j < x.c.metas.length
          · obtain ⟨f, hf⟩ : ∃ f, x.c.metas[j]? = some f := ⟨x.c.metas[j]'hjl, List.getElem?_eq_getElem _⟩
            obtain ⟨ga, oa, hAe, hga, ya0, ya1, ya2⟩ := ((HX.out.mem.metas.below HWR.out).below hb).flag hf
            have hfm : (x.c.metas.map fun f => f.letter :: f.arg)[j]? = some (f.letter :: f.arg) := by rw [List.getElem?_map, hf]; rfl
            have hs := segs_succ hfm
            have hsl2 := segs_take_le (x.c.metas.map fun f => f.letter :: f.arg) j
            have hfa := HX.out.counts.2.2 f (List.mem_of_getElem? hf)
            obtain ⟨fc, fa, fh⟩ := f
            dsimp only at hs ya0 ya1 ya2 hfa
            rw [hAe] at z9
            have hme2 : x.c.metas.length - ((j : Int) + 1).toNat < x.c.metas.length - (j : Int).toNat := by omega
            generalize segs ((x.c.metas.map fun f => f.letter :: f.arg).take j) = s0 at hs hsl2 ⊢
            have hup2 : (up ++ s0).length ≤ 16000000 := by rw [List.length_append]; omega
            obtain ⟨u2, hu2⟩ : ∃ u2, u2 = up ++ s0 := ⟨_, rfl⟩
            rw [← hu2] at hup2 ⊢
            have hB : Below wo.heap.size wo (wi.alloc (.cells #[.int .u8 fc.toNat] 5)) := hb.alloc hb.size _
            have hcv : (convert 35 9 (.slice (some ⟨wi.heap.size, 0, none⟩) 1 1)).run Tryz.prog (wi.alloc (.cells #[.int .u8 fc.toNat] 5)).drew = .ok (str [fc]) (wi.alloc (.cells #[.int .u8 fc.toNat] 5)).drew := by
              have hbn := Blk.new wi 5 #[.int .u8 fc.toNat]
              exact run_convert_bytes_back (P := Tryz.prog) (wi.alloc (.cells #[.int .u8 fc.toNat] 5)).drew 35 9 5 ⟨wi.heap.size, 0, none⟩ 1 [fc] Tryz.underlying35 Tryz.underlying5 Tryz.underlying9 (fun i hi => by
                obtain rfl : i = 0 := by simpa using hi
                exact hbn.cell 0)
            have HS := Lib.hid hs
            have HME2 := Lib.hid hme2
            have HBB := Lib.hid hb
            have HU2 := Lib.hid hu2
            have HB := Lib.hid hB
            clear hs hme2 hb hf hfm hAe hu2 hB ya2 hseg
            go_wp2_with fail
            go_region
            go_wp2_with fail
            exact ⟨⟨j + 1, by omega, by go_num, by rw [HS.out, ← List.append_assoc up, ← HU2.out]; exact str_app3 _ _ _, HB.out.drew⟩, HME2.out⟩
          · obtain rfl : j = x.c.metas.length := by omega
            rw [List.take_of_length_le (by rw [List.length_map]; exact Nat.le_refl _), ← HSUCC.out]
            have HBB := Lib.hid hb
            clear hb
            go_wp2_with fail
            exact ⟨⟨k + 1, by omega, by go_num, rfl, HBR.out.trans (HBB.out.mono HBR.out.size)⟩, HME.out⟩
      · replace hby : (⟨(zeds ps).toArray⟩ : ByteArray)[k]'(by rw [hsz]; exact hlt) = 83 := hby
        by_cases he : x.c.exptime = 0
        · have hseg : segV x.c 83 = [] := by
            unfold segV
            rw [show Sp.putV x.c 83 = [] from if_pos he]
            rfl
          have i1 : (x.c.exptime != 0) = false := by rw [he]; rfl
          have HSEG := Lib.hid hseg
          clear hseg he
          go_wp2_with fail
          exact ⟨⟨k + 1, by omega, by go_num, by rw [HSUCC.out, HSEG.out, List.append_nil], HBR.out⟩, HME.out⟩
        · obtain ⟨d, hd⟩ : ∃ d, d = Lib.itoa x.c.exptime := ⟨_, rfl⟩
          have hseg : segV x.c 83 = [32] ++ d := by
            unfold segV
            rw [show Sp.putV x.c 83 = [Lib.itoa x.c.exptime] from if_neg he, hd]
            simp [segs]
          have hdc := fun W : World => refSigned_any x.c.exptime W HX.out.time
          have hdl := itoa_len HX.out.time
          rw [← hd] at hdc hdl
          have i1 : (x.c.exptime != 0) = true := bne_iff_ne.2 he
          have HDC := Lib.hid hdc
          have HSEG := Lib.hid hseg
          clear hdc hseg hd he
          go_wp2_with (go_at_call 81; refine (HDC.out _).mono ?_; rintro e w3 ⟨rfl, hb3⟩; have HB3 := Lib.hid hb3; clear hb3)
          exact ⟨⟨k + 1, by omega, by go_num, by rw [HSUCC.out, HSEG.out]; exact str_app2 _ _, HBR.out.trans (HB3.out.mono HBR.out.size)⟩, HME.out⟩
      · replace hby : (⟨(zeds ps).toArray⟩ : ByteArray)[k]'(by rw [hsz]; exact hlt) = 90 := hby
        have hseg : segV x.c 48 = [] := rfl
        have HSEG := Lib.hid hseg
        clear hseg
        go_wp2_with fail
        exact ⟨⟨k + 1, by omega, by go_num, by rw [HSUCC.out, HSEG.out, List.append_nil], HBR.out⟩, HME.out⟩
    · obtain rfl : k = ps.length := by omega
      have z7 : wo.cell? ⟨w.heap.size, 7, none⟩ = some (.bool x.c.noreply) := hxr.cell 7
      have hlv := lineV_up x.c
      rw [← HPS.out] at hlv
      have hll := HLIN.out
      rw [hlv, List.length_append] at hll
      have HLV := Lib.hid hlv
      have HWR := Lib.hid hwr
      generalize lineUp x.c ps.length = up at HLV hll ⊢
      have hul : up.length ≤ 8000000 := by omega
      obtain ⟨nr, hnr⟩ : ∃ nr, nr = x.c.noreply := ⟨_, rfl⟩
      have hnv : segs (nrV x.c) = segs (if nr then [Sp.noreplyW] else []) := by rw [hnr]; rfl
      have HNV := Lib.hid hnv
      rw [← hnr] at z7
      clear hlv hwr hxr hrr hbr hnr hnv hll
      cases nr with
      | true =>
        go_wp2_with fail
        rw [← HR.out]
        exact ⟨by rw [HLV.out, HNV.out]; exact congrArg Ending.returned (str_app up _), HWR.out⟩
      | false =>
        go_wp2_with fail
        rw [← HR.out]
        exact ⟨by rw [HLV.out, HNV.out]; simp [segs], HWR.out⟩
end Go.Proofs.YthgfjafnclklpaaGreatDoor
end
end
