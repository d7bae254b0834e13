/- The library's functions over rows of bytes: IndexByte, HasPrefix, TrimSuffix, Clone. Walk of package words: skip. -/
import Derived.Test.YthgfjafnclklpaaGreatDoorPc
import Derived.Test.YthgfjafnclklpaaGreatDoorL2
import Derived.Test.YthgfjafnclklpaaGreatDoorShelf
import Derived.Test.YthgfjafnclklpaaGreatDoorFd
import Derived.Lib.SlBytesConst
section
namespace Go.Proofs.YthgfjafnclklpaaGreatDoor
open Go.RowKit

def numsOf (l : Sp.Bs) : List Int := l.map fun b => (b.toNat : Int)
theorem numsOf_length (l : Sp.Bs) : (numsOf l).length = l.length := by simp [numsOf]
theorem bytesOf_nums (l : Sp.Bs) : Lib.bytesOf (numsOf l) = l := by
  unfold Lib.bytesOf numsOf
  rw [List.map_map]
  conv => rhs; rw [← List.map_id l]
  exact List.map_congr_left fun b _ => by simp
theorem nums_cells {w : World} {a : Addr} {l : Sp.Bs} (h : RowAt w (some a) (bytesV l)) : ∀ i, i < l.length → w.cell? (a.add i) = some (.int .u8 ((numsOf l).getD i 0)) := by
  intro i hi
  refine h.cells i _ ?_
  simp [bytesV, numsOf, hi]

theorem index_any {w : World} {A : Option Addr} {cap : Nat} {l : Sp.Bs} (h : RowAt w A (bytesV l)) (hA : A = none → cap = 0) (c : UInt8) :
    Calls Tryz.prog 114 #[.slice A l.length cap, .int .u8 c.toNat] w fun e w' => e = .returned (.int .i64 (Lib.indexByte l c)) ∧ w = w' := by
  cases A with
  | none =>
    obtain rfl := hA rfl
    obtain rfl := h.none_nil
    exact (Tryz.bytes_IndexByte_nil c.toNat w).mono fun e w' ⟨h1, h2⟩ => ⟨h1, h2.symm⟩
  | some a =>
    have := Tryz.bytes_IndexByte_at a l.length cap (numsOf l) c.toNat w (numsOf_length l) (nums_cells h)
    rw [bytesOf_nums] at this
    refine this.mono fun e w' ⟨h1, h2⟩ => ⟨?_, h2.symm⟩
    rw [h1]
    simp

theorem bytesIn_row {w : World} {A : Option Addr} {l : Sp.Bs} (h : RowAt w A (bytesV l)) : Lib.BytesIn w A l.length (numsOf l) := by
  intro hn
  rcases h with h | ⟨b, o, h1, _, h3⟩
  · have : l = [] := by simpa [bytesV] using h
    rw [this] at hn; simp at hn
  · refine ⟨b, o, h1, fun i hi => h3 i _ ?_⟩
    simp [bytesV, numsOf, hi]

theorem hasPrefix_eq (l p : Sp.Bs) : Lib.hasPrefix l p = decide (l.take p.length = p) := by
  unfold Lib.hasPrefix
  rw [Bool.eq_iff_iff, List.isPrefixOf_iff_prefix, List.prefix_iff_eq_take, decide_eq_true_eq]
  exact eq_comm

theorem prefix_any {w : World} {A B : Option Addr} {cap d : Nat} {l p : Sp.Bs} (h : RowAt w A (bytesV l)) (hp : RowAt w B (bytesV p)) (hc : l.length ≤ cap) :
    Calls Tryz.prog 137 #[.slice A l.length cap, .slice B p.length d] w fun e w' => e = .returned (.bool (decide (l.take p.length = p))) ∧ w = w' := by
  refine (Tryz.bytes_HasPrefix_all A B l.length cap p.length d (numsOf l) (numsOf p) w (numsOf_length l) (numsOf_length p) hc (bytesIn_row h) (bytesIn_row hp)).mono ?_
  rintro e w' ⟨h1, h2⟩
  rw [bytesOf_nums, bytesOf_nums, hasPrefix_eq] at h1
  exact ⟨h1, h2.symm⟩

theorem hasSuffix_13 (l : Sp.Bs) : Lib.hasSuffix l [13] = decide (l.getLast? = some 13) := by
  unfold Lib.hasSuffix
  rw [Bool.eq_iff_iff, List.isSuffixOf_iff_suffix, decide_eq_true_eq]
  constructor
  · rintro ⟨t, rfl⟩; simp
  · intro h
    refine ⟨l.dropLast, ?_⟩
    obtain ⟨a, rfl⟩ := List.getLast?_eq_some_iff.1 h
    simp

theorem chop_any {w : World} {A B : Option Addr} {cap d : Nat} {l : Sp.Bs} (h : RowAt w A (bytesV l)) (hB : RowAt w B (bytesV [13])) (hc : l.length ≤ cap) (hbig : l.length ≤ 9223372036854775807) (hA : A = none → cap = 0) :
    Calls Tryz.prog 115 #[.slice A l.length cap, .slice B 1 d] w fun e w' => e = .returned (.slice A (Sp.chop l).length cap) ∧ w = w' := by
  refine (Tryz.bytes_TrimSuffix_all A B l.length cap 1 d (numsOf l) (numsOf [13]) w (numsOf_length l) rfl hc hbig (bytesIn_row h) (bytesIn_row hB)).mono ?_
  rintro e w' ⟨h1, h2⟩
  refine ⟨h1.trans (congrArg _ ?_), h2.symm⟩
  rcases h with h | ⟨b, o, e1, _, _⟩
  · have : l = [] := by simpa [bytesV] using h
    subst this
    cases A with
    | none => rfl
    | some a =>
      obtain ⟨b, o, s⟩ := a
      cases s with
      | none => rfl
      | some x => rfl
  · subst e1
    show Lib.bytesTrimSuffix b o l.length cap (numsOf l) (numsOf [13]) = _
    unfold Lib.bytesTrimSuffix Sp.chop
    rw [bytesOf_nums, bytesOf_nums, hasSuffix_13]
    by_cases hl : l.getLast? = some 13
    · rw [if_pos (by simpa using hl), if_pos hl]
      unfold Lib.sliceTo
      simp [numsOf]
    · rw [if_neg (by simpa using hl), if_neg hl]

theorem clone_any {w : World} {A : Option Addr} {cap : Nat} {l : Sp.Bs} (h : RowAt w A (bytesV l)) (hn : l.length ≤ 100000000000) :
    Calls Tryz.prog 117 #[.slice A l.length cap] w fun e w' => ∃ v, e = .returned v ∧ w'.ownsRow w.heap.size 5 1 v l.length (bytesV l) ∧ Below w.heap.size w w' := by
  cases A with
  | none =>
    obtain rfl := h.none_nil
    refine (Tryz.bytes_Clone_nil 0 cap w).mono ?_
    rintro e w' ⟨rfl, rfl⟩
    exact ⟨_, rfl, World.ownsRow_nil _ _ _ 1, Below.refl _ _⟩
  | some a =>
    refine (Tryz.bytes_Clone_at a l.length cap (numsOf l) w (numsOf_length l) (by omega) (nums_cells h)).mono ?_
    rintro e w' ⟨v, rfl, h1, _, h2⟩
    refine ⟨v, rfl, ?_, h2⟩
    have e : (numsOf l).map (Value.int .u8) = bytesV l := by simp [numsOf, bytesV]
    rw [e] at h1
    exact h1
end Go.Proofs.YthgfjafnclklpaaGreatDoor
end
section
namespace Go.Proofs.YthgfjafnclklpaaGreatDoor
attribute [local go_sem ↓] Go.wp_at_zero Go.wp_at_succ
open Go.RowKit

theorem indexByte_of (c : UInt8) : ∀ l : Sp.Bs, Lib.indexByte l c = match Sp.indexOf l c with | none => -1 | some i => (i : Int)
  | [] => rfl
  | b :: l => by
    unfold Lib.indexByte
    rw [indexByte_of c l]
    unfold Sp.indexOf
    rw [List.findIdx?_cons]
    by_cases h : b = c
    · subst h; simp
    · simp only [beq_eq_false_iff_ne.2 h]
      cases hi : List.findIdx? (fun x => x == c) l with
      | none => simp
      | some i => simp

theorem const_row (w : World) (vs : List Value) (e : TypeId) (m : Nat × Nat) : RowAt (w.alloc (.cells vs.toArray e m)) (some ⟨w.heap.size, 0, none⟩) vs := by
  refine .inr ⟨_, _, rfl, by simp, fun j u hu => ?_⟩
  obtain ⟨hj, rfl⟩ := List.getElem?_eq_some_iff.1 hu
  rw [Nat.zero_add, World.cell?_alloc_mark]
  simp [hj]

theorem skipV_cases (l : Sp.Bs) (k : Nat) (hk : k < l.length) :
    Sp.skipV l k = if (l.drop k).take 2 = [13, 10] then some (k + 2, true) else if l.drop k = [13] then none else (Sp.indexOf (l.drop k) 10).map fun i => (k + i + 1, false) := by
  unfold Sp.skipV
  rw [if_neg (by omega)]
  split
  · rfl
  · split
    · rfl
    · cases Sp.indexOf (l.drop k) 10 <;> rfl

theorem indexOf_in {l : Sp.Bs} {c : UInt8} {i : Nat} (h : Sp.indexOf l c = some i) : i < l.length := by
  unfold Sp.indexOf at h
  exact (List.findIdx?_eq_some_iff_getElem.1 h).1

theorem skipV_some {l : Sp.Bs} {k m : Nat} {g : Bool} (h : Sp.skipV l k = some (m, g)) : k < l.length ∧ k < m := by
  by_cases hk : k < l.length
  · rw [skipV_cases l k hk] at h
    refine ⟨hk, ?_⟩
    split at h
    · injection h with h; injection h with h; omega
    · split at h
      · cases h
      · obtain ⟨i, _, h⟩ := Option.map_eq_some_iff.1 h
        injection h with h; omega
  · unfold Sp.skipV at h
    rw [if_pos (by omega)] at h
    cases h

def SkipPost (w : World) (at' : Nat) (r : Option (Nat × Bool)) (e : Ending) (w' : World) : Prop :=
  ∃ (v : Nat) (gd : Bool), e = .returned (.tuple #[.int .i64 v, .bool gd, .bool r.isSome]) ∧ (∀ m g, r = some (m, g) → v = at' + m ∧ gd = g) ∧ (r = none → gd = false) ∧ Below w.heap.size w w'

set_option maxHeartbeats 8000000 in
set_option maxRecDepth 100000 in
theorem skip_any {w : World} {A : Option Addr} {cap : Nat} {l : Sp.Bs} (h : RowAt w A (bytesV l)) (hc : l.length ≤ cap) (hA : A = none → cap = 0) (hl : l.length ≤ 1000000000) {at' k : Nat} (hat : at' ≤ l.length) (hk : k ≤ 9223372036854775807) :
    Calls Tryz.prog 116 #[.slice A l.length cap, .int .i64 at', .int .i64 k] w (SkipPost w at' (Sp.skipV (l.drop at') k)) := by
  have hlen : (l.drop at').length = l.length - at' := by simp
  by_cases h1 : l.length - at' ≤ k
  · have hr : Sp.skipV (l.drop at') k = none := by unfold Sp.skipV; rw [if_pos (by omega)]
    rw [hr]
    have hp : SkipPost w at' none (.returned (.tuple #[.int .i64 0, .bool false, .bool false])) w := ⟨0, false, rfl, by simp, fun _ => rfl, Below.refl _ _⟩
    generalize SkipPost w at' none = R at hp ⊢
    have HP := Lib.hid hp
    clear hp h hr hlen hA
    have g1 : (l.length : Int) - (at' : Int) ≤ (k : Int) := by omega
    go_enter Tryz.func116, Tryz.ntmps116
    go_wp2
    exact bodyPost_ret (v := .tuple #[.int .i64 0, .bool false, .bool false]) (by simp [results, Tryz.results116, go_sem]) rfl HP.out
  · have hk2 : at' + k < l.length := by omega
    obtain ⟨m, hm⟩ : ∃ m, m = at' + k := ⟨_, rfl⟩
    have hdd : (l.drop at').drop k = l.drop m := by rw [List.drop_drop, hm]
    have hsk := skipV_cases (l.drop at') k (by omega)
    rw [hdd] at hsk
    rw [hsk]
    have hbl : (l.drop m).length = l.length - m := by simp
    obtain ⟨b, o, hAe, hbw, hcells⟩ : ∃ b o, A = some ⟨b, o, none⟩ ∧ b < w.heap.size ∧ ∀ j u, (bytesV l)[j]? = some u → w.cell? ⟨b, o + j, none⟩ = some u := by
      rcases h with h0 | h0
      · have : l = [] := by simpa [bytesV] using h0
        rw [this] at hk2; simp at hk2
      · exact h0
    subst hAe
    have hrowD : RowAt w (some ⟨b, o + m, none⟩) (bytesV (l.drop m)) := by
      have := RowAt.stretch h m l.length
      rwa [← bytesV_stretch, List.take_of_length_le (by simp)] at this
    have ycell : ∀ W, Below w.heap.size w W → ∀ x, l[m]? = some x → W.cell? ⟨b, o + m, none⟩ = some (.int .u8 x.toNat) := fun W hb x hx => by
      rw [hb.cell hbw]
      exact hcells m _ (by simp [bytesV, hx])
    have hpre : ∀ (W : World) (B : Option Addr) (d : Nat), RowAt W (some ⟨b, o + m, none⟩) (bytesV (l.drop m)) → RowAt W B (bytesV [13, 10]) →
        Calls Tryz.prog 137 #[.slice (some ⟨b, o + m, none⟩) (l.length - m) (cap - m), .slice B 2 d] W fun e w' => e = .returned (.bool (decide ((l.drop m).take 2 = [13, 10]))) ∧ W = w' := fun W B d h1 h2 => by
      have := prefix_any (cap := cap - m) (d := d) h1 h2 (by omega)
      rwa [hbl] at this
    have hidx : ∀ W : World, RowAt W (some ⟨b, o + m, none⟩) (bytesV (l.drop m)) →
        Calls Tryz.prog 114 #[.slice (some ⟨b, o + m, none⟩) (l.length - m) (cap - m), .int .u8 10] W fun e w' => e = .returned (.int .i64 (Lib.indexByte (l.drop m) 10)) ∧ W = w' := fun W h1 => by
      have := index_any (cap := cap - m) h1 (fun h => by cases h) 10
      rwa [hbl] at this
    have kc := fun (w : World) (C : Array Value) (n c : Nat) => Lib.run_convert_bytes_const (P := Tryz.prog) w 35 5 C n c Tryz.underlying35 Tryz.underlying5
    have HROW := Lib.hid hrowD
    have HPRE := Lib.hid hpre
    have HIDX := Lib.hid hidx
    have HCELL := Lib.hid ycell
    have HM := Lib.hid hm
    have hR : ∀ (v : Int) (gd th : Bool) (W : World), 0 ≤ v → th = (if (l.drop m).take 2 = [13, 10] then some (k + 2, true) else if l.drop m = [13] then none else (Sp.indexOf (l.drop m) 10).map fun i => (k + i + 1, false)).isSome →
        (∀ m' g, (if (l.drop m).take 2 = [13, 10] then some (k + 2, true) else if l.drop m = [13] then none else (Sp.indexOf (l.drop m) 10).map fun i => (k + i + 1, false)) = some (m', g) → v = (at' : Int) + (m' : Int) ∧ gd = g) → ((if (l.drop m).take 2 = [13, 10] then some (k + 2, true) else if l.drop m = [13] then none else (Sp.indexOf (l.drop m) 10).map fun i => (k + i + 1, false)) = none → gd = false) → Below w.heap.size w W →
        SkipPost w at' (if (l.drop m).take 2 = [13, 10] then some (k + 2, true) else if l.drop m = [13] then none else (Sp.indexOf (l.drop m) 10).map fun i => (k + i + 1, false)) (.returned (.tuple #[.int .i64 v, .bool gd, .bool th])) W := by
      rintro v gd th W h1 rfl h2 h4 h3
      obtain ⟨n, rfl⟩ := Int.eq_ofNat_of_zero_le h1
      exact ⟨n, gd, rfl, fun m' g e => ⟨by have := (h2 m' g e).1; omega, (h2 m' g e).2⟩, h4, h3⟩
    generalize SkipPost w at' _ = R at hR ⊢
    have HR := Lib.hid hR
    clear hR h hsk hdd hrowD hpre hidx ycell hA hcells
    go_enter Tryz.func116, Tryz.ntmps116
    go_upto_region 3 with (fail)
    go_cut [1] (fun a wx => a = .int .i64 (m : Nat) ∧ w = wx)
    case first =>
      go_wp2
      go_meet
      exact ⟨congrArg (Value.int .i64) (by omega), rfl⟩
    case rest =>
      obtain ⟨rfl, rfl⟩ := hcut
      have hmlt : m < l.length := by omega
      clear hm
      go_wp2_with fail
      refine (HPRE.out _ _ _ (HROW.out.alloc _) (const_row _ _ _ _)).mono ?_
      rintro e w1 ⟨rfl, hw1⟩
      have hb1 : Below w.heap.size w w1 := hw1 ▸ (Below.refl _ _).alloc (Nat.le_refl _) _
      clear hw1
      have HB1 := Lib.hid hb1
      clear hb1
      by_cases h2 : (l.drop m).take 2 = [13, 10]
      · have hd : decide ((l.drop m).take 2 = [13, 10]) = true := by simp [h2]
        have hfin := HR.out ((m : Int) + 2) true true w1 (by omega) (by rw [if_pos h2]; rfl) (by intro m' g e; rw [if_pos h2] at e; injection e with e; injection e with e1 e2; subst e1; subst e2; exact ⟨by have := HM.out; omega, rfl⟩) (by intro e; rw [if_pos h2] at e; cases e) HB1.out
        have HF := Lib.hid hfin
        clear hfin h2
        rw [hd]
        go_wp2_with fail
        exact bodyPost_ret (v := .tuple #[.int .i64 ((m : Int) + 2), .bool true, .bool true]) (by simp [results, Tryz.results116, go_sem]) rfl HF.out
      · have hd : decide ((l.drop m).take 2 = [13, 10]) = false := by simp [h2]
        have hi := indexByte_of 10 (l.drop m)
        have hidx := HIDX.out w1 (HROW.out.below HB1.out)
        rw [hi] at hidx
        have HI := Lib.hid hidx
        rw [hd]
        have htail : l.drop m ≠ [13] → (∀ i, Sp.indexOf (l.drop m) 10 = some i → R (.returned (.tuple #[.int .i64 ((m : Int) + (i : Int) + 1), .bool false, .bool true])) w1) ∧ (Sp.indexOf (l.drop m) 10 = none → R (.returned (.tuple #[.int .i64 (m : Int), .bool false, .bool false])) w1) := fun h13 => by
          refine ⟨fun i e => HR.out _ _ _ _ (by omega) ?_ ?_ (fun _ => rfl) HB1.out, fun e => HR.out _ _ _ _ (by omega) ?_ ?_ (fun _ => rfl) HB1.out⟩
          · rw [if_neg h2, if_neg h13, e]; rfl
          · intro m' g e'
            rw [if_neg h2, if_neg h13, e] at e'
            injection e' with e'; injection e' with e1 e2; subst e1; subst e2
            exact ⟨by have := HM.out; omega, rfl⟩
          · rw [if_neg h2, if_neg h13, e]; rfl
          · intro m' g e'
            rw [if_neg h2, if_neg h13, e] at e'
            cases e'
        have HT := Lib.hid htail
        clear hi hidx htail hd
        by_cases h3 : (l.length : Int) = (m : Int) + 1
        · have hml := hmlt
          obtain ⟨x, hx⟩ : ∃ x, l[m]? = some x := ⟨l[m], by simp [hml]⟩
          have hone : l.drop m = [x] := by
            rw [List.drop_eq_getElem_cons hml, List.drop_of_length_le (by omega)]
            rw [List.getElem?_eq_getElem hml] at hx
            injection hx with hx
            rw [hx]
          have x1 := HCELL.out w1 HB1.out x hx
          by_cases h13 : x = 13
          · subst h13
            have hfin := HR.out 0 false false w1 (by omega) (by rw [if_neg h2, if_pos hone]; rfl) (by intro m' g e; rw [if_neg h2, if_pos hone] at e; cases e) (fun _ => rfl) HB1.out
            have HF := Lib.hid hfin
            have hn13 : ((13 : UInt8).toNat : Int) = 13 := rfl
            rw [hn13] at x1
            clear hfin h2 hone hx hn13
            go_wp2_with fail
            exact bodyPost_ret (v := .tuple #[.int .i64 0, .bool false, .bool false]) (by simp [results, Tryz.results116, go_sem]) rfl HF.out
          · have hn13 : ¬ (x.toNat : Int) = 13 := fun e => h13 (UInt8.toNat_inj.1 (by have : (13 : UInt8).toNat = 13 := rfl; omega))
            have ht := HT.out (by rw [hone]; intro e; injection e with e _; exact h13 e)
            have HT2 := Lib.hid ht
            clear h2 hone hx h13 ht
            go_wp2_with fail
            refine HI.out.mono ?_
            rintro e w2 ⟨rfl, rfl⟩
            cases hio : Sp.indexOf (l.drop m) 10 with
            | none =>
              have hfin := HT2.out.2 hio
              have HF := Lib.hid hfin
              clear hfin hio
              dsimp only
              go_wp2_with fail
              exact bodyPost_ret (v := .tuple #[.int .i64 (m : Int), .bool false, .bool false]) (by simp [results, Tryz.results116, go_sem]; omega) rfl HF.out
            | some i =>
              have hfin := HT2.out.1 i hio
              have HF := Lib.hid hfin
              have hil := indexOf_in hio
              rw [hbl] at hil
              clear hfin hio
              dsimp only
              go_wp2_with fail
              exact bodyPost_ret (v := .tuple #[.int .i64 ((m : Int) + (i : Int) + 1), .bool false, .bool true]) (by simp [results, Tryz.results116, go_sem]) rfl HF.out
        · have ht := HT.out (fun e => h3 (by have := congrArg List.length e; simp at this; omega))
          have HT2 := Lib.hid ht
          clear h2 ht
          go_wp2_with fail
          refine HI.out.mono ?_
          rintro e w2 ⟨rfl, rfl⟩
          cases hio : Sp.indexOf (l.drop m) 10 with
          | none =>
            have hfin := HT2.out.2 hio
            have HF := Lib.hid hfin
            clear hfin hio
            dsimp only
            go_wp2_with fail
            exact bodyPost_ret (v := .tuple #[.int .i64 (m : Int), .bool false, .bool false]) (by simp [results, Tryz.results116, go_sem]; omega) rfl HF.out
          | some i =>
            have hfin := HT2.out.1 i hio
            have HF := Lib.hid hfin
            have hil := indexOf_in hio
            rw [hbl] at hil
            clear hfin hio
            dsimp only
            go_wp2_with fail
            exact bodyPost_ret (v := .tuple #[.int .i64 ((m : Int) + (i : Int) + 1), .bool false, .bool true]) (by simp [results, Tryz.results116, go_sem]) rfl HF.out
end Go.Proofs.YthgfjafnclklpaaGreatDoor
end
