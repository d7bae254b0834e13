/- The Book's lists of texts: their marks, how they are looked at. -/
import Derived.Test.YthgfjafnclklpaaGreatDoorQ39
import Derived.Test.YthgfjafnclklpaaGreatDoorPl
import Derived.Test.YthgfjafnclklpaaGreatDoorFm
namespace Go.Proofs.YthgfjafnclklpaaGreatDoor
attribute [local go_sem ↓] Go.wp_at_zero Go.wp_at_succ
open Go.RowKit

/-- a text of its own for each number -/
def wordV (i : Nat) : Sp.Bs := if i < 26 then [UInt8.ofNat (65 + i)] else wordV (i / 26 - 1) ++ [UInt8.ofNat (65 + i % 26)]
termination_by i
decreasing_by omega
theorem wordV_small {i : Nat} (h : i < 26) : wordV i = [UInt8.ofNat (65 + i)] := by rw [wordV, if_pos h]
theorem wordV_big {i : Nat} (h : ¬ i < 26) : wordV i = wordV (i / 26 - 1) ++ [UInt8.ofNat (65 + i % 26)] := by rw [wordV, if_neg h]
theorem wordV_len : ∀ i : Nat, (wordV i).length ≤ i + 1 := by
  intro i
  induction i using Nat.strongRecOn with
  | _ i ih =>
    by_cases h : i < 26
    · rw [wordV_small h]; simp
    · rw [wordV_big h, List.length_append, List.length_singleton]
      have := ih (i / 26 - 1) (by omega)
      omega

set_option maxHeartbeats 2000000 in
set_option maxRecDepth 100000 in
theorem kword_any : ∀ (i : Nat) (w : World), i ≤ 300000 →
    Calls Tryz.prog 97 #[.int .i64 i] w fun e w' => e = .returned (str (wordV i)) ∧ Below w.heap.size w w' := by
  intro i
  induction i using Nat.strongRecOn with
  | _ i ih =>
    intro w hn
    have hcell : ∀ (d : Nat) (W : World) (g : Nat), d < 26 → W.cell? ⟨g, 0, none⟩ = some (.int .u8 (65 + (d : Int))) → (convert 35 9 (.slice (some ⟨g, 0, none⟩) 1 1)).run Tryz.prog W = .ok (str [UInt8.ofNat (65 + d)]) W := fun d W g hd h0 => by
      have hx : (UInt8.ofNat (65 + d)).toNat = 65 + d := by
        rw [UInt8.toNat_ofNat']; exact Nat.mod_eq_of_lt (by omega)
      have := run_convert_bytes_back (P := Tryz.prog) W 35 9 5 ⟨g, 0, none⟩ 1 [UInt8.ofNat (65 + d)] Tryz.underlying35 Tryz.underlying5 Tryz.underlying9 (fun i hi => by
        obtain rfl : i = 0 := by simpa using hi
        show W.cell? ⟨g, 0, none⟩ = some (.int .u8 (((UInt8.ofNat (65 + d)).toNat : Nat) : Int))
        rw [hx, h0]; rfl)
      exact this
    by_cases h : i < 26
    · rw [wordV_small h]
      have hcv := hcell i (w.alloc (.cells #[.int .u8 (65 + (i : Int))] 5)) w.heap.size h ((Blk.new w 5 #[.int .u8 (65 + (i : Int))]).cell 0)
      have hg : decide ((i : Int) < 26) = true := decide_eq_true (by omega)
      generalize UInt8.ofNat (65 + i) = x at hcv ⊢
      have hB : Below w.heap.size w (w.alloc (.cells #[.int .u8 (65 + (i : Int))] 5)) := (Below.refl _ _).alloc (Nat.le_refl _) _
      have HB := Lib.hid hB
      clear hB ih hcell
      go_enter Tryz.func97, Tryz.ntmps97
      go_wp2_with fail
      go_ret
      exact ⟨rfl, HB.out⟩
    · rw [wordV_big h]
      have h1 := fun W : World => ih (i / 26 - 1) (by omega) W (by omega)
      rw [show ((i / 26 - 1 : Nat) : Int) = (i : Int) / 26 - 1 by omega] at h1
      have hl := wordV_len (i / 26 - 1)
      have hcv := fun (W : World) (g : Nat) => hcell (i % 26) W g (by omega)
      rw [show ((i % 26 : Nat) : Int) = (i : Int) % 26 by omega] at hcv
      have hi3 : i / 26 - 1 ≤ 300000 := by omega
      generalize wordV (i / 26 - 1) = d at h1 hl ⊢
      generalize UInt8.ofNat (65 + i % 26) = x at hcv ⊢
      have hl2 : ¬ (9223372036854775807 < List.length d + 1) := by omega
      have hap : (({ data := d.toArray } : ByteArray) ++ { data := [x].toArray }) = ⟨(d ++ [x]).toArray⟩ := by
        apply ByteArray.ext
        simp
      have hg : decide ((i : Int) < 26) = false := decide_eq_false (by omega)
      have hcn := fun W : World => hcv (W.alloc (.cells #[.int .u8 (65 + (i : Int) % 26)] 5)) W.heap.size ((Blk.new W 5 #[.int .u8 (65 + (i : Int) % 26)]).cell 0)
      have hcd := fun W : World => hcv (W.alloc (.cells #[.int .u8 (65 + (i : Int) % 26)] 5)).drew W.heap.size ((Blk.new W 5 #[.int .u8 (65 + (i : Int) % 26)]).drew.cell 0)
      have hcm : ∀ W w2 : World, Below (W.alloc (.cells #[.int .u8 (65 + (i : Int) % 26)] 5)).drew.heap.size (W.alloc (.cells #[.int .u8 (65 + (i : Int) % 26)] 5)).drew w2 → (convert 35 9 (.slice (some ⟨W.heap.size, 0, none⟩) 1 1)).run Tryz.prog w2 = .ok (str [x]) w2 := fun W w2 hb => hcv w2 W.heap.size (((Blk.new W 5 #[.int .u8 (65 + (i : Int) % 26)]).drew.later hb).cell 0)
      have hB := fun W : World => (Below.refl W.heap.size W).alloc (Nat.le_refl _) (.cells #[.int .u8 (65 + (i : Int) % 26)] 5)
      have HB := Lib.hid hB
      have hw1 : IntKind.i64.wrap ((i : Int) / 26) = (i : Int) / 26 := by
        rw [IntKind.wrap_i64]; omega
      have hw2 : IntKind.i64.wrap ((i : Int) / 26 - 1) = (i : Int) / 26 - 1 := by
        rw [IntKind.wrap_i64]; omega
      have hw3 : (i : Int).tmod 26 = (i : Int) % 26 := Int.tmod_eq_emod_of_nonneg (by omega)
      have hw4 : IntKind.i64.wrap (65 + (i : Int) % 26) = 65 + (i : Int) % 26 := by
        rw [IntKind.wrap_i64]; omega
      have hw5 : IntKind.u8.wrap (65 + (i : Int) % 26) = 65 + (i : Int) % 26 := by
        rw [IntKind.wrap_u8]; omega
      have H1 := Lib.hid h1
      have HCM := Lib.hid hcm
      clear h1 ih hcell hcv hcm hB
      go_enter Tryz.func97, Tryz.ntmps97
      go_upto_region 3 with fail
      refine wp_region_held_drew (S := (fun w' => True)) (by kernel_rfl) (by trivial) (fun hHeld => ?_)
      refine wpAnyH_take (i := 0) (oi := ({ dst := some 10, op := Op.move (Operand.tmp 0), type := 3, pos := "keep.go:415", after := #[], guard := none } : Oper)) (v := ?v_1) rfl (by kernel_rfl) (by kernel_rfl) (by kernel_rfl) (fun _ _ _ h => h) (Or.inl ⟨by rfl, ?hy_1⟩) (by assumption) ?rest_1
      case hy_1 => (intro w hSw; (try dsimp only at hSw); go_simp; try with_reducible rfl)
      try simp only [Act.put, List.setIfInBounds_toArray, List.set_cons_zero, List.set_cons_succ]
      refine wpAnyH_take (i := 1) (oi := ({ dst := some 11, op := Op.binOp BinOp.quo 3 (Operand.tmp 10) (Operand.const (Value.int IntKind.i64 26)) 3, type := 3, pos := "keep.go:415", after := #[{ on := 0, ground := Ground.data }], guard := none } : Oper)) (v := ?v_2) rfl (by kernel_rfl) (by kernel_rfl) (by kernel_rfl) (fun _ _ _ h => h) (Or.inl ⟨by rfl, ?hy_2⟩) (by assumption) ?rest_2
      case hy_2 => (intro w hSw; (try dsimp only at hSw); go_simp; try with_reducible rfl)
      try simp only [Act.put, List.setIfInBounds_toArray, List.set_cons_zero, List.set_cons_succ]
      refine wpAnyH_take (i := 2) (oi := ({ dst := some 12, op := Op.binOp BinOp.sub 3 (Operand.tmp 11) (Operand.const (Value.int IntKind.i64 1)) 3, type := 3, pos := "keep.go:415", after := #[{ on := 1, ground := Ground.data }], guard := none } : Oper)) (v := ?v_3) rfl (by kernel_rfl) (by kernel_rfl) (by kernel_rfl) (fun _ _ _ h => h) (Or.inl ⟨by rfl, ?hy_3⟩) (by assumption) ?rest_3
      case hy_3 => (intro w hSw; (try dsimp only at hSw); go_simp; try with_reducible rfl)
      try simp only [Act.put, List.setIfInBounds_toArray, List.set_cons_zero, List.set_cons_succ]
      refine wpAnyH_take (i := 4) (oi := ({ dst := some 14, op := Op.move (Operand.tmp 0), type := 3, pos := "keep.go:415", after := #[], guard := none } : Oper)) (v := ?v_4) rfl (by kernel_rfl) (by kernel_rfl) (by kernel_rfl) (fun _ _ _ h => h) (Or.inl ⟨by rfl, ?hy_4⟩) (by assumption) ?rest_4
      case hy_4 => (intro w hSw; (try dsimp only at hSw); go_simp; try with_reducible rfl)
      try simp only [Act.put, List.setIfInBounds_toArray, List.set_cons_zero, List.set_cons_succ]
      refine wpAnyH_take (i := 5) (oi := ({ dst := some 15, op := Op.binOp BinOp.rem 3 (Operand.tmp 14) (Operand.const (Value.int IntKind.i64 26)) 3, type := 3, pos := "keep.go:415", after := #[{ on := 4, ground := Ground.data }], guard := none } : Oper)) (v := ?v_5) rfl (by kernel_rfl) (by kernel_rfl) (by kernel_rfl) (fun _ _ _ h => h) (Or.inl ⟨by rfl, ?hy_5⟩) (by assumption) ?rest_5
      case hy_5 => (intro w hSw; (try dsimp only at hSw); go_simp; try with_reducible rfl)
      try simp only [Act.put, List.setIfInBounds_toArray, List.set_cons_zero, List.set_cons_succ]
      refine wpAnyH_take (i := 6) (oi := ({ dst := some 16, op := Op.binOp BinOp.add 3 (Operand.const (Value.int IntKind.i64 65)) (Operand.tmp 15) 3, type := 3, pos := "keep.go:415", after := #[{ on := 5, ground := Ground.data }], guard := none } : Oper)) (v := ?v_6) rfl (by kernel_rfl) (by kernel_rfl) (by kernel_rfl) (fun _ _ _ h => h) (Or.inl ⟨by rfl, ?hy_6⟩) (by assumption) ?rest_6
      case hy_6 => (intro w hSw; (try dsimp only at hSw); go_simp; try with_reducible rfl)
      try simp only [Act.put, List.setIfInBounds_toArray, List.set_cons_zero, List.set_cons_succ]
      refine wpAnyH_take (i := 7) (oi := ({ dst := some 17, op := Op.convert 3 5 (Operand.tmp 16), type := 5, pos := "keep.go:415", after := #[{ on := 6, ground := Ground.data }], guard := none } : Oper)) (v := ?v_7) rfl (by kernel_rfl) (by kernel_rfl) (by kernel_rfl) (fun _ _ _ h => h) (Or.inl ⟨by rfl, ?hy_7⟩) (by assumption) ?rest_7
      case hy_7 => (intro w hSw; (try dsimp only at hSw); go_simp; try with_reducible rfl)
      try simp only [Act.put, List.setIfInBounds_toArray, List.set_cons_zero, List.set_cons_succ]
      refine wpAnyH_ready (rs := [3, 8]) (by kernel_rfl) (by simp) ?_
      refine (AllReadyH.cons (o := ({ dst := some 13, op := Op.call { callee := Callee.value (Operand.func 97), args := #[Operand.tmp 12], argTypes := #[3] }, type := 9, pos := "keep.go:415", after := #[{ on := 2, ground := Ground.data }], guard := none } : Oper)) rfl (fun K' hK' => ?_) (AllReadyH.cons (o := ({ dst := some 18, op := Op.buildSlice 35 1 #[(0, Operand.tmp 17)], type := 35, pos := "keep.go:415", after := #[{ on := 7, ground := Ground.data }], guard := none } : Oper)) rfl (fun K' hK' => ?_) AllReadyH.nil))
      · go_simp
        (with_reducible refine (H1.out _).mono ?_; rintro e w2 ⟨rfl, hb2⟩; (first | (have hcv2 := HCM.out w w2 (by with_reducible exact hb2)) | skip); have HB2 := Lib.hid hb2; clear hb2)
        refine hK'.out _ _ (by trivial) (fun _ => ?_)
        clear hK' K'
        try simp only [Act.put, List.setIfInBounds_toArray, List.set_cons_zero, List.set_cons_succ]
        refine wpAnyH_ready (rs := [8]) (by kernel_rfl) (by simp) ?_
        refine AllReadyH.cons (o := ({ dst := some 18, op := Op.buildSlice 35 1 #[(0, Operand.tmp 17)], type := 35, pos := "keep.go:415", after := #[{ on := 7, ground := Ground.data }], guard := none } : Oper)) rfl (fun K' hK' => ?_) AllReadyH.nil
        go_simp
        refine hK'.out _ _ (by trivial) (fun _ => ?_)
        clear hK' K'
        try simp only [Act.put, List.setIfInBounds_toArray, List.set_cons_zero, List.set_cons_succ]
        refine wpAnyH_ready (rs := [9]) (by kernel_rfl) (by simp) ?_
        refine AllReadyH.cons (o := ({ dst := some 19, op := Op.convert 35 9 (Operand.tmp 18), type := 9, pos := "keep.go:415", after := #[{ on := 8, ground := Ground.data }], guard := none } : Oper)) rfl (fun K' hK' => ?_) AllReadyH.nil
        go_simp
        refine hK'.out _ _ (by trivial) (fun _ => ?_)
        clear hK' K'
        try simp only [Act.put, List.setIfInBounds_toArray, List.set_cons_zero, List.set_cons_succ]
        refine wpAnyH_ready (rs := [10]) (by kernel_rfl) (by simp) ?_
        refine AllReadyH.cons (o := ({ dst := some 20, op := Op.binOp BinOp.add 9 (Operand.tmp 13) (Operand.tmp 19) 9, type := 9, pos := "keep.go:415", after := #[{ on := 3, ground := Ground.data }, { on := 9, ground := Ground.data }], guard := none } : Oper)) rfl (fun K' hK' => ?_) AllReadyH.nil
        go_simp
        refine hK'.out _ _ (by trivial) (fun _ => ?_)
        clear hK' K'
        try simp only [Act.put, List.setIfInBounds_toArray, List.set_cons_zero, List.set_cons_succ]
        refine wpAnyH_take (i := 11) (oi := ({ dst := some 2, op := Op.assign (Operand.tmp 20), type := 9, pos := "keep.go:415", after := #[{ on := 10, ground := Ground.data }, { on := 3, ground := Ground.chain }, { on := 0, ground := Ground.phase }, { on := 1, ground := Ground.phase }, { on := 2, ground := Ground.phase }, { on := 3, ground := Ground.phase }, { on := 4, ground := Ground.phase }, { on := 5, ground := Ground.phase }, { on := 6, ground := Ground.phase }, { on := 7, ground := Ground.phase }, { on := 8, ground := Ground.phase }, { on := 9, ground := Ground.phase }, { on := 10, ground := Ground.phase }], guard := none } : Oper)) (v := ?v_8) rfl (by kernel_rfl) (by kernel_rfl) (by kernel_rfl) (fun _ _ _ h => h) (Or.inl ⟨by rfl, ?hy_8⟩) (by assumption) ?rest_8
        case hy_8 => (intro w hSw; (try dsimp only at hSw); go_simp; try with_reducible rfl)
        try simp only [Act.put, List.setIfInBounds_toArray, List.set_cons_zero, List.set_cons_succ]
        refine wpAnyH_done (by kernel_rfl) ?_ _
        go_wp2_with fail
        go_ret
        first | exact ⟨rfl, ((Below.refl _ w).drew.trans HB2.out).alloc HB2.out.size _⟩ | exact ⟨rfl, (HB.out w).drew.trans (HB2.out.mono (HB.out w).size)⟩
      · go_simp
        refine hK'.out _ _ (by trivial) (fun _ => ?_)
        clear hK' K'
        try simp only [Act.put, List.setIfInBounds_toArray, List.set_cons_zero, List.set_cons_succ]
        refine wpAnyH_ready (rs := [3, 9]) (by kernel_rfl) (by simp) ?_
        refine (AllReadyH.cons (o := ({ dst := some 13, op := Op.call { callee := Callee.value (Operand.func 97), args := #[Operand.tmp 12], argTypes := #[3] }, type := 9, pos := "keep.go:415", after := #[{ on := 2, ground := Ground.data }], guard := none } : Oper)) rfl (fun K' hK' => ?_) (AllReadyH.cons (o := ({ dst := some 19, op := Op.convert 35 9 (Operand.tmp 18), type := 9, pos := "keep.go:415", after := #[{ on := 8, ground := Ground.data }], guard := none } : Oper)) rfl (fun K' hK' => ?_) AllReadyH.nil))
        · go_simp
          (with_reducible refine (H1.out _).mono ?_; rintro e w2 ⟨rfl, hb2⟩; (first | (have hcv2 := HCM.out w w2 (by with_reducible exact hb2)) | skip); have HB2 := Lib.hid hb2; clear hb2)
          refine hK'.out _ _ (by trivial) (fun _ => ?_)
          clear hK' K'
          try simp only [Act.put, List.setIfInBounds_toArray, List.set_cons_zero, List.set_cons_succ]
          refine wpAnyH_ready (rs := [9]) (by kernel_rfl) (by simp) ?_
          refine AllReadyH.cons (o := ({ dst := some 19, op := Op.convert 35 9 (Operand.tmp 18), type := 9, pos := "keep.go:415", after := #[{ on := 8, ground := Ground.data }], guard := none } : Oper)) rfl (fun K' hK' => ?_) AllReadyH.nil
          go_simp
          refine hK'.out _ _ (by trivial) (fun _ => ?_)
          clear hK' K'
          try simp only [Act.put, List.setIfInBounds_toArray, List.set_cons_zero, List.set_cons_succ]
          refine wpAnyH_ready (rs := [10]) (by kernel_rfl) (by simp) ?_
          refine AllReadyH.cons (o := ({ dst := some 20, op := Op.binOp BinOp.add 9 (Operand.tmp 13) (Operand.tmp 19) 9, type := 9, pos := "keep.go:415", after := #[{ on := 3, ground := Ground.data }, { on := 9, ground := Ground.data }], guard := none } : Oper)) rfl (fun K' hK' => ?_) AllReadyH.nil
          go_simp
          refine hK'.out _ _ (by trivial) (fun _ => ?_)
          clear hK' K'
          try simp only [Act.put, List.setIfInBounds_toArray, List.set_cons_zero, List.set_cons_succ]
          refine wpAnyH_take (i := 11) (oi := ({ dst := some 2, op := Op.assign (Operand.tmp 20), type := 9, pos := "keep.go:415", after := #[{ on := 10, ground := Ground.data }, { on := 3, ground := Ground.chain }, { on := 0, ground := Ground.phase }, { on := 1, ground := Ground.phase }, { on := 2, ground := Ground.phase }, { on := 3, ground := Ground.phase }, { on := 4, ground := Ground.phase }, { on := 5, ground := Ground.phase }, { on := 6, ground := Ground.phase }, { on := 7, ground := Ground.phase }, { on := 8, ground := Ground.phase }, { on := 9, ground := Ground.phase }, { on := 10, ground := Ground.phase }], guard := none } : Oper)) (v := ?v_9) rfl (by kernel_rfl) (by kernel_rfl) (by kernel_rfl) (fun _ _ _ h => h) (Or.inl ⟨by rfl, ?hy_9⟩) (by assumption) ?rest_9
          case hy_9 => (intro w hSw; (try dsimp only at hSw); go_simp; try with_reducible rfl)
          try simp only [Act.put, List.setIfInBounds_toArray, List.set_cons_zero, List.set_cons_succ]
          refine wpAnyH_done (by kernel_rfl) ?_ _
          go_wp2_with fail
          go_ret
          first | exact ⟨rfl, ((Below.refl _ w).drew.trans HB2.out).alloc HB2.out.size _⟩ | exact ⟨rfl, (HB.out w).drew.trans (HB2.out.mono (HB.out w).size)⟩
        · go_simp
          refine hK'.out _ _ (by trivial) (fun _ => ?_)
          clear hK' K'
          try simp only [Act.put, List.setIfInBounds_toArray, List.set_cons_zero, List.set_cons_succ]
          refine wpAnyH_ready (rs := [3]) (by kernel_rfl) (by simp) ?_
          refine AllReadyH.cons (o := ({ dst := some 13, op := Op.call { callee := Callee.value (Operand.func 97), args := #[Operand.tmp 12], argTypes := #[3] }, type := 9, pos := "keep.go:415", after := #[{ on := 2, ground := Ground.data }], guard := none } : Oper)) rfl (fun K' hK' => ?_) AllReadyH.nil
          go_simp
          (with_reducible refine (H1.out _).mono ?_; rintro e w2 ⟨rfl, hb2⟩; (first | (have hcv2 := HCM.out w w2 (by with_reducible exact hb2)) | skip); have HB2 := Lib.hid hb2; clear hb2)
          refine hK'.out _ _ (by trivial) (fun _ => ?_)
          clear hK' K'
          try simp only [Act.put, List.setIfInBounds_toArray, List.set_cons_zero, List.set_cons_succ]
          refine wpAnyH_ready (rs := [10]) (by kernel_rfl) (by simp) ?_
          refine AllReadyH.cons (o := ({ dst := some 20, op := Op.binOp BinOp.add 9 (Operand.tmp 13) (Operand.tmp 19) 9, type := 9, pos := "keep.go:415", after := #[{ on := 3, ground := Ground.data }, { on := 9, ground := Ground.data }], guard := none } : Oper)) rfl (fun K' hK' => ?_) AllReadyH.nil
          go_simp
          refine hK'.out _ _ (by trivial) (fun _ => ?_)
          clear hK' K'
          try simp only [Act.put, List.setIfInBounds_toArray, List.set_cons_zero, List.set_cons_succ]
          refine wpAnyH_take (i := 11) (oi := ({ dst := some 2, op := Op.assign (Operand.tmp 20), type := 9, pos := "keep.go:415", after := #[{ on := 10, ground := Ground.data }, { on := 3, ground := Ground.chain }, { on := 0, ground := Ground.phase }, { on := 1, ground := Ground.phase }, { on := 2, ground := Ground.phase }, { on := 3, ground := Ground.phase }, { on := 4, ground := Ground.phase }, { on := 5, ground := Ground.phase }, { on := 6, ground := Ground.phase }, { on := 7, ground := Ground.phase }, { on := 8, ground := Ground.phase }, { on := 9, ground := Ground.phase }, { on := 10, ground := Ground.phase }], guard := none } : Oper)) (v := ?v_10) rfl (by kernel_rfl) (by kernel_rfl) (by kernel_rfl) (fun _ _ _ h => h) (Or.inl ⟨by rfl, ?hy_10⟩) (by assumption) ?rest_10
          case hy_10 => (intro w hSw; (try dsimp only at hSw); go_simp; try with_reducible rfl)
          try simp only [Act.put, List.setIfInBounds_toArray, List.set_cons_zero, List.set_cons_succ]
          refine wpAnyH_done (by kernel_rfl) ?_ _
          go_wp2_with fail
          go_ret
          first | exact ⟨rfl, ((Below.refl _ w).drew.trans HB2.out).alloc HB2.out.size _⟩ | exact ⟨rfl, (HB.out w).drew.trans (HB2.out.mono (HB.out w).size)⟩

/-- mark and growth of the i-th list of texts -/
def markT (n i k : Nat) : List Value := if k < n then [str (wordV i)] else [.string ({ data := #[43] } ++ { data := (wordV i).toArray })]
theorem markT_length (n i k : Nat) : (markT n i k).length = 1 := by unfold markT; split <;> rfl
theorem markT_low {n i k : Nat} (h : k < n) : markT n i k = [str (wordV i)] := if_pos h
theorem markT_high {n i k : Nat} (h : n ≤ k) : markT n i k = [.string ({ data := #[43] } ++ { data := (wordV i).toArray })] := if_neg (by omega)
def plusT (i : Nat) (_ : Nat) : List Value := [.string ({ data := #[43] } ++ { data := (wordV i).toArray })]
theorem plusT_length (i k : Nat) : (plusT i k).length = 1 := rfl
theorem plusT_is (i k : Nat) : plusT i k = [.string ({ data := #[43] } ++ { data := (wordV i).toArray })] := rfl
theorem info_strB : (Tryz.prog.info? 9).map (fun i => (i.zero, i.size, i.bytes)) = some (some (.string ⟨#[]⟩), 1, 16) := by kernel_rfl
theorem info_textsB : (Tryz.prog.info? 33).map (fun i => (i.zero, i.size, i.bytes)) = some (some (.slice none 0 0), 1, 24) := by kernel_rfl

/-- the lists ahead of i are full, and of list i so many places; new memory between them -/
structure FillX (w : World) (f : Nat → Lab) (tb : TypeId) (bk : Nat) (arr : Array Value) (kd sz : Nat) (F : Nat → Nat → List Value) (b0 : Value) (vs : List Value) (ns : Nat → Nat) (i k : Nat) (f1 : Nat → Lab) (wr : World) : Prop where
  blk : Blk wr bk tb arr
  self : f1 bk = (1, 0)
  row : RowL wr f1 (10 + kd, 0) b0 vs
  lots : LotsAt wr f1 kd sz vs ns (fun j => if j < i then ns j else if j = i then k else 0) F
  only : OnlyL f f1 (OnK kd) w wr
section
variable {w wr w2 : World} {f f1 f2 : Nat → Lab} {tb : TypeId} {bk : Nat} {arr : Array Value} {kd sz : Nat} {F : Nat → Nat → List Value} {b0 : Value} {vs : List Value} {ns : Nat → Nat} {i k j0 j1 j2 : Nat}
theorem FillX.of (h : Fill w f tb bk arr kd sz F b0 vs ns i k wr) (hs : f bk = (1, 0)) : FillX w f tb bk arr kd sz F b0 vs ns i k f wr := ⟨h.blk, hs, h.row, h.lots, h.only⟩
theorem FillX.back (h : FillX w f tb bk arr kd sz F b0 vs ns i k f1 wr) : Fill wr f1 tb bk arr kd sz F b0 vs ns i k wr := ⟨h.blk, h.row, h.lots, OnlyL.refl _ _ _⟩
theorem FillX.temp (h : FillX w f tb bk arr kd sz F b0 vs ns i k f1 wr) (hk2 : 2 ≤ kd) {j : Nat} (hj : 4 ≤ j) (ho : OnlyL f1 f2 (· = (10 + kd, j)) wr w2) : FillX w f tb bk arr kd sz F b0 vs ns i k f2 w2 :=
  ⟨h.blk.same (ho.block bk h.blk.lt (by rw [h.self]; exact fun e => by injection e with e _; omega)), by rw [ho.lab bk h.blk.lt]; exact h.self, h.row.apart ho (fun e => by injection e with _ e; omega),
    h.lots.apart ho (fun j e => by injection e with e _; omega), h.only.trans (ho.mono fun l hl => by subst hl; exact .inr (.inr rfl))⟩
theorem FillX.next (h : FillX w f tb bk arr kd sz F b0 vs ns i (ns i) f1 wr) : FillX w f tb bk arr kd sz F b0 vs ns (i + 1) 0 f1 wr :=
  ⟨h.blk, h.self, h.row, h.back.next.lots, h.only⟩
theorem FillX.put (h : FillX w f tb bk arr kd sz F b0 vs ns i k f1 wr) (hF : ∀ i k, (F i k).length = sz) (hkd : kd ≠ 1) {g cap : Nat} (hu : vs[i]? = some (.slice (some ⟨g, 0, none⟩) (ns i) cap)) (hk : k < ns i) {news : List Value} (hn : news = F i k) :
    FillX w f tb bk arr kd sz F b0 vs ns i (k + 1) f1 (wr.setCells g (k * sz) news) := by
  have hp := h.back.put hF h.self hkd hu hk hn
  exact ⟨hp.blk, h.self, hp.row, hp.lots, h.only.trans hp.only⟩
theorem FillX.shut (h : FillX w f tb bk arr kd sz F b0 vs ns vs.length 0 f1 wr) (h0 : arr[j0]? = some b0) (h1 : arr[j1]? = some (.slice none 0 0)) (h2 : arr[j2]? = some (.slice none 0 0)) :
    Shut w f tb bk arr kd sz j0 j1 j2 F b0 vs ns arr (.slice none 0 0) [] (.slice none 0 0) [] f1 wr := by
  have hp := h.back.shut (j0 := j0) (j1 := j1) (j2 := j2) h.self h0 h1 h2
  exact { hp with only := h.only.trans hp.only }
end
theorem cell_past {w w' : World} {p : Addr} {u : Value} (h : w.cell? p = some u) (hb : Below w.heap.size w w') : w'.cell? p = some u := by
  rw [hb.cell (World.block_lt_of_cell? w _ h)]
  exact h
theorem frozen_below2 {w w' : World} {g o : Nat} {v : Value} (hc : w.cell? ⟨g, o, none⟩ = some v) (h : w.frozen? ⟨g, o, none⟩ = false) (hb : Below w.heap.size w w') : w'.frozen? ⟨g, o, none⟩ = false :=
  (World.frozen?_of_block (hb.block g (World.block_lt_of_cell? w _ hc))).trans h

theorem loadVar_textB (a : Addr) : type_of% (loadVar.eq_1 33 a) := loadVar.eq_1 33 a
theorem loadVar_textsB2 (a : Addr) : type_of% (loadVar.eq_1 26 a) := loadVar.eq_1 26 a
theorem loadVar_strB (a : Addr) : type_of% (loadVar.eq_1 9 a) := loadVar.eq_1 9 a
theorem storeVar_strB (t : TypeId) (a : Addr) (s : ByteArray) : type_of% (storeVar.eq_1 t a (.string s)) := storeVar.eq_1 t a (.string s)
section
attribute [-go_sem] storeVar loadVar
attribute [local go_sem] storeVar_intB storeVar_sliceB storeVar_strB loadVar_textB loadVar_textsB2 loadVar_strB

set_option maxHeartbeats 4000000 in
set_option maxRecDepth 100000 in
theorem lookTexts_any {w : World} {f : Nat → Lab} {bk : Nat} {b0 X : Value} {vs xs : List Value} {ns : Nat → Nat} {d : Nat} {l0 lx : Lab} (hN : vs.length ≤ 300000) (hns : ∀ i, ns i ≤ 70368744177664) (hd : d ≤ 1000) (hx : xs.length = vs.length)
    (y0 : w.cell? ⟨bk, 8, none⟩ = some b0) (h0 : RowL w f l0 b0 vs) (h1 : LotsAt w f 3 1 vs ns ns (fun i => markT (ns i) i)) (h2 : RowL w f lx X xs) (h3 : LotsAt w f 3 1 xs (fun i => ns i + d) (fun i => ns i + d) (fun i => markT (ns i) i)) :
    Calls Tryz.prog 98 #[.pointer (some ⟨bk, 0, none⟩), X] w fun e w' => e = .returned (.bool true) ∧ Below w.heap.size w w' := by
  obtain ⟨AX, cx, hX⟩ := h2.form
  obtain ⟨A0, c0, hA0⟩ := h0.form
  subst hX
  subst hA0
  have H0 := Lib.hid h0
  have H1 := Lib.hid h1
  have H2 := Lib.hid h2
  have H3 := Lib.hid h3
  have HNS := Lib.hid hns
  rw [hx] at H2 ⊢
  have HX := Lib.hid hx
  clear h0 h1 h2 h3 hns hx
  have Y0 := Lib.hid y0
  clear y0
  go_enter Tryz.func98, Tryz.ntmps98
  go_wp2_with fail
  go_loopw [5, 6, 7] (fun iv _ _ wr => ∃ i : Nat, i ≤ vs.length ∧ iv = .int .i64 i ∧ Below w.heap.size w wr) (fun iv _ _ _ => vs.length - (intOf iv).toNat)
  case atStart => exact ⟨0, Nat.zero_le _, rfl, Below.refl _ _⟩
  case round =>
    obtain ⟨i, hi, rfl, hbw⟩ := hrel
    have HBW := Lib.hid hbw
    have y0 := cell_past Y0.out hbw
    clear hbw
    by_cases hlt : i < vs.length
    · obtain ⟨u, hu⟩ : ∃ u, vs[i]? = some u := ⟨vs[i], List.getElem?_eq_getElem hlt⟩
      obtain ⟨v, hv⟩ : ∃ v, xs[i]? = some v := ⟨xs[i]'(by rw [HX.out]; exact hlt), List.getElem?_eq_getElem _⟩
      obtain ⟨gr, cr, hb0, hcell, _⟩ := H0.out.at hu
      obtain ⟨gx, cx', hbx, hcellx, _⟩ := H2.out.at hv
      injection hb0 with e1 _ e3
      subst e1 e3
      injection hbx with e1 e2 e3
      subst e1 e3
      clear e2
      have hl1 := (H1.out i u hu).1
      have hl3 := (H3.out i v hv).1
      obtain ⟨U, cu, rfl⟩ := hl1.form
      obtain ⟨V, cv, rfl⟩ := hl3.form
      have hi1 : (i : Int) < (vs.length : Int) := by omega
      have hni := HNS.out i
      obtain ⟨n, hn⟩ : ∃ n, n = ns i := ⟨_, rfl⟩
      dsimp only at hl1 hl3 hcell hcellx
      rw [← hn] at hni hl1 hl3 hcell hcellx
      have HL1 := Lib.hid hl1
      have HL3 := Lib.hid hl3
      have HC := Lib.hid hcell
      have HCX := Lib.hid hcellx
      have hcell := cell_past HC.out HBW.out
      have hcellx := cell_past HCX.out HBW.out
      have hwd := fun W : World => kword_any i W (by omega)
      have hwl := wordV_len i
      have hwl2 : ¬ (9223372036854775807 < 1 + List.length (wordV i)) := by omega
      have HWD := Lib.hid hwd
      clear hu hv hlt hl1 hl3 hn hwd
      go_wp2_with fail
      go_loopw [7] (fun kv wr => ∃ k : Nat, k ≤ n + d ∧ kv = .int .i64 k ∧ Below w.heap.size w wr) (fun kv _ => n + d - (intOf kv).toNat)
      case atStart => exact ⟨0, Nat.zero_le _, rfl, HBW.out⟩
      case round =>
        obtain ⟨k, hk, rfl, hbw⟩ := hrel
        have z0 := cell_past Y0.out hbw
        have zi := cell_past HC.out hbw
        have zx := cell_past HCX.out hbw
        by_cases hlk : k < n + d
        · have hk1 : (k : Int) < (n : Int) + (d : Int) := by omega
          by_cases hkn : k < n
          · obtain ⟨g1, c1, e1, z1⟩ := HL1.out.at (k := k) (c := 0) (u := str (wordV i)) hkn (by rw [markT_low hkn]; rfl)
            obtain ⟨g3, c3, e3, z3⟩ := HL3.out.at (k := k) (c := 0) (u := str (wordV i)) hlk (by rw [markT_low hkn]; rfl)
            rw [Nat.mul_one, Nat.add_zero] at z1 z3
            injection e1 with e1 _ _
            injection e3 with e3 _ _
            subst e1 e3
            have z1 := cell_past z1 hbw
            have z3 := cell_past z3 hbw
            have hk2 : (k : Int) < (n : Int) := by omega
            have hk3 : decide ((n : Int) ≤ (k : Int)) = false := decide_eq_false (by omega)
            have hk4 : decide (n ≤ k) = false := decide_eq_false (by omega)
            have HBV := Lib.hid (hbw.drew)
            clear hlk hkn hbw
            go_upto_region 8 with fail
            have z0 : wr.drew.cell? ⟨bk, 8, none⟩ = _ := z0
            have zi : wr.drew.cell? ⟨gr, i, none⟩ = _ := zi
            have zx : wr.drew.cell? ⟨gx, i, none⟩ = _ := zx
            have z1 : wr.drew.cell? ⟨g1, k, none⟩ = _ := z1
            have z3 : wr.drew.cell? ⟨g3, k, none⟩ = _ := z3
            refine wp_region_held_drew (S := (fun w' => w'.cell? ⟨bk, 8, none⟩ = some (.slice (some ⟨gr, 0, none⟩) vs.length c0) ∧ w'.cell? ⟨gr, i, none⟩ = some (.slice (some ⟨g1, 0, none⟩) n cu) ∧ w'.cell? ⟨gx, i, none⟩ = some (.slice (some ⟨g3, 0, none⟩) (n + d) cv) ∧ w'.cell? ⟨g1, k, none⟩ = some (str (wordV i)) ∧ w'.cell? ⟨g3, k, none⟩ = some (str (wordV i)))) (by kernel_rfl) (by exact ⟨z0, zi, zx, z1, z3⟩) (fun hHeld => ?_)
            refine wpAnyH_take (i := 0) (oi := ({ dst := some 31, op := Op.move (Operand.tmp 7), type := 3, pos := "keep.go:250", after := #[], guard := none } : Oper)) (v := ?v_1) rfl (by kernel_rfl) (by kernel_rfl) (by kernel_rfl) (fun _ _ _ h => h) (Or.inl ⟨by rfl, ?hy_1⟩) (by assumption) ?rest_1
            case hy_1 => (intro w hSw; (try dsimp only at hSw); go_simp; try with_reducible rfl)
            try simp only [Act.put, List.setIfInBounds_toArray, List.set_cons_zero, List.set_cons_succ]
            refine wpAnyH_take (i := 1) (oi := ({ dst := some 32, op := Op.move (Operand.tmp 6), type := 3, pos := "keep.go:250", after := #[], guard := none } : Oper)) (v := ?v_2) rfl (by kernel_rfl) (by kernel_rfl) (by kernel_rfl) (fun _ _ _ h => h) (Or.inl ⟨by rfl, ?hy_2⟩) (by assumption) ?rest_2
            case hy_2 => (intro w hSw; (try dsimp only at hSw); go_simp; try with_reducible rfl)
            try simp only [Act.put, List.setIfInBounds_toArray, List.set_cons_zero, List.set_cons_succ]
            refine wpAnyH_take (i := 2) (oi := ({ dst := some 33, op := Op.binOp BinOp.lss 3 (Operand.tmp 31) (Operand.tmp 32) 3, type := 4, pos := "keep.go:250", after := #[{ on := 0, ground := Ground.data }, { on := 1, ground := Ground.data }], guard := none } : Oper)) (v := ?v_3) rfl (by kernel_rfl) (by kernel_rfl) (by kernel_rfl) (fun _ _ _ h => h) (Or.inl ⟨by rfl, ?hy_3⟩) (by assumption) ?rest_3
            case hy_3 => (intro w hSw; (try dsimp only at hSw); go_simp; try with_reducible rfl)
            try simp only [Act.put, List.setIfInBounds_toArray, List.set_cons_zero, List.set_cons_succ]
            refine wpAnyH_take (i := 3) (oi := ({ dst := some 34, op := Op.move (Operand.tmp 33), type := 4, pos := "keep.go:250", after := #[{ on := 2, ground := Ground.data }], guard := none } : Oper)) (v := ?v_4) rfl (by kernel_rfl) (by kernel_rfl) (by kernel_rfl) (fun _ _ _ h => h) (Or.inl ⟨by rfl, ?hy_4⟩) (by assumption) ?rest_4
            case hy_4 => (intro w hSw; (try dsimp only at hSw); go_simp; try with_reducible rfl)
            try simp only [Act.put, List.setIfInBounds_toArray, List.set_cons_zero, List.set_cons_succ]
            refine wpAnyH_take (i := 4) (oi := ({ dst := some 35, op := Op.move (Operand.tmp 1), type := 26, pos := "keep.go:250", after := #[{ on := 3, ground := Ground.guard }], guard := some (3, true) } : Oper)) (v := ?v_5) rfl (by kernel_rfl) (by kernel_rfl) (by kernel_rfl) (fun _ _ _ h => h) (Or.inl ⟨by rfl, ?hy_5⟩) (by assumption) ?rest_5
            case hy_5 => (intro w hSw; (try dsimp only at hSw); go_simp; try with_reducible rfl)
            try simp only [Act.put, List.setIfInBounds_toArray, List.set_cons_zero, List.set_cons_succ]
            refine wpAnyH_take (i := 5) (oi := ({ dst := some 36, op := Op.move (Operand.tmp 5), type := 3, pos := "keep.go:250", after := #[{ on := 3, ground := Ground.guard }], guard := some (3, true) } : Oper)) (v := ?v_6) rfl (by kernel_rfl) (by kernel_rfl) (by kernel_rfl) (fun _ _ _ h => h) (Or.inl ⟨by rfl, ?hy_6⟩) (by assumption) ?rest_6
            case hy_6 => (intro w hSw; (try dsimp only at hSw); go_simp; try with_reducible rfl)
            try simp only [Act.put, List.setIfInBounds_toArray, List.set_cons_zero, List.set_cons_succ]
            refine wpAnyH_take (i := 6) (oi := ({ dst := some 37, op := Op.indexAddr 26 (Operand.tmp 35) (Operand.tmp 36), type := 0, pos := "keep.go:250", after := #[{ on := 4, ground := Ground.data }, { on := 5, ground := Ground.data }, { on := 3, ground := Ground.guard }], guard := some (3, true) } : Oper)) (v := ?v_7) rfl (by kernel_rfl) (by kernel_rfl) (by kernel_rfl) (fun _ _ _ h => h) (Or.inl ⟨by rfl, ?hy_7⟩) (by assumption) ?rest_7
            case hy_7 => (intro w hSw; (try dsimp only at hSw); go_simp; try with_reducible rfl)
            try simp only [Act.put, List.setIfInBounds_toArray, List.set_cons_zero, List.set_cons_succ]
            refine wpAnyH_take (i := 7) (oi := ({ dst := some 38, op := Op.load 33 (Operand.tmp 37), type := 33, pos := "keep.go:250", after := #[{ on := 6, ground := Ground.data }, { on := 3, ground := Ground.guard }], guard := some (3, true) } : Oper)) (v := ?v_8) rfl (by kernel_rfl) (by kernel_rfl) (by kernel_rfl) (fun _ _ _ h => h) (Or.inl ⟨by rfl, ?hy_8⟩) (by assumption) ?rest_8
            case hy_8 => (intro w hSw; (try dsimp only at hSw); go_simp; try with_reducible rfl)
            try simp only [Act.put, List.setIfInBounds_toArray, List.set_cons_zero, List.set_cons_succ]
            refine wpAnyH_take (i := 8) (oi := ({ dst := some 39, op := Op.move (Operand.tmp 7), type := 3, pos := "keep.go:250", after := #[{ on := 3, ground := Ground.guard }], guard := some (3, true) } : Oper)) (v := ?v_9) rfl (by kernel_rfl) (by kernel_rfl) (by kernel_rfl) (fun _ _ _ h => h) (Or.inl ⟨by rfl, ?hy_9⟩) (by assumption) ?rest_9
            case hy_9 => (intro w hSw; (try dsimp only at hSw); go_simp; try with_reducible rfl)
            try simp only [Act.put, List.setIfInBounds_toArray, List.set_cons_zero, List.set_cons_succ]
            refine wpAnyH_take (i := 9) (oi := ({ dst := some 40, op := Op.indexAddr 33 (Operand.tmp 38) (Operand.tmp 39), type := 0, pos := "keep.go:250", after := #[{ on := 7, ground := Ground.data }, { on := 8, ground := Ground.data }, { on := 3, ground := Ground.guard }], guard := some (3, true) } : Oper)) (v := ?v_10) rfl (by kernel_rfl) (by kernel_rfl) (by kernel_rfl) (fun _ _ _ h => h) (Or.inl ⟨by rfl, ?hy_10⟩) (by assumption) ?rest_10
            case hy_10 => (intro w hSw; (try dsimp only at hSw); go_simp; try with_reducible rfl)
            try simp only [Act.put, List.setIfInBounds_toArray, List.set_cons_zero, List.set_cons_succ]
            refine wpAnyH_take (i := 10) (oi := ({ dst := some 41, op := Op.load 9 (Operand.tmp 40), type := 9, pos := "keep.go:250", after := #[{ on := 9, ground := Ground.data }, { on := 3, ground := Ground.guard }], guard := some (3, true) } : Oper)) (v := ?v_11) rfl (by kernel_rfl) (by kernel_rfl) (by kernel_rfl) (fun _ _ _ h => h) (Or.inl ⟨by rfl, ?hy_11⟩) (by assumption) ?rest_11
            case hy_11 => (intro w hSw; (try dsimp only at hSw); go_simp; try with_reducible rfl)
            try simp only [Act.put, List.setIfInBounds_toArray, List.set_cons_zero, List.set_cons_succ]
            refine wpAnyH_take (i := 11) (oi := ({ dst := some 42, op := Op.move (Operand.tmp 5), type := 3, pos := "keep.go:250", after := #[{ on := 3, ground := Ground.guard }], guard := some (3, true) } : Oper)) (v := ?v_12) rfl (by kernel_rfl) (by kernel_rfl) (by kernel_rfl) (fun _ _ _ h => h) (Or.inl ⟨by rfl, ?hy_12⟩) (by assumption) ?rest_12
            case hy_12 => (intro w hSw; (try dsimp only at hSw); go_simp; try with_reducible rfl)
            try simp only [Act.put, List.setIfInBounds_toArray, List.set_cons_zero, List.set_cons_succ]
            refine wpAnyH_ready (rs := [12]) (by kernel_rfl) (by simp) ?_
            refine AllReadyH.cons (o := ({ dst := some 43, op := Op.call { callee := Callee.value (Operand.func 97), args := #[Operand.tmp 42], argTypes := #[3] }, type := 9, pos := "keep.go:250", after := #[{ on := 11, ground := Ground.data }, { on := 3, ground := Ground.chain }, { on := 3, ground := Ground.guard }], guard := some (3, true) } : Oper)) rfl (fun K' hK' => ?_) AllReadyH.nil
            go_simp
            (with_reducible refine (HWD.out _).mono ?_; rintro e w2 ⟨rfl, hb2⟩; have z0 := cell_past z0 hb2; have zi := cell_past zi hb2; have zx := cell_past zx hb2; have z1 := cell_past z1 hb2; have z3 := cell_past z3 hb2; have hbv := HBV.out.trans (hb2.mono HBV.out.size); have HBV := Lib.hid hbv; clear hb2 hbv)
            refine hK'.out _ _ (by exact ⟨z0, zi, zx, z1, z3⟩) (fun hHeld1 => ?_)
            clear hK' K' hHeld
            try simp only [Act.put, List.setIfInBounds_toArray, List.set_cons_zero, List.set_cons_succ]
            refine wpAnyH_take (i := 13) (oi := ({ dst := some 44, op := Op.binOp BinOp.neq 9 (Operand.tmp 41) (Operand.tmp 43) 9, type := 4, pos := "keep.go:250", after := #[{ on := 10, ground := Ground.data }, { on := 12, ground := Ground.data }, { on := 3, ground := Ground.guard }], guard := some (3, true) } : Oper)) (v := ?v_13) rfl (by kernel_rfl) (by kernel_rfl) (by kernel_rfl) (fun _ _ _ h => h) (Or.inl ⟨by rfl, ?hy_13⟩) (by assumption) ?rest_13
            case hy_13 => (intro w hSw; (try dsimp only at hSw); go_simp; try with_reducible rfl)
            try simp only [Act.put, List.setIfInBounds_toArray, List.set_cons_zero, List.set_cons_succ]
            refine wpAnyH_take (i := 14) (oi := ({ dst := some 45, op := Op.move (Operand.tmp 44), type := 4, pos := "keep.go:250", after := #[{ on := 13, ground := Ground.data }, { on := 12, ground := Ground.chain }, { on := 3, ground := Ground.guard }], guard := some (3, true) } : Oper)) (v := ?v_14) rfl (by kernel_rfl) (by kernel_rfl) (by kernel_rfl) (fun _ _ _ h => h) (Or.inl ⟨by rfl, ?hy_14⟩) (by assumption) ?rest_14
            case hy_14 => (intro w hSw; (try dsimp only at hSw); go_simp; try with_reducible rfl)
            try simp only [Act.put, List.setIfInBounds_toArray, List.set_cons_zero, List.set_cons_succ]
            refine wpAnyH_take (i := 15) (oi := ({ dst := some 46, op := Op.move (Operand.tmp 0), type := 23, pos := "keep.go:250", after := #[{ on := 14, ground := Ground.guard }], guard := some (14, false) } : Oper)) (v := ?v_15) rfl (by kernel_rfl) (by kernel_rfl) (by kernel_rfl) (fun _ _ _ h => h) (Or.inl ⟨by rfl, ?hy_15⟩) (by assumption) ?rest_15
            case hy_15 => (intro w hSw; (try dsimp only at hSw); go_simp; try with_reducible rfl)
            try simp only [Act.put, List.setIfInBounds_toArray, List.set_cons_zero, List.set_cons_succ]
            refine wpAnyH_take (i := 16) (oi := ({ dst := some 47, op := Op.nilCheck (Operand.tmp 46), type := 0, pos := "keep.go:250", after := #[{ on := 15, ground := Ground.data }, { on := 14, ground := Ground.guard }], guard := some (14, false) } : Oper)) (v := ?v_16) rfl (by kernel_rfl) (by kernel_rfl) (by kernel_rfl) (fun _ _ _ h => h) (Or.inl ⟨by rfl, ?hy_16⟩) (by assumption) ?rest_16
            case hy_16 => (intro w hSw; (try dsimp only at hSw); go_simp; try with_reducible rfl)
            try simp only [Act.put, List.setIfInBounds_toArray, List.set_cons_zero, List.set_cons_succ]
            refine wpAnyH_take (i := 17) (oi := ({ dst := some 48, op := Op.fieldAddr 32 (Operand.tmp 47) 8, type := 0, pos := "keep.go:250", after := #[{ on := 16, ground := Ground.data }, { on := 14, ground := Ground.guard }], guard := some (14, false) } : Oper)) (v := ?v_17) rfl (by kernel_rfl) (by kernel_rfl) (by kernel_rfl) (fun _ _ _ h => h) (Or.inl ⟨by rfl, ?hy_17⟩) (by assumption) ?rest_17
            case hy_17 => (intro w hSw; (try dsimp only at hSw); go_simp; try with_reducible rfl)
            try simp only [Act.put, List.setIfInBounds_toArray, List.set_cons_zero, List.set_cons_succ]
            refine wpAnyH_take (i := 18) (oi := ({ dst := some 49, op := Op.load 26 (Operand.tmp 48), type := 26, pos := "keep.go:250", after := #[{ on := 17, ground := Ground.data }, { on := 14, ground := Ground.guard }], guard := some (14, false) } : Oper)) (v := ?v_18) rfl (by kernel_rfl) (by kernel_rfl) (by kernel_rfl) (fun _ _ _ h => h) (Or.inl ⟨by rfl, ?hy_18⟩) (by assumption) ?rest_18
            case hy_18 => (intro w hSw; (try dsimp only at hSw); go_simp; try with_reducible rfl)
            try simp only [Act.put, List.setIfInBounds_toArray, List.set_cons_zero, List.set_cons_succ]
            refine wpAnyH_take (i := 19) (oi := ({ dst := some 50, op := Op.move (Operand.tmp 5), type := 3, pos := "keep.go:250", after := #[{ on := 14, ground := Ground.guard }], guard := some (14, false) } : Oper)) (v := ?v_19) rfl (by kernel_rfl) (by kernel_rfl) (by kernel_rfl) (fun _ _ _ h => h) (Or.inl ⟨by rfl, ?hy_19⟩) (by assumption) ?rest_19
            case hy_19 => (intro w hSw; (try dsimp only at hSw); go_simp; try with_reducible rfl)
            try simp only [Act.put, List.setIfInBounds_toArray, List.set_cons_zero, List.set_cons_succ]
            refine wpAnyH_take (i := 20) (oi := ({ dst := some 51, op := Op.indexAddr 26 (Operand.tmp 49) (Operand.tmp 50), type := 0, pos := "keep.go:250", after := #[{ on := 18, ground := Ground.data }, { on := 19, ground := Ground.data }, { on := 14, ground := Ground.guard }], guard := some (14, false) } : Oper)) (v := ?v_20) rfl (by kernel_rfl) (by kernel_rfl) (by kernel_rfl) (fun _ _ _ h => h) (Or.inl ⟨by rfl, ?hy_20⟩) (by assumption) ?rest_20
            case hy_20 => (intro w hSw; (try dsimp only at hSw); go_simp; try with_reducible rfl)
            try simp only [Act.put, List.setIfInBounds_toArray, List.set_cons_zero, List.set_cons_succ]
            refine wpAnyH_take (i := 21) (oi := ({ dst := some 52, op := Op.load 33 (Operand.tmp 51), type := 33, pos := "keep.go:250", after := #[{ on := 20, ground := Ground.data }, { on := 14, ground := Ground.guard }], guard := some (14, false) } : Oper)) (v := ?v_21) rfl (by kernel_rfl) (by kernel_rfl) (by kernel_rfl) (fun _ _ _ h => h) (Or.inl ⟨by rfl, ?hy_21⟩) (by assumption) ?rest_21
            case hy_21 => (intro w hSw; (try dsimp only at hSw); go_simp; try with_reducible rfl)
            try simp only [Act.put, List.setIfInBounds_toArray, List.set_cons_zero, List.set_cons_succ]
            refine wpAnyH_take (i := 22) (oi := ({ dst := some 53, op := Op.move (Operand.tmp 7), type := 3, pos := "keep.go:250", after := #[{ on := 14, ground := Ground.guard }], guard := some (14, false) } : Oper)) (v := ?v_22) rfl (by kernel_rfl) (by kernel_rfl) (by kernel_rfl) (fun _ _ _ h => h) (Or.inl ⟨by rfl, ?hy_22⟩) (by assumption) ?rest_22
            case hy_22 => (intro w hSw; (try dsimp only at hSw); go_simp; try with_reducible rfl)
            try simp only [Act.put, List.setIfInBounds_toArray, List.set_cons_zero, List.set_cons_succ]
            refine wpAnyH_take (i := 23) (oi := ({ dst := some 54, op := Op.indexAddr 33 (Operand.tmp 52) (Operand.tmp 53), type := 0, pos := "keep.go:250", after := #[{ on := 21, ground := Ground.data }, { on := 22, ground := Ground.data }, { on := 14, ground := Ground.guard }], guard := some (14, false) } : Oper)) (v := ?v_23) rfl (by kernel_rfl) (by kernel_rfl) (by kernel_rfl) (fun _ _ _ h => h) (Or.inl ⟨by rfl, ?hy_23⟩) (by assumption) ?rest_23
            case hy_23 => (intro w hSw; (try dsimp only at hSw); go_simp; try with_reducible rfl)
            try simp only [Act.put, List.setIfInBounds_toArray, List.set_cons_zero, List.set_cons_succ]
            refine wpAnyH_take (i := 24) (oi := ({ dst := some 55, op := Op.load 9 (Operand.tmp 54), type := 9, pos := "keep.go:250", after := #[{ on := 23, ground := Ground.data }, { on := 14, ground := Ground.guard }], guard := some (14, false) } : Oper)) (v := ?v_24) rfl (by kernel_rfl) (by kernel_rfl) (by kernel_rfl) (fun _ _ _ h => h) (Or.inl ⟨by rfl, ?hy_24⟩) (by assumption) ?rest_24
            case hy_24 => (intro w hSw; (try dsimp only at hSw); go_simp; try with_reducible rfl)
            try simp only [Act.put, List.setIfInBounds_toArray, List.set_cons_zero, List.set_cons_succ]
            refine wpAnyH_take (i := 25) (oi := ({ dst := some 56, op := Op.move (Operand.tmp 5), type := 3, pos := "keep.go:250", after := #[{ on := 14, ground := Ground.guard }], guard := some (14, false) } : Oper)) (v := ?v_25) rfl (by kernel_rfl) (by kernel_rfl) (by kernel_rfl) (fun _ _ _ h => h) (Or.inl ⟨by rfl, ?hy_25⟩) (by assumption) ?rest_25
            case hy_25 => (intro w hSw; (try dsimp only at hSw); go_simp; try with_reducible rfl)
            try simp only [Act.put, List.setIfInBounds_toArray, List.set_cons_zero, List.set_cons_succ]
            refine wpAnyH_ready (rs := [26]) (by kernel_rfl) (by simp) ?_
            refine AllReadyH.cons (o := ({ dst := some 57, op := Op.call { callee := Callee.value (Operand.func 97), args := #[Operand.tmp 56], argTypes := #[3] }, type := 9, pos := "keep.go:250", after := #[{ on := 25, ground := Ground.data }, { on := 14, ground := Ground.chain }, { on := 14, ground := Ground.guard }], guard := some (14, false) } : Oper)) rfl (fun K' hK' => ?_) AllReadyH.nil
            go_simp
            (with_reducible refine (HWD.out _).mono ?_; rintro e w2 ⟨rfl, hb2⟩; have z0 := cell_past z0 hb2; have zi := cell_past zi hb2; have zx := cell_past zx hb2; have z1 := cell_past z1 hb2; have z3 := cell_past z3 hb2; have hbv := HBV.out.trans (hb2.mono HBV.out.size); have HBV := Lib.hid hbv; clear hb2 hbv)
            refine hK'.out _ _ (by exact ⟨z0, zi, zx, z1, z3⟩) (fun hHeld2 => ?_)
            clear hK' K' hHeld1
            try simp only [Act.put, List.setIfInBounds_toArray, List.set_cons_zero, List.set_cons_succ]
            refine wpAnyH_take (i := 27) (oi := ({ dst := some 58, op := Op.binOp BinOp.neq 9 (Operand.tmp 55) (Operand.tmp 57) 9, type := 4, pos := "keep.go:250", after := #[{ on := 24, ground := Ground.data }, { on := 26, ground := Ground.data }, { on := 14, ground := Ground.guard }], guard := some (14, false) } : Oper)) (v := ?v_26) rfl (by kernel_rfl) (by kernel_rfl) (by kernel_rfl) (fun _ _ _ h => h) (Or.inl ⟨by rfl, ?hy_26⟩) (by assumption) ?rest_26
            case hy_26 => (intro w hSw; (try dsimp only at hSw); go_simp; try with_reducible rfl)
            try simp only [Act.put, List.setIfInBounds_toArray, List.set_cons_zero, List.set_cons_succ]
            refine wpAnyH_take (i := 28) (oi := ({ dst := some 59, op := Op.pick (Operand.tmp 45) (Operand.const (Value.bool true)) (Operand.tmp 58), type := 4, pos := "keep.go:250", after := #[{ on := 14, ground := Ground.data }, { on := 27, ground := Ground.data }, { on := 3, ground := Ground.guard }], guard := some (3, true) } : Oper)) (v := ?v_27) rfl (by kernel_rfl) (by kernel_rfl) (by kernel_rfl) (fun _ _ _ h => h) (Or.inl ⟨by rfl, ?hy_27⟩) (by assumption) ?rest_27
            case hy_27 => (intro w hSw; (try dsimp only at hSw); go_simp; try with_reducible rfl)
            try simp only [Act.put, List.setIfInBounds_toArray, List.set_cons_zero, List.set_cons_succ]
            refine wpAnyH_take (i := 29) (oi := ({ dst := some 60, op := Op.pick (Operand.tmp 34) (Operand.tmp 59) (Operand.const (Value.bool false)), type := 4, pos := "keep.go:250", after := #[{ on := 3, ground := Ground.data }, { on := 28, ground := Ground.data }], guard := none } : Oper)) (v := ?v_28) rfl (by kernel_rfl) (by kernel_rfl) (by kernel_rfl) (fun _ _ _ h => h) (Or.inl ⟨by rfl, ?hy_28⟩) (by assumption) ?rest_28
            case hy_28 => (intro w hSw; (try dsimp only at hSw); go_simp; try with_reducible rfl)
            try simp only [Act.put, List.setIfInBounds_toArray, List.set_cons_zero, List.set_cons_succ]
            refine wpAnyH_take (i := 30) (oi := ({ dst := some 61, op := Op.move (Operand.tmp 60), type := 4, pos := "keep.go:250", after := #[{ on := 29, ground := Ground.data }, { on := 26, ground := Ground.chain }], guard := none } : Oper)) (v := ?v_29) rfl (by kernel_rfl) (by kernel_rfl) (by kernel_rfl) (fun _ _ _ h => h) (Or.inl ⟨by rfl, ?hy_29⟩) (by assumption) ?rest_29
            case hy_29 => (intro w hSw; (try dsimp only at hSw); go_simp; try with_reducible rfl)
            try simp only [Act.put, List.setIfInBounds_toArray, List.set_cons_zero, List.set_cons_succ]
            refine wpAnyH_take (i := 31) (oi := ({ dst := some 62, op := Op.move (Operand.tmp 7), type := 3, pos := "keep.go:250", after := #[{ on := 30, ground := Ground.guard }], guard := some (30, false) } : Oper)) (v := ?v_30) rfl (by kernel_rfl) (by kernel_rfl) (by kernel_rfl) (fun _ _ _ h => h) (Or.inl ⟨by rfl, ?hy_30⟩) (by assumption) ?rest_30
            case hy_30 => (intro w hSw; (try dsimp only at hSw); go_simp; try with_reducible rfl)
            try simp only [Act.put, List.setIfInBounds_toArray, List.set_cons_zero, List.set_cons_succ]
            refine wpAnyH_take (i := 32) (oi := ({ dst := some 63, op := Op.move (Operand.tmp 6), type := 3, pos := "keep.go:250", after := #[{ on := 30, ground := Ground.guard }], guard := some (30, false) } : Oper)) (v := ?v_31) rfl (by kernel_rfl) (by kernel_rfl) (by kernel_rfl) (fun _ _ _ h => h) (Or.inl ⟨by rfl, ?hy_31⟩) (by assumption) ?rest_31
            case hy_31 => (intro w hSw; (try dsimp only at hSw); go_simp; try with_reducible rfl)
            try simp only [Act.put, List.setIfInBounds_toArray, List.set_cons_zero, List.set_cons_succ]
            refine wpAnyH_take (i := 33) (oi := ({ dst := some 64, op := Op.binOp BinOp.geq 3 (Operand.tmp 62) (Operand.tmp 63) 3, type := 4, pos := "keep.go:250", after := #[{ on := 31, ground := Ground.data }, { on := 32, ground := Ground.data }, { on := 30, ground := Ground.guard }], guard := some (30, false) } : Oper)) (v := ?v_32) rfl (by kernel_rfl) (by kernel_rfl) (by kernel_rfl) (fun _ _ _ h => h) (Or.inl ⟨by rfl, ?hy_32⟩) (by assumption) ?rest_32
            case hy_32 => (intro w hSw; (try dsimp only at hSw); go_simp; try with_reducible rfl)
            try simp only [Act.put, List.setIfInBounds_toArray, List.set_cons_zero, List.set_cons_succ]
            refine wpAnyH_take (i := 34) (oi := ({ dst := some 65, op := Op.move (Operand.tmp 64), type := 4, pos := "keep.go:250", after := #[{ on := 33, ground := Ground.data }, { on := 30, ground := Ground.chain }, { on := 30, ground := Ground.guard }], guard := some (30, false) } : Oper)) (v := ?v_33) rfl (by kernel_rfl) (by kernel_rfl) (by kernel_rfl) (fun _ _ _ h => h) (Or.inl ⟨by rfl, ?hy_33⟩) (by assumption) ?rest_33
            case hy_33 => (intro w hSw; (try dsimp only at hSw); go_simp; try with_reducible rfl)
            try simp only [Act.put, List.setIfInBounds_toArray, List.set_cons_zero, List.set_cons_succ]
            refine wpAnyH_take (i := 35) (oi := ({ dst := some 66, op := Op.move (Operand.tmp 1), type := 26, pos := "keep.go:250", after := #[{ on := 34, ground := Ground.guard }], guard := some (34, true) } : Oper)) (v := undef) rfl (by kernel_rfl) (by kernel_rfl) (by kernel_rfl) (fun _ _ _ h => h) (Or.inr ⟨by rfl, rfl⟩) (by assumption) ?_
            try simp only [Act.put, List.setIfInBounds_toArray, List.set_cons_zero, List.set_cons_succ]
            refine wpAnyH_take (i := 36) (oi := ({ dst := some 67, op := Op.move (Operand.tmp 5), type := 3, pos := "keep.go:250", after := #[{ on := 34, ground := Ground.guard }], guard := some (34, true) } : Oper)) (v := undef) rfl (by kernel_rfl) (by kernel_rfl) (by kernel_rfl) (fun _ _ _ h => h) (Or.inr ⟨by rfl, rfl⟩) (by assumption) ?_
            try simp only [Act.put, List.setIfInBounds_toArray, List.set_cons_zero, List.set_cons_succ]
            refine wpAnyH_take (i := 37) (oi := ({ dst := some 68, op := Op.indexAddr 26 (Operand.tmp 66) (Operand.tmp 67), type := 0, pos := "keep.go:250", after := #[{ on := 35, ground := Ground.data }, { on := 36, ground := Ground.data }, { on := 34, ground := Ground.guard }], guard := some (34, true) } : Oper)) (v := undef) rfl (by kernel_rfl) (by kernel_rfl) (by kernel_rfl) (fun _ _ _ h => h) (Or.inr ⟨by rfl, rfl⟩) (by assumption) ?_
            try simp only [Act.put, List.setIfInBounds_toArray, List.set_cons_zero, List.set_cons_succ]
            refine wpAnyH_take (i := 38) (oi := ({ dst := some 69, op := Op.load 33 (Operand.tmp 68), type := 33, pos := "keep.go:250", after := #[{ on := 37, ground := Ground.data }, { on := 34, ground := Ground.guard }], guard := some (34, true) } : Oper)) (v := undef) rfl (by kernel_rfl) (by kernel_rfl) (by kernel_rfl) (fun _ _ _ h => h) (Or.inr ⟨by rfl, rfl⟩) (by assumption) ?_
            try simp only [Act.put, List.setIfInBounds_toArray, List.set_cons_zero, List.set_cons_succ]
            refine wpAnyH_take (i := 39) (oi := ({ dst := some 70, op := Op.move (Operand.tmp 7), type := 3, pos := "keep.go:250", after := #[{ on := 34, ground := Ground.guard }], guard := some (34, true) } : Oper)) (v := undef) rfl (by kernel_rfl) (by kernel_rfl) (by kernel_rfl) (fun _ _ _ h => h) (Or.inr ⟨by rfl, rfl⟩) (by assumption) ?_
            try simp only [Act.put, List.setIfInBounds_toArray, List.set_cons_zero, List.set_cons_succ]
            refine wpAnyH_take (i := 40) (oi := ({ dst := some 71, op := Op.indexAddr 33 (Operand.tmp 69) (Operand.tmp 70), type := 0, pos := "keep.go:250", after := #[{ on := 38, ground := Ground.data }, { on := 39, ground := Ground.data }, { on := 34, ground := Ground.guard }], guard := some (34, true) } : Oper)) (v := undef) rfl (by kernel_rfl) (by kernel_rfl) (by kernel_rfl) (fun _ _ _ h => h) (Or.inr ⟨by rfl, rfl⟩) (by assumption) ?_
            try simp only [Act.put, List.setIfInBounds_toArray, List.set_cons_zero, List.set_cons_succ]
            refine wpAnyH_take (i := 41) (oi := ({ dst := some 72, op := Op.load 9 (Operand.tmp 71), type := 9, pos := "keep.go:250", after := #[{ on := 40, ground := Ground.data }, { on := 34, ground := Ground.guard }], guard := some (34, true) } : Oper)) (v := undef) rfl (by kernel_rfl) (by kernel_rfl) (by kernel_rfl) (fun _ _ _ h => h) (Or.inr ⟨by rfl, rfl⟩) (by assumption) ?_
            try simp only [Act.put, List.setIfInBounds_toArray, List.set_cons_zero, List.set_cons_succ]
            refine wpAnyH_take (i := 42) (oi := ({ dst := some 73, op := Op.move (Operand.tmp 5), type := 3, pos := "keep.go:250", after := #[{ on := 34, ground := Ground.guard }], guard := some (34, true) } : Oper)) (v := undef) rfl (by kernel_rfl) (by kernel_rfl) (by kernel_rfl) (fun _ _ _ h => h) (Or.inr ⟨by rfl, rfl⟩) (by assumption) ?_
            try simp only [Act.put, List.setIfInBounds_toArray, List.set_cons_zero, List.set_cons_succ]
            refine wpAnyH_take (i := 43) (oi := ({ dst := some 74, op := Op.call { callee := Callee.value (Operand.func 97), args := #[Operand.tmp 73], argTypes := #[3] }, type := 9, pos := "keep.go:250", after := #[{ on := 42, ground := Ground.data }, { on := 34, ground := Ground.chain }, { on := 34, ground := Ground.guard }], guard := some (34, true) } : Oper)) (v := undef) rfl (by kernel_rfl) (by kernel_rfl) (by kernel_rfl) (fun _ _ _ h => h) (Or.inr ⟨by rfl, rfl⟩) (by assumption) ?_
            try simp only [Act.put, List.setIfInBounds_toArray, List.set_cons_zero, List.set_cons_succ]
            refine wpAnyH_take (i := 44) (oi := ({ dst := some 75, op := Op.binOp BinOp.add 9 (Operand.const (Value.string { data := #[43] })) (Operand.tmp 74) 9, type := 9, pos := "keep.go:250", after := #[{ on := 43, ground := Ground.data }, { on := 34, ground := Ground.guard }], guard := some (34, true) } : Oper)) (v := undef) rfl (by kernel_rfl) (by kernel_rfl) (by kernel_rfl) (fun _ _ _ h => h) (Or.inr ⟨by rfl, rfl⟩) (by assumption) ?_
            try simp only [Act.put, List.setIfInBounds_toArray, List.set_cons_zero, List.set_cons_succ]
            refine wpAnyH_take (i := 45) (oi := ({ dst := some 76, op := Op.binOp BinOp.neq 9 (Operand.tmp 72) (Operand.tmp 75) 9, type := 4, pos := "keep.go:250", after := #[{ on := 41, ground := Ground.data }, { on := 44, ground := Ground.data }, { on := 34, ground := Ground.guard }], guard := some (34, true) } : Oper)) (v := undef) rfl (by kernel_rfl) (by kernel_rfl) (by kernel_rfl) (fun _ _ _ h => h) (Or.inr ⟨by rfl, rfl⟩) (by assumption) ?_
            try simp only [Act.put, List.setIfInBounds_toArray, List.set_cons_zero, List.set_cons_succ]
            refine wpAnyH_take (i := 46) (oi := ({ dst := some 77, op := Op.pick (Operand.tmp 65) (Operand.tmp 76) (Operand.const (Value.bool false)), type := 4, pos := "keep.go:250", after := #[{ on := 34, ground := Ground.data }, { on := 45, ground := Ground.data }, { on := 30, ground := Ground.guard }], guard := some (30, false) } : Oper)) (v := ?v_34) rfl (by kernel_rfl) (by kernel_rfl) (by kernel_rfl) (fun _ _ _ h => h) (Or.inl ⟨by rfl, ?hy_34⟩) (by assumption) ?rest_34
            case hy_34 => (intro w hSw; (try dsimp only at hSw); go_simp; try with_reducible rfl)
            try simp only [Act.put, List.setIfInBounds_toArray, List.set_cons_zero, List.set_cons_succ]
            refine wpAnyH_take (i := 47) (oi := ({ dst := some 78, op := Op.pick (Operand.tmp 61) (Operand.const (Value.bool true)) (Operand.tmp 77), type := 4, pos := "keep.go:250", after := #[{ on := 30, ground := Ground.data }, { on := 46, ground := Ground.data }], guard := none } : Oper)) (v := ?v_35) rfl (by kernel_rfl) (by kernel_rfl) (by kernel_rfl) (fun _ _ _ h => h) (Or.inl ⟨by rfl, ?hy_35⟩) (by assumption) ?rest_35
            case hy_35 => (intro w hSw; (try dsimp only at hSw); go_simp; try with_reducible rfl)
            try simp only [Act.put, List.setIfInBounds_toArray, List.set_cons_zero, List.set_cons_succ]
            refine wpAnyH_done (by kernel_rfl) ?_ _
            all_goals go_wp2_with fail
            all_goals exact ⟨⟨k + 1, by omega, by go_num, HBV.out⟩, by show n + d - ((k : Int) + 1).toNat < n + d - (k : Int).toNat; omega⟩
          · obtain ⟨g3, c3, e3, z3⟩ := HL3.out.at (k := k) (c := 0) (u := .string ({ data := #[43] } ++ { data := (wordV i).toArray })) hlk (by rw [markT_high (Nat.le_of_not_lt hkn)]; rfl)
            rw [Nat.mul_one, Nat.add_zero] at z3
            injection e3 with e3 _ _
            subst e3
            have z3 := cell_past z3 hbw
            have hk2 : decide ((k : Int) < (n : Int)) = false := decide_eq_false (by omega)
            have hk4 : decide (k < n) = false := decide_eq_false (by omega)
            have hk3 : (n : Int) ≤ (k : Int) := by omega
            have HBV := Lib.hid (hbw.drew)
            clear hlk hkn hbw
            go_upto_region 8 with fail
            have z0 : wr.drew.cell? ⟨bk, 8, none⟩ = _ := z0
            have zi : wr.drew.cell? ⟨gr, i, none⟩ = _ := zi
            have zx : wr.drew.cell? ⟨gx, i, none⟩ = _ := zx
            have z3 : wr.drew.cell? ⟨g3, k, none⟩ = _ := z3
            refine wp_region_held_drew (S := (fun w' => w'.cell? ⟨bk, 8, none⟩ = some (.slice (some ⟨gr, 0, none⟩) vs.length c0) ∧ w'.cell? ⟨gr, i, none⟩ = some (.slice U n cu) ∧ w'.cell? ⟨gx, i, none⟩ = some (.slice (some ⟨g3, 0, none⟩) (n + d) cv) ∧ w'.cell? ⟨g3, k, none⟩ = some (.string ({ data := #[43] } ++ { data := (wordV i).toArray })))) (by kernel_rfl) (by exact ⟨z0, zi, zx, z3⟩) (fun hHeld => ?_)
            refine wpAnyH_take (i := 0) (oi := ({ dst := some 31, op := Op.move (Operand.tmp 7), type := 3, pos := "keep.go:250", after := #[], guard := none } : Oper)) (v := ?v_36) rfl (by kernel_rfl) (by kernel_rfl) (by kernel_rfl) (fun _ _ _ h => h) (Or.inl ⟨by rfl, ?hy_36⟩) (by assumption) ?rest_36
            case hy_36 => (intro w hSw; (try dsimp only at hSw); go_simp; try with_reducible rfl)
            try simp only [Act.put, List.setIfInBounds_toArray, List.set_cons_zero, List.set_cons_succ]
            refine wpAnyH_take (i := 1) (oi := ({ dst := some 32, op := Op.move (Operand.tmp 6), type := 3, pos := "keep.go:250", after := #[], guard := none } : Oper)) (v := ?v_37) rfl (by kernel_rfl) (by kernel_rfl) (by kernel_rfl) (fun _ _ _ h => h) (Or.inl ⟨by rfl, ?hy_37⟩) (by assumption) ?rest_37
            case hy_37 => (intro w hSw; (try dsimp only at hSw); go_simp; try with_reducible rfl)
            try simp only [Act.put, List.setIfInBounds_toArray, List.set_cons_zero, List.set_cons_succ]
            refine wpAnyH_take (i := 2) (oi := ({ dst := some 33, op := Op.binOp BinOp.lss 3 (Operand.tmp 31) (Operand.tmp 32) 3, type := 4, pos := "keep.go:250", after := #[{ on := 0, ground := Ground.data }, { on := 1, ground := Ground.data }], guard := none } : Oper)) (v := ?v_38) rfl (by kernel_rfl) (by kernel_rfl) (by kernel_rfl) (fun _ _ _ h => h) (Or.inl ⟨by rfl, ?hy_38⟩) (by assumption) ?rest_38
            case hy_38 => (intro w hSw; (try dsimp only at hSw); go_simp; try with_reducible rfl)
            try simp only [Act.put, List.setIfInBounds_toArray, List.set_cons_zero, List.set_cons_succ]
            refine wpAnyH_take (i := 3) (oi := ({ dst := some 34, op := Op.move (Operand.tmp 33), type := 4, pos := "keep.go:250", after := #[{ on := 2, ground := Ground.data }], guard := none } : Oper)) (v := ?v_39) rfl (by kernel_rfl) (by kernel_rfl) (by kernel_rfl) (fun _ _ _ h => h) (Or.inl ⟨by rfl, ?hy_39⟩) (by assumption) ?rest_39
            case hy_39 => (intro w hSw; (try dsimp only at hSw); go_simp; try with_reducible rfl)
            try simp only [Act.put, List.setIfInBounds_toArray, List.set_cons_zero, List.set_cons_succ]
            refine wpAnyH_take (i := 4) (oi := ({ dst := some 35, op := Op.move (Operand.tmp 1), type := 26, pos := "keep.go:250", after := #[{ on := 3, ground := Ground.guard }], guard := some (3, true) } : Oper)) (v := undef) rfl (by kernel_rfl) (by kernel_rfl) (by kernel_rfl) (fun _ _ _ h => h) (Or.inr ⟨by rfl, rfl⟩) (by assumption) ?_
            try simp only [Act.put, List.setIfInBounds_toArray, List.set_cons_zero, List.set_cons_succ]
            refine wpAnyH_take (i := 5) (oi := ({ dst := some 36, op := Op.move (Operand.tmp 5), type := 3, pos := "keep.go:250", after := #[{ on := 3, ground := Ground.guard }], guard := some (3, true) } : Oper)) (v := undef) rfl (by kernel_rfl) (by kernel_rfl) (by kernel_rfl) (fun _ _ _ h => h) (Or.inr ⟨by rfl, rfl⟩) (by assumption) ?_
            try simp only [Act.put, List.setIfInBounds_toArray, List.set_cons_zero, List.set_cons_succ]
            refine wpAnyH_take (i := 6) (oi := ({ dst := some 37, op := Op.indexAddr 26 (Operand.tmp 35) (Operand.tmp 36), type := 0, pos := "keep.go:250", after := #[{ on := 4, ground := Ground.data }, { on := 5, ground := Ground.data }, { on := 3, ground := Ground.guard }], guard := some (3, true) } : Oper)) (v := undef) rfl (by kernel_rfl) (by kernel_rfl) (by kernel_rfl) (fun _ _ _ h => h) (Or.inr ⟨by rfl, rfl⟩) (by assumption) ?_
            try simp only [Act.put, List.setIfInBounds_toArray, List.set_cons_zero, List.set_cons_succ]
            refine wpAnyH_take (i := 7) (oi := ({ dst := some 38, op := Op.load 33 (Operand.tmp 37), type := 33, pos := "keep.go:250", after := #[{ on := 6, ground := Ground.data }, { on := 3, ground := Ground.guard }], guard := some (3, true) } : Oper)) (v := undef) rfl (by kernel_rfl) (by kernel_rfl) (by kernel_rfl) (fun _ _ _ h => h) (Or.inr ⟨by rfl, rfl⟩) (by assumption) ?_
            try simp only [Act.put, List.setIfInBounds_toArray, List.set_cons_zero, List.set_cons_succ]
            refine wpAnyH_take (i := 8) (oi := ({ dst := some 39, op := Op.move (Operand.tmp 7), type := 3, pos := "keep.go:250", after := #[{ on := 3, ground := Ground.guard }], guard := some (3, true) } : Oper)) (v := undef) rfl (by kernel_rfl) (by kernel_rfl) (by kernel_rfl) (fun _ _ _ h => h) (Or.inr ⟨by rfl, rfl⟩) (by assumption) ?_
            try simp only [Act.put, List.setIfInBounds_toArray, List.set_cons_zero, List.set_cons_succ]
            refine wpAnyH_take (i := 9) (oi := ({ dst := some 40, op := Op.indexAddr 33 (Operand.tmp 38) (Operand.tmp 39), type := 0, pos := "keep.go:250", after := #[{ on := 7, ground := Ground.data }, { on := 8, ground := Ground.data }, { on := 3, ground := Ground.guard }], guard := some (3, true) } : Oper)) (v := undef) rfl (by kernel_rfl) (by kernel_rfl) (by kernel_rfl) (fun _ _ _ h => h) (Or.inr ⟨by rfl, rfl⟩) (by assumption) ?_
            try simp only [Act.put, List.setIfInBounds_toArray, List.set_cons_zero, List.set_cons_succ]
            refine wpAnyH_take (i := 10) (oi := ({ dst := some 41, op := Op.load 9 (Operand.tmp 40), type := 9, pos := "keep.go:250", after := #[{ on := 9, ground := Ground.data }, { on := 3, ground := Ground.guard }], guard := some (3, true) } : Oper)) (v := undef) rfl (by kernel_rfl) (by kernel_rfl) (by kernel_rfl) (fun _ _ _ h => h) (Or.inr ⟨by rfl, rfl⟩) (by assumption) ?_
            try simp only [Act.put, List.setIfInBounds_toArray, List.set_cons_zero, List.set_cons_succ]
            refine wpAnyH_take (i := 11) (oi := ({ dst := some 42, op := Op.move (Operand.tmp 5), type := 3, pos := "keep.go:250", after := #[{ on := 3, ground := Ground.guard }], guard := some (3, true) } : Oper)) (v := undef) rfl (by kernel_rfl) (by kernel_rfl) (by kernel_rfl) (fun _ _ _ h => h) (Or.inr ⟨by rfl, rfl⟩) (by assumption) ?_
            try simp only [Act.put, List.setIfInBounds_toArray, List.set_cons_zero, List.set_cons_succ]
            refine wpAnyH_take (i := 12) (oi := ({ dst := some 43, op := Op.call { callee := Callee.value (Operand.func 97), args := #[Operand.tmp 42], argTypes := #[3] }, type := 9, pos := "keep.go:250", after := #[{ on := 11, ground := Ground.data }, { on := 3, ground := Ground.chain }, { on := 3, ground := Ground.guard }], guard := some (3, true) } : Oper)) (v := undef) rfl (by kernel_rfl) (by kernel_rfl) (by kernel_rfl) (fun _ _ _ h => h) (Or.inr ⟨by rfl, rfl⟩) (by assumption) ?_
            try simp only [Act.put, List.setIfInBounds_toArray, List.set_cons_zero, List.set_cons_succ]
            refine wpAnyH_take (i := 13) (oi := ({ dst := some 44, op := Op.binOp BinOp.neq 9 (Operand.tmp 41) (Operand.tmp 43) 9, type := 4, pos := "keep.go:250", after := #[{ on := 10, ground := Ground.data }, { on := 12, ground := Ground.data }, { on := 3, ground := Ground.guard }], guard := some (3, true) } : Oper)) (v := undef) rfl (by kernel_rfl) (by kernel_rfl) (by kernel_rfl) (fun _ _ _ h => h) (Or.inr ⟨by rfl, rfl⟩) (by assumption) ?_
            try simp only [Act.put, List.setIfInBounds_toArray, List.set_cons_zero, List.set_cons_succ]
            refine wpAnyH_take (i := 14) (oi := ({ dst := some 45, op := Op.move (Operand.tmp 44), type := 4, pos := "keep.go:250", after := #[{ on := 13, ground := Ground.data }, { on := 12, ground := Ground.chain }, { on := 3, ground := Ground.guard }], guard := some (3, true) } : Oper)) (v := undef) rfl (by kernel_rfl) (by kernel_rfl) (by kernel_rfl) (fun _ _ _ h => h) (Or.inr ⟨by rfl, rfl⟩) (by assumption) ?_
            try simp only [Act.put, List.setIfInBounds_toArray, List.set_cons_zero, List.set_cons_succ]
            refine wpAnyH_take (i := 15) (oi := ({ dst := some 46, op := Op.move (Operand.tmp 0), type := 23, pos := "keep.go:250", after := #[{ on := 14, ground := Ground.guard }], guard := some (14, false) } : Oper)) (v := undef) rfl (by kernel_rfl) (by kernel_rfl) (by kernel_rfl) (fun _ _ _ h => h) (Or.inr ⟨by rfl, rfl⟩) (by assumption) ?_
            try simp only [Act.put, List.setIfInBounds_toArray, List.set_cons_zero, List.set_cons_succ]
            refine wpAnyH_take (i := 16) (oi := ({ dst := some 47, op := Op.nilCheck (Operand.tmp 46), type := 0, pos := "keep.go:250", after := #[{ on := 15, ground := Ground.data }, { on := 14, ground := Ground.guard }], guard := some (14, false) } : Oper)) (v := undef) rfl (by kernel_rfl) (by kernel_rfl) (by kernel_rfl) (fun _ _ _ h => h) (Or.inr ⟨by rfl, rfl⟩) (by assumption) ?_
            try simp only [Act.put, List.setIfInBounds_toArray, List.set_cons_zero, List.set_cons_succ]
            refine wpAnyH_take (i := 17) (oi := ({ dst := some 48, op := Op.fieldAddr 32 (Operand.tmp 47) 8, type := 0, pos := "keep.go:250", after := #[{ on := 16, ground := Ground.data }, { on := 14, ground := Ground.guard }], guard := some (14, false) } : Oper)) (v := undef) rfl (by kernel_rfl) (by kernel_rfl) (by kernel_rfl) (fun _ _ _ h => h) (Or.inr ⟨by rfl, rfl⟩) (by assumption) ?_
            try simp only [Act.put, List.setIfInBounds_toArray, List.set_cons_zero, List.set_cons_succ]
            refine wpAnyH_take (i := 18) (oi := ({ dst := some 49, op := Op.load 26 (Operand.tmp 48), type := 26, pos := "keep.go:250", after := #[{ on := 17, ground := Ground.data }, { on := 14, ground := Ground.guard }], guard := some (14, false) } : Oper)) (v := undef) rfl (by kernel_rfl) (by kernel_rfl) (by kernel_rfl) (fun _ _ _ h => h) (Or.inr ⟨by rfl, rfl⟩) (by assumption) ?_
            try simp only [Act.put, List.setIfInBounds_toArray, List.set_cons_zero, List.set_cons_succ]
            refine wpAnyH_take (i := 19) (oi := ({ dst := some 50, op := Op.move (Operand.tmp 5), type := 3, pos := "keep.go:250", after := #[{ on := 14, ground := Ground.guard }], guard := some (14, false) } : Oper)) (v := undef) rfl (by kernel_rfl) (by kernel_rfl) (by kernel_rfl) (fun _ _ _ h => h) (Or.inr ⟨by rfl, rfl⟩) (by assumption) ?_
            try simp only [Act.put, List.setIfInBounds_toArray, List.set_cons_zero, List.set_cons_succ]
            refine wpAnyH_take (i := 20) (oi := ({ dst := some 51, op := Op.indexAddr 26 (Operand.tmp 49) (Operand.tmp 50), type := 0, pos := "keep.go:250", after := #[{ on := 18, ground := Ground.data }, { on := 19, ground := Ground.data }, { on := 14, ground := Ground.guard }], guard := some (14, false) } : Oper)) (v := undef) rfl (by kernel_rfl) (by kernel_rfl) (by kernel_rfl) (fun _ _ _ h => h) (Or.inr ⟨by rfl, rfl⟩) (by assumption) ?_
            try simp only [Act.put, List.setIfInBounds_toArray, List.set_cons_zero, List.set_cons_succ]
            refine wpAnyH_take (i := 21) (oi := ({ dst := some 52, op := Op.load 33 (Operand.tmp 51), type := 33, pos := "keep.go:250", after := #[{ on := 20, ground := Ground.data }, { on := 14, ground := Ground.guard }], guard := some (14, false) } : Oper)) (v := undef) rfl (by kernel_rfl) (by kernel_rfl) (by kernel_rfl) (fun _ _ _ h => h) (Or.inr ⟨by rfl, rfl⟩) (by assumption) ?_
            try simp only [Act.put, List.setIfInBounds_toArray, List.set_cons_zero, List.set_cons_succ]
            refine wpAnyH_take (i := 22) (oi := ({ dst := some 53, op := Op.move (Operand.tmp 7), type := 3, pos := "keep.go:250", after := #[{ on := 14, ground := Ground.guard }], guard := some (14, false) } : Oper)) (v := undef) rfl (by kernel_rfl) (by kernel_rfl) (by kernel_rfl) (fun _ _ _ h => h) (Or.inr ⟨by rfl, rfl⟩) (by assumption) ?_
            try simp only [Act.put, List.setIfInBounds_toArray, List.set_cons_zero, List.set_cons_succ]
            refine wpAnyH_take (i := 23) (oi := ({ dst := some 54, op := Op.indexAddr 33 (Operand.tmp 52) (Operand.tmp 53), type := 0, pos := "keep.go:250", after := #[{ on := 21, ground := Ground.data }, { on := 22, ground := Ground.data }, { on := 14, ground := Ground.guard }], guard := some (14, false) } : Oper)) (v := undef) rfl (by kernel_rfl) (by kernel_rfl) (by kernel_rfl) (fun _ _ _ h => h) (Or.inr ⟨by rfl, rfl⟩) (by assumption) ?_
            try simp only [Act.put, List.setIfInBounds_toArray, List.set_cons_zero, List.set_cons_succ]
            refine wpAnyH_take (i := 24) (oi := ({ dst := some 55, op := Op.load 9 (Operand.tmp 54), type := 9, pos := "keep.go:250", after := #[{ on := 23, ground := Ground.data }, { on := 14, ground := Ground.guard }], guard := some (14, false) } : Oper)) (v := undef) rfl (by kernel_rfl) (by kernel_rfl) (by kernel_rfl) (fun _ _ _ h => h) (Or.inr ⟨by rfl, rfl⟩) (by assumption) ?_
            try simp only [Act.put, List.setIfInBounds_toArray, List.set_cons_zero, List.set_cons_succ]
            refine wpAnyH_take (i := 25) (oi := ({ dst := some 56, op := Op.move (Operand.tmp 5), type := 3, pos := "keep.go:250", after := #[{ on := 14, ground := Ground.guard }], guard := some (14, false) } : Oper)) (v := undef) rfl (by kernel_rfl) (by kernel_rfl) (by kernel_rfl) (fun _ _ _ h => h) (Or.inr ⟨by rfl, rfl⟩) (by assumption) ?_
            try simp only [Act.put, List.setIfInBounds_toArray, List.set_cons_zero, List.set_cons_succ]
            refine wpAnyH_take (i := 26) (oi := ({ dst := some 57, op := Op.call { callee := Callee.value (Operand.func 97), args := #[Operand.tmp 56], argTypes := #[3] }, type := 9, pos := "keep.go:250", after := #[{ on := 25, ground := Ground.data }, { on := 14, ground := Ground.chain }, { on := 14, ground := Ground.guard }], guard := some (14, false) } : Oper)) (v := undef) rfl (by kernel_rfl) (by kernel_rfl) (by kernel_rfl) (fun _ _ _ h => h) (Or.inr ⟨by rfl, rfl⟩) (by assumption) ?_
            try simp only [Act.put, List.setIfInBounds_toArray, List.set_cons_zero, List.set_cons_succ]
            refine wpAnyH_take (i := 27) (oi := ({ dst := some 58, op := Op.binOp BinOp.neq 9 (Operand.tmp 55) (Operand.tmp 57) 9, type := 4, pos := "keep.go:250", after := #[{ on := 24, ground := Ground.data }, { on := 26, ground := Ground.data }, { on := 14, ground := Ground.guard }], guard := some (14, false) } : Oper)) (v := undef) rfl (by kernel_rfl) (by kernel_rfl) (by kernel_rfl) (fun _ _ _ h => h) (Or.inr ⟨by rfl, rfl⟩) (by assumption) ?_
            try simp only [Act.put, List.setIfInBounds_toArray, List.set_cons_zero, List.set_cons_succ]
            refine wpAnyH_take (i := 28) (oi := ({ dst := some 59, op := Op.pick (Operand.tmp 45) (Operand.const (Value.bool true)) (Operand.tmp 58), type := 4, pos := "keep.go:250", after := #[{ on := 14, ground := Ground.data }, { on := 27, ground := Ground.data }, { on := 3, ground := Ground.guard }], guard := some (3, true) } : Oper)) (v := undef) rfl (by kernel_rfl) (by kernel_rfl) (by kernel_rfl) (fun _ _ _ h => h) (Or.inr ⟨by rfl, rfl⟩) (by assumption) ?_
            try simp only [Act.put, List.setIfInBounds_toArray, List.set_cons_zero, List.set_cons_succ]
            refine wpAnyH_take (i := 29) (oi := ({ dst := some 60, op := Op.pick (Operand.tmp 34) (Operand.tmp 59) (Operand.const (Value.bool false)), type := 4, pos := "keep.go:250", after := #[{ on := 3, ground := Ground.data }, { on := 28, ground := Ground.data }], guard := none } : Oper)) (v := ?v_40) rfl (by kernel_rfl) (by kernel_rfl) (by kernel_rfl) (fun _ _ _ h => h) (Or.inl ⟨by rfl, ?hy_40⟩) (by assumption) ?rest_40
            case hy_40 => (intro w hSw; (try dsimp only at hSw); go_simp; try with_reducible rfl)
            try simp only [Act.put, List.setIfInBounds_toArray, List.set_cons_zero, List.set_cons_succ]
            refine wpAnyH_take (i := 30) (oi := ({ dst := some 61, op := Op.move (Operand.tmp 60), type := 4, pos := "keep.go:250", after := #[{ on := 29, ground := Ground.data }, { on := 26, ground := Ground.chain }], guard := none } : Oper)) (v := ?v_41) rfl (by kernel_rfl) (by kernel_rfl) (by kernel_rfl) (fun _ _ _ h => h) (Or.inl ⟨by rfl, ?hy_41⟩) (by assumption) ?rest_41
            case hy_41 => (intro w hSw; (try dsimp only at hSw); go_simp; try with_reducible rfl)
            try simp only [Act.put, List.setIfInBounds_toArray, List.set_cons_zero, List.set_cons_succ]
            refine wpAnyH_take (i := 31) (oi := ({ dst := some 62, op := Op.move (Operand.tmp 7), type := 3, pos := "keep.go:250", after := #[{ on := 30, ground := Ground.guard }], guard := some (30, false) } : Oper)) (v := ?v_42) rfl (by kernel_rfl) (by kernel_rfl) (by kernel_rfl) (fun _ _ _ h => h) (Or.inl ⟨by rfl, ?hy_42⟩) (by assumption) ?rest_42
            case hy_42 => (intro w hSw; (try dsimp only at hSw); go_simp; try with_reducible rfl)
            try simp only [Act.put, List.setIfInBounds_toArray, List.set_cons_zero, List.set_cons_succ]
            refine wpAnyH_take (i := 32) (oi := ({ dst := some 63, op := Op.move (Operand.tmp 6), type := 3, pos := "keep.go:250", after := #[{ on := 30, ground := Ground.guard }], guard := some (30, false) } : Oper)) (v := ?v_43) rfl (by kernel_rfl) (by kernel_rfl) (by kernel_rfl) (fun _ _ _ h => h) (Or.inl ⟨by rfl, ?hy_43⟩) (by assumption) ?rest_43
            case hy_43 => (intro w hSw; (try dsimp only at hSw); go_simp; try with_reducible rfl)
            try simp only [Act.put, List.setIfInBounds_toArray, List.set_cons_zero, List.set_cons_succ]
            refine wpAnyH_take (i := 33) (oi := ({ dst := some 64, op := Op.binOp BinOp.geq 3 (Operand.tmp 62) (Operand.tmp 63) 3, type := 4, pos := "keep.go:250", after := #[{ on := 31, ground := Ground.data }, { on := 32, ground := Ground.data }, { on := 30, ground := Ground.guard }], guard := some (30, false) } : Oper)) (v := ?v_44) rfl (by kernel_rfl) (by kernel_rfl) (by kernel_rfl) (fun _ _ _ h => h) (Or.inl ⟨by rfl, ?hy_44⟩) (by assumption) ?rest_44
            case hy_44 => (intro w hSw; (try dsimp only at hSw); go_simp; try with_reducible rfl)
            try simp only [Act.put, List.setIfInBounds_toArray, List.set_cons_zero, List.set_cons_succ]
            refine wpAnyH_take (i := 34) (oi := ({ dst := some 65, op := Op.move (Operand.tmp 64), type := 4, pos := "keep.go:250", after := #[{ on := 33, ground := Ground.data }, { on := 30, ground := Ground.chain }, { on := 30, ground := Ground.guard }], guard := some (30, false) } : Oper)) (v := ?v_45) rfl (by kernel_rfl) (by kernel_rfl) (by kernel_rfl) (fun _ _ _ h => h) (Or.inl ⟨by rfl, ?hy_45⟩) (by assumption) ?rest_45
            case hy_45 => (intro w hSw; (try dsimp only at hSw); go_simp; try with_reducible rfl)
            try simp only [Act.put, List.setIfInBounds_toArray, List.set_cons_zero, List.set_cons_succ]
            refine wpAnyH_take (i := 35) (oi := ({ dst := some 66, op := Op.move (Operand.tmp 1), type := 26, pos := "keep.go:250", after := #[{ on := 34, ground := Ground.guard }], guard := some (34, true) } : Oper)) (v := ?v_46) rfl (by kernel_rfl) (by kernel_rfl) (by kernel_rfl) (fun _ _ _ h => h) (Or.inl ⟨by rfl, ?hy_46⟩) (by assumption) ?rest_46
            case hy_46 => (intro w hSw; (try dsimp only at hSw); go_simp; try with_reducible rfl)
            try simp only [Act.put, List.setIfInBounds_toArray, List.set_cons_zero, List.set_cons_succ]
            refine wpAnyH_take (i := 36) (oi := ({ dst := some 67, op := Op.move (Operand.tmp 5), type := 3, pos := "keep.go:250", after := #[{ on := 34, ground := Ground.guard }], guard := some (34, true) } : Oper)) (v := ?v_47) rfl (by kernel_rfl) (by kernel_rfl) (by kernel_rfl) (fun _ _ _ h => h) (Or.inl ⟨by rfl, ?hy_47⟩) (by assumption) ?rest_47
            case hy_47 => (intro w hSw; (try dsimp only at hSw); go_simp; try with_reducible rfl)
            try simp only [Act.put, List.setIfInBounds_toArray, List.set_cons_zero, List.set_cons_succ]
            refine wpAnyH_take (i := 37) (oi := ({ dst := some 68, op := Op.indexAddr 26 (Operand.tmp 66) (Operand.tmp 67), type := 0, pos := "keep.go:250", after := #[{ on := 35, ground := Ground.data }, { on := 36, ground := Ground.data }, { on := 34, ground := Ground.guard }], guard := some (34, true) } : Oper)) (v := ?v_48) rfl (by kernel_rfl) (by kernel_rfl) (by kernel_rfl) (fun _ _ _ h => h) (Or.inl ⟨by rfl, ?hy_48⟩) (by assumption) ?rest_48
            case hy_48 => (intro w hSw; (try dsimp only at hSw); go_simp; try with_reducible rfl)
            try simp only [Act.put, List.setIfInBounds_toArray, List.set_cons_zero, List.set_cons_succ]
            refine wpAnyH_take (i := 38) (oi := ({ dst := some 69, op := Op.load 33 (Operand.tmp 68), type := 33, pos := "keep.go:250", after := #[{ on := 37, ground := Ground.data }, { on := 34, ground := Ground.guard }], guard := some (34, true) } : Oper)) (v := ?v_49) rfl (by kernel_rfl) (by kernel_rfl) (by kernel_rfl) (fun _ _ _ h => h) (Or.inl ⟨by rfl, ?hy_49⟩) (by assumption) ?rest_49
            case hy_49 => (intro w hSw; (try dsimp only at hSw); go_simp; try with_reducible rfl)
            try simp only [Act.put, List.setIfInBounds_toArray, List.set_cons_zero, List.set_cons_succ]
            refine wpAnyH_take (i := 39) (oi := ({ dst := some 70, op := Op.move (Operand.tmp 7), type := 3, pos := "keep.go:250", after := #[{ on := 34, ground := Ground.guard }], guard := some (34, true) } : Oper)) (v := ?v_50) rfl (by kernel_rfl) (by kernel_rfl) (by kernel_rfl) (fun _ _ _ h => h) (Or.inl ⟨by rfl, ?hy_50⟩) (by assumption) ?rest_50
            case hy_50 => (intro w hSw; (try dsimp only at hSw); go_simp; try with_reducible rfl)
            try simp only [Act.put, List.setIfInBounds_toArray, List.set_cons_zero, List.set_cons_succ]
            refine wpAnyH_take (i := 40) (oi := ({ dst := some 71, op := Op.indexAddr 33 (Operand.tmp 69) (Operand.tmp 70), type := 0, pos := "keep.go:250", after := #[{ on := 38, ground := Ground.data }, { on := 39, ground := Ground.data }, { on := 34, ground := Ground.guard }], guard := some (34, true) } : Oper)) (v := ?v_51) rfl (by kernel_rfl) (by kernel_rfl) (by kernel_rfl) (fun _ _ _ h => h) (Or.inl ⟨by rfl, ?hy_51⟩) (by assumption) ?rest_51
            case hy_51 => (intro w hSw; (try dsimp only at hSw); go_simp; try with_reducible rfl)
            try simp only [Act.put, List.setIfInBounds_toArray, List.set_cons_zero, List.set_cons_succ]
            refine wpAnyH_take (i := 41) (oi := ({ dst := some 72, op := Op.load 9 (Operand.tmp 71), type := 9, pos := "keep.go:250", after := #[{ on := 40, ground := Ground.data }, { on := 34, ground := Ground.guard }], guard := some (34, true) } : Oper)) (v := ?v_52) rfl (by kernel_rfl) (by kernel_rfl) (by kernel_rfl) (fun _ _ _ h => h) (Or.inl ⟨by rfl, ?hy_52⟩) (by assumption) ?rest_52
            case hy_52 => (intro w hSw; (try dsimp only at hSw); go_simp; try with_reducible rfl)
            try simp only [Act.put, List.setIfInBounds_toArray, List.set_cons_zero, List.set_cons_succ]
            refine wpAnyH_take (i := 42) (oi := ({ dst := some 73, op := Op.move (Operand.tmp 5), type := 3, pos := "keep.go:250", after := #[{ on := 34, ground := Ground.guard }], guard := some (34, true) } : Oper)) (v := ?v_53) rfl (by kernel_rfl) (by kernel_rfl) (by kernel_rfl) (fun _ _ _ h => h) (Or.inl ⟨by rfl, ?hy_53⟩) (by assumption) ?rest_53
            case hy_53 => (intro w hSw; (try dsimp only at hSw); go_simp; try with_reducible rfl)
            try simp only [Act.put, List.setIfInBounds_toArray, List.set_cons_zero, List.set_cons_succ]
            refine wpAnyH_ready (rs := [43]) (by kernel_rfl) (by simp) ?_
            refine AllReadyH.cons (o := ({ dst := some 74, op := Op.call { callee := Callee.value (Operand.func 97), args := #[Operand.tmp 73], argTypes := #[3] }, type := 9, pos := "keep.go:250", after := #[{ on := 42, ground := Ground.data }, { on := 34, ground := Ground.chain }, { on := 34, ground := Ground.guard }], guard := some (34, true) } : Oper)) rfl (fun K' hK' => ?_) AllReadyH.nil
            go_simp
            (with_reducible refine (HWD.out _).mono ?_; rintro e w2 ⟨rfl, hb2⟩; have z0 := cell_past z0 hb2; have zi := cell_past zi hb2; have zx := cell_past zx hb2; have z3 := cell_past z3 hb2; have hbv := HBV.out.trans (hb2.mono HBV.out.size); have HBV := Lib.hid hbv; clear hb2 hbv)
            refine hK'.out _ _ (by exact ⟨z0, zi, zx, z3⟩) (fun hHeld1 => ?_)
            clear hK' K' hHeld
            try simp only [Act.put, List.setIfInBounds_toArray, List.set_cons_zero, List.set_cons_succ]
            refine wpAnyH_take (i := 44) (oi := ({ dst := some 75, op := Op.binOp BinOp.add 9 (Operand.const (Value.string { data := #[43] })) (Operand.tmp 74) 9, type := 9, pos := "keep.go:250", after := #[{ on := 43, ground := Ground.data }, { on := 34, ground := Ground.guard }], guard := some (34, true) } : Oper)) (v := ?v_54) rfl (by kernel_rfl) (by kernel_rfl) (by kernel_rfl) (fun _ _ _ h => h) (Or.inl ⟨by rfl, ?hy_54⟩) (by assumption) ?rest_54
            case hy_54 => (intro w hSw; (try dsimp only at hSw); go_simp; try with_reducible rfl)
            try simp only [Act.put, List.setIfInBounds_toArray, List.set_cons_zero, List.set_cons_succ]
            refine wpAnyH_take (i := 45) (oi := ({ dst := some 76, op := Op.binOp BinOp.neq 9 (Operand.tmp 72) (Operand.tmp 75) 9, type := 4, pos := "keep.go:250", after := #[{ on := 41, ground := Ground.data }, { on := 44, ground := Ground.data }, { on := 34, ground := Ground.guard }], guard := some (34, true) } : Oper)) (v := ?v_55) rfl (by kernel_rfl) (by kernel_rfl) (by kernel_rfl) (fun _ _ _ h => h) (Or.inl ⟨by rfl, ?hy_55⟩) (by assumption) ?rest_55
            case hy_55 => (intro w hSw; (try dsimp only at hSw); go_simp; try with_reducible rfl)
            try simp only [Act.put, List.setIfInBounds_toArray, List.set_cons_zero, List.set_cons_succ]
            refine wpAnyH_take (i := 46) (oi := ({ dst := some 77, op := Op.pick (Operand.tmp 65) (Operand.tmp 76) (Operand.const (Value.bool false)), type := 4, pos := "keep.go:250", after := #[{ on := 34, ground := Ground.data }, { on := 45, ground := Ground.data }, { on := 30, ground := Ground.guard }], guard := some (30, false) } : Oper)) (v := ?v_56) rfl (by kernel_rfl) (by kernel_rfl) (by kernel_rfl) (fun _ _ _ h => h) (Or.inl ⟨by rfl, ?hy_56⟩) (by assumption) ?rest_56
            case hy_56 => (intro w hSw; (try dsimp only at hSw); go_simp; try with_reducible rfl)
            try simp only [Act.put, List.setIfInBounds_toArray, List.set_cons_zero, List.set_cons_succ]
            refine wpAnyH_take (i := 47) (oi := ({ dst := some 78, op := Op.pick (Operand.tmp 61) (Operand.const (Value.bool true)) (Operand.tmp 77), type := 4, pos := "keep.go:250", after := #[{ on := 30, ground := Ground.data }, { on := 46, ground := Ground.data }], guard := none } : Oper)) (v := ?v_57) rfl (by kernel_rfl) (by kernel_rfl) (by kernel_rfl) (fun _ _ _ h => h) (Or.inl ⟨by rfl, ?hy_57⟩) (by assumption) ?rest_57
            case hy_57 => (intro w hSw; (try dsimp only at hSw); go_simp; try with_reducible rfl)
            try simp only [Act.put, List.setIfInBounds_toArray, List.set_cons_zero, List.set_cons_succ]
            refine wpAnyH_done (by kernel_rfl) ?_ _
            all_goals go_wp2_with fail
            all_goals exact ⟨⟨k + 1, by omega, by go_num, HBV.out⟩, by show n + d - ((k : Int) + 1).toNat < n + d - (k : Int).toNat; omega⟩
        · have hk1 : decide (k < n + d) = false := decide_eq_false (by omega)
          have hk2 : decide ((k : Int) < (n : Int) + (d : Int)) = false := decide_eq_false (by omega)
          have HBV := Lib.hid hbw
          clear hlk hbw
          go_wp2_with fail
          exact ⟨⟨i + 1, by omega, by go_num, HBV.out⟩, by show vs.length - ((i : Int) + 1).toNat < vs.length - (i : Int).toNat; omega⟩
    · have hi1 : decide (i < vs.length) = false := decide_eq_false (by omega)
      clear hlt
      go_wp2_with fail
      go_ret
      exact ⟨rfl, HBW.out⟩
end
end Go.Proofs.YthgfjafnclklpaaGreatDoor
