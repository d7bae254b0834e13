/- Walk of the statements' wakes. -/
import Derived.Test.YtnbeeehfapjpdaaGreatDoorQU4
import Derived.Lib.SlBytesConst
namespace Go.Proofs.YtnbeeehfapjpdaaGreatDoor
attribute [local go_sem ↓] Go.wp_at_zero Go.wp_at_succ
open Go.RowKit

theorem RowAt.lt {w : World} {A : Option Addr} {xs : List Value} (h : RowAt w A xs) (hx : xs ≠ []) {a : Addr} (ha : A = some a) : a.block < w.heap.size := by
  rcases h with h | ⟨g, o, h1, h2, _⟩
  · exact absurd h hx
  · rw [h1] at ha; rw [← Option.some.inj ha]; exact h2
def wakeL : Sp.Bs := [86, 65, 76, 85, 69, 32, 97, 32, 53, 32, 49, 32, 55, 13, 10, 120, 13, 10, 69, 78, 68, 13, 10]
theorem num13_any (n : Int) (w : World) : Calls Tryz.prog 17 #[.int .i64 n] w fun e w' => e = .returned (.int .i64 n) ∧ w = w' := by
  go_enter Tryz.func17, Tryz.ntmps17
  go_wp2
  go_ret
  exact ⟨rfl, rfl⟩
set_option maxHeartbeats 8000000 in
set_option maxRecDepth 100000 in
theorem wakes13_any {w : World} (hg : GlobR w) :
    Calls Tryz.prog 23 #[] w fun e w' => e = .returned (.bool true) ∧ Below w.heap.size w w' := by
  generalize hR : (fun (e : Ending) (w' : World) => e = .returned (.bool true) ∧ Below w.heap.size w w') = R
  have HR := Lib.hid hR
  have HG := Lib.hid hg
  clear hR hg
  have hcv := fun (w : World) (C : Array Value) (n c : Nat) => Lib.run_convert_bytes_const (P := Tryz.prog) w 29 5 C n c Tryz.underlying29 Tryz.underlying5
  go_enter Tryz.func23, Tryz.ntmps23
  go_upto_region 2 with fail
  obtain ⟨W1, hW1⟩ : ∃ W1, W1 = (w.alloc (.cells #[str [97]] 9)).alloc (.cells #[.int .i64 2, .slice (some ⟨w.heap.size, 0, none⟩) 1 1, .int .u64 0, .int .i64 0, .int .u64 0, .int .u64 0, .slice none 0 0, .bool false, .bool false, .slice none 0 0, str []] 32) := ⟨_, rfl⟩
  have hb1 : Below w.heap.size w W1 := hW1 ▸ (((Below.refl _ _).alloc (Nat.le_refl _) _).alloc (by simp) _)
  have hbc : Blk W1 (w.heap.size + 1) 32 #[.int .i64 2, .slice (some ⟨w.heap.size, 0, none⟩) 1 1, .int .u64 0, .int .i64 0, .int .u64 0, .int .u64 0, .slice none 0 0, .bool false, .bool false, .slice none 0 0, str []] := by
    have h2 := Blk.new (w.alloc (.cells #[str [97]] 9)) 32 #[.int .i64 2, .slice (some ⟨w.heap.size, 0, none⟩) 1 1, .int .u64 0, .int .i64 0, .int .u64 0, .int .u64 0, .slice none 0 0, .bool false, .bool false, .slice none 0 0, str []]
    rw [show (w.alloc (.cells #[str [97]] 9)).heap.size = w.heap.size + 1 by simp] at h2
    rw [hW1]; exact h2
  have hbk : Blk W1 w.heap.size 9 #[str [97]] := hW1 ▸ (Blk.new w _ _).alloc _
  have hrow : RowAt W1 (some ⟨w.heap.size, 0, none⟩) (([[97]] : List Sp.Bs).map str) := .inr ⟨_, _, rfl, hbk.lt, fun j u hu => by rw [Nat.zero_add, hbk.cell j]; simpa using hu⟩
  obtain ⟨kb, hkb⟩ : ∃ kb, kb = w.heap.size := ⟨_, rfl⟩
  obtain ⟨cb, hcb⟩ : ∃ cb, cb = w.heap.size + 1 := ⟨_, rfl⟩
  show Code.wp _ _ _ _ ((w.alloc (.cells #[str [97]] 9)).alloc (.cells #[.int .i64 2, .slice (some ⟨w.heap.size, 0, none⟩) 1 1, .int .u64 0, .int .i64 0, .int .u64 0, .int .u64 0, .slice none 0 0, .bool false, .bool false, .slice none 0 0, str []] 32))
  rw [← hW1, ← hcb, ← hkb]
  rw [← hcb] at hbc
  rw [← hkb] at hbc hrow
  have HW1 := Lib.hid hW1
  have HB1 := Lib.hid hb1
  have HBC := Lib.hid hbc
  have HROW := Lib.hid hrow
  have HCB := Lib.hid hcb
  have HKB := Lib.hid hkb
  clear hW1 hb1 hbc hbk hrow hcb hkb
  go_upto_region 3 with fail
  have hsz1 : (W1.alloc (.cells #[.int .u8 120] 5 (1, 2))).heap.size = W1.heap.size + 1 := by simp
  obtain ⟨en, hen⟩ : ∃ en : Array Value, en = #[str [97], .slice (some ⟨W1.heap.size, 0, none⟩) 1 1, .int .u64 5, .int .i64 0, .int .u64 7, .int .i64 0, .bool false, .bool false, .bool false] := ⟨_, rfl⟩
  have hsz2 : ((W1.alloc (.cells #[.int .u8 120] 5 (1, 2))).alloc (.cells en 86)).heap.size = W1.heap.size + 1 + 1 := by simp
  obtain ⟨x, hx⟩ : ∃ x : AnsX, x = { kind := 9, E := some ⟨W1.heap.size + 1, 0, none⟩, ec := 1, xs := [⟨{ key := [97], value := [120], flags := 5, token := 7 }, some ⟨W1.heap.size, 0, none⟩, 1⟩] } := ⟨_, rfl⟩
  have hxc : x.cells = #[.int .i64 9, .slice (some ⟨W1.heap.size + 1, 0, none⟩) 1 1, .int .u64 0, str [], .slice none 0 0] := by rw [hx]; rfl
  have hxv : x.v = { kind := 9, entries := [{ key := [97], value := [120], flags := 5, token := 7 }] } := by rw [hx]; rfl
  show Code.wp _ _ _ _ (((W1.alloc (.cells #[.int .u8 120] 5 (1, 2))).alloc (.cells #[str [97], .slice (some ⟨W1.heap.size, 0, none⟩) 1 1, .int .u64 5, .int .i64 0, .int .u64 7, .int .i64 0, .bool false, .bool false, .bool false] 86)).alloc (.cells #[.int .i64 9, .slice (some ⟨W1.heap.size + 1, 0, none⟩) 1 1, .int .u64 0, str [], .slice none 0 0] 36))
  rw [← hxc, ← hen]
  obtain ⟨W2, hW2⟩ : ∃ W2, W2 = ((W1.alloc (.cells #[.int .u8 120] 5 (1, 2))).alloc (.cells en 86)).alloc (.cells x.cells 36) := ⟨_, rfl⟩
  have hb12 : Below W1.heap.size W1 W2 := hW2 ▸ ((((Below.refl _ _).alloc (Nat.le_refl _) _).alloc (by simp) _).alloc (by simp; omega) _)
  have hbx : Blk W2 (W1.heap.size + 1 + 1) 36 x.cells := by
    have h2 := Blk.new ((W1.alloc (.cells #[.int .u8 120] 5 (1, 2))).alloc (.cells en 86)) 36 x.cells
    rw [hsz2] at h2
    rw [hW2]; exact h2
  have hbe : Blk W2 (W1.heap.size + 1) 86 en := by
    have h2 := Blk.new (W1.alloc (.cells #[.int .u8 120] 5 (1, 2))) 86 en
    rw [hsz1] at h2
    rw [hW2]; exact h2.alloc _
  have hbv : W2.cell? ⟨W1.heap.size, 0, none⟩ = some (.int .u8 120) := by
    rw [hW2]
    refine Lib.cell?_alloc_marked _ (Lib.cell?_alloc_marked _ ?_)
    unfold World.cell?
    rw [heap_alloc_new]
    rfl
  have hvlt : W1.heap.size < W2.heap.size := by rw [hW2]; simp; omega
  have hin : AnsIn W2 x := by
    rw [hx]
    refine ⟨⟨.inr ⟨_, _, rfl, hbe.lt, fun j u hu => ?_⟩, fun y hy => ?_⟩, .inl rfl, ⟨by simp, by simp⟩, by simp, by simp, by simp⟩
    · rw [Nat.zero_add, hbe.cell j, hen]; simpa [EntX.cells] using hu
    · rw [List.mem_singleton.1 hy]
      refine ⟨.inr ⟨_, _, rfl, hvlt, fun j u hu => ?_⟩, by simp, by simp, by simp, by simp, by simp, by simp⟩
      match j, hu with
      | 0, hu => rw [← Option.some.inj hu]; exact hbv
  have hb2 : Below w.heap.size w W2 := HB1.out.trans (hb12.mono HB1.out.size)
  have hbc2 := HBC.out.later hb12
  have hrow2 := HROW.out.below hb12
  have hg2 := HG.out.later hb2
  have hby : Calls Tryz.prog 15 #[cmdA 2 (some ⟨kb, 0, none⟩) 1 1 0 0 0 0 none 0 0 false false none 0 0 [], x.val] W2 fun e w' => ∃ O oc, e = .returned (.tuple #[.slice O 23 oc, .int .i64 0]) ∧ w'.ownsRow W2.heap.size 5 1 (.slice O 23 oc) 23 (bytesV wakeL) ∧ Below W2.heap.size W2 w' := by
    have h := bytesOf_any hg2 2 0 0 0 0 none 0 0 false false none 0 0 [] hrow2 (kc := 1) (by decide) (by decide) hin (by rw [hxv]; decide)
    rw [hxv, Sp.wakesR] at h
    exact h
  have hft : ∀ W : World, Below W2.heap.size W2 W → Calls Tryz.prog 14 #[cmdA 2 (some ⟨kb, 0, none⟩) 1 1 0 0 0 0 none 0 0 false false none 0 0 [], x.val] W fun e w' => e = .returned (.bool true) ∧ Below W.heap.size W w' := fun W hW => by
    have h := fitsOf_any (hg2.later hW) 2 0 0 0 0 none 0 0 false false none 0 0 [] (hrow2.below hW) (kc := 1) (by decide) (by decide) (hin.below hW)
    rw [hxv, show Sp.fitsV 2 [[97]] [] { kind := 9, entries := [{ key := [97], value := [120], flags := 5, token := 7 }] } = true by decide] at h
    exact h
  have hrd : ∀ (W : World), Below W2.heap.size W2 W → ∀ (O : Option Addr) (oc : Nat), W.ownsRow W2.heap.size 5 1 (.slice O 23 oc) 23 (bytesV wakeL) → Calls Tryz.prog 26 #[cmdA 2 (some ⟨kb, 0, none⟩) 1 1 0 0 0 0 none 0 0 false false none 0 0 [], .slice O 23 oc] W fun e w' => Below W.heap.size W w' ∧ ∃ y : AnsX, y.v = x.v ∧ e = .returned (.tuple #[(.agg #[.int .i64 y.kind, .slice y.E y.xs.length y.ec, .int .u64 y.number, str y.text, .slice y.S y.stats.length y.sc]), .int .i64 23, .int .i64 0]) ∧ AnsOwn w' W.heap.size y := fun W hW O oc ho => by
    have hr := own_room3 ho
    have h := readOf_any (w := W) (A := O) (cap := oc) (raw := wakeL) (RowAt.of_own ho) hr.1 (by decide) hr.2.2 (fun a ha => own_lt ho _ (by rw [ha]; simp [rowBlock, Value.ownBlock])) 2 0 0 0 0 none 0 0 false false none 0 0 [] (keys := [[97]]) (kc := 1) (hrow2.below hW) (by decide) (fun _ a ha => Nat.lt_of_lt_of_le (RowAt.lt hrow2 (by simp) ha) hW.size) (by decide)  
    rw [show wakeL = [86, 65, 76, 85, 69, 32, 97, 32, 53, 32, 49, 32, 55, 13, 10, 120, 13, 10, 69, 78, 68, 13, 10] from rfl, Sp.wakesR2, ← hxv] at h
    exact h
  have hrd2 : ∀ (W : World), Below W2.heap.size W2 W → ∀ (O : Option Addr) (oc : Nat), W.ownsRow W2.heap.size 5 1 (.slice O 23 oc) 23 (bytesV wakeL) → Calls Tryz.prog 26 #[cmdA 2 (some ⟨kb, 0, none⟩) 1 1 0 0 0 0 none 0 0 false false none 0 0 [], .slice O 22 oc] W fun e w' => Below W.heap.size W w' ∧ ∃ y : AnsX, e = .returned (.tuple #[(.agg #[.int .i64 y.kind, .slice y.E y.xs.length y.ec, .int .u64 y.number, str y.text, .slice y.S y.stats.length y.sc]), .int .i64 0, .int .i64 0]) := fun W hW O oc ho => by
    have hr := own_room3 ho
    have h := readOf_any (w := W) (A := O) (cap := oc) (raw := wakeL.take 22) (by have := (RowAt.of_own ho).take 22; simpa [bytesV, List.map_take] using this) (Nat.le_trans (by decide) hr.1) (by decide) hr.2.2 (fun a ha => own_lt ho _ (by rw [ha]; simp [rowBlock, Value.ownBlock])) 2 0 0 0 0 none 0 0 false false none 0 0 [] (keys := [[97]]) (kc := 1) (hrow2.below hW) (by decide) (fun _ a ha => Nat.lt_of_lt_of_le (RowAt.lt hrow2 (by simp) ha) hW.size) (by decide)
    rw [show wakeL.take 22 = [86, 65, 76, 85, 69, 32, 97, 32, 53, 32, 49, 32, 55, 13, 10, 120, 13, 10, 69, 78, 68, 13] from rfl, Sp.wakesR3] at h
    exact h.mono fun e w' ⟨h1, y, _, h2, _⟩ => ⟨h1, y, h2⟩
  obtain ⟨xb, hxb⟩ : ∃ xb, xb = W1.heap.size + 1 + 1 := ⟨_, rfl⟩
  rw [← hxb] at hbx
  rw [← hW2, ← hxb]
  have hsm : ∀ (W : World) (y : AnsX), AnsRd W x → AnsRd W y → y.v = x.v → Calls Tryz.prog 27 #[y.val, x.val] W fun e w' => e = .returned (.bool true) ∧ Below W.heap.size W w' := fun W y h1 h2 h3 => same_answers h2 h1 h3
  have hnm := fun (n : Int) (W : World) => num13_any n W
  have hxr := hin.rd
  have c0 := hbc2.cell 0
  have c1 := hbc2.cell 1
  have c2 := hbc2.cell 2
  have c3 := hbc2.cell 3
  have c4 := hbc2.cell 4
  have c5 := hbc2.cell 5
  have c6 := hbc2.cell 6
  have c7 := hbc2.cell 7
  have c8 := hbc2.cell 8
  have c9 := hbc2.cell 9
  have c10 := hbc2.cell 10
  have x0 := hbx.cell 0
  have x1 := hbx.cell 1
  have x2 := hbx.cell 2
  have x3 := hbx.cell 3
  have x4 := hbx.cell 4
  simp only [List.getElem?_toArray, List.getElem?_cons_zero, List.getElem?_cons_succ] at c0 c1 c2 c3 c4 c5 c6 c7 c8 c9 c10 x0 x1 x2 x3 x4
  have hneq : ∀ W : World, (binOp .neq 9 (str wakeL) (.string ⟨#[86, 65, 76, 85, 69, 32, 97, 32, 53, 32, 49, 32, 55, 13, 10, 120, 13, 10, 69, 78, 68, 13, 10]⟩)).run Tryz.prog W = .ok (.bool false) W := fun W => by kernel_rfl
  have HBY := Lib.hid hby
  have HFT := Lib.hid hft
  have HRD := Lib.hid hrd
  have HRD2 := Lib.hid hrd2
  have HSM := Lib.hid hsm
  have HNM := Lib.hid hnm
  have HXR := Lib.hid hxr
  have HBX := Lib.hid hbx
  have HBC2 := Lib.hid hbc2
  have HB2 := Lib.hid hb2
  have HXV := Lib.hid hxv
  clear hby hft hrd hrd2 hsm hnm hxr hbx hbc2 hb2 hb12 hbe hbv hvlt hin hrow2 hg2 hxb hW2 hxc hxv hx hen hsz1 hsz2 hcv
  go_upto_region 6 with (first
    | (go_at_call 15; refine HBY.out.mono ?_; rintro e w3 ⟨O, oc, rfl, hown3, hb3⟩; have hc3 : (convert 29 9 (.slice O 23 oc)).run Tryz.prog w3 = .ok (str wakeL) w3 := run_bytes_str (l := wakeL) (RowAt.of_own hown3); have hbx3 := HBX.out.later hb3; have hbc3 := HBC2.out.later hb3; have c0 := hbc3.cell 0; have c1 := hbc3.cell 1; have c2 := hbc3.cell 2; have c3 := hbc3.cell 3; have c4 := hbc3.cell 4; have c5 := hbc3.cell 5; have c6 := hbc3.cell 6; have c7 := hbc3.cell 7; have c8 := hbc3.cell 8; have c9 := hbc3.cell 9; have c10 := hbc3.cell 10; have x0 := hbx3.cell 0; have x1 := hbx3.cell 1; have x2 := hbx3.cell 2; have x3 := hbx3.cell 3; have x4 := hbx3.cell 4; simp only [List.getElem?_toArray, List.getElem?_cons_zero, List.getElem?_cons_succ] at c0 c1 c2 c3 c4 c5 c6 c7 c8 c9 c10 x0 x1 x2 x3 x4; have HB3 := Lib.hid hb3; have HOWN3 := Lib.hid hown3; clear hb3 hown3 hbx3 hbc3)
    | (go_at_call 17; (with_reducible refine (HNM.out _ _).mono ?_); rintro e w4 ⟨rfl, rfl⟩)
    | (go_at_call 14; refine (HFT.out _ HB3.out).mono ?_; rintro e w5 ⟨rfl, hb5⟩; have hb25 := HB3.out.trans (hb5.mono HB3.out.size); have hbx5 := HBX.out.later hb25; have hbc5 := HBC2.out.later hb25; have hown5 := own_later HOWN3.out hb5; have c0 := hbc5.cell 0; have c1 := hbc5.cell 1; have c2 := hbc5.cell 2; have c3 := hbc5.cell 3; have c4 := hbc5.cell 4; have c5 := hbc5.cell 5; have c6 := hbc5.cell 6; have c7 := hbc5.cell 7; have c8 := hbc5.cell 8; have c9 := hbc5.cell 9; have c10 := hbc5.cell 10; have x0 := hbx5.cell 0; have x1 := hbx5.cell 1; have x2 := hbx5.cell 2; have x3 := hbx5.cell 3; have x4 := hbx5.cell 4; simp only [List.getElem?_toArray, List.getElem?_cons_zero, List.getElem?_cons_succ] at c0 c1 c2 c3 c4 c5 c6 c7 c8 c9 c10 x0 x1 x2 x3 x4; have HB5 := Lib.hid hb25; have HOWN5 := Lib.hid hown5; clear hb5 hb25 hown5 hbx5 hbc5))
  go_upto_region 7 with (go_at_call 26; refine (HRD.out _ HB5.out O oc HOWN5.out).mono ?_; rintro e w6 ⟨hb6, y, hy, rfl, hown6⟩; have HB6 := Lib.hid hb6; have HY6 := Lib.hid hy; have HOWN6 := Lib.hid hown6; clear hb6 hy hown6)
  have hb56 : Below w5.heap.size w5 w6 := HB6.out
  have hb26 : Below W2.heap.size W2 w6 := HB5.out.trans (hb56.mono HB5.out.size)
  have hal6 : Below w6.heap.size w6 (w6.alloc (.cells #[.int .i64 y.kind, .slice y.E y.xs.length y.ec, .int .u64 y.number, str y.text, .slice y.S y.stats.length y.sc] 36)) := (Below.refl _ _).alloc (Nat.le_refl _) _
  have hyb := Blk.new w6 36 #[.int .i64 y.kind, .slice y.E y.xs.length y.ec, .int .u64 y.number, str y.text, .slice y.S y.stats.length y.sc]
  obtain ⟨W6, hW6⟩ : ∃ W6, W6 = w6.alloc (.cells #[.int .i64 y.kind, .slice y.E y.xs.length y.ec, .int .u64 y.number, str y.text, .slice y.S y.stats.length y.sc] 36) := ⟨_, rfl⟩
  rw [← hW6] at hal6 hyb
  show Code.wp _ _ _ _ (w6.alloc (.cells #[.int .i64 y.kind, .slice y.E y.xs.length y.ec, .int .u64 y.number, str y.text, .slice y.S y.stats.length y.sc] 36))
  rw [← hW6]
  obtain ⟨yb, hybe⟩ : ∃ yb, yb = w6.heap.size := ⟨_, rfl⟩
  rw [← hybe] at hyb ⊢
  have hb2W : Below W2.heap.size W2 W6 := hb26.trans (hal6.mono hb26.size)
  have hownW : W6.ownsRow W2.heap.size 5 1 (.slice O 23 oc) 23 (bytesV wakeL) := own_later (own_later HOWN5.out hb56) hal6
  have hyr : AnsRd W6 y := by
    have h := (HOWN6.out.later hal6)
    refine ⟨RowAt.of_own h.ents.row, fun z hz => RowAt.of_own (h.ents.each z hz), RowAt.of_own h.stats, ?_⟩
    have h1 := congrArg Sp.AnswerV.entries HY6.out
    have h2 := congrArg Sp.AnswerV.stats HY6.out
    have h3 := HXR.out.few
    have h4 := congrArg List.length h1
    have h5 := congrArg List.length h2
    simp only [AnsX.v, List.length_map] at h4 h5
    omega
  have hcx := HBC2.out.later hb2W
  have hxx := HBX.out.later hb2W
  have u0 : ∀ W : World, Below W6.heap.size W6 W → W.cell? ⟨cb, 0, none⟩ = some (.int .i64 2) := fun W hW => (hcx.later hW).cell 0
  have u1 : ∀ W : World, Below W6.heap.size W6 W → W.cell? ⟨cb, 1, none⟩ = some (.slice (some ⟨kb, 0, none⟩) 1 1) := fun W hW => (hcx.later hW).cell 1
  have u2 : ∀ W : World, Below W6.heap.size W6 W → W.cell? ⟨cb, 2, none⟩ = some (.int .u64 0) := fun W hW => (hcx.later hW).cell 2
  have u3 : ∀ W : World, Below W6.heap.size W6 W → W.cell? ⟨cb, 3, none⟩ = some (.int .i64 0) := fun W hW => (hcx.later hW).cell 3
  have u4 : ∀ W : World, Below W6.heap.size W6 W → W.cell? ⟨cb, 4, none⟩ = some (.int .u64 0) := fun W hW => (hcx.later hW).cell 4
  have u5 : ∀ W : World, Below W6.heap.size W6 W → W.cell? ⟨cb, 5, none⟩ = some (.int .u64 0) := fun W hW => (hcx.later hW).cell 5
  have u6 : ∀ W : World, Below W6.heap.size W6 W → W.cell? ⟨cb, 6, none⟩ = some (.slice none 0 0) := fun W hW => (hcx.later hW).cell 6
  have u7 : ∀ W : World, Below W6.heap.size W6 W → W.cell? ⟨cb, 7, none⟩ = some (.bool false) := fun W hW => (hcx.later hW).cell 7
  have u8 : ∀ W : World, Below W6.heap.size W6 W → W.cell? ⟨cb, 8, none⟩ = some (.bool false) := fun W hW => (hcx.later hW).cell 8
  have u9 : ∀ W : World, Below W6.heap.size W6 W → W.cell? ⟨cb, 9, none⟩ = some (.slice none 0 0) := fun W hW => (hcx.later hW).cell 9
  have u10 : ∀ W : World, Below W6.heap.size W6 W → W.cell? ⟨cb, 10, none⟩ = some (str []) := fun W hW => (hcx.later hW).cell 10
  have v0 : ∀ W : World, Below W6.heap.size W6 W → W.cell? ⟨xb, 0, none⟩ = some (.int .i64 x.kind) := fun W hW => (hxx.later hW).cell 0
  have v1 : ∀ W : World, Below W6.heap.size W6 W → W.cell? ⟨xb, 1, none⟩ = some (.slice x.E x.xs.length x.ec) := fun W hW => (hxx.later hW).cell 1
  have v2 : ∀ W : World, Below W6.heap.size W6 W → W.cell? ⟨xb, 2, none⟩ = some (.int .u64 x.number) := fun W hW => (hxx.later hW).cell 2
  have v3 : ∀ W : World, Below W6.heap.size W6 W → W.cell? ⟨xb, 3, none⟩ = some (str x.text) := fun W hW => (hxx.later hW).cell 3
  have v4 : ∀ W : World, Below W6.heap.size W6 W → W.cell? ⟨xb, 4, none⟩ = some (.slice x.S x.stats.length x.sc) := fun W hW => (hxx.later hW).cell 4
  have y0 : ∀ W : World, Below W6.heap.size W6 W → W.cell? ⟨yb, 0, none⟩ = some (.int .i64 y.kind) := fun W hW => (hyb.later hW).cell 0
  have y1 : ∀ W : World, Below W6.heap.size W6 W → W.cell? ⟨yb, 1, none⟩ = some (.slice y.E y.xs.length y.ec) := fun W hW => (hyb.later hW).cell 1
  have y2 : ∀ W : World, Below W6.heap.size W6 W → W.cell? ⟨yb, 2, none⟩ = some (.int .u64 y.number) := fun W hW => (hyb.later hW).cell 2
  have y3 : ∀ W : World, Below W6.heap.size W6 W → W.cell? ⟨yb, 3, none⟩ = some (str y.text) := fun W hW => (hyb.later hW).cell 3
  have y4 : ∀ W : World, Below W6.heap.size W6 W → W.cell? ⟨yb, 4, none⟩ = some (.slice y.S y.stats.length y.sc) := fun W hW => (hyb.later hW).cell 4
  have hoc := (own_room3 hownW).1
  have hoc2 := (own_room3 hownW).2.1
  have hoc3 : (22 : Int) ≤ (oc : Int) := by omega
  have hw22 : IntKind.i64.wrap 22 = 22 := by decide
  have hrf : Below W6.heap.size W6 W6 := Below.refl _ _
  have hrd0 : Below W6.heap.size W6 W6.drew := (Below.refl _ _).drew
  have hr2 := HRD2.out W6.drew hb2W.drew O oc hownW
  have hbz : Below W6.heap.size W6 (W6.alloc (.cells #[.int .i64 0, .slice none 0 0, .int .u64 0, .string ⟨#[]⟩, .slice none 0 0] 36)).drew := ((Below.refl _ _).alloc (Nat.le_refl _) _).drew
  have hr3 := HRD2.out (W6.alloc (.cells #[.int .i64 0, .slice none 0 0, .int .u64 0, .string ⟨#[]⟩, .slice none 0 0] 36)).drew (hb2W.trans (hbz.mono hb2W.size)) O oc (own_later hownW hbz)
  have hzb : Blk (W6.alloc (.cells #[.int .i64 0, .slice none 0 0, .int .u64 0, .string ⟨#[]⟩, .slice none 0 0] 36)).drew W6.heap.size 36 #[.int .i64 0, .slice none 0 0, .int .u64 0, .string ⟨#[]⟩, .slice none 0 0] := (Blk.new W6 _ _).drew
  have HR2 := Lib.hid hr2
  have HR3 := Lib.hid hr3
  have HBZ := Lib.hid hbz
  have HZB := Lib.hid hzb
  have HYR := Lib.hid hyr
  have HB2W := Lib.hid hb2W
  clear hal6 hyb hW6 hybe hb56 hb26 hownW hyr hcx hxx hb2W hr2 hr3 hzb c0 c1 c2 c3 c4 c5 c6 c7 c8 c9 c10 x0 x1 x2 x3 x4
  obtain ⟨gO, hgO⟩ := own_some HOWN5.out (by decide)
  subst hgO
  go_region_law (go_simp; go_at_call 26; first
    | (refine HR2.out.mono ?_; rintro e w7 ⟨hb7, z, rfl⟩; have hb67 : Below W6.heap.size W6 w7 := hrd0.trans (show Below W6.heap.size W6.drew w7 from hb7); have HB67 := Lib.hid hb67; clear hb7)
    | (refine HR3.out.mono ?_; rintro e w7 ⟨hb7, z, rfl⟩; have hb67 : Below W6.heap.size W6 w7 := HBZ.out.trans (hb7.mono HBZ.out.size); have hz7 := HZB.out.later hb7; have z0 := hz7.cell 0; have z1 := hz7.cell 1; have z2 := hz7.cell 2; have z3 := hz7.cell 3; have z4 := hz7.cell 4; simp only [List.getElem?_toArray, List.getElem?_cons_zero, List.getElem?_cons_succ] at z0 z1 z2 z3 z4; have f0 := hz7.frozen 0; have f1 := hz7.frozen 1; have f2 := hz7.frozen 2; have f3 := hz7.frozen 3; have f4 := hz7.frozen 4; have HB67 := Lib.hid hb67; clear hb7 hz7))
  all_goals (first
    | (show Exit.then _ _ _ _ (w7.alloc (.cells #[.int .i64 z.kind, .slice z.E z.xs.length z.ec, .int .u64 z.number, str z.text, .slice z.S z.stats.length z.sc] 36))
       have hb8 : Below W6.heap.size W6 (w7.alloc (.cells #[.int .i64 z.kind, .slice z.E z.xs.length z.ec, .int .u64 z.number, str z.text, .slice z.S z.stats.length z.sc] 36)) := HB67.out.alloc HB67.out.size _
       generalize w7.alloc (.cells #[.int .i64 z.kind, .slice z.E z.xs.length z.ec, .int .u64 z.number, str z.text, .slice z.S z.stats.length z.sc] 36) = W8 at hb8 ⊢)
    | (show Exit.then _ _ _ _ (((((w7.setCell ⟨W6.heap.size, 0, none⟩ (.int .i64 z.kind)).setCell ⟨W6.heap.size, 1, none⟩ (.slice z.E z.xs.length z.ec)).setCell ⟨W6.heap.size, 2, none⟩ (.int .u64 z.number)).setCell ⟨W6.heap.size, 3, none⟩ (str z.text)).setCell ⟨W6.heap.size, 4, none⟩ (.slice z.S z.stats.length z.sc))
       have hb8 : Below W6.heap.size W6 (((((w7.setCell ⟨W6.heap.size, 0, none⟩ (.int .i64 z.kind)).setCell ⟨W6.heap.size, 1, none⟩ (.slice z.E z.xs.length z.ec)).setCell ⟨W6.heap.size, 2, none⟩ (.int .u64 z.number)).setCell ⟨W6.heap.size, 3, none⟩ (str z.text)).setCell ⟨W6.heap.size, 4, none⟩ (.slice z.S z.stats.length z.sc)) := ((((HB67.out.setCell (p := ⟨W6.heap.size, 0, none⟩) (Nat.le_refl _) _).setCell (p := ⟨W6.heap.size, 1, none⟩) (Nat.le_refl _) _).setCell (p := ⟨W6.heap.size, 2, none⟩) (Nat.le_refl _) _).setCell (p := ⟨W6.heap.size, 3, none⟩) (Nat.le_refl _) _).setCell (p := ⟨W6.heap.size, 4, none⟩) (Nat.le_refl _) _
       generalize (((((w7.setCell ⟨W6.heap.size, 0, none⟩ (.int .i64 z.kind)).setCell ⟨W6.heap.size, 1, none⟩ (.slice z.E z.xs.length z.ec)).setCell ⟨W6.heap.size, 2, none⟩ (.int .u64 z.number)).setCell ⟨W6.heap.size, 3, none⟩ (str z.text)).setCell ⟨W6.heap.size, 4, none⟩ (.slice z.S z.stats.length z.sc)) = W8 at hb8 ⊢
       clear z0 z1 z2 z3 z4 f0 f1 f2 f3 f4))
  all_goals
    have hxr8 := HXR.out.below (HB2W.out.trans (hb8.mono HB2W.out.size))
    have hyr8 := HYR.out.below hb8
    have hsm8 := HSM.out W8 y hxr8 hyr8 HY6.out
    have HSM8 := Lib.hid hsm8
    clear hxr8 hyr8 hsm8 hrf hrd0 hbz
    go_wp2_with (first
      | (go_at_call 17; (with_reducible refine (HNM.out _ _).mono ?_); rintro e w4 ⟨rfl, rfl⟩)
      | (go_at_call 27; refine HSM8.out.mono ?_; rintro e w9 ⟨rfl, hb9⟩; have HB9 := Lib.hid hb9; clear hb9))
    rw [← HR.out]
    exact ⟨rfl, HB2.out.trans ((HB2W.out.trans ((hb8.trans (HB9.out.mono hb8.size)).mono HB2W.out.size)).mono HB2.out.size)⟩
end Go.Proofs.YtnbeeehfapjpdaaGreatDoor
