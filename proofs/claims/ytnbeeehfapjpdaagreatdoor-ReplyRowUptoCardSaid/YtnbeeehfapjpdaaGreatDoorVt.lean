/- Walk of package reply: meta. Printed by gen/genVt.py. -/
import Derived.Test.YtnbeeehfapjpdaaGreatDoorQVr
import Derived.Deep.RegionHeld3
namespace Go.Proofs.YtnbeeehfapjpdaaGreatDoor
attribute [local go_sem ↓] Go.wp_at_zero Go.wp_at_succ
open Go.RowKit

theorem any_not (ws : List Sp.Bs) : (!(ws.any fun x => !Sp.flagR x)) = ws.all Sp.flagR := by
  rw [List.any_eq_not_all_not, Bool.not_not]
  congr 1
  funext x
  rw [Bool.not_not]
theorem split_short : ∀ (l : Sp.Bs) (y : Sp.Bs), y ∈ Sp.splitV l → y.length ≤ l.length
  | [], y, h => by
    rw [show Sp.splitV [] = [[]] from rfl, List.mem_singleton] at h
    rw [h]; exact Nat.le_refl _
  | c :: t, y, h => by
    rw [Sp.splitV] at h
    by_cases hc : c = 32
    · rw [if_pos hc] at h
      rcases List.mem_cons.1 h with h1 | h1
      · rw [h1]; exact Nat.zero_le _
      · have := split_short t y h1
        rw [List.length_cons]; omega
    · rw [if_neg hc] at h
      cases e : Sp.splitV t with
      | nil =>
        rw [e] at h
        rw [List.mem_singleton.1 h, List.length_cons]; simp
      | cons w ws =>
        rw [e] at h
        rcases List.mem_cons.1 h with h1 | h1
        · have := split_short t w (by rw [e]; exact List.mem_cons_self ..)
          rw [h1, List.length_cons, List.length_cons]; omega
        · have := split_short t y (by rw [e]; exact List.mem_cons_of_mem _ h1)
          rw [List.length_cons]; omega
set_option maxHeartbeats 16000000 in
set_option maxRecDepth 100000 in
theorem meta_any {w : World} (hg : GlobR w) (v : Int) (text : Sp.Bs) (htx : text.length ≤ 100000000) {E : Option Addr} {ec : Nat} {xs : List EntX} (hE : EntsIn w E xs) (hn : xs.length ≤ 1000000000000) :
    Calls Tryz.prog 45 #[.int .i64 v, str text, .slice E xs.length ec] w fun e w' => e = .returned (.bool (Sp.metaV v text (xs.map EntX.e))) ∧ Below w.heap.size w w' := by
  obtain ⟨b, hb⟩ : ∃ b, b = Sp.metaV v text (xs.map EntX.e) := ⟨_, rfl⟩
  rw [← hb]
  unfold Sp.metaV at hb
  generalize hR : (fun (e : Ending) (w' : World) => e = .returned (.bool b) ∧ Below w.heap.size w w') = R
  have hsp := split_any hg text (by omega)
  obtain ⟨code, words, hcw⟩ : ∃ c ws, Sp.splitV text = c :: ws := by
    cases e : Sp.splitV text with
    | nil => have := splitV_length text; rw [e] at this; simp at this
    | cons c ws => exact ⟨c, ws, rfl⟩
  have hwl : words.length + 1 ≤ 100000002 := by
    have h1 := splitV_length text
    rw [hcw, List.length_cons] at h1
    have := List.count_le_length (a := (32 : UInt8)) (l := text)
    omega
  rw [hcw] at hsp hb
  dsimp only at hb
  have hc0 : (code :: words)[0]? = some code := rfl
  have hnl : (code :: words).length = words.length + 1 := rfl
  rw [hnl] at hsp
  obtain ⟨D, hD⟩ : ∃ D, D = cutAddr (some ⟨w.heap.size, 0, none⟩) 1 (words.length + 1) := ⟨_, rfl⟩
  have hsl : ∀ W : World, (Instr.slice 27 (.slice (some ⟨w.heap.size, 0, none⟩) (words.length + 1) (words.length + 1)) (some (.int .i64 1)) none none).run Tryz.prog W = .ok (.slice D words.length words.length) W := fun W => by
    have h1 := run_slice_texts W (some ⟨w.heap.size, 0, none⟩) (words.length + 1) (words.length + 1) 1 (by omega)
    rw [hD]; exact h1
  have hrowD : ∀ W : World, W.ownsRow w.heap.size 9 1 (.slice (some ⟨w.heap.size, 0, none⟩) (words.length + 1) (words.length + 1)) (words.length + 1) ((code :: words).map str) → RowAt W D (words.map str) := fun W h => by
    have h1 := (RowAt.of_own h).cut (a := 1) (cap := words.length + 1) (by rw [List.length_map]; exact Nat.le_refl _)
    rw [← hD] at h1
    exact h1
  have hco := fun W : World => codes_any v W
  have hcf : (Sp.codesV v).length ≤ 10 := by
    unfold Sp.codesV
    repeat' split
    all_goals decide
  have hit := fun (W : World) (hW : Below w.heap.size w W) (n : Nat) (hn : n ≤ 9223372036854775807) => itoa_any (n : Int) (by omega) (by omega) W (hg.later hW).tab
  have hmt := fun (W : World) (x : Sp.Bs) (hx : x.length ≤ 140737488355328) => meta1_any x W hx
  have hws : ∀ x ∈ words, x.length ≤ 140737488355328 := by
    intro x hx
    have h1 : ∀ (l : Sp.Bs) (y : Sp.Bs), y ∈ Sp.splitV l → y.length ≤ l.length := split_short
    have := h1 text x (by rw [hcw]; exact List.mem_cons_of_mem _ hx)
    omega
  have n1 : (1 : Int) ≤ ((words.length + 1 : Nat) : Int) := by omega
  have n0 : (0 : Int) < ((words.length + 1 : Nat) : Int) := by omega
  obtain ⟨tl, htl⟩ : ∃ tl, tl = text.length := ⟨_, rfl⟩
  have HR := Lib.hid hR
  have HSP := Lib.hid hsp
  have HC0 := Lib.hid hc0
  have HCO := Lib.hid hco
  have HCF := Lib.hid hcf
  have HE := Lib.hid hE
  have HIT := Lib.hid hit
  have HMT := Lib.hid hmt
  have HWS := Lib.hid hws
  have HROWD := Lib.hid hrowD
  have HG := Lib.hid hg
  have HBB := Lib.hid hb
  have HD := Lib.hid hD
  clear hR hsp hc0 hco hcf hE hit hmt hws hrowD hg hb hD hcw hnl htl
  by_cases k1 : 2048 < text.length
  · have hbf := HBB.out
    rw [if_pos (.inl k1)] at hbf
    have f1 : (2048 : Int) < (text.length : Int) := by omega
    have HBF := Lib.hid hbf
    clear hbf k1
    go_enter Tryz.func45, Tryz.ntmps45
    go_wp2_with (go_at_call 85; refine HSP.out.mono ?_; rintro e w1 ⟨rfl, hown1, hb1⟩; have c0 := own_textCell hown1 HC0.out; have HOWN1 := Lib.hid hown1; have HB1 := Lib.hid hb1; clear hown1 hb1)
    rw [← HR.out, HBF.out]
    exact ⟨rfl, HB1.out⟩
  have f1 : decide ((2048 : Int) < (text.length : Int)) = false := decide_eq_false (by omega)
  have f1' : decide (2048 < text.length) = false := decide_eq_false k1
  by_cases k2 : code ∉ Sp.codesV v
  · have hbf := HBB.out
    rw [if_pos (.inr (.inl k2))] at hbf
    have HBF := Lib.hid hbf
    have HCD := Lib.hid (decide_eq_false k2)
    clear hbf k1 k2
    go_enter Tryz.func45, Tryz.ntmps45
    go_wp2_with (first | (go_at_call 85; refine HSP.out.mono ?_; rintro e w1 ⟨rfl, hown1, hb1⟩; have c0 := own_textCell hown1 HC0.out; have HOWN1 := Lib.hid hown1; have HB1 := Lib.hid hb1; clear hown1 hb1) | (go_at_call 87; refine (HCO.out w1).mono ?_; rintro e w2 ⟨gc, cc, rfl, hown2, hb2⟩; have hct := hasText_any (c := cc) (RowAt.of_own hown2) (by have := HCF.out; omega) code; rw [HCD.out] at hct; have HCT := Lib.hid hct; have HB2 := Lib.hid (HB1.out.trans (hb2.mono HB1.out.size)); have HB12 := Lib.hid hb2; clear hown2 hb2 hct) | (go_at_call 86; refine HCT.out.mono ?_; rintro e w3 ⟨rfl, rfl⟩))
    rw [← HR.out, HBF.out]
    exact ⟨rfl, HB2.out⟩
  replace k2 : code ∈ Sp.codesV v := Classical.not_not.1 k2
  have HCD := Lib.hid (decide_eq_true k2)
  by_cases k3 : words ≠ [] ∧ (code = [69, 78] ∨ code = [77, 78])
  · have hbf := HBB.out
    rw [if_pos (.inr (.inr (.inl k3)))] at hbf
    have HBF := Lib.hid hbf
    obtain ⟨ka, kb⟩ := k3
    have hwp : 0 < words.length := List.length_pos_iff.2 ka
    have hwp2 : (0 : Int) < (words.length : Int) := by omega
    have hsplit : (code == [69, 78]) = true ∨ ((code == [69, 78]) = false ∧ (code == [77, 78]) = true) := by
      rcases kb with rfl | rfl
      · exact .inl rfl
      · exact .inr ⟨rfl, rfl⟩
    clear hbf k1 k2 ka kb
    rcases hsplit with g1 | ⟨g1, g2⟩
    · go_enter Tryz.func45, Tryz.ntmps45
      go_wp2_with (first | (go_at_call 85; refine HSP.out.mono ?_; rintro e w1 ⟨rfl, hown1, hb1⟩; have c0 := own_textCell hown1 HC0.out; have HOWN1 := Lib.hid hown1; have HB1 := Lib.hid hb1; clear hown1 hb1) | (go_at_call 87; refine (HCO.out w1).mono ?_; rintro e w2 ⟨gc, cc, rfl, hown2, hb2⟩; have hct := hasText_any (c := cc) (RowAt.of_own hown2) (by have := HCF.out; omega) code; rw [HCD.out] at hct; have HCT := Lib.hid hct; have HB2 := Lib.hid (HB1.out.trans (hb2.mono HB1.out.size)); have HB12 := Lib.hid hb2; clear hown2 hb2 hct) | (go_at_call 86; refine HCT.out.mono ?_; rintro e w3 ⟨rfl, rfl⟩))
      rw [← HR.out, HBF.out]
      exact ⟨rfl, HB2.out⟩
    · go_enter Tryz.func45, Tryz.ntmps45
      go_wp2_with (first | (go_at_call 85; refine HSP.out.mono ?_; rintro e w1 ⟨rfl, hown1, hb1⟩; have c0 := own_textCell hown1 HC0.out; have HOWN1 := Lib.hid hown1; have HB1 := Lib.hid hb1; clear hown1 hb1) | (go_at_call 87; refine (HCO.out w1).mono ?_; rintro e w2 ⟨gc, cc, rfl, hown2, hb2⟩; have hct := hasText_any (c := cc) (RowAt.of_own hown2) (by have := HCF.out; omega) code; rw [HCD.out] at hct; have HCT := Lib.hid hct; have HB2 := Lib.hid (HB1.out.trans (hb2.mono HB1.out.size)); have HB12 := Lib.hid hb2; clear hown2 hb2 hct) | (go_at_call 86; refine HCT.out.mono ?_; rintro e w3 ⟨rfl, rfl⟩))
      rw [← HR.out, HBF.out]
      exact ⟨rfl, HB2.out⟩
  have HWL := Lib.hid hwl
  by_cases hw : words = []
  · have hw0 : words.length = 0 := by rw [hw]; rfl
    have w1' : decide ((0 : Int) < (words.length : Int)) = false := decide_eq_false (by omega)
    have w2' : decide (0 < words.length) = false := decide_eq_false (by omega)
    have w3' : ((words.length : Int) == 0) = true := by rw [hw0]; rfl
    by_cases hva : code ≠ [86, 65]
    · have g3 : (code == [86, 65]) = false := by rw [beq_eq_false_iff_ne]; exact hva
      have g4 : (code != [86, 65]) = true := by rw [bne, g3]; rfl
      by_cases hx : xs = []
      · have hx0 : xs.length = 0 := by rw [hx]; rfl
        have x1 : decide ((0 : Int) < (xs.length : Int)) = false := decide_eq_false (by omega)
        have x2 : decide (0 < xs.length) = false := decide_eq_false (by omega)
        have hbf := HBB.out
        rw [if_neg (by rw [hx]; rintro (e | e | e | e); exact k1 e; exact e k2; exact k3 e; exact e.2 rfl), if_neg hva] at hbf
        have HBF := Lib.hid hbf
        clear hbf k1 k2 k3 hx hx0 hva hw hw0
    
        go_enter Tryz.func45, Tryz.ntmps45
        go_wp2_with (first | (go_at_call 85; refine HSP.out.mono ?_; rintro e w1 ⟨rfl, hown1, hb1⟩; have c0 := own_textCell hown1 HC0.out; have HOWN1 := Lib.hid hown1; have HB1 := Lib.hid hb1; clear hown1 hb1) | (go_at_call 87; refine (HCO.out w1).mono ?_; rintro e w2 ⟨gc, cc, rfl, hown2, hb2⟩; have hct := hasText_any (c := cc) (RowAt.of_own hown2) (by have := HCF.out; omega) code; rw [HCD.out] at hct; have HCT := Lib.hid hct; have HB2 := Lib.hid (HB1.out.trans (hb2.mono HB1.out.size)); have HB12 := Lib.hid hb2; clear hown2 hb2 hct) | (go_at_call 86; refine HCT.out.mono ?_; rintro e w3 ⟨rfl, rfl⟩) | (go_at_call 79; refine (has_meta (P := fun x => !Sp.flagR x) (l := words) (c := words.length) ((HROWD.out w1 HOWN1.out).below HB12.out) (by have := HWL.out; omega) (fun W x hx _ => HMT.out W x (HWS.out x (hx)))).mono ?_; rintro e w6 ⟨rfl, hb6⟩; have HB6 := Lib.hid (HB2.out.trans (hb6.mono HB2.out.size)); clear hb6))
        rw [← HR.out, HBF.out]
        refine ⟨?_, HB6.out⟩
        show Ending.returned (Value.bool (!(List.any words fun x => !Sp.flagR x))) = _
        rw [any_not]
      · have hxp : 0 < xs.length := List.length_pos_iff.2 hx
        have x1 : (0 : Int) < (xs.length : Int) := by omega
        have hbf := HBB.out
        rw [if_pos (.inr (.inr (.inr ⟨hva, fun e => hx (List.map_eq_nil_iff.1 e)⟩)))] at hbf
        have HBF := Lib.hid hbf
        clear hbf k1 k2 k3 hx hva hw hw0
        go_enter Tryz.func45, Tryz.ntmps45
        go_wp2_with (first | (go_at_call 85; refine HSP.out.mono ?_; rintro e w1 ⟨rfl, hown1, hb1⟩; have c0 := own_textCell hown1 HC0.out; have HOWN1 := Lib.hid hown1; have HB1 := Lib.hid hb1; clear hown1 hb1) | (go_at_call 87; refine (HCO.out w1).mono ?_; rintro e w2 ⟨gc, cc, rfl, hown2, hb2⟩; have hct := hasText_any (c := cc) (RowAt.of_own hown2) (by have := HCF.out; omega) code; rw [HCD.out] at hct; have HCT := Lib.hid hct; have HB2 := Lib.hid (HB1.out.trans (hb2.mono HB1.out.size)); have HB12 := Lib.hid hb2; clear hown2 hb2 hct) | (go_at_call 86; refine HCT.out.mono ?_; rintro e w3 ⟨rfl, rfl⟩))
        rw [← HR.out, HBF.out]
        exact ⟨rfl, HB2.out⟩
    replace hva : code = [86, 65] := Classical.not_not.1 hva
    have g3 : (code == [86, 65]) = true := by rw [hva]; rfl
    have g4 : (code != [86, 65]) = false := by rw [bne, g3]; rfl
    have g1 : (code == [69, 78]) = false := by rw [hva]; rfl
    have g2 : (code == [77, 78]) = false := by rw [hva]; rfl
    have hbf := HBB.out
    rw [if_neg (by rintro (e | e | e | e); exact k1 e; exact e k2; exact k3 e; exact e.1 hva), if_pos hva] at hbf
    have HBV := Lib.hid hbf
    clear hbf k1 k2 k3
    have hbf2 : b = false := by
      rw [HBV.out, hw]
      cases xs with
      | nil => rfl
      | cons x t => cases t <;> rfl
    have HBF := Lib.hid hbf2
    clear hbf2
    by_cases hx1 : xs.length ≠ 1
    · have x9 : ((xs.length : Int) != 1) = true := by rw [bne, show ((xs.length : Int) == 1) = false by rw [beq_eq_false_iff_ne]; omega]; rfl
      clear hva hw hw0
      go_enter Tryz.func45, Tryz.ntmps45
      go_upto_region 10 with (first | (go_at_call 85; refine HSP.out.mono ?_; rintro e w1 ⟨rfl, hown1, hb1⟩; have c0 := own_textCell hown1 HC0.out; have HOWN1 := Lib.hid hown1; have HB1 := Lib.hid hb1; clear hown1 hb1) | (go_at_call 87; refine (HCO.out w1).mono ?_; rintro e w2 ⟨gc, cc, rfl, hown2, hb2⟩; have hct := hasText_any (c := cc) (RowAt.of_own hown2) (by have := HCF.out; omega) code; rw [HCD.out] at hct; have HCT := Lib.hid hct; have HB2 := Lib.hid (HB1.out.trans (hb2.mono HB1.out.size)); have HB12 := Lib.hid hb2; clear hown2 hb2 hct) | (go_at_call 86; refine HCT.out.mono ?_; rintro e w3 ⟨rfl, rfl⟩))
      refine wp_region_held_drew (S := (fun _ => True)) (by kernel_rfl) (by trivial) (fun hHeld => ?_)
      refine wpAnyH_take (i := 0) (oi := ({ dst := some 46, op := Op.move (Operand.tmp 2), type := 33, pos := "meta.go:46", after := #[], guard := none } : Oper)) (v := ?v_1) rfl (by kernel_rfl) (by kernel_rfl) (by kernel_rfl) (fun _ _ _ h => h) (Or.inl ⟨by rfl, ?hy_1⟩) (by assumption) ?rest_1
      case hy_1 => (intro w hSw; (try dsimp only at hSw); go_simp; try with_reducible rfl)
      try simp only [Act.put, List.setIfInBounds_toArray, List.set_cons_zero, List.set_cons_succ]
      refine wpAnyH_take (i := 1) (oi := ({ dst := some 47, op := Op.call { callee := Callee.builtin Builtin.len, args := #[Operand.tmp 46], argTypes := #[33] }, type := 3, pos := "meta.go:46", after := #[{ on := 0, ground := Ground.data }], guard := none } : Oper)) (v := ?v_2) rfl (by kernel_rfl) (by kernel_rfl) (by kernel_rfl) (fun _ _ _ h => h) (Or.inl ⟨by rfl, ?hy_2⟩) (by assumption) ?rest_2
      case hy_2 => (intro w hSw; (try dsimp only at hSw); go_simp; try with_reducible rfl)
      try simp only [Act.put, List.setIfInBounds_toArray, List.set_cons_zero, List.set_cons_succ]
      refine wpAnyH_take (i := 2) (oi := ({ dst := some 48, op := Op.binOp BinOp.neq 3 (Operand.tmp 47) (Operand.const (Value.int IntKind.i64 1)) 3, type := 4, pos := "meta.go:46", after := #[{ on := 1, ground := Ground.data }], guard := none } : Oper)) (v := ?v_3) rfl (by kernel_rfl) (by kernel_rfl) (by kernel_rfl) (fun _ _ _ h => h) (Or.inl ⟨by rfl, ?hy_3⟩) (by assumption) ?rest_3
      case hy_3 => (intro w hSw; (try dsimp only at hSw); go_simp; try with_reducible rfl)
      try simp only [Act.put, List.setIfInBounds_toArray, List.set_cons_zero, List.set_cons_succ]
      refine wpAnyH_take (i := 3) (oi := ({ dst := some 49, op := Op.move (Operand.tmp 48), type := 4, pos := "meta.go:46", after := #[{ on := 2, ground := Ground.data }], guard := none } : Oper)) (v := ?v_4) rfl (by kernel_rfl) (by kernel_rfl) (by kernel_rfl) (fun _ _ _ h => h) (Or.inl ⟨by rfl, ?hy_4⟩) (by assumption) ?rest_4
      case hy_4 => (intro w hSw; (try dsimp only at hSw); go_simp; try with_reducible rfl)
      try simp only [Act.put, List.setIfInBounds_toArray, List.set_cons_zero, List.set_cons_succ]
      refine wpAnyH_take (i := 4) (oi := ({ dst := some 50, op := Op.move (Operand.tmp 2), type := 33, pos := "meta.go:46", after := #[{ on := 3, ground := Ground.guard }], guard := some (3, false) } : Oper)) (v := undef) rfl (by kernel_rfl) (by kernel_rfl) (by kernel_rfl) (fun _ _ _ h => h) (Or.inr ⟨by rfl, rfl⟩) (by assumption) ?_
      try simp only [Act.put, List.setIfInBounds_toArray, List.set_cons_zero, List.set_cons_succ]
      refine wpAnyH_take (i := 5) (oi := ({ dst := some 51, op := Op.indexAddr 33 (Operand.tmp 50) (Operand.const (Value.int IntKind.i64 0)), type := 0, pos := "meta.go:46", after := #[{ on := 4, ground := Ground.data }, { on := 3, ground := Ground.guard }], guard := some (3, false) } : Oper)) (v := undef) rfl (by kernel_rfl) (by kernel_rfl) (by kernel_rfl) (fun _ _ _ h => h) (Or.inr ⟨by rfl, rfl⟩) (by assumption) ?_
      try simp only [Act.put, List.setIfInBounds_toArray, List.set_cons_zero, List.set_cons_succ]
      refine wpAnyH_take (i := 6) (oi := ({ dst := some 52, op := Op.fieldAddr 86 (Operand.tmp 51) 1, type := 0, pos := "meta.go:46", after := #[{ on := 5, ground := Ground.data }, { on := 3, ground := Ground.guard }], guard := some (3, false) } : Oper)) (v := undef) rfl (by kernel_rfl) (by kernel_rfl) (by kernel_rfl) (fun _ _ _ h => h) (Or.inr ⟨by rfl, rfl⟩) (by assumption) ?_
      try simp only [Act.put, List.setIfInBounds_toArray, List.set_cons_zero, List.set_cons_succ]
      refine wpAnyH_take (i := 7) (oi := ({ dst := some 53, op := Op.load 29 (Operand.tmp 52), type := 29, pos := "meta.go:46", after := #[{ on := 6, ground := Ground.data }, { on := 3, ground := Ground.guard }], guard := some (3, false) } : Oper)) (v := undef) rfl (by kernel_rfl) (by kernel_rfl) (by kernel_rfl) (fun _ _ _ h => h) (Or.inr ⟨by rfl, rfl⟩) (by assumption) ?_
      try simp only [Act.put, List.setIfInBounds_toArray, List.set_cons_zero, List.set_cons_succ]
      refine wpAnyH_take (i := 8) (oi := ({ dst := some 54, op := Op.call { callee := Callee.builtin Builtin.len, args := #[Operand.tmp 53], argTypes := #[29] }, type := 3, pos := "meta.go:46", after := #[{ on := 7, ground := Ground.data }, { on := 3, ground := Ground.guard }], guard := some (3, false) } : Oper)) (v := undef) rfl (by kernel_rfl) (by kernel_rfl) (by kernel_rfl) (fun _ _ _ h => h) (Or.inr ⟨by rfl, rfl⟩) (by assumption) ?_
      try simp only [Act.put, List.setIfInBounds_toArray, List.set_cons_zero, List.set_cons_succ]
      refine wpAnyH_take (i := 9) (oi := ({ dst := some 55, op := Op.binOp BinOp.gtr 3 (Operand.tmp 54) (Operand.const (Value.int IntKind.i64 1048576)) 3, type := 4, pos := "meta.go:46", after := #[{ on := 8, ground := Ground.data }, { on := 3, ground := Ground.guard }], guard := some (3, false) } : Oper)) (v := undef) rfl (by kernel_rfl) (by kernel_rfl) (by kernel_rfl) (fun _ _ _ h => h) (Or.inr ⟨by rfl, rfl⟩) (by assumption) ?_
      try simp only [Act.put, List.setIfInBounds_toArray, List.set_cons_zero, List.set_cons_succ]
      refine wpAnyH_take (i := 10) (oi := ({ dst := some 56, op := Op.pick (Operand.tmp 49) (Operand.const (Value.bool true)) (Operand.tmp 55), type := 4, pos := "meta.go:46", after := #[{ on := 3, ground := Ground.data }, { on := 9, ground := Ground.data }], guard := none } : Oper)) (v := ?v_5) rfl (by kernel_rfl) (by kernel_rfl) (by kernel_rfl) (fun _ _ _ h => h) (Or.inl ⟨by rfl, ?hy_5⟩) (by assumption) ?rest_5
      case hy_5 => (intro w hSw; (try dsimp only at hSw); go_simp; try with_reducible rfl)
      try simp only [Act.put, List.setIfInBounds_toArray, List.set_cons_zero, List.set_cons_succ]
      refine wpAnyH_take (i := 11) (oi := ({ dst := some 57, op := Op.move (Operand.tmp 56), type := 4, pos := "meta.go:46", after := #[{ on := 10, ground := Ground.data }, { on := 3, ground := Ground.chain }], guard := none } : Oper)) (v := ?v_6) rfl (by kernel_rfl) (by kernel_rfl) (by kernel_rfl) (fun _ _ _ h => h) (Or.inl ⟨by rfl, ?hy_6⟩) (by assumption) ?rest_6
      case hy_6 => (intro w hSw; (try dsimp only at hSw); go_simp; try with_reducible rfl)
      try simp only [Act.put, List.setIfInBounds_toArray, List.set_cons_zero, List.set_cons_succ]
      refine wpAnyH_take (i := 12) (oi := ({ dst := some 58, op := Op.move (Operand.tmp 7), type := 27, pos := "meta.go:46", after := #[{ on := 11, ground := Ground.guard }], guard := some (11, false) } : Oper)) (v := undef) rfl (by kernel_rfl) (by kernel_rfl) (by kernel_rfl) (fun _ _ _ h => h) (Or.inr ⟨by rfl, rfl⟩) (by assumption) ?_
      try simp only [Act.put, List.setIfInBounds_toArray, List.set_cons_zero, List.set_cons_succ]
      refine wpAnyH_take (i := 13) (oi := ({ dst := some 59, op := Op.call { callee := Callee.builtin Builtin.len, args := #[Operand.tmp 58], argTypes := #[27] }, type := 3, pos := "meta.go:46", after := #[{ on := 12, ground := Ground.data }, { on := 11, ground := Ground.guard }], guard := some (11, false) } : Oper)) (v := undef) rfl (by kernel_rfl) (by kernel_rfl) (by kernel_rfl) (fun _ _ _ h => h) (Or.inr ⟨by rfl, rfl⟩) (by assumption) ?_
      try simp only [Act.put, List.setIfInBounds_toArray, List.set_cons_zero, List.set_cons_succ]
      refine wpAnyH_take (i := 14) (oi := ({ dst := some 60, op := Op.binOp BinOp.eql 3 (Operand.tmp 59) (Operand.const (Value.int IntKind.i64 0)) 3, type := 4, pos := "meta.go:46", after := #[{ on := 13, ground := Ground.data }, { on := 11, ground := Ground.guard }], guard := some (11, false) } : Oper)) (v := undef) rfl (by kernel_rfl) (by kernel_rfl) (by kernel_rfl) (fun _ _ _ h => h) (Or.inr ⟨by rfl, rfl⟩) (by assumption) ?_
      try simp only [Act.put, List.setIfInBounds_toArray, List.set_cons_zero, List.set_cons_succ]
      refine wpAnyH_take (i := 15) (oi := ({ dst := some 61, op := Op.pick (Operand.tmp 57) (Operand.const (Value.bool true)) (Operand.tmp 60), type := 4, pos := "meta.go:46", after := #[{ on := 11, ground := Ground.data }, { on := 14, ground := Ground.data }], guard := none } : Oper)) (v := ?v_7) rfl (by kernel_rfl) (by kernel_rfl) (by kernel_rfl) (fun _ _ _ h => h) (Or.inl ⟨by rfl, ?hy_7⟩) (by assumption) ?rest_7
      case hy_7 => (intro w hSw; (try dsimp only at hSw); go_simp; try with_reducible rfl)
      try simp only [Act.put, List.setIfInBounds_toArray, List.set_cons_zero, List.set_cons_succ]
      refine wpAnyH_take (i := 16) (oi := ({ dst := some 62, op := Op.move (Operand.tmp 61), type := 4, pos := "meta.go:46", after := #[{ on := 15, ground := Ground.data }, { on := 11, ground := Ground.chain }], guard := none } : Oper)) (v := ?v_8) rfl (by kernel_rfl) (by kernel_rfl) (by kernel_rfl) (fun _ _ _ h => h) (Or.inl ⟨by rfl, ?hy_8⟩) (by assumption) ?rest_8
      case hy_8 => (intro w hSw; (try dsimp only at hSw); go_simp; try with_reducible rfl)
      try simp only [Act.put, List.setIfInBounds_toArray, List.set_cons_zero, List.set_cons_succ]
      refine wpAnyH_take (i := 17) (oi := ({ dst := some 63, op := Op.move (Operand.tmp 7), type := 27, pos := "meta.go:46", after := #[{ on := 16, ground := Ground.guard }], guard := some (16, false) } : Oper)) (v := undef) rfl (by kernel_rfl) (by kernel_rfl) (by kernel_rfl) (fun _ _ _ h => h) (Or.inr ⟨by rfl, rfl⟩) (by assumption) ?_
      try simp only [Act.put, List.setIfInBounds_toArray, List.set_cons_zero, List.set_cons_succ]
      refine wpAnyH_take (i := 18) (oi := ({ dst := some 64, op := Op.indexAddr 27 (Operand.tmp 63) (Operand.const (Value.int IntKind.i64 0)), type := 0, pos := "meta.go:46", after := #[{ on := 17, ground := Ground.data }, { on := 16, ground := Ground.guard }], guard := some (16, false) } : Oper)) (v := undef) rfl (by kernel_rfl) (by kernel_rfl) (by kernel_rfl) (fun _ _ _ h => h) (Or.inr ⟨by rfl, rfl⟩) (by assumption) ?_
      try simp only [Act.put, List.setIfInBounds_toArray, List.set_cons_zero, List.set_cons_succ]
      refine wpAnyH_take (i := 19) (oi := ({ dst := some 65, op := Op.load 9 (Operand.tmp 64), type := 9, pos := "meta.go:46", after := #[{ on := 18, ground := Ground.data }, { on := 16, ground := Ground.guard }], guard := some (16, false) } : Oper)) (v := undef) rfl (by kernel_rfl) (by kernel_rfl) (by kernel_rfl) (fun _ _ _ h => h) (Or.inr ⟨by rfl, rfl⟩) (by assumption) ?_
      try simp only [Act.put, List.setIfInBounds_toArray, List.set_cons_zero, List.set_cons_succ]
      refine wpAnyH_take (i := 20) (oi := ({ dst := some 66, op := Op.move (Operand.tmp 2), type := 33, pos := "meta.go:46", after := #[{ on := 16, ground := Ground.guard }], guard := some (16, false) } : Oper)) (v := undef) rfl (by kernel_rfl) (by kernel_rfl) (by kernel_rfl) (fun _ _ _ h => h) (Or.inr ⟨by rfl, rfl⟩) (by assumption) ?_
      try simp only [Act.put, List.setIfInBounds_toArray, List.set_cons_zero, List.set_cons_succ]
      refine wpAnyH_take (i := 21) (oi := ({ dst := some 67, op := Op.indexAddr 33 (Operand.tmp 66) (Operand.const (Value.int IntKind.i64 0)), type := 0, pos := "meta.go:46", after := #[{ on := 20, ground := Ground.data }, { on := 16, ground := Ground.guard }], guard := some (16, false) } : Oper)) (v := undef) rfl (by kernel_rfl) (by kernel_rfl) (by kernel_rfl) (fun _ _ _ h => h) (Or.inr ⟨by rfl, rfl⟩) (by assumption) ?_
      try simp only [Act.put, List.setIfInBounds_toArray, List.set_cons_zero, List.set_cons_succ]
      refine wpAnyH_take (i := 22) (oi := ({ dst := some 68, op := Op.fieldAddr 86 (Operand.tmp 67) 1, type := 0, pos := "meta.go:46", after := #[{ on := 21, ground := Ground.data }, { on := 16, ground := Ground.guard }], guard := some (16, false) } : Oper)) (v := undef) rfl (by kernel_rfl) (by kernel_rfl) (by kernel_rfl) (fun _ _ _ h => h) (Or.inr ⟨by rfl, rfl⟩) (by assumption) ?_
      try simp only [Act.put, List.setIfInBounds_toArray, List.set_cons_zero, List.set_cons_succ]
      refine wpAnyH_take (i := 23) (oi := ({ dst := some 69, op := Op.load 29 (Operand.tmp 68), type := 29, pos := "meta.go:46", after := #[{ on := 22, ground := Ground.data }, { on := 16, ground := Ground.guard }], guard := some (16, false) } : Oper)) (v := undef) rfl (by kernel_rfl) (by kernel_rfl) (by kernel_rfl) (fun _ _ _ h => h) (Or.inr ⟨by rfl, rfl⟩) (by assumption) ?_
      try simp only [Act.put, List.setIfInBounds_toArray, List.set_cons_zero, List.set_cons_succ]
      refine wpAnyH_take (i := 24) (oi := ({ dst := some 70, op := Op.call { callee := Callee.builtin Builtin.len, args := #[Operand.tmp 69], argTypes := #[29] }, type := 3, pos := "meta.go:46", after := #[{ on := 23, ground := Ground.data }, { on := 16, ground := Ground.guard }], guard := some (16, false) } : Oper)) (v := undef) rfl (by kernel_rfl) (by kernel_rfl) (by kernel_rfl) (fun _ _ _ h => h) (Or.inr ⟨by rfl, rfl⟩) (by assumption) ?_
      try simp only [Act.put, List.setIfInBounds_toArray, List.set_cons_zero, List.set_cons_succ]
      refine wpAnyH_take (i := 25) (oi := ({ dst := some 71, op := Op.call { callee := Callee.value (Operand.func 47), args := #[Operand.tmp 70], argTypes := #[3] }, type := 9, pos := "meta.go:46", after := #[{ on := 24, ground := Ground.data }, { on := 16, ground := Ground.chain }, { on := 16, ground := Ground.guard }], guard := some (16, false) } : Oper)) (v := undef) rfl (by kernel_rfl) (by kernel_rfl) (by kernel_rfl) (fun _ _ _ h => h) (Or.inr ⟨by rfl, rfl⟩) (by assumption) ?_
      try simp only [Act.put, List.setIfInBounds_toArray, List.set_cons_zero, List.set_cons_succ]
      refine wpAnyH_take (i := 26) (oi := ({ dst := some 72, op := Op.binOp BinOp.neq 9 (Operand.tmp 65) (Operand.tmp 71) 9, type := 4, pos := "meta.go:46", after := #[{ on := 19, ground := Ground.data }, { on := 25, ground := Ground.data }, { on := 16, ground := Ground.guard }], guard := some (16, false) } : Oper)) (v := undef) rfl (by kernel_rfl) (by kernel_rfl) (by kernel_rfl) (fun _ _ _ h => h) (Or.inr ⟨by rfl, rfl⟩) (by assumption) ?_
      try simp only [Act.put, List.setIfInBounds_toArray, List.set_cons_zero, List.set_cons_succ]
      refine wpAnyH_take (i := 27) (oi := ({ dst := some 73, op := Op.pick (Operand.tmp 62) (Operand.const (Value.bool true)) (Operand.tmp 72), type := 4, pos := "meta.go:46", after := #[{ on := 16, ground := Ground.data }, { on := 26, ground := Ground.data }], guard := none } : Oper)) (v := ?v_9) rfl (by kernel_rfl) (by kernel_rfl) (by kernel_rfl) (fun _ _ _ h => h) (Or.inl ⟨by rfl, ?hy_9⟩) (by assumption) ?rest_9
      case hy_9 => (intro w hSw; (try dsimp only at hSw); go_simp; try with_reducible rfl)
      try simp only [Act.put, List.setIfInBounds_toArray, List.set_cons_zero, List.set_cons_succ]
      refine wpAnyH_done (by kernel_rfl) ?_ _
      go_wp2_with fail
      rw [← HR.out, HBF.out]
      exact ⟨rfl, HB2.out.drew⟩
    replace hx1 : xs.length = 1 := Classical.not_not.1 hx1
    obtain ⟨x, hxx⟩ : ∃ x, xs = [x] := List.length_eq_one_iff.1 hx1
    obtain ⟨ge, oe, hEe, hgl, ycell⟩ := HE.out.cell (i := 0) (x := x) (by rw [hxx]; rfl)
    have hk : ∀ W : World, Below w.heap.size w W → W.cell? ⟨ge, oe + 1, none⟩ = some (.slice x.B x.e.value.length x.c) := fun W hW => (World.cell?_of_block (a := ⟨ge, oe + 1, none⟩) (hW.block ge hgl)).trans (by have := ycell 1 _ rfl; rwa [Nat.zero_mul, Nat.add_zero] at this)
    have HK := Lib.hid hk
    have x9 : ((xs.length : Int) != 1) = false := by rw [hx1]; rfl
    have x8 : (0 : Int) < (xs.length : Int) := by omega
    have x7 : 0 < xs.length := by omega
    subst hEe
    clear hk ycell
    by_cases hv : 1048576 < x.e.value.length
    · have v1 : (1048576 : Int) < (x.e.value.length : Int) := by omega
      clear hva hw hxx hx1 hw0
      go_enter Tryz.func45, Tryz.ntmps45
      go_upto_region 10 with (first | (go_at_call 85; refine HSP.out.mono ?_; rintro e w1 ⟨rfl, hown1, hb1⟩; have c0 := own_textCell hown1 HC0.out; have HOWN1 := Lib.hid hown1; have HB1 := Lib.hid hb1; clear hown1 hb1) | (go_at_call 87; refine (HCO.out w1).mono ?_; rintro e w2 ⟨gc, cc, rfl, hown2, hb2⟩; have hct := hasText_any (c := cc) (RowAt.of_own hown2) (by have := HCF.out; omega) code; rw [HCD.out] at hct; have HCT := Lib.hid hct; have HB2 := Lib.hid (HB1.out.trans (hb2.mono HB1.out.size)); have HB12 := Lib.hid hb2; clear hown2 hb2 hct) | (go_at_call 86; refine HCT.out.mono ?_; rintro e w3 ⟨rfl, rfl⟩))
      refine wp_region_held_drew (S := (fun w' => w'.cell? ⟨ge, oe + 1, none⟩ = some (.slice x.B x.e.value.length x.c))) (by kernel_rfl) (by first | exact HK.out _ HB2.out | exact HK.out _ HB2.out.drew) (fun hHeld => ?_)
      refine wpAnyH_take (i := 0) (oi := ({ dst := some 46, op := Op.move (Operand.tmp 2), type := 33, pos := "meta.go:46", after := #[], guard := none } : Oper)) (v := ?v_10) rfl (by kernel_rfl) (by kernel_rfl) (by kernel_rfl) (fun _ _ _ h => h) (Or.inl ⟨by rfl, ?hy_10⟩) (by assumption) ?rest_10
      case hy_10 => (intro w hSw; (try dsimp only at hSw); go_simp; try with_reducible rfl)
      try simp only [Act.put, List.setIfInBounds_toArray, List.set_cons_zero, List.set_cons_succ]
      refine wpAnyH_take (i := 1) (oi := ({ dst := some 47, op := Op.call { callee := Callee.builtin Builtin.len, args := #[Operand.tmp 46], argTypes := #[33] }, type := 3, pos := "meta.go:46", after := #[{ on := 0, ground := Ground.data }], guard := none } : Oper)) (v := ?v_11) rfl (by kernel_rfl) (by kernel_rfl) (by kernel_rfl) (fun _ _ _ h => h) (Or.inl ⟨by rfl, ?hy_11⟩) (by assumption) ?rest_11
      case hy_11 => (intro w hSw; (try dsimp only at hSw); go_simp; try with_reducible rfl)
      try simp only [Act.put, List.setIfInBounds_toArray, List.set_cons_zero, List.set_cons_succ]
      refine wpAnyH_take (i := 2) (oi := ({ dst := some 48, op := Op.binOp BinOp.neq 3 (Operand.tmp 47) (Operand.const (Value.int IntKind.i64 1)) 3, type := 4, pos := "meta.go:46", after := #[{ on := 1, ground := Ground.data }], guard := none } : Oper)) (v := ?v_12) rfl (by kernel_rfl) (by kernel_rfl) (by kernel_rfl) (fun _ _ _ h => h) (Or.inl ⟨by rfl, ?hy_12⟩) (by assumption) ?rest_12
      case hy_12 => (intro w hSw; (try dsimp only at hSw); go_simp; try with_reducible rfl)
      try simp only [Act.put, List.setIfInBounds_toArray, List.set_cons_zero, List.set_cons_succ]
      refine wpAnyH_take (i := 3) (oi := ({ dst := some 49, op := Op.move (Operand.tmp 48), type := 4, pos := "meta.go:46", after := #[{ on := 2, ground := Ground.data }], guard := none } : Oper)) (v := ?v_13) rfl (by kernel_rfl) (by kernel_rfl) (by kernel_rfl) (fun _ _ _ h => h) (Or.inl ⟨by rfl, ?hy_13⟩) (by assumption) ?rest_13
      case hy_13 => (intro w hSw; (try dsimp only at hSw); go_simp; try with_reducible rfl)
      try simp only [Act.put, List.setIfInBounds_toArray, List.set_cons_zero, List.set_cons_succ]
      refine wpAnyH_take (i := 4) (oi := ({ dst := some 50, op := Op.move (Operand.tmp 2), type := 33, pos := "meta.go:46", after := #[{ on := 3, ground := Ground.guard }], guard := some (3, false) } : Oper)) (v := ?v_14) rfl (by kernel_rfl) (by kernel_rfl) (by kernel_rfl) (fun _ _ _ h => h) (Or.inl ⟨by rfl, ?hy_14⟩) (by assumption) ?rest_14
      case hy_14 => (intro w hSw; (try dsimp only at hSw); go_simp; try with_reducible rfl)
      try simp only [Act.put, List.setIfInBounds_toArray, List.set_cons_zero, List.set_cons_succ]
      refine wpAnyH_take (i := 5) (oi := ({ dst := some 51, op := Op.indexAddr 33 (Operand.tmp 50) (Operand.const (Value.int IntKind.i64 0)), type := 0, pos := "meta.go:46", after := #[{ on := 4, ground := Ground.data }, { on := 3, ground := Ground.guard }], guard := some (3, false) } : Oper)) (v := ?v_15) rfl (by kernel_rfl) (by kernel_rfl) (by kernel_rfl) (fun _ _ _ h => h) (Or.inl ⟨by rfl, ?hy_15⟩) (by assumption) ?rest_15
      case hy_15 => (intro w hSw; (try dsimp only at hSw); go_simp; try with_reducible rfl)
      try simp only [Act.put, List.setIfInBounds_toArray, List.set_cons_zero, List.set_cons_succ]
      refine wpAnyH_take (i := 6) (oi := ({ dst := some 52, op := Op.fieldAddr 86 (Operand.tmp 51) 1, type := 0, pos := "meta.go:46", after := #[{ on := 5, ground := Ground.data }, { on := 3, ground := Ground.guard }], guard := some (3, false) } : Oper)) (v := ?v_16) rfl (by kernel_rfl) (by kernel_rfl) (by kernel_rfl) (fun _ _ _ h => h) (Or.inl ⟨by rfl, ?hy_16⟩) (by assumption) ?rest_16
      case hy_16 => (intro w hSw; (try dsimp only at hSw); go_simp; try with_reducible rfl)
      try simp only [Act.put, List.setIfInBounds_toArray, List.set_cons_zero, List.set_cons_succ]
      refine wpAnyH_take (i := 7) (oi := ({ dst := some 53, op := Op.load 29 (Operand.tmp 52), type := 29, pos := "meta.go:46", after := #[{ on := 6, ground := Ground.data }, { on := 3, ground := Ground.guard }], guard := some (3, false) } : Oper)) (v := ?v_17) rfl (by kernel_rfl) (by kernel_rfl) (by kernel_rfl) (fun _ _ _ h => h) (Or.inl ⟨by rfl, ?hy_17⟩) (by assumption) ?rest_17
      case hy_17 => (intro w hSw; (try dsimp only at hSw); go_simp; try with_reducible rfl)
      try simp only [Act.put, List.setIfInBounds_toArray, List.set_cons_zero, List.set_cons_succ]
      refine wpAnyH_take (i := 8) (oi := ({ dst := some 54, op := Op.call { callee := Callee.builtin Builtin.len, args := #[Operand.tmp 53], argTypes := #[29] }, type := 3, pos := "meta.go:46", after := #[{ on := 7, ground := Ground.data }, { on := 3, ground := Ground.guard }], guard := some (3, false) } : Oper)) (v := ?v_18) rfl (by kernel_rfl) (by kernel_rfl) (by kernel_rfl) (fun _ _ _ h => h) (Or.inl ⟨by rfl, ?hy_18⟩) (by assumption) ?rest_18
      case hy_18 => (intro w hSw; (try dsimp only at hSw); go_simp; try with_reducible rfl)
      try simp only [Act.put, List.setIfInBounds_toArray, List.set_cons_zero, List.set_cons_succ]
      refine wpAnyH_take (i := 9) (oi := ({ dst := some 55, op := Op.binOp BinOp.gtr 3 (Operand.tmp 54) (Operand.const (Value.int IntKind.i64 1048576)) 3, type := 4, pos := "meta.go:46", after := #[{ on := 8, ground := Ground.data }, { on := 3, ground := Ground.guard }], guard := some (3, false) } : Oper)) (v := ?v_19) rfl (by kernel_rfl) (by kernel_rfl) (by kernel_rfl) (fun _ _ _ h => h) (Or.inl ⟨by rfl, ?hy_19⟩) (by assumption) ?rest_19
      case hy_19 => (intro w hSw; (try dsimp only at hSw); go_simp; try with_reducible rfl)
      try simp only [Act.put, List.setIfInBounds_toArray, List.set_cons_zero, List.set_cons_succ]
      refine wpAnyH_take (i := 10) (oi := ({ dst := some 56, op := Op.pick (Operand.tmp 49) (Operand.const (Value.bool true)) (Operand.tmp 55), type := 4, pos := "meta.go:46", after := #[{ on := 3, ground := Ground.data }, { on := 9, ground := Ground.data }], guard := none } : Oper)) (v := ?v_20) rfl (by kernel_rfl) (by kernel_rfl) (by kernel_rfl) (fun _ _ _ h => h) (Or.inl ⟨by rfl, ?hy_20⟩) (by assumption) ?rest_20
      case hy_20 => (intro w hSw; (try dsimp only at hSw); go_simp; try with_reducible rfl)
      try simp only [Act.put, List.setIfInBounds_toArray, List.set_cons_zero, List.set_cons_succ]
      refine wpAnyH_take (i := 11) (oi := ({ dst := some 57, op := Op.move (Operand.tmp 56), type := 4, pos := "meta.go:46", after := #[{ on := 10, ground := Ground.data }, { on := 3, ground := Ground.chain }], guard := none } : Oper)) (v := ?v_21) rfl (by kernel_rfl) (by kernel_rfl) (by kernel_rfl) (fun _ _ _ h => h) (Or.inl ⟨by rfl, ?hy_21⟩) (by assumption) ?rest_21
      case hy_21 => (intro w hSw; (try dsimp only at hSw); go_simp; try with_reducible rfl)
      try simp only [Act.put, List.setIfInBounds_toArray, List.set_cons_zero, List.set_cons_succ]
      refine wpAnyH_take (i := 12) (oi := ({ dst := some 58, op := Op.move (Operand.tmp 7), type := 27, pos := "meta.go:46", after := #[{ on := 11, ground := Ground.guard }], guard := some (11, false) } : Oper)) (v := undef) rfl (by kernel_rfl) (by kernel_rfl) (by kernel_rfl) (fun _ _ _ h => h) (Or.inr ⟨by rfl, rfl⟩) (by assumption) ?_
      try simp only [Act.put, List.setIfInBounds_toArray, List.set_cons_zero, List.set_cons_succ]
      refine wpAnyH_take (i := 13) (oi := ({ dst := some 59, op := Op.call { callee := Callee.builtin Builtin.len, args := #[Operand.tmp 58], argTypes := #[27] }, type := 3, pos := "meta.go:46", after := #[{ on := 12, ground := Ground.data }, { on := 11, ground := Ground.guard }], guard := some (11, false) } : Oper)) (v := undef) rfl (by kernel_rfl) (by kernel_rfl) (by kernel_rfl) (fun _ _ _ h => h) (Or.inr ⟨by rfl, rfl⟩) (by assumption) ?_
      try simp only [Act.put, List.setIfInBounds_toArray, List.set_cons_zero, List.set_cons_succ]
      refine wpAnyH_take (i := 14) (oi := ({ dst := some 60, op := Op.binOp BinOp.eql 3 (Operand.tmp 59) (Operand.const (Value.int IntKind.i64 0)) 3, type := 4, pos := "meta.go:46", after := #[{ on := 13, ground := Ground.data }, { on := 11, ground := Ground.guard }], guard := some (11, false) } : Oper)) (v := undef) rfl (by kernel_rfl) (by kernel_rfl) (by kernel_rfl) (fun _ _ _ h => h) (Or.inr ⟨by rfl, rfl⟩) (by assumption) ?_
      try simp only [Act.put, List.setIfInBounds_toArray, List.set_cons_zero, List.set_cons_succ]
      refine wpAnyH_take (i := 15) (oi := ({ dst := some 61, op := Op.pick (Operand.tmp 57) (Operand.const (Value.bool true)) (Operand.tmp 60), type := 4, pos := "meta.go:46", after := #[{ on := 11, ground := Ground.data }, { on := 14, ground := Ground.data }], guard := none } : Oper)) (v := ?v_22) rfl (by kernel_rfl) (by kernel_rfl) (by kernel_rfl) (fun _ _ _ h => h) (Or.inl ⟨by rfl, ?hy_22⟩) (by assumption) ?rest_22
      case hy_22 => (intro w hSw; (try dsimp only at hSw); go_simp; try with_reducible rfl)
      try simp only [Act.put, List.setIfInBounds_toArray, List.set_cons_zero, List.set_cons_succ]
      refine wpAnyH_take (i := 16) (oi := ({ dst := some 62, op := Op.move (Operand.tmp 61), type := 4, pos := "meta.go:46", after := #[{ on := 15, ground := Ground.data }, { on := 11, ground := Ground.chain }], guard := none } : Oper)) (v := ?v_23) rfl (by kernel_rfl) (by kernel_rfl) (by kernel_rfl) (fun _ _ _ h => h) (Or.inl ⟨by rfl, ?hy_23⟩) (by assumption) ?rest_23
      case hy_23 => (intro w hSw; (try dsimp only at hSw); go_simp; try with_reducible rfl)
      try simp only [Act.put, List.setIfInBounds_toArray, List.set_cons_zero, List.set_cons_succ]
      refine wpAnyH_take (i := 17) (oi := ({ dst := some 63, op := Op.move (Operand.tmp 7), type := 27, pos := "meta.go:46", after := #[{ on := 16, ground := Ground.guard }], guard := some (16, false) } : Oper)) (v := undef) rfl (by kernel_rfl) (by kernel_rfl) (by kernel_rfl) (fun _ _ _ h => h) (Or.inr ⟨by rfl, rfl⟩) (by assumption) ?_
      try simp only [Act.put, List.setIfInBounds_toArray, List.set_cons_zero, List.set_cons_succ]
      refine wpAnyH_take (i := 18) (oi := ({ dst := some 64, op := Op.indexAddr 27 (Operand.tmp 63) (Operand.const (Value.int IntKind.i64 0)), type := 0, pos := "meta.go:46", after := #[{ on := 17, ground := Ground.data }, { on := 16, ground := Ground.guard }], guard := some (16, false) } : Oper)) (v := undef) rfl (by kernel_rfl) (by kernel_rfl) (by kernel_rfl) (fun _ _ _ h => h) (Or.inr ⟨by rfl, rfl⟩) (by assumption) ?_
      try simp only [Act.put, List.setIfInBounds_toArray, List.set_cons_zero, List.set_cons_succ]
      refine wpAnyH_take (i := 19) (oi := ({ dst := some 65, op := Op.load 9 (Operand.tmp 64), type := 9, pos := "meta.go:46", after := #[{ on := 18, ground := Ground.data }, { on := 16, ground := Ground.guard }], guard := some (16, false) } : Oper)) (v := undef) rfl (by kernel_rfl) (by kernel_rfl) (by kernel_rfl) (fun _ _ _ h => h) (Or.inr ⟨by rfl, rfl⟩) (by assumption) ?_
      try simp only [Act.put, List.setIfInBounds_toArray, List.set_cons_zero, List.set_cons_succ]
      refine wpAnyH_take (i := 20) (oi := ({ dst := some 66, op := Op.move (Operand.tmp 2), type := 33, pos := "meta.go:46", after := #[{ on := 16, ground := Ground.guard }], guard := some (16, false) } : Oper)) (v := undef) rfl (by kernel_rfl) (by kernel_rfl) (by kernel_rfl) (fun _ _ _ h => h) (Or.inr ⟨by rfl, rfl⟩) (by assumption) ?_
      try simp only [Act.put, List.setIfInBounds_toArray, List.set_cons_zero, List.set_cons_succ]
      refine wpAnyH_take (i := 21) (oi := ({ dst := some 67, op := Op.indexAddr 33 (Operand.tmp 66) (Operand.const (Value.int IntKind.i64 0)), type := 0, pos := "meta.go:46", after := #[{ on := 20, ground := Ground.data }, { on := 16, ground := Ground.guard }], guard := some (16, false) } : Oper)) (v := undef) rfl (by kernel_rfl) (by kernel_rfl) (by kernel_rfl) (fun _ _ _ h => h) (Or.inr ⟨by rfl, rfl⟩) (by assumption) ?_
      try simp only [Act.put, List.setIfInBounds_toArray, List.set_cons_zero, List.set_cons_succ]
      refine wpAnyH_take (i := 22) (oi := ({ dst := some 68, op := Op.fieldAddr 86 (Operand.tmp 67) 1, type := 0, pos := "meta.go:46", after := #[{ on := 21, ground := Ground.data }, { on := 16, ground := Ground.guard }], guard := some (16, false) } : Oper)) (v := undef) rfl (by kernel_rfl) (by kernel_rfl) (by kernel_rfl) (fun _ _ _ h => h) (Or.inr ⟨by rfl, rfl⟩) (by assumption) ?_
      try simp only [Act.put, List.setIfInBounds_toArray, List.set_cons_zero, List.set_cons_succ]
      refine wpAnyH_take (i := 23) (oi := ({ dst := some 69, op := Op.load 29 (Operand.tmp 68), type := 29, pos := "meta.go:46", after := #[{ on := 22, ground := Ground.data }, { on := 16, ground := Ground.guard }], guard := some (16, false) } : Oper)) (v := undef) rfl (by kernel_rfl) (by kernel_rfl) (by kernel_rfl) (fun _ _ _ h => h) (Or.inr ⟨by rfl, rfl⟩) (by assumption) ?_
      try simp only [Act.put, List.setIfInBounds_toArray, List.set_cons_zero, List.set_cons_succ]
      refine wpAnyH_take (i := 24) (oi := ({ dst := some 70, op := Op.call { callee := Callee.builtin Builtin.len, args := #[Operand.tmp 69], argTypes := #[29] }, type := 3, pos := "meta.go:46", after := #[{ on := 23, ground := Ground.data }, { on := 16, ground := Ground.guard }], guard := some (16, false) } : Oper)) (v := undef) rfl (by kernel_rfl) (by kernel_rfl) (by kernel_rfl) (fun _ _ _ h => h) (Or.inr ⟨by rfl, rfl⟩) (by assumption) ?_
      try simp only [Act.put, List.setIfInBounds_toArray, List.set_cons_zero, List.set_cons_succ]
      refine wpAnyH_take (i := 25) (oi := ({ dst := some 71, op := Op.call { callee := Callee.value (Operand.func 47), args := #[Operand.tmp 70], argTypes := #[3] }, type := 9, pos := "meta.go:46", after := #[{ on := 24, ground := Ground.data }, { on := 16, ground := Ground.chain }, { on := 16, ground := Ground.guard }], guard := some (16, false) } : Oper)) (v := undef) rfl (by kernel_rfl) (by kernel_rfl) (by kernel_rfl) (fun _ _ _ h => h) (Or.inr ⟨by rfl, rfl⟩) (by assumption) ?_
      try simp only [Act.put, List.setIfInBounds_toArray, List.set_cons_zero, List.set_cons_succ]
      refine wpAnyH_take (i := 26) (oi := ({ dst := some 72, op := Op.binOp BinOp.neq 9 (Operand.tmp 65) (Operand.tmp 71) 9, type := 4, pos := "meta.go:46", after := #[{ on := 19, ground := Ground.data }, { on := 25, ground := Ground.data }, { on := 16, ground := Ground.guard }], guard := some (16, false) } : Oper)) (v := undef) rfl (by kernel_rfl) (by kernel_rfl) (by kernel_rfl) (fun _ _ _ h => h) (Or.inr ⟨by rfl, rfl⟩) (by assumption) ?_
      try simp only [Act.put, List.setIfInBounds_toArray, List.set_cons_zero, List.set_cons_succ]
      refine wpAnyH_take (i := 27) (oi := ({ dst := some 73, op := Op.pick (Operand.tmp 62) (Operand.const (Value.bool true)) (Operand.tmp 72), type := 4, pos := "meta.go:46", after := #[{ on := 16, ground := Ground.data }, { on := 26, ground := Ground.data }], guard := none } : Oper)) (v := ?v_24) rfl (by kernel_rfl) (by kernel_rfl) (by kernel_rfl) (fun _ _ _ h => h) (Or.inl ⟨by rfl, ?hy_24⟩) (by assumption) ?rest_24
      case hy_24 => (intro w hSw; (try dsimp only at hSw); go_simp; try with_reducible rfl)
      try simp only [Act.put, List.setIfInBounds_toArray, List.set_cons_zero, List.set_cons_succ]
      refine wpAnyH_done (by kernel_rfl) ?_ _
      go_wp2_with fail
      rw [← HR.out, HBF.out]
      exact ⟨rfl, HB2.out.drew⟩
    have v1 : decide ((1048576 : Int) < (x.e.value.length : Int)) = false := decide_eq_false (by omega)
    have v2 : decide (1048576 < x.e.value.length) = false := decide_eq_false hv
    clear hva hw hxx hx1 hw0 hv
    go_enter Tryz.func45, Tryz.ntmps45
    go_upto_region 10 with (first | (go_at_call 85; refine HSP.out.mono ?_; rintro e w1 ⟨rfl, hown1, hb1⟩; have c0 := own_textCell hown1 HC0.out; have HOWN1 := Lib.hid hown1; have HB1 := Lib.hid hb1; clear hown1 hb1) | (go_at_call 87; refine (HCO.out w1).mono ?_; rintro e w2 ⟨gc, cc, rfl, hown2, hb2⟩; have hct := hasText_any (c := cc) (RowAt.of_own hown2) (by have := HCF.out; omega) code; rw [HCD.out] at hct; have HCT := Lib.hid hct; have HB2 := Lib.hid (HB1.out.trans (hb2.mono HB1.out.size)); have HB12 := Lib.hid hb2; clear hown2 hb2 hct) | (go_at_call 86; refine HCT.out.mono ?_; rintro e w3 ⟨rfl, rfl⟩))
    refine wp_region_held_drew (S := (fun w' => w'.cell? ⟨ge, oe + 1, none⟩ = some (.slice x.B x.e.value.length x.c))) (by kernel_rfl) (by first | exact HK.out _ HB2.out | exact HK.out _ HB2.out.drew) (fun hHeld => ?_)
    refine wpAnyH_take (i := 0) (oi := ({ dst := some 46, op := Op.move (Operand.tmp 2), type := 33, pos := "meta.go:46", after := #[], guard := none } : Oper)) (v := ?v_25) rfl (by kernel_rfl) (by kernel_rfl) (by kernel_rfl) (fun _ _ _ h => h) (Or.inl ⟨by rfl, ?hy_25⟩) (by assumption) ?rest_25
    case hy_25 => (intro w hSw; (try dsimp only at hSw); go_simp; try with_reducible rfl)
    try simp only [Act.put, List.setIfInBounds_toArray, List.set_cons_zero, List.set_cons_succ]
    refine wpAnyH_take (i := 1) (oi := ({ dst := some 47, op := Op.call { callee := Callee.builtin Builtin.len, args := #[Operand.tmp 46], argTypes := #[33] }, type := 3, pos := "meta.go:46", after := #[{ on := 0, ground := Ground.data }], guard := none } : Oper)) (v := ?v_26) rfl (by kernel_rfl) (by kernel_rfl) (by kernel_rfl) (fun _ _ _ h => h) (Or.inl ⟨by rfl, ?hy_26⟩) (by assumption) ?rest_26
    case hy_26 => (intro w hSw; (try dsimp only at hSw); go_simp; try with_reducible rfl)
    try simp only [Act.put, List.setIfInBounds_toArray, List.set_cons_zero, List.set_cons_succ]
    refine wpAnyH_take (i := 2) (oi := ({ dst := some 48, op := Op.binOp BinOp.neq 3 (Operand.tmp 47) (Operand.const (Value.int IntKind.i64 1)) 3, type := 4, pos := "meta.go:46", after := #[{ on := 1, ground := Ground.data }], guard := none } : Oper)) (v := ?v_27) rfl (by kernel_rfl) (by kernel_rfl) (by kernel_rfl) (fun _ _ _ h => h) (Or.inl ⟨by rfl, ?hy_27⟩) (by assumption) ?rest_27
    case hy_27 => (intro w hSw; (try dsimp only at hSw); go_simp; try with_reducible rfl)
    try simp only [Act.put, List.setIfInBounds_toArray, List.set_cons_zero, List.set_cons_succ]
    refine wpAnyH_take (i := 3) (oi := ({ dst := some 49, op := Op.move (Operand.tmp 48), type := 4, pos := "meta.go:46", after := #[{ on := 2, ground := Ground.data }], guard := none } : Oper)) (v := ?v_28) rfl (by kernel_rfl) (by kernel_rfl) (by kernel_rfl) (fun _ _ _ h => h) (Or.inl ⟨by rfl, ?hy_28⟩) (by assumption) ?rest_28
    case hy_28 => (intro w hSw; (try dsimp only at hSw); go_simp; try with_reducible rfl)
    try simp only [Act.put, List.setIfInBounds_toArray, List.set_cons_zero, List.set_cons_succ]
    refine wpAnyH_take (i := 4) (oi := ({ dst := some 50, op := Op.move (Operand.tmp 2), type := 33, pos := "meta.go:46", after := #[{ on := 3, ground := Ground.guard }], guard := some (3, false) } : Oper)) (v := ?v_29) rfl (by kernel_rfl) (by kernel_rfl) (by kernel_rfl) (fun _ _ _ h => h) (Or.inl ⟨by rfl, ?hy_29⟩) (by assumption) ?rest_29
    case hy_29 => (intro w hSw; (try dsimp only at hSw); go_simp; try with_reducible rfl)
    try simp only [Act.put, List.setIfInBounds_toArray, List.set_cons_zero, List.set_cons_succ]
    refine wpAnyH_take (i := 5) (oi := ({ dst := some 51, op := Op.indexAddr 33 (Operand.tmp 50) (Operand.const (Value.int IntKind.i64 0)), type := 0, pos := "meta.go:46", after := #[{ on := 4, ground := Ground.data }, { on := 3, ground := Ground.guard }], guard := some (3, false) } : Oper)) (v := ?v_30) rfl (by kernel_rfl) (by kernel_rfl) (by kernel_rfl) (fun _ _ _ h => h) (Or.inl ⟨by rfl, ?hy_30⟩) (by assumption) ?rest_30
    case hy_30 => (intro w hSw; (try dsimp only at hSw); go_simp; try with_reducible rfl)
    try simp only [Act.put, List.setIfInBounds_toArray, List.set_cons_zero, List.set_cons_succ]
    refine wpAnyH_take (i := 6) (oi := ({ dst := some 52, op := Op.fieldAddr 86 (Operand.tmp 51) 1, type := 0, pos := "meta.go:46", after := #[{ on := 5, ground := Ground.data }, { on := 3, ground := Ground.guard }], guard := some (3, false) } : Oper)) (v := ?v_31) rfl (by kernel_rfl) (by kernel_rfl) (by kernel_rfl) (fun _ _ _ h => h) (Or.inl ⟨by rfl, ?hy_31⟩) (by assumption) ?rest_31
    case hy_31 => (intro w hSw; (try dsimp only at hSw); go_simp; try with_reducible rfl)
    try simp only [Act.put, List.setIfInBounds_toArray, List.set_cons_zero, List.set_cons_succ]
    refine wpAnyH_take (i := 7) (oi := ({ dst := some 53, op := Op.load 29 (Operand.tmp 52), type := 29, pos := "meta.go:46", after := #[{ on := 6, ground := Ground.data }, { on := 3, ground := Ground.guard }], guard := some (3, false) } : Oper)) (v := ?v_32) rfl (by kernel_rfl) (by kernel_rfl) (by kernel_rfl) (fun _ _ _ h => h) (Or.inl ⟨by rfl, ?hy_32⟩) (by assumption) ?rest_32
    case hy_32 => (intro w hSw; (try dsimp only at hSw); go_simp; try with_reducible rfl)
    try simp only [Act.put, List.setIfInBounds_toArray, List.set_cons_zero, List.set_cons_succ]
    refine wpAnyH_take (i := 8) (oi := ({ dst := some 54, op := Op.call { callee := Callee.builtin Builtin.len, args := #[Operand.tmp 53], argTypes := #[29] }, type := 3, pos := "meta.go:46", after := #[{ on := 7, ground := Ground.data }, { on := 3, ground := Ground.guard }], guard := some (3, false) } : Oper)) (v := ?v_33) rfl (by kernel_rfl) (by kernel_rfl) (by kernel_rfl) (fun _ _ _ h => h) (Or.inl ⟨by rfl, ?hy_33⟩) (by assumption) ?rest_33
    case hy_33 => (intro w hSw; (try dsimp only at hSw); go_simp; try with_reducible rfl)
    try simp only [Act.put, List.setIfInBounds_toArray, List.set_cons_zero, List.set_cons_succ]
    refine wpAnyH_take (i := 9) (oi := ({ dst := some 55, op := Op.binOp BinOp.gtr 3 (Operand.tmp 54) (Operand.const (Value.int IntKind.i64 1048576)) 3, type := 4, pos := "meta.go:46", after := #[{ on := 8, ground := Ground.data }, { on := 3, ground := Ground.guard }], guard := some (3, false) } : Oper)) (v := ?v_34) rfl (by kernel_rfl) (by kernel_rfl) (by kernel_rfl) (fun _ _ _ h => h) (Or.inl ⟨by rfl, ?hy_34⟩) (by assumption) ?rest_34
    case hy_34 => (intro w hSw; (try dsimp only at hSw); go_simp; try with_reducible rfl)
    try simp only [Act.put, List.setIfInBounds_toArray, List.set_cons_zero, List.set_cons_succ]
    refine wpAnyH_take (i := 10) (oi := ({ dst := some 56, op := Op.pick (Operand.tmp 49) (Operand.const (Value.bool true)) (Operand.tmp 55), type := 4, pos := "meta.go:46", after := #[{ on := 3, ground := Ground.data }, { on := 9, ground := Ground.data }], guard := none } : Oper)) (v := ?v_35) rfl (by kernel_rfl) (by kernel_rfl) (by kernel_rfl) (fun _ _ _ h => h) (Or.inl ⟨by rfl, ?hy_35⟩) (by assumption) ?rest_35
    case hy_35 => (intro w hSw; (try dsimp only at hSw); go_simp; try with_reducible rfl)
    try simp only [Act.put, List.setIfInBounds_toArray, List.set_cons_zero, List.set_cons_succ]
    refine wpAnyH_take (i := 11) (oi := ({ dst := some 57, op := Op.move (Operand.tmp 56), type := 4, pos := "meta.go:46", after := #[{ on := 10, ground := Ground.data }, { on := 3, ground := Ground.chain }], guard := none } : Oper)) (v := ?v_36) rfl (by kernel_rfl) (by kernel_rfl) (by kernel_rfl) (fun _ _ _ h => h) (Or.inl ⟨by rfl, ?hy_36⟩) (by assumption) ?rest_36
    case hy_36 => (intro w hSw; (try dsimp only at hSw); go_simp; try with_reducible rfl)
    try simp only [Act.put, List.setIfInBounds_toArray, List.set_cons_zero, List.set_cons_succ]
    refine wpAnyH_take (i := 12) (oi := ({ dst := some 58, op := Op.move (Operand.tmp 7), type := 27, pos := "meta.go:46", after := #[{ on := 11, ground := Ground.guard }], guard := some (11, false) } : Oper)) (v := ?v_37) rfl (by kernel_rfl) (by kernel_rfl) (by kernel_rfl) (fun _ _ _ h => h) (Or.inl ⟨by rfl, ?hy_37⟩) (by assumption) ?rest_37
    case hy_37 => (intro w hSw; (try dsimp only at hSw); go_simp; try with_reducible rfl)
    try simp only [Act.put, List.setIfInBounds_toArray, List.set_cons_zero, List.set_cons_succ]
    refine wpAnyH_take (i := 13) (oi := ({ dst := some 59, op := Op.call { callee := Callee.builtin Builtin.len, args := #[Operand.tmp 58], argTypes := #[27] }, type := 3, pos := "meta.go:46", after := #[{ on := 12, ground := Ground.data }, { on := 11, ground := Ground.guard }], guard := some (11, false) } : Oper)) (v := ?v_38) rfl (by kernel_rfl) (by kernel_rfl) (by kernel_rfl) (fun _ _ _ h => h) (Or.inl ⟨by rfl, ?hy_38⟩) (by assumption) ?rest_38
    case hy_38 => (intro w hSw; (try dsimp only at hSw); go_simp; try with_reducible rfl)
    try simp only [Act.put, List.setIfInBounds_toArray, List.set_cons_zero, List.set_cons_succ]
    refine wpAnyH_take (i := 14) (oi := ({ dst := some 60, op := Op.binOp BinOp.eql 3 (Operand.tmp 59) (Operand.const (Value.int IntKind.i64 0)) 3, type := 4, pos := "meta.go:46", after := #[{ on := 13, ground := Ground.data }, { on := 11, ground := Ground.guard }], guard := some (11, false) } : Oper)) (v := ?v_39) rfl (by kernel_rfl) (by kernel_rfl) (by kernel_rfl) (fun _ _ _ h => h) (Or.inl ⟨by rfl, ?hy_39⟩) (by assumption) ?rest_39
    case hy_39 => (intro w hSw; (try dsimp only at hSw); go_simp; try with_reducible rfl)
    try simp only [Act.put, List.setIfInBounds_toArray, List.set_cons_zero, List.set_cons_succ]
    refine wpAnyH_take (i := 15) (oi := ({ dst := some 61, op := Op.pick (Operand.tmp 57) (Operand.const (Value.bool true)) (Operand.tmp 60), type := 4, pos := "meta.go:46", after := #[{ on := 11, ground := Ground.data }, { on := 14, ground := Ground.data }], guard := none } : Oper)) (v := ?v_40) rfl (by kernel_rfl) (by kernel_rfl) (by kernel_rfl) (fun _ _ _ h => h) (Or.inl ⟨by rfl, ?hy_40⟩) (by assumption) ?rest_40
    case hy_40 => (intro w hSw; (try dsimp only at hSw); go_simp; try with_reducible rfl)
    try simp only [Act.put, List.setIfInBounds_toArray, List.set_cons_zero, List.set_cons_succ]
    refine wpAnyH_take (i := 16) (oi := ({ dst := some 62, op := Op.move (Operand.tmp 61), type := 4, pos := "meta.go:46", after := #[{ on := 15, ground := Ground.data }, { on := 11, ground := Ground.chain }], guard := none } : Oper)) (v := ?v_41) rfl (by kernel_rfl) (by kernel_rfl) (by kernel_rfl) (fun _ _ _ h => h) (Or.inl ⟨by rfl, ?hy_41⟩) (by assumption) ?rest_41
    case hy_41 => (intro w hSw; (try dsimp only at hSw); go_simp; try with_reducible rfl)
    try simp only [Act.put, List.setIfInBounds_toArray, List.set_cons_zero, List.set_cons_succ]
    refine wpAnyH_take (i := 17) (oi := ({ dst := some 63, op := Op.move (Operand.tmp 7), type := 27, pos := "meta.go:46", after := #[{ on := 16, ground := Ground.guard }], guard := some (16, false) } : Oper)) (v := undef) rfl (by kernel_rfl) (by kernel_rfl) (by kernel_rfl) (fun _ _ _ h => h) (Or.inr ⟨by rfl, rfl⟩) (by assumption) ?_
    try simp only [Act.put, List.setIfInBounds_toArray, List.set_cons_zero, List.set_cons_succ]
    refine wpAnyH_take (i := 18) (oi := ({ dst := some 64, op := Op.indexAddr 27 (Operand.tmp 63) (Operand.const (Value.int IntKind.i64 0)), type := 0, pos := "meta.go:46", after := #[{ on := 17, ground := Ground.data }, { on := 16, ground := Ground.guard }], guard := some (16, false) } : Oper)) (v := undef) rfl (by kernel_rfl) (by kernel_rfl) (by kernel_rfl) (fun _ _ _ h => h) (Or.inr ⟨by rfl, rfl⟩) (by assumption) ?_
    try simp only [Act.put, List.setIfInBounds_toArray, List.set_cons_zero, List.set_cons_succ]
    refine wpAnyH_take (i := 19) (oi := ({ dst := some 65, op := Op.load 9 (Operand.tmp 64), type := 9, pos := "meta.go:46", after := #[{ on := 18, ground := Ground.data }, { on := 16, ground := Ground.guard }], guard := some (16, false) } : Oper)) (v := undef) rfl (by kernel_rfl) (by kernel_rfl) (by kernel_rfl) (fun _ _ _ h => h) (Or.inr ⟨by rfl, rfl⟩) (by assumption) ?_
    try simp only [Act.put, List.setIfInBounds_toArray, List.set_cons_zero, List.set_cons_succ]
    refine wpAnyH_take (i := 20) (oi := ({ dst := some 66, op := Op.move (Operand.tmp 2), type := 33, pos := "meta.go:46", after := #[{ on := 16, ground := Ground.guard }], guard := some (16, false) } : Oper)) (v := undef) rfl (by kernel_rfl) (by kernel_rfl) (by kernel_rfl) (fun _ _ _ h => h) (Or.inr ⟨by rfl, rfl⟩) (by assumption) ?_
    try simp only [Act.put, List.setIfInBounds_toArray, List.set_cons_zero, List.set_cons_succ]
    refine wpAnyH_take (i := 21) (oi := ({ dst := some 67, op := Op.indexAddr 33 (Operand.tmp 66) (Operand.const (Value.int IntKind.i64 0)), type := 0, pos := "meta.go:46", after := #[{ on := 20, ground := Ground.data }, { on := 16, ground := Ground.guard }], guard := some (16, false) } : Oper)) (v := undef) rfl (by kernel_rfl) (by kernel_rfl) (by kernel_rfl) (fun _ _ _ h => h) (Or.inr ⟨by rfl, rfl⟩) (by assumption) ?_
    try simp only [Act.put, List.setIfInBounds_toArray, List.set_cons_zero, List.set_cons_succ]
    refine wpAnyH_take (i := 22) (oi := ({ dst := some 68, op := Op.fieldAddr 86 (Operand.tmp 67) 1, type := 0, pos := "meta.go:46", after := #[{ on := 21, ground := Ground.data }, { on := 16, ground := Ground.guard }], guard := some (16, false) } : Oper)) (v := undef) rfl (by kernel_rfl) (by kernel_rfl) (by kernel_rfl) (fun _ _ _ h => h) (Or.inr ⟨by rfl, rfl⟩) (by assumption) ?_
    try simp only [Act.put, List.setIfInBounds_toArray, List.set_cons_zero, List.set_cons_succ]
    refine wpAnyH_take (i := 23) (oi := ({ dst := some 69, op := Op.load 29 (Operand.tmp 68), type := 29, pos := "meta.go:46", after := #[{ on := 22, ground := Ground.data }, { on := 16, ground := Ground.guard }], guard := some (16, false) } : Oper)) (v := undef) rfl (by kernel_rfl) (by kernel_rfl) (by kernel_rfl) (fun _ _ _ h => h) (Or.inr ⟨by rfl, rfl⟩) (by assumption) ?_
    try simp only [Act.put, List.setIfInBounds_toArray, List.set_cons_zero, List.set_cons_succ]
    refine wpAnyH_take (i := 24) (oi := ({ dst := some 70, op := Op.call { callee := Callee.builtin Builtin.len, args := #[Operand.tmp 69], argTypes := #[29] }, type := 3, pos := "meta.go:46", after := #[{ on := 23, ground := Ground.data }, { on := 16, ground := Ground.guard }], guard := some (16, false) } : Oper)) (v := undef) rfl (by kernel_rfl) (by kernel_rfl) (by kernel_rfl) (fun _ _ _ h => h) (Or.inr ⟨by rfl, rfl⟩) (by assumption) ?_
    try simp only [Act.put, List.setIfInBounds_toArray, List.set_cons_zero, List.set_cons_succ]
    refine wpAnyH_take (i := 25) (oi := ({ dst := some 71, op := Op.call { callee := Callee.value (Operand.func 47), args := #[Operand.tmp 70], argTypes := #[3] }, type := 9, pos := "meta.go:46", after := #[{ on := 24, ground := Ground.data }, { on := 16, ground := Ground.chain }, { on := 16, ground := Ground.guard }], guard := some (16, false) } : Oper)) (v := undef) rfl (by kernel_rfl) (by kernel_rfl) (by kernel_rfl) (fun _ _ _ h => h) (Or.inr ⟨by rfl, rfl⟩) (by assumption) ?_
    try simp only [Act.put, List.setIfInBounds_toArray, List.set_cons_zero, List.set_cons_succ]
    refine wpAnyH_take (i := 26) (oi := ({ dst := some 72, op := Op.binOp BinOp.neq 9 (Operand.tmp 65) (Operand.tmp 71) 9, type := 4, pos := "meta.go:46", after := #[{ on := 19, ground := Ground.data }, { on := 25, ground := Ground.data }, { on := 16, ground := Ground.guard }], guard := some (16, false) } : Oper)) (v := undef) rfl (by kernel_rfl) (by kernel_rfl) (by kernel_rfl) (fun _ _ _ h => h) (Or.inr ⟨by rfl, rfl⟩) (by assumption) ?_
    try simp only [Act.put, List.setIfInBounds_toArray, List.set_cons_zero, List.set_cons_succ]
    refine wpAnyH_take (i := 27) (oi := ({ dst := some 73, op := Op.pick (Operand.tmp 62) (Operand.const (Value.bool true)) (Operand.tmp 72), type := 4, pos := "meta.go:46", after := #[{ on := 16, ground := Ground.data }, { on := 26, ground := Ground.data }], guard := none } : Oper)) (v := ?v_42) rfl (by kernel_rfl) (by kernel_rfl) (by kernel_rfl) (fun _ _ _ h => h) (Or.inl ⟨by rfl, ?hy_42⟩) (by assumption) ?rest_42
    case hy_42 => (intro w hSw; (try dsimp only at hSw); go_simp; try with_reducible rfl)
    try simp only [Act.put, List.setIfInBounds_toArray, List.set_cons_zero, List.set_cons_succ]
    refine wpAnyH_done (by kernel_rfl) ?_ _
    go_wp2_with fail
    rw [← HR.out, HBF.out]
    exact ⟨rfl, HB2.out.drew⟩
  obtain ⟨w0, ws, hww⟩ : ∃ w0 ws, words = w0 :: ws := List.exists_cons_of_ne_nil hw
  have hen : code ≠ [69, 78] := fun e => k3 ⟨hw, .inl e⟩
  have hmn : code ≠ [77, 78] := fun e => k3 ⟨hw, .inr e⟩
  have g1 : (code == [69, 78]) = false := by rw [beq_eq_false_iff_ne]; exact hen
  have g2 : (code == [77, 78]) = false := by rw [beq_eq_false_iff_ne]; exact hmn
  have hwp : 0 < words.length := List.length_pos_iff.2 hw
  have w1' : (0 : Int) < (words.length : Int) := by omega
  have w4' : 0 < words.length := hwp
  have w3' : ((words.length : Int) == 0) = false := by rw [beq_eq_false_iff_ne]; omega
  clear hen hmn
  by_cases hva : code ≠ [86, 65]
  · have g3 : (code == [86, 65]) = false := by rw [beq_eq_false_iff_ne]; exact hva
    have g4 : (code != [86, 65]) = true := by rw [bne, g3]; rfl
    by_cases hx : xs = []
    · have hx0 : xs.length = 0 := by rw [hx]; rfl
      have x1 : decide ((0 : Int) < (xs.length : Int)) = false := decide_eq_false (by omega)
      have x2 : decide (0 < xs.length) = false := decide_eq_false (by omega)
      have hbf := HBB.out
      rw [if_neg (by rw [hx]; rintro (e | e | e | e); exact k1 e; exact e k2; exact k3 e; exact e.2 rfl), if_neg hva] at hbf
      have HBF := Lib.hid hbf
      clear hbf k1 k2 k3 hx hx0 hva hw hww
    
      go_enter Tryz.func45, Tryz.ntmps45
      go_wp2_with (first | (go_at_call 85; refine HSP.out.mono ?_; rintro e w1 ⟨rfl, hown1, hb1⟩; have c0 := own_textCell hown1 HC0.out; have HOWN1 := Lib.hid hown1; have HB1 := Lib.hid hb1; clear hown1 hb1) | (go_at_call 87; refine (HCO.out w1).mono ?_; rintro e w2 ⟨gc, cc, rfl, hown2, hb2⟩; have hct := hasText_any (c := cc) (RowAt.of_own hown2) (by have := HCF.out; omega) code; rw [HCD.out] at hct; have HCT := Lib.hid hct; have HB2 := Lib.hid (HB1.out.trans (hb2.mono HB1.out.size)); have HB12 := Lib.hid hb2; clear hown2 hb2 hct) | (go_at_call 86; refine HCT.out.mono ?_; rintro e w3 ⟨rfl, rfl⟩) | (go_at_call 79; refine (has_meta (P := fun x => !Sp.flagR x) (l := words) (c := words.length) ((HROWD.out w1 HOWN1.out).below HB12.out) (by have := HWL.out; omega) (fun W x hx _ => HMT.out W x (HWS.out x (hx)))).mono ?_; rintro e w6 ⟨rfl, hb6⟩; have HB6 := Lib.hid (HB2.out.trans (hb6.mono HB2.out.size)); clear hb6))
      rw [← HR.out, HBF.out]
      refine ⟨?_, HB6.out⟩
      show Ending.returned (Value.bool (!(List.any words fun x => !Sp.flagR x))) = _
      rw [any_not]
    · have hxp : 0 < xs.length := List.length_pos_iff.2 hx
      have x1 : (0 : Int) < (xs.length : Int) := by omega
      have hbf := HBB.out
      rw [if_pos (.inr (.inr (.inr ⟨hva, fun e => hx (List.map_eq_nil_iff.1 e)⟩)))] at hbf
      have HBF := Lib.hid hbf
      clear hbf k1 k2 k3 hx hva hw hww
      go_enter Tryz.func45, Tryz.ntmps45
      go_wp2_with (first | (go_at_call 85; refine HSP.out.mono ?_; rintro e w1 ⟨rfl, hown1, hb1⟩; have c0 := own_textCell hown1 HC0.out; have HOWN1 := Lib.hid hown1; have HB1 := Lib.hid hb1; clear hown1 hb1) | (go_at_call 87; refine (HCO.out w1).mono ?_; rintro e w2 ⟨gc, cc, rfl, hown2, hb2⟩; have hct := hasText_any (c := cc) (RowAt.of_own hown2) (by have := HCF.out; omega) code; rw [HCD.out] at hct; have HCT := Lib.hid hct; have HB2 := Lib.hid (HB1.out.trans (hb2.mono HB1.out.size)); have HB12 := Lib.hid hb2; clear hown2 hb2 hct) | (go_at_call 86; refine HCT.out.mono ?_; rintro e w3 ⟨rfl, rfl⟩))
      rw [← HR.out, HBF.out]
      exact ⟨rfl, HB2.out⟩
  replace hva : code = [86, 65] := Classical.not_not.1 hva
  have g3 : (code == [86, 65]) = true := by rw [hva]; rfl
  have g4 : (code != [86, 65]) = false := by rw [bne, g3]; rfl
  have hbf := HBB.out
  rw [if_neg (by rintro (e | e | e | e); exact k1 e; exact e k2; exact k3 e; exact e.1 hva), if_pos hva] at hbf
  have HBV := Lib.hid hbf
  clear hbf k1 k2 k3
  by_cases hx1 : xs.length ≠ 1
  · have x9 : ((xs.length : Int) != 1) = true := by rw [bne, show ((xs.length : Int) == 1) = false by rw [beq_eq_false_iff_ne]; omega]; rfl
    have hbf2 : b = false := by
      rw [HBV.out]
      cases xs with
      | nil => rfl
      | cons x t => cases t with
        | nil => exact absurd rfl hx1
        | cons y t => rfl
    have HBF := Lib.hid hbf2
    clear hbf2
    clear hva hw hww
    go_enter Tryz.func45, Tryz.ntmps45
    go_upto_region 10 with (first | (go_at_call 85; refine HSP.out.mono ?_; rintro e w1 ⟨rfl, hown1, hb1⟩; have c0 := own_textCell hown1 HC0.out; have HOWN1 := Lib.hid hown1; have HB1 := Lib.hid hb1; clear hown1 hb1) | (go_at_call 87; refine (HCO.out w1).mono ?_; rintro e w2 ⟨gc, cc, rfl, hown2, hb2⟩; have hct := hasText_any (c := cc) (RowAt.of_own hown2) (by have := HCF.out; omega) code; rw [HCD.out] at hct; have HCT := Lib.hid hct; have HB2 := Lib.hid (HB1.out.trans (hb2.mono HB1.out.size)); have HB12 := Lib.hid hb2; clear hown2 hb2 hct) | (go_at_call 86; refine HCT.out.mono ?_; rintro e w3 ⟨rfl, rfl⟩))
    refine wp_region_held_drew (S := (fun _ => True)) (by kernel_rfl) (by trivial) (fun hHeld => ?_)
    refine wpAnyH_take (i := 0) (oi := ({ dst := some 46, op := Op.move (Operand.tmp 2), type := 33, pos := "meta.go:46", after := #[], guard := none } : Oper)) (v := ?v_43) rfl (by kernel_rfl) (by kernel_rfl) (by kernel_rfl) (fun _ _ _ h => h) (Or.inl ⟨by rfl, ?hy_43⟩) (by assumption) ?rest_43
    case hy_43 => (intro w hSw; (try dsimp only at hSw); go_simp; try with_reducible rfl)
    try simp only [Act.put, List.setIfInBounds_toArray, List.set_cons_zero, List.set_cons_succ]
    refine wpAnyH_take (i := 1) (oi := ({ dst := some 47, op := Op.call { callee := Callee.builtin Builtin.len, args := #[Operand.tmp 46], argTypes := #[33] }, type := 3, pos := "meta.go:46", after := #[{ on := 0, ground := Ground.data }], guard := none } : Oper)) (v := ?v_44) rfl (by kernel_rfl) (by kernel_rfl) (by kernel_rfl) (fun _ _ _ h => h) (Or.inl ⟨by rfl, ?hy_44⟩) (by assumption) ?rest_44
    case hy_44 => (intro w hSw; (try dsimp only at hSw); go_simp; try with_reducible rfl)
    try simp only [Act.put, List.setIfInBounds_toArray, List.set_cons_zero, List.set_cons_succ]
    refine wpAnyH_take (i := 2) (oi := ({ dst := some 48, op := Op.binOp BinOp.neq 3 (Operand.tmp 47) (Operand.const (Value.int IntKind.i64 1)) 3, type := 4, pos := "meta.go:46", after := #[{ on := 1, ground := Ground.data }], guard := none } : Oper)) (v := ?v_45) rfl (by kernel_rfl) (by kernel_rfl) (by kernel_rfl) (fun _ _ _ h => h) (Or.inl ⟨by rfl, ?hy_45⟩) (by assumption) ?rest_45
    case hy_45 => (intro w hSw; (try dsimp only at hSw); go_simp; try with_reducible rfl)
    try simp only [Act.put, List.setIfInBounds_toArray, List.set_cons_zero, List.set_cons_succ]
    refine wpAnyH_take (i := 3) (oi := ({ dst := some 49, op := Op.move (Operand.tmp 48), type := 4, pos := "meta.go:46", after := #[{ on := 2, ground := Ground.data }], guard := none } : Oper)) (v := ?v_46) rfl (by kernel_rfl) (by kernel_rfl) (by kernel_rfl) (fun _ _ _ h => h) (Or.inl ⟨by rfl, ?hy_46⟩) (by assumption) ?rest_46
    case hy_46 => (intro w hSw; (try dsimp only at hSw); go_simp; try with_reducible rfl)
    try simp only [Act.put, List.setIfInBounds_toArray, List.set_cons_zero, List.set_cons_succ]
    refine wpAnyH_take (i := 4) (oi := ({ dst := some 50, op := Op.move (Operand.tmp 2), type := 33, pos := "meta.go:46", after := #[{ on := 3, ground := Ground.guard }], guard := some (3, false) } : Oper)) (v := undef) rfl (by kernel_rfl) (by kernel_rfl) (by kernel_rfl) (fun _ _ _ h => h) (Or.inr ⟨by rfl, rfl⟩) (by assumption) ?_
    try simp only [Act.put, List.setIfInBounds_toArray, List.set_cons_zero, List.set_cons_succ]
    refine wpAnyH_take (i := 5) (oi := ({ dst := some 51, op := Op.indexAddr 33 (Operand.tmp 50) (Operand.const (Value.int IntKind.i64 0)), type := 0, pos := "meta.go:46", after := #[{ on := 4, ground := Ground.data }, { on := 3, ground := Ground.guard }], guard := some (3, false) } : Oper)) (v := undef) rfl (by kernel_rfl) (by kernel_rfl) (by kernel_rfl) (fun _ _ _ h => h) (Or.inr ⟨by rfl, rfl⟩) (by assumption) ?_
    try simp only [Act.put, List.setIfInBounds_toArray, List.set_cons_zero, List.set_cons_succ]
    refine wpAnyH_take (i := 6) (oi := ({ dst := some 52, op := Op.fieldAddr 86 (Operand.tmp 51) 1, type := 0, pos := "meta.go:46", after := #[{ on := 5, ground := Ground.data }, { on := 3, ground := Ground.guard }], guard := some (3, false) } : Oper)) (v := undef) rfl (by kernel_rfl) (by kernel_rfl) (by kernel_rfl) (fun _ _ _ h => h) (Or.inr ⟨by rfl, rfl⟩) (by assumption) ?_
    try simp only [Act.put, List.setIfInBounds_toArray, List.set_cons_zero, List.set_cons_succ]
    refine wpAnyH_take (i := 7) (oi := ({ dst := some 53, op := Op.load 29 (Operand.tmp 52), type := 29, pos := "meta.go:46", after := #[{ on := 6, ground := Ground.data }, { on := 3, ground := Ground.guard }], guard := some (3, false) } : Oper)) (v := undef) rfl (by kernel_rfl) (by kernel_rfl) (by kernel_rfl) (fun _ _ _ h => h) (Or.inr ⟨by rfl, rfl⟩) (by assumption) ?_
    try simp only [Act.put, List.setIfInBounds_toArray, List.set_cons_zero, List.set_cons_succ]
    refine wpAnyH_take (i := 8) (oi := ({ dst := some 54, op := Op.call { callee := Callee.builtin Builtin.len, args := #[Operand.tmp 53], argTypes := #[29] }, type := 3, pos := "meta.go:46", after := #[{ on := 7, ground := Ground.data }, { on := 3, ground := Ground.guard }], guard := some (3, false) } : Oper)) (v := undef) rfl (by kernel_rfl) (by kernel_rfl) (by kernel_rfl) (fun _ _ _ h => h) (Or.inr ⟨by rfl, rfl⟩) (by assumption) ?_
    try simp only [Act.put, List.setIfInBounds_toArray, List.set_cons_zero, List.set_cons_succ]
    refine wpAnyH_take (i := 9) (oi := ({ dst := some 55, op := Op.binOp BinOp.gtr 3 (Operand.tmp 54) (Operand.const (Value.int IntKind.i64 1048576)) 3, type := 4, pos := "meta.go:46", after := #[{ on := 8, ground := Ground.data }, { on := 3, ground := Ground.guard }], guard := some (3, false) } : Oper)) (v := undef) rfl (by kernel_rfl) (by kernel_rfl) (by kernel_rfl) (fun _ _ _ h => h) (Or.inr ⟨by rfl, rfl⟩) (by assumption) ?_
    try simp only [Act.put, List.setIfInBounds_toArray, List.set_cons_zero, List.set_cons_succ]
    refine wpAnyH_take (i := 10) (oi := ({ dst := some 56, op := Op.pick (Operand.tmp 49) (Operand.const (Value.bool true)) (Operand.tmp 55), type := 4, pos := "meta.go:46", after := #[{ on := 3, ground := Ground.data }, { on := 9, ground := Ground.data }], guard := none } : Oper)) (v := ?v_47) rfl (by kernel_rfl) (by kernel_rfl) (by kernel_rfl) (fun _ _ _ h => h) (Or.inl ⟨by rfl, ?hy_47⟩) (by assumption) ?rest_47
    case hy_47 => (intro w hSw; (try dsimp only at hSw); go_simp; try with_reducible rfl)
    try simp only [Act.put, List.setIfInBounds_toArray, List.set_cons_zero, List.set_cons_succ]
    refine wpAnyH_take (i := 11) (oi := ({ dst := some 57, op := Op.move (Operand.tmp 56), type := 4, pos := "meta.go:46", after := #[{ on := 10, ground := Ground.data }, { on := 3, ground := Ground.chain }], guard := none } : Oper)) (v := ?v_48) rfl (by kernel_rfl) (by kernel_rfl) (by kernel_rfl) (fun _ _ _ h => h) (Or.inl ⟨by rfl, ?hy_48⟩) (by assumption) ?rest_48
    case hy_48 => (intro w hSw; (try dsimp only at hSw); go_simp; try with_reducible rfl)
    try simp only [Act.put, List.setIfInBounds_toArray, List.set_cons_zero, List.set_cons_succ]
    refine wpAnyH_take (i := 12) (oi := ({ dst := some 58, op := Op.move (Operand.tmp 7), type := 27, pos := "meta.go:46", after := #[{ on := 11, ground := Ground.guard }], guard := some (11, false) } : Oper)) (v := undef) rfl (by kernel_rfl) (by kernel_rfl) (by kernel_rfl) (fun _ _ _ h => h) (Or.inr ⟨by rfl, rfl⟩) (by assumption) ?_
    try simp only [Act.put, List.setIfInBounds_toArray, List.set_cons_zero, List.set_cons_succ]
    refine wpAnyH_take (i := 13) (oi := ({ dst := some 59, op := Op.call { callee := Callee.builtin Builtin.len, args := #[Operand.tmp 58], argTypes := #[27] }, type := 3, pos := "meta.go:46", after := #[{ on := 12, ground := Ground.data }, { on := 11, ground := Ground.guard }], guard := some (11, false) } : Oper)) (v := undef) rfl (by kernel_rfl) (by kernel_rfl) (by kernel_rfl) (fun _ _ _ h => h) (Or.inr ⟨by rfl, rfl⟩) (by assumption) ?_
    try simp only [Act.put, List.setIfInBounds_toArray, List.set_cons_zero, List.set_cons_succ]
    refine wpAnyH_take (i := 14) (oi := ({ dst := some 60, op := Op.binOp BinOp.eql 3 (Operand.tmp 59) (Operand.const (Value.int IntKind.i64 0)) 3, type := 4, pos := "meta.go:46", after := #[{ on := 13, ground := Ground.data }, { on := 11, ground := Ground.guard }], guard := some (11, false) } : Oper)) (v := undef) rfl (by kernel_rfl) (by kernel_rfl) (by kernel_rfl) (fun _ _ _ h => h) (Or.inr ⟨by rfl, rfl⟩) (by assumption) ?_
    try simp only [Act.put, List.setIfInBounds_toArray, List.set_cons_zero, List.set_cons_succ]
    refine wpAnyH_take (i := 15) (oi := ({ dst := some 61, op := Op.pick (Operand.tmp 57) (Operand.const (Value.bool true)) (Operand.tmp 60), type := 4, pos := "meta.go:46", after := #[{ on := 11, ground := Ground.data }, { on := 14, ground := Ground.data }], guard := none } : Oper)) (v := ?v_49) rfl (by kernel_rfl) (by kernel_rfl) (by kernel_rfl) (fun _ _ _ h => h) (Or.inl ⟨by rfl, ?hy_49⟩) (by assumption) ?rest_49
    case hy_49 => (intro w hSw; (try dsimp only at hSw); go_simp; try with_reducible rfl)
    try simp only [Act.put, List.setIfInBounds_toArray, List.set_cons_zero, List.set_cons_succ]
    refine wpAnyH_take (i := 16) (oi := ({ dst := some 62, op := Op.move (Operand.tmp 61), type := 4, pos := "meta.go:46", after := #[{ on := 15, ground := Ground.data }, { on := 11, ground := Ground.chain }], guard := none } : Oper)) (v := ?v_50) rfl (by kernel_rfl) (by kernel_rfl) (by kernel_rfl) (fun _ _ _ h => h) (Or.inl ⟨by rfl, ?hy_50⟩) (by assumption) ?rest_50
    case hy_50 => (intro w hSw; (try dsimp only at hSw); go_simp; try with_reducible rfl)
    try simp only [Act.put, List.setIfInBounds_toArray, List.set_cons_zero, List.set_cons_succ]
    refine wpAnyH_take (i := 17) (oi := ({ dst := some 63, op := Op.move (Operand.tmp 7), type := 27, pos := "meta.go:46", after := #[{ on := 16, ground := Ground.guard }], guard := some (16, false) } : Oper)) (v := undef) rfl (by kernel_rfl) (by kernel_rfl) (by kernel_rfl) (fun _ _ _ h => h) (Or.inr ⟨by rfl, rfl⟩) (by assumption) ?_
    try simp only [Act.put, List.setIfInBounds_toArray, List.set_cons_zero, List.set_cons_succ]
    refine wpAnyH_take (i := 18) (oi := ({ dst := some 64, op := Op.indexAddr 27 (Operand.tmp 63) (Operand.const (Value.int IntKind.i64 0)), type := 0, pos := "meta.go:46", after := #[{ on := 17, ground := Ground.data }, { on := 16, ground := Ground.guard }], guard := some (16, false) } : Oper)) (v := undef) rfl (by kernel_rfl) (by kernel_rfl) (by kernel_rfl) (fun _ _ _ h => h) (Or.inr ⟨by rfl, rfl⟩) (by assumption) ?_
    try simp only [Act.put, List.setIfInBounds_toArray, List.set_cons_zero, List.set_cons_succ]
    refine wpAnyH_take (i := 19) (oi := ({ dst := some 65, op := Op.load 9 (Operand.tmp 64), type := 9, pos := "meta.go:46", after := #[{ on := 18, ground := Ground.data }, { on := 16, ground := Ground.guard }], guard := some (16, false) } : Oper)) (v := undef) rfl (by kernel_rfl) (by kernel_rfl) (by kernel_rfl) (fun _ _ _ h => h) (Or.inr ⟨by rfl, rfl⟩) (by assumption) ?_
    try simp only [Act.put, List.setIfInBounds_toArray, List.set_cons_zero, List.set_cons_succ]
    refine wpAnyH_take (i := 20) (oi := ({ dst := some 66, op := Op.move (Operand.tmp 2), type := 33, pos := "meta.go:46", after := #[{ on := 16, ground := Ground.guard }], guard := some (16, false) } : Oper)) (v := undef) rfl (by kernel_rfl) (by kernel_rfl) (by kernel_rfl) (fun _ _ _ h => h) (Or.inr ⟨by rfl, rfl⟩) (by assumption) ?_
    try simp only [Act.put, List.setIfInBounds_toArray, List.set_cons_zero, List.set_cons_succ]
    refine wpAnyH_take (i := 21) (oi := ({ dst := some 67, op := Op.indexAddr 33 (Operand.tmp 66) (Operand.const (Value.int IntKind.i64 0)), type := 0, pos := "meta.go:46", after := #[{ on := 20, ground := Ground.data }, { on := 16, ground := Ground.guard }], guard := some (16, false) } : Oper)) (v := undef) rfl (by kernel_rfl) (by kernel_rfl) (by kernel_rfl) (fun _ _ _ h => h) (Or.inr ⟨by rfl, rfl⟩) (by assumption) ?_
    try simp only [Act.put, List.setIfInBounds_toArray, List.set_cons_zero, List.set_cons_succ]
    refine wpAnyH_take (i := 22) (oi := ({ dst := some 68, op := Op.fieldAddr 86 (Operand.tmp 67) 1, type := 0, pos := "meta.go:46", after := #[{ on := 21, ground := Ground.data }, { on := 16, ground := Ground.guard }], guard := some (16, false) } : Oper)) (v := undef) rfl (by kernel_rfl) (by kernel_rfl) (by kernel_rfl) (fun _ _ _ h => h) (Or.inr ⟨by rfl, rfl⟩) (by assumption) ?_
    try simp only [Act.put, List.setIfInBounds_toArray, List.set_cons_zero, List.set_cons_succ]
    refine wpAnyH_take (i := 23) (oi := ({ dst := some 69, op := Op.load 29 (Operand.tmp 68), type := 29, pos := "meta.go:46", after := #[{ on := 22, ground := Ground.data }, { on := 16, ground := Ground.guard }], guard := some (16, false) } : Oper)) (v := undef) rfl (by kernel_rfl) (by kernel_rfl) (by kernel_rfl) (fun _ _ _ h => h) (Or.inr ⟨by rfl, rfl⟩) (by assumption) ?_
    try simp only [Act.put, List.setIfInBounds_toArray, List.set_cons_zero, List.set_cons_succ]
    refine wpAnyH_take (i := 24) (oi := ({ dst := some 70, op := Op.call { callee := Callee.builtin Builtin.len, args := #[Operand.tmp 69], argTypes := #[29] }, type := 3, pos := "meta.go:46", after := #[{ on := 23, ground := Ground.data }, { on := 16, ground := Ground.guard }], guard := some (16, false) } : Oper)) (v := undef) rfl (by kernel_rfl) (by kernel_rfl) (by kernel_rfl) (fun _ _ _ h => h) (Or.inr ⟨by rfl, rfl⟩) (by assumption) ?_
    try simp only [Act.put, List.setIfInBounds_toArray, List.set_cons_zero, List.set_cons_succ]
    refine wpAnyH_take (i := 25) (oi := ({ dst := some 71, op := Op.call { callee := Callee.value (Operand.func 47), args := #[Operand.tmp 70], argTypes := #[3] }, type := 9, pos := "meta.go:46", after := #[{ on := 24, ground := Ground.data }, { on := 16, ground := Ground.chain }, { on := 16, ground := Ground.guard }], guard := some (16, false) } : Oper)) (v := undef) rfl (by kernel_rfl) (by kernel_rfl) (by kernel_rfl) (fun _ _ _ h => h) (Or.inr ⟨by rfl, rfl⟩) (by assumption) ?_
    try simp only [Act.put, List.setIfInBounds_toArray, List.set_cons_zero, List.set_cons_succ]
    refine wpAnyH_take (i := 26) (oi := ({ dst := some 72, op := Op.binOp BinOp.neq 9 (Operand.tmp 65) (Operand.tmp 71) 9, type := 4, pos := "meta.go:46", after := #[{ on := 19, ground := Ground.data }, { on := 25, ground := Ground.data }, { on := 16, ground := Ground.guard }], guard := some (16, false) } : Oper)) (v := undef) rfl (by kernel_rfl) (by kernel_rfl) (by kernel_rfl) (fun _ _ _ h => h) (Or.inr ⟨by rfl, rfl⟩) (by assumption) ?_
    try simp only [Act.put, List.setIfInBounds_toArray, List.set_cons_zero, List.set_cons_succ]
    refine wpAnyH_take (i := 27) (oi := ({ dst := some 73, op := Op.pick (Operand.tmp 62) (Operand.const (Value.bool true)) (Operand.tmp 72), type := 4, pos := "meta.go:46", after := #[{ on := 16, ground := Ground.data }, { on := 26, ground := Ground.data }], guard := none } : Oper)) (v := ?v_51) rfl (by kernel_rfl) (by kernel_rfl) (by kernel_rfl) (fun _ _ _ h => h) (Or.inl ⟨by rfl, ?hy_51⟩) (by assumption) ?rest_51
    case hy_51 => (intro w hSw; (try dsimp only at hSw); go_simp; try with_reducible rfl)
    try simp only [Act.put, List.setIfInBounds_toArray, List.set_cons_zero, List.set_cons_succ]
    refine wpAnyH_done (by kernel_rfl) ?_ _
    go_wp2_with fail
    rw [← HR.out, HBF.out]
    exact ⟨rfl, HB2.out.drew⟩
  replace hx1 : xs.length = 1 := Classical.not_not.1 hx1
  obtain ⟨x, hxx⟩ : ∃ x, xs = [x] := List.length_eq_one_iff.1 hx1
  obtain ⟨ge, oe, hEe, hgl, ycell⟩ := HE.out.cell (i := 0) (x := x) (by rw [hxx]; rfl)
  have hk : ∀ W : World, Below w.heap.size w W → W.cell? ⟨ge, oe + 1, none⟩ = some (.slice x.B x.e.value.length x.c) := fun W hW => (World.cell?_of_block (a := ⟨ge, oe + 1, none⟩) (hW.block ge hgl)).trans (by have := ycell 1 _ rfl; rwa [Nat.zero_mul, Nat.add_zero] at this)
  have HK := Lib.hid hk
  have x9 : ((xs.length : Int) != 1) = false := by rw [hx1]; rfl
  have x8 : (0 : Int) < (xs.length : Int) := by omega
  have x7 : 0 < xs.length := by omega
  subst hEe
  clear hk ycell
  by_cases hv : 1048576 < x.e.value.length
  · have v1 : (1048576 : Int) < (x.e.value.length : Int) := by omega
    have hbf2 : b = false := by
      rw [HBV.out, hxx, hww]
      show (decide (x.e.value.length ≤ 1048576) && _ && _) = false
      rw [decide_eq_false (by omega), Bool.false_and, Bool.false_and]
    have HBF := Lib.hid hbf2
    clear hbf2
    clear hva hw hxx hx1 hww
    go_enter Tryz.func45, Tryz.ntmps45
    go_upto_region 10 with (first | (go_at_call 85; refine HSP.out.mono ?_; rintro e w1 ⟨rfl, hown1, hb1⟩; have c0 := own_textCell hown1 HC0.out; have HOWN1 := Lib.hid hown1; have HB1 := Lib.hid hb1; clear hown1 hb1) | (go_at_call 87; refine (HCO.out w1).mono ?_; rintro e w2 ⟨gc, cc, rfl, hown2, hb2⟩; have hct := hasText_any (c := cc) (RowAt.of_own hown2) (by have := HCF.out; omega) code; rw [HCD.out] at hct; have HCT := Lib.hid hct; have HB2 := Lib.hid (HB1.out.trans (hb2.mono HB1.out.size)); have HB12 := Lib.hid hb2; clear hown2 hb2 hct) | (go_at_call 86; refine HCT.out.mono ?_; rintro e w3 ⟨rfl, rfl⟩))
    refine wp_region_held_drew (S := (fun w' => w'.cell? ⟨ge, oe + 1, none⟩ = some (.slice x.B x.e.value.length x.c))) (by kernel_rfl) (by first | exact HK.out _ HB2.out | exact HK.out _ HB2.out.drew) (fun hHeld => ?_)
    refine wpAnyH_take (i := 0) (oi := ({ dst := some 46, op := Op.move (Operand.tmp 2), type := 33, pos := "meta.go:46", after := #[], guard := none } : Oper)) (v := ?v_52) rfl (by kernel_rfl) (by kernel_rfl) (by kernel_rfl) (fun _ _ _ h => h) (Or.inl ⟨by rfl, ?hy_52⟩) (by assumption) ?rest_52
    case hy_52 => (intro w hSw; (try dsimp only at hSw); go_simp; try with_reducible rfl)
    try simp only [Act.put, List.setIfInBounds_toArray, List.set_cons_zero, List.set_cons_succ]
    refine wpAnyH_take (i := 1) (oi := ({ dst := some 47, op := Op.call { callee := Callee.builtin Builtin.len, args := #[Operand.tmp 46], argTypes := #[33] }, type := 3, pos := "meta.go:46", after := #[{ on := 0, ground := Ground.data }], guard := none } : Oper)) (v := ?v_53) rfl (by kernel_rfl) (by kernel_rfl) (by kernel_rfl) (fun _ _ _ h => h) (Or.inl ⟨by rfl, ?hy_53⟩) (by assumption) ?rest_53
    case hy_53 => (intro w hSw; (try dsimp only at hSw); go_simp; try with_reducible rfl)
    try simp only [Act.put, List.setIfInBounds_toArray, List.set_cons_zero, List.set_cons_succ]
    refine wpAnyH_take (i := 2) (oi := ({ dst := some 48, op := Op.binOp BinOp.neq 3 (Operand.tmp 47) (Operand.const (Value.int IntKind.i64 1)) 3, type := 4, pos := "meta.go:46", after := #[{ on := 1, ground := Ground.data }], guard := none } : Oper)) (v := ?v_54) rfl (by kernel_rfl) (by kernel_rfl) (by kernel_rfl) (fun _ _ _ h => h) (Or.inl ⟨by rfl, ?hy_54⟩) (by assumption) ?rest_54
    case hy_54 => (intro w hSw; (try dsimp only at hSw); go_simp; try with_reducible rfl)
    try simp only [Act.put, List.setIfInBounds_toArray, List.set_cons_zero, List.set_cons_succ]
    refine wpAnyH_take (i := 3) (oi := ({ dst := some 49, op := Op.move (Operand.tmp 48), type := 4, pos := "meta.go:46", after := #[{ on := 2, ground := Ground.data }], guard := none } : Oper)) (v := ?v_55) rfl (by kernel_rfl) (by kernel_rfl) (by kernel_rfl) (fun _ _ _ h => h) (Or.inl ⟨by rfl, ?hy_55⟩) (by assumption) ?rest_55
    case hy_55 => (intro w hSw; (try dsimp only at hSw); go_simp; try with_reducible rfl)
    try simp only [Act.put, List.setIfInBounds_toArray, List.set_cons_zero, List.set_cons_succ]
    refine wpAnyH_take (i := 4) (oi := ({ dst := some 50, op := Op.move (Operand.tmp 2), type := 33, pos := "meta.go:46", after := #[{ on := 3, ground := Ground.guard }], guard := some (3, false) } : Oper)) (v := ?v_56) rfl (by kernel_rfl) (by kernel_rfl) (by kernel_rfl) (fun _ _ _ h => h) (Or.inl ⟨by rfl, ?hy_56⟩) (by assumption) ?rest_56
    case hy_56 => (intro w hSw; (try dsimp only at hSw); go_simp; try with_reducible rfl)
    try simp only [Act.put, List.setIfInBounds_toArray, List.set_cons_zero, List.set_cons_succ]
    refine wpAnyH_take (i := 5) (oi := ({ dst := some 51, op := Op.indexAddr 33 (Operand.tmp 50) (Operand.const (Value.int IntKind.i64 0)), type := 0, pos := "meta.go:46", after := #[{ on := 4, ground := Ground.data }, { on := 3, ground := Ground.guard }], guard := some (3, false) } : Oper)) (v := ?v_57) rfl (by kernel_rfl) (by kernel_rfl) (by kernel_rfl) (fun _ _ _ h => h) (Or.inl ⟨by rfl, ?hy_57⟩) (by assumption) ?rest_57
    case hy_57 => (intro w hSw; (try dsimp only at hSw); go_simp; try with_reducible rfl)
    try simp only [Act.put, List.setIfInBounds_toArray, List.set_cons_zero, List.set_cons_succ]
    refine wpAnyH_take (i := 6) (oi := ({ dst := some 52, op := Op.fieldAddr 86 (Operand.tmp 51) 1, type := 0, pos := "meta.go:46", after := #[{ on := 5, ground := Ground.data }, { on := 3, ground := Ground.guard }], guard := some (3, false) } : Oper)) (v := ?v_58) rfl (by kernel_rfl) (by kernel_rfl) (by kernel_rfl) (fun _ _ _ h => h) (Or.inl ⟨by rfl, ?hy_58⟩) (by assumption) ?rest_58
    case hy_58 => (intro w hSw; (try dsimp only at hSw); go_simp; try with_reducible rfl)
    try simp only [Act.put, List.setIfInBounds_toArray, List.set_cons_zero, List.set_cons_succ]
    refine wpAnyH_take (i := 7) (oi := ({ dst := some 53, op := Op.load 29 (Operand.tmp 52), type := 29, pos := "meta.go:46", after := #[{ on := 6, ground := Ground.data }, { on := 3, ground := Ground.guard }], guard := some (3, false) } : Oper)) (v := ?v_59) rfl (by kernel_rfl) (by kernel_rfl) (by kernel_rfl) (fun _ _ _ h => h) (Or.inl ⟨by rfl, ?hy_59⟩) (by assumption) ?rest_59
    case hy_59 => (intro w hSw; (try dsimp only at hSw); go_simp; try with_reducible rfl)
    try simp only [Act.put, List.setIfInBounds_toArray, List.set_cons_zero, List.set_cons_succ]
    refine wpAnyH_take (i := 8) (oi := ({ dst := some 54, op := Op.call { callee := Callee.builtin Builtin.len, args := #[Operand.tmp 53], argTypes := #[29] }, type := 3, pos := "meta.go:46", after := #[{ on := 7, ground := Ground.data }, { on := 3, ground := Ground.guard }], guard := some (3, false) } : Oper)) (v := ?v_60) rfl (by kernel_rfl) (by kernel_rfl) (by kernel_rfl) (fun _ _ _ h => h) (Or.inl ⟨by rfl, ?hy_60⟩) (by assumption) ?rest_60
    case hy_60 => (intro w hSw; (try dsimp only at hSw); go_simp; try with_reducible rfl)
    try simp only [Act.put, List.setIfInBounds_toArray, List.set_cons_zero, List.set_cons_succ]
    refine wpAnyH_take (i := 9) (oi := ({ dst := some 55, op := Op.binOp BinOp.gtr 3 (Operand.tmp 54) (Operand.const (Value.int IntKind.i64 1048576)) 3, type := 4, pos := "meta.go:46", after := #[{ on := 8, ground := Ground.data }, { on := 3, ground := Ground.guard }], guard := some (3, false) } : Oper)) (v := ?v_61) rfl (by kernel_rfl) (by kernel_rfl) (by kernel_rfl) (fun _ _ _ h => h) (Or.inl ⟨by rfl, ?hy_61⟩) (by assumption) ?rest_61
    case hy_61 => (intro w hSw; (try dsimp only at hSw); go_simp; try with_reducible rfl)
    try simp only [Act.put, List.setIfInBounds_toArray, List.set_cons_zero, List.set_cons_succ]
    refine wpAnyH_take (i := 10) (oi := ({ dst := some 56, op := Op.pick (Operand.tmp 49) (Operand.const (Value.bool true)) (Operand.tmp 55), type := 4, pos := "meta.go:46", after := #[{ on := 3, ground := Ground.data }, { on := 9, ground := Ground.data }], guard := none } : Oper)) (v := ?v_62) rfl (by kernel_rfl) (by kernel_rfl) (by kernel_rfl) (fun _ _ _ h => h) (Or.inl ⟨by rfl, ?hy_62⟩) (by assumption) ?rest_62
    case hy_62 => (intro w hSw; (try dsimp only at hSw); go_simp; try with_reducible rfl)
    try simp only [Act.put, List.setIfInBounds_toArray, List.set_cons_zero, List.set_cons_succ]
    refine wpAnyH_take (i := 11) (oi := ({ dst := some 57, op := Op.move (Operand.tmp 56), type := 4, pos := "meta.go:46", after := #[{ on := 10, ground := Ground.data }, { on := 3, ground := Ground.chain }], guard := none } : Oper)) (v := ?v_63) rfl (by kernel_rfl) (by kernel_rfl) (by kernel_rfl) (fun _ _ _ h => h) (Or.inl ⟨by rfl, ?hy_63⟩) (by assumption) ?rest_63
    case hy_63 => (intro w hSw; (try dsimp only at hSw); go_simp; try with_reducible rfl)
    try simp only [Act.put, List.setIfInBounds_toArray, List.set_cons_zero, List.set_cons_succ]
    refine wpAnyH_take (i := 12) (oi := ({ dst := some 58, op := Op.move (Operand.tmp 7), type := 27, pos := "meta.go:46", after := #[{ on := 11, ground := Ground.guard }], guard := some (11, false) } : Oper)) (v := undef) rfl (by kernel_rfl) (by kernel_rfl) (by kernel_rfl) (fun _ _ _ h => h) (Or.inr ⟨by rfl, rfl⟩) (by assumption) ?_
    try simp only [Act.put, List.setIfInBounds_toArray, List.set_cons_zero, List.set_cons_succ]
    refine wpAnyH_take (i := 13) (oi := ({ dst := some 59, op := Op.call { callee := Callee.builtin Builtin.len, args := #[Operand.tmp 58], argTypes := #[27] }, type := 3, pos := "meta.go:46", after := #[{ on := 12, ground := Ground.data }, { on := 11, ground := Ground.guard }], guard := some (11, false) } : Oper)) (v := undef) rfl (by kernel_rfl) (by kernel_rfl) (by kernel_rfl) (fun _ _ _ h => h) (Or.inr ⟨by rfl, rfl⟩) (by assumption) ?_
    try simp only [Act.put, List.setIfInBounds_toArray, List.set_cons_zero, List.set_cons_succ]
    refine wpAnyH_take (i := 14) (oi := ({ dst := some 60, op := Op.binOp BinOp.eql 3 (Operand.tmp 59) (Operand.const (Value.int IntKind.i64 0)) 3, type := 4, pos := "meta.go:46", after := #[{ on := 13, ground := Ground.data }, { on := 11, ground := Ground.guard }], guard := some (11, false) } : Oper)) (v := undef) rfl (by kernel_rfl) (by kernel_rfl) (by kernel_rfl) (fun _ _ _ h => h) (Or.inr ⟨by rfl, rfl⟩) (by assumption) ?_
    try simp only [Act.put, List.setIfInBounds_toArray, List.set_cons_zero, List.set_cons_succ]
    refine wpAnyH_take (i := 15) (oi := ({ dst := some 61, op := Op.pick (Operand.tmp 57) (Operand.const (Value.bool true)) (Operand.tmp 60), type := 4, pos := "meta.go:46", after := #[{ on := 11, ground := Ground.data }, { on := 14, ground := Ground.data }], guard := none } : Oper)) (v := ?v_64) rfl (by kernel_rfl) (by kernel_rfl) (by kernel_rfl) (fun _ _ _ h => h) (Or.inl ⟨by rfl, ?hy_64⟩) (by assumption) ?rest_64
    case hy_64 => (intro w hSw; (try dsimp only at hSw); go_simp; try with_reducible rfl)
    try simp only [Act.put, List.setIfInBounds_toArray, List.set_cons_zero, List.set_cons_succ]
    refine wpAnyH_take (i := 16) (oi := ({ dst := some 62, op := Op.move (Operand.tmp 61), type := 4, pos := "meta.go:46", after := #[{ on := 15, ground := Ground.data }, { on := 11, ground := Ground.chain }], guard := none } : Oper)) (v := ?v_65) rfl (by kernel_rfl) (by kernel_rfl) (by kernel_rfl) (fun _ _ _ h => h) (Or.inl ⟨by rfl, ?hy_65⟩) (by assumption) ?rest_65
    case hy_65 => (intro w hSw; (try dsimp only at hSw); go_simp; try with_reducible rfl)
    try simp only [Act.put, List.setIfInBounds_toArray, List.set_cons_zero, List.set_cons_succ]
    refine wpAnyH_take (i := 17) (oi := ({ dst := some 63, op := Op.move (Operand.tmp 7), type := 27, pos := "meta.go:46", after := #[{ on := 16, ground := Ground.guard }], guard := some (16, false) } : Oper)) (v := undef) rfl (by kernel_rfl) (by kernel_rfl) (by kernel_rfl) (fun _ _ _ h => h) (Or.inr ⟨by rfl, rfl⟩) (by assumption) ?_
    try simp only [Act.put, List.setIfInBounds_toArray, List.set_cons_zero, List.set_cons_succ]
    refine wpAnyH_take (i := 18) (oi := ({ dst := some 64, op := Op.indexAddr 27 (Operand.tmp 63) (Operand.const (Value.int IntKind.i64 0)), type := 0, pos := "meta.go:46", after := #[{ on := 17, ground := Ground.data }, { on := 16, ground := Ground.guard }], guard := some (16, false) } : Oper)) (v := undef) rfl (by kernel_rfl) (by kernel_rfl) (by kernel_rfl) (fun _ _ _ h => h) (Or.inr ⟨by rfl, rfl⟩) (by assumption) ?_
    try simp only [Act.put, List.setIfInBounds_toArray, List.set_cons_zero, List.set_cons_succ]
    refine wpAnyH_take (i := 19) (oi := ({ dst := some 65, op := Op.load 9 (Operand.tmp 64), type := 9, pos := "meta.go:46", after := #[{ on := 18, ground := Ground.data }, { on := 16, ground := Ground.guard }], guard := some (16, false) } : Oper)) (v := undef) rfl (by kernel_rfl) (by kernel_rfl) (by kernel_rfl) (fun _ _ _ h => h) (Or.inr ⟨by rfl, rfl⟩) (by assumption) ?_
    try simp only [Act.put, List.setIfInBounds_toArray, List.set_cons_zero, List.set_cons_succ]
    refine wpAnyH_take (i := 20) (oi := ({ dst := some 66, op := Op.move (Operand.tmp 2), type := 33, pos := "meta.go:46", after := #[{ on := 16, ground := Ground.guard }], guard := some (16, false) } : Oper)) (v := undef) rfl (by kernel_rfl) (by kernel_rfl) (by kernel_rfl) (fun _ _ _ h => h) (Or.inr ⟨by rfl, rfl⟩) (by assumption) ?_
    try simp only [Act.put, List.setIfInBounds_toArray, List.set_cons_zero, List.set_cons_succ]
    refine wpAnyH_take (i := 21) (oi := ({ dst := some 67, op := Op.indexAddr 33 (Operand.tmp 66) (Operand.const (Value.int IntKind.i64 0)), type := 0, pos := "meta.go:46", after := #[{ on := 20, ground := Ground.data }, { on := 16, ground := Ground.guard }], guard := some (16, false) } : Oper)) (v := undef) rfl (by kernel_rfl) (by kernel_rfl) (by kernel_rfl) (fun _ _ _ h => h) (Or.inr ⟨by rfl, rfl⟩) (by assumption) ?_
    try simp only [Act.put, List.setIfInBounds_toArray, List.set_cons_zero, List.set_cons_succ]
    refine wpAnyH_take (i := 22) (oi := ({ dst := some 68, op := Op.fieldAddr 86 (Operand.tmp 67) 1, type := 0, pos := "meta.go:46", after := #[{ on := 21, ground := Ground.data }, { on := 16, ground := Ground.guard }], guard := some (16, false) } : Oper)) (v := undef) rfl (by kernel_rfl) (by kernel_rfl) (by kernel_rfl) (fun _ _ _ h => h) (Or.inr ⟨by rfl, rfl⟩) (by assumption) ?_
    try simp only [Act.put, List.setIfInBounds_toArray, List.set_cons_zero, List.set_cons_succ]
    refine wpAnyH_take (i := 23) (oi := ({ dst := some 69, op := Op.load 29 (Operand.tmp 68), type := 29, pos := "meta.go:46", after := #[{ on := 22, ground := Ground.data }, { on := 16, ground := Ground.guard }], guard := some (16, false) } : Oper)) (v := undef) rfl (by kernel_rfl) (by kernel_rfl) (by kernel_rfl) (fun _ _ _ h => h) (Or.inr ⟨by rfl, rfl⟩) (by assumption) ?_
    try simp only [Act.put, List.setIfInBounds_toArray, List.set_cons_zero, List.set_cons_succ]
    refine wpAnyH_take (i := 24) (oi := ({ dst := some 70, op := Op.call { callee := Callee.builtin Builtin.len, args := #[Operand.tmp 69], argTypes := #[29] }, type := 3, pos := "meta.go:46", after := #[{ on := 23, ground := Ground.data }, { on := 16, ground := Ground.guard }], guard := some (16, false) } : Oper)) (v := undef) rfl (by kernel_rfl) (by kernel_rfl) (by kernel_rfl) (fun _ _ _ h => h) (Or.inr ⟨by rfl, rfl⟩) (by assumption) ?_
    try simp only [Act.put, List.setIfInBounds_toArray, List.set_cons_zero, List.set_cons_succ]
    refine wpAnyH_take (i := 25) (oi := ({ dst := some 71, op := Op.call { callee := Callee.value (Operand.func 47), args := #[Operand.tmp 70], argTypes := #[3] }, type := 9, pos := "meta.go:46", after := #[{ on := 24, ground := Ground.data }, { on := 16, ground := Ground.chain }, { on := 16, ground := Ground.guard }], guard := some (16, false) } : Oper)) (v := undef) rfl (by kernel_rfl) (by kernel_rfl) (by kernel_rfl) (fun _ _ _ h => h) (Or.inr ⟨by rfl, rfl⟩) (by assumption) ?_
    try simp only [Act.put, List.setIfInBounds_toArray, List.set_cons_zero, List.set_cons_succ]
    refine wpAnyH_take (i := 26) (oi := ({ dst := some 72, op := Op.binOp BinOp.neq 9 (Operand.tmp 65) (Operand.tmp 71) 9, type := 4, pos := "meta.go:46", after := #[{ on := 19, ground := Ground.data }, { on := 25, ground := Ground.data }, { on := 16, ground := Ground.guard }], guard := some (16, false) } : Oper)) (v := undef) rfl (by kernel_rfl) (by kernel_rfl) (by kernel_rfl) (fun _ _ _ h => h) (Or.inr ⟨by rfl, rfl⟩) (by assumption) ?_
    try simp only [Act.put, List.setIfInBounds_toArray, List.set_cons_zero, List.set_cons_succ]
    refine wpAnyH_take (i := 27) (oi := ({ dst := some 73, op := Op.pick (Operand.tmp 62) (Operand.const (Value.bool true)) (Operand.tmp 72), type := 4, pos := "meta.go:46", after := #[{ on := 16, ground := Ground.data }, { on := 26, ground := Ground.data }], guard := none } : Oper)) (v := ?v_66) rfl (by kernel_rfl) (by kernel_rfl) (by kernel_rfl) (fun _ _ _ h => h) (Or.inl ⟨by rfl, ?hy_66⟩) (by assumption) ?rest_66
    case hy_66 => (intro w hSw; (try dsimp only at hSw); go_simp; try with_reducible rfl)
    try simp only [Act.put, List.setIfInBounds_toArray, List.set_cons_zero, List.set_cons_succ]
    refine wpAnyH_done (by kernel_rfl) ?_ _
    go_wp2_with fail
    rw [← HR.out, HBF.out]
    exact ⟨rfl, HB2.out.drew⟩
  have v1 : decide ((1048576 : Int) < (x.e.value.length : Int)) = false := decide_eq_false (by omega)
  have v2 : decide (1048576 < x.e.value.length) = false := decide_eq_false hv
  obtain rfl : D = some ⟨w.heap.size, 1, none⟩ := by
    rw [HD.out]; unfold cutAddr; rw [if_neg (by omega)]; rfl
  obtain ⟨it, hite⟩ : ∃ it, it = Lib.itoa (x.e.value.length : Int) := ⟨_, rfl⟩
  have hdv : Sp.digitsV x.e.value.length = it := by
    rw [hite, Sp.digits_dec (by omega)]
    unfold Lib.itoa
    rw [if_neg (by omega)]
    rfl
  have hit2 := fun (W : World) (hW : Below w.heap.size w W) => HIT.out W hW x.e.value.length (by omega)
  rw [← hite] at hit2
  have HIT2 := Lib.hid hit2
  have hcell1 : (code :: words)[1]? = some w0 := by rw [hww]; rfl
  have HCELL1 := Lib.hid hcell1
  have hbv : b = (decide (w0 = it) && ws.all Sp.flagR) := by
    rw [HBV.out, hxx, hww]
    show (decide (x.e.value.length ≤ 1048576) && decide (w0 = Sp.digitsV x.e.value.length) && ws.all Sp.flagR) = _
    rw [decide_eq_true (by omega), Bool.true_and, hdv]
  have hwsl : ws.length = words.length - 1 := by rw [hww, List.length_cons]; omega
  have hmemw : ∀ y ∈ ws, y ∈ words := fun y hy => by rw [hww]; exact List.mem_cons_of_mem _ hy
  have HMEMW := Lib.hid hmemw
  obtain ⟨D2, hD2⟩ : ∃ D2, D2 = cutAddr (some ⟨w.heap.size, 1, none⟩) 1 words.length := ⟨_, rfl⟩
  have hsl2 : ∀ W : World, (Instr.slice 27 (.slice (some ⟨w.heap.size, 1, none⟩) words.length words.length) (some (.int .i64 1)) none none).run Tryz.prog W = .ok (.slice D2 ws.length (words.length - 1)) W := fun W => by
    have h1 := run_slice_texts W (some ⟨w.heap.size, 1, none⟩) words.length words.length 1 (by omega)
    rw [hD2, hwsl]; exact h1
  have hrow2 : ∀ W : World, RowAt W (some ⟨w.heap.size, 1, none⟩) (words.map str) → RowAt W D2 (ws.map str) := fun W h => by
    have h1 := h.cut (a := 1) (cap := words.length) (by rw [List.length_map]; exact Nat.le_refl _)
    rw [← hD2, hww] at h1
    exact h1
  have HROW2 := Lib.hid hrow2
  have n3 : (1 : Int) ≤ (words.length : Int) := by omega
  by_cases hwi : w0 = it
  · have j1 : (w0 == it) = true := by rw [hwi]; exact beq_self_eq_true _
    have j2 : (w0 != it) = false := by rw [bne, j1]; rfl
    rw [decide_eq_true hwi, Bool.true_and] at hbv
    have HBF := Lib.hid hbv
    have HWSL := Lib.hid hwsl
    clear hva hw hww hxx hx1 hv hite hdv hit2 hcell1 hbv hwsl hmemw hD2 hrow2 hwi
    go_enter Tryz.func45, Tryz.ntmps45
    go_upto_region 10 with (first | (go_at_call 85; refine HSP.out.mono ?_; rintro e w1 ⟨rfl, hown1, hb1⟩; have c0 := own_textCell hown1 HC0.out; have HOWN1 := Lib.hid hown1; have HB1 := Lib.hid hb1; clear hown1 hb1) | (go_at_call 87; refine (HCO.out w1).mono ?_; rintro e w2 ⟨gc, cc, rfl, hown2, hb2⟩; have hct := hasText_any (c := cc) (RowAt.of_own hown2) (by have := HCF.out; omega) code; rw [HCD.out] at hct; have HCT := Lib.hid hct; have HB2 := Lib.hid (HB1.out.trans (hb2.mono HB1.out.size)); have HB12 := Lib.hid hb2; clear hown2 hb2 hct) | (go_at_call 86; refine HCT.out.mono ?_; rintro e w3 ⟨rfl, rfl⟩))
    have hk1 : ∀ W : World, Below w1.heap.size w1 W → W.cell? ⟨w.heap.size, 1, none⟩ = some (str w0) := fun W hW => own_textCell (own_later HOWN1.out hW) HCELL1.out
    have HK1 := Lib.hid hk1
    clear hk1
    refine wp_region_held_drew (S := (fun w' => w'.cell? ⟨ge, oe + 1, none⟩ = some (.slice x.B x.e.value.length x.c) ∧ w'.cell? ⟨w.heap.size, 1, none⟩ = some (str w0))) (by kernel_rfl) (by first | exact ⟨HK.out _ HB2.out, HK1.out _ HB12.out⟩ | exact ⟨HK.out _ HB2.out.drew, HK1.out _ HB12.out.drew⟩ | exact ⟨HK.out _ HB5.out, HK1.out _ HB15.out⟩) (fun hHeld => ?_)
    refine wpAnyH_take (i := 0) (oi := ({ dst := some 46, op := Op.move (Operand.tmp 2), type := 33, pos := "meta.go:46", after := #[], guard := none } : Oper)) (v := ?v_67) rfl (by kernel_rfl) (by kernel_rfl) (by kernel_rfl) (fun _ _ _ h => h) (Or.inl ⟨by rfl, ?hy_67⟩) (by assumption) ?rest_67
    case hy_67 => (intro w hSw; (try dsimp only at hSw); go_simp; try with_reducible rfl)
    try simp only [Act.put, List.setIfInBounds_toArray, List.set_cons_zero, List.set_cons_succ]
    refine wpAnyH_take (i := 1) (oi := ({ dst := some 47, op := Op.call { callee := Callee.builtin Builtin.len, args := #[Operand.tmp 46], argTypes := #[33] }, type := 3, pos := "meta.go:46", after := #[{ on := 0, ground := Ground.data }], guard := none } : Oper)) (v := ?v_68) rfl (by kernel_rfl) (by kernel_rfl) (by kernel_rfl) (fun _ _ _ h => h) (Or.inl ⟨by rfl, ?hy_68⟩) (by assumption) ?rest_68
    case hy_68 => (intro w hSw; (try dsimp only at hSw); go_simp; try with_reducible rfl)
    try simp only [Act.put, List.setIfInBounds_toArray, List.set_cons_zero, List.set_cons_succ]
    refine wpAnyH_take (i := 2) (oi := ({ dst := some 48, op := Op.binOp BinOp.neq 3 (Operand.tmp 47) (Operand.const (Value.int IntKind.i64 1)) 3, type := 4, pos := "meta.go:46", after := #[{ on := 1, ground := Ground.data }], guard := none } : Oper)) (v := ?v_69) rfl (by kernel_rfl) (by kernel_rfl) (by kernel_rfl) (fun _ _ _ h => h) (Or.inl ⟨by rfl, ?hy_69⟩) (by assumption) ?rest_69
    case hy_69 => (intro w hSw; (try dsimp only at hSw); go_simp; try with_reducible rfl)
    try simp only [Act.put, List.setIfInBounds_toArray, List.set_cons_zero, List.set_cons_succ]
    refine wpAnyH_take (i := 3) (oi := ({ dst := some 49, op := Op.move (Operand.tmp 48), type := 4, pos := "meta.go:46", after := #[{ on := 2, ground := Ground.data }], guard := none } : Oper)) (v := ?v_70) rfl (by kernel_rfl) (by kernel_rfl) (by kernel_rfl) (fun _ _ _ h => h) (Or.inl ⟨by rfl, ?hy_70⟩) (by assumption) ?rest_70
    case hy_70 => (intro w hSw; (try dsimp only at hSw); go_simp; try with_reducible rfl)
    try simp only [Act.put, List.setIfInBounds_toArray, List.set_cons_zero, List.set_cons_succ]
    refine wpAnyH_take (i := 4) (oi := ({ dst := some 50, op := Op.move (Operand.tmp 2), type := 33, pos := "meta.go:46", after := #[{ on := 3, ground := Ground.guard }], guard := some (3, false) } : Oper)) (v := ?v_71) rfl (by kernel_rfl) (by kernel_rfl) (by kernel_rfl) (fun _ _ _ h => h) (Or.inl ⟨by rfl, ?hy_71⟩) (by assumption) ?rest_71
    case hy_71 => (intro w hSw; (try dsimp only at hSw); go_simp; try with_reducible rfl)
    try simp only [Act.put, List.setIfInBounds_toArray, List.set_cons_zero, List.set_cons_succ]
    refine wpAnyH_take (i := 5) (oi := ({ dst := some 51, op := Op.indexAddr 33 (Operand.tmp 50) (Operand.const (Value.int IntKind.i64 0)), type := 0, pos := "meta.go:46", after := #[{ on := 4, ground := Ground.data }, { on := 3, ground := Ground.guard }], guard := some (3, false) } : Oper)) (v := ?v_72) rfl (by kernel_rfl) (by kernel_rfl) (by kernel_rfl) (fun _ _ _ h => h) (Or.inl ⟨by rfl, ?hy_72⟩) (by assumption) ?rest_72
    case hy_72 => (intro w hSw; (try dsimp only at hSw); go_simp; try with_reducible rfl)
    try simp only [Act.put, List.setIfInBounds_toArray, List.set_cons_zero, List.set_cons_succ]
    refine wpAnyH_take (i := 6) (oi := ({ dst := some 52, op := Op.fieldAddr 86 (Operand.tmp 51) 1, type := 0, pos := "meta.go:46", after := #[{ on := 5, ground := Ground.data }, { on := 3, ground := Ground.guard }], guard := some (3, false) } : Oper)) (v := ?v_73) rfl (by kernel_rfl) (by kernel_rfl) (by kernel_rfl) (fun _ _ _ h => h) (Or.inl ⟨by rfl, ?hy_73⟩) (by assumption) ?rest_73
    case hy_73 => (intro w hSw; (try dsimp only at hSw); go_simp; try with_reducible rfl)
    try simp only [Act.put, List.setIfInBounds_toArray, List.set_cons_zero, List.set_cons_succ]
    refine wpAnyH_take (i := 7) (oi := ({ dst := some 53, op := Op.load 29 (Operand.tmp 52), type := 29, pos := "meta.go:46", after := #[{ on := 6, ground := Ground.data }, { on := 3, ground := Ground.guard }], guard := some (3, false) } : Oper)) (v := ?v_74) rfl (by kernel_rfl) (by kernel_rfl) (by kernel_rfl) (fun _ _ _ h => h) (Or.inl ⟨by rfl, ?hy_74⟩) (by assumption) ?rest_74
    case hy_74 => (intro w hSw; (try dsimp only at hSw); go_simp; try with_reducible rfl)
    try simp only [Act.put, List.setIfInBounds_toArray, List.set_cons_zero, List.set_cons_succ]
    refine wpAnyH_take (i := 8) (oi := ({ dst := some 54, op := Op.call { callee := Callee.builtin Builtin.len, args := #[Operand.tmp 53], argTypes := #[29] }, type := 3, pos := "meta.go:46", after := #[{ on := 7, ground := Ground.data }, { on := 3, ground := Ground.guard }], guard := some (3, false) } : Oper)) (v := ?v_75) rfl (by kernel_rfl) (by kernel_rfl) (by kernel_rfl) (fun _ _ _ h => h) (Or.inl ⟨by rfl, ?hy_75⟩) (by assumption) ?rest_75
    case hy_75 => (intro w hSw; (try dsimp only at hSw); go_simp; try with_reducible rfl)
    try simp only [Act.put, List.setIfInBounds_toArray, List.set_cons_zero, List.set_cons_succ]
    refine wpAnyH_take (i := 9) (oi := ({ dst := some 55, op := Op.binOp BinOp.gtr 3 (Operand.tmp 54) (Operand.const (Value.int IntKind.i64 1048576)) 3, type := 4, pos := "meta.go:46", after := #[{ on := 8, ground := Ground.data }, { on := 3, ground := Ground.guard }], guard := some (3, false) } : Oper)) (v := ?v_76) rfl (by kernel_rfl) (by kernel_rfl) (by kernel_rfl) (fun _ _ _ h => h) (Or.inl ⟨by rfl, ?hy_76⟩) (by assumption) ?rest_76
    case hy_76 => (intro w hSw; (try dsimp only at hSw); go_simp; try with_reducible rfl)
    try simp only [Act.put, List.setIfInBounds_toArray, List.set_cons_zero, List.set_cons_succ]
    refine wpAnyH_take (i := 10) (oi := ({ dst := some 56, op := Op.pick (Operand.tmp 49) (Operand.const (Value.bool true)) (Operand.tmp 55), type := 4, pos := "meta.go:46", after := #[{ on := 3, ground := Ground.data }, { on := 9, ground := Ground.data }], guard := none } : Oper)) (v := ?v_77) rfl (by kernel_rfl) (by kernel_rfl) (by kernel_rfl) (fun _ _ _ h => h) (Or.inl ⟨by rfl, ?hy_77⟩) (by assumption) ?rest_77
    case hy_77 => (intro w hSw; (try dsimp only at hSw); go_simp; try with_reducible rfl)
    try simp only [Act.put, List.setIfInBounds_toArray, List.set_cons_zero, List.set_cons_succ]
    refine wpAnyH_take (i := 11) (oi := ({ dst := some 57, op := Op.move (Operand.tmp 56), type := 4, pos := "meta.go:46", after := #[{ on := 10, ground := Ground.data }, { on := 3, ground := Ground.chain }], guard := none } : Oper)) (v := ?v_78) rfl (by kernel_rfl) (by kernel_rfl) (by kernel_rfl) (fun _ _ _ h => h) (Or.inl ⟨by rfl, ?hy_78⟩) (by assumption) ?rest_78
    case hy_78 => (intro w hSw; (try dsimp only at hSw); go_simp; try with_reducible rfl)
    try simp only [Act.put, List.setIfInBounds_toArray, List.set_cons_zero, List.set_cons_succ]
    refine wpAnyH_take (i := 12) (oi := ({ dst := some 58, op := Op.move (Operand.tmp 7), type := 27, pos := "meta.go:46", after := #[{ on := 11, ground := Ground.guard }], guard := some (11, false) } : Oper)) (v := ?v_79) rfl (by kernel_rfl) (by kernel_rfl) (by kernel_rfl) (fun _ _ _ h => h) (Or.inl ⟨by rfl, ?hy_79⟩) (by assumption) ?rest_79
    case hy_79 => (intro w hSw; (try dsimp only at hSw); go_simp; try with_reducible rfl)
    try simp only [Act.put, List.setIfInBounds_toArray, List.set_cons_zero, List.set_cons_succ]
    refine wpAnyH_take (i := 13) (oi := ({ dst := some 59, op := Op.call { callee := Callee.builtin Builtin.len, args := #[Operand.tmp 58], argTypes := #[27] }, type := 3, pos := "meta.go:46", after := #[{ on := 12, ground := Ground.data }, { on := 11, ground := Ground.guard }], guard := some (11, false) } : Oper)) (v := ?v_80) rfl (by kernel_rfl) (by kernel_rfl) (by kernel_rfl) (fun _ _ _ h => h) (Or.inl ⟨by rfl, ?hy_80⟩) (by assumption) ?rest_80
    case hy_80 => (intro w hSw; (try dsimp only at hSw); go_simp; try with_reducible rfl)
    try simp only [Act.put, List.setIfInBounds_toArray, List.set_cons_zero, List.set_cons_succ]
    refine wpAnyH_take (i := 14) (oi := ({ dst := some 60, op := Op.binOp BinOp.eql 3 (Operand.tmp 59) (Operand.const (Value.int IntKind.i64 0)) 3, type := 4, pos := "meta.go:46", after := #[{ on := 13, ground := Ground.data }, { on := 11, ground := Ground.guard }], guard := some (11, false) } : Oper)) (v := ?v_81) rfl (by kernel_rfl) (by kernel_rfl) (by kernel_rfl) (fun _ _ _ h => h) (Or.inl ⟨by rfl, ?hy_81⟩) (by assumption) ?rest_81
    case hy_81 => (intro w hSw; (try dsimp only at hSw); go_simp; try with_reducible rfl)
    try simp only [Act.put, List.setIfInBounds_toArray, List.set_cons_zero, List.set_cons_succ]
    refine wpAnyH_take (i := 15) (oi := ({ dst := some 61, op := Op.pick (Operand.tmp 57) (Operand.const (Value.bool true)) (Operand.tmp 60), type := 4, pos := "meta.go:46", after := #[{ on := 11, ground := Ground.data }, { on := 14, ground := Ground.data }], guard := none } : Oper)) (v := ?v_82) rfl (by kernel_rfl) (by kernel_rfl) (by kernel_rfl) (fun _ _ _ h => h) (Or.inl ⟨by rfl, ?hy_82⟩) (by assumption) ?rest_82
    case hy_82 => (intro w hSw; (try dsimp only at hSw); go_simp; try with_reducible rfl)
    try simp only [Act.put, List.setIfInBounds_toArray, List.set_cons_zero, List.set_cons_succ]
    refine wpAnyH_take (i := 16) (oi := ({ dst := some 62, op := Op.move (Operand.tmp 61), type := 4, pos := "meta.go:46", after := #[{ on := 15, ground := Ground.data }, { on := 11, ground := Ground.chain }], guard := none } : Oper)) (v := ?v_83) rfl (by kernel_rfl) (by kernel_rfl) (by kernel_rfl) (fun _ _ _ h => h) (Or.inl ⟨by rfl, ?hy_83⟩) (by assumption) ?rest_83
    case hy_83 => (intro w hSw; (try dsimp only at hSw); go_simp; try with_reducible rfl)
    try simp only [Act.put, List.setIfInBounds_toArray, List.set_cons_zero, List.set_cons_succ]
    refine wpAnyH_take (i := 17) (oi := ({ dst := some 63, op := Op.move (Operand.tmp 7), type := 27, pos := "meta.go:46", after := #[{ on := 16, ground := Ground.guard }], guard := some (16, false) } : Oper)) (v := ?v_84) rfl (by kernel_rfl) (by kernel_rfl) (by kernel_rfl) (fun _ _ _ h => h) (Or.inl ⟨by rfl, ?hy_84⟩) (by assumption) ?rest_84
    case hy_84 => (intro w hSw; (try dsimp only at hSw); go_simp; try with_reducible rfl)
    try simp only [Act.put, List.setIfInBounds_toArray, List.set_cons_zero, List.set_cons_succ]
    refine wpAnyH_take (i := 18) (oi := ({ dst := some 64, op := Op.indexAddr 27 (Operand.tmp 63) (Operand.const (Value.int IntKind.i64 0)), type := 0, pos := "meta.go:46", after := #[{ on := 17, ground := Ground.data }, { on := 16, ground := Ground.guard }], guard := some (16, false) } : Oper)) (v := ?v_85) rfl (by kernel_rfl) (by kernel_rfl) (by kernel_rfl) (fun _ _ _ h => h) (Or.inl ⟨by rfl, ?hy_85⟩) (by assumption) ?rest_85
    case hy_85 => (intro w hSw; (try dsimp only at hSw); go_simp; try with_reducible rfl)
    try simp only [Act.put, List.setIfInBounds_toArray, List.set_cons_zero, List.set_cons_succ]
    refine wpAnyH_take (i := 19) (oi := ({ dst := some 65, op := Op.load 9 (Operand.tmp 64), type := 9, pos := "meta.go:46", after := #[{ on := 18, ground := Ground.data }, { on := 16, ground := Ground.guard }], guard := some (16, false) } : Oper)) (v := ?v_86) rfl (by kernel_rfl) (by kernel_rfl) (by kernel_rfl) (fun _ _ _ h => h) (Or.inl ⟨by rfl, ?hy_86⟩) (by assumption) ?rest_86
    case hy_86 => (intro w hSw; (try dsimp only at hSw); go_simp; try with_reducible rfl)
    try simp only [Act.put, List.setIfInBounds_toArray, List.set_cons_zero, List.set_cons_succ]
    refine wpAnyH_take (i := 20) (oi := ({ dst := some 66, op := Op.move (Operand.tmp 2), type := 33, pos := "meta.go:46", after := #[{ on := 16, ground := Ground.guard }], guard := some (16, false) } : Oper)) (v := ?v_87) rfl (by kernel_rfl) (by kernel_rfl) (by kernel_rfl) (fun _ _ _ h => h) (Or.inl ⟨by rfl, ?hy_87⟩) (by assumption) ?rest_87
    case hy_87 => (intro w hSw; (try dsimp only at hSw); go_simp; try with_reducible rfl)
    try simp only [Act.put, List.setIfInBounds_toArray, List.set_cons_zero, List.set_cons_succ]
    refine wpAnyH_take (i := 21) (oi := ({ dst := some 67, op := Op.indexAddr 33 (Operand.tmp 66) (Operand.const (Value.int IntKind.i64 0)), type := 0, pos := "meta.go:46", after := #[{ on := 20, ground := Ground.data }, { on := 16, ground := Ground.guard }], guard := some (16, false) } : Oper)) (v := ?v_88) rfl (by kernel_rfl) (by kernel_rfl) (by kernel_rfl) (fun _ _ _ h => h) (Or.inl ⟨by rfl, ?hy_88⟩) (by assumption) ?rest_88
    case hy_88 => (intro w hSw; (try dsimp only at hSw); go_simp; try with_reducible rfl)
    try simp only [Act.put, List.setIfInBounds_toArray, List.set_cons_zero, List.set_cons_succ]
    refine wpAnyH_take (i := 22) (oi := ({ dst := some 68, op := Op.fieldAddr 86 (Operand.tmp 67) 1, type := 0, pos := "meta.go:46", after := #[{ on := 21, ground := Ground.data }, { on := 16, ground := Ground.guard }], guard := some (16, false) } : Oper)) (v := ?v_89) rfl (by kernel_rfl) (by kernel_rfl) (by kernel_rfl) (fun _ _ _ h => h) (Or.inl ⟨by rfl, ?hy_89⟩) (by assumption) ?rest_89
    case hy_89 => (intro w hSw; (try dsimp only at hSw); go_simp; try with_reducible rfl)
    try simp only [Act.put, List.setIfInBounds_toArray, List.set_cons_zero, List.set_cons_succ]
    refine wpAnyH_take (i := 23) (oi := ({ dst := some 69, op := Op.load 29 (Operand.tmp 68), type := 29, pos := "meta.go:46", after := #[{ on := 22, ground := Ground.data }, { on := 16, ground := Ground.guard }], guard := some (16, false) } : Oper)) (v := ?v_90) rfl (by kernel_rfl) (by kernel_rfl) (by kernel_rfl) (fun _ _ _ h => h) (Or.inl ⟨by rfl, ?hy_90⟩) (by assumption) ?rest_90
    case hy_90 => (intro w hSw; (try dsimp only at hSw); go_simp; try with_reducible rfl)
    try simp only [Act.put, List.setIfInBounds_toArray, List.set_cons_zero, List.set_cons_succ]
    refine wpAnyH_take (i := 24) (oi := ({ dst := some 70, op := Op.call { callee := Callee.builtin Builtin.len, args := #[Operand.tmp 69], argTypes := #[29] }, type := 3, pos := "meta.go:46", after := #[{ on := 23, ground := Ground.data }, { on := 16, ground := Ground.guard }], guard := some (16, false) } : Oper)) (v := ?v_91) rfl (by kernel_rfl) (by kernel_rfl) (by kernel_rfl) (fun _ _ _ h => h) (Or.inl ⟨by rfl, ?hy_91⟩) (by assumption) ?rest_91
    case hy_91 => (intro w hSw; (try dsimp only at hSw); go_simp; try with_reducible rfl)
    try simp only [Act.put, List.setIfInBounds_toArray, List.set_cons_zero, List.set_cons_succ]
    refine wpAnyH_ready (rs := [25]) (by kernel_rfl) (by simp) ?_
    refine AllReadyH.cons (o := ({ dst := some 71, op := Op.call { callee := Callee.value (Operand.func 47), args := #[Operand.tmp 70], argTypes := #[3] }, type := 9, pos := "meta.go:46", after := #[{ on := 24, ground := Ground.data }, { on := 16, ground := Ground.chain }, { on := 16, ground := Ground.guard }], guard := some (16, false) } : Oper)) rfl (fun K' hK' => ?_) AllReadyH.nil
    go_simp
    (go_at_call 47; refine (HIT2.out _ HB2.out.drew).mono ?_; rintro e w5 ⟨rfl, hb5⟩; have HB5 := Lib.hid (HB2.out.drew.trans (hb5.mono HB2.out.size)); have HB15 := Lib.hid (HB12.out.drew.trans (hb5.mono HB12.out.size)); clear hb5)
    refine hK'.out _ _ (by first | exact ⟨HK.out _ HB2.out, HK1.out _ HB12.out⟩ | exact ⟨HK.out _ HB2.out.drew, HK1.out _ HB12.out.drew⟩ | exact ⟨HK.out _ HB5.out, HK1.out _ HB15.out⟩) (fun hHeld1 => ?_)
    clear hK' K' hHeld
    try simp only [Act.put, List.setIfInBounds_toArray, List.set_cons_zero, List.set_cons_succ]
    refine wpAnyH_take (i := 26) (oi := ({ dst := some 72, op := Op.binOp BinOp.neq 9 (Operand.tmp 65) (Operand.tmp 71) 9, type := 4, pos := "meta.go:46", after := #[{ on := 19, ground := Ground.data }, { on := 25, ground := Ground.data }, { on := 16, ground := Ground.guard }], guard := some (16, false) } : Oper)) (v := ?v_92) rfl (by kernel_rfl) (by kernel_rfl) (by kernel_rfl) (fun _ _ _ h => h) (Or.inl ⟨by rfl, ?hy_92⟩) (by assumption) ?rest_92
    case hy_92 => (intro w hSw; (try dsimp only at hSw); go_simp; try with_reducible rfl)
    try simp only [Act.put, List.setIfInBounds_toArray, List.set_cons_zero, List.set_cons_succ]
    refine wpAnyH_take (i := 27) (oi := ({ dst := some 73, op := Op.pick (Operand.tmp 62) (Operand.const (Value.bool true)) (Operand.tmp 72), type := 4, pos := "meta.go:46", after := #[{ on := 16, ground := Ground.data }, { on := 26, ground := Ground.data }], guard := none } : Oper)) (v := ?v_93) rfl (by kernel_rfl) (by kernel_rfl) (by kernel_rfl) (fun _ _ _ h => h) (Or.inl ⟨by rfl, ?hy_93⟩) (by assumption) ?rest_93
    case hy_93 => (intro w hSw; (try dsimp only at hSw); go_simp; try with_reducible rfl)
    try simp only [Act.put, List.setIfInBounds_toArray, List.set_cons_zero, List.set_cons_succ]
    refine wpAnyH_done (by kernel_rfl) ?_ _
    go_wp2_with (go_at_call 79; refine (has_meta (P := fun x => !Sp.flagR x) (l := ws) (c := (words.length - 1)) (HROW2.out _ ((HROWD.out w1 HOWN1.out).below HB15.out)) (by have := HWL.out; have := HWSL.out; omega) (fun W x hx _ => HMT.out W x (HWS.out x (HMEMW.out x hx)))).mono ?_; rintro e w6 ⟨rfl, hb6⟩; have HB6 := Lib.hid (HB5.out.trans (hb6.mono HB5.out.size)); clear hb6)
    rw [← HR.out, HBF.out]
    refine ⟨?_, HB6.out⟩
    show Ending.returned (Value.bool (!(List.any ws fun x => !Sp.flagR x))) = _
    rw [any_not]
  · have j1 : (w0 == it) = false := by rw [beq_eq_false_iff_ne]; exact hwi
    have j2 : (w0 != it) = true := by rw [bne, j1]; rfl
    rw [decide_eq_false hwi, Bool.false_and] at hbv
    have HBF := Lib.hid hbv
    clear hva hw hww hxx hx1 hv hite hdv hit2 hcell1 hbv hwsl hmemw hD2 hrow2 hwi
    go_enter Tryz.func45, Tryz.ntmps45
    go_upto_region 10 with (first | (go_at_call 85; refine HSP.out.mono ?_; rintro e w1 ⟨rfl, hown1, hb1⟩; have c0 := own_textCell hown1 HC0.out; have HOWN1 := Lib.hid hown1; have HB1 := Lib.hid hb1; clear hown1 hb1) | (go_at_call 87; refine (HCO.out w1).mono ?_; rintro e w2 ⟨gc, cc, rfl, hown2, hb2⟩; have hct := hasText_any (c := cc) (RowAt.of_own hown2) (by have := HCF.out; omega) code; rw [HCD.out] at hct; have HCT := Lib.hid hct; have HB2 := Lib.hid (HB1.out.trans (hb2.mono HB1.out.size)); have HB12 := Lib.hid hb2; clear hown2 hb2 hct) | (go_at_call 86; refine HCT.out.mono ?_; rintro e w3 ⟨rfl, rfl⟩))
    have hk1 : ∀ W : World, Below w1.heap.size w1 W → W.cell? ⟨w.heap.size, 1, none⟩ = some (str w0) := fun W hW => own_textCell (own_later HOWN1.out hW) HCELL1.out
    have HK1 := Lib.hid hk1
    clear hk1
    refine wp_region_held_drew (S := (fun w' => w'.cell? ⟨ge, oe + 1, none⟩ = some (.slice x.B x.e.value.length x.c) ∧ w'.cell? ⟨w.heap.size, 1, none⟩ = some (str w0))) (by kernel_rfl) (by first | exact ⟨HK.out _ HB2.out, HK1.out _ HB12.out⟩ | exact ⟨HK.out _ HB2.out.drew, HK1.out _ HB12.out.drew⟩ | exact ⟨HK.out _ HB5.out, HK1.out _ HB15.out⟩) (fun hHeld => ?_)
    refine wpAnyH_take (i := 0) (oi := ({ dst := some 46, op := Op.move (Operand.tmp 2), type := 33, pos := "meta.go:46", after := #[], guard := none } : Oper)) (v := ?v_94) rfl (by kernel_rfl) (by kernel_rfl) (by kernel_rfl) (fun _ _ _ h => h) (Or.inl ⟨by rfl, ?hy_94⟩) (by assumption) ?rest_94
    case hy_94 => (intro w hSw; (try dsimp only at hSw); go_simp; try with_reducible rfl)
    try simp only [Act.put, List.setIfInBounds_toArray, List.set_cons_zero, List.set_cons_succ]
    refine wpAnyH_take (i := 1) (oi := ({ dst := some 47, op := Op.call { callee := Callee.builtin Builtin.len, args := #[Operand.tmp 46], argTypes := #[33] }, type := 3, pos := "meta.go:46", after := #[{ on := 0, ground := Ground.data }], guard := none } : Oper)) (v := ?v_95) rfl (by kernel_rfl) (by kernel_rfl) (by kernel_rfl) (fun _ _ _ h => h) (Or.inl ⟨by rfl, ?hy_95⟩) (by assumption) ?rest_95
    case hy_95 => (intro w hSw; (try dsimp only at hSw); go_simp; try with_reducible rfl)
    try simp only [Act.put, List.setIfInBounds_toArray, List.set_cons_zero, List.set_cons_succ]
    refine wpAnyH_take (i := 2) (oi := ({ dst := some 48, op := Op.binOp BinOp.neq 3 (Operand.tmp 47) (Operand.const (Value.int IntKind.i64 1)) 3, type := 4, pos := "meta.go:46", after := #[{ on := 1, ground := Ground.data }], guard := none } : Oper)) (v := ?v_96) rfl (by kernel_rfl) (by kernel_rfl) (by kernel_rfl) (fun _ _ _ h => h) (Or.inl ⟨by rfl, ?hy_96⟩) (by assumption) ?rest_96
    case hy_96 => (intro w hSw; (try dsimp only at hSw); go_simp; try with_reducible rfl)
    try simp only [Act.put, List.setIfInBounds_toArray, List.set_cons_zero, List.set_cons_succ]
    refine wpAnyH_take (i := 3) (oi := ({ dst := some 49, op := Op.move (Operand.tmp 48), type := 4, pos := "meta.go:46", after := #[{ on := 2, ground := Ground.data }], guard := none } : Oper)) (v := ?v_97) rfl (by kernel_rfl) (by kernel_rfl) (by kernel_rfl) (fun _ _ _ h => h) (Or.inl ⟨by rfl, ?hy_97⟩) (by assumption) ?rest_97
    case hy_97 => (intro w hSw; (try dsimp only at hSw); go_simp; try with_reducible rfl)
    try simp only [Act.put, List.setIfInBounds_toArray, List.set_cons_zero, List.set_cons_succ]
    refine wpAnyH_take (i := 4) (oi := ({ dst := some 50, op := Op.move (Operand.tmp 2), type := 33, pos := "meta.go:46", after := #[{ on := 3, ground := Ground.guard }], guard := some (3, false) } : Oper)) (v := ?v_98) rfl (by kernel_rfl) (by kernel_rfl) (by kernel_rfl) (fun _ _ _ h => h) (Or.inl ⟨by rfl, ?hy_98⟩) (by assumption) ?rest_98
    case hy_98 => (intro w hSw; (try dsimp only at hSw); go_simp; try with_reducible rfl)
    try simp only [Act.put, List.setIfInBounds_toArray, List.set_cons_zero, List.set_cons_succ]
    refine wpAnyH_take (i := 5) (oi := ({ dst := some 51, op := Op.indexAddr 33 (Operand.tmp 50) (Operand.const (Value.int IntKind.i64 0)), type := 0, pos := "meta.go:46", after := #[{ on := 4, ground := Ground.data }, { on := 3, ground := Ground.guard }], guard := some (3, false) } : Oper)) (v := ?v_99) rfl (by kernel_rfl) (by kernel_rfl) (by kernel_rfl) (fun _ _ _ h => h) (Or.inl ⟨by rfl, ?hy_99⟩) (by assumption) ?rest_99
    case hy_99 => (intro w hSw; (try dsimp only at hSw); go_simp; try with_reducible rfl)
    try simp only [Act.put, List.setIfInBounds_toArray, List.set_cons_zero, List.set_cons_succ]
    refine wpAnyH_take (i := 6) (oi := ({ dst := some 52, op := Op.fieldAddr 86 (Operand.tmp 51) 1, type := 0, pos := "meta.go:46", after := #[{ on := 5, ground := Ground.data }, { on := 3, ground := Ground.guard }], guard := some (3, false) } : Oper)) (v := ?v_100) rfl (by kernel_rfl) (by kernel_rfl) (by kernel_rfl) (fun _ _ _ h => h) (Or.inl ⟨by rfl, ?hy_100⟩) (by assumption) ?rest_100
    case hy_100 => (intro w hSw; (try dsimp only at hSw); go_simp; try with_reducible rfl)
    try simp only [Act.put, List.setIfInBounds_toArray, List.set_cons_zero, List.set_cons_succ]
    refine wpAnyH_take (i := 7) (oi := ({ dst := some 53, op := Op.load 29 (Operand.tmp 52), type := 29, pos := "meta.go:46", after := #[{ on := 6, ground := Ground.data }, { on := 3, ground := Ground.guard }], guard := some (3, false) } : Oper)) (v := ?v_101) rfl (by kernel_rfl) (by kernel_rfl) (by kernel_rfl) (fun _ _ _ h => h) (Or.inl ⟨by rfl, ?hy_101⟩) (by assumption) ?rest_101
    case hy_101 => (intro w hSw; (try dsimp only at hSw); go_simp; try with_reducible rfl)
    try simp only [Act.put, List.setIfInBounds_toArray, List.set_cons_zero, List.set_cons_succ]
    refine wpAnyH_take (i := 8) (oi := ({ dst := some 54, op := Op.call { callee := Callee.builtin Builtin.len, args := #[Operand.tmp 53], argTypes := #[29] }, type := 3, pos := "meta.go:46", after := #[{ on := 7, ground := Ground.data }, { on := 3, ground := Ground.guard }], guard := some (3, false) } : Oper)) (v := ?v_102) rfl (by kernel_rfl) (by kernel_rfl) (by kernel_rfl) (fun _ _ _ h => h) (Or.inl ⟨by rfl, ?hy_102⟩) (by assumption) ?rest_102
    case hy_102 => (intro w hSw; (try dsimp only at hSw); go_simp; try with_reducible rfl)
    try simp only [Act.put, List.setIfInBounds_toArray, List.set_cons_zero, List.set_cons_succ]
    refine wpAnyH_take (i := 9) (oi := ({ dst := some 55, op := Op.binOp BinOp.gtr 3 (Operand.tmp 54) (Operand.const (Value.int IntKind.i64 1048576)) 3, type := 4, pos := "meta.go:46", after := #[{ on := 8, ground := Ground.data }, { on := 3, ground := Ground.guard }], guard := some (3, false) } : Oper)) (v := ?v_103) rfl (by kernel_rfl) (by kernel_rfl) (by kernel_rfl) (fun _ _ _ h => h) (Or.inl ⟨by rfl, ?hy_103⟩) (by assumption) ?rest_103
    case hy_103 => (intro w hSw; (try dsimp only at hSw); go_simp; try with_reducible rfl)
    try simp only [Act.put, List.setIfInBounds_toArray, List.set_cons_zero, List.set_cons_succ]
    refine wpAnyH_take (i := 10) (oi := ({ dst := some 56, op := Op.pick (Operand.tmp 49) (Operand.const (Value.bool true)) (Operand.tmp 55), type := 4, pos := "meta.go:46", after := #[{ on := 3, ground := Ground.data }, { on := 9, ground := Ground.data }], guard := none } : Oper)) (v := ?v_104) rfl (by kernel_rfl) (by kernel_rfl) (by kernel_rfl) (fun _ _ _ h => h) (Or.inl ⟨by rfl, ?hy_104⟩) (by assumption) ?rest_104
    case hy_104 => (intro w hSw; (try dsimp only at hSw); go_simp; try with_reducible rfl)
    try simp only [Act.put, List.setIfInBounds_toArray, List.set_cons_zero, List.set_cons_succ]
    refine wpAnyH_take (i := 11) (oi := ({ dst := some 57, op := Op.move (Operand.tmp 56), type := 4, pos := "meta.go:46", after := #[{ on := 10, ground := Ground.data }, { on := 3, ground := Ground.chain }], guard := none } : Oper)) (v := ?v_105) rfl (by kernel_rfl) (by kernel_rfl) (by kernel_rfl) (fun _ _ _ h => h) (Or.inl ⟨by rfl, ?hy_105⟩) (by assumption) ?rest_105
    case hy_105 => (intro w hSw; (try dsimp only at hSw); go_simp; try with_reducible rfl)
    try simp only [Act.put, List.setIfInBounds_toArray, List.set_cons_zero, List.set_cons_succ]
    refine wpAnyH_take (i := 12) (oi := ({ dst := some 58, op := Op.move (Operand.tmp 7), type := 27, pos := "meta.go:46", after := #[{ on := 11, ground := Ground.guard }], guard := some (11, false) } : Oper)) (v := ?v_106) rfl (by kernel_rfl) (by kernel_rfl) (by kernel_rfl) (fun _ _ _ h => h) (Or.inl ⟨by rfl, ?hy_106⟩) (by assumption) ?rest_106
    case hy_106 => (intro w hSw; (try dsimp only at hSw); go_simp; try with_reducible rfl)
    try simp only [Act.put, List.setIfInBounds_toArray, List.set_cons_zero, List.set_cons_succ]
    refine wpAnyH_take (i := 13) (oi := ({ dst := some 59, op := Op.call { callee := Callee.builtin Builtin.len, args := #[Operand.tmp 58], argTypes := #[27] }, type := 3, pos := "meta.go:46", after := #[{ on := 12, ground := Ground.data }, { on := 11, ground := Ground.guard }], guard := some (11, false) } : Oper)) (v := ?v_107) rfl (by kernel_rfl) (by kernel_rfl) (by kernel_rfl) (fun _ _ _ h => h) (Or.inl ⟨by rfl, ?hy_107⟩) (by assumption) ?rest_107
    case hy_107 => (intro w hSw; (try dsimp only at hSw); go_simp; try with_reducible rfl)
    try simp only [Act.put, List.setIfInBounds_toArray, List.set_cons_zero, List.set_cons_succ]
    refine wpAnyH_take (i := 14) (oi := ({ dst := some 60, op := Op.binOp BinOp.eql 3 (Operand.tmp 59) (Operand.const (Value.int IntKind.i64 0)) 3, type := 4, pos := "meta.go:46", after := #[{ on := 13, ground := Ground.data }, { on := 11, ground := Ground.guard }], guard := some (11, false) } : Oper)) (v := ?v_108) rfl (by kernel_rfl) (by kernel_rfl) (by kernel_rfl) (fun _ _ _ h => h) (Or.inl ⟨by rfl, ?hy_108⟩) (by assumption) ?rest_108
    case hy_108 => (intro w hSw; (try dsimp only at hSw); go_simp; try with_reducible rfl)
    try simp only [Act.put, List.setIfInBounds_toArray, List.set_cons_zero, List.set_cons_succ]
    refine wpAnyH_take (i := 15) (oi := ({ dst := some 61, op := Op.pick (Operand.tmp 57) (Operand.const (Value.bool true)) (Operand.tmp 60), type := 4, pos := "meta.go:46", after := #[{ on := 11, ground := Ground.data }, { on := 14, ground := Ground.data }], guard := none } : Oper)) (v := ?v_109) rfl (by kernel_rfl) (by kernel_rfl) (by kernel_rfl) (fun _ _ _ h => h) (Or.inl ⟨by rfl, ?hy_109⟩) (by assumption) ?rest_109
    case hy_109 => (intro w hSw; (try dsimp only at hSw); go_simp; try with_reducible rfl)
    try simp only [Act.put, List.setIfInBounds_toArray, List.set_cons_zero, List.set_cons_succ]
    refine wpAnyH_take (i := 16) (oi := ({ dst := some 62, op := Op.move (Operand.tmp 61), type := 4, pos := "meta.go:46", after := #[{ on := 15, ground := Ground.data }, { on := 11, ground := Ground.chain }], guard := none } : Oper)) (v := ?v_110) rfl (by kernel_rfl) (by kernel_rfl) (by kernel_rfl) (fun _ _ _ h => h) (Or.inl ⟨by rfl, ?hy_110⟩) (by assumption) ?rest_110
    case hy_110 => (intro w hSw; (try dsimp only at hSw); go_simp; try with_reducible rfl)
    try simp only [Act.put, List.setIfInBounds_toArray, List.set_cons_zero, List.set_cons_succ]
    refine wpAnyH_take (i := 17) (oi := ({ dst := some 63, op := Op.move (Operand.tmp 7), type := 27, pos := "meta.go:46", after := #[{ on := 16, ground := Ground.guard }], guard := some (16, false) } : Oper)) (v := ?v_111) rfl (by kernel_rfl) (by kernel_rfl) (by kernel_rfl) (fun _ _ _ h => h) (Or.inl ⟨by rfl, ?hy_111⟩) (by assumption) ?rest_111
    case hy_111 => (intro w hSw; (try dsimp only at hSw); go_simp; try with_reducible rfl)
    try simp only [Act.put, List.setIfInBounds_toArray, List.set_cons_zero, List.set_cons_succ]
    refine wpAnyH_take (i := 18) (oi := ({ dst := some 64, op := Op.indexAddr 27 (Operand.tmp 63) (Operand.const (Value.int IntKind.i64 0)), type := 0, pos := "meta.go:46", after := #[{ on := 17, ground := Ground.data }, { on := 16, ground := Ground.guard }], guard := some (16, false) } : Oper)) (v := ?v_112) rfl (by kernel_rfl) (by kernel_rfl) (by kernel_rfl) (fun _ _ _ h => h) (Or.inl ⟨by rfl, ?hy_112⟩) (by assumption) ?rest_112
    case hy_112 => (intro w hSw; (try dsimp only at hSw); go_simp; try with_reducible rfl)
    try simp only [Act.put, List.setIfInBounds_toArray, List.set_cons_zero, List.set_cons_succ]
    refine wpAnyH_take (i := 19) (oi := ({ dst := some 65, op := Op.load 9 (Operand.tmp 64), type := 9, pos := "meta.go:46", after := #[{ on := 18, ground := Ground.data }, { on := 16, ground := Ground.guard }], guard := some (16, false) } : Oper)) (v := ?v_113) rfl (by kernel_rfl) (by kernel_rfl) (by kernel_rfl) (fun _ _ _ h => h) (Or.inl ⟨by rfl, ?hy_113⟩) (by assumption) ?rest_113
    case hy_113 => (intro w hSw; (try dsimp only at hSw); go_simp; try with_reducible rfl)
    try simp only [Act.put, List.setIfInBounds_toArray, List.set_cons_zero, List.set_cons_succ]
    refine wpAnyH_take (i := 20) (oi := ({ dst := some 66, op := Op.move (Operand.tmp 2), type := 33, pos := "meta.go:46", after := #[{ on := 16, ground := Ground.guard }], guard := some (16, false) } : Oper)) (v := ?v_114) rfl (by kernel_rfl) (by kernel_rfl) (by kernel_rfl) (fun _ _ _ h => h) (Or.inl ⟨by rfl, ?hy_114⟩) (by assumption) ?rest_114
    case hy_114 => (intro w hSw; (try dsimp only at hSw); go_simp; try with_reducible rfl)
    try simp only [Act.put, List.setIfInBounds_toArray, List.set_cons_zero, List.set_cons_succ]
    refine wpAnyH_take (i := 21) (oi := ({ dst := some 67, op := Op.indexAddr 33 (Operand.tmp 66) (Operand.const (Value.int IntKind.i64 0)), type := 0, pos := "meta.go:46", after := #[{ on := 20, ground := Ground.data }, { on := 16, ground := Ground.guard }], guard := some (16, false) } : Oper)) (v := ?v_115) rfl (by kernel_rfl) (by kernel_rfl) (by kernel_rfl) (fun _ _ _ h => h) (Or.inl ⟨by rfl, ?hy_115⟩) (by assumption) ?rest_115
    case hy_115 => (intro w hSw; (try dsimp only at hSw); go_simp; try with_reducible rfl)
    try simp only [Act.put, List.setIfInBounds_toArray, List.set_cons_zero, List.set_cons_succ]
    refine wpAnyH_take (i := 22) (oi := ({ dst := some 68, op := Op.fieldAddr 86 (Operand.tmp 67) 1, type := 0, pos := "meta.go:46", after := #[{ on := 21, ground := Ground.data }, { on := 16, ground := Ground.guard }], guard := some (16, false) } : Oper)) (v := ?v_116) rfl (by kernel_rfl) (by kernel_rfl) (by kernel_rfl) (fun _ _ _ h => h) (Or.inl ⟨by rfl, ?hy_116⟩) (by assumption) ?rest_116
    case hy_116 => (intro w hSw; (try dsimp only at hSw); go_simp; try with_reducible rfl)
    try simp only [Act.put, List.setIfInBounds_toArray, List.set_cons_zero, List.set_cons_succ]
    refine wpAnyH_take (i := 23) (oi := ({ dst := some 69, op := Op.load 29 (Operand.tmp 68), type := 29, pos := "meta.go:46", after := #[{ on := 22, ground := Ground.data }, { on := 16, ground := Ground.guard }], guard := some (16, false) } : Oper)) (v := ?v_117) rfl (by kernel_rfl) (by kernel_rfl) (by kernel_rfl) (fun _ _ _ h => h) (Or.inl ⟨by rfl, ?hy_117⟩) (by assumption) ?rest_117
    case hy_117 => (intro w hSw; (try dsimp only at hSw); go_simp; try with_reducible rfl)
    try simp only [Act.put, List.setIfInBounds_toArray, List.set_cons_zero, List.set_cons_succ]
    refine wpAnyH_take (i := 24) (oi := ({ dst := some 70, op := Op.call { callee := Callee.builtin Builtin.len, args := #[Operand.tmp 69], argTypes := #[29] }, type := 3, pos := "meta.go:46", after := #[{ on := 23, ground := Ground.data }, { on := 16, ground := Ground.guard }], guard := some (16, false) } : Oper)) (v := ?v_118) rfl (by kernel_rfl) (by kernel_rfl) (by kernel_rfl) (fun _ _ _ h => h) (Or.inl ⟨by rfl, ?hy_118⟩) (by assumption) ?rest_118
    case hy_118 => (intro w hSw; (try dsimp only at hSw); go_simp; try with_reducible rfl)
    try simp only [Act.put, List.setIfInBounds_toArray, List.set_cons_zero, List.set_cons_succ]
    refine wpAnyH_ready (rs := [25]) (by kernel_rfl) (by simp) ?_
    refine AllReadyH.cons (o := ({ dst := some 71, op := Op.call { callee := Callee.value (Operand.func 47), args := #[Operand.tmp 70], argTypes := #[3] }, type := 9, pos := "meta.go:46", after := #[{ on := 24, ground := Ground.data }, { on := 16, ground := Ground.chain }, { on := 16, ground := Ground.guard }], guard := some (16, false) } : Oper)) rfl (fun K' hK' => ?_) AllReadyH.nil
    go_simp
    (go_at_call 47; refine (HIT2.out _ HB2.out.drew).mono ?_; rintro e w5 ⟨rfl, hb5⟩; have HB5 := Lib.hid (HB2.out.drew.trans (hb5.mono HB2.out.size)); have HB15 := Lib.hid (HB12.out.drew.trans (hb5.mono HB12.out.size)); clear hb5)
    refine hK'.out _ _ (by first | exact ⟨HK.out _ HB2.out, HK1.out _ HB12.out⟩ | exact ⟨HK.out _ HB2.out.drew, HK1.out _ HB12.out.drew⟩ | exact ⟨HK.out _ HB5.out, HK1.out _ HB15.out⟩) (fun hHeld1 => ?_)
    clear hK' K' hHeld
    try simp only [Act.put, List.setIfInBounds_toArray, List.set_cons_zero, List.set_cons_succ]
    refine wpAnyH_take (i := 26) (oi := ({ dst := some 72, op := Op.binOp BinOp.neq 9 (Operand.tmp 65) (Operand.tmp 71) 9, type := 4, pos := "meta.go:46", after := #[{ on := 19, ground := Ground.data }, { on := 25, ground := Ground.data }, { on := 16, ground := Ground.guard }], guard := some (16, false) } : Oper)) (v := ?v_119) rfl (by kernel_rfl) (by kernel_rfl) (by kernel_rfl) (fun _ _ _ h => h) (Or.inl ⟨by rfl, ?hy_119⟩) (by assumption) ?rest_119
    case hy_119 => (intro w hSw; (try dsimp only at hSw); go_simp; try with_reducible rfl)
    try simp only [Act.put, List.setIfInBounds_toArray, List.set_cons_zero, List.set_cons_succ]
    refine wpAnyH_take (i := 27) (oi := ({ dst := some 73, op := Op.pick (Operand.tmp 62) (Operand.const (Value.bool true)) (Operand.tmp 72), type := 4, pos := "meta.go:46", after := #[{ on := 16, ground := Ground.data }, { on := 26, ground := Ground.data }], guard := none } : Oper)) (v := ?v_120) rfl (by kernel_rfl) (by kernel_rfl) (by kernel_rfl) (fun _ _ _ h => h) (Or.inl ⟨by rfl, ?hy_120⟩) (by assumption) ?rest_120
    case hy_120 => (intro w hSw; (try dsimp only at hSw); go_simp; try with_reducible rfl)
    try simp only [Act.put, List.setIfInBounds_toArray, List.set_cons_zero, List.set_cons_succ]
    refine wpAnyH_done (by kernel_rfl) ?_ _
    go_wp2_with fail
    rw [← HR.out, HBF.out]
    exact ⟨rfl, HB5.out⟩
end Go.Proofs.YtnbeeehfapjpdaaGreatDoor
