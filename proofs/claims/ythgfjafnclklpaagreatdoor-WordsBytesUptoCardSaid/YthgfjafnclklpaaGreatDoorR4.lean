/- Walk of the document's reading of lines: Flags. -/
import Derived.Test.YthgfjafnclklpaaGreatDoorR3
import Derived.Test.YthgfjafnclklpaaGreatDoorG2
import Derived.Deep.QuietTactic
import Derived.BigQuiet
import Derived.Deep.CutRange
import Derived.Deep.DeepCutAuto
namespace Go.Proofs.YthgfjafnclklpaaGreatDoor
attribute [local go_sem ↓] Go.wp_at_zero Go.wp_at_succ
open Go.RowKit

/-- what the document says of one flag -/
def flagWord (a b d p q : Bool) : Sp.Bs :=
  if (!a && !b) = true then Sp.invalidFlag else if d = true then Sp.twiceFlag else if p = true then Sp.opaqueLong else if q = true then Sp.badToken else []

theorem below_one (w : World) (o : Obj) : Below w.heap.size w (w.alloc o) := (Below.refl _ w).alloc (Nat.le_refl _) o
theorem below_drew2 {B : Nat} {a w : World} (h : Below B a w) (n : Nat) : Below B a (w.drewN n) := ⟨h.os, h.tape, h.output, h.size, h.block⟩

set_option maxHeartbeats 4000000 in
set_option maxRecDepth 100000 in
theorem refFlags_any (v : Nat) (l : List Sp.FlagV) (A : Option Addr) (cap : Nat) (w : World)
    (hA : RowAt w A (flagsCells l)) (hn : l.length ≤ 4611686018427387904) (hl : ∀ f ∈ l, f.arg.length ≤ 4611686018427387904) :
    Calls Tryz.prog 79 #[.int .i64 v, .slice A l.length cap] w fun e w' => e = .returned (str (Sp.flagsOf v l)) ∧ Below w.heap.size w w' := by
  unfold Sp.flagsOf
  have h0 : Sp.flagsGo v [] l = Sp.flagsGo v (l.take 0) (l.drop 0) := by simp
  generalize Sp.flagsGo v [] l = R at h0 ⊢
  obtain ⟨al, hal⟩ : ∃ al, al = Sp.alone v := ⟨_, rfl⟩
  obtain ⟨wi, hwi⟩ : ∃ wi, wi = Sp.withs v := ⟨_, rfl⟩
  have hfo := fun W : World => refFlagsOf_any v W
  rw [← hal, ← hwi] at hfo
  have hll : al.length ≤ 4611686018427387904 ∧ wi.length ≤ 4611686018427387904 := by
    rw [hal, hwi]
    unfold Sp.alone Sp.withs
    constructor <;> (repeat' split) <;> decide
  have HFO := Lib.hid hfo
  have HLL := Lib.hid hll
  have HA := Lib.hid hA
  have HL := Lib.hid hl
  have H0 := Lib.hid h0
  have HAL := Lib.hid hal
  have HWI := Lib.hid hwi
  clear hA hl h0 hfo hll hal hwi
  go_enter Tryz.func79, Tryz.ntmps79
  go_wp2_with (refine (HFO.out _).mono ?_; rintro e w' ⟨rfl, rfl⟩)
  go_loopw [7] (fun i wr => ∃ k : Nat, k ≤ l.length ∧ i = .int .i64 k ∧ Below w.heap.size w wr ∧ Hid (R = Sp.flagsGo v (l.take k) (l.drop k))) (fun i _ => l.length - (intOf i).toNat)
  case atStart => exact ⟨0, by omega, rfl, Below.refl _ _, H0.out⟩
  case round =>
    obtain ⟨k, hk, rfl, hbr, hR⟩ := hrel
    by_cases hlt : k < l.length
    · obtain ⟨wo, rfl⟩ : ∃ wo, wo = wr := ⟨wr, rfl⟩
      obtain ⟨f, hf⟩ : ∃ f, l[k]? = some f := ⟨l[k], by simp [hlt]⟩
      have hrow := HA.out.below hbr
      obtain ⟨b, o, rfl, hb, x0, x1, x2⟩ := hrow.flag hf
      have hstep := flagsGo_step v l k f hf
      rw [flagOf_same, ← HAL.out, ← HWI.out] at hstep
      have harg := HL.out f (List.mem_of_getElem? hf)
      have hbe := fun W : World => refBehind_any v f W harg
      obtain ⟨x, arg, has⟩ := f
      dsimp only at hstep x0 x1 x2 harg hbe
      have hany : ∀ m, (∀ j, j < m → ∀ g, l[j]? = some g → g.letter ≠ x) → m = k → (l.take k).any (fun y => y.letter == x) = false := fun m h hm => by
        subst hm
        rw [List.any_eq_false]
        intro y hy
        obtain ⟨j, hj, e⟩ := List.mem_take_iff_getElem.1 hy
        have hjm : j < m := by omega
        have := h j hjm y (by rw [List.getElem?_eq_getElem (by omega), e])
        simpa using this
      have hanyt : ∀ j g, j < k → l[j]? = some g → g.letter = x → (l.take k).any (fun y => y.letter == x) = true := fun j g hj hg he => by
        rw [List.any_eq_true]
        refine ⟨g, ?_, by simpa using he⟩
        obtain ⟨h1, h2⟩ := List.getElem?_eq_some_iff.1 hg
        exact List.mem_take_iff_getElem.2 ⟨j, by omega, h2⟩
      obtain ⟨d, hd⟩ : ∃ d, d = (l.take k).any (fun y => y.letter == x) := ⟨_, rfl⟩
      rw [← hd] at hstep hanyt hany
      obtain ⟨a, ha⟩ : ∃ a, al.contains x = a := ⟨_, rfl⟩
      obtain ⟨c, hc⟩ : ∃ c, wi.contains x = c := ⟨_, rfl⟩
      rw [ha, hc] at hstep
      generalize behindR v ⟨x, arg, has⟩ = β at *
      obtain ⟨p, hp⟩ : ∃ p, p = (x == 79 && (arg.isEmpty || decide (32 < arg.length))) := ⟨_, rfl⟩
      obtain ⟨q, hq⟩ : ∃ q, q = ((has != !arg.isEmpty) || (a && has) || (c && !β)) := ⟨_, rfl⟩
      rw [← hp, ← hq] at hstep
      have hs := hR.out.trans hstep
      have g1 : (!a && !c) = true → R = Sp.invalidFlag := fun h => by rw [hs, if_pos h]; rfl
      have g2 : (!a && !c) = false → d = true → R = Sp.twiceFlag := fun h h2 => by rw [hs, h, h2]; rfl
      have g3 : (!a && !c) = false → d = false → p = true → R = Sp.opaqueLong := fun h h2 h3 => by rw [hs, h, h2, h3]; rfl
      have g4 : (!a && !c) = false → d = false → p = false → q = true → R = Sp.badToken := fun h h2 h3 h4 => by rw [hs, h, h2, h3, h4]; rfl
      have g5 : (!a && !c) = false → d = false → p = false → q = false → R = Sp.flagsGo v (l.take (k + 1)) (l.drop (k + 1)) := fun h h2 h3 h4 => by rw [hs, h, h2, h3, h4]; rfl
      have HANY := Lib.hid hany
      have HANYT := Lib.hid hanyt
      have G1 := Lib.hid g1
      have G2 := Lib.hid g2
      have G3 := Lib.hid g3
      have G4 := Lib.hid g4
      have G5 := Lib.hid g5
      have HP := Lib.hid hp
      have HQ := Lib.hid hq
      have hhx : ∀ (s : Sp.Bs) (W : World), s.length ≤ 4611686018427387904 → Calls Tryz.prog 121 #[str s, .int .u8 x.toNat] W fun e w' => e = .returned (.bool (s.contains x)) ∧ W = w' := fun s W h => refHolds_any s x W h
      have HHX := Lib.hid hhx
      have HAC := Lib.hid ha
      have HCC := Lib.hid hc
      have HBE := Lib.hid hbe
      have HROW := Lib.hid hrow
      have HBR := Lib.hid hbr
      have hsz := str_size arg
      clear hany hanyt g1 g2 g3 g4 g5 hp hq hhx ha hc hbe hrow hbr hs hstep hR hd hf
      go_upto_region 5 with fail
      go_cut [8] (fun pv wx => pv = .pointer (some ⟨wo.heap.size, 0, none⟩) ∧ Blk wx wo.heap.size 94 (flagCells ⟨x, arg, has⟩).toArray ∧ Below wo.heap.size wo wx)
      case first =>
        go_wp2_with fail
        go_meet
        exact ⟨rfl, Blk.new _ _ _, below_one _ _⟩
      case rest =>
        obtain ⟨rfl, hblk, hbx⟩ := hcut
        have z0 : wc.cell? ⟨wo.heap.size, 0, none⟩ = some (.int .u8 x.toNat) := hblk.cell 0
        have hbc := HBR.out.trans (hbx.mono HBR.out.size)
        have HBLK := Lib.hid hblk
        have HBX := Lib.hid hbx
        have HBC := Lib.hid hbc
        clear hblk hbx hbc x0 x1 x2
        go_upto_region 6 with fail
        go_cut [36] (fun r wx => r = .bool (!a && !c) ∧ wx = wc)
        case first =>
          cases a <;> cases c
          all_goals
            go_wp2_with (refine (HHX.out _ _ (by first | exact HLL.out.1 | exact HLL.out.2)).mono ?_; rintro e w' ⟨rfl, rfl⟩; first | rw [HAC.out] | rw [HCC.out])
            go_meet
            exact ⟨rfl, rfl⟩
        case rest =>
          obtain ⟨rfl, rfl⟩ := hcut
          cases hac : (!a && !c) with
          | true =>
            have he := G1.out hac
            have HE := Lib.hid he
            clear he
            go_wp2_with fail
            go_ret
            exact ⟨by rw [HE.out]; rfl, HBC.out⟩
          | false =>
            clear z0
            go_wp2_with fail
            go_loopw [9] (fun mv wx => (∃ m : Nat, m ≤ k ∧ mv = .int .i64 m ∧ ∀ j, j < m → ∀ g, l[j]? = some g → g.letter ≠ x) ∧ Below wc.heap.size wc wx) (fun mv _ => k - (intOf mv).toNat)
            case atStart => exact ⟨⟨0, Nat.zero_le _, rfl, fun j h => by omega⟩, Below.refl _ _⟩
            case round =>
              obtain ⟨⟨m, hm, rfl, hno⟩, hb2⟩ := hrel
              have z0 : wr.cell? ⟨wo.heap.size, 0, none⟩ = some (.int .u8 x.toNat) := (HBLK.out.later hb2).cell 0
              have hbw := HBC.out.trans (hb2.mono HBC.out.size)
              have HNO := Lib.hid hno
              have HB2 := Lib.hid hb2
              have HBW := Lib.hid hbw
              clear hno hb2 hbw
              by_cases hlt2 : m < k
              · obtain ⟨gf, hgf⟩ : ∃ g, l[m]? = some g := ⟨l[m]'(by omega), List.getElem?_eq_getElem _⟩
                obtain ⟨b2, o2, hA2, _, y0, _, _⟩ := ((HROW.out.below HBX.out).below HB2.out).flag hgf
                injection hA2 with hA2
                injection hA2 with e1 e2
                subst e1
                subst e2
                obtain ⟨y, hy⟩ : ∃ y, y = gf.letter := ⟨_, rfl⟩
                rw [← hy] at y0
                have hml : (m : Int) < (l.length : Int) := by omega
                by_cases he : y = x
                · have hd := HANYT.out m gf hlt2 hgf (by rw [← hy]; exact he)
                  have hR := G2.out hac hd
                  have HE := Lib.hid hR
                  subst he
                  clear hR hd hgf hy
                  go_wp2_with fail
                  go_quiet (fail)
                  go_wp2_with fail
                  go_ret
                  exact ⟨by rw [HE.out]; rfl, below_drew2 HBW.out _⟩
                · have hne : ((y.toNat : Int) == (x.toNat : Int)) = false := by
                    rw [beq_eq_false_iff_ne]
                    intro h
                    exact he (UInt8.toNat_inj.1 (by omega))
                  have hno2 : ∀ j, j < m + 1 → ∀ g, l[j]? = some g → g.letter ≠ x := fun j hj g hg => by
                    rcases Nat.lt_succ_iff_lt_or_eq.1 hj with h | h
                    · exact HNO.out j h g hg
                    · rw [h, hgf] at hg
                      injection hg with hg
                      rw [← hg, ← hy]
                      exact he
                  have HNO2 := Lib.hid hno2
                  clear he hgf hy hno2
                  go_wp2_with fail
                  go_quiet (fail)
                  go_wp2_with fail
                  exact ⟨⟨⟨m + 1, by omega, by go_num, HNO2.out⟩, below_drew2 HB2.out _⟩, by show k - ((m : Int) + 1).toNat < k - (m : Int).toNat; omega⟩
              · have hd : d = false := HANY.out m HNO.out (by omega)
                have z1 : wr.cell? ⟨wo.heap.size, 1, none⟩ = some (str arg) := (HBLK.out.later HB2.out).cell 1
                have z2 : wr.cell? ⟨wo.heap.size, 2, none⟩ = some (.bool has) := (HBLK.out.later HB2.out).cell 2
                have hmk : decide ((m : Int) < (k : Int)) = false := decide_eq_false (by omega)
                go_upto_region 13 with fail
                go_cut [64] (fun r wx => r = .bool p ∧ wx = wr)
                case first =>
                  by_cases hx : x = 79
                  · have hpp : p = (arg.isEmpty || decide (32 < arg.length)) := by rw [HP.out, hx]; rfl
                    rw [hx] at z0
                    by_cases ha0 : arg = []
                    · rw [ha0] at hpp z1
                      have HPP := Lib.hid hpp
                      clear hpp hx ha0
                      go_wp2_with fail
                      go_meet
                      exact ⟨congrArg Value.bool HPP.out.symm, rfl⟩
                    · have hl0 : 0 < arg.length := List.length_pos_iff.2 ha0
                      have h0 : ((arg.length : Int) == 0) = false := by rw [beq_eq_false_iff_ne]; omega
                      have hpp2 : decide ((32 : Int) < (arg.length : Int)) = p := by
                        rw [hpp, List.isEmpty_eq_false_iff.2 ha0, Bool.false_or, Bool.eq_iff_iff, decide_eq_true_eq, decide_eq_true_eq]
                        omega
                      have HPP := Lib.hid hpp2
                      clear hpp hpp2 hx ha0
                      go_wp2_with fail
                      go_meet
                      exact ⟨congrArg Value.bool HPP.out, rfl⟩
                  · have hxx : ((x.toNat : Int) == 79) = false := letter_ne fun h => hx (UInt8.toNat_inj.1 h)
                    have hpp : false = p := by
                      rw [HP.out]
                      have : (x == 79) = false := by simpa using hx
                      rw [this]; rfl
                    have HPP := Lib.hid hpp
                    clear hpp hx
                    go_wp2_with fail
                    go_meet
                    exact ⟨congrArg Value.bool HPP.out, rfl⟩
                case rest =>
                  obtain ⟨rfl, rfl⟩ := hcut
                  cases p with
                  | true =>
                    have hR := G3.out hac hd rfl
                    have HE := Lib.hid hR
                    clear hR
                    go_wp2_with fail
                    go_ret
                    exact ⟨by rw [HE.out]; rfl, HBW.out⟩
                  | false =>
                    go_upto_region 15 with fail
                    go_cut [93] (fun r wx => r = .bool q ∧ Below wc.heap.size wc wx)
                    case first =>
                      by_cases ha0 : arg = []
                      · have hqq : q = ((has != false) || (a && has) || (c && !β)) := by rw [HQ.out, ha0]; rfl
                        have HQQ := Lib.hid hqq
                        clear hqq
                        subst ha0
                        cases has <;> cases a <;> cases c
                        all_goals
                          first
                          | exact absurd hac (by decide)
                          | (go_wp2_with (first | (go_at_call 122; refine (HBE.out _).mono ?_; rintro e w' ⟨rfl, hb3⟩; have HB3 := Lib.hid hb3; clear hb3) | (refine (HHX.out _ _ (by first | exact HLL.out.1 | exact HLL.out.2)).mono ?_; rintro e w' ⟨rfl, rfl⟩; first | rw [HAC.out] | rw [HCC.out]))
                             go_meet
                             first
                             | exact ⟨congrArg Value.bool (by rw [HQQ.out]; first | rfl | (cases β <;> rfl)), Below.refl _ _⟩
                             | exact ⟨congrArg Value.bool (by rw [HQQ.out]; first | rfl | (cases β <;> rfl)), HB3.out⟩)
                      · have hl0 : 0 < arg.length := List.length_pos_iff.2 ha0
                        have hl1 : (0 : Int) < (arg.length : Int) := by omega
                        have hl2 : decide ((0 : Int) < (arg.length : Int)) = true := decide_eq_true hl1
                        have hqq : q = ((has != true) || (a && has) || (c && !β)) := by rw [HQ.out, List.isEmpty_eq_false_iff.2 ha0]; rfl
                        have HQQ := Lib.hid hqq
                        clear hqq ha0
                        cases has <;> cases a <;> cases c
                        all_goals
                          first
                          | exact absurd hac (by decide)
                          | (go_wp2_with (first | (go_at_call 122; refine (HBE.out _).mono ?_; rintro e w' ⟨rfl, hb3⟩; have HB3 := Lib.hid hb3; clear hb3) | (refine (HHX.out _ _ (by first | exact HLL.out.1 | exact HLL.out.2)).mono ?_; rintro e w' ⟨rfl, rfl⟩; first | rw [HAC.out] | rw [HCC.out]))
                             go_meet
                             first
                             | exact ⟨congrArg Value.bool (by rw [HQQ.out]; first | rfl | (cases β <;> rfl)), Below.refl _ _⟩
                             | exact ⟨congrArg Value.bool (by rw [HQQ.out]; first | rfl | (cases β <;> rfl)), HB3.out⟩)
                    case rest =>
                      obtain ⟨rfl, hb4⟩ := hcut
                      have hbf := HBW.out.trans (hb4.mono HBW.out.size)
                      have HBF := Lib.hid hbf
                      clear hbf hb4
                      cases q with
                      | true =>
                        have hR := G4.out hac hd rfl rfl
                        have HE := Lib.hid hR
                        clear hR
                        go_wp2_with fail
                        go_ret
                        exact ⟨by rw [HE.out]; rfl, HBF.out⟩
                      | false =>
                        have hR := G5.out hac hd rfl rfl
                        have HE := Lib.hid hR
                        clear hR z0 z1 z2
                        go_wp2_with fail
                        exact ⟨⟨k + 1, by omega, by go_num, HBF.out, HE⟩, by show l.length - ((k : Int) + 1).toNat < l.length - (k : Int).toNat; omega⟩
    · obtain rfl : k = l.length := by omega
      have hRn : R = [] := by have := hR.out; rw [List.drop_length] at this; exact this
      have HRn := Lib.hid hRn
      clear hRn
      go_wp2
      go_ret
      exact ⟨by rw [HRn.out]; rfl, hbr⟩
end Go.Proofs.YthgfjafnclklpaaGreatDoor
