/- Walk of the document's reading of lines: Flags. Walk of the document's word: a flag. The document's word, whatever the letter. Walk of the document's Line: where it is refused at once. Plain laws for the loop of the document's Line. No program in sight. What the loop of the document's Line keeps. -/
import Derived.Test.YthgfjafnclklpaaGreatDoorR3
import Derived.Test.YthgfjafnclklpaaGreatDoorG2
import Derived.Deep.QuietTactic
import Derived.BigQuiet
import Derived.Deep.CutRange
import Derived.Deep.DeepCutAuto
import Derived.Test.YthgfjafnclklpaaGreatDoorQ32
import Derived.Test.YthgfjafnclklpaaGreatDoorW9
import Derived.Test.YthgfjafnclklpaaGreatDoorPj
section
namespace Go.Proofs.YthgfjafnclklpaaGreatDoor
attribute [local go_sem ↓] Go.wp_at_zero Go.wp_at_succ
open Go.RowKit

/-- what the document says of one flag -/
def flagWord (a b d p q : Bool) : Sp.Bs :=
  if (!a && !b) = true then Sp.invalidFlag else if d = true then Sp.twiceFlag else if p = true then Sp.opaqueLong else if q = true then Sp.badToken else []

theorem below_one (w : World) (o : Obj) : Below w.heap.size w (w.alloc o) := (Below.refl _ w).alloc (Nat.le_refl _) o
theorem below_drew2 {B : Nat} {a w : World} (h : Below B a w) (n : Nat) : Below B a (w.drewN n) := ⟨h.os, h.tape, h.output, h.size, h.block⟩

set_option maxHeartbeats 4000000 in
set_option maxRecDepth 100000 in
theorem refFlags_any (v : Nat) (l : List Sp.FlagV) (A : Option Addr) (cap : Nat) (w : World)
    (hA : RowAt w A (flagsCells l)) (hn : l.length ≤ 4611686018427387904) (hl : ∀ f ∈ l, f.arg.length ≤ 4611686018427387904) :
    Calls Tryz.prog 79 #[.int .i64 v, .slice A l.length cap] w fun e w' => e = .returned (str (Sp.flagsOf v l)) ∧ Below w.heap.size w w' := by
  unfold Sp.flagsOf
  have h0 : Sp.flagsGo v [] l = Sp.flagsGo v (l.take 0) (l.drop 0) := by simp
  generalize Sp.flagsGo v [] l = R at h0 ⊢
  obtain ⟨al, hal⟩ : ∃ al, al = Sp.alone v := ⟨_, rfl⟩
  obtain ⟨wi, hwi⟩ : ∃ wi, wi = Sp.withs v := ⟨_, rfl⟩
  have hfo := fun W : World => refFlagsOf_any v W
  rw [← hal, ← hwi] at hfo
  have hll : al.length ≤ 4611686018427387904 ∧ wi.length ≤ 4611686018427387904 := by
    rw [hal, hwi]
    unfold Sp.alone Sp.withs
    constructor <;> (repeat' split) <;> decide
  have HFO := Lib.hid hfo
  have HLL := Lib.hid hll
  have HA := Lib.hid hA
  have HL := Lib.hid hl
  have H0 := Lib.hid h0
  have HAL := Lib.hid hal
  have HWI := Lib.hid hwi
  clear hA hl h0 hfo hll hal hwi
  go_enter Tryz.func79, Tryz.ntmps79
  go_wp2_with (refine (HFO.out _).mono ?_; rintro e w' ⟨rfl, rfl⟩)
  go_loopw [7] (fun i wr => ∃ k : Nat, k ≤ l.length ∧ i = .int .i64 k ∧ Below w.heap.size w wr ∧ Hid (R = Sp.flagsGo v (l.take k) (l.drop k))) (fun i _ => l.length - (intOf i).toNat)
  case atStart => exact ⟨0, by omega, rfl, Below.refl _ _, H0.out⟩
  case round =>
    obtain ⟨k, hk, rfl, hbr, hR⟩ := hrel
    by_cases hlt : k < l.length
    · obtain ⟨wo, rfl⟩ : ∃ wo, wo = wr := ⟨wr, rfl⟩
      obtain ⟨f, hf⟩ : ∃ f, l[k]? = some f := ⟨l[k], by simp [hlt]⟩
      have hrow := HA.out.below hbr
      obtain ⟨b, o, rfl, hb, x0, x1, x2⟩ := hrow.flag hf
      have hstep := flagsGo_step v l k f hf
      rw [flagOf_same, ← HAL.out, ← HWI.out] at hstep
      have harg := HL.out f (List.mem_of_getElem? hf)
      have hbe := fun W : World => refBehind_any v f W harg
      obtain ⟨x, arg, has⟩ := f
      dsimp only at hstep x0 x1 x2 harg hbe
      have hany : ∀ m, (∀ j, j < m → ∀ g, l[j]? = some g → g.letter ≠ x) → m = k → (l.take k).any (fun y => y.letter == x) = false := fun m h hm => by
        subst hm
        rw [List.any_eq_false]
        intro y hy
        obtain ⟨j, hj, e⟩ := List.mem_take_iff_getElem.1 hy
        have hjm : j < m := by omega
        have := h j hjm y (by rw [List.getElem?_eq_getElem (by omega), e])
        simpa using this
      have hanyt : ∀ j g, j < k → l[j]? = some g → g.letter = x → (l.take k).any (fun y => y.letter == x) = true := fun j g hj hg he => by
        rw [List.any_eq_true]
        refine ⟨g, ?_, by simpa using he⟩
        obtain ⟨h1, h2⟩ := List.getElem?_eq_some_iff.1 hg
        exact List.mem_take_iff_getElem.2 ⟨j, by omega, h2⟩
      obtain ⟨d, hd⟩ : ∃ d, d = (l.take k).any (fun y => y.letter == x) := ⟨_, rfl⟩
      rw [← hd] at hstep hanyt hany
      obtain ⟨a, ha⟩ : ∃ a, al.contains x = a := ⟨_, rfl⟩
      obtain ⟨c, hc⟩ : ∃ c, wi.contains x = c := ⟨_, rfl⟩
      rw [ha, hc] at hstep
      generalize behindR v ⟨x, arg, has⟩ = β at *
      obtain ⟨p, hp⟩ : ∃ p, p = (x == 79 && (arg.isEmpty || decide (32 < arg.length))) := ⟨_, rfl⟩
      obtain ⟨q, hq⟩ : ∃ q, q = ((has != !arg.isEmpty) || (a && has) || (c && !β)) := ⟨_, rfl⟩
      rw [← hp, ← hq] at hstep
      have hs := hR.out.trans hstep
      have g1 : (!a && !c) = true → R = Sp.invalidFlag := fun h => by rw [hs, if_pos h]; rfl
      have g2 : (!a && !c) = false → d = true → R = Sp.twiceFlag := fun h h2 => by rw [hs, h, h2]; rfl
      have g3 : (!a && !c) = false → d = false → p = true → R = Sp.opaqueLong := fun h h2 h3 => by rw [hs, h, h2, h3]; rfl
      have g4 : (!a && !c) = false → d = false → p = false → q = true → R = Sp.badToken := fun h h2 h3 h4 => by rw [hs, h, h2, h3, h4]; rfl
      have g5 : (!a && !c) = false → d = false → p = false → q = false → R = Sp.flagsGo v (l.take (k + 1)) (l.drop (k + 1)) := fun h h2 h3 h4 => by rw [hs, h, h2, h3, h4]; rfl
      have HANY := Lib.hid hany
      have HANYT := Lib.hid hanyt
      have G1 := Lib.hid g1
      have G2 := Lib.hid g2
      have G3 := Lib.hid g3
      have G4 := Lib.hid g4
      have G5 := Lib.hid g5
      have HP := Lib.hid hp
      have HQ := Lib.hid hq
      have hhx : ∀ (s : Sp.Bs) (W : World), s.length ≤ 4611686018427387904 → Calls Tryz.prog 121 #[str s, .int .u8 x.toNat] W fun e w' => e = .returned (.bool (s.contains x)) ∧ W = w' := fun s W h => refHolds_any s x W h
      have HHX := Lib.hid hhx
      have HAC := Lib.hid ha
      have HCC := Lib.hid hc
      have HBE := Lib.hid hbe
      have HROW := Lib.hid hrow
      have HBR := Lib.hid hbr
      have hsz := str_size arg
      clear hany hanyt g1 g2 g3 g4 g5 hp hq hhx ha hc hbe hrow hbr hs hstep hR hd hf
      go_upto_region 5 with fail
      go_cut [8] (fun pv wx => pv = .pointer (some ⟨wo.heap.size, 0, none⟩) ∧ Blk wx wo.heap.size 94 (flagCells ⟨x, arg, has⟩).toArray ∧ Below wo.heap.size wo wx)
      case first =>
        go_wp2_with fail
        go_meet
        exact ⟨rfl, Blk.new _ _ _, below_one _ _⟩
      case rest =>
        obtain ⟨rfl, hblk, hbx⟩ := hcut
        have z0 : wc.cell? ⟨wo.heap.size, 0, none⟩ = some (.int .u8 x.toNat) := hblk.cell 0
        have hbc := HBR.out.trans (hbx.mono HBR.out.size)
        have HBLK := Lib.hid hblk
        have HBX := Lib.hid hbx
        have HBC := Lib.hid hbc
        clear hblk hbx hbc x0 x1 x2
        go_upto_region 6 with fail
        go_cut [36] (fun r wx => r = .bool (!a && !c) ∧ wx = wc)
        case first =>
          cases a <;> cases c
          all_goals
            go_wp2_with (refine (HHX.out _ _ (by first | exact HLL.out.1 | exact HLL.out.2)).mono ?_; rintro e w' ⟨rfl, rfl⟩; first | rw [HAC.out] | rw [HCC.out])
            go_meet
            exact ⟨rfl, rfl⟩
        case rest =>
          obtain ⟨rfl, rfl⟩ := hcut
          cases hac : (!a && !c) with
          | true =>
            have he := G1.out hac
            have HE := Lib.hid he
            clear he
            go_wp2_with fail
            go_ret
            exact ⟨by rw [HE.out]; rfl, HBC.out⟩
          | false =>
            clear z0
            go_wp2_with fail
            go_loopw [9] (fun mv wx => (∃ m : Nat, m ≤ k ∧ mv = .int .i64 m ∧ ∀ j, j < m → ∀ g, l[j]? = some g → g.letter ≠ x) ∧ Below wc.heap.size wc wx) (fun mv _ => k - (intOf mv).toNat)
            case atStart => exact ⟨⟨0, Nat.zero_le _, rfl, fun j h => by omega⟩, Below.refl _ _⟩
            case round =>
              obtain ⟨⟨m, hm, rfl, hno⟩, hb2⟩ := hrel
              have z0 : wr.cell? ⟨wo.heap.size, 0, none⟩ = some (.int .u8 x.toNat) := (HBLK.out.later hb2).cell 0
              have hbw := HBC.out.trans (hb2.mono HBC.out.size)
              have HNO := Lib.hid hno
              have HB2 := Lib.hid hb2
              have HBW := Lib.hid hbw
              clear hno hb2 hbw
              by_cases hlt2 : m < k
              · obtain ⟨gf, hgf⟩ : ∃ g, l[m]? = some g := ⟨l[m]'(by omega), List.getElem?_eq_getElem _⟩
                obtain ⟨b2, o2, hA2, _, y0, _, _⟩ := ((HROW.out.below HBX.out).below HB2.out).flag hgf
                injection hA2 with hA2
                injection hA2 with e1 e2
                subst e1
                subst e2
                obtain ⟨y, hy⟩ : ∃ y, y = gf.letter := ⟨_, rfl⟩
                rw [← hy] at y0
                have hml : (m : Int) < (l.length : Int) := by omega
                by_cases he : y = x
                · have hd := HANYT.out m gf hlt2 hgf (by rw [← hy]; exact he)
                  have hR := G2.out hac hd
                  have HE := Lib.hid hR
                  subst he
                  clear hR hd hgf hy
                  go_wp2_with fail
                  go_quiet (fail)
                  go_wp2_with fail
                  go_ret
                  exact ⟨by rw [HE.out]; rfl, below_drew2 HBW.out _⟩
                · have hne : ((y.toNat : Int) == (x.toNat : Int)) = false := by
                    rw [beq_eq_false_iff_ne]
                    intro h
                    exact he (UInt8.toNat_inj.1 (by omega))
                  have hno2 : ∀ j, j < m + 1 → ∀ g, l[j]? = some g → g.letter ≠ x := fun j hj g hg => by
                    rcases Nat.lt_succ_iff_lt_or_eq.1 hj with h | h
                    · exact HNO.out j h g hg
                    · rw [h, hgf] at hg
                      injection hg with hg
                      rw [← hg, ← hy]
                      exact he
                  have HNO2 := Lib.hid hno2
                  clear he hgf hy hno2
                  go_wp2_with fail
                  go_quiet (fail)
                  go_wp2_with fail
                  exact ⟨⟨⟨m + 1, by omega, by go_num, HNO2.out⟩, below_drew2 HB2.out _⟩, by show k - ((m : Int) + 1).toNat < k - (m : Int).toNat; omega⟩
              · have hd : d = false := HANY.out m HNO.out (by omega)
                have z1 : wr.cell? ⟨wo.heap.size, 1, none⟩ = some (str arg) := (HBLK.out.later HB2.out).cell 1
                have z2 : wr.cell? ⟨wo.heap.size, 2, none⟩ = some (.bool has) := (HBLK.out.later HB2.out).cell 2
                have hmk : decide ((m : Int) < (k : Int)) = false := decide_eq_false (by omega)
                go_upto_region 13 with fail
                go_cut [64] (fun r wx => r = .bool p ∧ wx = wr)
                case first =>
                  by_cases hx : x = 79
                  · have hpp : p = (arg.isEmpty || decide (32 < arg.length)) := by rw [HP.out, hx]; rfl
                    rw [hx] at z0
                    by_cases ha0 : arg = []
                    · rw [ha0] at hpp z1
                      have HPP := Lib.hid hpp
                      clear hpp hx ha0
                      go_wp2_with fail
                      go_meet
                      exact ⟨congrArg Value.bool HPP.out.symm, rfl⟩
                    · have hl0 : 0 < arg.length := List.length_pos_iff.2 ha0
                      have h0 : ((arg.length : Int) == 0) = false := by rw [beq_eq_false_iff_ne]; omega
                      have hpp2 : decide ((32 : Int) < (arg.length : Int)) = p := by
                        rw [hpp, List.isEmpty_eq_false_iff.2 ha0, Bool.false_or, Bool.eq_iff_iff, decide_eq_true_eq, decide_eq_true_eq]
                        omega
                      have HPP := Lib.hid hpp2
                      clear hpp hpp2 hx ha0
                      go_wp2_with fail
                      go_meet
                      exact ⟨congrArg Value.bool HPP.out, rfl⟩
                  · have hxx : ((x.toNat : Int) == 79) = false := letter_ne fun h => hx (UInt8.toNat_inj.1 h)
                    have hpp : false = p := by
                      rw [HP.out]
                      have : (x == 79) = false := by simpa using hx
                      rw [this]; rfl
                    have HPP := Lib.hid hpp
                    clear hpp hx
                    go_wp2_with fail
                    go_meet
                    exact ⟨congrArg Value.bool HPP.out, rfl⟩
                case rest =>
                  obtain ⟨rfl, rfl⟩ := hcut
                  cases p with
                  | true =>
                    have hR := G3.out hac hd rfl
                    have HE := Lib.hid hR
                    clear hR
                    go_wp2_with fail
                    go_ret
                    exact ⟨by rw [HE.out]; rfl, HBW.out⟩
                  | false =>
                    go_upto_region 15 with fail
                    go_cut [93] (fun r wx => r = .bool q ∧ Below wc.heap.size wc wx)
                    case first =>
                      by_cases ha0 : arg = []
                      · have hqq : q = ((has != false) || (a && has) || (c && !β)) := by rw [HQ.out, ha0]; rfl
                        have HQQ := Lib.hid hqq
                        clear hqq
                        subst ha0
                        cases has <;> cases a <;> cases c
                        all_goals
                          first
                          | exact absurd hac (by decide)
                          | (go_wp2_with (first | (go_at_call 122; refine (HBE.out _).mono ?_; rintro e w' ⟨rfl, hb3⟩; have HB3 := Lib.hid hb3; clear hb3) | (refine (HHX.out _ _ (by first | exact HLL.out.1 | exact HLL.out.2)).mono ?_; rintro e w' ⟨rfl, rfl⟩; first | rw [HAC.out] | rw [HCC.out]))
                             go_meet
                             first
                             | exact ⟨congrArg Value.bool (by rw [HQQ.out]; first | rfl | (cases β <;> rfl)), Below.refl _ _⟩
                             | exact ⟨congrArg Value.bool (by rw [HQQ.out]; first | rfl | (cases β <;> rfl)), HB3.out⟩)
                      · have hl0 : 0 < arg.length := List.length_pos_iff.2 ha0
                        have hl1 : (0 : Int) < (arg.length : Int) := by omega
                        have hl2 : decide ((0 : Int) < (arg.length : Int)) = true := decide_eq_true hl1
                        have hqq : q = ((has != true) || (a && has) || (c && !β)) := by rw [HQ.out, List.isEmpty_eq_false_iff.2 ha0]; rfl
                        have HQQ := Lib.hid hqq
                        clear hqq ha0
                        cases has <;> cases a <;> cases c
                        all_goals
                          first
                          | exact absurd hac (by decide)
                          | (go_wp2_with (first | (go_at_call 122; refine (HBE.out _).mono ?_; rintro e w' ⟨rfl, hb3⟩; have HB3 := Lib.hid hb3; clear hb3) | (refine (HHX.out _ _ (by first | exact HLL.out.1 | exact HLL.out.2)).mono ?_; rintro e w' ⟨rfl, rfl⟩; first | rw [HAC.out] | rw [HCC.out]))
                             go_meet
                             first
                             | exact ⟨congrArg Value.bool (by rw [HQQ.out]; first | rfl | (cases β <;> rfl)), Below.refl _ _⟩
                             | exact ⟨congrArg Value.bool (by rw [HQQ.out]; first | rfl | (cases β <;> rfl)), HB3.out⟩)
                    case rest =>
                      obtain ⟨rfl, hb4⟩ := hcut
                      have hbf := HBW.out.trans (hb4.mono HBW.out.size)
                      have HBF := Lib.hid hbf
                      clear hbf hb4
                      cases q with
                      | true =>
                        have hR := G4.out hac hd rfl rfl
                        have HE := Lib.hid hR
                        clear hR
                        go_wp2_with fail
                        go_ret
                        exact ⟨by rw [HE.out]; rfl, HBF.out⟩
                      | false =>
                        have hR := G5.out hac hd rfl rfl
                        have HE := Lib.hid hR
                        clear hR z0 z1 z2
                        go_wp2_with fail
                        exact ⟨⟨k + 1, by omega, by go_num, HBF.out, HE⟩, by show l.length - ((k : Int) + 1).toNat < l.length - (k : Int).toNat; omega⟩
    · obtain rfl : k = l.length := by omega
      have hRn : R = [] := by have := hR.out; rw [List.drop_length] at this; exact this
      have HRn := Lib.hid hRn
      clear hRn
      go_wp2
      go_ret
      exact ⟨by rw [HRn.out]; rfl, hbr⟩
end Go.Proofs.YthgfjafnclklpaaGreatDoor
end
section
namespace Go.Proofs.YthgfjafnclklpaaGreatDoor
attribute [local go_sem ↓] Go.wp_at_zero Go.wp_at_succ
open Go.RowKit Sp
attribute [-go_sem] storeVar
attribute [local go_sem] run_store_cmd run_store_wrong storeVar_int' storeVar_bool' storeVar_slice' storeVar_str' canPut_setCell canPut_drew canPut_alloc canPut_setCells cell_setCells_far World.frozen?_setCells

/-- what word tells of a flag -/
def FlagPost (w : World) (base : Nat) (c : CmdV) (kv mv : Value) (f : FlagV) (e : Ending) (w' : World) : Prop :=
  ∃ g cap, e = .returned (.tuple #[.agg (cmdArr { c with metas := c.metas ++ [f] } kv nilRow (.slice (some ⟨g, 0, none⟩) (c.metas.length + 1) cap)), .int .i64 (-1), str (flagsOf c.verb (c.metas ++ [f]))]) ∧
    w'.ownsRow base 94 3 (.slice (some ⟨g, 0, none⟩) (c.metas.length + 1) cap) (c.metas.length + 1) (flagsCells (c.metas ++ [f])) ∧ OnlyIn (rowBlock mv) w w'

theorem flagsCells_snoc (l : List FlagV) (f : FlagV) : flagsCells l ++ flagCells f = flagsCells (l ++ [f]) := by simp [flagsCells]

set_option maxHeartbeats 4000000 in
set_option maxRecDepth 100000 in
theorem refWord_G {w : World} {base : Nat} {c : CmdV} {K M : Option Addr} {kn kc mc : Nat} {x : UInt8} {l : Bs} (hl : l.length ≤ 4294967270)
    (ho : w.ownsRow base 94 3 (.slice M c.metas.length mc) c.metas.length (flagsCells c.metas)) (hb : base ≤ w.heap.size) (hn : c.metas.length ≤ 1000000) (hm : ∀ f ∈ c.metas, f.arg.length ≤ 4611686018427387904) :
    Calls Tryz.prog 62 #[.agg (cmdArr c (.slice K kn kc) nilRow (.slice M c.metas.length mc)), .int .u8 71, str (x :: l)] w (FlagPost w base c (.slice K kn kc) (.slice M c.metas.length mc) (flagOfWord (x :: l))) := by
  obtain ⟨i0, hi, hz0, hz1, hz2⟩ := info_parts info_flag
  have hfin : ∀ g cap W', W'.ownsRow base 94 3 (.slice (some ⟨g, 0, none⟩) (c.metas.length + 1) cap) (c.metas.length + 1) (flagsCells (c.metas ++ [flagOfWord (x :: l)])) → OnlyIn (rowBlock (.slice M c.metas.length mc)) w W' →
      FlagPost w base c (.slice K kn kc) (.slice M c.metas.length mc) (flagOfWord (x :: l)) (.returned (.tuple #[.agg (cmdArr { c with metas := c.metas ++ [flagOfWord (x :: l)] } (.slice K kn kc) nilRow (.slice (some ⟨g, 0, none⟩) (c.metas.length + 1) cap)), .int .i64 (-1), str (flagsOf c.verb (c.metas ++ [flagOfWord (x :: l)]))])) W' := fun g cap W' h1 h2 => ⟨g, cap, rfl, h1, h2⟩
  generalize FlagPost w base c (.slice K kn kc) (.slice M c.metas.length mc) (flagOfWord (x :: l)) = R at hfin ⊢
  have hW0 := WordBoxes.new w c (.slice K kn kc) (.slice M c.metas.length mc)
  obtain ⟨W, hW⟩ : ∃ W, W = (w.alloc (.cells (cmdArr c (.slice K kn kc) nilRow (.slice M c.metas.length mc)) 38)).alloc (.cells #[.int .i64 0, .slice none 0 0, .int .u64 0, .int .i64 0, .int .u64 0, .int .u64 0, .slice none 0 0, .bool false, .bool false, .slice none 0 0, .string ⟨#[]⟩] 38) := ⟨_, rfl⟩
  replace hW0 : WordBoxes w c {} (.slice K kn kc) (.slice M c.metas.length mc) W := by rw [hW]; exact hW0
  have z9 : W.cell? ⟨w.heap.size, 9, none⟩ = some (.slice M c.metas.length mc) := hW0.box.cell 9
  have f9 := hW0.box.frozen 9
  have hszW : w.heap.size + 1 < W.heap.size := hW0.res.lt
  have hszV : w.heap.size < W.heap.size := hW0.box.lt
  have hrow := own_later ho hW0.below
  have hkl := own_lt ho
  have hne : 0 < (x :: l).length := by simp
  have hle : (1 : Int) ≤ (l.length : Int) + 1 := by omega
  have hlenf : (c.metas ++ [flagOfWord (x :: l)]).length = c.metas.length + 1 := by simp
  have hfl := fun (g cap : Nat) (W3 : World) (hr : RowAt W3 (some ⟨g, 0, none⟩) (flagsCells (c.metas ++ [flagOfWord (x :: l)]))) => refFlags_any c.verb (c.metas ++ [flagOfWord (x :: l)]) (some ⟨g, 0, none⟩) cap W3 hr (by rw [hlenf]; omega) (fun f hf => by
    rcases List.mem_append.1 hf with hf | hf
    · exact hm f hf
    · rw [List.mem_singleton.1 hf]; simp [flagOfWord]; omega)
  rw [hlenf] at hfl
  generalize flagsOf c.verb (c.metas ++ [flagOfWord (x :: l)]) = T at hfl hfin
  have HW := Lib.hid hW
  have HW0 := Lib.hid hW0
  have HFIN := Lib.hid hfin
  have HROW := Lib.hid hrow
  have HKL := Lib.hid hkl
  have HFL := Lib.hid hfl
  clear hW hW0 hfin hrow hkl ho hfl hm hlenf
  go_enter Tryz.func62, Tryz.ntmps62
  go_upto_region 1 with fail
  rw [← HW.out]
  go_upto_region 37 with fail
  go_region_law (refine step_append_lies _ rfl (.tmp 104) (.tmp 113) _ rfl base 94 i0 _ 3 32 Tryz.underlying36 hi hz0 hz1 hz2 rfl (by decide) (.slice M c.metas.length mc) c.metas.length (flagsCells c.metas) rfl ?_ ⟨W.heap.size, 0, none⟩ 1 1 _ rfl ?_ (cells_new_drew _ _ _) ?_ (by decide) ?_ ?_ ?_ (W.heap.size + 1) ?_ ?_; exact (HROW.out.alloc _).drew; rfl; (intro u hu; simp at hu; rcases hu with rfl | rfl | rfl <;> rfl); (unfold maxLen; omega); omega; (simp; omega); simp; intro g cap w2 hown2 hg2 hat2 hlt2; have b2 := ((HW0.out.box.alloc _).drew).grown hg2 (fun e => absurd (HKL.out w.heap.size (mem_rowBlock.2 e.symm)) (Nat.lt_irrefl _)); have y9 := b2.cell 9; have g9 := b2.frozen 9; change w2.cell? ⟨w.heap.size, 9, none⟩ = some (.slice M c.metas.length mc) at y9; have r2 := ((HW0.out.res.alloc _).drew).grown hg2 (fun e => absurd (HKL.out (w.heap.size + 1) (mem_rowBlock.2 e.symm)) (by omega)); have on2 := (((OnlyIn.of HW0.out.below (rowBlock (.slice M c.metas.length mc))).alloc _).later ((Below.refl _ _).drew)).trans (OnlyIn.grown hg2) (fun i hi => .inl hi); rw [flag_us x l, flagsCells_snoc] at hown2; have HB2 := Lib.hid b2; have HR2 := Lib.hid r2; have HON2 := Lib.hid on2; have HOWN2 := Lib.hid hown2; clear b2 r2 on2 hown2 hg2 hat2 hlt2)
  all_goals
    obtain ⟨w3, hw3⟩ : ∃ w3, w3 = (w2.setCell ⟨w.heap.size, 9, none⟩ (.slice (some ⟨g, 0, none⟩) (c.metas.length + 1) cap)) := ⟨_, rfl⟩
    rw [← hw3]
    have hx3 : Blk w3 w.heap.size 38 (cmdArr { c with metas := c.metas ++ [flagOfWord (x :: l)] } (.slice K kn kc) nilRow (.slice (some ⟨g, 0, none⟩) (c.metas.length + 1) cap)) := by rw [hw3]; exact HB2.out.put 9 (.slice (some ⟨g, 0, none⟩) (c.metas.length + 1) cap)
    have hr3 : Blk w3 (w.heap.size + 1) 38 (cmdArr {} nilRow nilRow nilRow) := by rw [hw3]; exact HR2.out.far (by show w.heap.size + 1 ≠ w.heap.size; omega) _
    have hon3 : OnlyIn (rowBlock (.slice M c.metas.length mc)) w w3 := by rw [hw3]; exact HON2.out.setCell (g := w.heap.size) (.inr (Nat.le_refl _)) 9 _
    have hap := own_apart HOWN2.out HB2.out (by decide)
    have hown3 : w3.ownsRow base 94 3 (.slice (some ⟨g, 0, none⟩) (c.metas.length + 1) cap) (c.metas.length + 1) (flagsCells (c.metas ++ [flagOfWord (x :: l)])) := by
      rw [hw3]
      exact own_same HOWN2.out (fun k hk => Below.heap_setCell w2 ⟨w.heap.size, 9, none⟩ _ k (fun e => hap (by rw [mem_rowBlock.1 hk, e])))
    have hcall := HFL.out g cap w3 (RowAt.of_own hown3)
    have x0 : w3.cell? ⟨w.heap.size, 0, none⟩ = some (.int .i64 c.verb) := hx3.cell 0
    have x9 : w3.cell? ⟨w.heap.size, 9, none⟩ = some (.slice (some ⟨g, 0, none⟩) (c.metas.length + 1) cap) := hx3.cell 9
    have HX3 := Lib.hid hx3
    have HR3 := Lib.hid hr3
    have HON3 := Lib.hid hon3
    have HOWN3 := Lib.hid hown3
    have HC := Lib.hid hcall
    clear hx3 hr3 hon3 hap hown3 hcall hw3 HB2 HR2 HON2 HOWN2 HFL y9 g9 z9 f9
    cases T
    all_goals
      go_wp2_with (go_at_call 79; refine HC.out.mono ?_; rintro e w4 ⟨rfl, hb4⟩; have hx4 := HX3.out.later hb4; have hr4 := HR3.out.later hb4; have x0' : w4.cell? ⟨w.heap.size, 0, none⟩ = some (.int .i64 c.verb) := hx4.cell 0; have x1' : w4.cell? ⟨w.heap.size, 1, none⟩ = some (.slice K kn kc) := hx4.cell 1; have x2' : w4.cell? ⟨w.heap.size, 2, none⟩ = some (.int .u64 c.flags) := hx4.cell 2; have x3' : w4.cell? ⟨w.heap.size, 3, none⟩ = some (.int .i64 c.exptime) := hx4.cell 3; have x4' : w4.cell? ⟨w.heap.size, 4, none⟩ = some (.int .u64 c.token) := hx4.cell 4; have x5' : w4.cell? ⟨w.heap.size, 5, none⟩ = some (.int .u64 c.delta) := hx4.cell 5; have x6' : w4.cell? ⟨w.heap.size, 6, none⟩ = some nilRow := hx4.cell 6; have x7' : w4.cell? ⟨w.heap.size, 7, none⟩ = some (.bool c.noreply) := hx4.cell 7; have x8' : w4.cell? ⟨w.heap.size, 8, none⟩ = some (.bool c.large) := hx4.cell 8; have x9' : w4.cell? ⟨w.heap.size, 9, none⟩ = some (.slice (some ⟨g, 0, none⟩) (c.metas.length + 1) cap) := hx4.cell 9; have x10' : w4.cell? ⟨w.heap.size, 10, none⟩ = some (str c.what) := hx4.cell 10; have c6 : canPut w4 (w.heap.size + 1) 0 11 = true := hr4.can 0 11 (by decide); have HR4 := Lib.hid hr4; have HB4 := Lib.hid hb4; clear hx4 hr4 hb4 x0 x9)
      have hown4 := own_later HOWN3.out HB4.out
      have hap4 := own_apart hown4 HR4.out (by decide)
      have hres := HR4.out.putCmd { c with metas := c.metas ++ [flagOfWord (x :: l)] } (.slice K kn kc) nilRow (.slice (some ⟨g, 0, none⟩) (c.metas.length + 1) cap)
      have hown5 : (w4.setCells (w.heap.size + 1) 0 (cmdList { c with metas := c.metas ++ [flagOfWord (x :: l)] } (.slice K kn kc) nilRow (.slice (some ⟨g, 0, none⟩) (c.metas.length + 1) cap))).ownsRow base 94 3 (.slice (some ⟨g, 0, none⟩) (c.metas.length + 1) cap) (c.metas.length + 1) (flagsCells (c.metas ++ [flagOfWord (x :: l)])) := own_same hown4 (fun k hk => by
        have h1 := OnlyIn.setCells (L := [w.heap.size + 1]) (a := w4) (g := w.heap.size + 1) (.inl (by simp)) (cmdList { c with metas := c.metas ++ [flagOfWord (x :: l)] } (.slice K kn kc) nilRow (.slice (some ⟨g, 0, none⟩) (c.metas.length + 1) cap)) 0 (OnlyIn.refl _ w4)
        have hne1 : k ≠ w.heap.size + 1 := fun e => hap4 (by rw [mem_rowBlock.1 hk, e])
        exact h1.block k (own_lt hown4 k hk) (by simp; omega))
      have hon5 := OnlyIn.setCells (.inr (Nat.le_succ w.heap.size)) (cmdList { c with metas := c.metas ++ [flagOfWord (x :: l)] } (.slice K kn kc) nilRow (.slice (some ⟨g, 0, none⟩) (c.metas.length + 1) cap)) 0 (HON3.out.later HB4.out)
      exact bodyPost_ret (word_results hres _ rfl rfl rfl) rfl (HFIN.out g cap _ hown5 hon5)
end Go.Proofs.YthgfjafnclklpaaGreatDoor
end
section
namespace Go.Proofs.YthgfjafnclklpaaGreatDoor
open Go.RowKit Sp

/-- a command whose keys and flags lie in rows of a call's own -/
structure CmdOwn (w : World) (base : Nat) (c : CmdV) (kv mv : Value) : Prop where
  keys : w.ownsRow base 9 1 kv c.keys.length (c.keys.map str)
  metas : w.ownsRow base 94 3 mv c.metas.length (flagsCells c.metas)
theorem CmdOwn.later {w w' : World} {base : Nat} {c : CmdV} {kv mv : Value} (h : CmdOwn w base c kv mv) (hb : Below w.heap.size w w') : CmdOwn w' base c kv mv := ⟨own_later h.keys hb, own_later h.metas hb⟩
theorem CmdOwn.zero (w : World) (base v : Nat) (nr : Bool) : CmdOwn w base { verb := v, noreply := nr } nilRow nilRow := ⟨World.ownsRow_nil w _ _ 1, World.ownsRow_nil w _ _ 3⟩

/-- what word tells -/
def WordEnd (w : World) (base : Nat) (c : CmdV) (kv mv : Value) (k : UInt8) (wd : Bs) (e : Ending) (w' : World) : Prop :=
  ∃ c' kv' mv' n t, (∃ K kn kc, kv' = .slice K kn kc) ∧ (∃ M mn mc, mv' = .slice M mn mc) ∧ e = .returned (.tuple #[.agg (cmdArr c' kv' nilRow mv'), .int .i64 n, str t]) ∧ Below base w w' ∧ (∀ j, j < w.heap.size → j ∉ rowBlock kv → j ∉ rowBlock mv → w'.heap[j]? = w.heap[j]?) ∧
    match wordAt c (-1) k wd with
    | .ok (c2, b2) => t = [] ∧ c' = c2 ∧ n = b2 ∧ CmdOwn w' base c2 kv' mv'
    | .error m => t = m ∧ t ≠ []

theorem RwPost.fin {w : World} {base : Nat} {c : CmdV} {kv mv : Value} {k : UInt8} {wd : Bs} (ho : CmdOwn w base c kv mv) (hb : base ≤ w.heap.size)
    (hk : ∀ c2 b2, wordAt c (-1) k wd = .ok (c2, b2) → c2.keys = c.keys ∧ c2.metas = c.metas) {e : Ending} {w' : World} (h : RwPost w c kv mv k wd e w') : WordEnd w base c kv mv k wd e w' := by
  obtain ⟨c', n, t, h1, h2, h3⟩ := h
  obtain ⟨K0, kc0, hk0⟩ := own_form ho.keys
  obtain ⟨M0, mc0, hm0⟩ := own_form ho.metas
  refine ⟨c', kv, mv, n, t, ⟨_, _, _, hk0⟩, ⟨_, _, _, hm0⟩, h1, h2.mono hb, fun j hj _ _ => h2.block j hj, ?_⟩
  cases hw : wordAt c (-1) k wd with
  | error m => rw [hw] at h3; exact h3
  | ok x =>
    obtain ⟨c2, b2⟩ := x
    rw [hw] at h3
    obtain ⟨e1, e2⟩ := hk c2 b2 hw
    have h4 := ho.later h2
    exact ⟨h3.1, h3.2.1, h3.2.2, ⟨by rw [e1]; exact h4.keys, by rw [e2]; exact h4.metas⟩⟩

theorem refWord_any {w : World} {base : Nat} {c : CmdV} {kv mv : Value} {k : UInt8} {wd : Bs} (hk : k = 75 ∨ k = 70 ∨ k = 84 ∨ k = 78 ∨ k = 67 ∨ k = 68 ∨ k = 86 ∨ k = 87 ∨ k = 71 ∨ k = 83 ∨ k = 48)
    (ho : CmdOwn w base c kv mv) (hb : base ≤ w.heap.size) (hne : wd ≠ []) (hl : wd.length ≤ 1000000) (hn : c.keys.length ≤ 1000000) (hm : c.metas.length ≤ 1000000) (ha : ∀ f ∈ c.metas, f.arg.length ≤ 4611686018427387904) :
    Calls Tryz.prog 62 #[.agg (cmdArr c kv nilRow mv), .int .u8 (zed k).toNat, str wd] w (WordEnd w base c kv mv k wd) := by
  obtain ⟨K, kc, rfl⟩ := own_form ho.keys
  obtain ⟨M, mc, rfl⟩ := own_form ho.metas
  have hl9 : wd.length ≤ 4611686018427387904 := by omega
  rcases hk with rfl | rfl | rfl | rfl | rfl | rfl | rfl | rfl | rfl | rfl | rfl
  · refine (refWord_K hl9 ho.keys hb hn).mono fun e w' hp => ?_
    obtain ⟨K', kc', h1, h2, h3⟩ := hp
    have hB : Below base w w' := h3.below hb (fun i hi => own_ge ho.keys i hi)
    refine ⟨_, _, _, _, _, ⟨_, _, _, rfl⟩, ⟨_, _, _, rfl⟩, h1, hB, fun j hj hj2 _ => h3.block j hj hj2, ?_⟩
    have hkl : keyV wd = legal wd := legal_word hne
    have hmet : w'.ownsRow base 94 3 (.slice M c.metas.length mc) c.metas.length (flagsCells c.metas) := own_same ho.metas (fun i hi => h3.block i (own_lt ho.metas i hi) (fun hj => by
      have := own_own_apart ho.metas ho.keys (by decide)
      rcases this with h | h
      · rw [mem_rowBlock.1 hi] at h; cases h
      · exact h (by rw [mem_rowBlock.1 hi, mem_rowBlock.1 hj])))
    cases hle : legal wd with
    | true =>
      rw [show wordAt c (-1) 75 wd = .ok ({ c with keys := c.keys ++ [wd] }, -1) by simp [wordAt, hle]]
      refine ⟨by rw [hkl, hle]; rfl, rfl, rfl, ⟨?_, hmet⟩⟩
      rw [show (c.keys ++ [wd]).length = c.keys.length + 1 by simp, List.map_append]
      exact h2
    | false =>
      rw [show wordAt c (-1) 75 wd = .error badFormat by simp [wordAt, hle]]
      exact ⟨by rw [hkl, hle]; rfl, by rw [hkl, hle]; decide⟩
  · exact (refWord_F hl9).mono fun e w' hp => hp.fin ho hb (fun c2 b2 h => by obtain ⟨n, _, rfl, _⟩ := inv_F h; exact ⟨rfl, rfl⟩)
  · exact (refWord_T hl9).mono fun e w' hp => hp.fin ho hb (fun c2 b2 h => by obtain ⟨n, _, rfl, _⟩ := inv_T h; exact ⟨rfl, rfl⟩)
  · exact (refWord_N hl9).mono fun e w' hp => hp.fin ho hb (fun c2 b2 h => by obtain ⟨n, _, rfl, _⟩ := inv_N h; exact ⟨rfl, rfl⟩)
  · exact (refWord_C hl9).mono fun e w' hp => hp.fin ho hb (fun c2 b2 h => by obtain ⟨n, _, rfl, _⟩ := inv_C h; exact ⟨rfl, rfl⟩)
  · exact (refWord_D hl9).mono fun e w' hp => hp.fin ho hb (fun c2 b2 h => by obtain ⟨n, _, rfl, _⟩ := inv_D h; exact ⟨rfl, rfl⟩)
  · exact (refWord_V hl9).mono fun e w' hp => hp.fin ho hb (fun c2 b2 h => by obtain ⟨rfl, _⟩ := inv_V h; exact ⟨rfl, rfl⟩)
  · exact (refWord_W hl9).mono fun e w' hp => hp.fin ho hb (fun c2 b2 h => by obtain ⟨_, rfl, _⟩ := inv_W h; exact ⟨rfl, rfl⟩)
  · obtain ⟨x, l, rfl⟩ : ∃ x l, wd = x :: l := by
      cases wd with
      | nil => exact absurd rfl hne
      | cons x l => exact ⟨x, l, rfl⟩
    refine (refWord_G (by rw [List.length_cons] at hl; omega) ho.metas hb hm ha).mono fun e w' hp => ?_
    obtain ⟨g, cap, h1, h2, h3⟩ := hp
    have hB : Below base w w' := h3.below hb (fun i hi => own_ge ho.metas i hi)
    refine ⟨_, _, _, _, _, ⟨_, _, _, rfl⟩, ⟨_, _, _, rfl⟩, h1, hB, fun j hj _ hj2 => h3.block j hj hj2, ?_⟩
    have hkey : w'.ownsRow base 9 1 (.slice K c.keys.length kc) c.keys.length (c.keys.map str) := own_same ho.keys (fun i hi => h3.block i (own_lt ho.keys i hi) (fun hj => by
      have := own_own_apart ho.keys ho.metas (by decide)
      rcases this with h | h
      · rw [mem_rowBlock.1 hi] at h; cases h
      · exact h (by rw [mem_rowBlock.1 hi, mem_rowBlock.1 hj])))
    by_cases hf : flagsOf c.verb (c.metas ++ [flagOfWord (x :: l)]) = []
    · rw [show wordAt c (-1) 71 (x :: l) = .ok ({ c with metas := c.metas ++ [flagOfWord (x :: l)] }, -1) from (by unfold wordAt; exact if_pos hf)]
      refine ⟨hf, rfl, rfl, ⟨hkey, ?_⟩⟩
      rw [show (c.metas ++ [flagOfWord (x :: l)]).length = c.metas.length + 1 by simp]
      exact h2
    · rw [show wordAt c (-1) 71 (x :: l) = .error (flagsOf c.verb (c.metas ++ [flagOfWord (x :: l)])) from (by unfold wordAt; exact if_neg hf)]
      exact ⟨rfl, hf⟩
  · exact (refWord_S hl9).mono fun e w' hp => hp.fin ho hb (fun c2 b2 h => by obtain ⟨n, _, _, rfl, _⟩ := inv_S h; exact ⟨rfl, rfl⟩)
  · exact (refWord_Z hl9).mono fun e w' hp => hp.fin ho hb (fun c2 b2 h => by obtain ⟨rfl, _⟩ := inv_0 h; exact ⟨rfl, rfl⟩)
end Go.Proofs.YthgfjafnclklpaaGreatDoor
end
section
namespace Go.Proofs.YthgfjafnclklpaaGreatDoor
attribute [local go_sem ↓] Go.wp_at_zero Go.wp_at_succ
open Go.RowKit Sp
attribute [-go_sem] storeVar
attribute [local go_sem] run_store_cmd run_store_wrong storeVar_int' storeVar_bool' storeVar_slice' storeVar_str' canPut_setCell canPut_drew canPut_alloc canPut_setCells cell_setCells_far World.frozen?_setCells

theorem line11_results {W : World} {b2 b4 : Nat} {c : CmdV} {K D M : Option Addr} {kn kc dn dc mn mc : Nat} {x : WrongV} {n : Int} (h2 : Blk W b2 38 (cmdArr c (.slice K kn kc) (.slice D dn dc) (.slice M mn mc))) (h4 : Blk W b4 59 (wrongArr x)) (tm : Array Value)
    (t2 : tm[2]?.getD undef = .pointer (some ⟨b2, 0, none⟩)) (t3 : tm[3]?.getD undef = .int .i64 n) (t4 : tm[4]?.getD undef = .pointer (some ⟨b4, 0, none⟩)) :
    (results Tryz.f17 tm).run Tryz.prog W = .ok (.tuple #[.agg (cmdArr c (.slice K kn kc) (.slice D dn dc) (.slice M mn mc)), .int .i64 n, .agg (wrongArr x)]) W := by
  have z0 := h2.cell 0
  have z1 := h2.cell 1
  have z2 := h2.cell 2
  have z3 := h2.cell 3
  have z4 := h2.cell 4
  have z5 := h2.cell 5
  have z6 := h2.cell 6
  have z7 := h2.cell 7
  have z8 := h2.cell 8
  have z9 := h2.cell 9
  have z10 := h2.cell 10
  have v0 := h4.cell 0
  have v1 := h4.cell 1
  have v2 := h4.cell 2
  change _ = some _ at z0 z1 z2 z3 z4 z5 z6 z7 z8 z9 z10 v0 v1 v2
  clear h2 h4
  simp [results, Tryz.results17, go_sem, t2, t3, t4, z0, z1, z2, z3, z4, z5, z6, z7, z8, z9, z10, v0, v1, v2]
  exact ⟨rfl, rfl⟩

/-- what the document's Line tells -/
def LineEnd (w : World) (r : LineR) (e : Ending) (w' : World) : Prop :=
  ∃ c kv mv n x, e = .returned (.tuple #[.agg (cmdArr c kv nilRow mv), .int .i64 n, .agg (wrongArr x)]) ∧ Below w.heap.size w w' ∧
    match r with
    | .ok c2 n2 => c = c2 ∧ n = n2 ∧ x = {} ∧ CmdOwn w' w.heap.size c2 kv mv
    | .bad y => x = y ∧ c = {} ∧ n = -1 ∧ kv = nilRow ∧ mv = nilRow

/-- the two boxes of what is told -/
structure LineBoxes (w W : World) : Prop where
  cmd : Blk W w.heap.size 38 (cmdArr {} nilRow nilRow nilRow)
  wrong : Blk W (w.heap.size + 1) 59 (wrongArr {})
  below : Below w.heap.size w W
theorem LineBoxes.new (w : World) : LineBoxes w ((w.alloc (.cells (cmdArr {} nilRow nilRow nilRow) 38)).alloc (.cells (wrongArr {}) 59)) := by
  refine ⟨(Blk.new w 38 (cmdArr {} nilRow nilRow nilRow)).alloc _, ?_, ((Below.refl _ _).alloc (Nat.le_refl _) _).alloc (by simp) _⟩
  have := Blk.new (w.alloc (.cells (cmdArr {} nilRow nilRow nilRow) 38)) 59 (wrongArr {})
  rwa [show (w.alloc (.cells (cmdArr {} nilRow nilRow nilRow) 38)).heap.size = w.heap.size + 1 by simp] at this
theorem LineBoxes.later {w W W' : World} (h : LineBoxes w W) (hb : Below W.heap.size W W') : LineBoxes w W' := ⟨h.cmd.later hb, h.wrong.later hb, h.below.trans (hb.mono h.below.size)⟩
/-- behind the stores of what is told -/
theorem LineBoxes.put {w W : World} (h : LineBoxes w W) (c : CmdV) (kv dv mv : Value) (x : WrongV) :
    Blk ((W.setCells w.heap.size 0 (cmdList c kv dv mv)).setCells (w.heap.size + 1) 0 (wrongList x)) w.heap.size 38 (cmdArr c kv dv mv) ∧
    Blk ((W.setCells w.heap.size 0 (cmdList c kv dv mv)).setCells (w.heap.size + 1) 0 (wrongList x)) (w.heap.size + 1) 59 (wrongArr x) ∧
    Below w.heap.size w ((W.setCells w.heap.size 0 (cmdList c kv dv mv)).setCells (w.heap.size + 1) 0 (wrongList x)) :=
  ⟨Blk.farCells (w.heap.size + 1) (by omega) _ 0 (h.cmd.putCmd c kv dv mv), (Blk.farCells w.heap.size (by omega) _ 0 h.wrong).putWrong x, Below.setCells (Nat.le_succ _) _ 0 (Below.setCells (Nat.le_refl _) _ 0 h.below)⟩

set_option maxHeartbeats 2000000 in
set_option maxRecDepth 100000 in
theorem refLine11_long {w : World} {A : Option Addr} {cap : Nat} {l : Bs} (hl : 2048 < l.length) :
    Calls Tryz.prog 17 #[.slice A l.length cap] w (LineEnd w (lineOf l)) := by
  have hr : lineOf l = .bad ⟨2, tooLong, -1⟩ := by unfold lineOf; rw [if_pos hl]
  rw [hr]
  generalize hR : LineEnd w (.bad ⟨2, tooLong, -1⟩) = R
  have hB0 := LineBoxes.new w
  obtain ⟨W, hW⟩ : ∃ W, W = (w.alloc (.cells #[.int .i64 0, .slice none 0 0, .int .u64 0, .int .i64 0, .int .u64 0, .int .u64 0, .slice none 0 0, .bool false, .bool false, .slice none 0 0, .string ⟨#[]⟩] 38)).alloc (.cells #[.int .i64 0, .string ⟨#[]⟩, .int .i64 0] 59) := ⟨_, rfl⟩
  replace hB0 : LineBoxes w W := by rw [hW]; exact hB0
  have hwr : Calls Tryz.prog 58 #[str tooLong, .int .i64 (-1)] W fun e w' => e = .returned (.tuple #[.agg #[.int .i64 0, .slice none 0 0, .int .u64 0, .int .i64 0, .int .u64 0, .int .u64 0, .slice none 0 0, .bool false, .bool false, .slice none 0 0, .string ⟨#[]⟩], .int .i64 (-1), .agg #[.int .i64 2, str tooLong, .int .i64 (-1)]]) ∧ Below W.heap.size W w' := refWrong_any tooLong (-1) W
  have hfin : ∀ W', Below w.heap.size w W' → R (.returned (.tuple #[.agg (cmdArr {} nilRow nilRow nilRow), .int .i64 (-1), .agg (wrongArr ⟨2, tooLong, -1⟩)])) W' := fun W' hb => by rw [← hR]; exact ⟨_, _, _, _, _, rfl, hb, rfl, rfl, rfl, rfl, rfl⟩
  have HW := Lib.hid hW
  have HB0 := Lib.hid hB0
  have HWR := Lib.hid hwr
  have HFIN := Lib.hid hfin
  have g1 : decide ((2048 : Int) < (l.length : Int)) = true := decide_eq_true (by omega)
  clear hW hB0 hwr hfin hR hr
  go_enter Tryz.func17, Tryz.ntmps17
  go_upto_region 1 with fail
  rw [← HW.out]
  go_wp2_with (go_at_call 58; refine HWR.out.mono ?_; rintro e w1 ⟨rfl, hb1⟩; have hbx := HB0.out.later hb1; have c2 : canPut w1 w.heap.size 0 11 = true := hbx.cmd.can 0 11 (by decide); have c4 : canPut w1 (w.heap.size + 1) 0 3 = true := hbx.wrong.can 0 3 (by decide); have HBX := Lib.hid hbx; have hput := hbx.put {} nilRow nilRow nilRow ⟨2, tooLong, -1⟩; have c4' : canPut (w1.setCells w.heap.size 0 [.int .i64 0, .slice none 0 0, .int .u64 0, .int .i64 0, .int .u64 0, .int .u64 0, .slice none 0 0, .bool false, .bool false, .slice none 0 0, .string ⟨#[]⟩]) (w.heap.size + 1) 0 3 = true := (Blk.farCells w.heap.size (by omega) (cmdList {} nilRow nilRow nilRow) 0 hbx.wrong).can 0 3 (by decide); have HPUT := Lib.hid hput; clear hb1 hbx hput)
  exact bodyPost_ret (line11_results HPUT.out.1 HPUT.out.2.1 _ rfl rfl rfl) rfl (HFIN.out _ HPUT.out.2.2)

set_option maxHeartbeats 2000000 in
set_option maxRecDepth 100000 in
theorem refLine11_none {w : World} {A : Option Addr} {cap : Nat} {l : Bs} (hrow : RowAt w A (bytesV l)) (hl : l.length ≤ 2048) (hw : wordsOf l = [] ∨ ∃ v ws, wordsOf l = v :: ws ∧ rowOf v = none) :
    Calls Tryz.prog 17 #[.slice A l.length cap] w (LineEnd w (lineOf l)) := by
  have hr : lineOf l = .bad ⟨1, [], -1⟩ := by
    unfold lineOf
    rw [if_neg (by omega)]
    rcases hw with h | ⟨v, ws, h, h2⟩
    · rw [h]
    · rw [h]; dsimp only; rw [h2]
  rw [hr]
  generalize hR : LineEnd w (.bad ⟨1, [], -1⟩) = R
  have hB0 := LineBoxes.new w
  obtain ⟨W, hW⟩ : ∃ W, W = (w.alloc (.cells #[.int .i64 0, .slice none 0 0, .int .u64 0, .int .i64 0, .int .u64 0, .int .u64 0, .slice none 0 0, .bool false, .bool false, .slice none 0 0, .string ⟨#[]⟩] 38)).alloc (.cells #[.int .i64 0, .string ⟨#[]⟩, .int .i64 0] 59) := ⟨_, rfl⟩
  replace hB0 : LineBoxes w W := by rw [hW]; exact hB0
  have hcv := run_bytes_str (cap := cap) (hrow.below hB0.below)
  have hwd := refWords_any l W (by omega)
  have hfin : ∀ W', Below w.heap.size w W' → R (.returned (.tuple #[.agg (cmdArr {} nilRow nilRow nilRow), .int .i64 (-1), .agg (wrongArr ⟨1, [], -1⟩)])) W' := fun W' hb => by rw [← hR]; exact ⟨_, _, _, _, _, rfl, hb, rfl, rfl, rfl, rfl, rfl⟩
  have hvo : ∀ v ws, wordsOf l = v :: ws → ∀ W' : World, Calls Tryz.prog 60 #[str v] W' fun e w' => e = .returned (.int .i64 0) ∧ Below W'.heap.size W' w' := fun v ws h W' => by
    have := refVerbOf_any v W'
    rw [show verbV v = 0 from by
      rcases hw with h0 | ⟨v', ws', h1, h2⟩
      · rw [h0] at h; cases h
      · rw [h1] at h; injection h with h _
        unfold verbV; rw [← h, h2]] at this
    exact this
  obtain ⟨ws, hws⟩ : ∃ ws, ws = wordsOf l := ⟨_, rfl⟩
  rw [← hws] at hwd hvo
  have HW := Lib.hid hW
  have HB0 := Lib.hid hB0
  have HWD := Lib.hid hwd
  have HVO := Lib.hid hvo
  have HFIN := Lib.hid hfin
  have g1 : decide ((2048 : Int) < (l.length : Int)) = false := decide_eq_false (by omega)
  clear hW hB0 hwd hvo hfin hR hr hrow hw hws
  cases ws with
  | nil =>
    go_enter Tryz.func17, Tryz.ntmps17
    go_upto_region 1 with fail
    rw [← HW.out]
    go_wp2_with (go_at_call 59; refine HWD.out.mono ?_; rintro e w1 ⟨A1, c1, rfl, hown1, hb1⟩; have hbx := HB0.out.later hb1; have c2 : canPut w1 w.heap.size 0 11 = true := hbx.cmd.can 0 11 (by decide); have hput := hbx.put {} nilRow nilRow nilRow ⟨1, [], -1⟩; have c4' : canPut (w1.setCells w.heap.size 0 [.int .i64 0, .slice none 0 0, .int .u64 0, .int .i64 0, .int .u64 0, .int .u64 0, .slice none 0 0, .bool false, .bool false, .slice none 0 0, .string ⟨#[]⟩]) (w.heap.size + 1) 0 3 = true := (Blk.farCells w.heap.size (by omega) (cmdList {} nilRow nilRow nilRow) 0 hbx.wrong).can 0 3 (by decide); have HPUT := Lib.hid hput; clear hb1 hbx hput hown1)
    exact bodyPost_ret (line11_results HPUT.out.1 HPUT.out.2.1 _ rfl rfl rfl) rfl (HFIN.out _ HPUT.out.2.2)
  | cons v ws =>
    go_enter Tryz.func17, Tryz.ntmps17
    go_upto_region 1 with fail
    rw [← HW.out]
    have hpos : (0 : Int) < ((v :: ws).length : Int) := by rw [List.length_cons]; omega
    have hp2 : (((v :: ws).length : Int) == 0) = false := by rw [beq_eq_false_iff_ne]; omega
    have hp3 : (((ws.length : Int) + 1) == 0) = false := by rw [beq_eq_false_iff_ne]; omega
    go_wp2_with (first | (go_at_call 59; refine HWD.out.mono ?_; rintro e w1 ⟨A1, c1, rfl, hown1, hb1⟩; obtain ⟨ga, oa, hA1, hc1⟩ := words_at (RowAt.of_own hown1) (k := 0) (x := v) rfl; rw [Nat.add_zero] at hc1; subst hA1; have hbx := HB0.out.later hb1; have HBX := Lib.hid hbx; clear hb1 hbx hown1) | (go_at_call 60; refine (HVO.out v ws rfl _).mono ?_; rintro e w2 ⟨rfl, hb2⟩; have hbx := HBX.out.later hb2; have c2 : canPut w2 w.heap.size 0 11 = true := hbx.cmd.can 0 11 (by decide); have hput := hbx.put {} nilRow nilRow nilRow ⟨1, [], -1⟩; have c4' : canPut (w2.setCells w.heap.size 0 [.int .i64 0, .slice none 0 0, .int .u64 0, .int .i64 0, .int .u64 0, .int .u64 0, .slice none 0 0, .bool false, .bool false, .slice none 0 0, .string ⟨#[]⟩]) (w.heap.size + 1) 0 3 = true := (Blk.farCells w.heap.size (by omega) (cmdList {} nilRow nilRow nilRow) 0 hbx.wrong).can 0 3 (by decide); have HPUT := Lib.hid hput; clear hb2 hbx hput))
    exact bodyPost_ret (line11_results HPUT.out.1 HPUT.out.2.1 _ rfl rfl rfl) rfl (HFIN.out _ HPUT.out.2.2)
end Go.Proofs.YthgfjafnclklpaaGreatDoor
end
section
namespace Go.Proofs.YthgfjafnclklpaaGreatDoor
open Go.Lib Sp

/-- the block so far: the last one that was told -/
def blockOn (b n : Int) : Int := if 0 ≤ n then n else b
theorem wordAt_block (c : CmdV) (b : Int) (k : UInt8) (w : Bs) : wordAt c b k w = match wordAt c (-1) k w with
    | .ok (c2, n) => .ok (c2, blockOn b n)
    | .error e => .error e := by
  unfold wordAt blockOn
  by_cases h1 : k = 75
  · simp only [h1, if_pos]; cases legal w <;> simp
  by_cases h2 : k = 70
  · simp only [h2]; cases number w 4294967295 <;> simp
  by_cases h3 : k = 78
  · simp only [h3]; cases number w 2147483647 <;> simp
  by_cases h4 : k = 86
  · simp only [h4]; cases number w 2147483647 <;> simp
  by_cases h5 : k = 67
  · simp only [h5]; cases number w 18446744073709551615 <;> simp
  by_cases h6 : k = 68
  · simp only [h6]; cases number w 18446744073709551615 <;> simp
  by_cases h7 : k = 48
  · simp only [h7]; by_cases hw : w = [48] <;> simp [hw]
  by_cases h8 : k = 87
  · simp only [h8]; by_cases hw : w = slabsW ∨ w = resetW <;> simp [hw]
  by_cases h9 : k = 71
  · simp only [h9]
    generalize c.metas ++ [{ letter := w.headD 0, arg := w.drop 1, has := decide (1 < w.length) }] = M
    by_cases hw : flagsOf c.verb M = [] <;> simp [hw]
  simp only [h1, h2, h3, h4, h5, h6, h7, h8, h9, if_false]
  cases timeOf w with
  | none => rfl
  | some t => by_cases hs : k = 83 ∧ t < 0 <;> simp [hs]
theorem wordsAt_ok {ps : Bs} {i : Nat} {c c2 : CmdV} {b n : Int} {w : Bs} {t : List Bs} (h : wordAt c (-1) (ps.getD (min i (ps.length - 1)) 0) w = .ok (c2, n)) : wordsAt ps i c b (w :: t) = wordsAt ps (i + 1) c2 (blockOn b n) t := by
  conv => lhs; unfold wordsAt
  rw [wordAt_block, h]
theorem wordsAt_error {ps : Bs} {i : Nat} {c : CmdV} {b : Int} {w m : Bs} {t : List Bs} (h : wordAt c (-1) (ps.getD (min i (ps.length - 1)) 0) w = .error m) : wordsAt ps i c b (w :: t) = .error m := by
  conv => lhs; unfold wordsAt
  rw [wordAt_block, h]
end Go.Proofs.YthgfjafnclklpaaGreatDoor
end
section
namespace Go.Proofs.YthgfjafnclklpaaGreatDoor
open Go.RowKit Sp

theorem wordAt_grow {c c2 : CmdV} {b2 : Int} {k : UInt8} {x : Bs} (hk : k = 75 ∨ k = 70 ∨ k = 84 ∨ k = 78 ∨ k = 67 ∨ k = 68 ∨ k = 86 ∨ k = 87 ∨ k = 71 ∨ k = 83 ∨ k = 48) (h : wordAt c (-1) k x = .ok (c2, b2)) : c2.keys.length ≤ c.keys.length + 1 ∧ c2.metas.length ≤ c.metas.length + 1 ∧ ∀ f ∈ c2.metas, f ∈ c.metas ∨ f.arg.length ≤ x.length := by
  have hold : ∀ d : CmdV, d.keys = c.keys → d.metas = c.metas → d.keys.length ≤ c.keys.length + 1 ∧ d.metas.length ≤ c.metas.length + 1 ∧ ∀ f ∈ d.metas, f ∈ c.metas ∨ f.arg.length ≤ x.length := fun d h1 h2 => by
    rw [h1, h2]; exact ⟨Nat.le_succ _, Nat.le_succ _, fun f hf => .inl hf⟩
  rcases hk with rfl | rfl | rfl | rfl | rfl | rfl | rfl | rfl | rfl | rfl | rfl
  · change (if legal x then (Except.ok (({ c with keys := c.keys ++ [x] } : CmdV), (-1 : Int)) : Except Bs (CmdV × Int)) else .error badFormat) = _ at h
    by_cases hl : legal x = true
    · rw [if_pos hl] at h
      injection h with h
      injection h with h _
      subst h
      exact ⟨by simp, Nat.le_succ _, fun f hf => .inl hf⟩
    · rw [if_neg hl] at h; cases h
  · obtain ⟨n, _, rfl, _⟩ := inv_F h; exact hold _ rfl rfl
  · obtain ⟨n, _, rfl, _⟩ := inv_T h; exact hold _ rfl rfl
  · obtain ⟨n, _, rfl, _⟩ := inv_N h; exact hold _ rfl rfl
  · obtain ⟨n, _, rfl, _⟩ := inv_C h; exact hold _ rfl rfl
  · obtain ⟨n, _, rfl, _⟩ := inv_D h; exact hold _ rfl rfl
  · obtain ⟨rfl, _⟩ := inv_V h; exact hold _ rfl rfl
  · obtain ⟨_, rfl, _⟩ := inv_W h; exact hold _ rfl rfl
  · change (if flagsOf c.verb (c.metas ++ [(⟨x.headD 0, x.drop 1, decide (1 < x.length)⟩ : FlagV)]) = [] then (Except.ok (({ c with metas := c.metas ++ [(⟨x.headD 0, x.drop 1, decide (1 < x.length)⟩ : FlagV)] } : CmdV), (-1 : Int)) : Except Bs (CmdV × Int)) else .error (flagsOf c.verb (c.metas ++ [(⟨x.headD 0, x.drop 1, decide (1 < x.length)⟩ : FlagV)]))) = _ at h
    by_cases hl : flagsOf c.verb (c.metas ++ [(⟨x.headD 0, x.drop 1, decide (1 < x.length)⟩ : FlagV)]) = []
    · rw [if_pos hl] at h
      injection h with h
      injection h with h _
      subst h
      refine ⟨Nat.le_succ _, by simp, fun f hf => ?_⟩
      rcases List.mem_append.1 hf with hf | hf
      · exact .inl hf
      · rw [List.mem_singleton.1 hf]
        right
        show (x.drop 1).length ≤ x.length
        rw [List.length_drop]; omega
    · rw [if_neg hl] at h; cases h
  · obtain ⟨n, _, _, rfl, _⟩ := inv_S h; exact hold _ rfl rfl
  · obtain ⟨rfl, _⟩ := inv_0 h; exact hold _ rfl rfl

theorem place_all : ∀ v : Fin 24, ∀ k ∈ (rowBy (v.val + 1)).places, k = 75 ∨ k = 70 ∨ k = 84 ∨ k = 78 ∨ k = 67 ∨ k = 68 ∨ k = 86 ∨ k = 87 ∨ k = 71 ∨ k = 83 ∨ k = 48 := by decide +kernel
theorem place_of {v : Nat} (h1 : 1 ≤ v) (h2 : v ≤ 24) {m : Nat} (hm : m < (rowBy v).places.length) :
    let k := (rowBy v).places.getD m 0
    k = 75 ∨ k = 70 ∨ k = 84 ∨ k = 78 ∨ k = 67 ∨ k = 68 ∨ k = 86 ∨ k = 87 ∨ k = 71 ∨ k = 83 ∨ k = 48 := by
  have := place_all ⟨v - 1, by omega⟩
  rw [show (⟨v - 1, by omega⟩ : Fin 24).val + 1 = v by show v - 1 + 1 = v; omega] at this
  exact this _ (by rw [List.getD_eq_getElem?_getD, List.getElem?_eq_getElem hm]; exact List.getElem_mem _)
theorem more_places : ∀ v : Fin 24, (rowBy (v.val + 1)).more = true → 0 < (rowBy (v.val + 1)).places.length := by decide +kernel
theorem more_of {v : Nat} (h1 : 1 ≤ v) (h2 : v ≤ 24) (h : (rowBy v).more = true) : 0 < (rowBy v).places.length := by
  have := more_places ⟨v - 1, by omega⟩
  rw [show (⟨v - 1, by omega⟩ : Fin 24).val + 1 = v by show v - 1 + 1 = v; omega] at this
  exact this h
theorem zeds_getD (l : Bs) {m : Nat} (h : m < l.length) : (zeds l).getD m 0 = zed (l.getD m 0) := by
  unfold zeds
  rw [List.getD_eq_getElem?_getD, List.getD_eq_getElem?_getD, List.getElem?_map, List.getElem?_eq_getElem h]
  rfl

theorem RowAt.heapEq {w W : World} {A : Option Addr} {xs : List Value} (h : RowAt w A xs) (hk : ∀ k, k < w.heap.size → W.heap[k]? = w.heap[k]?) (hs : w.heap.size ≤ W.heap.size) : RowAt W A xs := by
  rcases h with h | ⟨g, o, h1, h2, h3⟩
  · exact .inl h
  · exact .inr ⟨g, o, h1, Nat.lt_of_lt_of_le h2 hs, fun j u hu => (World.cell?_of_block (a := ⟨g, o + j, none⟩) (hk g h2)).trans (h3 j u hu)⟩

/-- the command so far, beside what was there when the loop began -/
structure LineLoop (wc : World) (g8 : Nat) (c : CmdV) (kv mv : Value) (wr : World) : Prop where
  only : Only g8 wc.heap.size wc wr
  cmd : Blk wr g8 38 (cmdArr c kv nilRow mv)
  own : CmdOwn wr wc.heap.size c kv mv
theorem LineLoop.later {wc wr w' : World} {g8 : Nat} {c : CmdV} {kv mv : Value} (h : LineLoop wc g8 c kv mv wr) (hb : Below wr.heap.size wr w') : LineLoop wc g8 c kv mv w' :=
  ⟨h.only.later hb h.only.size, h.cmd.later hb, h.own.later hb⟩
theorem LineLoop.blk {wc wr : World} {g8 g : Nat} {c : CmdV} {kv mv : Value} {t : TypeId} {cs : Array Value} (h : LineLoop wc g8 c kv mv wr) (hk : Blk wc g t cs) (hne : g ≠ g8) : Blk wr g t cs := hk.same (h.only.block g hk.lt hne)
/-- a word was read: the row's growth lies above, the command is put into its box -/
theorem LineLoop.on {wc wr w' : World} {g8 : Nat} {c c2 : CmdV} {kv mv kv' mv' : Value} (h : LineLoop wc g8 c kv mv wr) (hg8 : g8 < wc.heap.size) (hb : Below wc.heap.size wr w') (ho : CmdOwn w' wc.heap.size c2 kv' mv') :
    LineLoop wc g8 c2 kv' mv' (w'.setCells g8 0 (cmdList c2 kv' nilRow mv')) := by
  have hk : Blk w' g8 38 (cmdArr c kv nilRow mv) := h.cmd.same (hb.block g8 hg8)
  have hs : ∀ k, k ≠ g8 → (w'.setCells g8 0 (cmdList c2 kv' nilRow mv')).heap[k]? = w'.heap[k]? := fun k hk => heap_setCells hk _ _
  refine ⟨⟨?_, ?_, ?_, ?_, fun k hk hne => ?_⟩, hk.putCmd c2 kv' nilRow mv', ⟨own_same ho.keys fun k hk2 => hs k ?_, own_same ho.metas fun k hk2 => hs k ?_⟩⟩
  · exact (World.os_setCells w' g8 _ _).trans (hb.os.trans h.only.os)
  · exact (tape_setCells g8 _ _ _).trans (hb.tape.trans h.only.tape)
  · exact (World.output_setCells w' g8 _ _).trans (hb.output.trans h.only.output)
  · exact Nat.le_trans (Nat.le_trans h.only.size hb.size) (below_setCells_size g8 _ _ _)
  · rw [hs k hne, hb.block k hk]; exact h.only.block k hk hne
  · have := own_ge ho.keys k hk2; omega
  · have := own_ge ho.metas k hk2; omega
/-- what word tells, its command laid open -/
def WordX (w : World) (base : Nat) (c : CmdV) (kv mv : Value) (k : UInt8) (wd : Bs) (e : Ending) (w' : World) : Prop :=
  ∃ (c' : CmdV) (K : Option Addr) (kn kc : Nat) (M : Option Addr) (mn mc : Nat) (n : Int) (t : Bs), e = .returned (.tuple #[.agg #[.int .i64 c'.verb, .slice K kn kc, .int .u64 c'.flags, .int .i64 c'.exptime, .int .u64 c'.token, .int .u64 c'.delta, .slice none 0 0, .bool c'.noreply, .bool c'.large, .slice M mn mc, .string ⟨c'.what.toArray⟩], .int .i64 n, .string ⟨t.toArray⟩]) ∧ Below base w w' ∧ Hid (∀ j, j < w.heap.size → j ∉ rowBlock kv → j ∉ rowBlock mv → w'.heap[j]? = w.heap[j]?) ∧
    Hid (match wordAt c (-1) k wd with
    | .ok (c2, b2) => t = [] ∧ c' = c2 ∧ n = b2 ∧ CmdOwn w' base c2 (.slice K kn kc) (.slice M mn mc)
    | .error m => t = m ∧ t ≠ [])
theorem WordEnd.x {w : World} {base : Nat} {c : CmdV} {kv mv : Value} {k : UInt8} {wd : Bs} {e : Ending} {w' : World} (h : WordEnd w base c kv mv k wd e w') : WordX w base c kv mv k wd e w' := by
  obtain ⟨c', _, _, n, t, ⟨K, kn, kc, rfl⟩, ⟨M, mn, mc, rfl⟩, rfl, hb, hj, hm⟩ := h
  exact ⟨c', K, kn, kc, M, mn, mc, n, t, rfl, hb, Lib.hid hj, Lib.hid hm⟩
/-- what the loop's call of word leaves: the word's command in a box of its own -/
def Worded (base : Nat) (c : CmdV) (k : UInt8) (x : Bs) (wr : World) (p n t : Value) (wx : World) : Prop :=
  ∃ (c' : CmdV) (K : Option Addr) (kn kc : Nat) (M : Option Addr) (mn mc : Nat) (nn : Int) (tt : Bs) (g : Nat), p = .pointer (some ⟨g, 0, none⟩) ∧ n = .int .i64 nn ∧ t = str tt ∧ base ≤ g ∧
    Blk wx g 38 (cmdArr c' (.slice K kn kc) nilRow (.slice M mn mc)) ∧ Below base wr wx ∧
    match wordAt c (-1) k x with
    | .ok (c2, b2) => tt = [] ∧ c' = c2 ∧ nn = b2 ∧ CmdOwn wx base c2 (.slice K kn kc) (.slice M mn mc)
    | .error m => tt = m ∧ tt ≠ []
theorem worded_new {base : Nat} {c c' : CmdV} {k : UInt8} {x : Bs} {wr w2 : World} {K M : Option Addr} {kn kc mn mc : Nat} {n : Int} {t : Bs} (hs : base ≤ w2.heap.size) (hb : Below base wr w2)
    (hm : Hid (match wordAt c (-1) k x with
    | .ok (c2, b2) => t = [] ∧ c' = c2 ∧ n = b2 ∧ CmdOwn w2 base c2 (.slice K kn kc) (.slice M mn mc)
    | .error m => t = m ∧ t ≠ [])) :
    Worded base c k x wr (.pointer (some ⟨w2.heap.size, 0, none⟩)) (.int .i64 n) (.string ⟨t.toArray⟩) (w2.alloc (.cells #[.int .i64 c'.verb, .slice K kn kc, .int .u64 c'.flags, .int .i64 c'.exptime, .int .u64 c'.token, .int .u64 c'.delta, .slice none 0 0, .bool c'.noreply, .bool c'.large, .slice M mn mc, .string ⟨c'.what.toArray⟩] 38)) := by
  show Worded base c k x wr (.pointer (some ⟨w2.heap.size, 0, none⟩)) (.int .i64 n) (str t) (w2.alloc (.cells (cmdArr c' (.slice K kn kc) nilRow (.slice M mn mc)) 38))
  have hb2 := (Below.refl w2.heap.size w2).alloc (Nat.le_refl _) (.cells (cmdArr c' (.slice K kn kc) nilRow (.slice M mn mc)) 38)
  refine ⟨c', K, kn, kc, M, mn, mc, n, t, _, rfl, rfl, rfl, hs, Blk.new w2 _ _, hb.trans (hb2.mono hs), ?_⟩
  have h := hm.out
  cases hw : wordAt c (-1) k x with
  | error m => rw [hw] at h; exact h
  | ok y =>
    obtain ⟨c2, b2⟩ := y
    rw [hw] at h
    exact ⟨h.1, h.2.1, h.2.2.1, h.2.2.2.later hb2⟩
theorem worded_box {base g : Nat} {c c' : CmdV} {k : UInt8} {x : Bs} {wr w2 : World} {K M : Option Addr} {kn kc mn mc : Nat} {n : Int} {t : Bs} (hk : Blk w2 g 38 (cmdArr {} nilRow nilRow nilRow)) (hs : base ≤ g) (hb : Below base wr w2)
    (hm : Hid (match wordAt c (-1) k x with
    | .ok (c2, b2) => t = [] ∧ c' = c2 ∧ n = b2 ∧ CmdOwn w2 base c2 (.slice K kn kc) (.slice M mn mc)
    | .error m => t = m ∧ t ≠ [])) :
    Worded base c k x wr (.pointer (some ⟨g, 0, none⟩)) (.int .i64 n) (.string ⟨t.toArray⟩) (w2.setCells g 0 [.int .i64 c'.verb, .slice K kn kc, .int .u64 c'.flags, .int .i64 c'.exptime, .int .u64 c'.token, .int .u64 c'.delta, .slice none 0 0, .bool c'.noreply, .bool c'.large, .slice M mn mc, .string ⟨c'.what.toArray⟩]) := by
  show Worded base c k x wr (.pointer (some ⟨g, 0, none⟩)) (.int .i64 n) (str t) (w2.setCells g 0 (cmdList c' (.slice K kn kc) nilRow (.slice M mn mc)))
  refine ⟨c', K, kn, kc, M, mn, mc, n, t, _, rfl, rfl, rfl, hs, hk.putCmd _ _ _ _, Below.setCells hs _ 0 hb, ?_⟩
  have h := hm.out
  cases hw : wordAt c (-1) k x with
  | error m => rw [hw] at h; exact h
  | ok y =>
    obtain ⟨c2, b2⟩ := y
    rw [hw] at h
    refine ⟨h.1, h.2.1, h.2.2.1, own_same h.2.2.2.keys fun j hj => heap_setCells (fun e => ?_) _ _, own_same h.2.2.2.metas fun j hj => heap_setCells (fun e => ?_) _ _⟩
    · exact own_apart h.2.2.2.keys hk (by decide) (by rw [← e]; exact mem_rowBlock.1 hj)
    · exact own_apart h.2.2.2.metas hk (by decide) (by rw [← e]; exact mem_rowBlock.1 hj)
theorem LineBoxes.loop {w wc wr : World} {g8 : Nat} {c : CmdV} {kv mv : Value} (h : LineBoxes w wc) (hl : LineLoop wc g8 c kv mv wr) (hg : w.heap.size + 1 < g8) : LineBoxes w wr :=
  ⟨hl.blk h.cmd (by omega), hl.blk h.wrong (by omega), h.below.trans { os := hl.only.os, tape := hl.only.tape, output := hl.only.output, size := hl.only.size, block := fun k hk => hl.only.block k (Nat.lt_trans hk h.cmd.lt) (by omega) }⟩
theorem LineBoxes.laterN {w W W' : World} {n : Nat} (h : LineBoxes w W) (hb : Below n W W') (hn : w.heap.size + 1 < n) : LineBoxes w W' :=
  ⟨h.cmd.same (hb.block _ (by omega)), h.wrong.same (hb.block _ hn), h.below.trans (hb.mono (by omega))⟩
/-- the two boxes filled: what the command owns stands -/
theorem CmdOwn.fin {w wr : World} {base : Nat} {c : CmdV} {kv mv : Value} (ho : CmdOwn wr base c kv mv) (hb : w.heap.size + 1 < base) (xs ys : List Value) :
    CmdOwn ((wr.setCells w.heap.size 0 xs).setCells (w.heap.size + 1) 0 ys) w.heap.size c kv mv := by
  have hs : ∀ j, base ≤ j → ((wr.setCells w.heap.size 0 xs).setCells (w.heap.size + 1) 0 ys).heap[j]? = wr.heap[j]? := fun j hj => (heap_setCells (by omega) _ _).trans (heap_setCells (by omega) _ _)
  refine ⟨own_base (own_same ho.keys fun j hj => hs j (own_ge ho.keys j hj)) fun j hj => ?_, own_base (own_same ho.metas fun j hj => hs j (own_ge ho.metas j hj)) fun j hj => ?_⟩
  · have := own_ge ho.keys j (mem_rowBlock.2 hj); omega
  · have := own_ge ho.metas j (mem_rowBlock.2 hj); omega
end Go.Proofs.YthgfjafnclklpaaGreatDoor
end
