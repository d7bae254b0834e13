/- Walk of the statement WordsFlags. -/
import Derived.Test.YticigfpieeoolaaGreatDoorR5
import Derived.Test.YticigfpieeoolaaGreatDoorW8
import Derived.Test.YticigfpieeoolaaGreatDoorY6
import Derived.Deep.QuietTactic
import Derived.BigQuiet
import Derived.Deep.RegionHeld3
namespace Go.Proofs.YticigfpieeoolaaGreatDoor
attribute [local go_sem ↓] Go.wp_at_zero Go.wp_at_succ
open Go.RowKit

/-- verbs and flags, as they lie in memory -/
def FlaggedAt (w : World) (A : Option Addr) (ls : List (Int × List Sp.FlagV)) : Prop :=
  ∀ i p, ls[i]? = some p → ∃ g o B cap, A = some ⟨g, o, none⟩ ∧ w.cell? ⟨g, o + i * 2, none⟩ = some (.int .i64 p.1) ∧ w.cell? ⟨g, o + i * 2 + 1, none⟩ = some (.slice B p.2.length cap) ∧
    RowAt w B (flagsCells p.2) ∧ (B = none → cap = 0) ∧ p.2.length ≤ cap
theorem cell_later {w w' : World} {p : Addr} {u : Value} (h : w.cell? p = some u) (hb : Below w.heap.size w w') : w'.cell? p = some u := by
  rw [hb.cell (World.block_lt_of_cell? w _ h)]
  exact h
theorem FlaggedAt.below {w w' : World} {A : Option Addr} {ls : List (Int × List Sp.FlagV)} (h : FlaggedAt w A ls) (hb : Below w.heap.size w w') : FlaggedAt w' A ls := fun i p hp => by
  obtain ⟨g, o, B, cap, h1, h2, h3, h4, h5, h6⟩ := h i p hp
  exact ⟨g, o, B, cap, h1, cell_later h2 hb, cell_later h3 hb, h4.below hb, h5, h6⟩

/-- the mark behind the flags -/
def markF : Sp.FlagV := ⟨109, [109, 97, 114, 107], false⟩

theorem flagsCells_len (l : List Sp.FlagV) : (flagsCells l).length = l.length * 3 := by
  induction l with
  | nil => rfl
  | cons f t ih =>
    have e : flagsCells (f :: t) = flagCells f ++ flagsCells t := by simp [flagsCells]
    have e3 : (flagCells f).length = 3 := rfl
    rw [e, List.length_append, ih, e3, List.length_cons]
    omega
theorem own_nil (w : World) (base : Nat) (hb : base ≤ w.heap.size) (t : TypeId) (size : Nat) : (w.alloc (.cells #[] t)).ownsRow base t size (.slice (some ⟨w.heap.size, 0, none⟩) 0 0) 0 [] :=
  ⟨by simp, .inr ⟨w.heap.size, 0, #[], rfl, hb, heap_alloc_new w _, Nat.le_refl _, by unfold maxLen; omega, by simp, by simp⟩⟩

set_option maxHeartbeats 4000000 in
set_option maxRecDepth 100000 in
theorem wordsFlags_any {w : World} (hg : Glob w) (ht : TabAt w) {A : Option Addr} {cap : Nat} {ls : List (Int × List Sp.FlagV)} (hA : FlaggedAt w A ls) (hn : ls.length ≤ 9223372036854775807)
    (hl : ∀ p ∈ ls, p.2.length * 32 ≤ 140737488351232 ∧ ∀ f ∈ p.2, f.arg.length ≤ 140737488355328) :
    Calls Tryz.prog 6 #[.slice A ls.length cap] w fun e w' => e = .returned (.bool true) ∧ Below w.heap.size w w' := by
  obtain ⟨i0, hi, hz0, hz1, hz2⟩ := info_parts info_flag
  generalize hR : (fun (e : Ending) (w' : World) => e = .returned (.bool true) ∧ Below w.heap.size w w') = R
  have HR := Lib.hid hR
  have HG := Lib.hid hg
  have HT := Lib.hid ht
  have HA := Lib.hid hA
  have HL := Lib.hid hl
  clear hR hg ht hA hl
  go_enter Tryz.func6, Tryz.ntmps6
  go_wp2
  go_loopw [3] (fun i wr => ∃ k : Nat, k ≤ ls.length ∧ i = .int .i64 k ∧ Below w.heap.size w wr) (fun i _ => ls.length - (intOf i).toNat)
  case atStart => exact ⟨0, by omega, rfl, Below.refl _ _⟩
  case round =>
    obtain ⟨k, hk, rfl, hbr⟩ := hrel
    by_cases hlt : k < ls.length ∧ k < 200
    · obtain ⟨wo, rfl⟩ : ∃ wo, wo = wr := ⟨wr, rfl⟩
      obtain ⟨⟨v, l⟩, hp⟩ : ∃ p, ls[k]? = some p := ⟨ls[k]'hlt.1, List.getElem?_eq_getElem _⟩
      obtain ⟨hln, hla⟩ := HL.out _ (List.mem_of_getElem? hp)
      obtain ⟨g, o, B, c, hAe, x0, x1, hrow, hB, hc⟩ := HA.out.below hbr k _ hp
      subst hAe
      dsimp only at hln hla x0 x1 hrow hc
      have hk1 : (k : Int) < (ls.length : Int) := by omega
      have hk2 : (k : Int) < 200 := by omega
      have hone : ∀ u ∈ flagsCells l, u.oneCell' = true := fun u hu => by
        simp only [flagsCells, List.mem_flatMap] at hu
        obtain ⟨f, _, hu⟩ := hu
        simp only [flagCells, List.mem_cons, List.not_mem_nil, or_false] at hu
        rcases hu with rfl | rfl | rfl <;> rfl
      have hflen : (flagsCells l).length = l.length * 3 := by
        exact flagsCells_len l
      have hown := own_nil wo wo.heap.size (Nat.le_refl _) 79 3
      have HROW := Lib.hid hrow
      have HBR := Lib.hid hbr
      have HLA := Lib.hid hla
      have HB := Lib.hid hB
      have HONE := Lib.hid hone
      have HFL := Lib.hid hflen
      have HOWN := Lib.hid hown
      have HX0 := Lib.hid x0
      have HX1 := Lib.hid x1
      clear hrow hbr hla hB hone hflen hown hlt hp
      go_upto_region 4 with fail
      go_cut [4] (fun av wx => wx.ownsRow wo.heap.size 79 3 av l.length (flagsCells l) ∧ Below wo.heap.size wo wx)
      case first =>
        have x1a := cell_later x1 (below_one wo (.cells #[] 79))
        go_wp2_with (at_builtin; refine wpList_append_in rfl (.tmp 17) (.tmp 22) _ rfl wo.heap.size 79 i0 _ 3 32 Tryz.underlying39 hi hz0 hz1 hz2 rfl (by decide) (.slice (some ⟨wo.heap.size, 0, none⟩) 0 0) 0 [] rfl HOWN.out B l.length c (flagsCells l) rfl (HROW.out.below (below_one _ _)) HB.out HFL.out HONE.out ?_ ?_ ?_ ?_; (unfold maxLen; omega); omega; simp; intro v3 w3 hown3 hg3; have hb3 : Below wo.heap.size wo w3 := (below_one wo (.cells #[] 79)).grown hg3 (by simp) (fun b hb => by simp [Value.ownBlock] at hb; omega); have HO3 := Lib.hid hown3; have HB3 := Lib.hid hb3; clear hown3 hg3 hb3)
        go_meet
        have h := HO3.out
        rw [Nat.zero_add, List.nil_append] at h
        exact ⟨h, HB3.out⟩
      case rest =>
        obtain ⟨hown, hb⟩ := hcut
        obtain ⟨q1, q2, q3, rfl⟩ := own_slice hown
        have hsw : wo.heap.size ≤ wc.heap.size := hb.size
        have hown2 := own_later hown (below_one wc (.cells (flagCells markF).toArray 79))
        have hge := own_ge hown
        have HOWN2 := Lib.hid hown2
        have HGE := Lib.hid hge
        have HBW := Lib.hid hb
        clear hown hown2 hge hb
        go_upto_region 5 with fail
        go_cut [4] (fun av wx => ∃ g2 c2, av = .slice (some ⟨g2, 0, none⟩) (l.length + 1) c2 ∧ RowAt wx (some ⟨g2, 0, none⟩) (flagsCells l ++ flagCells markF) ∧ l.length + 1 ≤ c2 ∧ Below wo.heap.size wo wx)
        case first =>
          go_wp2_with (at_builtin; refine wpList_append_in rfl (.tmp 24) (.tmp 26) _ rfl wo.heap.size 79 i0 _ 3 32 Tryz.underlying39 hi hz0 hz1 hz2 rfl (by decide) (.slice q1 q2 q3) l.length (flagsCells l) rfl HOWN2.out (some ⟨wc.heap.size, 0, none⟩) 1 1 (flagCells markF) rfl (row_new wc rfl 79 (flagCells markF)) (fun h => by cases h) rfl (by intro u hu; simp only [flagCells, List.mem_cons, List.not_mem_nil, or_false] at hu; rcases hu with rfl | rfl | rfl <;> rfl) ?_ ?_ ?_ ?_; (unfold maxLen; omega); omega; (simp; omega); intro v3 w3 hown3 hg3; have hb3 : Below wo.heap.size wo w3 := (HBW.out.alloc HBW.out.size (.cells (flagCells markF).toArray 79)).grown hg3 (by have := HBW.out.size; simp; omega) (fun b hb => HGE.out b (mem_rowBlock.2 hb)); have HO3 := Lib.hid hown3; have HB3 := Lib.hid hb3; clear hown3 hg3 hb3)
          go_meet
          obtain ⟨g2, c2, rfl, hc2⟩ := own_there HO3.out (by omega)
          exact ⟨g2, c2, rfl, RowAt.of_own HO3.out, hc2, HB3.out⟩
        case rest =>
          obtain ⟨g2, c2, rfl, hr2, hc2, hb2⟩ := hcut
          have hbw := HBR.out.trans (hb2.mono HBR.out.size)
          have hrl : RowAt wc (some ⟨g2, 0, none⟩) (flagsCells l) := by
            have := hr2.take (l.length * 3)
            rwa [List.take_append_of_le_length (by rw [HFL.out]; omega), List.take_of_length_le (by rw [HFL.out]; omega)] at this
          have hfl := fun (W : World) (hb : Below wc.heap.size wc W) => Flags_int v l (some ⟨g2, 0, none⟩) c2 W ((HG.out.later hbw).later hb) (hrl.below hb) (by omega) (by omega) HLA.out
          have y0 := cell_later HX0.out hb2
          have y1 := cell_later HX1.out hb2
          have hrf := fun (W : World) (hb : Below wc.heap.size wc W) => refFlags_int v l B c W ((HROW.out.below hb2).below hb) (by omega) (fun f hf => by have := HLA.out f hf; omega)
          generalize flagsOfI v l = T at hfl hrf
          have HFLG := Lib.hid hfl
          have HRFL := Lib.hid hrf
          have HR2 := Lib.hid hr2
          have HBW2 := Lib.hid hbw
          have HB2 := Lib.hid hb2
          have hlc : (l.length : Int) ≤ (c2 : Int) := by omega
          have hi0 : (0 : Int) ≤ (l.length : Int) := by omega
          have hi1 : (l.length : Int) < (l.length : Int) + 1 := by omega
          have hi2 : (l.length : Int) < ((l.length + 1 : Nat) : Int) := by omega
          clear hfl hrf hr2 hbw hb2 hrl x0 x1
          go_upto_region 6 with fail
          go_region_held3 (fun w' => w'.cell? ⟨g, o + k * 2, none⟩ = some (Value.int .i64 v) ∧ w'.cell? ⟨g, o + k * 2 + 1, none⟩ = some (Value.slice B l.length c)) (first | exact ⟨y0, y1⟩ | go_keep) ((go_at_call 35; refine (HFLG.out _ ((Below.refl _ _).drew)).mono ?_; rintro ee w4 ⟨rfl, hb4⟩; have hb5 := ((Below.refl wc.heap.size wc).drew).trans hb4; have y0 := cell_later y0 hb5; have y1 := cell_later y1 hb5; have HB5 := Lib.hid hb5; clear hb4 hb5))
          have hcm : ∀ i u, (flagCells markF)[i]? = some u → wc.cell? ⟨g2, l.length * 3 + i, none⟩ = some u := fun i u hu => by
            rcases HR2.out with h0 | ⟨g', o', h1, _, h3⟩
            · have := congrArg List.length h0
              simp [flagCells] at this
            · injection h1 with h1
              injection h1 with e1 e2
              subst e1
              subst e2
              have := h3 (l.length * 3 + i) u (by rw [List.getElem?_append_right (by rw [HFL.out]; omega), HFL.out, Nat.add_sub_cancel_left]; exact hu)
              rwa [Nat.zero_add] at this
          have m0 : w4.cell? ⟨g2, l.length * 3, none⟩ = some (.int .u8 109) := cell_later (by have := hcm 0 _ rfl; rwa [Nat.add_zero] at this) HB5.out
          have m1 : w4.cell? ⟨g2, l.length * 3 + 1, none⟩ = some (str [109, 97, 114, 107]) := cell_later (hcm 1 _ rfl) HB5.out
          have m2 : w4.cell? ⟨g2, l.length * 3 + 2, none⟩ = some (.bool false) := cell_later (hcm 2 _ rfl) HB5.out
          clear hcm
          go_upto_region 7 with fail
          go_region_held3 (fun w' => w'.cell? ⟨g, o + k * 2, none⟩ = some (Value.int .i64 v) ∧ w'.cell? ⟨g, o + k * 2 + 1, none⟩ = some (Value.slice B l.length c) ∧ w'.cell? ⟨g2, l.length * 3, none⟩ = some (.int .u8 109) ∧ w'.cell? ⟨g2, l.length * 3 + 1, none⟩ = some (str [109, 97, 114, 107]) ∧ w'.cell? ⟨g2, l.length * 3 + 2, none⟩ = some (.bool false)) (first | exact ⟨y0, y1, m0, m1, m2⟩ | go_keep) ((go_at_call 36; refine (HRFL.out _ HB5.out.drew).mono ?_; rintro ee w6 ⟨rfl, hb6⟩; have hb7 := ((Below.refl w4.heap.size w4).drew).trans hb6; have y0 := cell_later y0 hb7; have y1 := cell_later y1 hb7; have m0 := cell_later m0 hb7; have m1 := cell_later m1 hb7; have m2 := cell_later m2 hb7; have HB7 := Lib.hid (HB5.out.trans (hb7.mono HB5.out.size)); clear hb6 hb7))
          go_wp2_with fail
          go_loopw [6] (fun mv wx => (∃ m : Nat, m ≤ l.length ∧ mv = .int .i64 m) ∧ Below w6.heap.size w6 wx) (fun mv _ => l.length - (intOf mv).toNat)
          case atStart => exact ⟨⟨0, Nat.zero_le _, rfl⟩, Below.refl _ _⟩
          case round =>
            obtain ⟨⟨m, hm, rfl⟩, hb9⟩ := hrel
            have hbc : Below wc.heap.size wc wr := HB7.out.trans (hb9.mono HB7.out.size)
            have z1 := cell_later y1 hb9
            have HB9 := Lib.hid hb9
            have HBC := Lib.hid hbc
            clear hb9 hbc y0 y1 m0 m1 m2
            by_cases hlt2 : m < l.length
            · obtain ⟨f, hf⟩ : ∃ f, l[m]? = some f := ⟨l[m]'hlt2, List.getElem?_eq_getElem _⟩
              have hra : RowAt wc (some ⟨g2, 0, none⟩) (flagsCells l) := by
                have := HR2.out.take (l.length * 3)
                rwa [List.take_append_of_le_length (by rw [HFL.out]; omega), List.take_of_length_le (by rw [HFL.out]; omega)] at this
              obtain ⟨b1, o1, e1, _, n0, n1, n2⟩ := (hra.below HBC.out).flag hf
              injection e1 with e1
              injection e1 with e2 e3
              subst e2
              subst e3
              rw [Nat.zero_add] at n0 n1 n2
              obtain ⟨b2, o2, rfl, _, p0, p1, p2⟩ := ((HROW.out.below HB2.out).below HBC.out).flag hf
              have hm1 : (m : Int) < (l.length : Int) := by omega
              have hm2 : (m : Int) < (l.length : Int) + 1 := by omega
              clear hra hf
              go_wp2_with fail
              go_quiet (fail)
              go_wp2_with fail
              exact ⟨⟨⟨m + 1, by omega, by go_num⟩, below_drew2 HB9.out _⟩, by show l.length - ((m : Int) + 1).toNat < l.length - (m : Int).toNat; omega⟩
            · have hm1 : decide ((m : Int) < (l.length : Int)) = false := decide_eq_false (by omega)
              have hfin := HBW2.out.trans (HBC.out.mono HBW2.out.size)
              have HFIN := Lib.hid hfin
              have hkl : k < ls.length := by omega
              clear hfin
              go_wp2_with fail
              exact ⟨⟨k + 1, by omega, by go_num, HFIN.out⟩, by show ls.length - ((k : Int) + 1).toNat < ls.length - (k : Int).toNat; omega⟩
    · have hwk := wakes11_any (HG.out.later hbr) (HT.out.later HG.out hbr)
      have HWK := Lib.hid hwk
      have HBR := Lib.hid hbr
      clear hwk hbr
      rcases Nat.lt_or_ge k ls.length with h1 | h1
      · have h2 : decide ((k : Int) < 200) = false := decide_eq_false (by omega)
        have h3 : (k : Int) < (ls.length : Int) := by omega
        go_wp2_with (refine HWK.out.mono ?_; rintro e w6 ⟨rfl, hb6⟩; have HB6 := Lib.hid hb6; clear hb6)
        rw [← HR.out]
        exact ⟨rfl, HBR.out.trans (HB6.out.mono HBR.out.size)⟩
      · have h3 : decide ((k : Int) < (ls.length : Int)) = false := decide_eq_false (by omega)
        go_wp2_with (refine HWK.out.mono ?_; rintro e w6 ⟨rfl, hb6⟩; have HB6 := Lib.hid hb6; clear hb6)
        rw [← HR.out]
        exact ⟨rfl, HBR.out.trans (HB6.out.mono HBR.out.size)⟩
end Go.Proofs.YticigfpieeoolaaGreatDoor
