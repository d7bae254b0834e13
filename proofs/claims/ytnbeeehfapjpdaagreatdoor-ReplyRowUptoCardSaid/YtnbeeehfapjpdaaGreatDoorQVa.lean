/- Walk of package reply's reader: number. Walk of package reply's reader: data. Walks of the library: slices.IndexFunc over bytes, at the predicates of package reply's reader. Printed by gen/genVc.py. -/
import Derived.Test.YtnbeeehfapjpdaaGreatDoorQOc
section
namespace Go.Proofs.YtnbeeehfapjpdaaGreatDoor
attribute [local go_sem ↓] Go.wp_at_zero Go.wp_at_succ
open Go.RowKit

/-- what the reading of a number tells -/
def NumPost (w : World) (rb : Nat) (A : Option Addr) (cap : Nat) (raw : Sp.Bs) (p : Nat) (r : Sp.RdV Nat) (e : Ending) (w' : World) : Prop :=
  OnlyIn [rb] w w' ∧ match r with
    | .got n q => e = .returned (.int .u64 n) ∧ RdAt w' rb A cap raw q
    | .more => e = thrownR true ∧ RdAt w' rb A cap raw p
    | .fail => e = thrownR false ∧ RdAt w' rb A cap raw p
/-- where the loop of number stands -/
structure NumLoop (w : World) (most p : Nat) (l : Sp.Bs) (r : Sp.RdV Nat) (i n : Nat) (wr : World) : Prop where
  le : i ≤ l.length
  small : n ≤ most
  go : Sp.numberFrom most p i n (l.drop i) = r
  below : Below w.heap.size w wr
set_option maxHeartbeats 4000000 in
set_option maxRecDepth 100000 in
theorem number_any {w : World} {rb : Nat} {A : Option Addr} {cap : Nat} {raw : Sp.Bs} {p : Nat} (h : RdAt w rb A cap raw p) {most : Nat} (hm : 9 ≤ most) (hm2 : most ≤ 18446744073709551615) :
    Calls Tryz.prog 111 #[.pointer (some ⟨rb, 0, none⟩), .int .u64 most] w (NumPost w rb A cap raw p (Sp.numberR raw most p)) := by
  obtain ⟨r, hr⟩ : ∃ r, r = Sp.numberR raw most p := ⟨_, rfl⟩
  rw [← hr]
  generalize hR : NumPost w rb A cap raw p r = R
  obtain ⟨l, hl⟩ : ∃ l, l = raw.drop p := ⟨_, rfl⟩
  have hlen : l.length = raw.length - p := by rw [hl, List.length_drop]
  have hrest := rest_any h
  have hrow := h.rest
  rw [← hl] at hrow
  unfold restV at hrest
  rw [← hlen] at hrest
  have hf := fun W : World => readerFail_any W rb
  have hstart : NumLoop w most p l r 0 0 w := ⟨Nat.zero_le _, Nat.zero_le _, by rw [hr, List.drop_zero, hl]; rfl, Below.refl _ _⟩
  have hle := h.le
  have hsm := h.small
  have HR := Lib.hid hR
  have HH := Lib.hid h
  have HREST := Lib.hid hrest
  have HROW := Lib.hid hrow
  have HF := Lib.hid hf
  have HS := Lib.hid hstart
  have HLEN := Lib.hid hlen
  generalize cutAddr A p cap = D at HREST HROW
  have hlb : p + l.length ≤ 1000000000000 := by omega
  clear hR h hrest hrow hf hstart hlen hr hl
  go_enter Tryz.func111, Tryz.ntmps111
  go_wp2_with (go_at_call 135; refine HREST.out.mono ?_; rintro e w1 ⟨rfl, hb1⟩; have HB1 := Lib.hid hb1; clear hb1)
  go_loopw [5, 6, 7, 8, 12] (fun nv _ _ _ iv wr => ∃ i n : Nat, iv = .int .i64 i ∧ nv = .int .u64 n ∧ NumLoop w most p l r i n wr) (fun _ _ _ _ iv _ => l.length - (intOf iv).toNat)
  case atStart => exact ⟨0, 0, rfl, rfl, ⟨HS.out.le, HS.out.small, HS.out.go, HB1.out⟩⟩
  case round =>
    obtain ⟨i, n, rfl, rfl, hm1⟩ := hrel
    have hil := hm1.le
    have hns := hm1.small
    by_cases hlt : i < l.length
    · obtain ⟨c, hc⟩ : ∃ c, l[i]? = some c := ⟨l[i], by simp [hlt]⟩
      have hi1 : (i : Int) < (l.length : Int) := by omega
      obtain ⟨g, o, hD, ycell⟩ : ∃ g o, D = some ⟨g, o, none⟩ ∧ wr.cell? ⟨g, o + i, none⟩ = some (.int .u8 c.toNat) := by
        rcases HROW.out.below hm1.below with h0 | ⟨g, o, h1, h2, h3⟩
        · have : l = [] := by simpa [bytesV] using h0
          rw [this] at hlt; simp at hlt
        · exact ⟨g, o, h1, h3 _ _ (by simp [bytesV, hc])⟩
      subst hD
      have hdrop : l.drop i = c :: l.drop (i + 1) := by
        rw [List.drop_eq_getElem_cons hlt]
        congr 1
        rw [List.getElem?_eq_getElem hlt] at hc
        injection hc
      have hgo := hm1.go
      rw [hdrop, Sp.numberFrom] at hgo
      have hcb : c.toNat < 256 := UInt8.toNat_lt c
      obtain ⟨cn, hcn⟩ : ∃ cn, cn = c.toNat := ⟨_, rfl⟩
      have hdig : (c < 48 ∨ 57 < c) ↔ (cn < 48 ∨ 57 < cn) := by
        rw [UInt8.lt_iff_toNat_lt, UInt8.lt_iff_toNat_lt, hcn]; exact Iff.rfl
      rw [← hcn] at ycell hcb hgo
      have HM := Lib.hid hm1
      have hx := HH.out.later hm1.below
      have x1 : wr.cell? ⟨rb, 1, none⟩ = some (.int .i64 p) := hx.blk.cell 1
      have x1f := hx.blk.frozen 1
      have HX := Lib.hid hx
      clear hm1 hc hdrop hx hcn
      by_cases hnd : cn < 48 ∨ 57 < cn
      · rw [if_pos (hdig.2 hnd)] at hgo
        clear hdig
        by_cases hi0 : i = 0
        · rw [if_pos hi0] at hgo
          have gi : ((i : Int) == 0) = true := by rw [hi0]; rfl
          have HGO := Lib.hid hgo
          clear hgo hi0
          by_cases h48 : cn < 48
          · have g1 : (cn : Int) < 48 := by omega
            clear hnd
            go_wp2_with (go_at_call 137; refine (HF.out _).mono ?_; rintro e w2 ⟨rfl, rfl⟩)
            refine ⟨rfl, ?_⟩
            rw [← HR.out, ← HGO.out]
            exact ⟨OnlyIn.of HM.out.below [rb], rfl, HX.out⟩
          · have g1 : decide ((cn : Int) < 48) = false := decide_eq_false (by omega)
            have g2 : (57 : Int) < (cn : Int) := by omega
            clear hnd
            go_wp2_with (go_at_call 137; refine (HF.out _).mono ?_; rintro e w2 ⟨rfl, rfl⟩)
            refine ⟨rfl, ?_⟩
            rw [← HR.out, ← HGO.out]
            exact ⟨OnlyIn.of HM.out.below [rb], rfl, HX.out⟩
        · rw [if_neg hi0] at hgo
          have HGO := Lib.hid hgo
          have gi : ((i : Int) == 0) = false := by simp; omega
          have hmv := HX.out.move (q := p + i) (by have := HLEN.out; omega)
          rw [show ((p + i : Nat) : Int) = (p : Int) + (i : Int) from Int.natCast_add _ _] at hmv
          have HMV := Lib.hid hmv
          clear hgo hmv
          by_cases h48 : cn < 48
          · have g1 : (cn : Int) < 48 := by omega
            clear hnd
            go_wp2_with fail
            rw [← HR.out, ← HGO.out]
            exact ⟨(OnlyIn.of HM.out.below [rb]).setCell (.inl (List.mem_singleton.2 rfl)) 1 _, rfl, HMV.out⟩
          · have g1 : decide ((cn : Int) < 48) = false := decide_eq_false (by omega)
            have g2 : (57 : Int) < (cn : Int) := by omega
            clear hnd
            go_wp2_with fail
            rw [← HR.out, ← HGO.out]
            exact ⟨(OnlyIn.of HM.out.below [rb]).setCell (.inl (List.mem_singleton.2 rfl)) 1 _, rfl, HMV.out⟩
      · rw [if_neg (fun e => hnd (hdig.1 e))] at hgo
        obtain ⟨dn, hdn⟩ : ∃ dn, dn = cn - 48 := ⟨_, rfl⟩
        rw [← hdn] at hgo
        have hd10 : dn < 10 := by omega
        have g1 : decide ((cn : Int) < 48) = false := decide_eq_false (by omega)
        have g2 : decide ((57 : Int) < (cn : Int)) = false := decide_eq_false (by omega)
        have g3 : (cn : Int) - 48 = (dn : Int) := by omega
        have g4 : Int.tdiv ((most : Int) - (dn : Int)) 10 = (((most - dn) / 10 : Nat) : Int) := by
          rw [show (most : Int) - (dn : Int) = ((most - dn : Nat) : Int) by omega]; rfl
        obtain ⟨qn, hqn⟩ : ∃ qn, qn = (most - dn) / 10 := ⟨_, rfl⟩
        rw [← hqn] at hgo g4
        have HQ := Lib.hid hqn
        have HD := Lib.hid hdn
        clear hdig hnd hqn hdn
        by_cases hbad : (0 < i ∧ n = 0) ∨ qn < n
        · rw [if_pos hbad] at hgo
          have HGO := Lib.hid hgo
          clear hgo
          by_cases hA : 0 < i ∧ n = 0
          · obtain ⟨hA1, hA2⟩ := hA
            have gi : (0 : Int) < (i : Int) := by omega
            have gn : ((n : Int) == 0) = true := by rw [hA2]; rfl
            clear hbad hA2
            go_wp2_with (go_at_call 137; refine (HF.out _).mono ?_; rintro e w2 ⟨rfl, rfl⟩)
            refine ⟨rfl, ?_⟩
            rw [← HR.out, ← HGO.out]
            exact ⟨OnlyIn.of HM.out.below [rb], rfl, HX.out⟩
          · have hB : qn < n := hbad.resolve_left hA
            have gq : (qn : Int) < (n : Int) := by omega
            by_cases hi0 : 0 < i
            · have gi : (0 : Int) < (i : Int) := by omega
              have gn : ((n : Int) == 0) = false := by simp; omega
              clear hbad hA
              go_wp2_with (go_at_call 137; refine (HF.out _).mono ?_; rintro e w2 ⟨rfl, rfl⟩)
              refine ⟨rfl, ?_⟩
              rw [← HR.out, ← HGO.out]
              exact ⟨OnlyIn.of HM.out.below [rb], rfl, HX.out⟩
            · have gi : decide ((0 : Int) < (i : Int)) = false := decide_eq_false (by omega)
              clear hbad hA
              go_wp2_with (go_at_call 137; refine (HF.out _).mono ?_; rintro e w2 ⟨rfl, rfl⟩)
              refine ⟨rfl, ?_⟩
              rw [← HR.out, ← HGO.out]
              exact ⟨OnlyIn.of HM.out.below [rb], rfl, HX.out⟩
        · rw [if_neg hbad] at hgo
          have hA : ¬ (0 < i ∧ n = 0) := fun e => hbad (.inl e)
          have hB : ¬ qn < n := fun e => hbad (.inr e)
          have gq : decide ((qn : Int) < (n : Int)) = false := decide_eq_false (by omega)
          have gq2 : decide (qn < n) = false := decide_eq_false hB
          have hqb : qn ≤ 1844674407370955161 := by have := HQ.out; omega
          have hnew : 10 * n + dn ≤ most := by have := HQ.out; omega
          have hstep : NumLoop w most p l r (i + 1) (10 * n + dn) wr := ⟨by omega, hnew, hgo, HM.out.below⟩
          have HST := Lib.hid hstep
          clear hgo hstep
          by_cases hi0 : 0 < i
          · have gi : (0 : Int) < (i : Int) := by omega
            have gn : ((n : Int) == 0) = false := by simp; omega
            clear hbad hA
            go_wp2_with fail
            exact ⟨⟨i + 1, 10 * n + dn, by go_num, by go_num, HST.out⟩, by show l.length - ((i : Int) + 1).toNat < l.length - (i : Int).toNat; omega⟩
          · have gi : decide ((0 : Int) < (i : Int)) = false := decide_eq_false (by omega)
            clear hbad hA
            go_wp2_with fail
            exact ⟨⟨i + 1, 10 * n + dn, by go_num, by go_num, HST.out⟩, by show l.length - ((i : Int) + 1).toNat < l.length - (i : Int).toNat; omega⟩
    · have hi1 : decide ((i : Int) < (l.length : Int)) = false := decide_eq_false (by omega)
      have hi2 : decide (i < l.length) = false := decide_eq_false hlt
      have hgo := hm1.go
      rw [List.drop_eq_nil_of_le (by omega), Sp.numberFrom] at hgo
      have HX := Lib.hid (HH.out.later hm1.below)
      have HB := Lib.hid hm1.below
      have HGO := Lib.hid hgo
      clear hm1 hgo hlt
      go_wp2_with fail
      refine ⟨rfl, ?_⟩
      rw [← HR.out, ← HGO.out]
      exact ⟨OnlyIn.of HB.out [rb], rfl, HX.out⟩
end Go.Proofs.YtnbeeehfapjpdaaGreatDoor
end
section
namespace Go.Proofs.YtnbeeehfapjpdaaGreatDoor
attribute [local go_sem ↓] Go.wp_at_zero Go.wp_at_succ
open Go.RowKit

theorem run_slice_part (W : World) (A : Option Addr) (n cap a b : Nat) (h : a ≤ b) (hb : b ≤ cap) :
    (Instr.slice 29 (.slice A n cap) (some (.int .i64 a)) (some (.int .i64 b)) none).run Tryz.prog W = .ok (.slice (cutAddr A a cap) (b - a) (cap - a)) W := by
  obtain ⟨i0, hi, _, hz1, _⟩ := info_parts info_u8
  have he : Tryz.prog.elem 29 = 5 := by kernel_rfl
  have hu : Tryz.prog.underlying 29 = some (.slice (Tryz.prog.elem 29)) := by kernel_rfl
  rw [run_slice_lh (P := Tryz.prog) W 29 A n cap hu .i64 .i64 (a : Int) (b : Int) (by omega) (by omega) (by omega), he]
  have hs : (sizeOf 5).run Tryz.prog W = .ok 1 W := by simp [sizeOf, typeInfo, hi, hz1]
  rw [hs]
  simp [Result.andThen, sliced, cutAddr]
/-- what the reading of so many bytes tells -/
def DataPost (w : World) (rb : Nat) (A : Option Addr) (cap : Nat) (raw : Sp.Bs) (p : Nat) (r : Sp.RdV Sp.Bs) (e : Ending) (w' : World) : Prop :=
  OnlyIn [rb] w w' ∧ match r with
    | .got d q => (∃ B c, e = .returned (.slice B d.length c) ∧ w'.ownsRow w.heap.size 5 1 (.slice B d.length c) d.length (bytesV d)) ∧ RdAt w' rb A cap raw q
    | .more => e = thrownR true ∧ RdAt w' rb A cap raw p
    | .fail => e = thrownR false ∧ RdAt w' rb A cap raw p
set_option maxHeartbeats 4000000 in
set_option maxRecDepth 100000 in
theorem data_any {w : World} {rb : Nat} {A : Option Addr} {cap : Nat} {raw : Sp.Bs} {p : Nat} (h : RdAt w rb A cap raw p) {n : Nat} (hn : n ≤ 100000000) :
    Calls Tryz.prog 139 #[.pointer (some ⟨rb, 0, none⟩), .int .i64 n] w (DataPost w rb A cap raw p (Sp.dataR raw n p)) := by
  obtain ⟨r, hr⟩ : ∃ r, r = Sp.dataR raw n p := ⟨_, rfl⟩
  rw [← hr]
  generalize hR : DataPost w rb A cap raw p r = R
  have hlen : (raw.drop p).length = raw.length - p := List.length_drop
  unfold Sp.dataR at hr
  rw [hlen] at hr
  have hrest := rest_any h
  unfold restV at hrest
  have hle := h.le
  have hsm := h.small
  have hroom := h.room
  have HR := Lib.hid hR
  have HH := Lib.hid h
  have HREST := Lib.hid hrest
  by_cases hs : raw.length - p < n
  · rw [if_pos hs] at hr
    have hs1 : ((raw.length - p : Nat) : Int) < (n : Int) := by omega
    have HRR := Lib.hid hr
    clear hR h hrest hr
    go_enter Tryz.func139, Tryz.ntmps139
    go_wp2_with (go_at_call 135; refine HREST.out.mono ?_; rintro e w1 ⟨rfl, hb1⟩; have HB1 := Lib.hid hb1; clear hb1)
    refine ⟨rfl, ?_⟩
    rw [← HR.out, HRR.out]
    exact ⟨OnlyIn.of HB1.out [rb], rfl, HH.out.later HB1.out⟩
  · rw [if_neg hs] at hr
    have hs1 : decide (((raw.length - p : Nat) : Int) < (n : Int)) = false := decide_eq_false (by omega)
    have hs2 : decide (raw.length - p < n) = false := decide_eq_false hs
    have hq : p + n ≤ raw.length := by omega
    have hsl : ∀ W : World, (Instr.slice 29 (.slice A raw.length cap) (some (.int .i64 p)) (some (.int .i64 ((p : Int) + (n : Int)))) none).run Tryz.prog W = .ok (.slice (cutAddr A p cap) n (cap - p)) W := fun W => by
      have := run_slice_part W A raw.length cap p (p + n) (by omega) (by omega)
      rw [Int.natCast_add, Nat.add_sub_cancel_left] at this
      exact this
    have htl : ((raw.drop p).take n).length = n := by rw [List.length_take, hlen]; omega
    have HRR := Lib.hid hr
    have HSL := Lib.hid hsl
    clear hR h hrest hr hs
    go_enter Tryz.func139, Tryz.ntmps139
    go_upto_region 4 with (go_at_call 135; refine HREST.out.mono ?_; rintro e w1 ⟨rfl, hb1⟩; have hx1 := HH.out.later hb1; have x1 : w1.cell? ⟨rb, 1, none⟩ = some (.int .i64 p) := hx1.blk.cell 1; have x1f := hx1.blk.frozen 1; have HX1 := Lib.hid hx1; have HB1 := Lib.hid hb1; clear hx1 hb1)
    have hm := HX1.out.move hq
    rw [show ((p + n : Nat) : Int) = (p : Int) + (n : Int) from Int.natCast_add _ _] at hm
    obtain ⟨W2, hW2⟩ : ∃ W2, W2 = w1.setCell ⟨rb, 1, none⟩ (.int .i64 ((p : Int) + (n : Int))) := ⟨_, rfl⟩
    rw [← hW2] at hm
    rw [← hW2]
    have ho2 : OnlyIn [rb] w W2 := by rw [hW2]; exact (OnlyIn.of HB1.out [rb]).setCell (.inl (List.mem_singleton.2 rfl)) 1 _
    have z0 : W2.cell? ⟨rb, 0, none⟩ = some (.slice A raw.length cap) := hm.blk.cell 0
    have z1 : W2.cell? ⟨rb, 1, none⟩ = some (.int .i64 ((p : Int) + (n : Int))) := by
      have := hm.blk.cell 1
      rw [this]
      show some (Value.int .i64 ((p + n : Nat) : Int)) = _
      rw [Int.natCast_add]
    have hpw : IntKind.i64.wrap (p : Int) = (p : Int) := by
      have hpb : p ≤ 1000000000000 := by omega
      have e1 : (p : Int) % 18446744073709551616 = (p : Int) := Int.emod_eq_of_lt (by omega) (by omega)
      have e2 : ¬ (9223372036854775808 ≤ (p : Int)) := by omega
      simp [IntKind.wrap, IntKind.bits, IntKind.signed, e1, e2]
    have hpb2 : (p : Int) + (n : Int) ≤ 1000000000000 := by omega
    have hrow2 : RowAt W2 (cutAddr A p cap) (bytesV ((raw.drop p).take n)) := by
      have hx0 : RowAt W2 (cutAddr A p cap) (bytesV (raw.drop p)) := by
        rw [bytesV_drop]
        exact hm.row.cut (by rw [bytesV_length]; exact hroom)
      have := hx0.take n
      simpa [bytesV, List.map_take] using this
    have hcl : Calls Tryz.prog 161 #[.slice (cutAddr A p cap) n (cap - p)] W2.drew fun e w' => ∃ v, e = .returned v ∧ w'.ownsRow W2.drew.heap.size 5 1 v n (bytesV ((raw.drop p).take n)) ∧ Below W2.drew.heap.size W2.drew w' := by
      have := clone_any (cap := cap - p) (hrow2.below (Below.refl _ _).drew) (by omega)
      rw [htl] at this
      exact this
    have HCL := Lib.hid hcl
    have HM := Lib.hid hm
    have HO2 := Lib.hid ho2
    have hsl2 := HSL.out
    clear hW2 hm ho2 hrow2 hcl x1 x1f
    go_still_tail 15, (by kernel_rfl)
    change wpList _ _ _ _ _ W2.drew
    go_wp2_with (go_at_call 161; refine HCL.out.mono ?_; rintro e w4 ⟨v, rfl, ho4, hb4⟩; have HO4 := Lib.hid ho4; have HB4 := Lib.hid hb4; clear ho4 hb4)
    rw [← HR.out, HRR.out]
    obtain ⟨B, c, hv⟩ := own_form HO4.out
    refine ⟨HO2.out.later ((Below.refl _ _).drew.trans HB4.out), ⟨B, c, ?_, ?_⟩, HM.out.later ((Below.refl _ _).drew.trans HB4.out)⟩
    · rw [htl, ← hv]; rfl
    · rw [htl, ← hv]
      exact World.ownsRow.mono HO4.out HO2.out.size
end Go.Proofs.YtnbeeehfapjpdaaGreatDoor
end
section
namespace Go.Proofs.YtnbeeehfapjpdaaGreatDoor
attribute [local go_sem ↓] Go.wp_at_zero Go.wp_at_succ
open Go.RowKit

theorem text1_any (c : UInt8) (w : World) : Calls Tryz.prog 144 #[.int .u8 c.toNat] w fun e w' => e = .returned (.bool (decide (c < 32 ∨ 126 < c))) ∧ w = w' := by
  have hd : (c < 32 ∨ 126 < c) ↔ (c.toNat < 32 ∨ 126 < c.toNat) := by rw [UInt8.lt_iff_toNat_lt, UInt8.lt_iff_toNat_lt]; exact Iff.rfl
  rw [show decide (c < 32 ∨ 126 < c) = decide (c.toNat < 32 ∨ 126 < c.toNat) from decide_eq_decide.2 hd]
  generalize c.toNat = n
  clear hd
  by_cases h : n < 32
  · rw [decide_eq_true (p := n < 32 ∨ 126 < n) (.inl h)]
    have h1 : (n : Int) < 32 := by omega
    clear h
    go_enter Tryz.func144, Tryz.ntmps144
    go_wp2
    go_ret
    exact ⟨rfl, rfl⟩
  · have h1 : decide ((n : Int) < 32) = false := decide_eq_false (by omega)
    by_cases h2 : 126 < n
    · rw [decide_eq_true (p := n < 32 ∨ 126 < n) (.inr h2)]
      have h3 : (126 : Int) < (n : Int) := by omega
      clear h h2
      go_enter Tryz.func144, Tryz.ntmps144
      go_wp2
      go_ret
      exact ⟨rfl, rfl⟩
    · rw [decide_eq_false (p := n < 32 ∨ 126 < n) (by omega)]
      have h3 : decide ((126 : Int) < (n : Int)) = false := decide_eq_false (by omega)
      clear h h2
      go_enter Tryz.func144, Tryz.ntmps144
      go_wp2
      go_ret
      exact ⟨rfl, rfl⟩
/-- the first element that meets P, or -1 -/
def idxB (P : UInt8 → Bool) (l : Sp.Bs) : Int := match l.findIdx? P with
  | some i => i
  | none => -1
theorem idxB_at {P : UInt8 → Bool} {l : Sp.Bs} {i : Nat} {x : UInt8} (hx : l[i]? = some x) (h : P x = true) (hn : ∀ (j : Nat) (y : UInt8), j < i → l[j]? = some y → P y = false) : idxB P l = i := by
  obtain ⟨h1, h2⟩ := List.getElem?_eq_some_iff.1 hx
  have : l.findIdx? P = some i := List.findIdx?_eq_some_iff_getElem.2 ⟨h1, by rw [h2]; exact h, fun j hj => by
    rw [hn j _ hj (List.getElem?_eq_getElem (by omega))]; decide⟩
  unfold idxB
  rw [this]
theorem idxB_none {P : UInt8 → Bool} {l : Sp.Bs} (hn : ∀ (j : Nat) (y : UInt8), j < l.length → l[j]? = some y → P y = false) : idxB P l = -1 := by
  have : l.findIdx? P = none := List.findIdx?_eq_none_iff.2 fun x hx => by
    obtain ⟨j, hj, rfl⟩ := List.getElem_of_mem hx
    exact hn j _ hj (List.getElem?_eq_getElem hj)
  unfold idxB
  rw [this]
set_option maxHeartbeats 2000000 in
set_option maxRecDepth 100000 in
theorem idx_text {P : UInt8 → Bool} {w : World} {A : Option Addr} {c : Nat} {l : Sp.Bs} (hrow : RowAt w A (bytesV l)) (hl : l.length ≤ 1000000000)
    (hf : ∀ (W : World) (x : UInt8), x ∈ l → Below w.heap.size w W → Calls Tryz.prog 144 #[.int .u8 x.toNat] W fun e w' => e = .returned (.bool (P x)) ∧ Below W.heap.size W w') :
    Calls Tryz.prog 143 #[.slice A l.length c, .func (.func 144) #[] #[]] w fun e w' => e = .returned (.int .i64 (idxB P l)) ∧ Below w.heap.size w w' := by
  generalize hR : (fun (e : Ending) (w' : World) => e = .returned (.int .i64 (idxB P l)) ∧ Below w.heap.size w w') = R
  have HR := Lib.hid hR
  have HF := Lib.hid hf
  have HROW := Lib.hid hrow
  clear hR hf hrow
  go_enter Tryz.func143, Tryz.ntmps143
  go_wp2_with fail
  go_loopw [5, 8] (fun _ k wr => ∃ i : Nat, k = .int .i64 i ∧ i ≤ l.length ∧ (∀ (j : Nat) (y : UInt8), j < i → l[j]? = some y → P y = false) ∧ Below w.heap.size w wr) (fun _ k _ => l.length - (intOf k).toNat)
  case atStart => exact ⟨0, rfl, Nat.zero_le _, fun j y h => by omega, Below.refl _ _⟩
  case round =>
    obtain ⟨i, rfl, hi, hn, hb⟩ := hrel
    have HN := Lib.hid hn
    have HB := Lib.hid hb
    by_cases hlt : i < l.length
    · obtain ⟨x, hx⟩ : ∃ x, l[i]? = some x := ⟨l[i], by simp [hlt]⟩
      have hc := HF.out wr x (List.mem_of_getElem? hx) hb
      obtain ⟨g, o, hAe, ycell⟩ : ∃ g o, A = some ⟨g, o, none⟩ ∧ wr.cell? ⟨g, o + i, none⟩ = some (.int .u8 x.toNat) := by
        rcases HROW.out.below hb with h0 | ⟨g, o, h1, h2, h3⟩
        · have : l = [] := by simpa [bytesV] using h0
          rw [this] at hlt; simp at hlt
        · exact ⟨g, o, h1, h3 _ _ (by simp [bytesV, hx])⟩
      subst hAe
      have hi1 : (i : Int) < (l.length : Int) := by omega
      have HX := Lib.hid hx
      obtain ⟨b, hbv⟩ : ∃ b, b = P x := ⟨_, rfl⟩
      rw [← hbv] at hc
      have HBV := Lib.hid hbv
      have HC := Lib.hid hc
      clear hn hb hx hc hbv
      cases b with
      | true =>
        go_wp2_with (go_at_call 144; refine HC.out.mono ?_; rintro e w2 ⟨rfl, hb2⟩; have HB2 := Lib.hid hb2; clear hb2)
        rw [← HR.out]
        exact ⟨by rw [idxB_at HX.out HBV.out.symm HN.out]; rfl, HB.out.trans (HB2.out.mono HB.out.size)⟩
      | false =>
        go_wp2_with (go_at_call 144; refine HC.out.mono ?_; rintro e w2 ⟨rfl, hb2⟩; have HB2 := Lib.hid hb2; clear hb2)
        refine ⟨⟨i + 1, by go_num, by omega, fun j y hj hy => ?_, HB.out.trans (HB2.out.mono HB.out.size)⟩, by show l.length - ((i : Int) + 1).toNat < l.length - (i : Int).toNat; omega⟩
        rcases Nat.lt_or_ge j i with h1 | h1
        · exact HN.out j y h1 hy
        · have e : j = i := by omega
          have h2 := HX.out
          rw [← e, hy] at h2
          injection h2 with h2
          rw [h2]; exact HBV.out.symm
    · have hi1 : decide ((i : Int) < (l.length : Int)) = false := decide_eq_false (by omega)
      have hi2 : decide (i < l.length) = false := decide_eq_false hlt
      have e : i = l.length := by omega
      clear hn hb
      go_wp2_with fail
      rw [← HR.out]
      exact ⟨by rw [idxB_none (by rw [← e]; exact HN.out)]; rfl, HB.out⟩
set_option maxHeartbeats 2000000 in
set_option maxRecDepth 100000 in
theorem idx_flags {P : UInt8 → Bool} {w : World} {A : Option Addr} {c : Nat} {l : Sp.Bs} (hrow : RowAt w A (bytesV l)) (hl : l.length ≤ 1000000000)
    (hf : ∀ (W : World) (x : UInt8), x ∈ l → Below w.heap.size w W → Calls Tryz.prog 160 #[.int .u8 x.toNat] W fun e w' => e = .returned (.bool (P x)) ∧ Below W.heap.size W w') :
    Calls Tryz.prog 143 #[.slice A l.length c, .func (.func 160) #[] #[]] w fun e w' => e = .returned (.int .i64 (idxB P l)) ∧ Below w.heap.size w w' := by
  generalize hR : (fun (e : Ending) (w' : World) => e = .returned (.int .i64 (idxB P l)) ∧ Below w.heap.size w w') = R
  have HR := Lib.hid hR
  have HF := Lib.hid hf
  have HROW := Lib.hid hrow
  clear hR hf hrow
  go_enter Tryz.func143, Tryz.ntmps143
  go_wp2_with fail
  go_loopw [5, 8] (fun _ k wr => ∃ i : Nat, k = .int .i64 i ∧ i ≤ l.length ∧ (∀ (j : Nat) (y : UInt8), j < i → l[j]? = some y → P y = false) ∧ Below w.heap.size w wr) (fun _ k _ => l.length - (intOf k).toNat)
  case atStart => exact ⟨0, rfl, Nat.zero_le _, fun j y h => by omega, Below.refl _ _⟩
  case round =>
    obtain ⟨i, rfl, hi, hn, hb⟩ := hrel
    have HN := Lib.hid hn
    have HB := Lib.hid hb
    by_cases hlt : i < l.length
    · obtain ⟨x, hx⟩ : ∃ x, l[i]? = some x := ⟨l[i], by simp [hlt]⟩
      have hc := HF.out wr x (List.mem_of_getElem? hx) hb
      obtain ⟨g, o, hAe, ycell⟩ : ∃ g o, A = some ⟨g, o, none⟩ ∧ wr.cell? ⟨g, o + i, none⟩ = some (.int .u8 x.toNat) := by
        rcases HROW.out.below hb with h0 | ⟨g, o, h1, h2, h3⟩
        · have : l = [] := by simpa [bytesV] using h0
          rw [this] at hlt; simp at hlt
        · exact ⟨g, o, h1, h3 _ _ (by simp [bytesV, hx])⟩
      subst hAe
      have hi1 : (i : Int) < (l.length : Int) := by omega
      have HX := Lib.hid hx
      obtain ⟨b, hbv⟩ : ∃ b, b = P x := ⟨_, rfl⟩
      rw [← hbv] at hc
      have HBV := Lib.hid hbv
      have HC := Lib.hid hc
      clear hn hb hx hc hbv
      cases b with
      | true =>
        go_wp2_with (go_at_call 160; refine HC.out.mono ?_; rintro e w2 ⟨rfl, hb2⟩; have HB2 := Lib.hid hb2; clear hb2)
        rw [← HR.out]
        exact ⟨by rw [idxB_at HX.out HBV.out.symm HN.out]; rfl, HB.out.trans (HB2.out.mono HB.out.size)⟩
      | false =>
        go_wp2_with (go_at_call 160; refine HC.out.mono ?_; rintro e w2 ⟨rfl, hb2⟩; have HB2 := Lib.hid hb2; clear hb2)
        refine ⟨⟨i + 1, by go_num, by omega, fun j y hj hy => ?_, HB.out.trans (HB2.out.mono HB.out.size)⟩, by show l.length - ((i : Int) + 1).toNat < l.length - (i : Int).toNat; omega⟩
        rcases Nat.lt_or_ge j i with h1 | h1
        · exact HN.out j y h1 hy
        · have e : j = i := by omega
          have h2 := HX.out
          rw [← e, hy] at h2
          injection h2 with h2
          rw [h2]; exact HBV.out.symm
    · have hi1 : decide ((i : Int) < (l.length : Int)) = false := decide_eq_false (by omega)
      have hi2 : decide (i < l.length) = false := decide_eq_false hlt
      have e : i = l.length := by omega
      clear hn hb
      go_wp2_with fail
      rw [← HR.out]
      exact ⟨by rw [idxB_none (by rw [← e]; exact HN.out)]; rfl, HB.out⟩
end Go.Proofs.YtnbeeehfapjpdaaGreatDoor
end
