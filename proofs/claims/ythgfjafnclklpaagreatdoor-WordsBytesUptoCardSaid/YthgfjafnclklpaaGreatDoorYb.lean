/- Walks of package words: same, of any two commands. Walks of package words: same, of any two commands. -/
import Derived.Test.YthgfjafnclklpaaGreatDoorY4
section
namespace Go.Proofs.YthgfjafnclklpaaGreatDoor
attribute [local go_sem ↓] Go.wp_at_zero Go.wp_at_succ
open Go.RowKit

theorem get_eq_of {α : Type} {l1 l2 : List α} (hl : l1.length = l2.length) (h : ∀ j, j < l1.length → l1[j]? = l2[j]?) : l1 = l2 := by
  apply List.ext_getElem?
  intro j
  rcases Nat.lt_or_ge j l1.length with hj | hj
  · exact h j hj
  · rw [List.getElem?_eq_none hj, List.getElem?_eq_none (by omega)]

set_option maxHeartbeats 4000000 in
set_option maxRecDepth 100000 in
theorem eqTexts_any {w : World} {A B : Option Addr} {ca cb : Nat} {l l2 : List Sp.Bs} (hl : l.length ≤ 1000000000) (hl2 : l2.length ≤ 1000000000) (hA : RowAt w A (l.map str)) (hB : RowAt w B (l2.map str)) :
    Calls Tryz.prog 88 #[.slice A l.length ca, .slice B l2.length cb] w fun e w' => e = .returned (.bool (decide (l = l2))) ∧ Below w.heap.size w w' := by
  by_cases hlen : l.length = l2.length
  · have hno : ∀ (k : Nat) (x y : Sp.Bs), l[k]? = some x → l2[k]? = some y → x ≠ y → decide (l = l2) = false := fun k x y h1 h2 h3 => decide_eq_false (fun e => by subst e; rw [h1] at h2; exact h3 (Option.some.inj h2))
    have hyes : (∀ j, j < l.length → l[j]? = l2[j]?) → decide (l = l2) = true := fun h => decide_eq_true (get_eq_of hlen h)
    generalize decide (l = l2) = d at hno hyes ⊢
    generalize hR : (fun (e : Ending) (w' : World) => e = .returned (.bool d) ∧ Below w.heap.size w w') = R
    rw [← hlen]
    have HR := Lib.hid hR
    have HA := Lib.hid hA
    have HB := Lib.hid hB
    have HN := Lib.hid hno
    have HY := Lib.hid hyes
    have HL := Lib.hid hlen
    clear hR hA hB hno hyes hlen hl2
    go_enter Tryz.func88, Tryz.ntmps88
    go_wp2_with fail
    go_loopw [13] (fun i wx => ∃ k : Nat, k ≤ l.length ∧ i = .int .i64 k ∧ Below w.heap.size w wx ∧ Hid (∀ j, j < k → l[j]? = l2[j]?)) (fun i _ => l.length - (intOf i).toNat)
    case atStart => exact ⟨0, by omega, rfl, Below.refl _ _, Lib.hid (fun j hj => by omega)⟩
    case round =>
      obtain ⟨k, hk, rfl, hb, hsame⟩ := hrel
      by_cases hlt : k < l.length
      · obtain ⟨x, hx⟩ : ∃ x, l[k]? = some x := ⟨l[k], by simp [hlt]⟩
        obtain ⟨y, hy⟩ : ∃ y, l2[k]? = some y := ⟨l2[k]'(by rw [← HL.out]; exact hlt), List.getElem?_eq_getElem _⟩
        obtain ⟨ga, oa, hAe, ya⟩ : ∃ g o, A = some ⟨g, o, none⟩ ∧ wr.cell? ⟨g, o + k, none⟩ = some (str x) := by
          rcases HA.out.below hb with h0 | ⟨g, o, h1, _, h3⟩
          · have : l = [] := by simpa using h0
            rw [this] at hlt; simp at hlt
          · exact ⟨g, o, h1, h3 _ _ (by simp [hx])⟩
        obtain ⟨gb, ob, hBe, yb⟩ : ∃ g o, B = some ⟨g, o, none⟩ ∧ wr.cell? ⟨g, o + k, none⟩ = some (str y) := by
          rcases HB.out.below hb with h0 | ⟨g, o, h1, _, h3⟩
          · have : l2 = [] := by simpa using h0
            rw [this] at hy; simp at hy
          · exact ⟨g, o, h1, h3 _ _ (by simp [hy])⟩
        subst hAe; subst hBe
        have HBX := Lib.hid hb
        clear hb
        by_cases hxy : x = y
        · subst hxy
          have hs2 : ∀ j, j < k + 1 → l[j]? = l2[j]? := fun j hj => by
            rcases Nat.lt_or_ge j k with h | h
            · exact hsame.out j h
            · have : j = k := by omega
              subst this; rw [hx, hy]
          have HS := Lib.hid hs2
          clear hx hy hsame hs2
          go_wp2_with fail
          go_quiet (fail)
          go_wp2_with fail
          exact ⟨⟨k + 1, by omega, by go_num, below_drewN' HBX.out _, HS⟩, by show l.length - ((k : Int) + 1).toNat < l.length - (k : Int).toNat; omega⟩
        · have hd := HN.out k x y hx hy hxy
          have hq : (x == y) = false := by simpa using hxy
          have HD := Lib.hid hd
          clear hx hy hsame hd hxy
          go_wp2_with fail
          go_quiet (fail)
          go_wp2_with fail
          rw [← HR.out, HD.out]
          exact ⟨rfl, below_drewN' HBX.out _⟩
      · have hd := HY.out (fun j hj => hsame.out j (by omega))
        have HD := Lib.hid hd
        have HBX := Lib.hid hb
        clear hb hd hsame
        go_wp2_with fail
        rw [← HR.out, HD.out]
        exact ⟨rfl, HBX.out⟩
  · have hd : decide (l = l2) = false := decide_eq_false (fun e => hlen (by rw [e]))
    rw [hd]
    have hne : ((l.length : Int) == (l2.length : Int)) = false := by rw [beq_eq_false_iff_ne]; omega
    clear hA hB hd hlen
    go_enter Tryz.func88, Tryz.ntmps88
    go_wp2_with fail
    go_ret
    exact ⟨rfl, Below.refl _ _⟩

set_option maxHeartbeats 4000000 in
set_option maxRecDepth 100000 in
theorem eqFlags_any {w : World} {A B : Option Addr} {ca cb : Nat} {l l2 : List Sp.FlagV} (hl : l.length ≤ 1000000000) (hl2 : l2.length ≤ 1000000000) (hA : RowAt w A (flagsCells l)) (hB : RowAt w B (flagsCells l2)) :
    Calls Tryz.prog 90 #[.slice A l.length ca, .slice B l2.length cb] w fun e w' => e = .returned (.bool (decide (l = l2))) ∧ Below w.heap.size w w' := by
  by_cases hlen : l.length = l2.length
  · have hno : ∀ (k : Nat) (x y : Sp.FlagV), l[k]? = some x → l2[k]? = some y → x ≠ y → decide (l = l2) = false := fun k x y h1 h2 h3 => decide_eq_false (fun e => by subst e; rw [h1] at h2; exact h3 (Option.some.inj h2))
    have hyes : (∀ j, j < l.length → l[j]? = l2[j]?) → decide (l = l2) = true := fun h => decide_eq_true (get_eq_of hlen h)
    generalize decide (l = l2) = d at hno hyes ⊢
    generalize hR : (fun (e : Ending) (w' : World) => e = .returned (.bool d) ∧ Below w.heap.size w w') = R
    rw [← hlen]
    have HR := Lib.hid hR
    have HA := Lib.hid hA
    have HB := Lib.hid hB
    have HN := Lib.hid hno
    have HY := Lib.hid hyes
    have HL := Lib.hid hlen
    clear hR hA hB hno hyes hlen hl2
    go_enter Tryz.func90, Tryz.ntmps90
    go_wp2_with fail
    go_loopw [13] (fun i wx => ∃ k : Nat, k ≤ l.length ∧ i = .int .i64 k ∧ Below w.heap.size w wx ∧ Hid (∀ j, j < k → l[j]? = l2[j]?)) (fun i _ => l.length - (intOf i).toNat)
    case atStart => exact ⟨0, by omega, rfl, Below.refl _ _, Lib.hid (fun j hj => by omega)⟩
    case round =>
      obtain ⟨k, hk, rfl, hb, hsame⟩ := hrel
      by_cases hlt : k < l.length
      · obtain ⟨x, hx⟩ : ∃ x, l[k]? = some x := ⟨l[k], by simp [hlt]⟩
        obtain ⟨y, hy⟩ : ∃ y, l2[k]? = some y := ⟨l2[k]'(by rw [← HL.out]; exact hlt), List.getElem?_eq_getElem _⟩
        obtain ⟨ga, oa, hAe, _, ya0, ya1, ya2⟩ := (HA.out.below hb).flag hx
        obtain ⟨gb, ob, hBe, _, yb0, yb1, yb2⟩ := (HB.out.below hb).flag hy
        subst hAe; subst hBe
        have HBX := Lib.hid hb
        clear hb
        by_cases hxy : x = y
        · subst hxy
          have hs2 : ∀ j, j < k + 1 → l[j]? = l2[j]? := fun j hj => by
            rcases Nat.lt_or_ge j k with h | h
            · exact hsame.out j h
            · have : j = k := by omega
              subst this; rw [hx, hy]
          have HS := Lib.hid hs2
          clear hx hy hsame hs2
          go_wp2_with fail
          go_quiet (fail)
          go_wp2_with fail
          exact ⟨⟨k + 1, by omega, by go_num, below_drewN' HBX.out _, HS⟩, by show l.length - ((k : Int) + 1).toNat < l.length - (k : Int).toNat; omega⟩
        · have hd := HN.out k x y hx hy hxy
          have HD := Lib.hid hd
          obtain ⟨x0, x1, x2⟩ := x
          obtain ⟨y0, y1, y2⟩ := y
          dsimp only at ya0 ya1 ya2 yb0 yb1 yb2
          clear hx hy hsame hd
          by_cases q0 : x0 = y0
          · subst q0
            by_cases q1 : x1 = y1
            · subst q1
              have q2 : (x2 == y2) = false := by
                rw [beq_eq_false_iff_ne]; intro e; subst e; exact hxy rfl
              clear hxy
              go_wp2_with fail
              go_quiet (fail)
              go_wp2_with fail
              rw [← HR.out, HD.out]
              exact ⟨rfl, below_drewN' HBX.out _⟩
            · have q1' : (x1 == y1) = false := by simpa using q1
              clear hxy q1
              go_wp2_with fail
              go_quiet (fail)
              go_wp2_with fail
              rw [← HR.out, HD.out]
              exact ⟨rfl, below_drewN' HBX.out _⟩
          · have q0' : ((x0.toNat : Int) == (y0.toNat : Int)) = false := by
              rw [beq_eq_false_iff_ne]; intro e; exact q0 (UInt8.toNat_inj.1 (by omega))
            clear hxy q0
            go_wp2_with fail
            go_quiet (fail)
            go_wp2_with fail
            rw [← HR.out, HD.out]
            exact ⟨rfl, below_drewN' HBX.out _⟩
      · have hd := HY.out (fun j hj => hsame.out j (by omega))
        have HD := Lib.hid hd
        have HBX := Lib.hid hb
        clear hb hd hsame
        go_wp2_with fail
        rw [← HR.out, HD.out]
        exact ⟨rfl, HBX.out⟩
  · have hd : decide (l = l2) = false := decide_eq_false (fun e => hlen (by rw [e]))
    rw [hd]
    have hne : ((l.length : Int) == (l2.length : Int)) = false := by rw [beq_eq_false_iff_ne]; omega
    clear hA hB hd hlen
    go_enter Tryz.func90, Tryz.ntmps90
    go_wp2_with fail
    go_ret
    exact ⟨rfl, Below.refl _ _⟩
end Go.Proofs.YthgfjafnclklpaaGreatDoor
end
section
namespace Go.Proofs.YthgfjafnclklpaaGreatDoor
attribute [local go_sem ↓] Go.wp_at_zero Go.wp_at_succ
open Go.RowKit

theorem bs_eq (l m : Sp.Bs) : (l == m) = decide (l = m) := by
  by_cases h : l = m <;> simp [h]

set_option maxHeartbeats 8000000 in
set_option maxRecDepth 100000 in
theorem same_keys {w : World} {a b : Sp.CmdV} {k1 d1 m1 k2 d2 m2 : Value} (h1 : CmdAt w a k1 d1 m1) (h2 : CmdAt w b k2 d2 m2) (ha1 : a.keys.length ≤ 1000000000) (ha2 : a.metas.length ≤ 1000000000) (hb1 : b.keys.length ≤ 1000000000) (hb2 : b.metas.length ≤ 1000000000) (e1 : decide (a.keys = b.keys) = false) :
    Calls Tryz.prog 46 #[cmdV a k1 d1 m1, cmdV b k2 d2 m2] w fun e w' => e = .returned (.bool false) ∧ Below w.heap.size w w' := by
  generalize hR : (fun (e : Ending) (w' : World) => e = .returned (.bool false) ∧ Below w.heap.size w w') = R
  have hb0 : Below w.heap.size w ((w.alloc (.cells (cmdArr a k1 d1 m1) 38)).alloc (.cells (cmdArr b k2 d2 m2) 38)) :=
    ((Below.refl _ _).alloc (Nat.le_refl _) _).alloc (by simp) _
  have hbx1 : Blk ((w.alloc (.cells (cmdArr a k1 d1 m1) 38)).alloc (.cells (cmdArr b k2 d2 m2) 38)) w.heap.size 38 (cmdArr a k1 d1 m1) := (Blk.new _ _ _).alloc _
  have hbx2 := Blk.new (w.alloc (.cells (cmdArr a k1 d1 m1) 38)) 38 (cmdArr b k2 d2 m2)
  rw [show (w.alloc (.cells (cmdArr a k1 d1 m1) 38)).heap.size = w.heap.size + 1 from by simp] at hbx2
  obtain ⟨⟨A1, a1, rfl, r1⟩, ⟨B1, b1, rfl, s1⟩, ⟨C1, c1, rfl, t1⟩⟩ := h1
  obtain ⟨⟨A2, a2, rfl, r2⟩, ⟨B2, b2, rfl, s2⟩, ⟨C2, c2, rfl, t2⟩⟩ := h2
  have hq1 := fun (W : World) (hb : Below w.heap.size w W) => eqTexts_any (w := W) (ca := a1) (cb := a2) (by omega) (by omega) (r1.below hb) (r2.below hb)
  have hq3 := fun (W : World) (hb : Below w.heap.size w W) => eqFlags_any (w := W) (ca := c1) (cb := c2) (by omega) (by omega) (t1.below hb) (t2.below hb)
  have hq2 := fun (W : World) (hb : Below w.heap.size w W) => (Tryz.bytes_Equal_all B1 B2 a.data.length b1 b.data.length b2 (numsOf a.data) (numsOf b.data) W (numsOf_length _) (numsOf_length _) (bytesIn_row (s1.below hb)) (bytesIn_row (s2.below hb))).mono (R' := fun e w' => e = .returned (.bool (decide (a.data = b.data))) ∧ W = w') fun e w' ⟨g1, g2⟩ => ⟨by rw [g1, bytesOf_nums, bytesOf_nums, bs_eq], g2.symm⟩
  rw [e1] at hq1
  have HR := Lib.hid hR
  have HB0 := Lib.hid hb0
  have HQ1 := Lib.hid hq1
  have HQ2 := Lib.hid hq2
  have HQ3 := Lib.hid hq3
  have HBX1 := Lib.hid hbx1
  have HBX2 := Lib.hid hbx2
  clear hR hb0 hq1 hq2 hq3 hbx1 hbx2 r1 r2 s1 s2 t1 t2 ha1 ha2 hb1 hb2
  go_enter Tryz.func46, Tryz.ntmps46
  go_wp2_with (first | (go_at_call 88; refine (HQ1.out _ HB0.out).mono ?_; rintro e w1 ⟨rfl, hb1⟩; have hbw := HB0.out.trans (hb1.mono HB0.out.size); have hx1 := HBX1.out.later hb1; have hx2 := HBX2.out.later hb1; clear hb1; have x0 : _ = some (Value.int .i64 a.verb) := (hx1).cell 0; have x1 : _ = some (Value.slice A1 a.keys.length a1) := (hx1).cell 1; have x2 : _ = some (Value.int .u64 a.flags) := (hx1).cell 2; have x3 : _ = some (Value.int .i64 a.exptime) := (hx1).cell 3; have x4 : _ = some (Value.int .u64 a.token) := (hx1).cell 4; have x5 : _ = some (Value.int .u64 a.delta) := (hx1).cell 5; have x6 : _ = some (Value.slice B1 a.data.length b1) := (hx1).cell 6; have x7 : _ = some (Value.bool a.noreply) := (hx1).cell 7; have x8 : _ = some (Value.bool a.large) := (hx1).cell 8; have x9 : _ = some (Value.slice C1 a.metas.length c1) := (hx1).cell 9; have x10 : _ = some (str a.what) := (hx1).cell 10; have y0 : _ = some (Value.int .i64 b.verb) := (hx2).cell 0; have y1 : _ = some (Value.slice A2 b.keys.length a2) := (hx2).cell 1; have y2 : _ = some (Value.int .u64 b.flags) := (hx2).cell 2; have y3 : _ = some (Value.int .i64 b.exptime) := (hx2).cell 3; have y4 : _ = some (Value.int .u64 b.token) := (hx2).cell 4; have y5 : _ = some (Value.int .u64 b.delta) := (hx2).cell 5; have y6 : _ = some (Value.slice B2 b.data.length b2) := (hx2).cell 6; have y7 : _ = some (Value.bool b.noreply) := (hx2).cell 7; have y8 : _ = some (Value.bool b.large) := (hx2).cell 8; have y9 : _ = some (Value.slice C2 b.metas.length c2) := (hx2).cell 9; have y10 : _ = some (str b.what) := (hx2).cell 10; have HB1 := Lib.hid hbw; have HX1 := Lib.hid hx1; have HX2 := Lib.hid hx2; clear hbw hx1 hx2))
  all_goals (rw [← HR.out]; exact ⟨rfl, HB1.out⟩)

set_option maxHeartbeats 8000000 in
set_option maxRecDepth 100000 in
theorem same_data {w : World} {a b : Sp.CmdV} {k1 d1 m1 k2 d2 m2 : Value} (h1 : CmdAt w a k1 d1 m1) (h2 : CmdAt w b k2 d2 m2) (ha1 : a.keys.length ≤ 1000000000) (ha2 : a.metas.length ≤ 1000000000) (hb1 : b.keys.length ≤ 1000000000) (hb2 : b.metas.length ≤ 1000000000) (e1 : decide (a.keys = b.keys) = true) (e2 : decide (a.data = b.data) = false) :
    Calls Tryz.prog 46 #[cmdV a k1 d1 m1, cmdV b k2 d2 m2] w fun e w' => e = .returned (.bool false) ∧ Below w.heap.size w w' := by
  generalize hR : (fun (e : Ending) (w' : World) => e = .returned (.bool false) ∧ Below w.heap.size w w') = R
  have hb0 : Below w.heap.size w ((w.alloc (.cells (cmdArr a k1 d1 m1) 38)).alloc (.cells (cmdArr b k2 d2 m2) 38)) :=
    ((Below.refl _ _).alloc (Nat.le_refl _) _).alloc (by simp) _
  have hbx1 : Blk ((w.alloc (.cells (cmdArr a k1 d1 m1) 38)).alloc (.cells (cmdArr b k2 d2 m2) 38)) w.heap.size 38 (cmdArr a k1 d1 m1) := (Blk.new _ _ _).alloc _
  have hbx2 := Blk.new (w.alloc (.cells (cmdArr a k1 d1 m1) 38)) 38 (cmdArr b k2 d2 m2)
  rw [show (w.alloc (.cells (cmdArr a k1 d1 m1) 38)).heap.size = w.heap.size + 1 from by simp] at hbx2
  obtain ⟨⟨A1, a1, rfl, r1⟩, ⟨B1, b1, rfl, s1⟩, ⟨C1, c1, rfl, t1⟩⟩ := h1
  obtain ⟨⟨A2, a2, rfl, r2⟩, ⟨B2, b2, rfl, s2⟩, ⟨C2, c2, rfl, t2⟩⟩ := h2
  have hq1 := fun (W : World) (hb : Below w.heap.size w W) => eqTexts_any (w := W) (ca := a1) (cb := a2) (by omega) (by omega) (r1.below hb) (r2.below hb)
  have hq3 := fun (W : World) (hb : Below w.heap.size w W) => eqFlags_any (w := W) (ca := c1) (cb := c2) (by omega) (by omega) (t1.below hb) (t2.below hb)
  have hq2 := fun (W : World) (hb : Below w.heap.size w W) => (Tryz.bytes_Equal_all B1 B2 a.data.length b1 b.data.length b2 (numsOf a.data) (numsOf b.data) W (numsOf_length _) (numsOf_length _) (bytesIn_row (s1.below hb)) (bytesIn_row (s2.below hb))).mono (R' := fun e w' => e = .returned (.bool (decide (a.data = b.data))) ∧ W = w') fun e w' ⟨g1, g2⟩ => ⟨by rw [g1, bytesOf_nums, bytesOf_nums, bs_eq], g2.symm⟩
  rw [e1] at hq1
  rw [e2] at hq2
  have HR := Lib.hid hR
  have HB0 := Lib.hid hb0
  have HQ1 := Lib.hid hq1
  have HQ2 := Lib.hid hq2
  have HQ3 := Lib.hid hq3
  have HBX1 := Lib.hid hbx1
  have HBX2 := Lib.hid hbx2
  clear hR hb0 hq1 hq2 hq3 hbx1 hbx2 r1 r2 s1 s2 t1 t2 ha1 ha2 hb1 hb2
  go_enter Tryz.func46, Tryz.ntmps46
  go_wp2_with (first | (go_at_call 88; refine (HQ1.out _ HB0.out).mono ?_; rintro e w1 ⟨rfl, hb1⟩; have hbw := HB0.out.trans (hb1.mono HB0.out.size); have hx1 := HBX1.out.later hb1; have hx2 := HBX2.out.later hb1; clear hb1; have x0 : _ = some (Value.int .i64 a.verb) := (hx1).cell 0; have x1 : _ = some (Value.slice A1 a.keys.length a1) := (hx1).cell 1; have x2 : _ = some (Value.int .u64 a.flags) := (hx1).cell 2; have x3 : _ = some (Value.int .i64 a.exptime) := (hx1).cell 3; have x4 : _ = some (Value.int .u64 a.token) := (hx1).cell 4; have x5 : _ = some (Value.int .u64 a.delta) := (hx1).cell 5; have x6 : _ = some (Value.slice B1 a.data.length b1) := (hx1).cell 6; have x7 : _ = some (Value.bool a.noreply) := (hx1).cell 7; have x8 : _ = some (Value.bool a.large) := (hx1).cell 8; have x9 : _ = some (Value.slice C1 a.metas.length c1) := (hx1).cell 9; have x10 : _ = some (str a.what) := (hx1).cell 10; have y0 : _ = some (Value.int .i64 b.verb) := (hx2).cell 0; have y1 : _ = some (Value.slice A2 b.keys.length a2) := (hx2).cell 1; have y2 : _ = some (Value.int .u64 b.flags) := (hx2).cell 2; have y3 : _ = some (Value.int .i64 b.exptime) := (hx2).cell 3; have y4 : _ = some (Value.int .u64 b.token) := (hx2).cell 4; have y5 : _ = some (Value.int .u64 b.delta) := (hx2).cell 5; have y6 : _ = some (Value.slice B2 b.data.length b2) := (hx2).cell 6; have y7 : _ = some (Value.bool b.noreply) := (hx2).cell 7; have y8 : _ = some (Value.bool b.large) := (hx2).cell 8; have y9 : _ = some (Value.slice C2 b.metas.length c2) := (hx2).cell 9; have y10 : _ = some (str b.what) := (hx2).cell 10; have HB1 := Lib.hid hbw; have HX1 := Lib.hid hx1; have HX2 := Lib.hid hx2; clear hbw hx1 hx2) | (go_at_call 89; refine (HQ2.out _ HB1.out).mono ?_; rintro e w' ⟨rfl, rfl⟩))
  all_goals (rw [← HR.out]; exact ⟨rfl, HB1.out⟩)

set_option maxHeartbeats 8000000 in
set_option maxRecDepth 100000 in
theorem same_metas {w : World} {a b : Sp.CmdV} {k1 d1 m1 k2 d2 m2 : Value} (h1 : CmdAt w a k1 d1 m1) (h2 : CmdAt w b k2 d2 m2) (ha1 : a.keys.length ≤ 1000000000) (ha2 : a.metas.length ≤ 1000000000) (hb1 : b.keys.length ≤ 1000000000) (hb2 : b.metas.length ≤ 1000000000) (e1 : decide (a.keys = b.keys) = true) (e2 : decide (a.data = b.data) = true) (e3 : decide (a.metas = b.metas) = false) :
    Calls Tryz.prog 46 #[cmdV a k1 d1 m1, cmdV b k2 d2 m2] w fun e w' => e = .returned (.bool false) ∧ Below w.heap.size w w' := by
  generalize hR : (fun (e : Ending) (w' : World) => e = .returned (.bool false) ∧ Below w.heap.size w w') = R
  have hb0 : Below w.heap.size w ((w.alloc (.cells (cmdArr a k1 d1 m1) 38)).alloc (.cells (cmdArr b k2 d2 m2) 38)) :=
    ((Below.refl _ _).alloc (Nat.le_refl _) _).alloc (by simp) _
  have hbx1 : Blk ((w.alloc (.cells (cmdArr a k1 d1 m1) 38)).alloc (.cells (cmdArr b k2 d2 m2) 38)) w.heap.size 38 (cmdArr a k1 d1 m1) := (Blk.new _ _ _).alloc _
  have hbx2 := Blk.new (w.alloc (.cells (cmdArr a k1 d1 m1) 38)) 38 (cmdArr b k2 d2 m2)
  rw [show (w.alloc (.cells (cmdArr a k1 d1 m1) 38)).heap.size = w.heap.size + 1 from by simp] at hbx2
  obtain ⟨⟨A1, a1, rfl, r1⟩, ⟨B1, b1, rfl, s1⟩, ⟨C1, c1, rfl, t1⟩⟩ := h1
  obtain ⟨⟨A2, a2, rfl, r2⟩, ⟨B2, b2, rfl, s2⟩, ⟨C2, c2, rfl, t2⟩⟩ := h2
  have hq1 := fun (W : World) (hb : Below w.heap.size w W) => eqTexts_any (w := W) (ca := a1) (cb := a2) (by omega) (by omega) (r1.below hb) (r2.below hb)
  have hq3 := fun (W : World) (hb : Below w.heap.size w W) => eqFlags_any (w := W) (ca := c1) (cb := c2) (by omega) (by omega) (t1.below hb) (t2.below hb)
  have hq2 := fun (W : World) (hb : Below w.heap.size w W) => (Tryz.bytes_Equal_all B1 B2 a.data.length b1 b.data.length b2 (numsOf a.data) (numsOf b.data) W (numsOf_length _) (numsOf_length _) (bytesIn_row (s1.below hb)) (bytesIn_row (s2.below hb))).mono (R' := fun e w' => e = .returned (.bool (decide (a.data = b.data))) ∧ W = w') fun e w' ⟨g1, g2⟩ => ⟨by rw [g1, bytesOf_nums, bytesOf_nums, bs_eq], g2.symm⟩
  rw [e1] at hq1
  rw [e2] at hq2
  rw [e3] at hq3
  have HR := Lib.hid hR
  have HB0 := Lib.hid hb0
  have HQ1 := Lib.hid hq1
  have HQ2 := Lib.hid hq2
  have HQ3 := Lib.hid hq3
  have HBX1 := Lib.hid hbx1
  have HBX2 := Lib.hid hbx2
  clear hR hb0 hq1 hq2 hq3 hbx1 hbx2 r1 r2 s1 s2 t1 t2 ha1 ha2 hb1 hb2
  go_enter Tryz.func46, Tryz.ntmps46
  go_wp2_with (first | (go_at_call 88; refine (HQ1.out _ HB0.out).mono ?_; rintro e w1 ⟨rfl, hb1⟩; have hbw := HB0.out.trans (hb1.mono HB0.out.size); have hx1 := HBX1.out.later hb1; have hx2 := HBX2.out.later hb1; clear hb1; have x0 : _ = some (Value.int .i64 a.verb) := (hx1).cell 0; have x1 : _ = some (Value.slice A1 a.keys.length a1) := (hx1).cell 1; have x2 : _ = some (Value.int .u64 a.flags) := (hx1).cell 2; have x3 : _ = some (Value.int .i64 a.exptime) := (hx1).cell 3; have x4 : _ = some (Value.int .u64 a.token) := (hx1).cell 4; have x5 : _ = some (Value.int .u64 a.delta) := (hx1).cell 5; have x6 : _ = some (Value.slice B1 a.data.length b1) := (hx1).cell 6; have x7 : _ = some (Value.bool a.noreply) := (hx1).cell 7; have x8 : _ = some (Value.bool a.large) := (hx1).cell 8; have x9 : _ = some (Value.slice C1 a.metas.length c1) := (hx1).cell 9; have x10 : _ = some (str a.what) := (hx1).cell 10; have y0 : _ = some (Value.int .i64 b.verb) := (hx2).cell 0; have y1 : _ = some (Value.slice A2 b.keys.length a2) := (hx2).cell 1; have y2 : _ = some (Value.int .u64 b.flags) := (hx2).cell 2; have y3 : _ = some (Value.int .i64 b.exptime) := (hx2).cell 3; have y4 : _ = some (Value.int .u64 b.token) := (hx2).cell 4; have y5 : _ = some (Value.int .u64 b.delta) := (hx2).cell 5; have y6 : _ = some (Value.slice B2 b.data.length b2) := (hx2).cell 6; have y7 : _ = some (Value.bool b.noreply) := (hx2).cell 7; have y8 : _ = some (Value.bool b.large) := (hx2).cell 8; have y9 : _ = some (Value.slice C2 b.metas.length c2) := (hx2).cell 9; have y10 : _ = some (str b.what) := (hx2).cell 10; have HB1 := Lib.hid hbw; have HX1 := Lib.hid hx1; have HX2 := Lib.hid hx2; clear hbw hx1 hx2) | (go_at_call 89; refine (HQ2.out _ HB1.out).mono ?_; rintro e w' ⟨rfl, rfl⟩) | (go_at_call 90; refine (HQ3.out _ HB1.out).mono ?_; rintro e w3 ⟨rfl, hb3⟩; have hbw := HB1.out.trans (hb3.mono HB1.out.size); have hx1 := HX1.out.later hb3; have hx2 := HX2.out.later hb3; clear hb3; have p0 : _ = some (Value.int .i64 a.verb) := (hx1).cell 0; have p1 : _ = some (Value.slice A1 a.keys.length a1) := (hx1).cell 1; have p2 : _ = some (Value.int .u64 a.flags) := (hx1).cell 2; have p3 : _ = some (Value.int .i64 a.exptime) := (hx1).cell 3; have p4 : _ = some (Value.int .u64 a.token) := (hx1).cell 4; have p5 : _ = some (Value.int .u64 a.delta) := (hx1).cell 5; have p6 : _ = some (Value.slice B1 a.data.length b1) := (hx1).cell 6; have p7 : _ = some (Value.bool a.noreply) := (hx1).cell 7; have p8 : _ = some (Value.bool a.large) := (hx1).cell 8; have p9 : _ = some (Value.slice C1 a.metas.length c1) := (hx1).cell 9; have p10 : _ = some (str a.what) := (hx1).cell 10; have q0 : _ = some (Value.int .i64 b.verb) := (hx2).cell 0; have q1 : _ = some (Value.slice A2 b.keys.length a2) := (hx2).cell 1; have q2 : _ = some (Value.int .u64 b.flags) := (hx2).cell 2; have q3 : _ = some (Value.int .i64 b.exptime) := (hx2).cell 3; have q4 : _ = some (Value.int .u64 b.token) := (hx2).cell 4; have q5 : _ = some (Value.int .u64 b.delta) := (hx2).cell 5; have q6 : _ = some (Value.slice B2 b.data.length b2) := (hx2).cell 6; have q7 : _ = some (Value.bool b.noreply) := (hx2).cell 7; have q8 : _ = some (Value.bool b.large) := (hx2).cell 8; have q9 : _ = some (Value.slice C2 b.metas.length c2) := (hx2).cell 9; have q10 : _ = some (str b.what) := (hx2).cell 10; have HB3 := Lib.hid hbw; clear hbw hx1 hx2))
  all_goals (rw [← HR.out]; exact ⟨rfl, HB3.out⟩)

set_option maxHeartbeats 8000000 in
set_option maxRecDepth 100000 in
theorem same_what {w : World} {a b : Sp.CmdV} {k1 d1 m1 k2 d2 m2 : Value} (h1 : CmdAt w a k1 d1 m1) (h2 : CmdAt w b k2 d2 m2) (ha1 : a.keys.length ≤ 1000000000) (ha2 : a.metas.length ≤ 1000000000) (hb1 : b.keys.length ≤ 1000000000) (hb2 : b.metas.length ≤ 1000000000) (e1 : decide (a.keys = b.keys) = true) (e2 : decide (a.data = b.data) = true) (e3 : decide (a.metas = b.metas) = true) (e4 : (a.what == b.what) = false) :
    Calls Tryz.prog 46 #[cmdV a k1 d1 m1, cmdV b k2 d2 m2] w fun e w' => e = .returned (.bool false) ∧ Below w.heap.size w w' := by
  generalize hR : (fun (e : Ending) (w' : World) => e = .returned (.bool false) ∧ Below w.heap.size w w') = R
  have hb0 : Below w.heap.size w ((w.alloc (.cells (cmdArr a k1 d1 m1) 38)).alloc (.cells (cmdArr b k2 d2 m2) 38)) :=
    ((Below.refl _ _).alloc (Nat.le_refl _) _).alloc (by simp) _
  have hbx1 : Blk ((w.alloc (.cells (cmdArr a k1 d1 m1) 38)).alloc (.cells (cmdArr b k2 d2 m2) 38)) w.heap.size 38 (cmdArr a k1 d1 m1) := (Blk.new _ _ _).alloc _
  have hbx2 := Blk.new (w.alloc (.cells (cmdArr a k1 d1 m1) 38)) 38 (cmdArr b k2 d2 m2)
  rw [show (w.alloc (.cells (cmdArr a k1 d1 m1) 38)).heap.size = w.heap.size + 1 from by simp] at hbx2
  obtain ⟨⟨A1, a1, rfl, r1⟩, ⟨B1, b1, rfl, s1⟩, ⟨C1, c1, rfl, t1⟩⟩ := h1
  obtain ⟨⟨A2, a2, rfl, r2⟩, ⟨B2, b2, rfl, s2⟩, ⟨C2, c2, rfl, t2⟩⟩ := h2
  have hq1 := fun (W : World) (hb : Below w.heap.size w W) => eqTexts_any (w := W) (ca := a1) (cb := a2) (by omega) (by omega) (r1.below hb) (r2.below hb)
  have hq3 := fun (W : World) (hb : Below w.heap.size w W) => eqFlags_any (w := W) (ca := c1) (cb := c2) (by omega) (by omega) (t1.below hb) (t2.below hb)
  have hq2 := fun (W : World) (hb : Below w.heap.size w W) => (Tryz.bytes_Equal_all B1 B2 a.data.length b1 b.data.length b2 (numsOf a.data) (numsOf b.data) W (numsOf_length _) (numsOf_length _) (bytesIn_row (s1.below hb)) (bytesIn_row (s2.below hb))).mono (R' := fun e w' => e = .returned (.bool (decide (a.data = b.data))) ∧ W = w') fun e w' ⟨g1, g2⟩ => ⟨by rw [g1, bytesOf_nums, bytesOf_nums, bs_eq], g2.symm⟩
  rw [e1] at hq1
  rw [e2] at hq2
  rw [e3] at hq3
  have HR := Lib.hid hR
  have HB0 := Lib.hid hb0
  have HQ1 := Lib.hid hq1
  have HQ2 := Lib.hid hq2
  have HQ3 := Lib.hid hq3
  have HBX1 := Lib.hid hbx1
  have HBX2 := Lib.hid hbx2
  clear hR hb0 hq1 hq2 hq3 hbx1 hbx2 r1 r2 s1 s2 t1 t2 ha1 ha2 hb1 hb2
  go_enter Tryz.func46, Tryz.ntmps46
  go_wp2_with (first | (go_at_call 88; refine (HQ1.out _ HB0.out).mono ?_; rintro e w1 ⟨rfl, hb1⟩; have hbw := HB0.out.trans (hb1.mono HB0.out.size); have hx1 := HBX1.out.later hb1; have hx2 := HBX2.out.later hb1; clear hb1; have x0 : _ = some (Value.int .i64 a.verb) := (hx1).cell 0; have x1 : _ = some (Value.slice A1 a.keys.length a1) := (hx1).cell 1; have x2 : _ = some (Value.int .u64 a.flags) := (hx1).cell 2; have x3 : _ = some (Value.int .i64 a.exptime) := (hx1).cell 3; have x4 : _ = some (Value.int .u64 a.token) := (hx1).cell 4; have x5 : _ = some (Value.int .u64 a.delta) := (hx1).cell 5; have x6 : _ = some (Value.slice B1 a.data.length b1) := (hx1).cell 6; have x7 : _ = some (Value.bool a.noreply) := (hx1).cell 7; have x8 : _ = some (Value.bool a.large) := (hx1).cell 8; have x9 : _ = some (Value.slice C1 a.metas.length c1) := (hx1).cell 9; have x10 : _ = some (str a.what) := (hx1).cell 10; have y0 : _ = some (Value.int .i64 b.verb) := (hx2).cell 0; have y1 : _ = some (Value.slice A2 b.keys.length a2) := (hx2).cell 1; have y2 : _ = some (Value.int .u64 b.flags) := (hx2).cell 2; have y3 : _ = some (Value.int .i64 b.exptime) := (hx2).cell 3; have y4 : _ = some (Value.int .u64 b.token) := (hx2).cell 4; have y5 : _ = some (Value.int .u64 b.delta) := (hx2).cell 5; have y6 : _ = some (Value.slice B2 b.data.length b2) := (hx2).cell 6; have y7 : _ = some (Value.bool b.noreply) := (hx2).cell 7; have y8 : _ = some (Value.bool b.large) := (hx2).cell 8; have y9 : _ = some (Value.slice C2 b.metas.length c2) := (hx2).cell 9; have y10 : _ = some (str b.what) := (hx2).cell 10; have HB1 := Lib.hid hbw; have HX1 := Lib.hid hx1; have HX2 := Lib.hid hx2; clear hbw hx1 hx2) | (go_at_call 89; refine (HQ2.out _ HB1.out).mono ?_; rintro e w' ⟨rfl, rfl⟩) | (go_at_call 90; refine (HQ3.out _ HB1.out).mono ?_; rintro e w3 ⟨rfl, hb3⟩; have hbw := HB1.out.trans (hb3.mono HB1.out.size); have hx1 := HX1.out.later hb3; have hx2 := HX2.out.later hb3; clear hb3; have p0 : _ = some (Value.int .i64 a.verb) := (hx1).cell 0; have p1 : _ = some (Value.slice A1 a.keys.length a1) := (hx1).cell 1; have p2 : _ = some (Value.int .u64 a.flags) := (hx1).cell 2; have p3 : _ = some (Value.int .i64 a.exptime) := (hx1).cell 3; have p4 : _ = some (Value.int .u64 a.token) := (hx1).cell 4; have p5 : _ = some (Value.int .u64 a.delta) := (hx1).cell 5; have p6 : _ = some (Value.slice B1 a.data.length b1) := (hx1).cell 6; have p7 : _ = some (Value.bool a.noreply) := (hx1).cell 7; have p8 : _ = some (Value.bool a.large) := (hx1).cell 8; have p9 : _ = some (Value.slice C1 a.metas.length c1) := (hx1).cell 9; have p10 : _ = some (str a.what) := (hx1).cell 10; have q0 : _ = some (Value.int .i64 b.verb) := (hx2).cell 0; have q1 : _ = some (Value.slice A2 b.keys.length a2) := (hx2).cell 1; have q2 : _ = some (Value.int .u64 b.flags) := (hx2).cell 2; have q3 : _ = some (Value.int .i64 b.exptime) := (hx2).cell 3; have q4 : _ = some (Value.int .u64 b.token) := (hx2).cell 4; have q5 : _ = some (Value.int .u64 b.delta) := (hx2).cell 5; have q6 : _ = some (Value.slice B2 b.data.length b2) := (hx2).cell 6; have q7 : _ = some (Value.bool b.noreply) := (hx2).cell 7; have q8 : _ = some (Value.bool b.large) := (hx2).cell 8; have q9 : _ = some (Value.slice C2 b.metas.length c2) := (hx2).cell 9; have q10 : _ = some (str b.what) := (hx2).cell 10; have HB3 := Lib.hid hbw; clear hbw hx1 hx2))
  all_goals (rw [← HR.out]; exact ⟨rfl, HB3.out⟩)

set_option maxHeartbeats 8000000 in
set_option maxRecDepth 100000 in
theorem same_verb {w : World} {a b : Sp.CmdV} {k1 d1 m1 k2 d2 m2 : Value} (h1 : CmdAt w a k1 d1 m1) (h2 : CmdAt w b k2 d2 m2) (ha1 : a.keys.length ≤ 1000000000) (ha2 : a.metas.length ≤ 1000000000) (hb1 : b.keys.length ≤ 1000000000) (hb2 : b.metas.length ≤ 1000000000) (e1 : decide (a.keys = b.keys) = true) (e2 : decide (a.data = b.data) = true) (e3 : decide (a.metas = b.metas) = true) (e4 : (a.what == b.what) = true) (f0 : ((a.verb : Int) == (b.verb : Int)) = false) :
    Calls Tryz.prog 46 #[cmdV a k1 d1 m1, cmdV b k2 d2 m2] w fun e w' => e = .returned (.bool false) ∧ Below w.heap.size w w' := by
  generalize hR : (fun (e : Ending) (w' : World) => e = .returned (.bool false) ∧ Below w.heap.size w w') = R
  have hb0 : Below w.heap.size w ((w.alloc (.cells (cmdArr a k1 d1 m1) 38)).alloc (.cells (cmdArr b k2 d2 m2) 38)) :=
    ((Below.refl _ _).alloc (Nat.le_refl _) _).alloc (by simp) _
  have hbx1 : Blk ((w.alloc (.cells (cmdArr a k1 d1 m1) 38)).alloc (.cells (cmdArr b k2 d2 m2) 38)) w.heap.size 38 (cmdArr a k1 d1 m1) := (Blk.new _ _ _).alloc _
  have hbx2 := Blk.new (w.alloc (.cells (cmdArr a k1 d1 m1) 38)) 38 (cmdArr b k2 d2 m2)
  rw [show (w.alloc (.cells (cmdArr a k1 d1 m1) 38)).heap.size = w.heap.size + 1 from by simp] at hbx2
  obtain ⟨⟨A1, a1, rfl, r1⟩, ⟨B1, b1, rfl, s1⟩, ⟨C1, c1, rfl, t1⟩⟩ := h1
  obtain ⟨⟨A2, a2, rfl, r2⟩, ⟨B2, b2, rfl, s2⟩, ⟨C2, c2, rfl, t2⟩⟩ := h2
  have hq1 := fun (W : World) (hb : Below w.heap.size w W) => eqTexts_any (w := W) (ca := a1) (cb := a2) (by omega) (by omega) (r1.below hb) (r2.below hb)
  have hq3 := fun (W : World) (hb : Below w.heap.size w W) => eqFlags_any (w := W) (ca := c1) (cb := c2) (by omega) (by omega) (t1.below hb) (t2.below hb)
  have hq2 := fun (W : World) (hb : Below w.heap.size w W) => (Tryz.bytes_Equal_all B1 B2 a.data.length b1 b.data.length b2 (numsOf a.data) (numsOf b.data) W (numsOf_length _) (numsOf_length _) (bytesIn_row (s1.below hb)) (bytesIn_row (s2.below hb))).mono (R' := fun e w' => e = .returned (.bool (decide (a.data = b.data))) ∧ W = w') fun e w' ⟨g1, g2⟩ => ⟨by rw [g1, bytesOf_nums, bytesOf_nums, bs_eq], g2.symm⟩
  rw [e1] at hq1
  rw [e2] at hq2
  rw [e3] at hq3
  have HR := Lib.hid hR
  have HB0 := Lib.hid hb0
  have HQ1 := Lib.hid hq1
  have HQ2 := Lib.hid hq2
  have HQ3 := Lib.hid hq3
  have HBX1 := Lib.hid hbx1
  have HBX2 := Lib.hid hbx2
  clear hR hb0 hq1 hq2 hq3 hbx1 hbx2 r1 r2 s1 s2 t1 t2 ha1 ha2 hb1 hb2
  go_enter Tryz.func46, Tryz.ntmps46
  go_wp2_with (first | (go_at_call 88; refine (HQ1.out _ HB0.out).mono ?_; rintro e w1 ⟨rfl, hb1⟩; have hbw := HB0.out.trans (hb1.mono HB0.out.size); have hx1 := HBX1.out.later hb1; have hx2 := HBX2.out.later hb1; clear hb1; have x0 : _ = some (Value.int .i64 a.verb) := (hx1).cell 0; have x1 : _ = some (Value.slice A1 a.keys.length a1) := (hx1).cell 1; have x2 : _ = some (Value.int .u64 a.flags) := (hx1).cell 2; have x3 : _ = some (Value.int .i64 a.exptime) := (hx1).cell 3; have x4 : _ = some (Value.int .u64 a.token) := (hx1).cell 4; have x5 : _ = some (Value.int .u64 a.delta) := (hx1).cell 5; have x6 : _ = some (Value.slice B1 a.data.length b1) := (hx1).cell 6; have x7 : _ = some (Value.bool a.noreply) := (hx1).cell 7; have x8 : _ = some (Value.bool a.large) := (hx1).cell 8; have x9 : _ = some (Value.slice C1 a.metas.length c1) := (hx1).cell 9; have x10 : _ = some (str a.what) := (hx1).cell 10; have y0 : _ = some (Value.int .i64 b.verb) := (hx2).cell 0; have y1 : _ = some (Value.slice A2 b.keys.length a2) := (hx2).cell 1; have y2 : _ = some (Value.int .u64 b.flags) := (hx2).cell 2; have y3 : _ = some (Value.int .i64 b.exptime) := (hx2).cell 3; have y4 : _ = some (Value.int .u64 b.token) := (hx2).cell 4; have y5 : _ = some (Value.int .u64 b.delta) := (hx2).cell 5; have y6 : _ = some (Value.slice B2 b.data.length b2) := (hx2).cell 6; have y7 : _ = some (Value.bool b.noreply) := (hx2).cell 7; have y8 : _ = some (Value.bool b.large) := (hx2).cell 8; have y9 : _ = some (Value.slice C2 b.metas.length c2) := (hx2).cell 9; have y10 : _ = some (str b.what) := (hx2).cell 10; have HB1 := Lib.hid hbw; have HX1 := Lib.hid hx1; have HX2 := Lib.hid hx2; clear hbw hx1 hx2) | (go_at_call 89; refine (HQ2.out _ HB1.out).mono ?_; rintro e w' ⟨rfl, rfl⟩) | (go_at_call 90; refine (HQ3.out _ HB1.out).mono ?_; rintro e w3 ⟨rfl, hb3⟩; have hbw := HB1.out.trans (hb3.mono HB1.out.size); have hx1 := HX1.out.later hb3; have hx2 := HX2.out.later hb3; clear hb3; have p0 : _ = some (Value.int .i64 a.verb) := (hx1).cell 0; have p1 : _ = some (Value.slice A1 a.keys.length a1) := (hx1).cell 1; have p2 : _ = some (Value.int .u64 a.flags) := (hx1).cell 2; have p3 : _ = some (Value.int .i64 a.exptime) := (hx1).cell 3; have p4 : _ = some (Value.int .u64 a.token) := (hx1).cell 4; have p5 : _ = some (Value.int .u64 a.delta) := (hx1).cell 5; have p6 : _ = some (Value.slice B1 a.data.length b1) := (hx1).cell 6; have p7 : _ = some (Value.bool a.noreply) := (hx1).cell 7; have p8 : _ = some (Value.bool a.large) := (hx1).cell 8; have p9 : _ = some (Value.slice C1 a.metas.length c1) := (hx1).cell 9; have p10 : _ = some (str a.what) := (hx1).cell 10; have q0 : _ = some (Value.int .i64 b.verb) := (hx2).cell 0; have q1 : _ = some (Value.slice A2 b.keys.length a2) := (hx2).cell 1; have q2 : _ = some (Value.int .u64 b.flags) := (hx2).cell 2; have q3 : _ = some (Value.int .i64 b.exptime) := (hx2).cell 3; have q4 : _ = some (Value.int .u64 b.token) := (hx2).cell 4; have q5 : _ = some (Value.int .u64 b.delta) := (hx2).cell 5; have q6 : _ = some (Value.slice B2 b.data.length b2) := (hx2).cell 6; have q7 : _ = some (Value.bool b.noreply) := (hx2).cell 7; have q8 : _ = some (Value.bool b.large) := (hx2).cell 8; have q9 : _ = some (Value.slice C2 b.metas.length c2) := (hx2).cell 9; have q10 : _ = some (str b.what) := (hx2).cell 10; have HB3 := Lib.hid hbw; clear hbw hx1 hx2))
  all_goals (rw [← HR.out]; exact ⟨rfl, HB3.out⟩)

set_option maxHeartbeats 8000000 in
set_option maxRecDepth 100000 in
theorem same_flags {w : World} {a b : Sp.CmdV} {k1 d1 m1 k2 d2 m2 : Value} (h1 : CmdAt w a k1 d1 m1) (h2 : CmdAt w b k2 d2 m2) (ha1 : a.keys.length ≤ 1000000000) (ha2 : a.metas.length ≤ 1000000000) (hb1 : b.keys.length ≤ 1000000000) (hb2 : b.metas.length ≤ 1000000000) (e1 : decide (a.keys = b.keys) = true) (e2 : decide (a.data = b.data) = true) (e3 : decide (a.metas = b.metas) = true) (e4 : (a.what == b.what) = true) (f0 : ((a.verb : Int) == (b.verb : Int)) = true) (f1 : ((a.flags : Int) == (b.flags : Int)) = false) :
    Calls Tryz.prog 46 #[cmdV a k1 d1 m1, cmdV b k2 d2 m2] w fun e w' => e = .returned (.bool false) ∧ Below w.heap.size w w' := by
  generalize hR : (fun (e : Ending) (w' : World) => e = .returned (.bool false) ∧ Below w.heap.size w w') = R
  have hb0 : Below w.heap.size w ((w.alloc (.cells (cmdArr a k1 d1 m1) 38)).alloc (.cells (cmdArr b k2 d2 m2) 38)) :=
    ((Below.refl _ _).alloc (Nat.le_refl _) _).alloc (by simp) _
  have hbx1 : Blk ((w.alloc (.cells (cmdArr a k1 d1 m1) 38)).alloc (.cells (cmdArr b k2 d2 m2) 38)) w.heap.size 38 (cmdArr a k1 d1 m1) := (Blk.new _ _ _).alloc _
  have hbx2 := Blk.new (w.alloc (.cells (cmdArr a k1 d1 m1) 38)) 38 (cmdArr b k2 d2 m2)
  rw [show (w.alloc (.cells (cmdArr a k1 d1 m1) 38)).heap.size = w.heap.size + 1 from by simp] at hbx2
  obtain ⟨⟨A1, a1, rfl, r1⟩, ⟨B1, b1, rfl, s1⟩, ⟨C1, c1, rfl, t1⟩⟩ := h1
  obtain ⟨⟨A2, a2, rfl, r2⟩, ⟨B2, b2, rfl, s2⟩, ⟨C2, c2, rfl, t2⟩⟩ := h2
  have hq1 := fun (W : World) (hb : Below w.heap.size w W) => eqTexts_any (w := W) (ca := a1) (cb := a2) (by omega) (by omega) (r1.below hb) (r2.below hb)
  have hq3 := fun (W : World) (hb : Below w.heap.size w W) => eqFlags_any (w := W) (ca := c1) (cb := c2) (by omega) (by omega) (t1.below hb) (t2.below hb)
  have hq2 := fun (W : World) (hb : Below w.heap.size w W) => (Tryz.bytes_Equal_all B1 B2 a.data.length b1 b.data.length b2 (numsOf a.data) (numsOf b.data) W (numsOf_length _) (numsOf_length _) (bytesIn_row (s1.below hb)) (bytesIn_row (s2.below hb))).mono (R' := fun e w' => e = .returned (.bool (decide (a.data = b.data))) ∧ W = w') fun e w' ⟨g1, g2⟩ => ⟨by rw [g1, bytesOf_nums, bytesOf_nums, bs_eq], g2.symm⟩
  rw [e1] at hq1
  rw [e2] at hq2
  rw [e3] at hq3
  have HR := Lib.hid hR
  have HB0 := Lib.hid hb0
  have HQ1 := Lib.hid hq1
  have HQ2 := Lib.hid hq2
  have HQ3 := Lib.hid hq3
  have HBX1 := Lib.hid hbx1
  have HBX2 := Lib.hid hbx2
  clear hR hb0 hq1 hq2 hq3 hbx1 hbx2 r1 r2 s1 s2 t1 t2 ha1 ha2 hb1 hb2
  go_enter Tryz.func46, Tryz.ntmps46
  go_wp2_with (first | (go_at_call 88; refine (HQ1.out _ HB0.out).mono ?_; rintro e w1 ⟨rfl, hb1⟩; have hbw := HB0.out.trans (hb1.mono HB0.out.size); have hx1 := HBX1.out.later hb1; have hx2 := HBX2.out.later hb1; clear hb1; have x0 : _ = some (Value.int .i64 a.verb) := (hx1).cell 0; have x1 : _ = some (Value.slice A1 a.keys.length a1) := (hx1).cell 1; have x2 : _ = some (Value.int .u64 a.flags) := (hx1).cell 2; have x3 : _ = some (Value.int .i64 a.exptime) := (hx1).cell 3; have x4 : _ = some (Value.int .u64 a.token) := (hx1).cell 4; have x5 : _ = some (Value.int .u64 a.delta) := (hx1).cell 5; have x6 : _ = some (Value.slice B1 a.data.length b1) := (hx1).cell 6; have x7 : _ = some (Value.bool a.noreply) := (hx1).cell 7; have x8 : _ = some (Value.bool a.large) := (hx1).cell 8; have x9 : _ = some (Value.slice C1 a.metas.length c1) := (hx1).cell 9; have x10 : _ = some (str a.what) := (hx1).cell 10; have y0 : _ = some (Value.int .i64 b.verb) := (hx2).cell 0; have y1 : _ = some (Value.slice A2 b.keys.length a2) := (hx2).cell 1; have y2 : _ = some (Value.int .u64 b.flags) := (hx2).cell 2; have y3 : _ = some (Value.int .i64 b.exptime) := (hx2).cell 3; have y4 : _ = some (Value.int .u64 b.token) := (hx2).cell 4; have y5 : _ = some (Value.int .u64 b.delta) := (hx2).cell 5; have y6 : _ = some (Value.slice B2 b.data.length b2) := (hx2).cell 6; have y7 : _ = some (Value.bool b.noreply) := (hx2).cell 7; have y8 : _ = some (Value.bool b.large) := (hx2).cell 8; have y9 : _ = some (Value.slice C2 b.metas.length c2) := (hx2).cell 9; have y10 : _ = some (str b.what) := (hx2).cell 10; have HB1 := Lib.hid hbw; have HX1 := Lib.hid hx1; have HX2 := Lib.hid hx2; clear hbw hx1 hx2) | (go_at_call 89; refine (HQ2.out _ HB1.out).mono ?_; rintro e w' ⟨rfl, rfl⟩) | (go_at_call 90; refine (HQ3.out _ HB1.out).mono ?_; rintro e w3 ⟨rfl, hb3⟩; have hbw := HB1.out.trans (hb3.mono HB1.out.size); have hx1 := HX1.out.later hb3; have hx2 := HX2.out.later hb3; clear hb3; have p0 : _ = some (Value.int .i64 a.verb) := (hx1).cell 0; have p1 : _ = some (Value.slice A1 a.keys.length a1) := (hx1).cell 1; have p2 : _ = some (Value.int .u64 a.flags) := (hx1).cell 2; have p3 : _ = some (Value.int .i64 a.exptime) := (hx1).cell 3; have p4 : _ = some (Value.int .u64 a.token) := (hx1).cell 4; have p5 : _ = some (Value.int .u64 a.delta) := (hx1).cell 5; have p6 : _ = some (Value.slice B1 a.data.length b1) := (hx1).cell 6; have p7 : _ = some (Value.bool a.noreply) := (hx1).cell 7; have p8 : _ = some (Value.bool a.large) := (hx1).cell 8; have p9 : _ = some (Value.slice C1 a.metas.length c1) := (hx1).cell 9; have p10 : _ = some (str a.what) := (hx1).cell 10; have q0 : _ = some (Value.int .i64 b.verb) := (hx2).cell 0; have q1 : _ = some (Value.slice A2 b.keys.length a2) := (hx2).cell 1; have q2 : _ = some (Value.int .u64 b.flags) := (hx2).cell 2; have q3 : _ = some (Value.int .i64 b.exptime) := (hx2).cell 3; have q4 : _ = some (Value.int .u64 b.token) := (hx2).cell 4; have q5 : _ = some (Value.int .u64 b.delta) := (hx2).cell 5; have q6 : _ = some (Value.slice B2 b.data.length b2) := (hx2).cell 6; have q7 : _ = some (Value.bool b.noreply) := (hx2).cell 7; have q8 : _ = some (Value.bool b.large) := (hx2).cell 8; have q9 : _ = some (Value.slice C2 b.metas.length c2) := (hx2).cell 9; have q10 : _ = some (str b.what) := (hx2).cell 10; have HB3 := Lib.hid hbw; clear hbw hx1 hx2))
  all_goals (rw [← HR.out]; exact ⟨rfl, HB3.out⟩)

set_option maxHeartbeats 8000000 in
set_option maxRecDepth 100000 in
theorem same_exptime {w : World} {a b : Sp.CmdV} {k1 d1 m1 k2 d2 m2 : Value} (h1 : CmdAt w a k1 d1 m1) (h2 : CmdAt w b k2 d2 m2) (ha1 : a.keys.length ≤ 1000000000) (ha2 : a.metas.length ≤ 1000000000) (hb1 : b.keys.length ≤ 1000000000) (hb2 : b.metas.length ≤ 1000000000) (e1 : decide (a.keys = b.keys) = true) (e2 : decide (a.data = b.data) = true) (e3 : decide (a.metas = b.metas) = true) (e4 : (a.what == b.what) = true) (f0 : ((a.verb : Int) == (b.verb : Int)) = true) (f1 : ((a.flags : Int) == (b.flags : Int)) = true) (f2 : ((a.exptime : Int) == (b.exptime : Int)) = false) :
    Calls Tryz.prog 46 #[cmdV a k1 d1 m1, cmdV b k2 d2 m2] w fun e w' => e = .returned (.bool false) ∧ Below w.heap.size w w' := by
  generalize hR : (fun (e : Ending) (w' : World) => e = .returned (.bool false) ∧ Below w.heap.size w w') = R
  have hb0 : Below w.heap.size w ((w.alloc (.cells (cmdArr a k1 d1 m1) 38)).alloc (.cells (cmdArr b k2 d2 m2) 38)) :=
    ((Below.refl _ _).alloc (Nat.le_refl _) _).alloc (by simp) _
  have hbx1 : Blk ((w.alloc (.cells (cmdArr a k1 d1 m1) 38)).alloc (.cells (cmdArr b k2 d2 m2) 38)) w.heap.size 38 (cmdArr a k1 d1 m1) := (Blk.new _ _ _).alloc _
  have hbx2 := Blk.new (w.alloc (.cells (cmdArr a k1 d1 m1) 38)) 38 (cmdArr b k2 d2 m2)
  rw [show (w.alloc (.cells (cmdArr a k1 d1 m1) 38)).heap.size = w.heap.size + 1 from by simp] at hbx2
  obtain ⟨⟨A1, a1, rfl, r1⟩, ⟨B1, b1, rfl, s1⟩, ⟨C1, c1, rfl, t1⟩⟩ := h1
  obtain ⟨⟨A2, a2, rfl, r2⟩, ⟨B2, b2, rfl, s2⟩, ⟨C2, c2, rfl, t2⟩⟩ := h2
  have hq1 := fun (W : World) (hb : Below w.heap.size w W) => eqTexts_any (w := W) (ca := a1) (cb := a2) (by omega) (by omega) (r1.below hb) (r2.below hb)
  have hq3 := fun (W : World) (hb : Below w.heap.size w W) => eqFlags_any (w := W) (ca := c1) (cb := c2) (by omega) (by omega) (t1.below hb) (t2.below hb)
  have hq2 := fun (W : World) (hb : Below w.heap.size w W) => (Tryz.bytes_Equal_all B1 B2 a.data.length b1 b.data.length b2 (numsOf a.data) (numsOf b.data) W (numsOf_length _) (numsOf_length _) (bytesIn_row (s1.below hb)) (bytesIn_row (s2.below hb))).mono (R' := fun e w' => e = .returned (.bool (decide (a.data = b.data))) ∧ W = w') fun e w' ⟨g1, g2⟩ => ⟨by rw [g1, bytesOf_nums, bytesOf_nums, bs_eq], g2.symm⟩
  rw [e1] at hq1
  rw [e2] at hq2
  rw [e3] at hq3
  have HR := Lib.hid hR
  have HB0 := Lib.hid hb0
  have HQ1 := Lib.hid hq1
  have HQ2 := Lib.hid hq2
  have HQ3 := Lib.hid hq3
  have HBX1 := Lib.hid hbx1
  have HBX2 := Lib.hid hbx2
  clear hR hb0 hq1 hq2 hq3 hbx1 hbx2 r1 r2 s1 s2 t1 t2 ha1 ha2 hb1 hb2
  go_enter Tryz.func46, Tryz.ntmps46
  go_wp2_with (first | (go_at_call 88; refine (HQ1.out _ HB0.out).mono ?_; rintro e w1 ⟨rfl, hb1⟩; have hbw := HB0.out.trans (hb1.mono HB0.out.size); have hx1 := HBX1.out.later hb1; have hx2 := HBX2.out.later hb1; clear hb1; have x0 : _ = some (Value.int .i64 a.verb) := (hx1).cell 0; have x1 : _ = some (Value.slice A1 a.keys.length a1) := (hx1).cell 1; have x2 : _ = some (Value.int .u64 a.flags) := (hx1).cell 2; have x3 : _ = some (Value.int .i64 a.exptime) := (hx1).cell 3; have x4 : _ = some (Value.int .u64 a.token) := (hx1).cell 4; have x5 : _ = some (Value.int .u64 a.delta) := (hx1).cell 5; have x6 : _ = some (Value.slice B1 a.data.length b1) := (hx1).cell 6; have x7 : _ = some (Value.bool a.noreply) := (hx1).cell 7; have x8 : _ = some (Value.bool a.large) := (hx1).cell 8; have x9 : _ = some (Value.slice C1 a.metas.length c1) := (hx1).cell 9; have x10 : _ = some (str a.what) := (hx1).cell 10; have y0 : _ = some (Value.int .i64 b.verb) := (hx2).cell 0; have y1 : _ = some (Value.slice A2 b.keys.length a2) := (hx2).cell 1; have y2 : _ = some (Value.int .u64 b.flags) := (hx2).cell 2; have y3 : _ = some (Value.int .i64 b.exptime) := (hx2).cell 3; have y4 : _ = some (Value.int .u64 b.token) := (hx2).cell 4; have y5 : _ = some (Value.int .u64 b.delta) := (hx2).cell 5; have y6 : _ = some (Value.slice B2 b.data.length b2) := (hx2).cell 6; have y7 : _ = some (Value.bool b.noreply) := (hx2).cell 7; have y8 : _ = some (Value.bool b.large) := (hx2).cell 8; have y9 : _ = some (Value.slice C2 b.metas.length c2) := (hx2).cell 9; have y10 : _ = some (str b.what) := (hx2).cell 10; have HB1 := Lib.hid hbw; have HX1 := Lib.hid hx1; have HX2 := Lib.hid hx2; clear hbw hx1 hx2) | (go_at_call 89; refine (HQ2.out _ HB1.out).mono ?_; rintro e w' ⟨rfl, rfl⟩) | (go_at_call 90; refine (HQ3.out _ HB1.out).mono ?_; rintro e w3 ⟨rfl, hb3⟩; have hbw := HB1.out.trans (hb3.mono HB1.out.size); have hx1 := HX1.out.later hb3; have hx2 := HX2.out.later hb3; clear hb3; have p0 : _ = some (Value.int .i64 a.verb) := (hx1).cell 0; have p1 : _ = some (Value.slice A1 a.keys.length a1) := (hx1).cell 1; have p2 : _ = some (Value.int .u64 a.flags) := (hx1).cell 2; have p3 : _ = some (Value.int .i64 a.exptime) := (hx1).cell 3; have p4 : _ = some (Value.int .u64 a.token) := (hx1).cell 4; have p5 : _ = some (Value.int .u64 a.delta) := (hx1).cell 5; have p6 : _ = some (Value.slice B1 a.data.length b1) := (hx1).cell 6; have p7 : _ = some (Value.bool a.noreply) := (hx1).cell 7; have p8 : _ = some (Value.bool a.large) := (hx1).cell 8; have p9 : _ = some (Value.slice C1 a.metas.length c1) := (hx1).cell 9; have p10 : _ = some (str a.what) := (hx1).cell 10; have q0 : _ = some (Value.int .i64 b.verb) := (hx2).cell 0; have q1 : _ = some (Value.slice A2 b.keys.length a2) := (hx2).cell 1; have q2 : _ = some (Value.int .u64 b.flags) := (hx2).cell 2; have q3 : _ = some (Value.int .i64 b.exptime) := (hx2).cell 3; have q4 : _ = some (Value.int .u64 b.token) := (hx2).cell 4; have q5 : _ = some (Value.int .u64 b.delta) := (hx2).cell 5; have q6 : _ = some (Value.slice B2 b.data.length b2) := (hx2).cell 6; have q7 : _ = some (Value.bool b.noreply) := (hx2).cell 7; have q8 : _ = some (Value.bool b.large) := (hx2).cell 8; have q9 : _ = some (Value.slice C2 b.metas.length c2) := (hx2).cell 9; have q10 : _ = some (str b.what) := (hx2).cell 10; have HB3 := Lib.hid hbw; clear hbw hx1 hx2))
  all_goals (rw [← HR.out]; exact ⟨rfl, HB3.out⟩)

set_option maxHeartbeats 8000000 in
set_option maxRecDepth 100000 in
theorem same_token {w : World} {a b : Sp.CmdV} {k1 d1 m1 k2 d2 m2 : Value} (h1 : CmdAt w a k1 d1 m1) (h2 : CmdAt w b k2 d2 m2) (ha1 : a.keys.length ≤ 1000000000) (ha2 : a.metas.length ≤ 1000000000) (hb1 : b.keys.length ≤ 1000000000) (hb2 : b.metas.length ≤ 1000000000) (e1 : decide (a.keys = b.keys) = true) (e2 : decide (a.data = b.data) = true) (e3 : decide (a.metas = b.metas) = true) (e4 : (a.what == b.what) = true) (f0 : ((a.verb : Int) == (b.verb : Int)) = true) (f1 : ((a.flags : Int) == (b.flags : Int)) = true) (f2 : ((a.exptime : Int) == (b.exptime : Int)) = true) (f3 : ((a.token : Int) == (b.token : Int)) = false) :
    Calls Tryz.prog 46 #[cmdV a k1 d1 m1, cmdV b k2 d2 m2] w fun e w' => e = .returned (.bool false) ∧ Below w.heap.size w w' := by
  generalize hR : (fun (e : Ending) (w' : World) => e = .returned (.bool false) ∧ Below w.heap.size w w') = R
  have hb0 : Below w.heap.size w ((w.alloc (.cells (cmdArr a k1 d1 m1) 38)).alloc (.cells (cmdArr b k2 d2 m2) 38)) :=
    ((Below.refl _ _).alloc (Nat.le_refl _) _).alloc (by simp) _
  have hbx1 : Blk ((w.alloc (.cells (cmdArr a k1 d1 m1) 38)).alloc (.cells (cmdArr b k2 d2 m2) 38)) w.heap.size 38 (cmdArr a k1 d1 m1) := (Blk.new _ _ _).alloc _
  have hbx2 := Blk.new (w.alloc (.cells (cmdArr a k1 d1 m1) 38)) 38 (cmdArr b k2 d2 m2)
  rw [show (w.alloc (.cells (cmdArr a k1 d1 m1) 38)).heap.size = w.heap.size + 1 from by simp] at hbx2
  obtain ⟨⟨A1, a1, rfl, r1⟩, ⟨B1, b1, rfl, s1⟩, ⟨C1, c1, rfl, t1⟩⟩ := h1
  obtain ⟨⟨A2, a2, rfl, r2⟩, ⟨B2, b2, rfl, s2⟩, ⟨C2, c2, rfl, t2⟩⟩ := h2
  have hq1 := fun (W : World) (hb : Below w.heap.size w W) => eqTexts_any (w := W) (ca := a1) (cb := a2) (by omega) (by omega) (r1.below hb) (r2.below hb)
  have hq3 := fun (W : World) (hb : Below w.heap.size w W) => eqFlags_any (w := W) (ca := c1) (cb := c2) (by omega) (by omega) (t1.below hb) (t2.below hb)
  have hq2 := fun (W : World) (hb : Below w.heap.size w W) => (Tryz.bytes_Equal_all B1 B2 a.data.length b1 b.data.length b2 (numsOf a.data) (numsOf b.data) W (numsOf_length _) (numsOf_length _) (bytesIn_row (s1.below hb)) (bytesIn_row (s2.below hb))).mono (R' := fun e w' => e = .returned (.bool (decide (a.data = b.data))) ∧ W = w') fun e w' ⟨g1, g2⟩ => ⟨by rw [g1, bytesOf_nums, bytesOf_nums, bs_eq], g2.symm⟩
  rw [e1] at hq1
  rw [e2] at hq2
  rw [e3] at hq3
  have HR := Lib.hid hR
  have HB0 := Lib.hid hb0
  have HQ1 := Lib.hid hq1
  have HQ2 := Lib.hid hq2
  have HQ3 := Lib.hid hq3
  have HBX1 := Lib.hid hbx1
  have HBX2 := Lib.hid hbx2
  clear hR hb0 hq1 hq2 hq3 hbx1 hbx2 r1 r2 s1 s2 t1 t2 ha1 ha2 hb1 hb2
  go_enter Tryz.func46, Tryz.ntmps46
  go_wp2_with (first | (go_at_call 88; refine (HQ1.out _ HB0.out).mono ?_; rintro e w1 ⟨rfl, hb1⟩; have hbw := HB0.out.trans (hb1.mono HB0.out.size); have hx1 := HBX1.out.later hb1; have hx2 := HBX2.out.later hb1; clear hb1; have x0 : _ = some (Value.int .i64 a.verb) := (hx1).cell 0; have x1 : _ = some (Value.slice A1 a.keys.length a1) := (hx1).cell 1; have x2 : _ = some (Value.int .u64 a.flags) := (hx1).cell 2; have x3 : _ = some (Value.int .i64 a.exptime) := (hx1).cell 3; have x4 : _ = some (Value.int .u64 a.token) := (hx1).cell 4; have x5 : _ = some (Value.int .u64 a.delta) := (hx1).cell 5; have x6 : _ = some (Value.slice B1 a.data.length b1) := (hx1).cell 6; have x7 : _ = some (Value.bool a.noreply) := (hx1).cell 7; have x8 : _ = some (Value.bool a.large) := (hx1).cell 8; have x9 : _ = some (Value.slice C1 a.metas.length c1) := (hx1).cell 9; have x10 : _ = some (str a.what) := (hx1).cell 10; have y0 : _ = some (Value.int .i64 b.verb) := (hx2).cell 0; have y1 : _ = some (Value.slice A2 b.keys.length a2) := (hx2).cell 1; have y2 : _ = some (Value.int .u64 b.flags) := (hx2).cell 2; have y3 : _ = some (Value.int .i64 b.exptime) := (hx2).cell 3; have y4 : _ = some (Value.int .u64 b.token) := (hx2).cell 4; have y5 : _ = some (Value.int .u64 b.delta) := (hx2).cell 5; have y6 : _ = some (Value.slice B2 b.data.length b2) := (hx2).cell 6; have y7 : _ = some (Value.bool b.noreply) := (hx2).cell 7; have y8 : _ = some (Value.bool b.large) := (hx2).cell 8; have y9 : _ = some (Value.slice C2 b.metas.length c2) := (hx2).cell 9; have y10 : _ = some (str b.what) := (hx2).cell 10; have HB1 := Lib.hid hbw; have HX1 := Lib.hid hx1; have HX2 := Lib.hid hx2; clear hbw hx1 hx2) | (go_at_call 89; refine (HQ2.out _ HB1.out).mono ?_; rintro e w' ⟨rfl, rfl⟩) | (go_at_call 90; refine (HQ3.out _ HB1.out).mono ?_; rintro e w3 ⟨rfl, hb3⟩; have hbw := HB1.out.trans (hb3.mono HB1.out.size); have hx1 := HX1.out.later hb3; have hx2 := HX2.out.later hb3; clear hb3; have p0 : _ = some (Value.int .i64 a.verb) := (hx1).cell 0; have p1 : _ = some (Value.slice A1 a.keys.length a1) := (hx1).cell 1; have p2 : _ = some (Value.int .u64 a.flags) := (hx1).cell 2; have p3 : _ = some (Value.int .i64 a.exptime) := (hx1).cell 3; have p4 : _ = some (Value.int .u64 a.token) := (hx1).cell 4; have p5 : _ = some (Value.int .u64 a.delta) := (hx1).cell 5; have p6 : _ = some (Value.slice B1 a.data.length b1) := (hx1).cell 6; have p7 : _ = some (Value.bool a.noreply) := (hx1).cell 7; have p8 : _ = some (Value.bool a.large) := (hx1).cell 8; have p9 : _ = some (Value.slice C1 a.metas.length c1) := (hx1).cell 9; have p10 : _ = some (str a.what) := (hx1).cell 10; have q0 : _ = some (Value.int .i64 b.verb) := (hx2).cell 0; have q1 : _ = some (Value.slice A2 b.keys.length a2) := (hx2).cell 1; have q2 : _ = some (Value.int .u64 b.flags) := (hx2).cell 2; have q3 : _ = some (Value.int .i64 b.exptime) := (hx2).cell 3; have q4 : _ = some (Value.int .u64 b.token) := (hx2).cell 4; have q5 : _ = some (Value.int .u64 b.delta) := (hx2).cell 5; have q6 : _ = some (Value.slice B2 b.data.length b2) := (hx2).cell 6; have q7 : _ = some (Value.bool b.noreply) := (hx2).cell 7; have q8 : _ = some (Value.bool b.large) := (hx2).cell 8; have q9 : _ = some (Value.slice C2 b.metas.length c2) := (hx2).cell 9; have q10 : _ = some (str b.what) := (hx2).cell 10; have HB3 := Lib.hid hbw; clear hbw hx1 hx2))
  all_goals (rw [← HR.out]; exact ⟨rfl, HB3.out⟩)

set_option maxHeartbeats 8000000 in
set_option maxRecDepth 100000 in
theorem same_delta {w : World} {a b : Sp.CmdV} {k1 d1 m1 k2 d2 m2 : Value} (h1 : CmdAt w a k1 d1 m1) (h2 : CmdAt w b k2 d2 m2) (ha1 : a.keys.length ≤ 1000000000) (ha2 : a.metas.length ≤ 1000000000) (hb1 : b.keys.length ≤ 1000000000) (hb2 : b.metas.length ≤ 1000000000) (e1 : decide (a.keys = b.keys) = true) (e2 : decide (a.data = b.data) = true) (e3 : decide (a.metas = b.metas) = true) (e4 : (a.what == b.what) = true) (f0 : ((a.verb : Int) == (b.verb : Int)) = true) (f1 : ((a.flags : Int) == (b.flags : Int)) = true) (f2 : ((a.exptime : Int) == (b.exptime : Int)) = true) (f3 : ((a.token : Int) == (b.token : Int)) = true) (f4 : ((a.delta : Int) == (b.delta : Int)) = false) :
    Calls Tryz.prog 46 #[cmdV a k1 d1 m1, cmdV b k2 d2 m2] w fun e w' => e = .returned (.bool false) ∧ Below w.heap.size w w' := by
  generalize hR : (fun (e : Ending) (w' : World) => e = .returned (.bool false) ∧ Below w.heap.size w w') = R
  have hb0 : Below w.heap.size w ((w.alloc (.cells (cmdArr a k1 d1 m1) 38)).alloc (.cells (cmdArr b k2 d2 m2) 38)) :=
    ((Below.refl _ _).alloc (Nat.le_refl _) _).alloc (by simp) _
  have hbx1 : Blk ((w.alloc (.cells (cmdArr a k1 d1 m1) 38)).alloc (.cells (cmdArr b k2 d2 m2) 38)) w.heap.size 38 (cmdArr a k1 d1 m1) := (Blk.new _ _ _).alloc _
  have hbx2 := Blk.new (w.alloc (.cells (cmdArr a k1 d1 m1) 38)) 38 (cmdArr b k2 d2 m2)
  rw [show (w.alloc (.cells (cmdArr a k1 d1 m1) 38)).heap.size = w.heap.size + 1 from by simp] at hbx2
  obtain ⟨⟨A1, a1, rfl, r1⟩, ⟨B1, b1, rfl, s1⟩, ⟨C1, c1, rfl, t1⟩⟩ := h1
  obtain ⟨⟨A2, a2, rfl, r2⟩, ⟨B2, b2, rfl, s2⟩, ⟨C2, c2, rfl, t2⟩⟩ := h2
  have hq1 := fun (W : World) (hb : Below w.heap.size w W) => eqTexts_any (w := W) (ca := a1) (cb := a2) (by omega) (by omega) (r1.below hb) (r2.below hb)
  have hq3 := fun (W : World) (hb : Below w.heap.size w W) => eqFlags_any (w := W) (ca := c1) (cb := c2) (by omega) (by omega) (t1.below hb) (t2.below hb)
  have hq2 := fun (W : World) (hb : Below w.heap.size w W) => (Tryz.bytes_Equal_all B1 B2 a.data.length b1 b.data.length b2 (numsOf a.data) (numsOf b.data) W (numsOf_length _) (numsOf_length _) (bytesIn_row (s1.below hb)) (bytesIn_row (s2.below hb))).mono (R' := fun e w' => e = .returned (.bool (decide (a.data = b.data))) ∧ W = w') fun e w' ⟨g1, g2⟩ => ⟨by rw [g1, bytesOf_nums, bytesOf_nums, bs_eq], g2.symm⟩
  rw [e1] at hq1
  rw [e2] at hq2
  rw [e3] at hq3
  have HR := Lib.hid hR
  have HB0 := Lib.hid hb0
  have HQ1 := Lib.hid hq1
  have HQ2 := Lib.hid hq2
  have HQ3 := Lib.hid hq3
  have HBX1 := Lib.hid hbx1
  have HBX2 := Lib.hid hbx2
  clear hR hb0 hq1 hq2 hq3 hbx1 hbx2 r1 r2 s1 s2 t1 t2 ha1 ha2 hb1 hb2
  go_enter Tryz.func46, Tryz.ntmps46
  go_wp2_with (first | (go_at_call 88; refine (HQ1.out _ HB0.out).mono ?_; rintro e w1 ⟨rfl, hb1⟩; have hbw := HB0.out.trans (hb1.mono HB0.out.size); have hx1 := HBX1.out.later hb1; have hx2 := HBX2.out.later hb1; clear hb1; have x0 : _ = some (Value.int .i64 a.verb) := (hx1).cell 0; have x1 : _ = some (Value.slice A1 a.keys.length a1) := (hx1).cell 1; have x2 : _ = some (Value.int .u64 a.flags) := (hx1).cell 2; have x3 : _ = some (Value.int .i64 a.exptime) := (hx1).cell 3; have x4 : _ = some (Value.int .u64 a.token) := (hx1).cell 4; have x5 : _ = some (Value.int .u64 a.delta) := (hx1).cell 5; have x6 : _ = some (Value.slice B1 a.data.length b1) := (hx1).cell 6; have x7 : _ = some (Value.bool a.noreply) := (hx1).cell 7; have x8 : _ = some (Value.bool a.large) := (hx1).cell 8; have x9 : _ = some (Value.slice C1 a.metas.length c1) := (hx1).cell 9; have x10 : _ = some (str a.what) := (hx1).cell 10; have y0 : _ = some (Value.int .i64 b.verb) := (hx2).cell 0; have y1 : _ = some (Value.slice A2 b.keys.length a2) := (hx2).cell 1; have y2 : _ = some (Value.int .u64 b.flags) := (hx2).cell 2; have y3 : _ = some (Value.int .i64 b.exptime) := (hx2).cell 3; have y4 : _ = some (Value.int .u64 b.token) := (hx2).cell 4; have y5 : _ = some (Value.int .u64 b.delta) := (hx2).cell 5; have y6 : _ = some (Value.slice B2 b.data.length b2) := (hx2).cell 6; have y7 : _ = some (Value.bool b.noreply) := (hx2).cell 7; have y8 : _ = some (Value.bool b.large) := (hx2).cell 8; have y9 : _ = some (Value.slice C2 b.metas.length c2) := (hx2).cell 9; have y10 : _ = some (str b.what) := (hx2).cell 10; have HB1 := Lib.hid hbw; have HX1 := Lib.hid hx1; have HX2 := Lib.hid hx2; clear hbw hx1 hx2) | (go_at_call 89; refine (HQ2.out _ HB1.out).mono ?_; rintro e w' ⟨rfl, rfl⟩) | (go_at_call 90; refine (HQ3.out _ HB1.out).mono ?_; rintro e w3 ⟨rfl, hb3⟩; have hbw := HB1.out.trans (hb3.mono HB1.out.size); have hx1 := HX1.out.later hb3; have hx2 := HX2.out.later hb3; clear hb3; have p0 : _ = some (Value.int .i64 a.verb) := (hx1).cell 0; have p1 : _ = some (Value.slice A1 a.keys.length a1) := (hx1).cell 1; have p2 : _ = some (Value.int .u64 a.flags) := (hx1).cell 2; have p3 : _ = some (Value.int .i64 a.exptime) := (hx1).cell 3; have p4 : _ = some (Value.int .u64 a.token) := (hx1).cell 4; have p5 : _ = some (Value.int .u64 a.delta) := (hx1).cell 5; have p6 : _ = some (Value.slice B1 a.data.length b1) := (hx1).cell 6; have p7 : _ = some (Value.bool a.noreply) := (hx1).cell 7; have p8 : _ = some (Value.bool a.large) := (hx1).cell 8; have p9 : _ = some (Value.slice C1 a.metas.length c1) := (hx1).cell 9; have p10 : _ = some (str a.what) := (hx1).cell 10; have q0 : _ = some (Value.int .i64 b.verb) := (hx2).cell 0; have q1 : _ = some (Value.slice A2 b.keys.length a2) := (hx2).cell 1; have q2 : _ = some (Value.int .u64 b.flags) := (hx2).cell 2; have q3 : _ = some (Value.int .i64 b.exptime) := (hx2).cell 3; have q4 : _ = some (Value.int .u64 b.token) := (hx2).cell 4; have q5 : _ = some (Value.int .u64 b.delta) := (hx2).cell 5; have q6 : _ = some (Value.slice B2 b.data.length b2) := (hx2).cell 6; have q7 : _ = some (Value.bool b.noreply) := (hx2).cell 7; have q8 : _ = some (Value.bool b.large) := (hx2).cell 8; have q9 : _ = some (Value.slice C2 b.metas.length c2) := (hx2).cell 9; have q10 : _ = some (str b.what) := (hx2).cell 10; have HB3 := Lib.hid hbw; clear hbw hx1 hx2))
  all_goals (rw [← HR.out]; exact ⟨rfl, HB3.out⟩)

set_option maxHeartbeats 8000000 in
set_option maxRecDepth 100000 in
theorem same_noreply {w : World} {a b : Sp.CmdV} {k1 d1 m1 k2 d2 m2 : Value} (h1 : CmdAt w a k1 d1 m1) (h2 : CmdAt w b k2 d2 m2) (ha1 : a.keys.length ≤ 1000000000) (ha2 : a.metas.length ≤ 1000000000) (hb1 : b.keys.length ≤ 1000000000) (hb2 : b.metas.length ≤ 1000000000) (e1 : decide (a.keys = b.keys) = true) (e2 : decide (a.data = b.data) = true) (e3 : decide (a.metas = b.metas) = true) (e4 : (a.what == b.what) = true) (f0 : ((a.verb : Int) == (b.verb : Int)) = true) (f1 : ((a.flags : Int) == (b.flags : Int)) = true) (f2 : ((a.exptime : Int) == (b.exptime : Int)) = true) (f3 : ((a.token : Int) == (b.token : Int)) = true) (f4 : ((a.delta : Int) == (b.delta : Int)) = true) (f5 : (a.noreply == b.noreply) = false) :
    Calls Tryz.prog 46 #[cmdV a k1 d1 m1, cmdV b k2 d2 m2] w fun e w' => e = .returned (.bool false) ∧ Below w.heap.size w w' := by
  generalize hR : (fun (e : Ending) (w' : World) => e = .returned (.bool false) ∧ Below w.heap.size w w') = R
  have hb0 : Below w.heap.size w ((w.alloc (.cells (cmdArr a k1 d1 m1) 38)).alloc (.cells (cmdArr b k2 d2 m2) 38)) :=
    ((Below.refl _ _).alloc (Nat.le_refl _) _).alloc (by simp) _
  have hbx1 : Blk ((w.alloc (.cells (cmdArr a k1 d1 m1) 38)).alloc (.cells (cmdArr b k2 d2 m2) 38)) w.heap.size 38 (cmdArr a k1 d1 m1) := (Blk.new _ _ _).alloc _
  have hbx2 := Blk.new (w.alloc (.cells (cmdArr a k1 d1 m1) 38)) 38 (cmdArr b k2 d2 m2)
  rw [show (w.alloc (.cells (cmdArr a k1 d1 m1) 38)).heap.size = w.heap.size + 1 from by simp] at hbx2
  obtain ⟨⟨A1, a1, rfl, r1⟩, ⟨B1, b1, rfl, s1⟩, ⟨C1, c1, rfl, t1⟩⟩ := h1
  obtain ⟨⟨A2, a2, rfl, r2⟩, ⟨B2, b2, rfl, s2⟩, ⟨C2, c2, rfl, t2⟩⟩ := h2
  have hq1 := fun (W : World) (hb : Below w.heap.size w W) => eqTexts_any (w := W) (ca := a1) (cb := a2) (by omega) (by omega) (r1.below hb) (r2.below hb)
  have hq3 := fun (W : World) (hb : Below w.heap.size w W) => eqFlags_any (w := W) (ca := c1) (cb := c2) (by omega) (by omega) (t1.below hb) (t2.below hb)
  have hq2 := fun (W : World) (hb : Below w.heap.size w W) => (Tryz.bytes_Equal_all B1 B2 a.data.length b1 b.data.length b2 (numsOf a.data) (numsOf b.data) W (numsOf_length _) (numsOf_length _) (bytesIn_row (s1.below hb)) (bytesIn_row (s2.below hb))).mono (R' := fun e w' => e = .returned (.bool (decide (a.data = b.data))) ∧ W = w') fun e w' ⟨g1, g2⟩ => ⟨by rw [g1, bytesOf_nums, bytesOf_nums, bs_eq], g2.symm⟩
  rw [e1] at hq1
  rw [e2] at hq2
  rw [e3] at hq3
  have HR := Lib.hid hR
  have HB0 := Lib.hid hb0
  have HQ1 := Lib.hid hq1
  have HQ2 := Lib.hid hq2
  have HQ3 := Lib.hid hq3
  have HBX1 := Lib.hid hbx1
  have HBX2 := Lib.hid hbx2
  clear hR hb0 hq1 hq2 hq3 hbx1 hbx2 r1 r2 s1 s2 t1 t2 ha1 ha2 hb1 hb2
  go_enter Tryz.func46, Tryz.ntmps46
  go_wp2_with (first | (go_at_call 88; refine (HQ1.out _ HB0.out).mono ?_; rintro e w1 ⟨rfl, hb1⟩; have hbw := HB0.out.trans (hb1.mono HB0.out.size); have hx1 := HBX1.out.later hb1; have hx2 := HBX2.out.later hb1; clear hb1; have x0 : _ = some (Value.int .i64 a.verb) := (hx1).cell 0; have x1 : _ = some (Value.slice A1 a.keys.length a1) := (hx1).cell 1; have x2 : _ = some (Value.int .u64 a.flags) := (hx1).cell 2; have x3 : _ = some (Value.int .i64 a.exptime) := (hx1).cell 3; have x4 : _ = some (Value.int .u64 a.token) := (hx1).cell 4; have x5 : _ = some (Value.int .u64 a.delta) := (hx1).cell 5; have x6 : _ = some (Value.slice B1 a.data.length b1) := (hx1).cell 6; have x7 : _ = some (Value.bool a.noreply) := (hx1).cell 7; have x8 : _ = some (Value.bool a.large) := (hx1).cell 8; have x9 : _ = some (Value.slice C1 a.metas.length c1) := (hx1).cell 9; have x10 : _ = some (str a.what) := (hx1).cell 10; have y0 : _ = some (Value.int .i64 b.verb) := (hx2).cell 0; have y1 : _ = some (Value.slice A2 b.keys.length a2) := (hx2).cell 1; have y2 : _ = some (Value.int .u64 b.flags) := (hx2).cell 2; have y3 : _ = some (Value.int .i64 b.exptime) := (hx2).cell 3; have y4 : _ = some (Value.int .u64 b.token) := (hx2).cell 4; have y5 : _ = some (Value.int .u64 b.delta) := (hx2).cell 5; have y6 : _ = some (Value.slice B2 b.data.length b2) := (hx2).cell 6; have y7 : _ = some (Value.bool b.noreply) := (hx2).cell 7; have y8 : _ = some (Value.bool b.large) := (hx2).cell 8; have y9 : _ = some (Value.slice C2 b.metas.length c2) := (hx2).cell 9; have y10 : _ = some (str b.what) := (hx2).cell 10; have HB1 := Lib.hid hbw; have HX1 := Lib.hid hx1; have HX2 := Lib.hid hx2; clear hbw hx1 hx2) | (go_at_call 89; refine (HQ2.out _ HB1.out).mono ?_; rintro e w' ⟨rfl, rfl⟩) | (go_at_call 90; refine (HQ3.out _ HB1.out).mono ?_; rintro e w3 ⟨rfl, hb3⟩; have hbw := HB1.out.trans (hb3.mono HB1.out.size); have hx1 := HX1.out.later hb3; have hx2 := HX2.out.later hb3; clear hb3; have p0 : _ = some (Value.int .i64 a.verb) := (hx1).cell 0; have p1 : _ = some (Value.slice A1 a.keys.length a1) := (hx1).cell 1; have p2 : _ = some (Value.int .u64 a.flags) := (hx1).cell 2; have p3 : _ = some (Value.int .i64 a.exptime) := (hx1).cell 3; have p4 : _ = some (Value.int .u64 a.token) := (hx1).cell 4; have p5 : _ = some (Value.int .u64 a.delta) := (hx1).cell 5; have p6 : _ = some (Value.slice B1 a.data.length b1) := (hx1).cell 6; have p7 : _ = some (Value.bool a.noreply) := (hx1).cell 7; have p8 : _ = some (Value.bool a.large) := (hx1).cell 8; have p9 : _ = some (Value.slice C1 a.metas.length c1) := (hx1).cell 9; have p10 : _ = some (str a.what) := (hx1).cell 10; have q0 : _ = some (Value.int .i64 b.verb) := (hx2).cell 0; have q1 : _ = some (Value.slice A2 b.keys.length a2) := (hx2).cell 1; have q2 : _ = some (Value.int .u64 b.flags) := (hx2).cell 2; have q3 : _ = some (Value.int .i64 b.exptime) := (hx2).cell 3; have q4 : _ = some (Value.int .u64 b.token) := (hx2).cell 4; have q5 : _ = some (Value.int .u64 b.delta) := (hx2).cell 5; have q6 : _ = some (Value.slice B2 b.data.length b2) := (hx2).cell 6; have q7 : _ = some (Value.bool b.noreply) := (hx2).cell 7; have q8 : _ = some (Value.bool b.large) := (hx2).cell 8; have q9 : _ = some (Value.slice C2 b.metas.length c2) := (hx2).cell 9; have q10 : _ = some (str b.what) := (hx2).cell 10; have HB3 := Lib.hid hbw; clear hbw hx1 hx2))
  all_goals (rw [← HR.out]; exact ⟨rfl, HB3.out⟩)

set_option maxHeartbeats 8000000 in
set_option maxRecDepth 100000 in
theorem same_large {w : World} {a b : Sp.CmdV} {k1 d1 m1 k2 d2 m2 : Value} (h1 : CmdAt w a k1 d1 m1) (h2 : CmdAt w b k2 d2 m2) (ha1 : a.keys.length ≤ 1000000000) (ha2 : a.metas.length ≤ 1000000000) (hb1 : b.keys.length ≤ 1000000000) (hb2 : b.metas.length ≤ 1000000000) (e1 : decide (a.keys = b.keys) = true) (e2 : decide (a.data = b.data) = true) (e3 : decide (a.metas = b.metas) = true) (e4 : (a.what == b.what) = true) (f0 : ((a.verb : Int) == (b.verb : Int)) = true) (f1 : ((a.flags : Int) == (b.flags : Int)) = true) (f2 : ((a.exptime : Int) == (b.exptime : Int)) = true) (f3 : ((a.token : Int) == (b.token : Int)) = true) (f4 : ((a.delta : Int) == (b.delta : Int)) = true) (f5 : (a.noreply == b.noreply) = true) (f6 : (a.large == b.large) = false) :
    Calls Tryz.prog 46 #[cmdV a k1 d1 m1, cmdV b k2 d2 m2] w fun e w' => e = .returned (.bool false) ∧ Below w.heap.size w w' := by
  generalize hR : (fun (e : Ending) (w' : World) => e = .returned (.bool false) ∧ Below w.heap.size w w') = R
  have hb0 : Below w.heap.size w ((w.alloc (.cells (cmdArr a k1 d1 m1) 38)).alloc (.cells (cmdArr b k2 d2 m2) 38)) :=
    ((Below.refl _ _).alloc (Nat.le_refl _) _).alloc (by simp) _
  have hbx1 : Blk ((w.alloc (.cells (cmdArr a k1 d1 m1) 38)).alloc (.cells (cmdArr b k2 d2 m2) 38)) w.heap.size 38 (cmdArr a k1 d1 m1) := (Blk.new _ _ _).alloc _
  have hbx2 := Blk.new (w.alloc (.cells (cmdArr a k1 d1 m1) 38)) 38 (cmdArr b k2 d2 m2)
  rw [show (w.alloc (.cells (cmdArr a k1 d1 m1) 38)).heap.size = w.heap.size + 1 from by simp] at hbx2
  obtain ⟨⟨A1, a1, rfl, r1⟩, ⟨B1, b1, rfl, s1⟩, ⟨C1, c1, rfl, t1⟩⟩ := h1
  obtain ⟨⟨A2, a2, rfl, r2⟩, ⟨B2, b2, rfl, s2⟩, ⟨C2, c2, rfl, t2⟩⟩ := h2
  have hq1 := fun (W : World) (hb : Below w.heap.size w W) => eqTexts_any (w := W) (ca := a1) (cb := a2) (by omega) (by omega) (r1.below hb) (r2.below hb)
  have hq3 := fun (W : World) (hb : Below w.heap.size w W) => eqFlags_any (w := W) (ca := c1) (cb := c2) (by omega) (by omega) (t1.below hb) (t2.below hb)
  have hq2 := fun (W : World) (hb : Below w.heap.size w W) => (Tryz.bytes_Equal_all B1 B2 a.data.length b1 b.data.length b2 (numsOf a.data) (numsOf b.data) W (numsOf_length _) (numsOf_length _) (bytesIn_row (s1.below hb)) (bytesIn_row (s2.below hb))).mono (R' := fun e w' => e = .returned (.bool (decide (a.data = b.data))) ∧ W = w') fun e w' ⟨g1, g2⟩ => ⟨by rw [g1, bytesOf_nums, bytesOf_nums, bs_eq], g2.symm⟩
  rw [e1] at hq1
  rw [e2] at hq2
  rw [e3] at hq3
  have HR := Lib.hid hR
  have HB0 := Lib.hid hb0
  have HQ1 := Lib.hid hq1
  have HQ2 := Lib.hid hq2
  have HQ3 := Lib.hid hq3
  have HBX1 := Lib.hid hbx1
  have HBX2 := Lib.hid hbx2
  clear hR hb0 hq1 hq2 hq3 hbx1 hbx2 r1 r2 s1 s2 t1 t2 ha1 ha2 hb1 hb2
  go_enter Tryz.func46, Tryz.ntmps46
  go_wp2_with (first | (go_at_call 88; refine (HQ1.out _ HB0.out).mono ?_; rintro e w1 ⟨rfl, hb1⟩; have hbw := HB0.out.trans (hb1.mono HB0.out.size); have hx1 := HBX1.out.later hb1; have hx2 := HBX2.out.later hb1; clear hb1; have x0 : _ = some (Value.int .i64 a.verb) := (hx1).cell 0; have x1 : _ = some (Value.slice A1 a.keys.length a1) := (hx1).cell 1; have x2 : _ = some (Value.int .u64 a.flags) := (hx1).cell 2; have x3 : _ = some (Value.int .i64 a.exptime) := (hx1).cell 3; have x4 : _ = some (Value.int .u64 a.token) := (hx1).cell 4; have x5 : _ = some (Value.int .u64 a.delta) := (hx1).cell 5; have x6 : _ = some (Value.slice B1 a.data.length b1) := (hx1).cell 6; have x7 : _ = some (Value.bool a.noreply) := (hx1).cell 7; have x8 : _ = some (Value.bool a.large) := (hx1).cell 8; have x9 : _ = some (Value.slice C1 a.metas.length c1) := (hx1).cell 9; have x10 : _ = some (str a.what) := (hx1).cell 10; have y0 : _ = some (Value.int .i64 b.verb) := (hx2).cell 0; have y1 : _ = some (Value.slice A2 b.keys.length a2) := (hx2).cell 1; have y2 : _ = some (Value.int .u64 b.flags) := (hx2).cell 2; have y3 : _ = some (Value.int .i64 b.exptime) := (hx2).cell 3; have y4 : _ = some (Value.int .u64 b.token) := (hx2).cell 4; have y5 : _ = some (Value.int .u64 b.delta) := (hx2).cell 5; have y6 : _ = some (Value.slice B2 b.data.length b2) := (hx2).cell 6; have y7 : _ = some (Value.bool b.noreply) := (hx2).cell 7; have y8 : _ = some (Value.bool b.large) := (hx2).cell 8; have y9 : _ = some (Value.slice C2 b.metas.length c2) := (hx2).cell 9; have y10 : _ = some (str b.what) := (hx2).cell 10; have HB1 := Lib.hid hbw; have HX1 := Lib.hid hx1; have HX2 := Lib.hid hx2; clear hbw hx1 hx2) | (go_at_call 89; refine (HQ2.out _ HB1.out).mono ?_; rintro e w' ⟨rfl, rfl⟩) | (go_at_call 90; refine (HQ3.out _ HB1.out).mono ?_; rintro e w3 ⟨rfl, hb3⟩; have hbw := HB1.out.trans (hb3.mono HB1.out.size); have hx1 := HX1.out.later hb3; have hx2 := HX2.out.later hb3; clear hb3; have p0 : _ = some (Value.int .i64 a.verb) := (hx1).cell 0; have p1 : _ = some (Value.slice A1 a.keys.length a1) := (hx1).cell 1; have p2 : _ = some (Value.int .u64 a.flags) := (hx1).cell 2; have p3 : _ = some (Value.int .i64 a.exptime) := (hx1).cell 3; have p4 : _ = some (Value.int .u64 a.token) := (hx1).cell 4; have p5 : _ = some (Value.int .u64 a.delta) := (hx1).cell 5; have p6 : _ = some (Value.slice B1 a.data.length b1) := (hx1).cell 6; have p7 : _ = some (Value.bool a.noreply) := (hx1).cell 7; have p8 : _ = some (Value.bool a.large) := (hx1).cell 8; have p9 : _ = some (Value.slice C1 a.metas.length c1) := (hx1).cell 9; have p10 : _ = some (str a.what) := (hx1).cell 10; have q0 : _ = some (Value.int .i64 b.verb) := (hx2).cell 0; have q1 : _ = some (Value.slice A2 b.keys.length a2) := (hx2).cell 1; have q2 : _ = some (Value.int .u64 b.flags) := (hx2).cell 2; have q3 : _ = some (Value.int .i64 b.exptime) := (hx2).cell 3; have q4 : _ = some (Value.int .u64 b.token) := (hx2).cell 4; have q5 : _ = some (Value.int .u64 b.delta) := (hx2).cell 5; have q6 : _ = some (Value.slice B2 b.data.length b2) := (hx2).cell 6; have q7 : _ = some (Value.bool b.noreply) := (hx2).cell 7; have q8 : _ = some (Value.bool b.large) := (hx2).cell 8; have q9 : _ = some (Value.slice C2 b.metas.length c2) := (hx2).cell 9; have q10 : _ = some (str b.what) := (hx2).cell 10; have HB3 := Lib.hid hbw; clear hbw hx1 hx2))
  all_goals (rw [← HR.out]; exact ⟨rfl, HB3.out⟩)

/-- same tells whether the commands are the same -/
theorem same_any {w : World} {a b : Sp.CmdV} {k1 d1 m1 k2 d2 m2 : Value} (h1 : CmdAt w a k1 d1 m1) (h2 : CmdAt w b k2 d2 m2) (ha1 : a.keys.length ≤ 1000000000) (ha2 : a.metas.length ≤ 1000000000) (hb1 : b.keys.length ≤ 1000000000) (hb2 : b.metas.length ≤ 1000000000) (hf : CmdFit b) :
    Calls Tryz.prog 46 #[cmdV a k1 d1 m1, cmdV b k2 d2 m2] w fun e w' => e = .returned (.bool (decide (a = b))) ∧ Below w.heap.size w w' := by
  have no : a ≠ b → decide (a = b) = false := fun h => decide_eq_false h
  by_cases e1 : a.keys = b.keys
  · by_cases e2 : a.data = b.data
    · by_cases e3 : a.metas = b.metas
      · by_cases e4 : a.what = b.what
        · have g1 := decide_eq_true e1
          have g2 := decide_eq_true e2
          have g3 := decide_eq_true e3
          have g4 : (a.what == b.what) = true := by simp [e4]
          by_cases f0 : a.verb = b.verb
          rotate_left
          · have q0 : ((a.verb : Int) == (b.verb : Int)) = false := by rw [beq_eq_false_iff_ne]; intro e; exact f0 (by omega)
            rw [no (fun e => f0 (by rw [e]))]
            exact same_verb h1 h2 ha1 ha2 hb1 hb2 g1 g2 g3 g4 q0
          have q0 : ((a.verb : Int) == (b.verb : Int)) = true := by rw [beq_iff_eq, f0]
          by_cases f1 : a.flags = b.flags
          rotate_left
          · have q1 : ((a.flags : Int) == (b.flags : Int)) = false := by rw [beq_eq_false_iff_ne]; intro e; exact f1 (by omega)
            rw [no (fun e => f1 (by rw [e]))]
            exact same_flags h1 h2 ha1 ha2 hb1 hb2 g1 g2 g3 g4 q0 q1
          have q1 : ((a.flags : Int) == (b.flags : Int)) = true := by rw [beq_iff_eq, f1]
          by_cases f2 : a.exptime = b.exptime
          rotate_left
          · have q2 : ((a.exptime : Int) == (b.exptime : Int)) = false := by rw [beq_eq_false_iff_ne]; intro e; exact f2 (by exact e)
            rw [no (fun e => f2 (by rw [e]))]
            exact same_exptime h1 h2 ha1 ha2 hb1 hb2 g1 g2 g3 g4 q0 q1 q2
          have q2 : ((a.exptime : Int) == (b.exptime : Int)) = true := by rw [beq_iff_eq, f2]
          by_cases f3 : a.token = b.token
          rotate_left
          · have q3 : ((a.token : Int) == (b.token : Int)) = false := by rw [beq_eq_false_iff_ne]; intro e; exact f3 (by omega)
            rw [no (fun e => f3 (by rw [e]))]
            exact same_token h1 h2 ha1 ha2 hb1 hb2 g1 g2 g3 g4 q0 q1 q2 q3
          have q3 : ((a.token : Int) == (b.token : Int)) = true := by rw [beq_iff_eq, f3]
          by_cases f4 : a.delta = b.delta
          rotate_left
          · have q4 : ((a.delta : Int) == (b.delta : Int)) = false := by rw [beq_eq_false_iff_ne]; intro e; exact f4 (by omega)
            rw [no (fun e => f4 (by rw [e]))]
            exact same_delta h1 h2 ha1 ha2 hb1 hb2 g1 g2 g3 g4 q0 q1 q2 q3 q4
          have q4 : ((a.delta : Int) == (b.delta : Int)) = true := by rw [beq_iff_eq, f4]
          by_cases f5 : a.noreply = b.noreply
          rotate_left
          · have q5 : (a.noreply == b.noreply) = false := by rw [beq_eq_false_iff_ne]; intro e; exact f5 (by exact e)
            rw [no (fun e => f5 (by rw [e]))]
            exact same_noreply h1 h2 ha1 ha2 hb1 hb2 g1 g2 g3 g4 q0 q1 q2 q3 q4 q5
          have q5 : (a.noreply == b.noreply) = true := by rw [beq_iff_eq, f5]
          by_cases f6 : a.large = b.large
          rotate_left
          · have q6 : (a.large == b.large) = false := by rw [beq_eq_false_iff_ne]; intro e; exact f6 (by exact e)
            rw [no (fun e => f6 (by rw [e]))]
            exact same_large h1 h2 ha1 ha2 hb1 hb2 g1 g2 g3 g4 q0 q1 q2 q3 q4 q5 q6
          have q6 : (a.large == b.large) = true := by rw [beq_iff_eq, f6]
          have hab : a = b := by
            cases a; cases b; simp only at e1 e2 e3 e4 f0 f1 f2 f3 f4 f5 f6; subst e1 e2 e3 e4 f0 f1 f2 f3 f4 f5 f6; rfl
          subst hab
          rw [decide_eq_true rfl]
          exact same_yes h1 h2 hf
        · rw [no (fun e => e4 (by rw [e]))]
          exact same_what h1 h2 ha1 ha2 hb1 hb2 (decide_eq_true e1) (decide_eq_true e2) (decide_eq_true e3) (by simpa using e4)
      · rw [no (fun e => e3 (by rw [e]))]
        exact same_metas h1 h2 ha1 ha2 hb1 hb2 (decide_eq_true e1) (decide_eq_true e2) (decide_eq_false e3)
    · rw [no (fun e => e2 (by rw [e]))]
      exact same_data h1 h2 ha1 ha2 hb1 hb2 (decide_eq_true e1) (decide_eq_false e2)
  · rw [no (fun e => e1 (by rw [e]))]
    exact same_keys h1 h2 ha1 ha2 hb1 hb2 (decide_eq_false e1)
end Go.Proofs.YthgfjafnclklpaaGreatDoor
end
