/- Two Feeders in turns. Walk of the statement LineApart. The row LineApart; the statement. -/
import Derived.Test.YtbiakncngmgbkaaGreatDoorP5
import Derived.Test.YtbiakncngmgbkaaGreatDoorP6
import Derived.Test.YtbiakncngmgbkaaGreatDoorOr
import Derived.Test.YtbiakncngmgbkaaGreatDoorOp
import Derived.Test.YtbiakncngmgbkaaGreatDoorKw
section
namespace Go.Proofs.YtbiakncngmgbkaaGreatDoor
open Go.RowKit

/-- two Feeders, each with its list -/
def Two (w0 : World) (L : List Nat) (f g lx ly : Nat) (s s' : Sp.FeedV) (ts ts' : List Sp.StepV) (c d : Value) (wr : World) : Prop :=
  ∃ S S', FedOn w0 L f lx s ts c wr S ∧ FedOn w0 L g ly s' ts' d wr S' ∧ ∀ k ∈ S, k ∉ S'
/-- behind a Feed of the first -/
def TwoGot (w0 : World) (L : List Nat) (f g lx ly : Nat) (s s' : Sp.FeedV) (ts told ts' : List Sp.StepV) (c d : Value) (A : Option Addr) (n : Nat) (wr : World) : Prop :=
  ∃ S S', FedGotOn w0 L f lx s ts told c A n wr S ∧ FedOn w0 L g ly s' ts' d wr S' ∧ ∀ k ∈ S, k ∉ S'

section
variable {w0 wr w3 : World} {L : List Nat} {f g lx ly : Nat} {s s' : Sp.FeedV} {ts told ts' : List Sp.StepV} {c d v' : Value} {A : Option Addr} {n : Nat}

theorem Two.swap (h : Two w0 L f g lx ly s s' ts ts' c d wr) : Two w0 L g f ly lx s' s ts' ts d c wr := by
  obtain ⟨S, S', h1, h2, h3⟩ := h
  exact ⟨S', S, h2, h1, fun k hk hm => h3 k hm hk⟩
theorem Two.only (h : Two w0 L f g lx ly s s' ts ts' c d wr) : OnlyIn L w0 wr := by
  obtain ⟨S, S', h1, h2, h3⟩ := h
  exact h1.only
theorem Two.glob (h : Two w0 L f g lx ly s s' ts ts' c d wr) : Glob wr := by
  obtain ⟨S, S', h1, h2, h3⟩ := h
  exact h1.glob
theorem Two.own (h : Two w0 L f g lx ly s s' ts ts' c d wr) : ∃ A c' tcs bl, c = .slice A ts.length c' ∧ wr.ownsRow w0.heap.size 61 16 c ts.length tcs ∧ StepsMem wr ts tcs bl := by
  obtain ⟨S, S', h1, h2, h3⟩ := h
  exact h1.own

theorem Two.fed (h : Two w0 L f g lx ly s s' ts ts' c d wr) (hne : g ≠ f) (hf0 : f < w0.heap.size) (hg0 : g < w0.heap.size) {N : Nat} (hN : s.Fits N) {A : Option Addr} {cap : Nat} {l : Sp.Bs} (hN2 : N + 3 * l.length + 3 ≤ 1000000000)
    (hrow : RowAt wr A (bytesV l)) (hA : ∀ a, A = some a → a.block < w0.heap.size ∧ a.block ≠ f) (hlow : ∀ k ∈ L, 8 ≤ k) (h0 : 8 ≤ w0.heap.size) :
    Calls Tryz.prog 12 #[.pointer (some ⟨f, 0, none⟩), .slice A l.length cap] wr fun e w' => ∃ A' c', e = .returned (.slice A' (s.told lx l).length c') ∧ TwoGot w0 L f g lx ly (s.feed lx l) s' ts (s.told lx l) ts' c d A' c' w' := by
  obtain ⟨S, S', h1, h2, h3⟩ := h
  refine (h1.fed hN hN2 hrow hA hlow h0).mono ?_
  rintro e w' ⟨A', c', rfl, S1, k1, k2, k3⟩
  refine ⟨A', c', rfl, S1, S', k1, h2.same (fun k hk => k3.block k (h2.lt k hk) (fun hm => ?_)) k1.only k1.glob, fun k hk hm => ?_⟩
  · rcases List.mem_cons.1 hk with e1 | hk
    · rcases List.mem_cons.1 hm with e | hm
      · exact hne (e1.symm.trans e)
      · have := h1.ge k hm; omega
    · rcases List.mem_cons.1 hm with e | hm
      · have := h2.ge k hk; omega
      · exact h3 k hm hk
  · rcases k2 k hk with e | e
    · exact h3 k e hm
    · have := h2.lt k (List.mem_cons_of_mem _ hm); omega

theorem TwoGot.row (h : TwoGot w0 L f g lx ly s s' ts told ts' c d A n wr) : ∃ tcs tc, wr.ownsRow w0.heap.size 61 16 c ts.length tcs ∧ wr.ownsRow 0 61 16 (.slice A told.length n) told.length tc ∧ ∀ u ∈ tc, u.oneCell' = true := by
  obtain ⟨S, S', h1, h2, h3⟩ := h
  exact h1.row
theorem TwoGot.only (h : TwoGot w0 L f g lx ly s s' ts told ts' c d A n wr) : OnlyIn L w0 wr := by
  obtain ⟨S, S', h1, h2, h3⟩ := h
  exact h1.only
theorem TwoGot.some (h : TwoGot w0 L f g lx ly s s' ts told ts' c d A n wr) (hg0 : g < w0.heap.size) (h0 : 8 ≤ w0.heap.size)
    (hown : ∀ tcs tc, wr.ownsRow w0.heap.size 61 16 c ts.length tcs → wr.ownsRow 0 61 16 (.slice A told.length n) told.length tc → w3.ownsRow w0.heap.size 61 16 v' (ts.length + told.length) (tcs ++ tc)) (hgr : wr.grownBy w3 c.ownBlock) (hat : v'.ownBlock = c.ownBlock ∨ v'.ownBlock = some wr.heap.size) :
    Two w0 L f g lx ly s s' (ts ++ told) ts' v' d w3 := by
  obtain ⟨S, S', h1, h2, h3⟩ := h
  obtain ⟨tcs, _, hr1, _, _⟩ := h1.row
  have hge := own_ge hr1
  obtain ⟨S1, k1, k2, k3⟩ := h1.some h0 hown hgr hat
  have ho : OnlyIn (rowBlock c) wr w3 := OnlyIn.grown hgr
  refine ⟨S1, S', k1, h2.same (fun k hk => k3.block k (h2.lt k hk) (fun hm => ?_)) k1.only k1.glob, fun k hk hm => ?_⟩
  · rcases List.mem_cons.1 hk with e1 | hk
    · have hS := h1.ge' k hm; omega
    · exact h3 k hm hk
  · rcases k2 k hk with e | e
    · exact h3 k e hm
    · have := h2.lt k (List.mem_cons_of_mem _ hm); omega
end
end Go.Proofs.YtbiakncngmgbkaaGreatDoor
end
section
namespace Go.Proofs.YtbiakncngmgbkaaGreatDoor
attribute [local go_sem ↓] Go.wp_at_zero Go.wp_at_succ
open Go.RowKit

/-- a state that is a Feeder's behind the first pieces, one piece more -/
theorem fedBy_more (lim : Nat) {ps : List Sp.Bs} {k : Nat} (h : ps.length ≤ k) : fedBy lim (ps.take (k + 1)) = fedBy lim (ps.take k) := by rw [List.take_of_length_le h, List.take_of_length_le (by omega)]
theorem toldBy_more (lim : Nat) {ps : List Sp.Bs} {k : Nat} (h : ps.length ≤ k) : toldBy lim (ps.take (k + 1)) = toldBy lim (ps.take k) := by rw [List.take_of_length_le h, List.take_of_length_le (by omega)]

/-- a piece in memory, still there -/
theorem piece_at {w4 wr : World} {L : List Nat} {lo pg pc k : Nat} {ps : List Sp.Bs} {pcs : List Value} {p : Sp.Bs} (hown : w4.ownsRow lo 43 1 (.slice (some ⟨pg, 0, none⟩) ps.length pc) ps.length pcs) (hrm : RowsMem w4 lo ps pcs) (hp : ps[k]? = some p) (ho : OnlyIn L w4 wr) (hL : ∀ x ∈ L, x < lo) :
    ∃ gp cp, wr.cell? ⟨pg, k, none⟩ = some (.slice (some ⟨gp, 0, none⟩) p.length cp) ∧ RowAt wr (some ⟨gp, 0, none⟩) (bytesV p) ∧ gp < w4.heap.size ∧ lo ≤ gp := by
  obtain ⟨gp, cp, hpcs, hpown⟩ := hrm.2 k p hp
  have hpg : lo ≤ pg := own_ge hown pg (by simp [rowBlock, Value.ownBlock])
  have hpg2 : pg < w4.heap.size := own_lt hown pg (by simp [rowBlock, Value.ownBlock])
  have hgp : lo ≤ gp := own_ge hpown gp (by simp [rowBlock, Value.ownBlock])
  have hgp2 : gp < w4.heap.size := own_lt hpown gp (by simp [rowBlock, Value.ownBlock])
  have hcell4 : w4.cell? ⟨pg, k, none⟩ = some (.slice (some ⟨gp, 0, none⟩) p.length cp) := by
    have := (RowAt.of_own hown).cells k _ hpcs
    rwa [Addr.add_mid, Nat.zero_add] at this
  exact ⟨gp, cp, (World.cell?_of_block (ho.block pg hpg2 (fun hm => by have := hL pg hm; omega))).trans hcell4, RowAt.of_own (own_same hpown fun x hx => ho.block x (own_lt hpown x hx) (fun hm => by have := hL x hm; have := own_ge hpown x hx; omega)), hgp2, hgp⟩

/-- the next piece is fed to the first -/
theorem Two.turn {w0 wr : World} {L : List Nat} {f g lx ly k : Nat} {ps qs : List Sp.Bs} {j : Nat} {c d : Value} (h : Two w0 L f g lx ly (fedBy lx (ps.take k)) (fedBy ly (qs.take j)) (toldBy lx (ps.take k)) (toldBy ly (qs.take j)) c d wr) (hne : g ≠ f) (hf0 : f < w0.heap.size) (hg0 : g < w0.heap.size) {p : Sp.Bs} (hp : ps[k]? = some p) (hn : ps.flatten.length ≤ 12000)
    {gp cp : Nat} (hrow : RowAt wr (some ⟨gp, 0, none⟩) (bytesV p)) (hgp : gp < w0.heap.size) (hgf : gp ≠ f) (hlow : ∀ k ∈ L, 8 ≤ k) (h0 : 8 ≤ w0.heap.size) :
    Calls Tryz.prog 12 #[.pointer (some ⟨f, 0, none⟩), .slice (some ⟨gp, 0, none⟩) p.length cp] wr fun e w' => ∃ A' c' n m tcs tc, e = .returned (.slice A' n c') ∧ w'.ownsRow w0.heap.size 61 16 c m tcs ∧ w'.ownsRow 0 61 16 (.slice A' n c') n tc ∧ (∀ u ∈ tc, u.oneCell' = true) ∧ m + n ≤ 12000 ∧ w0.heap.size ≤ w'.heap.size ∧
      ∀ v' w3, w3.ownsRow w0.heap.size 61 16 v' (m + n) (tcs ++ tc) → w'.grownBy w3 c.ownBlock → (v'.ownBlock = c.ownBlock ∨ v'.ownBlock = some w'.heap.size) → Two w0 L f g lx ly (fedBy lx (ps.take (k + 1))) (fedBy ly (qs.take j)) (toldBy lx (ps.take (k + 1))) (toldBy ly (qs.take j)) v' d w3 := by
  obtain ⟨hkeep, hfit, hout, htak⟩ := fedBy_ok lx _ (ps.take k) rfl
  have hflat := flat_take_succ hp
  have hle2 := flat_take_le ps (k + 1)
  rw [hflat, List.length_append] at hle2
  have htc := toldBy_count lx (ps.take (k + 1))
  rw [toldBy_succ lx hp, hflat, List.length_append, List.length_append] at htc
  refine (h.fed (cap := cp) hne hf0 hg0 hfit (by omega) hrow (fun a ha => by injection ha with ha; subst ha; exact ⟨hgp, hgf⟩) hlow h0).mono ?_
  rintro e w' ⟨A', c', rfl, hgot⟩
  rw [← fedBy_succ lx hp] at hgot
  obtain ⟨tcs, tc, r1, r2, r3⟩ := hgot.row
  refine ⟨A', c', _, _, tcs, tc, rfl, r1, r2, r3, by omega, hgot.only.size, fun v' w3 g1 g2 g3 => ?_⟩
  rw [toldBy_succ lx hp]
  exact hgot.some hg0 h0 (fun tcs' tc' h1 h2 => by rw [own_cells_eq h1 r1, own_cells_eq h2 r2]; exact g1) g2 g3

set_option maxHeartbeats 16000000 in
set_option maxRecDepth 100000 in
theorem lineApart_any {w : World} (hg : Glob w) {A B C A' B' C' : Option Addr} {capA capB capC capA' capB' capC' : Nat} {raw raw' : Sp.Bs} {one two one' two' : List Int} {limit limit' : Int}
    (hcA : raw.length ≤ capA) (hcA2 : capA ≤ 9223372036854775807) (hcB : one.length ≤ 9223372036854775807) (hcC : two.length ≤ 9223372036854775807)
    (hrow : RowAt w A (bytesV raw)) (hA : A = none → capA = 0) (hrowB : RowAt w B (intsV one)) (hrowC : RowAt w C (intsV two))
    (hcA' : raw'.length ≤ capA') (hcA2' : capA' ≤ 9223372036854775807) (hcB' : one'.length ≤ 9223372036854775807) (hcC' : two'.length ≤ 9223372036854775807)
    (hrow' : RowAt w A' (bytesV raw')) (hA' : A' = none → capA' = 0) (hrowB' : RowAt w B' (intsV one')) (hrowC' : RowAt w C' (intsV two')) :
    Calls Tryz.prog 6 #[.agg #[.slice A raw.length capA, .int .i64 limit, .slice B one.length capB, .slice C two.length capC], .agg #[.slice A' raw'.length capA', .int .i64 limit', .slice B' one'.length capB', .slice C' two'.length capC']] w fun e w' => e = .returned (.bool true) ∧ Below w.heap.size w w' := by
  generalize hR : (fun (e : Ending) (w' : World) => e = .returned (.bool true) ∧ Below w.heap.size w w') = R
  have HR := Lib.hid hR
  have HG := Lib.hid hg
  have HROW := Lib.hid hrow
  have HROWB := Lib.hid hrowB
  have HROWC := Lib.hid hrowC
  have HA := Lib.hid hA
  have HROW' := Lib.hid hrow'
  have HROWB' := Lib.hid hrowB'
  have HROWC' := Lib.hid hrowC'
  have HA' := Lib.hid hA'
  have hgs := hg.size
  clear hR hg hrow hrowB hrowC hA hrow' hrowB' hrowC' hA'
  go_enter Tryz.func6, Tryz.ntmps6
  go_upto_region 1 with fail
  go_cut [2, 3, 21] (fun b b' q wx => b = .pointer (some ⟨w.heap.size, 0, none⟩) ∧ b' = .pointer (some ⟨w.heap.size + 1, 0, none⟩) ∧ q = .bool (decide ((12000 : Int) < (raw.length : Int))) ∧ Blk wx w.heap.size 66 (boxRow A raw.length capA limit (.slice B one.length capB) (.slice C two.length capC)) ∧ Blk wx (w.heap.size + 1) 66 (boxRow A' raw'.length capA' limit' (.slice B' one'.length capB') (.slice C' two'.length capC')) ∧ Below w.heap.size w wx)
  case first =>
    have hbl := (Blk.new w 66 (boxRow A raw.length capA limit (.slice B one.length capB) (.slice C two.length capC))).alloc (.cells (boxRow A' raw'.length capA' limit' (.slice B' one'.length capB') (.slice C' two'.length capC')) 66)
    have hbl2 := Blk.new (w.alloc (.cells (boxRow A raw.length capA limit (.slice B one.length capB) (.slice C two.length capC)) 66)) 66 (boxRow A' raw'.length capA' limit' (.slice B' one'.length capB') (.slice C' two'.length capC'))
    have hb0 : Below w.heap.size w ((w.alloc (.cells (boxRow A raw.length capA limit (.slice B one.length capB) (.slice C two.length capC)) 66)).alloc (.cells (boxRow A' raw'.length capA' limit' (.slice B' one'.length capB') (.slice C' two'.length capC')) 66)) := ((Below.refl _ _).alloc (Nat.le_refl _) _).alloc (by simp) _
    rw [show (w.alloc (.cells (boxRow A raw.length capA limit (.slice B one.length capB) (.slice C two.length capC)) 66)).heap.size = w.heap.size + 1 from by simp] at hbl2
    have HBL := Lib.hid hbl
    have HBL2 := Lib.hid hbl2
    have HB0 := Lib.hid hb0
    clear hbl hbl2 hb0
    go_wp2_with fail
    go_meet
    exact ⟨rfl, rfl, rfl, HBL.out, HBL2.out, HB0.out⟩
  case rest =>
    obtain ⟨rfl, rfl, rfl, hbx1, hbx2, hbw⟩ := hcut
    go_upto_if 21 with fail
    go_cut [2, 3] (fun b b' wx => b = .pointer (some ⟨w.heap.size, 0, none⟩) ∧ b' = .pointer (some ⟨w.heap.size + 1, 0, none⟩) ∧ Blk wx w.heap.size 66 (boxRow A (raw.take 12000).length capA limit (.slice B one.length capB) (.slice C two.length capC)) ∧ Blk wx (w.heap.size + 1) 66 (boxRow A' raw'.length capA' limit' (.slice B' one'.length capB') (.slice C' two'.length capC')) ∧ Below w.heap.size w wx)
    case first =>
      by_cases hc : (12000 : Int) < (raw.length : Int)
      · have hca : (12000 : Int) ≤ (capA : Int) := by omega
        have hlen : (raw.take 12000).length = 12000 := by rw [List.length_take]; omega
        have y0 : _ = some (Value.slice A raw.length capA) := hbx1.cell 0
        have f0 := hbx1.frozen 0
        have hp := hbx1.put 0 (.slice A 12000 capA)
        have hq := hbx2.far (p := ⟨w.heap.size, 0, none⟩) (by show _ ≠ w.heap.size; omega) (.slice A 12000 capA)
        have hbw2 := hbw.setCell (p := ⟨w.heap.size, 0, none⟩) (by show w.heap.size ≤ w.heap.size; omega) (.slice A 12000 capA)
        have HP := Lib.hid hp
        have HQ := Lib.hid hq
        have HBW2 := Lib.hid hbw2
        clear hp hq hbw2 hbx1 hbx2 hbw
        go_wp2_with fail
        go_meet
        rw [hlen]
        exact ⟨rfl, rfl, HP.out, HQ.out, HBW2.out⟩
      · have hlen : raw.take 12000 = raw := List.take_of_length_le (by omega)
        have HP := Lib.hid hbx1
        have HQ := Lib.hid hbx2
        have HBW2 := Lib.hid hbw
        have HL := Lib.hid hlen
        clear hbx1 hbx2 hbw hlen
        go_wp2_with fail
        go_meet
        rw [HL.out]
        exact ⟨rfl, rfl, HP.out, HQ.out, HBW2.out⟩
    case rest =>
      obtain ⟨rfl, rfl, hbx1, hbx2, hbw⟩ := hcut
      go_upto_region 3 with fail
      have y0 : _ = some (Value.slice A' raw'.length capA') := hbx2.cell 0
      have HX1 := Lib.hid hbx1
      have HX2 := Lib.hid hbx2
      have HBW := Lib.hid hbw
      clear hbx1 hbx2 hbw
      go_upto_if 29 with fail
      clear y0
      have hbx1 := HX1.out
      have hbx2 := HX2.out
      have hbw := HBW.out
      go_cut [2, 3] (fun b b' wx => b = .pointer (some ⟨w.heap.size, 0, none⟩) ∧ b' = .pointer (some ⟨w.heap.size + 1, 0, none⟩) ∧ Blk wx w.heap.size 66 (boxRow A (raw.take 12000).length capA limit (.slice B one.length capB) (.slice C two.length capC)) ∧ Blk wx (w.heap.size + 1) 66 (boxRow A' (raw'.take 12000).length capA' limit' (.slice B' one'.length capB') (.slice C' two'.length capC')) ∧ Below w.heap.size w wx)
      case first =>
        by_cases hc : (12000 : Int) < (raw'.length : Int)
        · have hca : (12000 : Int) ≤ (capA' : Int) := by omega
          have hlen : (raw'.take 12000).length = 12000 := by rw [List.length_take]; omega
          have y0 : _ = some (Value.slice A' raw'.length capA') := hbx2.cell 0
          have f0 := hbx2.frozen 0
          have hp := hbx2.put 0 (.slice A' 12000 capA')
          have hq := hbx1.far (p := ⟨w.heap.size + 1, 0, none⟩) (by show _ ≠ w.heap.size + 1; omega) (.slice A' 12000 capA')
          have hbw2 := hbw.setCell (p := ⟨w.heap.size + 1, 0, none⟩) (by show w.heap.size ≤ w.heap.size + 1; omega) (.slice A' 12000 capA')
          have HP := Lib.hid hp
          have HQ := Lib.hid hq
          have HBW2 := Lib.hid hbw2
          clear hp hq hbw2 hbx1 hbx2 hbw
          go_wp2_with fail
          go_meet
          rw [hlen]
          exact ⟨rfl, rfl, HQ.out, HP.out, HBW2.out⟩
        · have hlen : raw'.take 12000 = raw' := List.take_of_length_le (by omega)
          have HP := Lib.hid hbx1
          have HQ := Lib.hid hbx2
          have HBW2 := Lib.hid hbw
          have HL := Lib.hid hlen
          clear hbx1 hbx2 hbw hlen
          go_wp2_with fail
          go_meet
          rw [HL.out]
          exact ⟨rfl, rfl, HP.out, HQ.out, HBW2.out⟩
      case rest =>
        obtain ⟨rfl, rfl, hbx1, hbx2, hbw⟩ := hcut
        obtain ⟨rx, hrx⟩ : ∃ r, r = raw.take 12000 := ⟨_, rfl⟩
        obtain ⟨ry, hry⟩ : ∃ r, r = raw'.take 12000 := ⟨_, rfl⟩
        have hx1 : rx.length ≤ 12000 := by rw [hrx, List.length_take]; omega
        have hx2 : rx.length ≤ capA := by rw [hrx, List.length_take]; omega
        have hx3 : ry.length ≤ 12000 := by rw [hry, List.length_take]; omega
        have hx4 : ry.length ≤ capA' := by rw [hry, List.length_take]; omega
        have hrowx : RowAt w A (bytesV rx) := by rw [hrx]; have := HROW.out.take 12000; simpa [bytesV] using this
        have hrowy : RowAt w A' (bytesV ry) := by rw [hry]; have := HROW'.out.take 12000; simpa [bytesV] using this
        rw [← hrx] at hbx1
        rw [← hry] at hbx2
        have HRX := Lib.hid hrowx
        have HRY := Lib.hid hrowy
        clear hrx hry hrowx hrowy HX1 HX2 HBW
        have hg := HG.out.later hbw
        have HX1wc := Lib.hid hbx1
        have HX2wc := Lib.hid hbx2
        have HBWwc := Lib.hid hbw
        have HGwc := Lib.hid hg
        have y0 : _ = some (Value.slice A rx.length capA) := hbx1.cell 0
        have y1 : _ = some (Value.int .i64 limit) := hbx1.cell 1
        have y2 : _ = some (Value.slice B one.length capB) := hbx1.cell 2
        have y3 : _ = some (Value.slice C two.length capC) := hbx1.cell 3
        have z0 : _ = some (Value.slice A' ry.length capA') := hbx2.cell 0
        have z1 : _ = some (Value.int .i64 limit') := hbx2.cell 1
        have z2 : _ = some (Value.slice B' one'.length capB') := hbx2.cell 2
        have z3 : _ = some (Value.slice C' two'.length capC') := hbx2.cell 3
        clear hbx1 hbx2 hbw hg
        have hcall := fed_any HGwc.out (bv := .slice B one.length capB) (cv := .slice C two.length capC) (limit := limit) (capC := capB) hx1 hx2 hcA2 hcB (HRX.out.below HBWwc.out) HA.out (HROWB.out.below HBWwc.out)
        have HCALL1 := Lib.hid hcall
        clear hcall
        go_wp2_with fail
        refine HCALL1.out.mono ?_
        rintro e w1 ⟨fb1, hb1, A1, c1, hs1, rfl, -, ⟨tcs1, bl1, ho1, hst1⟩, -, -, -, hbe, -⟩
        clear y0 y1 y2 y3 z0 z1 z2 z3
        have hbx1 := HX1wc.out.later hbe
        have hbx2 := HX2wc.out.later hbe
        have hbw := HBWwc.out.trans (hbe.mono HBWwc.out.size)
        have hg := HGwc.out.later hbe
        have HX1w1 := Lib.hid hbx1
        have HX2w1 := Lib.hid hbx2
        have HBWw1 := Lib.hid hbw
        have HGw1 := Lib.hid hg
        have HBE1 := Lib.hid hbe
        have HO1 := Lib.hid ho1
        have HST1 := Lib.hid hst1
        clear ho1 hst1
        have y0 : _ = some (Value.slice A rx.length capA) := hbx1.cell 0
        have y1 : _ = some (Value.int .i64 limit) := hbx1.cell 1
        have y2 : _ = some (Value.slice B one.length capB) := hbx1.cell 2
        have y3 : _ = some (Value.slice C two.length capC) := hbx1.cell 3
        have z0 : _ = some (Value.slice A' ry.length capA') := hbx2.cell 0
        have z1 : _ = some (Value.int .i64 limit') := hbx2.cell 1
        have z2 : _ = some (Value.slice B' one'.length capB') := hbx2.cell 2
        have z3 : _ = some (Value.slice C' two'.length capC') := hbx2.cell 3
        clear hbx1 hbx2 hbw hg hbe
        have hcall := fed_any HGw1.out (bv := .slice B' one'.length capB') (cv := .slice C' two'.length capC') (limit := limit') (capC := capB') hx3 hx4 hcA2' hcB' (HRY.out.below HBWw1.out) HA'.out (HROWB'.out.below HBWw1.out)
        have HCALL2 := Lib.hid hcall
        clear hcall
        go_wp2_with fail
        refine HCALL2.out.mono ?_
        rintro e w2 ⟨fb2, hb2, A2, c2, hs2, rfl, -, ⟨tcs2, bl2, ho2, hst2⟩, -, -, -, hbe, -⟩
        clear y0 y1 y2 y3 z0 z1 z2 z3
        have hbx1 := HX1w1.out.later hbe
        have hbx2 := HX2w1.out.later hbe
        have hbw := HBWw1.out.trans (hbe.mono HBWw1.out.size)
        have hg := HGw1.out.later hbe
        have HX1w2 := Lib.hid hbx1
        have HX2w2 := Lib.hid hbx2
        have HBWw2 := Lib.hid hbw
        have HGw2 := Lib.hid hg
        have HBE2 := Lib.hid hbe
        have HO2 := Lib.hid ho2
        have HST2 := Lib.hid hst2
        clear ho2 hst2
        have y0 : _ = some (Value.slice A rx.length capA) := hbx1.cell 0
        have y1 : _ = some (Value.int .i64 limit) := hbx1.cell 1
        have y2 : _ = some (Value.slice B one.length capB) := hbx1.cell 2
        have y3 : _ = some (Value.slice C two.length capC) := hbx1.cell 3
        have z0 : _ = some (Value.slice A' ry.length capA') := hbx2.cell 0
        have z1 : _ = some (Value.int .i64 limit') := hbx2.cell 1
        have z2 : _ = some (Value.slice B' one'.length capB') := hbx2.cell 2
        have z3 : _ = some (Value.slice C' two'.length capC') := hbx2.cell 3
        clear hbx1 hbx2 hbw hg hbe
        have hcall := new_any w2 HGw2.out.size limit
        have HCALL3 := Lib.hid hcall
        clear hcall
        go_wp2_with fail
        refine HCALL3.out.mono ?_
        rintro e w3 ⟨rfl, hfd, hbe⟩
        clear y0 y1 y2 y3 z0 z1 z2 z3
        have hbx1 := HX1w2.out.later hbe
        have hbx2 := HX2w2.out.later hbe
        have hbw := HBWw2.out.trans (hbe.mono HBWw2.out.size)
        have hg := HGw2.out.later hbe
        have HX1w3 := Lib.hid hbx1
        have HX2w3 := Lib.hid hbx2
        have HBWw3 := Lib.hid hbw
        have HGw3 := Lib.hid hg
        have HBE3 := Lib.hid hbe
        have HFD3 := Lib.hid hfd
        clear hfd
        have y0 : _ = some (Value.slice A rx.length capA) := hbx1.cell 0
        have y1 : _ = some (Value.int .i64 limit) := hbx1.cell 1
        have y2 : _ = some (Value.slice B one.length capB) := hbx1.cell 2
        have y3 : _ = some (Value.slice C two.length capC) := hbx1.cell 3
        have z0 : _ = some (Value.slice A' ry.length capA') := hbx2.cell 0
        have z1 : _ = some (Value.int .i64 limit') := hbx2.cell 1
        have z2 : _ = some (Value.slice B' one'.length capB') := hbx2.cell 2
        have z3 : _ = some (Value.slice C' two'.length capC') := hbx2.cell 3
        clear hbx1 hbx2 hbw hg hbe
        have hcall := new_any w3 HGw3.out.size limit'
        have HCALL4 := Lib.hid hcall
        clear hcall
        go_wp2_with fail
        refine HCALL4.out.mono ?_
        rintro e w4 ⟨rfl, hfd, hbe⟩
        clear y0 y1 y2 y3 z0 z1 z2 z3
        have hbx1 := HX1w3.out.later hbe
        have hbx2 := HX2w3.out.later hbe
        have hbw := HBWw3.out.trans (hbe.mono HBWw3.out.size)
        have hg := HGw3.out.later hbe
        have HX1w4 := Lib.hid hbx1
        have HX2w4 := Lib.hid hbx2
        have HBWw4 := Lib.hid hbw
        have HGw4 := Lib.hid hg
        have HBE4 := Lib.hid hbe
        have HFD4 := Lib.hid hfd
        clear hfd
        have y0 : _ = some (Value.slice A rx.length capA) := hbx1.cell 0
        have y1 : _ = some (Value.int .i64 limit) := hbx1.cell 1
        have y2 : _ = some (Value.slice B one.length capB) := hbx1.cell 2
        have y3 : _ = some (Value.slice C two.length capC) := hbx1.cell 3
        have z0 : _ = some (Value.slice A' ry.length capA') := hbx2.cell 0
        have z1 : _ = some (Value.int .i64 limit') := hbx2.cell 1
        have z2 : _ = some (Value.slice B' one'.length capB') := hbx2.cell 2
        have z3 : _ = some (Value.slice C' two'.length capC') := hbx2.cell 3
        clear hbx1 hbx2 hbw hg hbe
        have hcall := pieces_any (w := w4) (capB := capC) (by omega) hx2 hcA2 hcC (HRX.out.below HBWw4.out) HA.out (HROWC.out.below HBWw4.out)
        have HCALL5 := Lib.hid hcall
        clear hcall
        go_wp2_with fail
        refine HCALL5.out.mono ?_
        rintro e w5 ⟨pg1, pc1, pcs1, rfl, hown, hrm, hbe⟩
        clear y0 y1 y2 y3 z0 z1 z2 z3
        have hbx1 := HX1w4.out.later hbe
        have hbx2 := HX2w4.out.later hbe
        have hbw := HBWw4.out.trans (hbe.mono HBWw4.out.size)
        have hg := HGw4.out.later hbe
        have HX1w5 := Lib.hid hbx1
        have HX2w5 := Lib.hid hbx2
        have HBWw5 := Lib.hid hbw
        have HGw5 := Lib.hid hg
        have HBE5 := Lib.hid hbe
        have HOWN5 := Lib.hid hown
        have HRM5 := Lib.hid hrm
        clear hown hrm
        have y0 : _ = some (Value.slice A rx.length capA) := hbx1.cell 0
        have y1 : _ = some (Value.int .i64 limit) := hbx1.cell 1
        have y2 : _ = some (Value.slice B one.length capB) := hbx1.cell 2
        have y3 : _ = some (Value.slice C two.length capC) := hbx1.cell 3
        have z0 : _ = some (Value.slice A' ry.length capA') := hbx2.cell 0
        have z1 : _ = some (Value.int .i64 limit') := hbx2.cell 1
        have z2 : _ = some (Value.slice B' one'.length capB') := hbx2.cell 2
        have z3 : _ = some (Value.slice C' two'.length capC') := hbx2.cell 3
        clear hbx1 hbx2 hbw hg hbe
        have hcall := pieces_any (w := w5) (capB := capC') (by omega) hx4 hcA2' hcC' (HRY.out.below HBWw5.out) HA'.out (HROWC'.out.below HBWw5.out)
        have HCALL6 := Lib.hid hcall
        clear hcall
        go_wp2_with fail
        refine HCALL6.out.mono ?_
        rintro e w6 ⟨pg2, pc2, pcs2, rfl, hown, hrm, hbe⟩
        clear y0 y1 y2 y3 z0 z1 z2 z3
        have hbx1 := HX1w5.out.later hbe
        have hbx2 := HX2w5.out.later hbe
        have hbw := HBWw5.out.trans (hbe.mono HBWw5.out.size)
        have hg := HGw5.out.later hbe
        have HX1w6 := Lib.hid hbx1
        have HX2w6 := Lib.hid hbx2
        have HBWw6 := Lib.hid hbw
        have HGw6 := Lib.hid hg
        have HBE6 := Lib.hid hbe
        have HOWN6 := Lib.hid hown
        have HRM6 := Lib.hid hrm
        clear hown hrm
        have y0 : _ = some (Value.slice A rx.length capA) := hbx1.cell 0
        have y1 : _ = some (Value.int .i64 limit) := hbx1.cell 1
        have y2 : _ = some (Value.slice B one.length capB) := hbx1.cell 2
        have y3 : _ = some (Value.slice C two.length capC) := hbx1.cell 3
        have z0 : _ = some (Value.slice A' ry.length capA') := hbx2.cell 0
        have z1 : _ = some (Value.int .i64 limit') := hbx2.cell 1
        have z2 : _ = some (Value.slice B' one'.length capB') := hbx2.cell 2
        have z3 : _ = some (Value.slice C' two'.length capC') := hbx2.cell 3
        clear hbx1 hbx2 hbw hg hbe
        clear y0 y1 y2 y3 z0 z1 z2 z3
        go_wp2_with fail
        have hps := piecesOf_count rx two
        have hqs := piecesOf_count ry two'
        have hpf := piecesOf_flat rx two
        have hqf := piecesOf_flat ry two'
        generalize piecesOf rx two = ps at HOWN5 HRM5 hps hpf ⊢
        generalize piecesOf ry two' = qs at HOWN6 HRM6 hqs hqf ⊢
        have hgs2 : 8 ≤ w2.heap.size := HGw2.out.size
        have hz1 : w2.heap.size < w3.heap.size := HFD3.out.blk.lt
        have hz2 : w3.heap.size < w4.heap.size := HFD4.out.blk.lt
        have hz3 : w4.heap.size ≤ w5.heap.size := HBE5.out.size
        have hz4 : w5.heap.size ≤ w6.heap.size := HBE6.out.size
        have hown5 := own_later HOWN5.out HBE6.out
        have hrm5 := HRM5.out.later HBE6.out
        have hstart : Two w6 [w2.heap.size, w3.heap.size] w2.heap.size w3.heap.size limit.toNat limit'.toNat (fedBy limit.toNat (ps.take 0)) (fedBy limit'.toNat (qs.take 0)) (toldBy limit.toNat (ps.take 0)) (toldBy limit'.toNat (qs.take 0)) nilRow nilRow w6 :=
          ⟨[], [], FedOn.new (((HFD3.out.later HBE4.out).later HBE5.out).later HBE6.out) HGw6.out (by simp), FedOn.new ((HFD4.out.later HBE5.out).later HBE6.out) HGw6.out (by simp), by simp⟩
        have hb26 : Below w2.heap.size w2 w6 := ((HBE3.out.trans (HBE4.out.mono (by omega))).trans (HBE5.out.mono (by omega))).trans (HBE6.out.mono (by omega))
        have hl1 : ∀ W : World, OnlyIn [w2.heap.size, w3.heap.size] w6 W → RowAt W A1 tcs1 ∧ StepsAt W (toldAll limit.toNat rx) tcs1 := fun W ho => by
          have e : ∀ k, k < w2.heap.size → W.heap[k]? = w2.heap[k]? := fun k hk => (ho.block k (by omega) (by simp; omega)).trans (hb26.block k hk)
          have o1 := own_later HO1.out HBE2.out
          have s1 := HST1.out.same fun k hk => HBE2.out.block k (HST1.out.lt k hk)
          exact ⟨RowAt.of_own (own_same o1 fun k hk => e k (own_lt o1 k hk)), (s1.same fun k hk => e k (s1.lt k hk)).at⟩
        have hl2 : ∀ W : World, OnlyIn [w2.heap.size, w3.heap.size] w6 W → RowAt W A2 tcs2 ∧ StepsAt W (toldAll limit'.toNat ry) tcs2 := fun W ho => by
          have e : ∀ k, k < w2.heap.size → W.heap[k]? = w2.heap[k]? := fun k hk => (ho.block k (by omega) (by simp; omega)).trans (hb26.block k hk)
          exact ⟨RowAt.of_own (own_same HO2.out fun k hk => e k (own_lt HO2.out k hk)), (HST2.out.same fun k hk => e k (HST2.out.lt k hk)).at⟩
        have HOWNP := Lib.hid hown5
        have HRMP := Lib.hid hrm5
        have HSTART := Lib.hid hstart
        have HL1 := Lib.hid hl1
        have HL2 := Lib.hid hl2
        have HPF := Lib.hid hpf
        have HQF := Lib.hid hqf
        have hbw6 := HBWw6.out.size
        have hbw2 := HBWw2.out.size
        clear hown5 hrm5 hstart hl1 hl2 hpf hqf hb26
        go_loopw [15, 16, 17] (fun c d i wx => ∃ k : Nat, i = .int .i64 k ∧ (k ≤ ps.length ∨ k ≤ qs.length) ∧ Two w6 [w2.heap.size, w3.heap.size] w2.heap.size w3.heap.size limit.toNat limit'.toNat (fedBy limit.toNat (ps.take k)) (fedBy limit'.toNat (qs.take k)) (toldBy limit.toNat (ps.take k)) (toldBy limit'.toNat (qs.take k)) c d wx) (fun _ _ i _ => ps.length + qs.length - (intOf i).toNat)
        case atStart => exact ⟨0, rfl, .inl (by omega), HSTART.out⟩
        case round =>
          obtain ⟨k, rfl, hk, htwo⟩ := hrel
          obtain ⟨i0, hi, hz0, hzz1, hzz2⟩ := info_parts info_step
          have hlow : ∀ x ∈ [w2.heap.size, w3.heap.size], 8 ≤ x := fun x hx => by simp at hx; omega
          have hL4 : ∀ x ∈ [w2.heap.size, w3.heap.size], x < w4.heap.size := fun x hx => by simp at hx; omega
          have hL5 : ∀ x ∈ [w2.heap.size, w3.heap.size], x < w5.heap.size := fun x hx => by simp at hx; omega
          have HLOW := Lib.hid hlow
          have HL4 := Lib.hid hL4
          have HL5 := Lib.hid hL5
          clear hlow hL4 hL5
          by_cases ha : k < ps.length
          · by_cases hb : k < qs.length
            · have HT0 := Lib.hid htwo
              clear htwo
              obtain ⟨pa, hpa⟩ : ∃ p, ps[k]? = some p := ⟨ps[k]'ha, List.getElem?_eq_getElem _⟩
              obtain ⟨gpa, cpa, ya, hrowa, hgpa, hgla⟩ := piece_at HOWNP.out HRMP.out hpa HT0.out.only HL4.out
              have hturna := (HT0.out).turn (cp := cpa) (by omega) (by omega) (by omega) hpa (by rw [HPF.out]; omega) hrowa hgpa (by omega) HLOW.out (by omega)
              have HTURNa := Lib.hid hturna
              clear hturna hrowa hpa
              go_wp2_with fail
              refine HTURNa.out.mono ?_
              rintro e wa ⟨Xa, xa, na, ma, tcsa, tca, rfl, r1a, r2a, r3a, hmna, hsza, hgoa⟩
              have R1a := Lib.hid r1a
              have R2a := Lib.hid r2a
              have R3a := Lib.hid r3a
              have HGOa := Lib.hid hgoa
              clear r1a r2a r3a hgoa ya
              go_upto_region 19 with (at_builtin; refine wpList_append_row rfl (.tmp 88) (.tmp 94) _ rfl w6.heap.size 61 i0 _ 16 184 Tryz.underlying41 hi hz0 hzz1 hzz2 rfl (by decide) u15 ma tcsa rfl R1a.out Xa na xa tca rfl 0 R2a.out R3a.out ?_ ?_ hsza ?_; (unfold maxLen; omega); omega; intro va wva hoa hga haa; have htwoa := HGOa.out va wva hoa hga haa; have HTa := Lib.hid htwoa; clear hoa hga haa htwoa)
              obtain ⟨pb, hpb⟩ : ∃ p, qs[k]? = some p := ⟨qs[k]'hb, List.getElem?_eq_getElem _⟩
              obtain ⟨gpb, cpb, yb, hrowb, hgpb, hglb⟩ := piece_at HOWN6.out HRM6.out hpb HTa.out.only HL5.out
              have hturnb := (HTa.out.swap).turn (cp := cpb) (by omega) (by omega) (by omega) hpb (by rw [HQF.out]; omega) hrowb hgpb (by omega) HLOW.out (by omega)
              have HTURNb := Lib.hid hturnb
              clear hturnb hrowb hpb
              go_wp2_with fail
              refine HTURNb.out.mono ?_
              rintro e wb ⟨Xb, xb, nb, mb, tcsb, tcb, rfl, r1b, r2b, r3b, hmnb, hszb, hgob⟩
              have R1b := Lib.hid r1b
              have R2b := Lib.hid r2b
              have R3b := Lib.hid r3b
              have HGOb := Lib.hid hgob
              clear r1b r2b r3b hgob yb
              go_upto_region 16 with (at_builtin; refine wpList_append_row rfl (.tmp 100) (.tmp 106) _ rfl w6.heap.size 61 i0 _ 16 184 Tryz.underlying41 hi hz0 hzz1 hzz2 rfl (by decide) u16 mb tcsb rfl R1b.out Xb nb xb tcb rfl 0 R2b.out R3b.out ?_ ?_ hszb ?_; (unfold maxLen; omega); omega; intro vb wvb hob hgb hab; have htwob := HGOb.out vb wvb hob hgb hab; have HTb := Lib.hid htwob; clear hob hgb hab htwob)
              go_wp2_with fail
              exact ⟨⟨k + 1, by go_num, by omega, HTb.out.swap⟩, by show ps.length + qs.length - ((k : Int) + 1).toNat < ps.length + qs.length - (k : Int).toNat; omega⟩
            · have HT0 := Lib.hid htwo
              clear htwo
              obtain ⟨pa, hpa⟩ : ∃ p, ps[k]? = some p := ⟨ps[k]'ha, List.getElem?_eq_getElem _⟩
              obtain ⟨gpa, cpa, ya, hrowa, hgpa, hgla⟩ := piece_at HOWNP.out HRMP.out hpa HT0.out.only HL4.out
              have hturna := (HT0.out).turn (cp := cpa) (by omega) (by omega) (by omega) hpa (by rw [HPF.out]; omega) hrowa hgpa (by omega) HLOW.out (by omega)
              have HTURNa := Lib.hid hturna
              clear hturna hrowa hpa
              go_wp2_with fail
              refine HTURNa.out.mono ?_
              rintro e wa ⟨Xa, xa, na, ma, tcsa, tca, rfl, r1a, r2a, r3a, hmna, hsza, hgoa⟩
              have R1a := Lib.hid r1a
              have R2a := Lib.hid r2a
              have R3a := Lib.hid r3a
              have HGOa := Lib.hid hgoa
              clear r1a r2a r3a hgoa ya
              go_upto_region 16 with (at_builtin; refine wpList_append_row rfl (.tmp 88) (.tmp 94) _ rfl w6.heap.size 61 i0 _ 16 184 Tryz.underlying41 hi hz0 hzz1 hzz2 rfl (by decide) u15 ma tcsa rfl R1a.out Xa na xa tca rfl 0 R2a.out R3a.out ?_ ?_ hsza ?_; (unfold maxLen; omega); omega; intro va wva hoa hga haa; have htwoa := HGOa.out va wva hoa hga haa; have HTa := Lib.hid htwoa; clear hoa hga haa htwoa)
              have hend := HTa.out
              rw [← fedBy_more limit'.toNat (ps := qs) (k := k) (by omega), ← toldBy_more limit'.toNat (ps := qs) (k := k) (by omega)] at hend
              have HEND := Lib.hid hend
              clear hend
              go_wp2_with fail
              exact ⟨⟨k + 1, by go_num, by omega, HEND.out⟩, by show ps.length + qs.length - ((k : Int) + 1).toNat < ps.length + qs.length - (k : Int).toNat; omega⟩
          · by_cases hb : k < qs.length
            · have HT0 := Lib.hid htwo
              clear htwo
              obtain ⟨pb, hpb⟩ : ∃ p, qs[k]? = some p := ⟨qs[k]'hb, List.getElem?_eq_getElem _⟩
              obtain ⟨gpb, cpb, yb, hrowb, hgpb, hglb⟩ := piece_at HOWN6.out HRM6.out hpb HT0.out.only HL5.out
              have hturnb := (HT0.out.swap).turn (cp := cpb) (by omega) (by omega) (by omega) hpb (by rw [HQF.out]; omega) hrowb hgpb (by omega) HLOW.out (by omega)
              have HTURNb := Lib.hid hturnb
              clear hturnb hrowb hpb
              go_wp2_with fail
              refine HTURNb.out.mono ?_
              rintro e wb ⟨Xb, xb, nb, mb, tcsb, tcb, rfl, r1b, r2b, r3b, hmnb, hszb, hgob⟩
              have R1b := Lib.hid r1b
              have R2b := Lib.hid r2b
              have R3b := Lib.hid r3b
              have HGOb := Lib.hid hgob
              clear r1b r2b r3b hgob yb
              go_upto_region 16 with (at_builtin; refine wpList_append_row rfl (.tmp 100) (.tmp 106) _ rfl w6.heap.size 61 i0 _ 16 184 Tryz.underlying41 hi hz0 hzz1 hzz2 rfl (by decide) u16 mb tcsb rfl R1b.out Xb nb xb tcb rfl 0 R2b.out R3b.out ?_ ?_ hszb ?_; (unfold maxLen; omega); omega; intro vb wvb hob hgb hab; have htwob := HGOb.out vb wvb hob hgb hab; have HTb := Lib.hid htwob; clear hob hgb hab htwob)
              have hend := HTb.out.swap
              rw [← fedBy_more limit.toNat (ps := ps) (k := k) (by omega), ← toldBy_more limit.toNat (ps := ps) (k := k) (by omega)] at hend
              have HEND := Lib.hid hend
              clear hend
              go_wp2_with fail
              exact ⟨⟨k + 1, by go_num, by omega, HEND.out⟩, by show ps.length + qs.length - ((k : Int) + 1).toNat < ps.length + qs.length - (k : Int).toNat; omega⟩
            · rw [List.take_of_length_le (by omega : ps.length ≤ k), List.take_of_length_le (by omega : qs.length ≤ k), toldBy_flat limit.toNat HPF.out, toldBy_flat limit'.toNat HQF.out] at htwo
              obtain ⟨Ac, cc, tcsc, blc, rfl, hoc, hsc⟩ := htwo.own
              obtain ⟨Ad, cd, tcsd, bld, rfl, hod, hsd⟩ := htwo.swap.own
              obtain ⟨hl1a, hl1b⟩ := HL1.out wr htwo.only
              obtain ⟨hl2a, hl2b⟩ := HL2.out wr htwo.only
              have hbwr : Below w.heap.size w wr := HBWw6.out.trans (htwo.only.below (by omega) (fun x hx => by simp at hx; omega))
              have hs1 := sameSteps_same (ca := c1) (cb := cc) (by have := toldAll_count limit.toNat rx; omega) (short_fit (toldAll_short limit.toNat rx)) hl1a (RowAt.of_own hoc) hl1b hsc.at
              have hs2 := fun (W : World) (hb : Below wr.heap.size wr W) => sameSteps_same (ca := c2) (cb := cd) (by have := toldAll_count limit'.toNat ry; omega) (short_fit (toldAll_short limit'.toNat ry)) (hl2a.below hb) ((RowAt.of_own hod).below hb) (hl2b.below hb) (hsd.at.below hb)
              have hgr := htwo.glob
              have HS1 := Lib.hid hs1
              have HS2 := Lib.hid hs2
              have HGR := Lib.hid hgr
              have HBWR := Lib.hid hbwr
              clear hs1 hs2 hgr hbwr htwo hoc hod hsc hsd hl1a hl1b hl2a hl2b
              go_wp2_with fail
              refine HS1.out.mono ?_
              rintro e wy ⟨rfl, hby⟩
              have hs2 := HS2.out wy hby
              have HS2' := Lib.hid hs2
              have HBY := Lib.hid hby
              clear hs2 hby
              go_wp2_with fail
              refine HS2'.out.mono ?_
              rintro e wz ⟨rfl, hbz⟩
              have hwk := wakes_any ((HGR.out.later HBY.out).later hbz)
              have hbf := HBWR.out.trans ((HBY.out.trans (hbz.mono HBY.out.size)).mono HBWR.out.size)
              have HWK := Lib.hid hwk
              have HBF := Lib.hid hbf
              clear hwk hbf hbz
              go_wp2_with (refine HWK.out.mono ?_; rintro e wk ⟨rfl, hbk⟩; have HBK := Lib.hid hbk; clear hbk)
              rw [← HR.out]
              exact ⟨rfl, HBF.out.trans (HBK.out.mono HBF.out.size)⟩
end Go.Proofs.YtbiakncngmgbkaaGreatDoor
end
section
namespace Go.Proofs.YtbiakncngmgbkaaGreatDoor
open Go.ChangeShapes Go.WideShapes Go.ChangeAt Go.RowKit

set_option maxRecDepth 100000 in
theorem lineApart_lifted (os : Os) (started : os.Started) (H : Type) (enc : TypeId × Value → H) :
    ReturnsInHanded {} Tryz.checked os 6 .any (fun w args => (Rows.lineApartSpec.pre enc Tryz.prog Tryz.f6 [] false w args ∧ laidMetH Tryz.prog Rows.lineApartRow.laid w) ∧ sizedMet enc Tryz.prog Tryz.f6 (OpenSpec.ofChange Rows.lineApartSpec) false w args)
      (Rows.lineApartSpec.post enc Tryz.prog Tryz.f6 false true false false) := by
  refine returns_laid_shaped (C := Tryz.checked) (X := fun w _ => laidMetH Tryz.prog Rows.lineApartRow.laid w) (fun _ _ _ hh h => h.of_heap hh) ownKnob0 started (by kernel_rfl) Tryz.func6
    (ChangeSpec.witness_shaped (enc := enc) (C := Tryz.checked) (os := os) (X := fun w _ => laidMetH Tryz.prog Rows.lineApartRow.laid w) false (World.laidAll Tryz.prog os Rows.lineApartRow.laid) #[.agg #[nilRow, .int .i64 0, nilRow, nilRow], .agg #[nilRow, .int .i64 0, nilRow, nilRow]] 8 (World.laidAll_os _ _ _)
      (World.shaped_of_ZipB (by kernel_rfl) (by kernel_rfl)) (by kernel_rfl) (by kernel_rfl) (by kernel_rfl)
      (by rw [MakeChecks.laidMetH_plain _ _ _ (by kernel_rfl)]; exact laidMet_laidAll _ (by kernel_rfl) (by kernel_rfl))) ?_
  intro W base args ds gs before hval0 hW _ _ hL hsh
  have hW' := hW
  obtain ⟨p, q, hA0, hV, rfl, _, _⟩ := hW
  have hA : DataW.TrodAll enc Tryz.prog W 0 (fun _ => true) true Tryz.f6.params.toList args.toList ds p := hA0
  rw [Tryz.params6] at hA
  rw [MakeChecks.laidMetH_plain _ _ _ (by kernel_rfl)] at hL
  have hG : Glob W := glob_of hsh ⟨_, Lib.laidMet.reads hL (.tail _ (.tail _ (.tail _ (.tail _ (.tail _ (.head _))))))⟩ ⟨_, Lib.laidMet.reads hL (.tail _ (.tail _ (.tail _ (.tail _ (.head _)))))⟩
  obtain ⟨v, v', d, d', q1, q2, rfl, rfl, rfl, hd, hd'⟩ := trodAll_two hA
  have hv : Value.okWide Tryz.prog W .any base 66 v := hval0 0 _ v (by rw [Tryz.params6]; rfl) rfl
  have hv' : Value.okWide Tryz.prog W .any base 66 v' := hval0 1 _ v' (by rw [Tryz.params6]; rfl) rfl
  obtain ⟨A, B, C, capA, capB, capC, raw, one, two, limit, rfl, h1, h2, h3, h4, h5, h6, h7, h8, h9, h10⟩ := open_row hv hd
  obtain ⟨A', B', C', capA', capB', capC', raw', one', two', limit', rfl, k1, k2, k3, k4, k5, k6, k7, k8, k9, k10⟩ := open_row hv' hd'
  refine (lineApart_any hG h4 h5 h8 h10 h3 h6 h7 h9 k4 k5 k8 k10 k3 k6 k7 k9).mono fun e W' ⟨he, hb⟩ => ?_
  subst he
  exact ⟨_, rfl, law_post hW' rfl (by kernel_rfl) rfl (by rw [Tryz.params6]; intro t ht; simp at ht; subst ht; exact ⟨by kernel_rfl, of_decide_eq_true (by kernel_rfl)⟩) hb⟩

theorem lineApart_row : Rows.lineApartRow.holds Tryz.pinned (OpenSpec.ofChange Rows.lineApartSpec) :=
  OpenClaim.holds_of_wide 6 Tryz.f6 rfl rfl rfl rfl rfl rfl rfl ⟨rfl, rfl, rfl, rfl, rfl⟩ rfl rfl rfl rfl rfl (by kernel_rfl) Tryz.func6 (by kernel_rfl)
    (of_decide_eq_true (by kernel_rfl)) (by unfold Func.isWrapper; first | (rw [if_pos (by decide +kernel)]; kernel_rfl) | (rw [if_neg (by decide +kernel)]; exact ⟨rfl, rfl⟩))
    (fun os started H enc _ => lineApart_lifted os started H enc)

/-- the statement -/
theorem lineApart_card : Rows.LineApartCardSaid :=
  Claim7.holds_tied_plain_at .later [] [.data, .data, .data, .data, .sentinel, .sentinel, .pinned] true Rows.lineApartCard.stood.harness true
    lineApart_row (fun _ h => by cases h) (by kernel_rfl) (fun _ h => by cases h) lineApart_row_tie rfl ⟨rfl, rfl⟩ (by kernel_rfl) rfl
    (fun f fn hf hfn => by
      obtain rfl : f = 6 := Option.some.inj ((show Tryz.prog.funcNamed "granary/granarylaw12.LineApart" = some 6 by kernel_rfl).symm.trans hf) |>.symm
      obtain rfl : fn = Tryz.f6 := (Option.some.inj (Tryz.func6.symm.trans hfn)).symm
      exact ⟨by kernel_rfl, fun j t ht => by
        rw [Tryz.params6] at ht
        obtain rfl : t = 66 := by simpa using Array.mem_of_getElem? ht
        kernel_rfl⟩)
    (by kernel_rfl)
#print axioms lineApart_card
end Go.Proofs.YtbiakncngmgbkaaGreatDoor
end
