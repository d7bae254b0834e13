/- Walks of the statements' helpers: Within, Pieces. -/
import Derived.Test.YtbiakncngmgbkaaGreatDoorPc
import Derived.Test.YtbiakncngmgbkaaGreatDoorFd
import Derived.Deep.CutRange
import Derived.Deep.DeepCutAuto
namespace Go.Proofs.YtbiakncngmgbkaaGreatDoor
attribute [local go_sem ↓] Go.wp_at_zero Go.wp_at_succ
open Go.RowKit

set_option maxHeartbeats 1000000 in
theorem within_any (i : Int) (w : World) : Calls Tryz.prog 49 #[.int .i64 i, .int .i64 41] w fun e w' => e = .returned (.int .i64 (within41 i)) ∧ w = w' := by
  have h1 := Int.lt_tmod_of_pos i (b := 41) (by decide)
  have h2 := Int.tmod_lt_of_pos i (b := 41) (by decide)
  have hb := within_bounds i
  unfold within41 at hb ⊢
  go_enter Tryz.func49, Tryz.ntmps49
  go_wp2
  go_ret
  exact ⟨rfl, rfl⟩

def intsV (l : List Int) : List Value := l.map fun n => .int .i64 n
theorem intsV_length (l : List Int) : (intsV l).length = l.length := by simp [intsV]
theorem info_bytes : (Tryz.prog.info? 43).map (fun i => (i.zero, i.size, i.bytes)) = some (some nilRow, 1, 24) := by kernel_rfl

/-- rows of bytes, each in a block of its own -/
def RowsMem (w : World) (lo : Nat) (ps : List Sp.Bs) (cs : List Value) : Prop :=
  cs.length = ps.length ∧ ∀ (i : Nat) (p : Sp.Bs), ps[i]? = some p → ∃ g c, cs[i]? = some (Value.slice (some ⟨g, 0, none⟩) p.length c) ∧ w.ownsRow lo 5 1 (.slice (some ⟨g, 0, none⟩) p.length c) p.length (bytesV p)

theorem RowsMem.nil (w : World) (lo : Nat) : RowsMem w lo [] [] := ⟨rfl, fun i p h => by simp at h⟩
theorem RowsMem.later {w w' : World} {lo : Nat} {ps : List Sp.Bs} {cs : List Value} (h : RowsMem w lo ps cs) (hb : Below w.heap.size w w') : RowsMem w' lo ps cs :=
  ⟨h.1, fun i p hp => by obtain ⟨g, c, h1, h2⟩ := h.2 i p hp; exact ⟨g, c, h1, own_later h2 hb⟩⟩
theorem RowsMem.kept {w w' : World} {lo base size n : Nat} {ps : List Sp.Bs} {cs xs : List Value} {ov : Value} (h : RowsMem w lo ps cs) (ho : w.ownsRow base 43 size ov n xs) (hg : w.grownBy w' ov.ownBlock) : RowsMem w' lo ps cs :=
  ⟨h.1, fun i p hp => by obtain ⟨g, c, h1, h2⟩ := h.2 i p hp; exact ⟨g, c, h1, h2.kept hg (own_own_apart h2 ho (by decide))⟩⟩
theorem RowsMem.snoc {w : World} {lo : Nat} {ps : List Sp.Bs} {cs : List Value} (h : RowsMem w lo ps cs) {p : Sp.Bs} {g c : Nat} (hp : w.ownsRow lo 5 1 (.slice (some ⟨g, 0, none⟩) p.length c) p.length (bytesV p)) :
    RowsMem w lo (ps ++ [p]) (cs ++ [Value.slice (some ⟨g, 0, none⟩) p.length c]) := by
  refine ⟨by simp [h.1], fun i q hq => ?_⟩
  rcases Nat.lt_or_ge i ps.length with hi | hi
  · rw [List.getElem?_append_left hi] at hq
    obtain ⟨g', c', h1, h2⟩ := h.2 i q hq
    exact ⟨g', c', by rw [List.getElem?_append_left (by rw [h.1]; exact hi)]; exact h1, h2⟩
  · rw [List.getElem?_append_right hi] at hq
    obtain ⟨h0, rfl⟩ : i - ps.length = 0 ∧ p = q := by
      cases hk : i - ps.length with
      | zero => rw [hk] at hq; simpa using hq
      | succ k => rw [hk] at hq; simp at hq
    exact ⟨g, c, by rw [List.getElem?_append_right (by rw [h.1]; exact hi), h.1, h0]; rfl, hp⟩

/-- where the loop of Pieces stands -/
structure PiecesMid (w : World) (raw : Sp.Bs) (cuts : List Int) (k a : Nat) (out : List Sp.Bs) (ov : Value) (wr : World) : Prop where
  cut : Cutting raw cuts k a out
  mem : ∃ cs, wr.ownsRow w.heap.size 43 1 ov out.length cs ∧ RowsMem wr w.heap.size out cs
  below : Below w.heap.size w wr

/-- what Pieces tells -/
def PiecesPost (w : World) (raw : Sp.Bs) (cuts : List Int) (e : Ending) (w' : World) : Prop :=
  ∃ g c cs, e = .returned (.slice (some ⟨g, 0, none⟩) (piecesOf raw cuts).length c) ∧ w'.ownsRow w.heap.size 43 1 (.slice (some ⟨g, 0, none⟩) (piecesOf raw cuts).length c) (piecesOf raw cuts).length cs ∧ RowsMem w' w.heap.size (piecesOf raw cuts) cs ∧ Below w.heap.size w w'

theorem PiecesMid.on {w wr w2 w3 : World} {raw : Sp.Bs} {cuts : List Int} {k a : Nat} {out : List Sp.Bs} {ov : Value} (h : PiecesMid w raw cuts k a out ov wr) {p : Sp.Bs} (hb : Below wr.heap.size wr w2) {g c : Nat}
    (hp : w2.ownsRow wr.heap.size 5 1 (.slice (some ⟨g, 0, none⟩) p.length c) p.length (bytesV p)) {cs : List Value} (ho : wr.ownsRow w.heap.size 43 1 ov out.length cs) (hrm : RowsMem wr w.heap.size out cs) {o : Obj} {g3 cap : Nat}
    (hown : w3.ownsRow w.heap.size 43 1 (.slice (some ⟨g3, 0, none⟩) (out.length + 1) cap) (out.length + 1) (cs ++ [Value.slice (some ⟨g, 0, none⟩) p.length c])) (hg : (w2.alloc o).grownBy w3 ov.ownBlock) :
    w3.ownsRow w.heap.size 43 1 (.slice (some ⟨g3, 0, none⟩) (out ++ [p]).length cap) (out ++ [p]).length (cs ++ [Value.slice (some ⟨g, 0, none⟩) p.length c]) ∧
      RowsMem w3 w.heap.size (out ++ [p]) (cs ++ [Value.slice (some ⟨g, 0, none⟩) p.length c]) ∧ Below w.heap.size w w3 := by
  have hb1 : Below wr.heap.size wr (w2.alloc o) := hb.alloc hb.size o
  have ho1 := own_later ho hb1
  have e : (out ++ [p]).length = out.length + 1 := by simp
  have hp1 : (w2.alloc o).ownsRow w.heap.size 5 1 (.slice (some ⟨g, 0, none⟩) p.length c) p.length (bytesV p) := (World.ownsRow.mono hp h.below.size).alloc o
  refine ⟨by rw [e]; exact hown, ((hrm.later hb1).snoc hp1).kept ho1 hg, (h.below.trans (hb1.mono h.below.size)).grown hg (by have := hb1.size; have := h.below.size; omega) (fun k hk => (ho1.lt k hk).1)⟩

set_option maxHeartbeats 8000000 in
set_option maxRecDepth 100000 in
theorem pieces_any {w : World} {A B : Option Addr} {capA capB : Nat} {raw : Sp.Bs} {cuts : List Int} (hn : raw.length ≤ 1000000) (hcA : raw.length ≤ capA) (hcA2 : capA ≤ 9223372036854775807) (hcB : cuts.length ≤ 9223372036854775807)
    (hrow : RowAt w A (bytesV raw)) (hA : A = none → capA = 0) (hrowB : RowAt w B (intsV cuts)) :
    Calls Tryz.prog 21 #[.slice A raw.length capA, .slice B cuts.length capB] w (PiecesPost w raw cuts) := by
  generalize hR : PiecesPost w raw cuts = R
  have HROW := Lib.hid hrow
  have HROWB := Lib.hid hrowB
  have HA := Lib.hid hA
  have HR := Lib.hid hR
  have hstart : PiecesMid w raw cuts 0 0 [] nilRow w := ⟨Cutting.start _ _, ⟨[], World.ownsRow_nil _ _ _ 1, RowsMem.nil _ _⟩, Below.refl _ _⟩
  have HS := Lib.hid hstart
  obtain ⟨i0, hi, hz0, hz1, hz2⟩ := info_parts info_bytes
  clear hrow hrowB hA hR hstart
  go_enter Tryz.func21, Tryz.ntmps21
  go_wp2_with fail
  go_loopw [5, 6, 7, 8] (fun o a i _ wr => ∃ (k at' : Nat) (out : List Sp.Bs), i = .int .i64 k ∧ a = .int .i64 at' ∧ k ≤ cuts.length ∧ PiecesMid w raw cuts k at' out o wr) (fun _ _ i _ _ => cuts.length - (intOf i).toNat)
  case atStart => exact ⟨0, 0, [], rfl, rfl, by omega, HS.out⟩
  case round =>
    obtain ⟨k, a, out, rfl, rfl, hk, hm⟩ := hrel
    have hm' := hm
    obtain ⟨hcut, ⟨cs, ho, hrm⟩, hb⟩ := hm'
    have hale := hcut.le
    have hout : out.length ≤ k := by rw [hcut.count]; omega
    have HM := Lib.hid hm
    have HO := Lib.hid ho
    have HRM := Lib.hid hrm
    have HB := Lib.hid hb
    by_cases hgo : k < cuts.length ∧ a < raw.length ∧ k < 400
    · obtain ⟨g1, g2, g3⟩ := hgo
      obtain ⟨c, hc⟩ : ∃ c, cuts[k]? = some c := ⟨cuts[k], by simp [g1]⟩
      have hon := hcut.on hc g3 g2
      obtain ⟨gb, ob, hBe, ycell⟩ : ∃ g o, B = some ⟨g, o, none⟩ ∧ wr.cell? ⟨g, o + k, none⟩ = some (.int .i64 c) := by
        rcases HROWB.out.below hb with h0 | ⟨g, o, h1, h2, h3⟩
        · have : cuts = [] := by simpa [intsV] using h0
          rw [this] at g1; simp at g1
        · exact ⟨g, o, h1, h3 _ _ (by simp [intsV, hc])⟩
      obtain ⟨ga, oa, hAe⟩ : ∃ g o, A = some ⟨g, o, none⟩ := by
        rcases HROW.out with h0 | ⟨g, o, h1, h2, h3⟩
        · have : raw = [] := by simpa [bytesV] using h0
          rw [this] at g2; simp at g2
        · exact ⟨g, o, h1⟩
      subst hBe
      subst hAe
      have hw := within_any c wr
      have hwb := within_bounds c
      obtain ⟨m, hmw⟩ : ∃ m : Nat, within41 c = m := ⟨(within41 c).toNat, by omega⟩
      have hcl : cutLen c (raw.drop a) = min m (raw.length - a) := by unfold cutLen; rw [hmw, List.length_drop]; simp
      rw [hcl] at hon
      rw [hmw] at hw
      obtain ⟨j, hj⟩ : ∃ j, j = min m (raw.length - a) := ⟨_, rfl⟩
      rw [← hj] at hon
      have HW := Lib.hid hw
      have HON := Lib.hid hon
      have HJ := Lib.hid hj
      have hja : a + j ≤ raw.length := by omega
      clear hm hcut ho hrm hb hw hon hc hcl hmw hwb hj
      go_upto_if 35 with (refine HW.out.mono ?_; rintro e w' ⟨rfl, rfl⟩)
      go_cut [8] (fun n wx => n = .int .i64 (j : Nat) ∧ wr = wx)
      case first =>
        by_cases hgt : (raw.length : Int) - (a : Int) < (m : Int)
        · go_wp2
          go_meet
          exact ⟨congrArg (Value.int .i64) (by have := HJ.out; omega), rfl⟩
        · go_wp2
          go_meet
          exact ⟨congrArg (Value.int .i64) (by have := HJ.out; omega), rfl⟩
      case rest =>
        obtain ⟨rfl, rfl⟩ := hcut
        have hlen : ((raw.drop a).take j).length = j := by rw [List.length_take, List.length_drop]; omega
        have hc := copy_any (cap := capA - a) (l := (raw.drop a).take j) (by omega) (by rw [bytesV_stretch]; exact (HROW.out.below HB.out).stretch a j) (fun h => by cases h)
        rw [hlen] at hc
        have HC := Lib.hid hc
        have HLEN := Lib.hid hlen
        clear hc hlen
        go_wp2_with fail
        refine HC.out.mono ?_
        rintro e w2 ⟨g, cp, rfl, hown2, hb2⟩
        have HOWN2 := Lib.hid hown2
        have HB2 := Lib.hid hb2
        have ho2 := own_later HO.out (HB2.out.alloc HB2.out.size (.cells #[.slice (some ⟨g, 0, none⟩) j cp] 43))
        have HO2 := Lib.hid ho2
        have hlw : w.heap.size ≤ w2.heap.size := Nat.le_trans HB.out.size hb2.size
        clear hown2 hb2 ho2
        go_wp2_with (at_builtin; refine wpList_append_put rfl (.tmp 40) (.tmp 48) _ rfl w.heap.size 43 i0 _ 1 24 Tryz.underlying22 hi hz0 hz1 hz2 rfl (by decide) u5 out.length cs rfl HO2.out ⟨w2.heap.size, 0, none⟩ 1 1 [.slice (some ⟨g, 0, none⟩) j cp] rfl rfl ?_ ?_ ?_ ?_ ?_ ?_ ?_; exact cells_one _ _ _; (intro u hu; simp at hu; subst hu; rfl); decide; (unfold maxLen; omega); omega; (simp; omega); intro g3 cap3 w3 hown3 hg3 hat3; have Hown3 := Lib.hid hown3; have Hg3 := Lib.hid hg3; clear hown3 hg3 hat3)
        have hon : PiecesMid w raw cuts (k + 1) (a + j) (out ++ [(raw.drop a).take j]) (.slice (some ⟨g3, 0, none⟩) (out.length + 1) cap3) w3 := by
          have e : (out ++ [(raw.drop a).take j]).length = out.length + 1 := by simp
          have h := HM.out.on (p := (raw.drop a).take j) HB2.out (by rw [HLEN.out]; exact HOWN2.out) HO.out HRM.out (by rw [HLEN.out]; exact Hown3.out) Hg3.out
          refine ⟨HON.out, ⟨_, ?_, h.2.1⟩, h.2.2⟩
          rw [e] at h ⊢
          exact h.1
        have HPM := Lib.hid hon
        clear hon
        go_wp2_with fail
        exact ⟨⟨k + 1, a + j, out ++ [(raw.drop a).take j], by go_num, by go_num, by omega, HPM.out⟩, by show cuts.length - ((k : Int) + 1).toNat < cuts.length - (k : Int).toNat; omega⟩
    · have hstop : cuts.length ≤ k ∨ 400 ≤ k ∨ raw.length ≤ a := by omega
      have HGO := Lib.hid hgo
      have hall := hcut.stop hstop
      have hout4 : out.length + 1 ≤ 401 := by
        have := (piecesOf_count raw cuts).1
        rw [← hall] at this
        simpa using this
      have hlen : (raw.drop a).length = raw.length - a := by rw [List.length_drop]
      have hfin : ∀ (g3 c3 : Nat) (w3 : World) (cs3 : List Value), w3.ownsRow w.heap.size 43 1 (.slice (some ⟨g3, 0, none⟩) (out ++ [raw.drop a]).length c3) (out ++ [raw.drop a]).length cs3 → RowsMem w3 w.heap.size (out ++ [raw.drop a]) cs3 → Below w.heap.size w w3 →
          R (.returned (.slice (some ⟨g3, 0, none⟩) (out.length + 1) c3)) w3 := fun g3 c3 w3 cs3 p1 p2 p3 => by
        rw [← HR.out]
        have e : (out ++ [raw.drop a]).length = out.length + 1 := by simp
        rw [← e, hall]
        rw [hall] at p1 p2
        exact ⟨g3, c3, cs3, rfl, p1, p2, p3⟩
      have HF := Lib.hid hfin
      have HSTOP := Lib.hid hstop
      have hsl := fun W : World => run_slice_from W A raw.length capA a hale
      have hrowD : RowAt wr (cutAddr A a capA) (bytesV (raw.drop a)) := by
        rw [bytesV_drop]
        exact (HROW.out.below HB.out).cut (by rw [bytesV_length]; exact hcA)
      have hc := copy_any (cap := capA - a) (l := raw.drop a) (by omega) hrowD (cutAddr_none HA.out)
      generalize cutAddr A a capA = D at hsl hc hrowD
      rw [hlen] at hc
      have HC := Lib.hid hc
      have HLEN := Lib.hid hlen
      clear hc hlen hrowD hm hcut ho hrm hb hall hfin hstop hgo
      go_wp2_with fail
      all_goals (try (exfalso; have hx := HGO.out; omega))
      all_goals
        refine HC.out.mono ?_
        rintro e w2 ⟨g, cp, rfl, hown2, hb2⟩
        have HOWN2 := Lib.hid hown2
        have HB2 := Lib.hid hb2
        have ho2 := own_later HO.out (HB2.out.alloc HB2.out.size (.cells #[.slice (some ⟨g, 0, none⟩) (raw.length - a) cp] 43))
        have HO2 := Lib.hid ho2
        have hlw : w.heap.size ≤ w2.heap.size := Nat.le_trans HB.out.size hb2.size
        clear hown2 hb2 ho2
        go_wp2_with (at_builtin; refine wpList_append_put rfl (.tmp 53) (.tmp 58) _ rfl w.heap.size 43 i0 _ 1 24 Tryz.underlying22 hi hz0 hz1 hz2 rfl (by decide) u5 out.length cs rfl HO2.out ⟨w2.heap.size, 0, none⟩ 1 1 [.slice (some ⟨g, 0, none⟩) (raw.length - a) cp] rfl rfl ?_ ?_ ?_ ?_ ?_ ?_ ?_; exact cells_one _ _ _; (intro u hu; simp at hu; subst hu; rfl); decide; (unfold maxLen; omega); omega; (simp; omega); intro g3 cap3 w3 hown3 hg3 hat3; have Hown3 := Lib.hid hown3; have Hg3 := Lib.hid hg3; clear hown3 hg3 hat3)
        have hon := HM.out.on (p := raw.drop a) HB2.out (by rw [HLEN.out]; exact HOWN2.out) HO.out HRM.out (by rw [HLEN.out]; exact Hown3.out) Hg3.out
        have HPM := Lib.hid hon
        clear hon
        exact HF.out _ _ _ _ HPM.out.1 HPM.out.2.1 HPM.out.2.2
end Go.Proofs.YtbiakncngmgbkaaGreatDoor
