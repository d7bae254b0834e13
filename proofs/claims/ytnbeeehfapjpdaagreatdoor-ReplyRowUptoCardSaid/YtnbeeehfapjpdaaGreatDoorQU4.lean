/- reply.Bytes, joined. Walk of the statements' comparison of answers: what is the same is told so. -/
import Derived.Test.YtnbeeehfapjpdaaGreatDoorVz
import Derived.Test.YtnbeeehfapjpdaaGreatDoorQU1
import Derived.Test.YtnbeeehfapjpdaaGreatDoorU3
import Derived.Test.YtnbeeehfapjpdaaGreatDoorQKw
section
namespace Go.Proofs.YtnbeeehfapjpdaaGreatDoor
attribute [local go_sem ↓] Go.wp_at_zero Go.wp_at_succ
open Go.RowKit

theorem bytesOf_any {w : World} (hg : GlobR w) (v : Int) {K : Option Addr} {keys : List Sp.Bs} {kc : Nat} (fl ex tk dl : Int) (D : Option Addr) (dn dc : Nat) (nr lg : Bool) (M : Option Addr) (mn mc : Nat) (what : Sp.Bs) (hK : RowAt w K (keys.map str)) (hkc : keys.length ≤ kc) (hks : keys.length ≤ 1000000000) {x : AnsX} (hx : AnsIn w x) (hbig : (Sp.answerW v x.v).length ≤ 1000000000000) :
    Calls Tryz.prog 15 #[cmdA v K keys.length kc fl ex tk dl D dn dc nr lg M mn mc what, x.val] w (WroteK w (Sp.wroteV v keys what nr x.v)) := by
  cases hf : Sp.fitsV v keys what x.v with
  | false => exact bytes_unfit hg v fl ex tk dl D dn dc nr lg M mn mc what hK hkc hks hx hf
  | true =>
    by_cases hn : nr = true ∨ x.kind = 12
    · exact bytes_none hg v fl ex tk dl D dn dc nr lg M mn mc what hK hkc hks hx hf hn
    have hn1 : nr = false := by cases nr <;> simp_all
    have hn2 : x.kind ≠ 12 := fun e => hn (.inr e)
    by_cases h7 : x.kind = 7
    · exact bytes_7 hg v fl ex tk dl D dn dc nr lg M mn mc what hK hkc hks hx hf hn1 h7
    by_cases h9 : x.kind = 9
    · exact bytes_9 hg v fl ex tk dl D dn dc nr lg M mn mc what hK hkc hks hx hf hn1 h9 hbig
    by_cases h10 : x.kind = 10
    · exact bytes_10 hg v fl ex tk dl D dn dc nr lg M mn mc what hK hkc hks hx hf hn1 h10
    by_cases h11 : x.kind = 11
    · exact bytes_11 hg v fl ex tk dl D dn dc nr lg M mn mc what hK hkc hks hx hf hn1 h11
    by_cases h13 : x.kind = 13
    · exact bytes_13 hg v fl ex tk dl D dn dc nr lg M mn mc what hK hkc hks hx hf hn1 h13 hbig
    by_cases h15 : x.kind = 15
    · exact bytes_15 hg v fl ex tk dl D dn dc nr lg M mn mc what hK hkc hks hx hf hn1 h15 hbig
    · exact bytes_fixed hg v fl ex tk dl D dn dc nr lg M mn mc what hK hkc hks hx hf hn1 ⟨h7, h9, h10, h11, hn2, h13, h15⟩
end Go.Proofs.YtnbeeehfapjpdaaGreatDoor
end
section
namespace Go.Proofs.YtnbeeehfapjpdaaGreatDoor
attribute [local go_sem ↓] Go.wp_at_zero Go.wp_at_succ
open Go.RowKit

theorem eq_any {w : World} {A B : Option Addr} {ca cb : Nat} {l : Sp.Bs} {n m : Nat} (hn : n = l.length) (hm : m = l.length) (h1 : RowAt w A (bytesV l)) (h2 : RowAt w B (bytesV l)) :
    Calls Tryz.prog 18 #[.slice A n ca, .slice B m cb] w fun e w' => e = .returned (.bool true) ∧ Below w.heap.size w w' := by
  subst hn; subst hm
  have hc1 := run_bytes_str (cap := ca) h1
  have hc2 := run_bytes_str (cap := cb) h2
  have hq : (l == l) = true := by simp
  clear h1 h2
  go_enter Tryz.func18, Tryz.ntmps18
  go_wp2_with fail
  go_ret
  exact ⟨rfl, Below.refl _ _⟩
theorem stat_eq (a : Sp.Bs) (n : Nat) (W : World) : (binOp .neq 90 (.agg #[str a, .int .u64 n]) (.agg #[str a, .int .u64 n])).run Tryz.prog W = .ok (.bool false) W := by
  simp [go_sem]
structure AnsRd (w : World) (x : AnsX) : Prop where
  row : RowAt w x.E (x.xs.flatMap EntX.cells)
  each : ∀ y ∈ x.xs, RowAt w y.B (bytesV y.e.value)
  stats : RowAt w x.S (statCells x.stats)
  few : x.xs.length ≤ 1000000000000 ∧ x.stats.length ≤ 1000000000000
theorem AnsRd.below {w w' : World} {x : AnsX} (h : AnsRd w x) (hb : Below w.heap.size w w') : AnsRd w' x := ⟨h.row.below hb, fun y hy => (h.each y hy).below hb, h.stats.below hb, h.few⟩
theorem AnsIn.rd {w : World} {x : AnsX} (h : AnsIn w x) : AnsRd w x := ⟨h.ents.row, fun y hy => (h.ents.each y hy).1, h.stats, by have := h.few; omega⟩
theorem AnsRd.cell {w : World} {x : AnsX} (h : AnsRd w x) {i : Nat} {y : EntX} (hy : x.xs[i]? = some y) :
    ∃ g o, x.E = some ⟨g, o, none⟩ ∧ g < w.heap.size ∧ ∀ (j : Nat) (u : Value), y.cells[j]? = some u → w.cell? ⟨g, o + i * 9 + j, none⟩ = some u := by
  have c0 : (x.xs.flatMap EntX.cells)[i * 9 + 0]? = y.cells[0]? := flatMap_get (k := 9) (fun _ _ => rfl) hy (by decide)
  rcases h.row with h0 | ⟨g, o, h1, h2, h3⟩
  · rw [h0] at c0; cases c0
  · refine ⟨g, o, h1, h2, fun j u hu => ?_⟩
    have hj : j < 9 := by have := (List.getElem?_eq_some_iff.1 hu).1; rwa [EntX.cells_length] at this
    have := flatMap_get (k := 9) (f := EntX.cells) (fun _ _ => rfl) hy hj
    rw [Nat.add_assoc]
    exact h3 _ _ (by rw [this]; exact hu)
structure TwoBox (w W : World) (a b : Nat) (t : TypeId) (ca cb : Array Value) : Prop where
  below : Below w.heap.size w W
  fst : Blk W a t ca
  snd : Blk W b t cb
theorem twoA (w : World) (t : TypeId) (ca cb : Array Value) : TwoBox w ((w.alloc (.cells ca t)).alloc (.cells cb t)).drew w.heap.size (w.heap.size + 1) t ca cb := by
  have h2 := Blk.new (w.alloc (.cells ca t)) t cb
  rw [show (w.alloc (.cells ca t)).heap.size = w.heap.size + 1 by simp] at h2
  exact ⟨(((Below.refl _ _).alloc (Nat.le_refl _) _).alloc (by simp) _).drew, ((Blk.new w _ _).alloc _).drew, h2.drew⟩
theorem twoB (w : World) (t : TypeId) (ca cb : Array Value) : TwoBox w ((w.alloc (.cells cb t)).alloc (.cells ca t)).drew (w.heap.size + 1) w.heap.size t ca cb := ⟨(twoA w t cb ca).below, (twoA w t cb ca).snd, (twoA w t cb ca).fst⟩
set_option maxHeartbeats 8000000 in
set_option maxRecDepth 100000 in
theorem same_answers {w : World} {x y : AnsX} (hx : AnsRd w x) (hy : AnsRd w y) (hv : x.v = y.v) :
    Calls Tryz.prog 27 #[x.val, y.val] w fun e w' => e = .returned (.bool true) ∧ Below w.heap.size w w' := by
  generalize hR : (fun (e : Ending) (w' : World) => e = .returned (.bool true) ∧ Below w.heap.size w w') = R
  obtain ⟨k1, E1, ec1, xs1, n1, t1, S1, sc1, st1⟩ := x
  obtain ⟨k2, E2, ec2, xs2, n2, t2, S2, sc2, st2⟩ := y
  have e1 := congrArg Sp.AnswerV.kind hv
  have e2 := congrArg Sp.AnswerV.entries hv
  have e3 := congrArg Sp.AnswerV.number hv
  have e4 := congrArg Sp.AnswerV.text hv
  have e5 := congrArg Sp.AnswerV.stats hv
  simp only [AnsX.v] at e1 e2 e3 e4 e5
  subst e1; subst e3; subst e4; subst e5
  have hlen : xs2.length = xs1.length := by have := congrArg List.length e2; simpa using this.symm
  have hnth : ∀ (i : Nat) (a : EntX), xs1[i]? = some a → ∃ b : EntX, xs2[i]? = some b ∧ b.e = a.e := by
    intro i a ha
    have h1 : (xs1.map (·.e))[i]? = some a.e := by rw [List.getElem?_map, ha]; rfl
    rw [e2, List.getElem?_map] at h1
    cases hb : xs2[i]? with
    | none => rw [hb] at h1; cases h1
    | some b => exact ⟨b, rfl, by rw [hb] at h1; exact Option.some.inj h1⟩
  have hf1 : xs1.length ≤ 1000000000000 := hx.few.1
  have hf2 : st1.length ≤ 1000000000000 := hx.few.2
  show Calls Tryz.prog 27 #[.agg #[.int .i64 k1, .slice E1 xs1.length ec1, .int .u64 n1, str t1, .slice S1 st1.length sc1], .agg #[.int .i64 k1, .slice E2 xs2.length ec2, .int .u64 n1, str t1, .slice S2 st1.length sc2]] w R
  rw [hlen]
  have hal : Below w.heap.size w ((w.alloc (.cells #[.int .i64 k1, .slice E1 xs1.length ec1, .int .u64 n1, str t1, .slice S1 st1.length sc1] 36)).alloc (.cells #[.int .i64 k1, .slice E2 xs1.length ec2, .int .u64 n1, str t1, .slice S2 st1.length sc2] 36)) := ((Below.refl _ _).alloc (Nat.le_refl _) _).alloc (by simp) _
  have hax : Blk ((w.alloc (.cells #[.int .i64 k1, .slice E1 xs1.length ec1, .int .u64 n1, str t1, .slice S1 st1.length sc1] 36)).alloc (.cells #[.int .i64 k1, .slice E2 xs1.length ec2, .int .u64 n1, str t1, .slice S2 st1.length sc2] 36)) w.heap.size 36 #[.int .i64 k1, .slice E1 xs1.length ec1, .int .u64 n1, str t1, .slice S1 st1.length sc1] := (Blk.new w _ _).alloc _
  have hay : Blk ((w.alloc (.cells #[.int .i64 k1, .slice E1 xs1.length ec1, .int .u64 n1, str t1, .slice S1 st1.length sc1] 36)).alloc (.cells #[.int .i64 k1, .slice E2 xs1.length ec2, .int .u64 n1, str t1, .slice S2 st1.length sc2] 36)) (w.heap.size + 1) 36 #[.int .i64 k1, .slice E2 xs1.length ec2, .int .u64 n1, str t1, .slice S2 st1.length sc2] := by
    have := Blk.new (w.alloc (.cells #[.int .i64 k1, .slice E1 xs1.length ec1, .int .u64 n1, str t1, .slice S1 st1.length sc1] 36)) 36 #[.int .i64 k1, .slice E2 xs1.length ec2, .int .u64 n1, str t1, .slice S2 st1.length sc2]
    rwa [show (w.alloc (.cells #[.int .i64 k1, .slice E1 xs1.length ec1, .int .u64 n1, str t1, .slice S1 st1.length sc1] 36)).heap.size = w.heap.size + 1 by simp] at this
  obtain ⟨W1, hW1⟩ : ∃ W1, W1 = (w.alloc (.cells #[.int .i64 k1, .slice E1 xs1.length ec1, .int .u64 n1, str t1, .slice S1 st1.length sc1] 36)).alloc (.cells #[.int .i64 k1, .slice E2 xs1.length ec2, .int .u64 n1, str t1, .slice S2 st1.length sc2] 36) := ⟨_, rfl⟩
  rw [← hW1] at hal hax hay
  have hRX := hx.below hal
  have hRY := hy.below hal
  obtain ⟨ax, hae⟩ : ∃ ax, ax = w.heap.size := ⟨_, rfl⟩
  obtain ⟨ay, hye⟩ : ∃ ay, ay = w.heap.size + 1 := ⟨_, rfl⟩
  rw [← hae] at hax
  rw [← hye] at hay
  have p0 := hax.cell 0
  have p1 := hax.cell 1
  have p2 := hax.cell 2
  have p3 := hax.cell 3
  have p4 := hax.cell 4
  have q0 := hay.cell 0
  have q1 := hay.cell 1
  have q2 := hay.cell 2
  have q3 := hay.cell 3
  have q4 := hay.cell 4
  simp only [List.getElem?_toArray, List.getElem?_cons_zero, List.getElem?_cons_succ] at p0 p1 p2 p3 p4 q0 q1 q2 q3 q4
  have HR := Lib.hid hR
  have HX := Lib.hid hRX
  have HY := Lib.hid hRY
  have HNTH := Lib.hid hnth
  have HAX := Lib.hid hax
  have HAY := Lib.hid hay
  have HAL := Lib.hid hal
  have HW1 := Lib.hid hW1
  have HAE := Lib.hid hae
  have HYE := Lib.hid hye
  have HLEN := Lib.hid hlen
  have hst : ∀ (a : Sp.Bs) (n : Nat) (W : World), (binOp .neq 90 (.agg #[str a, .int .u64 n]) (.agg #[str a, .int .u64 n])).run Tryz.prog W = .ok (.bool false) W := stat_eq
  clear hR hx hy hRX hRY hnth hax hay hal hW1 hae hye hv e2
  go_enter Tryz.func27, Tryz.ntmps27
  go_upto_region 1 with fail
  rw [← HW1.out, ← HYE.out, ← HAE.out]
  go_wp2_with fail
  have hb1 := HAL.out
  have hax1 := HAX.out
  have hay1 := HAY.out
  clear p0 p1 p2 p3 p4 q0 q1 q2 q3 q4
  go_loopw [5] (fun iv wr => ∃ j : Nat, j ≤ xs1.length ∧ iv = .int .i64 j ∧ Below w.heap.size w wr ∧ Below W1.heap.size W1 wr) (fun iv _ => xs1.length - (intOf iv).toNat)
  case atStart => exact ⟨0, by omega, rfl, HAL.out, Below.refl _ _⟩
  case round =>
    obtain ⟨j, hj, rfl, hb, hc⟩ := hrel
    have hax2 := hax1.later hc
    have hay2 := hay1.later hc
    have p1 := hax2.cell 1
    have q1 := hay2.cell 1
    simp only [List.getElem?_toArray, List.getElem?_cons_zero, List.getElem?_cons_succ] at p1 q1
    by_cases hlt : j < xs1.length
    · obtain ⟨a, ha⟩ : ∃ a, xs1[j]? = some a := ⟨xs1[j], by simp [hlt]⟩
      obtain ⟨b, hb', hbe⟩ := HNTH.out j a ha
      obtain ⟨g, o, hEe, hgl, ycell⟩ := (HX.out.below hc).cell ha
      obtain ⟨g2, o2, hEe2, hgl2, ycell2⟩ := (HY.out.below hc).cell hb'
      simp only at hEe hEe2
      subst hEe
      subst hEe2
      obtain ⟨⟨ky, vl, fl, ex, tk, tc, s1, s2, s3⟩, aB, ac⟩ := a
      obtain ⟨eb, bB, bc⟩ := b
      simp only at hbe
      subst hbe
      have hva := (HX.out.below hc).each _ (List.mem_of_getElem? ha)
      have hvb := (HY.out.below hc).each _ (List.mem_of_getElem? hb')
      have hks : ∀ W : World, Below wr.heap.size wr W → W.cell? ⟨ax, 1, none⟩ = some (.slice (some ⟨g, o, none⟩) xs1.length ec1) ∧ W.cell? ⟨ay, 1, none⟩ = some (.slice (some ⟨g2, o2, none⟩) xs1.length ec2) ∧ W.cell? ⟨g, o + j * 9, none⟩ = some (str ky) ∧ W.cell? ⟨g, o + j * 9 + 1, none⟩ = some (.slice aB vl.length ac) ∧ W.cell? ⟨g, o + j * 9 + 2, none⟩ = some (.int .u64 fl) ∧ W.cell? ⟨g, o + j * 9 + 3, none⟩ = some (.int .i64 ex) ∧ W.cell? ⟨g, o + j * 9 + 4, none⟩ = some (.int .u64 tk) ∧ W.cell? ⟨g, o + j * 9 + 5, none⟩ = some (.int .i64 tc) ∧ W.cell? ⟨g, o + j * 9 + 6, none⟩ = some (.bool s1) ∧ W.cell? ⟨g, o + j * 9 + 7, none⟩ = some (.bool s2) ∧ W.cell? ⟨g, o + j * 9 + 8, none⟩ = some (.bool s3) ∧ W.cell? ⟨g2, o2 + j * 9, none⟩ = some (str ky) ∧ W.cell? ⟨g2, o2 + j * 9 + 1, none⟩ = some (.slice bB vl.length bc) ∧ W.cell? ⟨g2, o2 + j * 9 + 2, none⟩ = some (.int .u64 fl) ∧ W.cell? ⟨g2, o2 + j * 9 + 3, none⟩ = some (.int .i64 ex) ∧ W.cell? ⟨g2, o2 + j * 9 + 4, none⟩ = some (.int .u64 tk) ∧ W.cell? ⟨g2, o2 + j * 9 + 5, none⟩ = some (.int .i64 tc) ∧ W.cell? ⟨g2, o2 + j * 9 + 6, none⟩ = some (.bool s1) ∧ W.cell? ⟨g2, o2 + j * 9 + 7, none⟩ = some (.bool s2) ∧ W.cell? ⟨g2, o2 + j * 9 + 8, none⟩ = some (.bool s3) := fun W hW =>
        have cb0 : ∀ {W : World} {p : Addr} {u : Value}, Below wr.heap.size wr W → p.block < wr.heap.size → wr.cell? p = some u → W.cell? p = some u := fun hW h1 h2 => (hW.cell h1).trans h2
        ⟨(hax2.later hW).cell 1, (hay2.later hW).cell 1, cb0 hW hgl (ycell 0 _ rfl), cb0 hW hgl (ycell 1 _ rfl), cb0 hW hgl (ycell 2 _ rfl), cb0 hW hgl (ycell 3 _ rfl), cb0 hW hgl (ycell 4 _ rfl), cb0 hW hgl (ycell 5 _ rfl), cb0 hW hgl (ycell 6 _ rfl), cb0 hW hgl (ycell 7 _ rfl), cb0 hW hgl (ycell 8 _ rfl), cb0 hW hgl2 (ycell2 0 _ rfl), cb0 hW hgl2 (ycell2 1 _ rfl), cb0 hW hgl2 (ycell2 2 _ rfl), cb0 hW hgl2 (ycell2 3 _ rfl), cb0 hW hgl2 (ycell2 4 _ rfl), cb0 hW hgl2 (ycell2 5 _ rfl), cb0 hW hgl2 (ycell2 6 _ rfl), cb0 hW hgl2 (ycell2 7 _ rfl), cb0 hW hgl2 (ycell2 8 _ rfl)⟩
      have HKS := Lib.hid hks
      have HVA := Lib.hid hva
      have HVB := Lib.hid hvb
      have HB := Lib.hid hb
      have HC := Lib.hid hc
      have HAX2 := Lib.hid hax2
      have HAY2 := Lib.hid hay2
      have hj1 : (j : Int) < (xs1.length : Int) := by omega
      clear hb hc ha hb' hva hvb ycell ycell2 hks hax2 hay2 hax1 hay1 hb1
      go_upto_region 6 with fail
      go_region_held3 (fun w' => w'.cell? ⟨ax, 1, none⟩ = some (.slice (some ⟨g, o, none⟩) xs1.length ec1) ∧ w'.cell? ⟨ay, 1, none⟩ = some (.slice (some ⟨g2, o2, none⟩) xs1.length ec2) ∧ w'.cell? ⟨g, o + j * 9, none⟩ = some (str ky) ∧ w'.cell? ⟨g, o + j * 9 + 1, none⟩ = some (.slice aB vl.length ac) ∧ w'.cell? ⟨g, o + j * 9 + 2, none⟩ = some (.int .u64 fl) ∧ w'.cell? ⟨g, o + j * 9 + 3, none⟩ = some (.int .i64 ex) ∧ w'.cell? ⟨g, o + j * 9 + 4, none⟩ = some (.int .u64 tk) ∧ w'.cell? ⟨g, o + j * 9 + 5, none⟩ = some (.int .i64 tc) ∧ w'.cell? ⟨g, o + j * 9 + 6, none⟩ = some (.bool s1) ∧ w'.cell? ⟨g, o + j * 9 + 7, none⟩ = some (.bool s2) ∧ w'.cell? ⟨g, o + j * 9 + 8, none⟩ = some (.bool s3) ∧ w'.cell? ⟨g2, o2 + j * 9, none⟩ = some (str ky) ∧ w'.cell? ⟨g2, o2 + j * 9 + 1, none⟩ = some (.slice bB vl.length bc) ∧ w'.cell? ⟨g2, o2 + j * 9 + 2, none⟩ = some (.int .u64 fl) ∧ w'.cell? ⟨g2, o2 + j * 9 + 3, none⟩ = some (.int .i64 ex) ∧ w'.cell? ⟨g2, o2 + j * 9 + 4, none⟩ = some (.int .u64 tk) ∧ w'.cell? ⟨g2, o2 + j * 9 + 5, none⟩ = some (.int .i64 tc) ∧ w'.cell? ⟨g2, o2 + j * 9 + 6, none⟩ = some (.bool s1) ∧ w'.cell? ⟨g2, o2 + j * 9 + 7, none⟩ = some (.bool s2) ∧ w'.cell? ⟨g2, o2 + j * 9 + 8, none⟩ = some (.bool s3)) (first | exact HKS.out _ (Below.refl _ _) | exact HKS.out _ (Below.refl _ _).drew | exact HKS.out _ ((Below.refl _ _).alloc (Nat.le_refl _) _) | exact HKS.out _ ((Below.refl _ _).drew.alloc (Nat.le_refl _) _) | exact HKS.out _ (((Below.refl _ _).drew.alloc (Nat.le_refl _) _).alloc (by simp) _) | exact HKS.out _ (((Below.refl _ _).alloc (Nat.le_refl _) _).alloc (by simp) _)) (fail)
      all_goals (first
        | (obtain ⟨W2, hW2⟩ : ∃ W2, W2 = ((wr.alloc (.cells #[str ky, .slice aB vl.length ac, .int .u64 fl, .int .i64 ex, .int .u64 tk, .int .i64 tc, .bool s1, .bool s2, .bool s3] 86)).alloc (.cells #[str ky, .slice bB vl.length bc, .int .u64 fl, .int .i64 ex, .int .u64 tk, .int .i64 tc, .bool s1, .bool s2, .bool s3] 86)).drew := ⟨_, rfl⟩
           have htw : TwoBox wr W2 wr.heap.size (wr.heap.size + 1) 86 #[str ky, .slice aB vl.length ac, .int .u64 fl, .int .i64 ex, .int .u64 tk, .int .i64 tc, .bool s1, .bool s2, .bool s3] #[str ky, .slice bB vl.length bc, .int .u64 fl, .int .i64 ex, .int .u64 tk, .int .i64 tc, .bool s1, .bool s2, .bool s3] := hW2 ▸ twoA _ _ _ _
           rw [← hW2])
        | (obtain ⟨W2, hW2⟩ : ∃ W2, W2 = ((wr.alloc (.cells #[str ky, .slice bB vl.length bc, .int .u64 fl, .int .i64 ex, .int .u64 tk, .int .i64 tc, .bool s1, .bool s2, .bool s3] 86)).alloc (.cells #[str ky, .slice aB vl.length ac, .int .u64 fl, .int .i64 ex, .int .u64 tk, .int .i64 tc, .bool s1, .bool s2, .bool s3] 86)).drew := ⟨_, rfl⟩
           have htw : TwoBox wr W2 (wr.heap.size + 1) wr.heap.size 86 #[str ky, .slice aB vl.length ac, .int .u64 fl, .int .i64 ex, .int .u64 tk, .int .i64 tc, .bool s1, .bool s2, .bool s3] #[str ky, .slice bB vl.length bc, .int .u64 fl, .int .i64 ex, .int .u64 tk, .int .i64 tc, .bool s1, .bool s2, .bool s3] := hW2 ▸ twoB _ _ _ _
           rw [← hW2]))
      all_goals (
        generalize hA1 : wr.heap.size + 1 = a1 at htw ⊢
        generalize hA0 : wr.heap.size = a0 at htw ⊢
        clear hA1 hA0 hW2
        have hb2 := htw.below
        have HTW := Lib.hid htw
        have k0 := htw.fst.cell 0
        have k1 := htw.fst.cell 1
        have l0 := htw.snd.cell 0
        have l1 := htw.snd.cell 1
        simp only [List.getElem?_toArray, List.getElem?_cons_zero, List.getElem?_cons_succ] at k0 k1 l0 l1
        have hva2 := HVA.out.below hb2
        have hvb2 := HVB.out.below hb2
        have heq := eq_any (w := W2) (ca := ac) (cb := bc) rfl rfl hva2 hvb2
        have HEQ := Lib.hid heq
        have HB2 := Lib.hid hb2
        clear htw hva2 hvb2 heq hb2
        go_wp2_with (go_at_call 18; refine HEQ.out.mono ?_; rintro e w3 ⟨rfl, hb3⟩; have hk := HTW.out.fst.later hb3; have hl := HTW.out.snd.later hb3; have k2 := hk.cell 2; have k3 := hk.cell 3; have k4 := hk.cell 4; have k5 := hk.cell 5; have k6 := hk.cell 6; have k7 := hk.cell 7; have k8 := hk.cell 8; have l2 := hl.cell 2; have l3 := hl.cell 3; have l4 := hl.cell 4; have l5 := hl.cell 5; have l6 := hl.cell 6; have l7 := hl.cell 7; have l8 := hl.cell 8; simp only [List.getElem?_toArray, List.getElem?_cons_zero, List.getElem?_cons_succ] at k2 k3 k4 k5 k6 k7 k8 l2 l3 l4 l5 l6 l7 l8; have HB3 := Lib.hid hb3; clear hb3 hk hl)
        exact ⟨⟨j + 1, by omega, by go_num, HB.out.trans ((HB2.out.trans (HB3.out.mono HB2.out.size)).mono HB.out.size), HC.out.trans ((HB2.out.trans (HB3.out.mono HB2.out.size)).mono HC.out.size)⟩, by show xs1.length - ((j : Int) + 1).toNat < xs1.length - (j : Int).toNat; omega⟩)
    · have HB1 := Lib.hid hb
      have HC1 := Lib.hid hc
      have HAX1 := Lib.hid hax1
      have HAY1 := Lib.hid hay1
      clear hb hc hb1 hax1 hay1 hax2 hay2
      go_wp2_with fail
      clear p1 q1
      have hw1 : Below wr.heap.size wr wr := Below.refl _ _
      go_loopw [8] (fun iv wx => ∃ j : Nat, j ≤ st1.length ∧ iv = .int .i64 j ∧ Below w.heap.size w wx ∧ Below W1.heap.size W1 wx) (fun iv _ => st1.length - (intOf iv).toNat)
      case atStart => exact ⟨0, by omega, rfl, HB1.out, HC1.out⟩
      case round =>
        obtain ⟨m, hm, rfl, hb, hc⟩ := hrel
        have hax2 := HAX1.out.later hc
        have hay2 := HAY1.out.later hc
        have p4 := hax2.cell 4
        have q4 := hay2.cell 4
        simp only [List.getElem?_toArray, List.getElem?_cons_zero, List.getElem?_cons_succ] at p4 q4
        by_cases hlt2 : m < st1.length
        · obtain ⟨y, hy⟩ : ∃ y, st1[m]? = some y := ⟨st1[m], by simp [hlt2]⟩
          obtain ⟨g, o, hEe, hgl, c0, c1⟩ := stat_cell (HX.out.below hc).stats hy
          obtain ⟨g2, o2, hEe2, hgl2, d0, d1⟩ := stat_cell (HY.out.below hc).stats hy
          simp only at hEe hEe2
          subst hEe
          subst hEe2
          have hm1 : (m : Int) < (st1.length : Int) := by omega
          have HB := Lib.hid hb
          have HC := Lib.hid hc
          clear hb hc hax2 hay2 hy
          go_wp2_with fail
          go_quiet (fail)
          go_wp2_with fail
          exact ⟨⟨m + 1, by omega, by go_num, below_drewN' HB.out _, below_drewN' HC.out _⟩, by show st1.length - ((m : Int) + 1).toNat < st1.length - (m : Int).toNat; omega⟩
        · have HB := Lib.hid hb
          have HC := Lib.hid hc
          clear hb hc hax2 hay2
          go_wp2_with fail
          rw [← HR.out]
          exact ⟨rfl, HB.out⟩
end Go.Proofs.YtnbeeehfapjpdaaGreatDoor
end
