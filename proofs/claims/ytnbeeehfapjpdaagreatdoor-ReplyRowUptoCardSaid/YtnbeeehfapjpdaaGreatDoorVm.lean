/- Walk of package reply's reader: read. Printed by gen/genVm.py. -/
import Derived.Test.YtnbeeehfapjpdaaGreatDoorVk
import Derived.Test.YtnbeeehfapjpdaaGreatDoorVl
namespace Go.Proofs.YtnbeeehfapjpdaaGreatDoor
attribute [local go_sem ↓] Go.wp_at_zero Go.wp_at_succ
open Go.RowKit

theorem read_results {W : World} {b : Nat} {x : AnsX} (h : Blk W b 36 x.cells) (tm : Array Value) (t4 : tm[4]?.getD undef = .pointer (some ⟨b, 0, none⟩)) : (results Tryz.f66 tm).run Tryz.prog W = .ok x.val W := by
  have z0 := h.cell 0
  have z1 := h.cell 1
  have z2 := h.cell 2
  have z3 := h.cell 3
  have z4 := h.cell 4
  change _ = some _ at z0 z1 z2 z3 z4
  clear h
  simp [results, Tryz.results66, go_sem, t4, z0, z1, z2, z3, z4]
/-- a row of the call's own, when an answer's box is stored into -/
theorem own_far {W W' : World} {base : Nat} {e : TypeId} {size n : Nat} {v : Value} {xs : List Value} (h : W.ownsRow base e size v n xs) (he : e ≠ 36) {b : Nat} {cs : Array Value} (hb : Blk W b 36 cs) (ho : OnlyIn [b] W W') : W'.ownsRow base e size v n xs :=
  own_same h fun k hk => ho.block k (own_lt h k hk) fun hm => own_apart h hb he (by
    have h1 : k = b := by simpa using hm
    rw [← h1]; exact mem_rowBlock.1 hk)
theorem AnsOwn.far {W W' : World} {base : Nat} {x : AnsX} (h : AnsOwn W base x) {b : Nat} {cs : Array Value} (hb : Blk W b 36 cs) (ho : OnlyIn [b] W W') : AnsOwn W' base x := ⟨ents_far h.ents hb ho, own_far h.stats (by decide) hb ho⟩
theorem EntsOwn.base {w : World} {base base' : Nat} {v : Value} {xs : List EntX} (h : EntsOwn w base v xs) (hb : base' ≤ base) : EntsOwn w base' v xs :=
  ⟨own_base h.row fun k hk => Nat.le_trans hb (own_ge h.row k (mem_rowBlock.2 hk)), fun x hx => own_base (h.each x hx) fun k hk => Nat.le_trans hb (own_ge (h.each x hx) k (mem_rowBlock.2 hk)), h.apart⟩
theorem AnsOwn.base {w : World} {base base' : Nat} {x : AnsX} (h : AnsOwn w base x) (hb : base' ≤ base) : AnsOwn w base' x :=
  ⟨h.ents.base hb, own_base h.stats fun k hk => Nat.le_trans hb (own_ge h.stats k (mem_rowBlock.2 hk))⟩
theorem run_slice_ints (W : World) (A : Option Addr) (n cap a : Nat) (h : a ≤ n) :
    (Instr.slice 74 (.slice A n cap) (some (.int .i64 a)) none none).run Tryz.prog W = .ok (.slice (cutAddr A a cap) (n - a) (cap - a)) W := by
  obtain ⟨i0, hi, _, hz1, _⟩ := info_parts (show (Tryz.prog.info? 3).map (fun i => (i.zero, i.size, i.bytes)) = some (some (.int .i64 0), 1, 8) by kernel_rfl)
  have he : Tryz.prog.elem 74 = 3 := by kernel_rfl
  have hu : Tryz.prog.underlying 74 = some (.slice (Tryz.prog.elem 74)) := by kernel_rfl
  rw [run_slice_l (P := Tryz.prog) W 74 A n cap hu .i64 (a : Int) (by omega) (by omega), he]
  have hs : (sizeOf 3).run Tryz.prog W = .ok 1 W := by simp [sizeOf, typeInfo, hi, hz1]
  rw [hs]
  simp [Result.andThen, sliced, cutAddr]
/-- the line of a kind -/
def fixLine (k : Int) : Sp.Bs := Sp.fixedV k ++ Sp.crlf
theorem cat_fix (a : Sp.Bs) : (({ data := a.toArray } : ByteArray) ++ { data := #[13, 10] }) = ⟨(a ++ Sp.crlf).toArray⟩ := cat_two a Sp.crlf
theorem fixed_short (k : Int) : (Sp.fixedV k).length ≤ 100 := by
  unfold Sp.fixedV
  repeat' split
  all_goals decide
theorem kinds_few (v : Int) (what : Sp.Bs) : (Sp.kindsV v what).length ≤ 3 := by
  have h := Sp.kinds_cases v what
  simp only [List.mem_cons, List.not_mem_nil, or_false] at h
  rcases h with h | h | h | h | h | h | h | h | h | h | h | h | h | h <;> rw [h] <;> decide
set_option maxHeartbeats 16000000 in
set_option maxRecDepth 100000 in
theorem readR_any {w : World} {rb : Nat} {A : Option Addr} {cap : Nat} {raw : Sp.Bs} (h : RdAt w rb A cap raw 0)
    (v : Int) {K : Option Addr} {keys : List Sp.Bs} {kc : Nat} (fl ex tk dl : Int) (D : Option Addr) (dn dc : Nat) (nr lg : Bool) (M : Option Addr) (mn mc : Nat) (what : Sp.Bs)
    (hK : RowAt w K (keys.map str)) (hkc : keys.length ≤ kc) (hKb : keys ≠ [] → ∀ a, K = some a → a.block ≠ rb) (hKo : keys ≠ [] → ∀ a, K = some a → a.block < w.heap.size) (hks : keys.length ≤ 4000000 ∧ ∀ k ∈ keys, k.length ≤ 140737488355328) (hne : Sp.kindsV v what ≠ []) :
    Calls Tryz.prog 66 #[.pointer (some ⟨rb, 0, none⟩), cmdA v K keys.length kc fl ex tk dl D dn dc nr lg M mn mc what] w (ReadsTo w rb A cap raw (AnsK w.heap.size) (Sp.readR raw v keys what 0)) := by
  obtain ⟨r, hr⟩ : ∃ r, r = Sp.readR raw v keys what 0 := ⟨_, rfl⟩
  rw [← hr]
  unfold Sp.readR at hr
  generalize hR : ReadsTo w rb A cap raw (AnsK w.heap.size) r = R
  have hlt := h.lt
  have hsm := h.small
  have hroom := h.room
  have hal : Below w.heap.size w ((w.alloc (.cells #[.int .i64 v, .slice K keys.length kc, .int .u64 fl, .int .i64 ex, .int .u64 tk, .int .u64 dl, .slice D dn dc, .bool nr, .bool lg, .slice M mn mc, str what] 32)).alloc (.cells #[.int .i64 0, .slice none 0 0, .int .u64 0, .string ⟨#[]⟩, .slice none 0 0] 36)) := ((Below.refl _ _).alloc (Nat.le_refl _) _).alloc (by simp) _
  have hbx : Blk ((w.alloc (.cells #[.int .i64 v, .slice K keys.length kc, .int .u64 fl, .int .i64 ex, .int .u64 tk, .int .u64 dl, .slice D dn dc, .bool nr, .bool lg, .slice M mn mc, str what] 32)).alloc (.cells #[.int .i64 0, .slice none 0 0, .int .u64 0, .string ⟨#[]⟩, .slice none 0 0] 36)) w.heap.size 32 #[.int .i64 v, .slice K keys.length kc, .int .u64 fl, .int .i64 ex, .int .u64 tk, .int .u64 dl, .slice D dn dc, .bool nr, .bool lg, .slice M mn mc, str what] := (Blk.new w _ _).alloc _
  have hcb : Blk ((w.alloc (.cells #[.int .i64 v, .slice K keys.length kc, .int .u64 fl, .int .i64 ex, .int .u64 tk, .int .u64 dl, .slice D dn dc, .bool nr, .bool lg, .slice M mn mc, str what] 32)).alloc (.cells #[.int .i64 0, .slice none 0 0, .int .u64 0, .string ⟨#[]⟩, .slice none 0 0] 36)) (w.heap.size + 1) 36 #[.int .i64 0, .slice none 0 0, .int .u64 0, .string ⟨#[]⟩, .slice none 0 0] := by
    have := Blk.new (w.alloc (.cells #[.int .i64 v, .slice K keys.length kc, .int .u64 fl, .int .i64 ex, .int .u64 tk, .int .u64 dl, .slice D dn dc, .bool nr, .bool lg, .slice M mn mc, str what] 32)) 36 #[.int .i64 0, .slice none 0 0, .int .u64 0, .string ⟨#[]⟩, .slice none 0 0]
    rwa [show (w.alloc (.cells #[.int .i64 v, .slice K keys.length kc, .int .u64 fl, .int .i64 ex, .int .u64 tk, .int .u64 dl, .slice D dn dc, .bool nr, .bool lg, .slice M mn mc, str what] 32)).heap.size = w.heap.size + 1 by simp] at this
  obtain ⟨W1, hW1⟩ : ∃ W1, W1 = (w.alloc (.cells #[.int .i64 v, .slice K keys.length kc, .int .u64 fl, .int .i64 ex, .int .u64 tk, .int .u64 dl, .slice D dn dc, .bool nr, .bool lg, .slice M mn mc, str what] 32)).alloc (.cells #[.int .i64 0, .slice none 0 0, .int .u64 0, .string ⟨#[]⟩, .slice none 0 0] 36) := ⟨_, rfl⟩
  rw [← hW1] at hal hbx hcb
  have hkd := fun W : World => kinds_any v K keys.length kc fl ex tk dl D dn dc nr lg M mn mc what W
  obtain ⟨i1, hi1, hv0, hv1, hv2⟩ := info_parts (show (Tryz.prog.info? 9).map (fun i => (i.zero, i.size, i.bytes)) = some (some (.string ⟨#[]⟩), 1, 16) by kernel_rfl)
  obtain ⟨bx, hbxe⟩ : ∃ bx, bx = w.heap.size := ⟨_, rfl⟩
  obtain ⟨c0, hc0⟩ : ∃ c0, c0 = w.heap.size + 1 := ⟨_, rfl⟩
  rw [← hbxe] at hbx
  rw [← hc0] at hcb
  have hrc : rb < c0 := by omega
  have hrx : rb < bx := by omega
  obtain ⟨l, hl⟩ : ∃ l, l = Sp.kindsV v what := ⟨_, rfl⟩
  have hfew : l.length ≤ 3 := by rw [hl]; exact kinds_few v what
  rw [← hl] at hkd hr hne
  obtain ⟨k0, lt0, hlk⟩ : ∃ k0 lt0, l = k0 :: lt0 := List.exists_cons_of_ne_nil hne
  have hhd : l.headD 0 = k0 := by rw [hlk]; rfl
  rw [hhd] at hr
  have hlc : k0 = 7 → l = [7, 4] := fun h7 => by
    have h := Sp.kinds_cases v what
    rw [← hl, hlk] at h
    subst h7
    rw [hlk]
    simp only [List.mem_cons, List.not_mem_nil, or_false] at h
    rcases h with h | h | h | h | h | h | h | h | h | h | h | h | h | h <;> first | exact h | (injection h with h _; omega) | cases h
  have hl0 : l[0]? = some k0 := by rw [hlk]; rfl
  have hpos : 0 < l.length := by rw [hlk]; simp
  have hpos2 : (0 : Int) < (l.length : Int) := by omega
  have y0 := hbx.cell 0
  have y1 := hbx.cell 1
  have y2 := hbx.cell 2
  have y3 := hbx.cell 3
  have y4 := hbx.cell 4
  have y5 := hbx.cell 5
  have y6 := hbx.cell 6
  have y7 := hbx.cell 7
  have y8 := hbx.cell 8
  have y9 := hbx.cell 9
  have y10 := hbx.cell 10
  simp only [List.getElem?_toArray, List.getElem?_cons_zero, List.getElem?_cons_succ] at y0 y1 y2 y3 y4 y5 y6 y7 y8 y9 y10
  have HR := Lib.hid hR
  have HH := Lib.hid h
  have HAL := Lib.hid hal
  have HBX := Lib.hid hbx
  have HCB := Lib.hid hcb
  have HW1 := Lib.hid hW1
  have HKD := Lib.hid hkd
  have HRR := Lib.hid hr
  have HLC := Lib.hid hlc
  have HL0 := Lib.hid hl0
  have HK := Lib.hid hK
  have HKB := Lib.hid hKb
  have HKO := Lib.hid hKo
  have HKS := Lib.hid hks
  have HC0 := Lib.hid hc0
  have HBXE := Lib.hid hbxe
  clear hR h hal hbx hcb hW1 hkd hr hlc hl0 hK hKb hKo hks hne hhd hl hlk
  go_enter Tryz.func66, Tryz.ntmps66
  go_upto_region 1 with fail
  rw [← HW1.out, ← HC0.out, ← HBXE.out]
  clear hc0 hbxe
  go_upto_region 2 with (go_at_call 37; refine (HKD.out W1).mono ?_; rintro e w1 ⟨L, lc, rfl, hown1, _, hb1⟩; have HOWN1 := Lib.hid hown1; have HB1 := Lib.hid hb1; clear hown1 hb1)
  clear y0 y1 y2 y3 y4 y5 y6 y7 y8 y9 y10
  obtain ⟨gk, hgk⟩ := own_some HOWN1.out (by omega)
  subst hgk
  have hb1 : Below w.heap.size w w1 := HAL.out.trans (HB1.out.mono HAL.out.size)
  have hbx1 := HBX.out.later HB1.out
  have hcb1 := HCB.out.later HB1.out
  have hx1 := HH.out.later hb1
  have hown1 := own_base (base' := w.heap.size) HOWN1.out (fun k hk => by have h1 := own_ge HOWN1.out k (mem_rowBlock.2 hk); have h2 := HAL.out.size; omega)
  have hlcell : ∀ W : World, OnlyIn [rb] w1 W → ∀ (i : Nat) (k : Int), l[i]? = some k → W.cell? ⟨gk, i, none⟩ = some (.int .i64 k) := fun W hW i k hi => by
    have hm : (intsR l)[i]? = some (.int .i64 k) := by unfold intsR; rw [List.getElem?_map, hi]; rfl
    rcases RowAt.of_own (own_only hown1 hW (by simpa using hlt)) with h0 | ⟨b, o, h1, h2, h3⟩
    · rw [h0] at hm; cases hm
    · injection h1 with h1
      injection h1 with h1 h4
      have := h3 i _ hm
      rwa [← h1, ← h4, Nat.zero_add] at this
  have hk0 := hlcell w1 (OnlyIn.refl _ _) 0 k0 HL0.out
  have hrr := HRR.out
  have HO1 := Lib.hid (OnlyIn.of hb1 [rb])
  have HBX1 := Lib.hid hbx1
  have HCB1 := Lib.hid hcb1
  have HX1 := Lib.hid hx1
  have HLCELL := Lib.hid hlcell
  have hs1 := hb1.size
  have HKW := Lib.hid (HK.out.below hb1)
  clear hb1 hbx1 hcb1 hx1 hown1 hlcell HBX HCB HH HRR
  by_cases h13 : k0 = 13
  · rw [if_pos h13] at hrr
    have g13 : (k0 == 13) = true := by rw [h13]; rfl
    have hst := stats_any HX1.out
    cases hcv : Sp.statsFrom raw (raw.length + 1) [] 0 with
    | more =>
      rw [hcv] at hrr hst
      have HQ := Lib.hid hst
      have HGQ := Lib.hid hrr
      clear hrr hst hcv
      go_wp2_with (go_at_call 106; refine HQ.out.mono ?_; rintro e wz ⟨hoz, rfl⟩; have HOZ := Lib.hid hoz; clear hoz)
      refine ⟨rfl, ?_⟩
      rw [← HR.out, HGQ.out]
      exact ⟨HO1.out.rd HOZ.out, rfl⟩
    | fail =>
      rw [hcv] at hrr hst
      have HQ := Lib.hid hst
      have HGQ := Lib.hid hrr
      clear hrr hst hcv
      go_wp2_with (go_at_call 106; refine HQ.out.mono ?_; rintro e wz ⟨hoz, rfl⟩; have HOZ := Lib.hid hoz; clear hoz)
      refine ⟨rfl, ?_⟩
      rw [← HR.out, HGQ.out]
      exact ⟨HO1.out.rd HOZ.out, rfl⟩
    | got x q =>
      rw [hcv] at hrr hst
      have HQ := Lib.hid hst
      have HGE := Lib.hid hrr
      clear hrr hst hcv
      go_wp2_with (go_at_call 106; refine HQ.out.mono ?_; rintro e w2 ⟨ho, ⟨S, sc, rfl, hown⟩, hx⟩; have hcb := HCB1.out.same (ho.block _ HCB1.out.lt (by simp; omega)); have HCBE := Lib.hid hcb; have z0 := hcb.cell 0; have z1 := hcb.cell 1; have z2 := hcb.cell 2; have z3 := hcb.cell 3; have z4 := hcb.cell 4; have f0 := hcb.frozen 0; have f1 := hcb.frozen 1; have f2 := hcb.frozen 2; have f3 := hcb.frozen 3; have f4 := hcb.frozen 4; simp only [List.getElem?_toArray, List.getElem?_cons_zero, List.getElem?_cons_succ] at z0 z1 z2 z3 z4; have HOWN2 := Lib.hid (own_base (base' := w.heap.size) hown (fun k hk => by have h1 := own_ge hown k (mem_rowBlock.2 hk); omega)); have HO2 := Lib.hid (HO1.out.rd ho); have HX2 := Lib.hid hx; clear ho hx hcb hown)
      change bodyPost _ _ _ _ _ (ansPut w2 c0 { kind := 13, S := S, sc := sc, stats := x })
      refine bodyPost_ret (read_results (ansPut_blk HCBE.out _) _ rfl) rfl ?_
      rw [← HR.out, HGE.out]
      have hput := ansPut_only w2 c0 { kind := 13, S := S, sc := sc, stats := x }
      refine ⟨HO2.out.trans hput (by have := HC0.out; simp; omega), ⟨{ kind := 13, S := S, sc := sc, stats := x }, ?_, rfl, ?_⟩, HX2.out.only hput (by simpa using hrc)⟩
      · rfl
      · exact ⟨EntsOwn.nil _ _, own_far HOWN2.out (by decide) HCBE.out hput⟩
  rw [if_neg h13] at hrr
  have g13 : (k0 == 13) = false := by simpa using h13
  by_cases h15 : k0 = 15
  · rw [if_pos h15] at hrr
    have g15 : (k0 == 15) = true := by rw [h15]; rfl
    have hcd := coded_any HX1.out v
    have b0 : w1.cell? ⟨bx, 0, none⟩ = some (.int .i64 v) := HBX1.out.cell 0
    cases hcv : Sp.codedR raw v 0 with
    | more =>
      rw [hcv] at hrr hcd
      have HQ := Lib.hid hcd
      have HGQ := Lib.hid hrr
      clear hrr hcd hcv
      go_wp2_with (go_at_call 107; refine HQ.out.mono ?_; rintro e wz ⟨hoz, rfl⟩; have HOZ := Lib.hid hoz; clear hoz)
      refine ⟨rfl, ?_⟩
      rw [← HR.out, HGQ.out]
      exact ⟨HO1.out.rd HOZ.out, rfl⟩
    | fail =>
      rw [hcv] at hrr hcd
      have HQ := Lib.hid hcd
      have HGQ := Lib.hid hrr
      clear hrr hcd hcv
      go_wp2_with (go_at_call 107; refine HQ.out.mono ?_; rintro e wz ⟨hoz, rfl⟩; have HOZ := Lib.hid hoz; clear hoz)
      refine ⟨rfl, ?_⟩
      rw [← HR.out, HGQ.out]
      exact ⟨HO1.out.rd HOZ.out, rfl⟩
    | got a q =>
      rw [hcv] at hrr hcd
      have HQ := Lib.hid hcd
      have HGE := Lib.hid hrr
      clear hrr hcd hcv
      go_wp2_with (go_at_call 107; refine HQ.out.mono ?_; rintro e w2 ⟨ho, ⟨X, hXv, rfl, hown⟩, hx⟩; have hcb := HCB1.out.same (ho.block _ HCB1.out.lt (by simp; omega)); have HCBE := Lib.hid hcb; have z0 := hcb.cell 0; have z1 := hcb.cell 1; have z2 := hcb.cell 2; have z3 := hcb.cell 3; have z4 := hcb.cell 4; have f0 := hcb.frozen 0; have f1 := hcb.frozen 1; have f2 := hcb.frozen 2; have f3 := hcb.frozen 3; have f4 := hcb.frozen 4; simp only [List.getElem?_toArray, List.getElem?_cons_zero, List.getElem?_cons_succ] at z0 z1 z2 z3 z4; have HXV := Lib.hid hXv; have HOWN2 := Lib.hid (hown.base hs1); have HO2 := Lib.hid (HO1.out.rd ho); have HX2 := Lib.hid hx; clear ho hx hcb hown hXv)
      change bodyPost _ _ _ _ _ (ansPut w2 c0 X)
      refine bodyPost_ret (read_results (ansPut_blk HCBE.out _) _ rfl) rfl ?_
      rw [← HR.out, HGE.out]
      have hput := ansPut_only w2 c0 X
      refine ⟨HO2.out.trans hput (by have := HC0.out; simp; omega), ⟨X, ?_, rfl, ?_⟩, HX2.out.only hput (by simpa using hrc)⟩
      · exact HXV.out
      · exact HOWN2.out.far HCBE.out hput
  rw [if_neg h15] at hrr
  have g15 : (k0 == 15) = false := by simpa using h15
  by_cases h9 : k0 = 9
  · rw [if_pos h9] at hrr
    have g9 : (k0 == 9) = true := by rw [h9]; rfl
    have hvl := values_any HX1.out v fl ex tk dl D dn dc nr lg M mn mc what HKW.out hkc HKB.out (fun hk a ha => Nat.lt_of_lt_of_le (HKO.out hk a ha) hs1) HKS.out
    have y0 := HBX1.out.cell 0
    have y1 := HBX1.out.cell 1
    have y2 := HBX1.out.cell 2
    have y3 := HBX1.out.cell 3
    have y4 := HBX1.out.cell 4
    have y5 := HBX1.out.cell 5
    have y6 := HBX1.out.cell 6
    have y7 := HBX1.out.cell 7
    have y8 := HBX1.out.cell 8
    have y9 := HBX1.out.cell 9
    have y10 := HBX1.out.cell 10
    simp only [List.getElem?_toArray, List.getElem?_cons_zero, List.getElem?_cons_succ] at y0 y1 y2 y3 y4 y5 y6 y7 y8 y9 y10
    cases hcv : Sp.valuesFrom raw v (keys.length + 1) keys [] 0 with
    | more =>
      rw [hcv] at hrr hvl
      have HQ := Lib.hid hvl
      have HGQ := Lib.hid hrr
      clear hrr hvl hcv
      go_wp2_with (go_at_call 108; refine HQ.out.mono ?_; rintro e wz ⟨hoz, rfl⟩; have HOZ := Lib.hid hoz; clear hoz)
      refine ⟨rfl, ?_⟩
      rw [← HR.out, HGQ.out]
      exact ⟨HO1.out.rd HOZ.out, rfl⟩
    | fail =>
      rw [hcv] at hrr hvl
      have HQ := Lib.hid hvl
      have HGQ := Lib.hid hrr
      clear hrr hvl hcv
      go_wp2_with (go_at_call 108; refine HQ.out.mono ?_; rintro e wz ⟨hoz, rfl⟩; have HOZ := Lib.hid hoz; clear hoz)
      refine ⟨rfl, ?_⟩
      rw [← HR.out, HGQ.out]
      exact ⟨HO1.out.rd HOZ.out, rfl⟩
    | got x q =>
      rw [hcv] at hrr hvl
      have HQ := Lib.hid hvl
      have HGE := Lib.hid hrr
      clear hrr hvl hcv
      go_wp2_with (go_at_call 108; refine HQ.out.mono ?_; rintro e w2 ⟨ho, ⟨E, ec, xs, hxs, rfl, hown⟩, hx⟩; have hcb := HCB1.out.same (ho.block _ HCB1.out.lt (by simp; omega)); have HCBE := Lib.hid hcb; have z0 := hcb.cell 0; have z1 := hcb.cell 1; have z2 := hcb.cell 2; have z3 := hcb.cell 3; have z4 := hcb.cell 4; have f0 := hcb.frozen 0; have f1 := hcb.frozen 1; have f2 := hcb.frozen 2; have f3 := hcb.frozen 3; have f4 := hcb.frozen 4; simp only [List.getElem?_toArray, List.getElem?_cons_zero, List.getElem?_cons_succ] at z0 z1 z2 z3 z4; have HXV := Lib.hid hxs; have HOWN2 := Lib.hid (hown.base hs1); have HO2 := Lib.hid (HO1.out.rd ho); have HX2 := Lib.hid hx; clear ho hx hcb hown hxs)
      change bodyPost _ _ _ _ _ (ansPut w2 c0 { kind := 9, E := E, ec := ec, xs := xs })
      refine bodyPost_ret (read_results (ansPut_blk HCBE.out _) _ rfl) rfl ?_
      rw [← HR.out, HGE.out]
      have hput := ansPut_only w2 c0 { kind := 9, E := E, ec := ec, xs := xs }
      refine ⟨HO2.out.trans hput (by have := HC0.out; simp; omega), ⟨{ kind := 9, E := E, ec := ec, xs := xs }, ?_, rfl, ?_⟩, HX2.out.only hput (by simpa using hrc)⟩
      · rw [← HXV.out]; rfl
      · exact ⟨ents_far HOWN2.out HCBE.out hput, World.ownsRow_nil _ _ _ 2⟩
  rw [if_neg h9] at hrr
  have g9 : (k0 == 9) = false := by simpa using h9
  by_cases h10 : k0 = 10
  · rw [if_pos h10] at hrr
    have g10 : (k0 == 10) = true := by rw [h10]; rfl
    have hw := readerWant_any HX1.out (Sp.versionV ++ [32]) (by decide)
    cases hcv : Sp.wantV raw 0 (Sp.versionV ++ [32]) with
    | more =>
      rw [hcv] at hrr hw
      have HQ := Lib.hid hw
      have HGQ := Lib.hid hrr
      clear hrr hw hcv
      go_wp2_with (go_at_call 109; refine HQ.out.mono ?_; rintro e wz ⟨hoz, rfl, _⟩; have HOZ := Lib.hid hoz; clear hoz)
      refine ⟨rfl, ?_⟩
      rw [← HR.out, HGQ.out]
      exact ⟨HO1.out.rd HOZ.out, rfl⟩
    | fail =>
      rw [hcv] at hrr hw
      have HQ := Lib.hid hw
      have HGQ := Lib.hid hrr
      clear hrr hw hcv
      go_wp2_with (go_at_call 109; refine HQ.out.mono ?_; rintro e wz ⟨hoz, rfl, _⟩; have HOZ := Lib.hid hoz; clear hoz)
      refine ⟨rfl, ?_⟩
      rw [← HR.out, HGQ.out]
      exact ⟨HO1.out.rd HOZ.out, rfl⟩
    | got u1 q1 =>
      rw [hcv] at hrr hw
      change r = (Sp.textR raw q1).next _ at hrr
      have HQ := Lib.hid hw
      have HG := Lib.hid hrr
      clear hrr hw hcv
      go_upto_region 10 with (go_at_call 109; refine HQ.out.mono ?_; rintro e w2 ⟨ho, rfl, hx⟩; have hcb := HCB1.out.same (ho.block _ HCB1.out.lt (by simp; omega)); have HCB2 := Lib.hid hcb; have HO2 := Lib.hid (HO1.out.rd ho); have HX2 := Lib.hid hx; clear ho hx hcb)
      have hrr := HG.out
      clear HQ HG
      have htx := text_any HX2.out
      cases hcv : Sp.textR raw q1 with
      | more =>
        rw [hcv] at hrr htx
        have HQ := Lib.hid htx
        have HGQ := Lib.hid hrr
        clear hrr htx hcv
        go_wp2_with (go_at_call 110; refine HQ.out.mono ?_; rintro e wz ⟨hoz, rfl, _⟩; have HOZ := Lib.hid hoz; clear hoz)
        refine ⟨rfl, ?_⟩
        rw [← HR.out, HGQ.out]
        exact ⟨HO2.out.rd HOZ.out, rfl⟩
      | fail =>
        rw [hcv] at hrr htx
        have HQ := Lib.hid htx
        have HGQ := Lib.hid hrr
        clear hrr htx hcv
        go_wp2_with (go_at_call 110; refine HQ.out.mono ?_; rintro e wz ⟨hoz, rfl, _⟩; have HOZ := Lib.hid hoz; clear hoz)
        refine ⟨rfl, ?_⟩
        rw [← HR.out, HGQ.out]
        exact ⟨HO2.out.rd HOZ.out, rfl⟩
      | got s q2 =>
        rw [hcv] at hrr htx
        change r = (Sp.wantV raw q2 Sp.crlf).next _ at hrr
        have HQ := Lib.hid htx
        have HG := Lib.hid hrr
        clear hrr htx hcv
        go_upto_region 11 with (go_at_call 110; refine HQ.out.mono ?_; rintro e w3 ⟨ho, rfl, hx⟩; have hcb := HCB2.out.same (ho.block _ HCB2.out.lt (by simp; omega)); have HCB3 := Lib.hid hcb; have HO3 := Lib.hid (HO2.out.rd ho); have HX3 := Lib.hid hx; clear ho hx hcb)
        have hrr := HG.out
        clear HQ HG
        have hw := readerWant_any HX3.out Sp.crlf (by decide)
        cases hcv : Sp.wantV raw q2 Sp.crlf with
        | more =>
          rw [hcv] at hrr hw
          have HQ := Lib.hid hw
          have HGQ := Lib.hid hrr
          clear hrr hw hcv
          go_wp2_with (go_at_call 109; refine HQ.out.mono ?_; rintro e wz ⟨hoz, rfl, _⟩; have HOZ := Lib.hid hoz; clear hoz)
          refine ⟨rfl, ?_⟩
          rw [← HR.out, HGQ.out]
          exact ⟨HO3.out.rd HOZ.out, rfl⟩
        | fail =>
          rw [hcv] at hrr hw
          have HQ := Lib.hid hw
          have HGQ := Lib.hid hrr
          clear hrr hw hcv
          go_wp2_with (go_at_call 109; refine HQ.out.mono ?_; rintro e wz ⟨hoz, rfl, _⟩; have HOZ := Lib.hid hoz; clear hoz)
          refine ⟨rfl, ?_⟩
          rw [← HR.out, HGQ.out]
          exact ⟨HO3.out.rd HOZ.out, rfl⟩
        | got u3 q3 =>
          rw [hcv] at hrr hw
          have HQ := Lib.hid hw
          have HGE := Lib.hid hrr
          clear hrr hw hcv
          go_wp2_with (go_at_call 109; refine HQ.out.mono ?_; rintro e w4 ⟨ho, rfl, hx⟩; have hcb := HCB3.out.same (ho.block _ HCB3.out.lt (by simp; omega)); have HCBE := Lib.hid hcb; have z0 := hcb.cell 0; have z1 := hcb.cell 1; have z2 := hcb.cell 2; have z3 := hcb.cell 3; have z4 := hcb.cell 4; have f0 := hcb.frozen 0; have f1 := hcb.frozen 1; have f2 := hcb.frozen 2; have f3 := hcb.frozen 3; have f4 := hcb.frozen 4; simp only [List.getElem?_toArray, List.getElem?_cons_zero, List.getElem?_cons_succ] at z0 z1 z2 z3 z4; have HO4 := Lib.hid (HO3.out.rd ho); have HX4 := Lib.hid hx; clear ho hx hcb)
          change bodyPost _ _ _ _ _ (ansPut w4 c0 { kind := 10, text := s })
          refine bodyPost_ret (read_results (ansPut_blk HCBE.out _) _ rfl) rfl ?_
          rw [← HR.out, HGE.out]
          have hput := ansPut_only w4 c0 { kind := 10, text := s }
          refine ⟨HO4.out.trans hput (by have := HC0.out; simp; omega), ⟨{ kind := 10, text := s }, ?_, rfl, ?_⟩, HX4.out.only hput (by simpa using hrc)⟩
          · rfl
          · exact AnsOwn.bare _ _ rfl rfl rfl rfl rfl rfl
  rw [if_neg h10] at hrr
  have g10 : (k0 == 10) = false := by simpa using h10
  have x0 : w1.cell? ⟨rb, 0, none⟩ = some (.slice A raw.length cap) := HX1.out.blk.cell 0
  have hbyte : ∀ c, raw[0]? = some c → ∃ g o, A = some ⟨g, o, none⟩ ∧ w1.cell? ⟨g, o, none⟩ = some (.int .u8 c.toNat) := fun c hc => by
    rcases HX1.out.row with h0 | ⟨g, o, h1, h2, h3⟩
    · have : raw = [] := by simpa [bytesV] using h0
      rw [this] at hc; simp at hc
    · exact ⟨g, o, h1, h3 0 _ (by simp [bytesV, hc])⟩
  obtain ⟨rn, hrn⟩ : ∃ rn, rn = raw.length := ⟨_, rfl⟩
  have HRN := Lib.hid hrn
  rw [← hrn] at x0
  by_cases hdg : k0 = 7 ∧ Sp.digitAt raw 0 = true
  · obtain ⟨h7, hd⟩ := hdg
    rw [if_pos h7, if_pos hd] at hrr
    have g7 : (k0 == 7) = true := by rw [h7]; rfl
    obtain ⟨c, hc, hc1, hc2⟩ : ∃ c, raw[0]? = some c ∧ 48 ≤ c.toNat ∧ c.toNat ≤ 57 := by
      unfold Sp.digitAt at hd
      rw [List.drop_zero, List.head?_eq_getElem?] at hd
      cases e : raw[0]? with
      | none => rw [e] at hd; cases hd
      | some c =>
        rw [e] at hd
        have hd2 := of_decide_eq_true hd
        rw [UInt8.le_iff_toNat_le, UInt8.le_iff_toNat_le] at hd2
        exact ⟨c, rfl, hd2.1, hd2.2⟩
    obtain ⟨gb, ob, hA, ybyte⟩ := hbyte c hc
    have hrp : 0 < rn := by rw [hrn]; exact (List.getElem?_eq_some_iff.1 hc).1
    have hrp2 : (0 : Int) < (rn : Int) := by omega
    obtain ⟨cn, hcn⟩ : ∃ cn, cn = c.toNat := ⟨_, rfl⟩
    rw [← hcn] at ybyte hc1 hc2
    have i1 : (48 : Int) ≤ (cn : Int) := by omega
    have i2 : (cn : Int) ≤ 57 := by omega
    rw [hA] at x0
    have hnum := number_any (most := 18446744073709551615) HX1.out (by decide) (by decide)
    have HA := Lib.hid hA
    clear hcn hc hbyte hA hrn hd
    cases hcv : Sp.numberR raw 18446744073709551615 0 with
    | more =>
      rw [hcv] at hrr hnum
      have HQ := Lib.hid hnum
      have HGQ := Lib.hid hrr
      clear hrr hnum hcv
      go_wp2_with (go_at_call 111; refine HQ.out.mono ?_; rintro e wz ⟨hoz, rfl, _⟩; have HOZ := Lib.hid hoz; clear hoz)
      refine ⟨rfl, ?_⟩
      rw [← HR.out, HGQ.out]
      exact ⟨HO1.out.rd HOZ.out, rfl⟩
    | fail =>
      rw [hcv] at hrr hnum
      have HQ := Lib.hid hnum
      have HGQ := Lib.hid hrr
      clear hrr hnum hcv
      go_wp2_with (go_at_call 111; refine HQ.out.mono ?_; rintro e wz ⟨hoz, rfl, _⟩; have HOZ := Lib.hid hoz; clear hoz)
      refine ⟨rfl, ?_⟩
      rw [← HR.out, HGQ.out]
      exact ⟨HO1.out.rd HOZ.out, rfl⟩
    | got n q1 =>
      rw [hcv] at hrr hnum
      change r = (Sp.wantV raw q1 Sp.crlf).next _ at hrr
      have HQ := Lib.hid hnum
      have HG := Lib.hid hrr
      clear hrr hnum hcv
      go_upto_region 15 with (go_at_call 111; refine HQ.out.mono ?_; rintro e w2 ⟨ho, rfl, hx⟩; have hcb := HCB1.out.same (ho.block _ HCB1.out.lt (by simp; omega)); have HCB2 := Lib.hid hcb; have HO2 := Lib.hid (HO1.out.rd ho); have HX2 := Lib.hid hx; clear ho hx hcb)
      have hrr := HG.out
      clear HQ HG
      clear x0 ybyte
      have hw := readerWant_any HX2.out Sp.crlf (by decide)
      cases hcv : Sp.wantV raw q1 Sp.crlf with
      | more =>
        rw [hcv] at hrr hw
        have HQ := Lib.hid hw
        have HGQ := Lib.hid hrr
        clear hrr hw hcv
        go_wp2_with (go_at_call 109; refine HQ.out.mono ?_; rintro e wz ⟨hoz, rfl, _⟩; have HOZ := Lib.hid hoz; clear hoz)
        refine ⟨rfl, ?_⟩
        rw [← HR.out, HGQ.out]
        exact ⟨HO2.out.rd HOZ.out, rfl⟩
      | fail =>
        rw [hcv] at hrr hw
        have HQ := Lib.hid hw
        have HGQ := Lib.hid hrr
        clear hrr hw hcv
        go_wp2_with (go_at_call 109; refine HQ.out.mono ?_; rintro e wz ⟨hoz, rfl, _⟩; have HOZ := Lib.hid hoz; clear hoz)
        refine ⟨rfl, ?_⟩
        rw [← HR.out, HGQ.out]
        exact ⟨HO2.out.rd HOZ.out, rfl⟩
      | got u2 q2 =>
        rw [hcv] at hrr hw
        have HQ := Lib.hid hw
        have HGE := Lib.hid hrr
        clear hrr hw hcv
        go_wp2_with (go_at_call 109; refine HQ.out.mono ?_; rintro e w4 ⟨ho, rfl, hx⟩; have hcb := HCB2.out.same (ho.block _ HCB2.out.lt (by simp; omega)); have HCBE := Lib.hid hcb; have z0 := hcb.cell 0; have z1 := hcb.cell 1; have z2 := hcb.cell 2; have z3 := hcb.cell 3; have z4 := hcb.cell 4; have f0 := hcb.frozen 0; have f1 := hcb.frozen 1; have f2 := hcb.frozen 2; have f3 := hcb.frozen 3; have f4 := hcb.frozen 4; simp only [List.getElem?_toArray, List.getElem?_cons_zero, List.getElem?_cons_succ] at z0 z1 z2 z3 z4; have HO4 := Lib.hid (HO2.out.rd ho); have HX4 := Lib.hid hx; clear ho hx hcb)
        change bodyPost _ _ _ _ _ (ansPut w4 c0 { kind := 7, number := n })
        refine bodyPost_ret (read_results (ansPut_blk HCBE.out _) _ rfl) rfl ?_
        rw [← HR.out, HGE.out]
        have hput := ansPut_only w4 c0 { kind := 7, number := n }
        refine ⟨HO4.out.trans hput (by have := HC0.out; simp; omega), ⟨{ kind := 7, number := n }, ?_, rfl, ?_⟩, HX4.out.only hput (by simpa using hrc)⟩
        · rfl
        · exact AnsOwn.bare _ _ rfl rfl rfl rfl rfl rfl
  by_cases h7 : k0 = 7
  · rw [if_pos h7, if_neg (fun e => hdg ⟨h7, e⟩)] at hrr
    have g7 : (k0 == 7) = true := by rw [h7]; rfl
    cases hc : raw[0]? with
    | none =>
      have hr0 : rn = 0 := by rw [hrn]; exact Nat.le_zero.1 (List.getElem?_eq_none_iff.1 hc)
      have q1 : decide ((0 : Int) < (rn : Int)) = false := decide_eq_false (by omega)
      have q2 : decide (0 < rn) = false := decide_eq_false (by omega)
      clear hbyte hrn hr0 hc
      go_upto_region 17 with fail
      clear x0
      go_wp2_with fail
      go_loopw [8, 10, 91] (fun tv _ iv wr => ∃ (j : Nat) (T : Option Addr) (tc : Nat), iv = .int .i64 j ∧ tv = .slice T j tc ∧ j ≤ l.length ∧ wr.ownsRow w1.heap.size 9 1 (.slice T j tc) j (((l.take j).map fixLine).map str) ∧ Below w1.heap.size w1 wr) (fun _ _ iv _ => l.length - (intOf iv).toNat)
      case atStart => exact ⟨0, none, 0, rfl, rfl, Nat.zero_le _, World.ownsRow_nil _ _ _ 1, Below.refl _ _⟩
      case round =>
        obtain ⟨j, T, tc, rfl, rfl, hj, hown, hbw⟩ := hrel
        have HOWN := Lib.hid hown
        have HBW := Lib.hid hbw
        by_cases hjl : j < l.length
        · obtain ⟨k, hk⟩ : ∃ k, l[j]? = some k := ⟨l[j], by simp [hjl]⟩
          have hkcell := HLCELL.out wr (OnlyIn.of hbw [rb]) j k hk
          have hfx := fun W : World => fixed_any k W
          have hfs := fixed_short k
          obtain ⟨zb, hzb⟩ : ∃ zb : ByteArray, zb = ({ data := (Sp.fixedV k).toArray } : ByteArray) ++ { data := #[13, 10] } := ⟨_, rfl⟩
          have hzs : zb = ⟨(fixLine k).toArray⟩ := by rw [hzb]; exact cat_fix _
          have hcat := hzb.symm
          have hnb : ¬ (9223372036854775807 < (Sp.fixedV k).length + 2) := by omega
          have hj1 : (j : Int) < (l.length : Int) := by omega
          have hwsz := hbw.size
          generalize Sp.fixedV k = fk at hfx hcat hnb hfs
          have HFX := Lib.hid hfx
          have HZS := Lib.hid hzs
          have HKJ := Lib.hid hk
          clear hfx hzb hzs hk hown hbw
          go_wp2_with (first
            | (go_at_call 50; refine (HFX.out _).mono ?_; rintro e w2 ⟨rfl, rfl⟩)
            | (at_builtin; refine wpList_append_put rfl (.tmp 95) (.tmp 99) _ rfl w1.heap.size 9 i1 _ 1 16 Tryz.underlying27 hi1 hv0 hv1 hv2 rfl (by decide) (.slice T j tc) j (((l.take j).map fixLine).map str) rfl (own_later HOWN.out ((Below.refl _ _).alloc (Nat.le_refl _) _)) ⟨wr.heap.size, 0, none⟩ 1 1 [.string zb] rfl rfl (cells_one wr _ _) ?_ ?_ ?_ ?_ ?_ ?_; (intro u hu; simp only [List.mem_cons, List.not_mem_nil, or_false] at hu; subst hu; rfl); decide; (unfold maxLen; omega); omega; (simp; omega); intro g8 cap8 w8 hown8 hg8 hat8; have HOWN8 := Lib.hid hown8; have HG8 := Lib.hid hg8; clear hown8 hg8 hat8))
          refine ⟨⟨j + 1, some ⟨g8, 0, none⟩, cap8, by go_num, rfl, by omega, ?_, ?_⟩, by show l.length - ((j : Int) + 1).toNat < l.length - (j : Int).toNat; omega⟩
          · rw [List.take_add_one, HKJ.out]
            show w8.ownsRow w1.heap.size _ _ _ _ (((l.take j ++ [k]).map fixLine).map str)
            rw [List.map_append, List.map_append, List.map_singleton, List.map_singleton, show str (fixLine k) = Value.string zb by rw [HZS.out]]
            exact HOWN8.out
          · have h1 : Below w1.heap.size w1 (wr.alloc (.cells #[.string zb] 9)) := HBW.out.alloc hwsz _
            exact h1.grown HG8.out h1.size (fun k hk => ((own_later HOWN.out ((Below.refl _ _).alloc (Nat.le_refl _) (.cells #[.string zb] 9))).lt k hk).1)
        · have hje : j = l.length := by omega
          have i1' : decide ((j : Int) < (l.length : Int)) = false := decide_eq_false (by omega)
          have i2' : decide (j < l.length) = false := decide_eq_false hjl
          rw [List.take_of_length_le (by omega)] at hown
          have hxr := HX1.out.later hbw
          have hor := OnlyIn.of hbw [rb]
          have hcbr := HCB1.out.later hbw
          have hk0r := HLCELL.out wr hor 0 k0 HL0.out
          have HOR := Lib.hid (HO1.out.rd hor)
          have HORW := Lib.hid hor
          have HCBR := Lib.hid hcbr
          have HXR := Lib.hid hxr
          clear HOWN HBW hjl
          have hl2 := HLC.out h7
          have hn2 : l.length = 2 := by rw [hl2]; rfl
          have hT : RowAt wr (cutAddr T 1 tc) (([fixLine 4]).map str) := by
            have h1 := (RowAt.of_own hown).cut (a := 1) (cap := tc) (by rw [List.length_map, List.length_map, ← hje]; exact (own_room3 hown).1)
            rw [hl2] at h1
            exact h1
          have hlc := (own_room3 HOWN1.out).1
          have htc := (own_room3 hown).1
          have hsl1 : ∀ W : World, (Instr.slice 74 (.slice (some ⟨gk, 0, none⟩) l.length lc) (some (.int .i64 1)) none none).run Tryz.prog W = .ok (.slice (some ⟨gk, 1, none⟩) 1 (lc - 1)) W := fun W => by
            have h1 := run_slice_ints W (some ⟨gk, 0, none⟩) l.length lc 1 (by omega)
            have h2 : cutAddr (some ⟨gk, 0, none⟩) 1 lc = some ⟨gk, 1, none⟩ := by unfold cutAddr; rw [if_neg (by omega)]; rfl
            rw [h2, hn2] at h1
            rw [hn2]; exact h1
          have hsl2 : ∀ W : World, (Instr.slice 27 (.slice T j tc) (some (.int .i64 1)) none none).run Tryz.prog W = .ok (.slice (cutAddr T 1 tc) 1 (tc - 1)) W := fun W => by
            have h1 := run_slice_texts W T j tc 1 (by omega)
            have h2 : j - 1 = 1 := by omega
            rw [h2] at h1
            exact h1
          have hlcell4 : ∀ W : World, OnlyIn [rb] w1 W → W.cell? ⟨gk, 1, none⟩ = some (.int .i64 4) := fun W hW => HLCELL.out W hW 1 4 (by rw [hl2]; rfl)
          have HL4 := Lib.hid hlcell4
          have hxr' := HXR.out
          rw [hl2] at hrr
          change r = (Sp.chooseV raw 0 [fixLine 4]).next _ at hrr
          generalize cutAddr T 1 tc = T2 at hT hsl2
          have HT := Lib.hid hT
          have l1 : (1 : Int) ≤ (l.length : Int) := by omega
          have l2 : (1 : Int) ≤ (lc : Int) := by omega
          have l3 : (1 : Int) ≤ (j : Int) := by omega
          have l4 : (1 : Int) ≤ (tc : Int) := by omega
          clear hown hbw hxr hor hcbr hje hT hlcell4 hl2 hn2 hxr' hlc htc
          go_upto_region 24 with fail
          go_region_held3 (fun _ => True) (trivial) (fail)
          go_upto_region 25 with fail
          have hch := fun W (hW : Below wr.heap.size wr W) => choose_any (tc := tc - 1) (ts := [fixLine 4]) (HXR.out.later hW) (T := T2) (HT.out.below hW) (by decide) (by decide)
          cases hcv : Sp.chooseV raw 0 [fixLine 4] with
          | more =>
            rw [hcv] at hrr hch
            have HQ := Lib.hid hch
            have HGQ := Lib.hid hrr
            clear hrr hch hcv
            go_wp2_with (go_at_call 112; refine (HQ.out _ (by exact (Below.refl _ _).drew)).mono ?_; rintro e wz ⟨hoz, rfl, _⟩; have HOZ := Lib.hid ((OnlyIn.of (Below.refl wr.heap.size wr).drew [rb]).rd hoz); clear hoz)
            refine ⟨rfl, ?_⟩
            rw [← HR.out, HGQ.out]
            exact ⟨HOR.out.rd HOZ.out, rfl⟩
          | fail =>
            rw [hcv] at hrr hch
            have HQ := Lib.hid hch
            have HGQ := Lib.hid hrr
            clear hrr hch hcv
            go_wp2_with (go_at_call 112; refine (HQ.out _ (by exact (Below.refl _ _).drew)).mono ?_; rintro e wz ⟨hoz, rfl, _⟩; have HOZ := Lib.hid ((OnlyIn.of (Below.refl wr.heap.size wr).drew [rb]).rd hoz); clear hoz)
            refine ⟨rfl, ?_⟩
            rw [← HR.out, HGQ.out]
            exact ⟨HOR.out.rd HOZ.out, rfl⟩
          | got i q =>
            obtain ⟨s0, hs0, _, _⟩ := Sp.choose_reads hcv
            rw [hcv] at hrr hch
            have hi0 : i = 0 := by have := (List.getElem?_eq_some_iff.1 hs0).1; simpa using this
            have hrr2 : r = Sp.RdV.got ({ kind := 4 } : Sp.AnswerV) q := by rw [hrr, hi0]; rfl
            have hil2 : (i : Int) < 1 := by omega
            have HI0 := Lib.hid hi0
            have HQ := Lib.hid hch
            have HGE := Lib.hid hrr2
            clear hrr hrr2 hch hcv hs0 hi0
            go_wp2_with (go_at_call 112; refine (HQ.out _ (by exact (Below.refl _ _).drew)).mono ?_; rintro e w2 ⟨ho, rfl, hx⟩; have hod := (OnlyIn.of (Below.refl wr.heap.size wr).drew [rb]).rd ho; have hkc : w2.cell? ⟨gk, 1 + i, none⟩ = some (.int .i64 4) := (by rw [HI0.out]; exact HL4.out w2 (HORW.out.rd hod)); have hcb := HCBR.out.same (hod.block _ HCBR.out.lt (by simp; omega)); have HCBE := Lib.hid hcb; have z0 := hcb.cell 0; have z1 := hcb.cell 1; have z2 := hcb.cell 2; have z3 := hcb.cell 3; have z4 := hcb.cell 4; have f0 := hcb.frozen 0; have f1 := hcb.frozen 1; have f2 := hcb.frozen 2; have f3 := hcb.frozen 3; have f4 := hcb.frozen 4; simp only [List.getElem?_toArray, List.getElem?_cons_zero, List.getElem?_cons_succ] at z0 z1 z2 z3 z4; have HO2 := Lib.hid (HOR.out.rd hod); have HX2 := Lib.hid hx; clear ho hx hcb hod)
            change bodyPost _ _ _ _ _ (ansPut w2 c0 { kind := 4 })
            refine bodyPost_ret (read_results (ansPut_blk HCBE.out _) _ rfl) rfl ?_
            rw [← HR.out, HGE.out]
            have hput := ansPut_only w2 c0 { kind := 4 }
            refine ⟨HO2.out.trans hput (by have := HC0.out; simp; omega), ⟨{ kind := 4 }, ?_, rfl, ?_⟩, HX2.out.only hput (by simpa using hrc)⟩
            · rfl
            · exact AnsOwn.bare _ _ rfl rfl rfl rfl rfl rfl
    | some c =>
      obtain ⟨gb, ob, hA, ybyte⟩ := hbyte c hc
      have hrp : 0 < rn := by rw [hrn]; exact (List.getElem?_eq_some_iff.1 hc).1
      have hrp2 : (0 : Int) < (rn : Int) := by omega
      have hnd : ¬ (48 ≤ c.toNat ∧ c.toNat ≤ 57) := fun e => hdg ⟨h7, by
        unfold Sp.digitAt
        rw [List.drop_zero, List.head?_eq_getElem?, hc]
        exact decide_eq_true (by rw [UInt8.le_iff_toNat_le, UInt8.le_iff_toNat_le]; exact e)⟩
      obtain ⟨cn, hcn⟩ : ∃ cn, cn = c.toNat := ⟨_, rfl⟩
      rw [← hcn] at ybyte hnd
      rw [hA] at x0
      have HA := Lib.hid hA
      clear hcn hc hbyte hA hrn
      by_cases hlow : 48 ≤ cn
      · have q1 : (48 : Int) ≤ (cn : Int) := by omega
        have q2 : decide ((cn : Int) ≤ 57) = false := decide_eq_false (by omega)
        have q3 : decide (cn ≤ 57) = false := decide_eq_false (by omega)
        clear hnd
        go_upto_region 17 with fail
        clear x0 ybyte
        go_wp2_with fail
        go_loopw [8, 10, 91] (fun tv _ iv wr => ∃ (j : Nat) (T : Option Addr) (tc : Nat), iv = .int .i64 j ∧ tv = .slice T j tc ∧ j ≤ l.length ∧ wr.ownsRow w1.heap.size 9 1 (.slice T j tc) j (((l.take j).map fixLine).map str) ∧ Below w1.heap.size w1 wr) (fun _ _ iv _ => l.length - (intOf iv).toNat)
        case atStart => exact ⟨0, none, 0, rfl, rfl, Nat.zero_le _, World.ownsRow_nil _ _ _ 1, Below.refl _ _⟩
        case round =>
          obtain ⟨j, T, tc, rfl, rfl, hj, hown, hbw⟩ := hrel
          have HOWN := Lib.hid hown
          have HBW := Lib.hid hbw
          by_cases hjl : j < l.length
          · obtain ⟨k, hk⟩ : ∃ k, l[j]? = some k := ⟨l[j], by simp [hjl]⟩
            have hkcell := HLCELL.out wr (OnlyIn.of hbw [rb]) j k hk
            have hfx := fun W : World => fixed_any k W
            have hfs := fixed_short k
            obtain ⟨zb, hzb⟩ : ∃ zb : ByteArray, zb = ({ data := (Sp.fixedV k).toArray } : ByteArray) ++ { data := #[13, 10] } := ⟨_, rfl⟩
            have hzs : zb = ⟨(fixLine k).toArray⟩ := by rw [hzb]; exact cat_fix _
            have hcat := hzb.symm
            have hnb : ¬ (9223372036854775807 < (Sp.fixedV k).length + 2) := by omega
            have hj1 : (j : Int) < (l.length : Int) := by omega
            have hwsz := hbw.size
            generalize Sp.fixedV k = fk at hfx hcat hnb hfs
            have HFX := Lib.hid hfx
            have HZS := Lib.hid hzs
            have HKJ := Lib.hid hk
            clear hfx hzb hzs hk hown hbw
            go_wp2_with (first
              | (go_at_call 50; refine (HFX.out _).mono ?_; rintro e w2 ⟨rfl, rfl⟩)
              | (at_builtin; refine wpList_append_put rfl (.tmp 95) (.tmp 99) _ rfl w1.heap.size 9 i1 _ 1 16 Tryz.underlying27 hi1 hv0 hv1 hv2 rfl (by decide) (.slice T j tc) j (((l.take j).map fixLine).map str) rfl (own_later HOWN.out ((Below.refl _ _).alloc (Nat.le_refl _) _)) ⟨wr.heap.size, 0, none⟩ 1 1 [.string zb] rfl rfl (cells_one wr _ _) ?_ ?_ ?_ ?_ ?_ ?_; (intro u hu; simp only [List.mem_cons, List.not_mem_nil, or_false] at hu; subst hu; rfl); decide; (unfold maxLen; omega); omega; (simp; omega); intro g8 cap8 w8 hown8 hg8 hat8; have HOWN8 := Lib.hid hown8; have HG8 := Lib.hid hg8; clear hown8 hg8 hat8))
            refine ⟨⟨j + 1, some ⟨g8, 0, none⟩, cap8, by go_num, rfl, by omega, ?_, ?_⟩, by show l.length - ((j : Int) + 1).toNat < l.length - (j : Int).toNat; omega⟩
            · rw [List.take_add_one, HKJ.out]
              show w8.ownsRow w1.heap.size _ _ _ _ (((l.take j ++ [k]).map fixLine).map str)
              rw [List.map_append, List.map_append, List.map_singleton, List.map_singleton, show str (fixLine k) = Value.string zb by rw [HZS.out]]
              exact HOWN8.out
            · have h1 : Below w1.heap.size w1 (wr.alloc (.cells #[.string zb] 9)) := HBW.out.alloc hwsz _
              exact h1.grown HG8.out h1.size (fun k hk => ((own_later HOWN.out ((Below.refl _ _).alloc (Nat.le_refl _) (.cells #[.string zb] 9))).lt k hk).1)
          · have hje : j = l.length := by omega
            have i1' : decide ((j : Int) < (l.length : Int)) = false := decide_eq_false (by omega)
            have i2' : decide (j < l.length) = false := decide_eq_false hjl
            rw [List.take_of_length_le (by omega)] at hown
            have hxr := HX1.out.later hbw
            have hor := OnlyIn.of hbw [rb]
            have hcbr := HCB1.out.later hbw
            have hk0r := HLCELL.out wr hor 0 k0 HL0.out
            have HOR := Lib.hid (HO1.out.rd hor)
            have HORW := Lib.hid hor
            have HCBR := Lib.hid hcbr
            have HXR := Lib.hid hxr
            clear HOWN HBW hjl
            have hl2 := HLC.out h7
            have hn2 : l.length = 2 := by rw [hl2]; rfl
            have hT : RowAt wr (cutAddr T 1 tc) (([fixLine 4]).map str) := by
              have h1 := (RowAt.of_own hown).cut (a := 1) (cap := tc) (by rw [List.length_map, List.length_map, ← hje]; exact (own_room3 hown).1)
              rw [hl2] at h1
              exact h1
            have hlc := (own_room3 HOWN1.out).1
            have htc := (own_room3 hown).1
            have hsl1 : ∀ W : World, (Instr.slice 74 (.slice (some ⟨gk, 0, none⟩) l.length lc) (some (.int .i64 1)) none none).run Tryz.prog W = .ok (.slice (some ⟨gk, 1, none⟩) 1 (lc - 1)) W := fun W => by
              have h1 := run_slice_ints W (some ⟨gk, 0, none⟩) l.length lc 1 (by omega)
              have h2 : cutAddr (some ⟨gk, 0, none⟩) 1 lc = some ⟨gk, 1, none⟩ := by unfold cutAddr; rw [if_neg (by omega)]; rfl
              rw [h2, hn2] at h1
              rw [hn2]; exact h1
            have hsl2 : ∀ W : World, (Instr.slice 27 (.slice T j tc) (some (.int .i64 1)) none none).run Tryz.prog W = .ok (.slice (cutAddr T 1 tc) 1 (tc - 1)) W := fun W => by
              have h1 := run_slice_texts W T j tc 1 (by omega)
              have h2 : j - 1 = 1 := by omega
              rw [h2] at h1
              exact h1
            have hlcell4 : ∀ W : World, OnlyIn [rb] w1 W → W.cell? ⟨gk, 1, none⟩ = some (.int .i64 4) := fun W hW => HLCELL.out W hW 1 4 (by rw [hl2]; rfl)
            have HL4 := Lib.hid hlcell4
            have hxr' := HXR.out
            rw [hl2] at hrr
            change r = (Sp.chooseV raw 0 [fixLine 4]).next _ at hrr
            generalize cutAddr T 1 tc = T2 at hT hsl2
            have HT := Lib.hid hT
            have l1 : (1 : Int) ≤ (l.length : Int) := by omega
            have l2 : (1 : Int) ≤ (lc : Int) := by omega
            have l3 : (1 : Int) ≤ (j : Int) := by omega
            have l4 : (1 : Int) ≤ (tc : Int) := by omega
            clear hown hbw hxr hor hcbr hje hT hlcell4 hl2 hn2 hxr' hlc htc
            go_upto_region 24 with fail
            go_region_held3 (fun _ => True) (trivial) (fail)
            go_upto_region 25 with fail
            have hch := fun W (hW : Below wr.heap.size wr W) => choose_any (tc := tc - 1) (ts := [fixLine 4]) (HXR.out.later hW) (T := T2) (HT.out.below hW) (by decide) (by decide)
            cases hcv : Sp.chooseV raw 0 [fixLine 4] with
            | more =>
              rw [hcv] at hrr hch
              have HQ := Lib.hid hch
              have HGQ := Lib.hid hrr
              clear hrr hch hcv
              go_wp2_with (go_at_call 112; refine (HQ.out _ (by exact (Below.refl _ _).drew)).mono ?_; rintro e wz ⟨hoz, rfl, _⟩; have HOZ := Lib.hid ((OnlyIn.of (Below.refl wr.heap.size wr).drew [rb]).rd hoz); clear hoz)
              refine ⟨rfl, ?_⟩
              rw [← HR.out, HGQ.out]
              exact ⟨HOR.out.rd HOZ.out, rfl⟩
            | fail =>
              rw [hcv] at hrr hch
              have HQ := Lib.hid hch
              have HGQ := Lib.hid hrr
              clear hrr hch hcv
              go_wp2_with (go_at_call 112; refine (HQ.out _ (by exact (Below.refl _ _).drew)).mono ?_; rintro e wz ⟨hoz, rfl, _⟩; have HOZ := Lib.hid ((OnlyIn.of (Below.refl wr.heap.size wr).drew [rb]).rd hoz); clear hoz)
              refine ⟨rfl, ?_⟩
              rw [← HR.out, HGQ.out]
              exact ⟨HOR.out.rd HOZ.out, rfl⟩
            | got i q =>
              obtain ⟨s0, hs0, _, _⟩ := Sp.choose_reads hcv
              rw [hcv] at hrr hch
              have hi0 : i = 0 := by have := (List.getElem?_eq_some_iff.1 hs0).1; simpa using this
              have hrr2 : r = Sp.RdV.got ({ kind := 4 } : Sp.AnswerV) q := by rw [hrr, hi0]; rfl
              have hil2 : (i : Int) < 1 := by omega
              have HI0 := Lib.hid hi0
              have HQ := Lib.hid hch
              have HGE := Lib.hid hrr2
              clear hrr hrr2 hch hcv hs0 hi0
              go_wp2_with (go_at_call 112; refine (HQ.out _ (by exact (Below.refl _ _).drew)).mono ?_; rintro e w2 ⟨ho, rfl, hx⟩; have hod := (OnlyIn.of (Below.refl wr.heap.size wr).drew [rb]).rd ho; have hkc : w2.cell? ⟨gk, 1 + i, none⟩ = some (.int .i64 4) := (by rw [HI0.out]; exact HL4.out w2 (HORW.out.rd hod)); have hcb := HCBR.out.same (hod.block _ HCBR.out.lt (by simp; omega)); have HCBE := Lib.hid hcb; have z0 := hcb.cell 0; have z1 := hcb.cell 1; have z2 := hcb.cell 2; have z3 := hcb.cell 3; have z4 := hcb.cell 4; have f0 := hcb.frozen 0; have f1 := hcb.frozen 1; have f2 := hcb.frozen 2; have f3 := hcb.frozen 3; have f4 := hcb.frozen 4; simp only [List.getElem?_toArray, List.getElem?_cons_zero, List.getElem?_cons_succ] at z0 z1 z2 z3 z4; have HO2 := Lib.hid (HOR.out.rd hod); have HX2 := Lib.hid hx; clear ho hx hcb hod)
              change bodyPost _ _ _ _ _ (ansPut w2 c0 { kind := 4 })
              refine bodyPost_ret (read_results (ansPut_blk HCBE.out _) _ rfl) rfl ?_
              rw [← HR.out, HGE.out]
              have hput := ansPut_only w2 c0 { kind := 4 }
              refine ⟨HO2.out.trans hput (by have := HC0.out; simp; omega), ⟨{ kind := 4 }, ?_, rfl, ?_⟩, HX2.out.only hput (by simpa using hrc)⟩
              · rfl
              · exact AnsOwn.bare _ _ rfl rfl rfl rfl rfl rfl
      · have q1 : decide ((48 : Int) ≤ (cn : Int)) = false := decide_eq_false (by omega)
        have q2 : decide (48 ≤ cn) = false := decide_eq_false (by omega)
        clear hnd
        go_upto_region 17 with fail
        clear x0 ybyte
        go_wp2_with fail
        go_loopw [8, 10, 91] (fun tv _ iv wr => ∃ (j : Nat) (T : Option Addr) (tc : Nat), iv = .int .i64 j ∧ tv = .slice T j tc ∧ j ≤ l.length ∧ wr.ownsRow w1.heap.size 9 1 (.slice T j tc) j (((l.take j).map fixLine).map str) ∧ Below w1.heap.size w1 wr) (fun _ _ iv _ => l.length - (intOf iv).toNat)
        case atStart => exact ⟨0, none, 0, rfl, rfl, Nat.zero_le _, World.ownsRow_nil _ _ _ 1, Below.refl _ _⟩
        case round =>
          obtain ⟨j, T, tc, rfl, rfl, hj, hown, hbw⟩ := hrel
          have HOWN := Lib.hid hown
          have HBW := Lib.hid hbw
          by_cases hjl : j < l.length
          · obtain ⟨k, hk⟩ : ∃ k, l[j]? = some k := ⟨l[j], by simp [hjl]⟩
            have hkcell := HLCELL.out wr (OnlyIn.of hbw [rb]) j k hk
            have hfx := fun W : World => fixed_any k W
            have hfs := fixed_short k
            obtain ⟨zb, hzb⟩ : ∃ zb : ByteArray, zb = ({ data := (Sp.fixedV k).toArray } : ByteArray) ++ { data := #[13, 10] } := ⟨_, rfl⟩
            have hzs : zb = ⟨(fixLine k).toArray⟩ := by rw [hzb]; exact cat_fix _
            have hcat := hzb.symm
            have hnb : ¬ (9223372036854775807 < (Sp.fixedV k).length + 2) := by omega
            have hj1 : (j : Int) < (l.length : Int) := by omega
            have hwsz := hbw.size
            generalize Sp.fixedV k = fk at hfx hcat hnb hfs
            have HFX := Lib.hid hfx
            have HZS := Lib.hid hzs
            have HKJ := Lib.hid hk
            clear hfx hzb hzs hk hown hbw
            go_wp2_with (first
              | (go_at_call 50; refine (HFX.out _).mono ?_; rintro e w2 ⟨rfl, rfl⟩)
              | (at_builtin; refine wpList_append_put rfl (.tmp 95) (.tmp 99) _ rfl w1.heap.size 9 i1 _ 1 16 Tryz.underlying27 hi1 hv0 hv1 hv2 rfl (by decide) (.slice T j tc) j (((l.take j).map fixLine).map str) rfl (own_later HOWN.out ((Below.refl _ _).alloc (Nat.le_refl _) _)) ⟨wr.heap.size, 0, none⟩ 1 1 [.string zb] rfl rfl (cells_one wr _ _) ?_ ?_ ?_ ?_ ?_ ?_; (intro u hu; simp only [List.mem_cons, List.not_mem_nil, or_false] at hu; subst hu; rfl); decide; (unfold maxLen; omega); omega; (simp; omega); intro g8 cap8 w8 hown8 hg8 hat8; have HOWN8 := Lib.hid hown8; have HG8 := Lib.hid hg8; clear hown8 hg8 hat8))
            refine ⟨⟨j + 1, some ⟨g8, 0, none⟩, cap8, by go_num, rfl, by omega, ?_, ?_⟩, by show l.length - ((j : Int) + 1).toNat < l.length - (j : Int).toNat; omega⟩
            · rw [List.take_add_one, HKJ.out]
              show w8.ownsRow w1.heap.size _ _ _ _ (((l.take j ++ [k]).map fixLine).map str)
              rw [List.map_append, List.map_append, List.map_singleton, List.map_singleton, show str (fixLine k) = Value.string zb by rw [HZS.out]]
              exact HOWN8.out
            · have h1 : Below w1.heap.size w1 (wr.alloc (.cells #[.string zb] 9)) := HBW.out.alloc hwsz _
              exact h1.grown HG8.out h1.size (fun k hk => ((own_later HOWN.out ((Below.refl _ _).alloc (Nat.le_refl _) (.cells #[.string zb] 9))).lt k hk).1)
          · have hje : j = l.length := by omega
            have i1' : decide ((j : Int) < (l.length : Int)) = false := decide_eq_false (by omega)
            have i2' : decide (j < l.length) = false := decide_eq_false hjl
            rw [List.take_of_length_le (by omega)] at hown
            have hxr := HX1.out.later hbw
            have hor := OnlyIn.of hbw [rb]
            have hcbr := HCB1.out.later hbw
            have hk0r := HLCELL.out wr hor 0 k0 HL0.out
            have HOR := Lib.hid (HO1.out.rd hor)
            have HORW := Lib.hid hor
            have HCBR := Lib.hid hcbr
            have HXR := Lib.hid hxr
            clear HOWN HBW hjl
            have hl2 := HLC.out h7
            have hn2 : l.length = 2 := by rw [hl2]; rfl
            have hT : RowAt wr (cutAddr T 1 tc) (([fixLine 4]).map str) := by
              have h1 := (RowAt.of_own hown).cut (a := 1) (cap := tc) (by rw [List.length_map, List.length_map, ← hje]; exact (own_room3 hown).1)
              rw [hl2] at h1
              exact h1
            have hlc := (own_room3 HOWN1.out).1
            have htc := (own_room3 hown).1
            have hsl1 : ∀ W : World, (Instr.slice 74 (.slice (some ⟨gk, 0, none⟩) l.length lc) (some (.int .i64 1)) none none).run Tryz.prog W = .ok (.slice (some ⟨gk, 1, none⟩) 1 (lc - 1)) W := fun W => by
              have h1 := run_slice_ints W (some ⟨gk, 0, none⟩) l.length lc 1 (by omega)
              have h2 : cutAddr (some ⟨gk, 0, none⟩) 1 lc = some ⟨gk, 1, none⟩ := by unfold cutAddr; rw [if_neg (by omega)]; rfl
              rw [h2, hn2] at h1
              rw [hn2]; exact h1
            have hsl2 : ∀ W : World, (Instr.slice 27 (.slice T j tc) (some (.int .i64 1)) none none).run Tryz.prog W = .ok (.slice (cutAddr T 1 tc) 1 (tc - 1)) W := fun W => by
              have h1 := run_slice_texts W T j tc 1 (by omega)
              have h2 : j - 1 = 1 := by omega
              rw [h2] at h1
              exact h1
            have hlcell4 : ∀ W : World, OnlyIn [rb] w1 W → W.cell? ⟨gk, 1, none⟩ = some (.int .i64 4) := fun W hW => HLCELL.out W hW 1 4 (by rw [hl2]; rfl)
            have HL4 := Lib.hid hlcell4
            have hxr' := HXR.out
            rw [hl2] at hrr
            change r = (Sp.chooseV raw 0 [fixLine 4]).next _ at hrr
            generalize cutAddr T 1 tc = T2 at hT hsl2
            have HT := Lib.hid hT
            have l1 : (1 : Int) ≤ (l.length : Int) := by omega
            have l2 : (1 : Int) ≤ (lc : Int) := by omega
            have l3 : (1 : Int) ≤ (j : Int) := by omega
            have l4 : (1 : Int) ≤ (tc : Int) := by omega
            clear hown hbw hxr hor hcbr hje hT hlcell4 hl2 hn2 hxr' hlc htc
            go_upto_region 24 with fail
            go_region_held3 (fun _ => True) (trivial) (fail)
            go_upto_region 25 with fail
            have hch := fun W (hW : Below wr.heap.size wr W) => choose_any (tc := tc - 1) (ts := [fixLine 4]) (HXR.out.later hW) (T := T2) (HT.out.below hW) (by decide) (by decide)
            cases hcv : Sp.chooseV raw 0 [fixLine 4] with
            | more =>
              rw [hcv] at hrr hch
              have HQ := Lib.hid hch
              have HGQ := Lib.hid hrr
              clear hrr hch hcv
              go_wp2_with (go_at_call 112; refine (HQ.out _ (by exact (Below.refl _ _).drew)).mono ?_; rintro e wz ⟨hoz, rfl, _⟩; have HOZ := Lib.hid ((OnlyIn.of (Below.refl wr.heap.size wr).drew [rb]).rd hoz); clear hoz)
              refine ⟨rfl, ?_⟩
              rw [← HR.out, HGQ.out]
              exact ⟨HOR.out.rd HOZ.out, rfl⟩
            | fail =>
              rw [hcv] at hrr hch
              have HQ := Lib.hid hch
              have HGQ := Lib.hid hrr
              clear hrr hch hcv
              go_wp2_with (go_at_call 112; refine (HQ.out _ (by exact (Below.refl _ _).drew)).mono ?_; rintro e wz ⟨hoz, rfl, _⟩; have HOZ := Lib.hid ((OnlyIn.of (Below.refl wr.heap.size wr).drew [rb]).rd hoz); clear hoz)
              refine ⟨rfl, ?_⟩
              rw [← HR.out, HGQ.out]
              exact ⟨HOR.out.rd HOZ.out, rfl⟩
            | got i q =>
              obtain ⟨s0, hs0, _, _⟩ := Sp.choose_reads hcv
              rw [hcv] at hrr hch
              have hi0 : i = 0 := by have := (List.getElem?_eq_some_iff.1 hs0).1; simpa using this
              have hrr2 : r = Sp.RdV.got ({ kind := 4 } : Sp.AnswerV) q := by rw [hrr, hi0]; rfl
              have hil2 : (i : Int) < 1 := by omega
              have HI0 := Lib.hid hi0
              have HQ := Lib.hid hch
              have HGE := Lib.hid hrr2
              clear hrr hrr2 hch hcv hs0 hi0
              go_wp2_with (go_at_call 112; refine (HQ.out _ (by exact (Below.refl _ _).drew)).mono ?_; rintro e w2 ⟨ho, rfl, hx⟩; have hod := (OnlyIn.of (Below.refl wr.heap.size wr).drew [rb]).rd ho; have hkc : w2.cell? ⟨gk, 1 + i, none⟩ = some (.int .i64 4) := (by rw [HI0.out]; exact HL4.out w2 (HORW.out.rd hod)); have hcb := HCBR.out.same (hod.block _ HCBR.out.lt (by simp; omega)); have HCBE := Lib.hid hcb; have z0 := hcb.cell 0; have z1 := hcb.cell 1; have z2 := hcb.cell 2; have z3 := hcb.cell 3; have z4 := hcb.cell 4; have f0 := hcb.frozen 0; have f1 := hcb.frozen 1; have f2 := hcb.frozen 2; have f3 := hcb.frozen 3; have f4 := hcb.frozen 4; simp only [List.getElem?_toArray, List.getElem?_cons_zero, List.getElem?_cons_succ] at z0 z1 z2 z3 z4; have HO2 := Lib.hid (HOR.out.rd hod); have HX2 := Lib.hid hx; clear ho hx hcb hod)
              change bodyPost _ _ _ _ _ (ansPut w2 c0 { kind := 4 })
              refine bodyPost_ret (read_results (ansPut_blk HCBE.out _) _ rfl) rfl ?_
              rw [← HR.out, HGE.out]
              have hput := ansPut_only w2 c0 { kind := 4 }
              refine ⟨HO2.out.trans hput (by have := HC0.out; simp; omega), ⟨{ kind := 4 }, ?_, rfl, ?_⟩, HX2.out.only hput (by simpa using hrc)⟩
              · rfl
              · exact AnsOwn.bare _ _ rfl rfl rfl rfl rfl rfl
  · rw [if_neg h7] at hrr
    have g7 : (k0 == 7) = false := by simpa using h7
    clear hbyte hrn x0
    go_upto_region 17 with fail
    go_wp2_with fail
    go_loopw [8, 10, 91] (fun tv _ iv wr => ∃ (j : Nat) (T : Option Addr) (tc : Nat), iv = .int .i64 j ∧ tv = .slice T j tc ∧ j ≤ l.length ∧ wr.ownsRow w1.heap.size 9 1 (.slice T j tc) j (((l.take j).map fixLine).map str) ∧ Below w1.heap.size w1 wr) (fun _ _ iv _ => l.length - (intOf iv).toNat)
    case atStart => exact ⟨0, none, 0, rfl, rfl, Nat.zero_le _, World.ownsRow_nil _ _ _ 1, Below.refl _ _⟩
    case round =>
      obtain ⟨j, T, tc, rfl, rfl, hj, hown, hbw⟩ := hrel
      have HOWN := Lib.hid hown
      have HBW := Lib.hid hbw
      by_cases hjl : j < l.length
      · obtain ⟨k, hk⟩ : ∃ k, l[j]? = some k := ⟨l[j], by simp [hjl]⟩
        have hkcell := HLCELL.out wr (OnlyIn.of hbw [rb]) j k hk
        have hfx := fun W : World => fixed_any k W
        have hfs := fixed_short k
        obtain ⟨zb, hzb⟩ : ∃ zb : ByteArray, zb = ({ data := (Sp.fixedV k).toArray } : ByteArray) ++ { data := #[13, 10] } := ⟨_, rfl⟩
        have hzs : zb = ⟨(fixLine k).toArray⟩ := by rw [hzb]; exact cat_fix _
        have hcat := hzb.symm
        have hnb : ¬ (9223372036854775807 < (Sp.fixedV k).length + 2) := by omega
        have hj1 : (j : Int) < (l.length : Int) := by omega
        have hwsz := hbw.size
        generalize Sp.fixedV k = fk at hfx hcat hnb hfs
        have HFX := Lib.hid hfx
        have HZS := Lib.hid hzs
        have HKJ := Lib.hid hk
        clear hfx hzb hzs hk hown hbw
        go_wp2_with (first
          | (go_at_call 50; refine (HFX.out _).mono ?_; rintro e w2 ⟨rfl, rfl⟩)
          | (at_builtin; refine wpList_append_put rfl (.tmp 95) (.tmp 99) _ rfl w1.heap.size 9 i1 _ 1 16 Tryz.underlying27 hi1 hv0 hv1 hv2 rfl (by decide) (.slice T j tc) j (((l.take j).map fixLine).map str) rfl (own_later HOWN.out ((Below.refl _ _).alloc (Nat.le_refl _) _)) ⟨wr.heap.size, 0, none⟩ 1 1 [.string zb] rfl rfl (cells_one wr _ _) ?_ ?_ ?_ ?_ ?_ ?_; (intro u hu; simp only [List.mem_cons, List.not_mem_nil, or_false] at hu; subst hu; rfl); decide; (unfold maxLen; omega); omega; (simp; omega); intro g8 cap8 w8 hown8 hg8 hat8; have HOWN8 := Lib.hid hown8; have HG8 := Lib.hid hg8; clear hown8 hg8 hat8))
        refine ⟨⟨j + 1, some ⟨g8, 0, none⟩, cap8, by go_num, rfl, by omega, ?_, ?_⟩, by show l.length - ((j : Int) + 1).toNat < l.length - (j : Int).toNat; omega⟩
        · rw [List.take_add_one, HKJ.out]
          show w8.ownsRow w1.heap.size _ _ _ _ (((l.take j ++ [k]).map fixLine).map str)
          rw [List.map_append, List.map_append, List.map_singleton, List.map_singleton, show str (fixLine k) = Value.string zb by rw [HZS.out]]
          exact HOWN8.out
        · have h1 : Below w1.heap.size w1 (wr.alloc (.cells #[.string zb] 9)) := HBW.out.alloc hwsz _
          exact h1.grown HG8.out h1.size (fun k hk => ((own_later HOWN.out ((Below.refl _ _).alloc (Nat.le_refl _) (.cells #[.string zb] 9))).lt k hk).1)
      · have hje : j = l.length := by omega
        have i1' : decide ((j : Int) < (l.length : Int)) = false := decide_eq_false (by omega)
        have i2' : decide (j < l.length) = false := decide_eq_false hjl
        rw [List.take_of_length_le (by omega)] at hown
        have hxr := HX1.out.later hbw
        have hor := OnlyIn.of hbw [rb]
        have hcbr := HCB1.out.later hbw
        have hk0r := HLCELL.out wr hor 0 k0 HL0.out
        have HOR := Lib.hid (HO1.out.rd hor)
        have HORW := Lib.hid hor
        have HCBR := Lib.hid hcbr
        have HXR := Lib.hid hxr
        clear HOWN HBW hjl
        have hch := choose_any (tc := tc) (ts := l.map fixLine) hxr (T := T) (RowAt.of_own hown) (by rw [List.length_map]; omega) (by
          intro s hs
          obtain ⟨k, _, rfl⟩ := List.mem_map.1 hs
          have := fixed_short k
          unfold fixLine
          rw [List.length_append]; simp [Sp.crlf]; omega)
        rw [List.length_map, ← hje] at hch
        change r = (Sp.chooseV raw 0 (l.map fixLine)).next _ at hrr
        clear hown hbw hxr hor hcbr hje
        go_upto_region 25 with fail
        cases hcv : Sp.chooseV raw 0 (l.map fixLine) with
        | more =>
          rw [hcv] at hrr hch
          have HQ := Lib.hid hch
          have HGQ := Lib.hid hrr
          clear hrr hch hcv
          go_wp2_with (go_at_call 112; refine HQ.out.mono ?_; rintro e wz ⟨hoz, rfl, _⟩; have HOZ := Lib.hid hoz; clear hoz)
          refine ⟨rfl, ?_⟩
          rw [← HR.out, HGQ.out]
          exact ⟨HOR.out.rd HOZ.out, rfl⟩
        | fail =>
          rw [hcv] at hrr hch
          have HQ := Lib.hid hch
          have HGQ := Lib.hid hrr
          clear hrr hch hcv
          go_wp2_with (go_at_call 112; refine HQ.out.mono ?_; rintro e wz ⟨hoz, rfl, _⟩; have HOZ := Lib.hid hoz; clear hoz)
          refine ⟨rfl, ?_⟩
          rw [← HR.out, HGQ.out]
          exact ⟨HOR.out.rd HOZ.out, rfl⟩
        | got i q =>
          obtain ⟨s0, hs0, _, _⟩ := Sp.choose_reads hcv
          rw [hcv] at hrr hch
          have hil : i < l.length := by have := (List.getElem?_eq_some_iff.1 hs0).1; rwa [List.length_map] at this
          obtain ⟨ki, hki⟩ : ∃ k, l[i]? = some k := ⟨l[i], List.getElem?_eq_getElem hil⟩
          have hgd : l.getD i 0 = ki := by rw [List.getD_eq_getElem?_getD, hki]; rfl
          change r = Sp.RdV.got ({ kind := l.getD i 0 } : Sp.AnswerV) q at hrr
          rw [hgd] at hrr
          have hil2 : (i : Int) < (l.length : Int) := by omega
          have HKI := Lib.hid hki
          have HQ := Lib.hid hch
          have HGE := Lib.hid hrr
          clear hrr hch hcv hs0 hki hgd
          go_wp2_with (go_at_call 112; refine HQ.out.mono ?_; rintro e w2 ⟨ho, rfl, hx⟩; have hkc := HLCELL.out w2 (HORW.out.rd ho) i ki HKI.out; have hcb := HCBR.out.same (ho.block _ HCBR.out.lt (by simp; omega)); have HCBE := Lib.hid hcb; have z0 := hcb.cell 0; have z1 := hcb.cell 1; have z2 := hcb.cell 2; have z3 := hcb.cell 3; have z4 := hcb.cell 4; have f0 := hcb.frozen 0; have f1 := hcb.frozen 1; have f2 := hcb.frozen 2; have f3 := hcb.frozen 3; have f4 := hcb.frozen 4; simp only [List.getElem?_toArray, List.getElem?_cons_zero, List.getElem?_cons_succ] at z0 z1 z2 z3 z4; have HO2 := Lib.hid (HOR.out.rd ho); have HX2 := Lib.hid hx; clear ho hx hcb)
          change bodyPost _ _ _ _ _ (ansPut w2 c0 { kind := ki })
          refine bodyPost_ret (read_results (ansPut_blk HCBE.out _) _ rfl) rfl ?_
          rw [← HR.out, HGE.out]
          have hput := ansPut_only w2 c0 { kind := ki }
          refine ⟨HO2.out.trans hput (by have := HC0.out; simp; omega), ⟨{ kind := ki }, ?_, rfl, ?_⟩, HX2.out.only hput (by simpa using hrc)⟩
          · rfl
          · exact AnsOwn.bare _ _ rfl rfl rfl rfl rfl rfl
end Go.Proofs.YtnbeeehfapjpdaaGreatDoor
