/- Walks of package reply: Read's first way; the deferred function of try. Walks of package reply: try, in its two ways. Printed by gen/genVo.py. -/
import Derived.Test.YtnbeeehfapjpdaaGreatDoorVm
import Derived.Test.YtnbeeehfapjpdaaGreatDoorQG1
import Derived.Defers
import Derived.Recover
section
namespace Go.Proofs.YtnbeeehfapjpdaaGreatDoor
attribute [local go_sem ↓] Go.wp_at_zero Go.wp_at_succ
open Go.RowKit

theorem way_results {W : World} {b : Nat} {x : AnsX} (h : Blk W b 36 x.cells) (tm : Array Value) (t3 : tm[3]?.getD undef = .pointer (some ⟨b, 0, none⟩)) : (results Tryz.f65 tm).run Tryz.prog W = .ok x.val W := by
  have z0 := h.cell 0
  have z1 := h.cell 1
  have z2 := h.cell 2
  have z3 := h.cell 3
  have z4 := h.cell 4
  change _ = some _ at z0 z1 z2 z3 z4
  clear h
  simp [results, Tryz.results65, go_sem, t3, z0, z1, z2, z3, z4]
set_option maxHeartbeats 8000000 in
set_option maxRecDepth 100000 in
theorem way_any {w : World} {rb : Nat} {A : Option Addr} {cap : Nat} {raw : Sp.Bs} (h : RdAt w rb A cap raw 0) {bx : Nat}
    {v : Int} {K : Option Addr} {keys : List Sp.Bs} {kc : Nat} {fl ex tk dl : Int} {D : Option Addr} {dn dc : Nat} {nr lg : Bool} {M : Option Addr} {mn mc : Nat} {what : Sp.Bs}
    (hbx : Blk w bx 32 #[.int .i64 v, .slice K keys.length kc, .int .u64 fl, .int .i64 ex, .int .u64 tk, .int .u64 dl, .slice D dn dc, .bool nr, .bool lg, .slice M mn mc, str what])
    (hK : RowAt w K (keys.map str)) (hkc : keys.length ≤ kc) (hKb : keys ≠ [] → ∀ a, K = some a → a.block ≠ rb) (hKo : keys ≠ [] → ∀ a, K = some a → a.block < w.heap.size) (hks : keys.length ≤ 4000000 ∧ ∀ k ∈ keys, k.length ≤ 140737488355328) (hne : Sp.kindsV v what ≠ []) :
    Calls Tryz.prog 65 #[.pointer (some ⟨rb, 0, none⟩), .pointer (some ⟨bx, 0, none⟩)] w (ReadsTo w rb A cap raw (AnsK w.heap.size) (Sp.readR raw v keys what 0)) := by
  generalize hR : ReadsTo w rb A cap raw (AnsK w.heap.size) (Sp.readR raw v keys what 0) = R
  have hlt := h.lt
  have hal : Below w.heap.size w (w.alloc (.cells #[.int .i64 0, .slice none 0 0, .int .u64 0, .string ⟨#[]⟩, .slice none 0 0] 36)) := (Below.refl _ _).alloc (Nat.le_refl _) _
  have hcb : Blk (w.alloc (.cells #[.int .i64 0, .slice none 0 0, .int .u64 0, .string ⟨#[]⟩, .slice none 0 0] 36)) w.heap.size 36 #[.int .i64 0, .slice none 0 0, .int .u64 0, .string ⟨#[]⟩, .slice none 0 0] := Blk.new w _ _
  obtain ⟨W1, hW1⟩ : ∃ W1, W1 = w.alloc (.cells #[.int .i64 0, .slice none 0 0, .int .u64 0, .string ⟨#[]⟩, .slice none 0 0] 36) := ⟨_, rfl⟩
  rw [← hW1] at hal hcb
  have hrd := readR_any (h.later hal) v fl ex tk dl D dn dc nr lg M mn mc what (hK.below hal) hkc hKb (fun hk a ha => Nat.lt_of_lt_of_le (hKo hk a ha) hal.size) hks hne
  have hb1 := hbx.later hal
  have y0 := hb1.cell 0
  have y1 := hb1.cell 1
  have y2 := hb1.cell 2
  have y3 := hb1.cell 3
  have y4 := hb1.cell 4
  have y5 := hb1.cell 5
  have y6 := hb1.cell 6
  have y7 := hb1.cell 7
  have y8 := hb1.cell 8
  have y9 := hb1.cell 9
  have y10 := hb1.cell 10
  simp only [List.getElem?_toArray, List.getElem?_cons_zero, List.getElem?_cons_succ] at y0 y1 y2 y3 y4 y5 y6 y7 y8 y9 y10
  obtain ⟨c0, hc0⟩ : ∃ c0, c0 = w.heap.size := ⟨_, rfl⟩
  have HR := Lib.hid hR
  have HAL := Lib.hid hal
  have HCB := Lib.hid hcb
  have HW1 := Lib.hid hW1
  have hrr : ∃ r, r = Sp.readR raw v keys what 0 := ⟨_, rfl⟩
  clear hR h hal hcb hW1 hK hKb hKo hks hne hb1 hbx
  cases hcv : Sp.readR raw v keys what 0 with
  | more =>
    rw [hcv] at hrd HR
    have HRD := Lib.hid hrd
    clear hrd hrr hcv hc0
    go_enter Tryz.func65, Tryz.ntmps65
    go_upto_region 1 with fail
    rw [← HW1.out]
    go_wp2_with (go_at_call 66; refine HRD.out.mono ?_; rintro e wz ⟨hoz, rfl⟩; have HOZ := Lib.hid hoz; clear hoz)
    refine ⟨rfl, ?_⟩
    rw [← HR.out]
    exact ⟨(OnlyIn.of HAL.out [rb]).rd HOZ.out, rfl⟩
  | fail =>
    rw [hcv] at hrd HR
    have HRD := Lib.hid hrd
    clear hrd hrr hcv hc0
    go_enter Tryz.func65, Tryz.ntmps65
    go_upto_region 1 with fail
    rw [← HW1.out]
    go_wp2_with (go_at_call 66; refine HRD.out.mono ?_; rintro e wz ⟨hoz, rfl⟩; have HOZ := Lib.hid hoz; clear hoz)
    refine ⟨rfl, ?_⟩
    rw [← HR.out]
    exact ⟨(OnlyIn.of HAL.out [rb]).rd HOZ.out, rfl⟩
  | got a q =>
    rw [hcv] at hrd HR
    have HRD := Lib.hid hrd
    have HC0 := Lib.hid hc0
    rw [← hc0] at HCB
    clear hrd hrr hcv
    go_enter Tryz.func65, Tryz.ntmps65
    go_upto_region 1 with fail
    rw [← HW1.out, ← HC0.out]
    clear hc0
    go_wp2_with (go_at_call 66; refine HRD.out.mono ?_; rintro e w2 ⟨ho, ⟨X, hXv, rfl, hown⟩, hx⟩; have hcb := HCB.out.same (ho.block _ HCB.out.lt (by have := HC0.out; simp; omega)); have HCBE := Lib.hid hcb; have z0 := hcb.cell 0; have z1 := hcb.cell 1; have z2 := hcb.cell 2; have z3 := hcb.cell 3; have z4 := hcb.cell 4; have f0 := hcb.frozen 0; have f1 := hcb.frozen 1; have f2 := hcb.frozen 2; have f3 := hcb.frozen 3; have f4 := hcb.frozen 4; simp only [List.getElem?_toArray, List.getElem?_cons_zero, List.getElem?_cons_succ] at z0 z1 z2 z3 z4; have HXV := Lib.hid hXv; have HOWN := Lib.hid (hown.base HAL.out.size); have HO := Lib.hid ((OnlyIn.of HAL.out [rb]).rd ho); have HX := Lib.hid hx; clear ho hx hcb hown hXv)
    change bodyPost _ _ _ _ _ (ansPut w2 c0 X)
    refine bodyPost_ret (way_results (ansPut_blk HCBE.out _) _ rfl) rfl ?_
    rw [← HR.out]
    have hput := ansPut_only w2 c0 X
    exact ⟨HO.out.trans hput (by have := HC0.out; simp; omega), ⟨X, HXV.out, rfl, HOWN.out.far HCBE.out hput⟩, HX.out.only hput (by have := HC0.out; simp; omega)⟩

theorem tmps_12 (a b c x : Value) : (#[a, b, c] ++ (Array.replicate 12 undef).setIfInBounds 3 x : Array Value) = #[a, b, c, undef, undef, undef, x, undef, undef, undef, undef, undef, undef, undef, undef] := by kernel_rfl
theorem run_assert_stop (v : Value) (w : World) : (Instr.typeAssert (.iface 150 v) 20 150 true).run Tryz.prog w = .ok (.tuple #[v, .bool true]) w := by kernel_rfl
set_option maxHeartbeats 4000000 in
set_option maxRecDepth 100000 in
/-- where the way has come to its end -/
theorem try1_back (w : World) (c0 c1 c2 : Nat) : CallsD Tryz.prog 105 #[.pointer (some ⟨c0, 0, none⟩), .pointer (some ⟨c1, 0, none⟩), .pointer (some ⟨c2, 0, none⟩)] .returning w fun e u' w' =>
      e = .returned (.tuple #[]) ∧ u' = .returning ∧ Below w.heap.size w w' := by
  refine callsD_of_wpS Tryz.func105 rfl fun c₀ cs hu => ?_
  apply wpS_seq
  apply wpS_region
  simp [wpOpsS, go_sem, recoverD, hu, Tryz.ntmps105, Exit.thenS]
  rw [tmps_12]
  refine wpS_of_wp (wp_gen fun Q' hQ => ?_)
  have HQ := Lib.hid hQ
  clear hQ
  go_wp2_with fail
  rw [HQ.out]
  refine ⟨rfl, .returning, by cases c₀; simp_all, .tuple #[], by simp [results, Tryz.results105], rfl, rfl, Below.refl _ _⟩
attribute [local go_sem] run_assert_stop
abbrev zeroAns : Array Value := #[.int .i64 0, .slice none 0 0, .int .u64 0, .string ⟨#[]⟩, .slice none 0 0]
set_option maxHeartbeats 4000000 in
set_option maxRecDepth 100000 in
/-- where it was given up -/
theorem try1_thrown {w : World} {c0 c1 c2 : Nat} (h0 : Blk w c0 36 zeroAns) (h1 : Blk w c1 3 #[.int .i64 0]) (h2 : Blk w c2 4 #[.bool false]) (h01 : c0 ≠ c1) (h02 : c0 ≠ c2) (h12 : c1 ≠ c2) (m : Bool) :
    CallsD Tryz.prog 105 #[.pointer (some ⟨c0, 0, none⟩), .pointer (some ⟨c1, 0, none⟩), .pointer (some ⟨c2, 0, none⟩)] (.panicking [{ v := .iface 150 (.agg #[.bool m]), recovered := false }]) w fun e u' w' =>
      e = .returned (.tuple #[]) ∧ u' = .panicking [{ v := .iface 150 (.agg #[.bool m]), recovered := true }] ∧ Blk w' c0 36 zeroAns ∧ Blk w' c1 3 #[.int .i64 0] ∧ Blk w' c2 4 #[.bool m] ∧ OnlyIn [c0, c1, c2] w w' := by
  have z0 := h0.cell 0
  have z1 := h0.cell 1
  have z2 := h0.cell 2
  have z3 := h0.cell 3
  have z4 := h0.cell 4
  have f0 := h0.frozen 0
  have f1 := h0.frozen 1
  have f2 := h0.frozen 2
  have f3 := h0.frozen 3
  have f4 := h0.frozen 4
  have y0 := h1.cell 0
  have y0f := h1.frozen 0
  have x0 := h2.cell 0
  have x0f := h2.frozen 0
  have l0 := h0.lt
  have l1 := h1.lt
  have l2 := h2.lt
  simp only [zeroAns, List.getElem?_toArray, List.getElem?_cons_zero, List.getElem?_cons_succ] at z0 z1 z2 z3 z4 y0 x0
  have H0 := Lib.hid h0
  have H1 := Lib.hid h1
  have H2 := Lib.hid h2
  clear h0 h1 h2
  refine callsD_of_wpS Tryz.func105 rfl fun c₀ cs hu => ?_
  apply wpS_seq
  apply wpS_region
  simp [wpOpsS, go_sem, recoverD, hu, Tryz.ntmps105, Exit.thenS]
  rw [tmps_12]
  refine wpS_of_wp (wp_gen fun Q' hQ => ?_)
  have HQ := Lib.hid hQ
  clear hQ
  go_wp2_with fail
  go_region
  all_goals
    go_wp2_with fail
    rw [HQ.out]
    refine ⟨rfl, _, rfl, .tuple #[], by simp [results, Tryz.results105], rfl, rfl, ?_, ?_, ?_, ?_⟩
    · exact (((((ansPut_blk H0.out {}).far (p := ⟨c1, 0, none⟩) h01 _).far (p := ⟨c2, 0, none⟩) h02 _).alloc _).drew)
    · exact ((((H1.out.same ((ansPut_only w c0 {}).block _ l1 (by simp; omega))).put 0 (.int .i64 0)).far (p := ⟨c2, 0, none⟩) h12 _).alloc _).drew
    · exact ((((H2.out.same ((ansPut_only w c0 {}).block _ l2 (by simp; omega))).far (p := ⟨c1, 0, none⟩) (fun e => h12 e.symm) _).put 0 (.bool m)).alloc _).drew
    · have h1 : OnlyIn [c0, c1, c2] w (ansPut w c0 {}) := (ansPut_only w c0 {}).mono (fun k hk => .inl (by simp at hk; simp [hk]))
      exact ((h1.setCell (.inl (by simp)) 0 (.int .i64 0)).setCell (.inl (by simp)) 0 (.bool m)).later (((Below.refl _ _).alloc (Nat.le_refl _) _).drew)
/-- what try tells -/
def TryPost (w : World) (r : Sp.RdV Sp.AnswerV) (e : Ending) (w' : World) : Prop :=
  Below w.heap.size w w' ∧ match r with
    | .got a q => ∃ x : AnsX, x.v = a ∧ e = .returned (.tuple #[x.val, .int .i64 q, .bool false]) ∧ AnsOwn w' w.heap.size x
    | .more => e = .returned (.tuple #[AnsX.val {}, .int .i64 0, .bool true])
    | .fail => e = .returned (.tuple #[AnsX.val {}, .int .i64 0, .bool false])
/-- try's variables, and its reader -/
structure TryMid (w : World) (A : Option Addr) (cap : Nat) (raw : Sp.Bs) (n : Nat) (wx : World) : Prop where
  c0 : Blk wx n 36 zeroAns
  c1 : Blk wx (n + 1) 3 #[.int .i64 0]
  c2 : Blk wx (n + 2) 4 #[.bool false]
  rd : RdAt wx (n + 3) A cap raw 0
  only : Below n w wx
theorem tryMid_new {w : World} {A : Option Addr} {cap : Nat} {raw : Sp.Bs} (hrow : RowAt w A (bytesV raw)) (hroom : raw.length ≤ cap) (hsm : raw.length ≤ 1000000000) (hnil : A = none → cap = 0) (hA : ∀ a, A = some a → a.block < w.heap.size) :
    TryMid w A cap raw w.heap.size ((((w.alloc (.cells zeroAns 36)).alloc (.cells #[.int .i64 0] 3)).alloc (.cells #[.bool false] 4)).alloc (.cells #[.slice A raw.length cap, .int .i64 0] 148)) := by
  have b1 := Blk.new w 36 zeroAns
  generalize e1 : w.alloc (.cells zeroAns 36) = w1 at b1 ⊢
  have s1 : w1.heap.size = w.heap.size + 1 := by rw [← e1]; simp
  have b2 := Blk.new w1 3 #[.int .i64 0]
  generalize e2 : w1.alloc (.cells #[.int .i64 0] 3) = w2 at b2 ⊢
  have s2 : w2.heap.size = w.heap.size + 2 := by rw [← e2]; simp [s1]
  have b3 := Blk.new w2 4 #[.bool false]
  generalize e3 : w2.alloc (.cells #[.bool false] 4) = w3 at b3 ⊢
  have s3 : w3.heap.size = w.heap.size + 3 := by rw [← e3]; simp [s2]
  have b4 := Blk.new w3 148 #[.slice A raw.length cap, .int .i64 0]
  rw [s1] at b2; rw [s2] at b3; rw [s3] at b4
  have l1 : Below w1.heap.size w1 w2 := e2 ▸ (Below.refl _ _).alloc (Nat.le_refl _) _
  have l2 : Below w2.heap.size w2 w3 := e3 ▸ (Below.refl _ _).alloc (Nat.le_refl _) _
  have l3 : Below w3.heap.size w3 (w3.alloc (.cells #[.slice A raw.length cap, .int .i64 0] 148)) := (Below.refl _ _).alloc (Nat.le_refl _) _
  have l0 : Below w.heap.size w w1 := e1 ▸ (Below.refl _ _).alloc (Nat.le_refl _) _
  have l23 := l2.trans (l3.mono (by omega : w2.heap.size ≤ w3.heap.size))
  have l13 := l1.trans (l23.mono (by omega : w1.heap.size ≤ w2.heap.size))
  have l03 := l0.trans (l13.mono (by omega : w.heap.size ≤ w1.heap.size))
  exact ⟨b1.later l13, b2.later l23, b3.later l3, ⟨b4, hrow.below l03, hroom, Nat.zero_le _, hsm, hnil, fun a ha => by have := hA a ha; omega⟩, l03⟩
end Go.Proofs.YtnbeeehfapjpdaaGreatDoor
end
section
namespace Go.Proofs.YtnbeeehfapjpdaaGreatDoor
attribute [local go_sem ↓] Go.wp_at_zero Go.wp_at_succ
open Go.RowKit

theorem try_results {W : World} {b : Nat} {x : AnsX} {n : Int} {m : Bool} (h : Blk W b 36 x.cells) (h1 : Blk W (b + 1) 3 #[.int .i64 n]) (h2 : Blk W (b + 2) 4 #[.bool m]) (tm : Array Value)
    (t4 : tm[4]?.getD undef = .pointer (some ⟨b, 0, none⟩)) (t5 : tm[5]?.getD undef = .pointer (some ⟨b + 1, 0, none⟩)) (t6 : tm[6]?.getD undef = .pointer (some ⟨b + 2, 0, none⟩)) :
    (results Tryz.f64 tm).run Tryz.prog W = .ok (.tuple #[x.val, .int .i64 n, .bool m]) W := by
  have z0 := h.cell 0
  have z1 := h.cell 1
  have z2 := h.cell 2
  have z3 := h.cell 3
  have z4 := h.cell 4
  have y0 := h1.cell 0
  have x0 := h2.cell 0
  change _ = some _ at z0 z1 z2 z3 z4 y0 x0
  clear h h1 h2
  simp [results, Tryz.results64, go_sem, t4, t5, t6, z0, z1, z2, z3, z4, y0, x0]
set_option maxHeartbeats 8000000 in
set_option maxRecDepth 100000 in
theorem tryRead_any {w : World} {A : Option Addr} {cap : Nat} {raw : Sp.Bs} (hrow : RowAt w A (bytesV raw)) (hroom : raw.length ≤ cap) (hsm : raw.length ≤ 1000000000) (hnil : A = none → cap = 0) (hA : ∀ a, A = some a → a.block < w.heap.size) {bx : Nat} {r : Sp.RdV Sp.AnswerV}
    (hway : ∀ W : World, Below w.heap.size w W → RdAt W (w.heap.size + 3) A cap raw 0 → Calls Tryz.prog 65 #[.pointer (some ⟨w.heap.size + 3, 0, none⟩), .pointer (some ⟨bx, 0, none⟩)] W (ReadsTo W (w.heap.size + 3) A cap raw (AnsK W.heap.size) r)) :
    Calls Tryz.prog 64 #[.slice A raw.length cap, .func (.func 65) #[] #[.pointer (some ⟨bx, 0, none⟩)]] w (TryPost w r) := by
  have hmf : ∀ (fn : Fn) (first cap : Array Value) (w : World), (Instr.makeFunc fn first cap).run Tryz.prog w = .ok (.func fn first cap) w := fun _ _ _ _ => rfl
  have hm := tryMid_new hrow hroom hsm hnil hA
  generalize hR : TryPost w r = R
  obtain ⟨W1, hW1⟩ : ∃ W1, W1 = (((w.alloc (.cells #[.int .i64 0, .slice none 0 0, .int .u64 0, .string ⟨#[]⟩, .slice none 0 0] 36)).alloc (.cells #[.int .i64 0] 3)).alloc (.cells #[.bool false] 4)).alloc (.cells #[.slice A raw.length cap, .int .i64 0] 148) := ⟨_, rfl⟩
  replace hm : TryMid w A cap raw w.heap.size W1 := by rw [hW1]; exact hm
  have hwy := hway W1 hm.only hm.rd
  obtain ⟨n, hn⟩ : ∃ n, n = w.heap.size := ⟨_, rfl⟩
  rw [← hn] at hm hwy
  obtain ⟨ln, hln⟩ : ∃ ln, ln = raw.length := ⟨_, rfl⟩
  have HR := Lib.hid hR
  have HM := Lib.hid hm
  have HW1 := Lib.hid hW1
  have HN := Lib.hid hn
  clear hR hm hW1 hrow hroom hsm hnil hA hway hn hln
  cases r with
  | got a q =>
    have HWY := Lib.hid hwy
    clear hwy
    go_enter_defers Tryz.func64, Tryz.ntmps64
    go_upto_region 2 with (fail)
    rw [← HW1.out, ← HN.out, show n + 1 + 1 + 1 = n + 3 from rfl, show n + 1 + 1 = n + 2 from rfl]
    go_wp2_with fail
    refine HWY.out.mono ?_
    rintro e w2 ⟨ho, ⟨X, hXv, rfl, hown⟩, hx⟩
    have hm := HM.out
    have h0 := hm.c0.same (ho.block _ hm.c0.lt (by simp))
    have h1 := hm.c1.same (ho.block _ hm.c1.lt (by simp))
    have h2 := hm.c2.same (ho.block _ hm.c2.lt (by simp))
    have z0 := h0.cell 0
    have z1 := h0.cell 1
    have z2 := h0.cell 2
    have z3 := h0.cell 3
    have z4 := h0.cell 4
    have f0 := h0.frozen 0
    have f1 := h0.frozen 1
    have f2 := h0.frozen 2
    have f3 := h0.frozen 3
    have f4 := h0.frozen 4
    have y0 := h1.cell 0
    have y0f := h1.frozen 0
    have x0 := h2.cell 0
    have x0f := h2.frozen 0
    have r1 : w2.cell? ⟨n + 3, 1, none⟩ = some (.int .i64 q) := hx.blk.cell 1
    simp only [zeroAns, List.getElem?_toArray, List.getElem?_cons_zero, List.getElem?_cons_succ] at z0 z1 z2 z3 z4 y0 x0
    have HO := Lib.hid ho
    have HX := Lib.hid hx
    have HXV := Lib.hid hXv
    have HOWN := Lib.hid hown
    have H0 := Lib.hid h0
    have H1 := Lib.hid h1
    have H2 := Lib.hid h2
    clear ho hx hXv hown h0 h1 h2 hm
    go_upto_region 4 with fail
    go_region
    go_wp2_with fail
    obtain ⟨W3, hW3⟩ : ∃ W3, W3 = (((ansPut (ansPut w2 n X) n X).setCell ⟨n + 1, 0, none⟩ (.int .i64 q)).setCell ⟨n + 2, 0, none⟩ (.bool false)).drew := ⟨_, rfl⟩
    have hbX : Blk W3 n 36 X.cells := by rw [hW3]; exact (((ansPut_blk (ansPut_blk H0.out X) X).far (p := ⟨n + 1, 0, none⟩) (by show n ≠ n + 1; omega) _).far (p := ⟨n + 2, 0, none⟩) (by show n ≠ n + 2; omega) _).drew
    have hp1 := (ansPut_only w2 n X)
    have hp2 := (ansPut_only (ansPut w2 n X) n X)
    have hl1 : n + 1 < w2.heap.size := H1.out.lt
    have hl2 : n + 2 < w2.heap.size := H2.out.lt
    have hb1 : Blk W3 (n + 1) 3 #[.int .i64 q] := by rw [hW3]; exact ((((H1.out.same (hp1.block _ hl1 (by simp))).same (hp2.block _ (Nat.lt_of_lt_of_le hl1 hp1.size) (by simp))).put 0 (.int .i64 q)).far (p := ⟨n + 2, 0, none⟩) (by show n + 1 ≠ n + 2; omega) _).drew
    have hb2 : Blk W3 (n + 2) 4 #[.bool false] := by rw [hW3]; exact ((((H2.out.same (hp1.block _ hl2 (by simp))).same (hp2.block _ (Nat.lt_of_lt_of_le hl2 hp1.size) (by simp))).far (p := ⟨n + 1, 0, none⟩) (by show n + 2 ≠ n + 1; omega) _).put 0 (.bool false)).drew
    have hon : OnlyIn [n, n + 1, n + 2] w2 W3 := by
      rw [hW3]
      have hm0 : ∀ k ∈ [n], k ∈ [n, n + 1, n + 2] ∨ w2.heap.size ≤ k := fun k hk => .inl (by simp at hk; simp [hk])
      have h3 := (hp1.mono hm0).trans (hp2.mono (fun k hk => .inl (by simp at hk; simp [hk]))) (fun k hk => .inl hk)
      exact ((h3.setCell (.inl (by simp)) 0 _).setCell (.inl (by simp)) 0 _).later (Below.refl _ _).drew
    have hbw : Below w.heap.size w W3 := by
      have h3 : Below n w w2 := HM.out.only.trans (HO.out.below (by have h5 := HM.out.only.size; have h6 := HN.out; omega) (by simp))
      have h4 : Below n w2 W3 := hon.below (by omega) (by intro k hk; simp at hk; omega)
      rw [← HN.out]; exact h3.trans h4
    have hown3 : AnsOwn W3 w.heap.size X := by
      have h3 : n + 3 < W1.heap.size := HM.out.rd.lt
      have h4 := HOWN.out.only hon (by intro k hk; simp at hk; omega)
      exact h4.base (by have h5 := HM.out.only.size; have h6 := HN.out; omega)
    have hfin : ∀ W : World, Below W3.heap.size W3 W → R (.returned (.tuple #[X.val, .int .i64 q, .bool false])) W := fun W hb => by
      rw [← HR.out]; exact ⟨hbw.trans (hb.mono hbw.size), X, HXV.out, rfl, hown3.later hb⟩
    change Leaves _ _ _ _ _ _ (((ansPut (ansPut w2 n X) n X).setCell ⟨n + 1, 0, none⟩ (.int .i64 q)).setCell ⟨n + 2, 0, none⟩ (.bool false)).drew
    rw [← hW3]
    refine leaves_cons (f := 105) (args := #[.pointer (some ⟨n, 0, none⟩), .pointer (some ⟨n + 1, 0, none⟩), .pointer (some ⟨n + 2, 0, none⟩)]) (by simp) (by simp [go_sem]) ?_
    refine (try1_back W3 n (n + 1) (n + 2)).mono ?_
    rintro e u' w'' ⟨rfl, rfl, hb⟩
    exact ⟨_, try_results (hbX.later hb) (hb1.later hb) (hb2.later hb) _ rfl rfl rfl, hfin w'' hb⟩
  | more =>
    have HWY := Lib.hid hwy
    clear hwy
    go_enter_defers Tryz.func64, Tryz.ntmps64
    go_upto_region 2 with (fail)
    rw [← HW1.out, ← HN.out, show n + 1 + 1 + 1 = n + 3 from rfl, show n + 1 + 1 = n + 2 from rfl]
    go_wp2_with fail
    refine HWY.out.mono ?_
    rintro e w2 ⟨ho, rfl⟩
    have hm := HM.out
    have h0 := hm.c0.same (ho.block _ hm.c0.lt (by simp))
    have h1 := hm.c1.same (ho.block _ hm.c1.lt (by simp))
    have h2 := hm.c2.same (ho.block _ hm.c2.lt (by simp))
    have h3 : Below n w w2 := hm.only.trans (ho.below (by have h5 := hm.only.size; have h6 := HN.out; omega) (by simp))
    have hfin : ∀ W : World, OnlyIn [n, n + 1, n + 2] w2 W → R (.returned (.tuple #[AnsX.val {}, .int .i64 0, .bool true])) W := fun W hb => by
      rw [← HR.out]
      refine ⟨?_, rfl⟩
      rw [← HN.out]
      exact h3.trans (hb.below (by have h5 := h3.size; have h6 := HN.out; omega) (by intro k hk; simp at hk; omega))
    refine leaves_cons (f := 105) (args := #[.pointer (some ⟨n, 0, none⟩), .pointer (some ⟨n + 1, 0, none⟩), .pointer (some ⟨n + 2, 0, none⟩)]) (by simp) (by simp [go_sem]) ?_
    refine (try1_thrown h0 h1 h2 (by omega) (by omega) (by omega) true).mono ?_
    rintro e u' w'' ⟨rfl, rfl, k0, k1, k2, ko⟩
    show Leaves _ _ _ _ [] .returning w''
    exact ⟨_, try_results (x := {}) k0 k1 k2 _ rfl rfl rfl, hfin w'' ko⟩
  | fail =>
    have HWY := Lib.hid hwy
    clear hwy
    go_enter_defers Tryz.func64, Tryz.ntmps64
    go_upto_region 2 with (fail)
    rw [← HW1.out, ← HN.out, show n + 1 + 1 + 1 = n + 3 from rfl, show n + 1 + 1 = n + 2 from rfl]
    go_wp2_with fail
    refine HWY.out.mono ?_
    rintro e w2 ⟨ho, rfl⟩
    have hm := HM.out
    have h0 := hm.c0.same (ho.block _ hm.c0.lt (by simp))
    have h1 := hm.c1.same (ho.block _ hm.c1.lt (by simp))
    have h2 := hm.c2.same (ho.block _ hm.c2.lt (by simp))
    have h3 : Below n w w2 := hm.only.trans (ho.below (by have h5 := hm.only.size; have h6 := HN.out; omega) (by simp))
    have hfin : ∀ W : World, OnlyIn [n, n + 1, n + 2] w2 W → R (.returned (.tuple #[AnsX.val {}, .int .i64 0, .bool false])) W := fun W hb => by
      rw [← HR.out]
      refine ⟨?_, rfl⟩
      rw [← HN.out]
      exact h3.trans (hb.below (by have h5 := h3.size; have h6 := HN.out; omega) (by intro k hk; simp at hk; omega))
    refine leaves_cons (f := 105) (args := #[.pointer (some ⟨n, 0, none⟩), .pointer (some ⟨n + 1, 0, none⟩), .pointer (some ⟨n + 2, 0, none⟩)]) (by simp) (by simp [go_sem]) ?_
    refine (try1_thrown h0 h1 h2 (by omega) (by omega) (by omega) false).mono ?_
    rintro e u' w'' ⟨rfl, rfl, k0, k1, k2, ko⟩
    show Leaves _ _ _ _ [] .returning w''
    exact ⟨_, try_results (x := {}) k0 k1 k2 _ rfl rfl rfl, hfin w'' ko⟩
set_option maxHeartbeats 8000000 in
set_option maxRecDepth 100000 in
theorem tryRefused_any {w : World} {A : Option Addr} {cap : Nat} {raw : Sp.Bs} (hrow : RowAt w A (bytesV raw)) (hroom : raw.length ≤ cap) (hsm : raw.length ≤ 1000000000) (hnil : A = none → cap = 0) (hA : ∀ a, A = some a → a.block < w.heap.size) {r : Sp.RdV Sp.AnswerV}
    (hway : ∀ W : World, Below w.heap.size w W → RdAt W (w.heap.size + 3) A cap raw 0 → Calls Tryz.prog 67 #[.pointer (some ⟨w.heap.size + 3, 0, none⟩)] W (ReadsTo W (w.heap.size + 3) A cap raw (AnsK W.heap.size) r)) :
    Calls Tryz.prog 64 #[.slice A raw.length cap, .func (.func 67) #[] #[]] w (TryPost w r) := by
  have hmf : ∀ (fn : Fn) (first cap : Array Value) (w : World), (Instr.makeFunc fn first cap).run Tryz.prog w = .ok (.func fn first cap) w := fun _ _ _ _ => rfl
  have hm := tryMid_new hrow hroom hsm hnil hA
  generalize hR : TryPost w r = R
  obtain ⟨W1, hW1⟩ : ∃ W1, W1 = (((w.alloc (.cells #[.int .i64 0, .slice none 0 0, .int .u64 0, .string ⟨#[]⟩, .slice none 0 0] 36)).alloc (.cells #[.int .i64 0] 3)).alloc (.cells #[.bool false] 4)).alloc (.cells #[.slice A raw.length cap, .int .i64 0] 148) := ⟨_, rfl⟩
  replace hm : TryMid w A cap raw w.heap.size W1 := by rw [hW1]; exact hm
  have hwy := hway W1 hm.only hm.rd
  obtain ⟨n, hn⟩ : ∃ n, n = w.heap.size := ⟨_, rfl⟩
  rw [← hn] at hm hwy
  obtain ⟨ln, hln⟩ : ∃ ln, ln = raw.length := ⟨_, rfl⟩
  have HR := Lib.hid hR
  have HM := Lib.hid hm
  have HW1 := Lib.hid hW1
  have HN := Lib.hid hn
  clear hR hm hW1 hrow hroom hsm hnil hA hway hn hln
  cases r with
  | got a q =>
    have HWY := Lib.hid hwy
    clear hwy
    go_enter_defers Tryz.func64, Tryz.ntmps64
    go_upto_region 2 with (fail)
    rw [← HW1.out, ← HN.out, show n + 1 + 1 + 1 = n + 3 from rfl, show n + 1 + 1 = n + 2 from rfl]
    go_wp2_with fail
    refine HWY.out.mono ?_
    rintro e w2 ⟨ho, ⟨X, hXv, rfl, hown⟩, hx⟩
    have hm := HM.out
    have h0 := hm.c0.same (ho.block _ hm.c0.lt (by simp))
    have h1 := hm.c1.same (ho.block _ hm.c1.lt (by simp))
    have h2 := hm.c2.same (ho.block _ hm.c2.lt (by simp))
    have z0 := h0.cell 0
    have z1 := h0.cell 1
    have z2 := h0.cell 2
    have z3 := h0.cell 3
    have z4 := h0.cell 4
    have f0 := h0.frozen 0
    have f1 := h0.frozen 1
    have f2 := h0.frozen 2
    have f3 := h0.frozen 3
    have f4 := h0.frozen 4
    have y0 := h1.cell 0
    have y0f := h1.frozen 0
    have x0 := h2.cell 0
    have x0f := h2.frozen 0
    have r1 : w2.cell? ⟨n + 3, 1, none⟩ = some (.int .i64 q) := hx.blk.cell 1
    simp only [zeroAns, List.getElem?_toArray, List.getElem?_cons_zero, List.getElem?_cons_succ] at z0 z1 z2 z3 z4 y0 x0
    have HO := Lib.hid ho
    have HX := Lib.hid hx
    have HXV := Lib.hid hXv
    have HOWN := Lib.hid hown
    have H0 := Lib.hid h0
    have H1 := Lib.hid h1
    have H2 := Lib.hid h2
    clear ho hx hXv hown h0 h1 h2 hm
    go_upto_region 4 with fail
    go_region
    go_wp2_with fail
    obtain ⟨W3, hW3⟩ : ∃ W3, W3 = (((ansPut (ansPut w2 n X) n X).setCell ⟨n + 1, 0, none⟩ (.int .i64 q)).setCell ⟨n + 2, 0, none⟩ (.bool false)).drew := ⟨_, rfl⟩
    have hbX : Blk W3 n 36 X.cells := by rw [hW3]; exact (((ansPut_blk (ansPut_blk H0.out X) X).far (p := ⟨n + 1, 0, none⟩) (by show n ≠ n + 1; omega) _).far (p := ⟨n + 2, 0, none⟩) (by show n ≠ n + 2; omega) _).drew
    have hp1 := (ansPut_only w2 n X)
    have hp2 := (ansPut_only (ansPut w2 n X) n X)
    have hl1 : n + 1 < w2.heap.size := H1.out.lt
    have hl2 : n + 2 < w2.heap.size := H2.out.lt
    have hb1 : Blk W3 (n + 1) 3 #[.int .i64 q] := by rw [hW3]; exact ((((H1.out.same (hp1.block _ hl1 (by simp))).same (hp2.block _ (Nat.lt_of_lt_of_le hl1 hp1.size) (by simp))).put 0 (.int .i64 q)).far (p := ⟨n + 2, 0, none⟩) (by show n + 1 ≠ n + 2; omega) _).drew
    have hb2 : Blk W3 (n + 2) 4 #[.bool false] := by rw [hW3]; exact ((((H2.out.same (hp1.block _ hl2 (by simp))).same (hp2.block _ (Nat.lt_of_lt_of_le hl2 hp1.size) (by simp))).far (p := ⟨n + 1, 0, none⟩) (by show n + 2 ≠ n + 1; omega) _).put 0 (.bool false)).drew
    have hon : OnlyIn [n, n + 1, n + 2] w2 W3 := by
      rw [hW3]
      have hm0 : ∀ k ∈ [n], k ∈ [n, n + 1, n + 2] ∨ w2.heap.size ≤ k := fun k hk => .inl (by simp at hk; simp [hk])
      have h3 := (hp1.mono hm0).trans (hp2.mono (fun k hk => .inl (by simp at hk; simp [hk]))) (fun k hk => .inl hk)
      exact ((h3.setCell (.inl (by simp)) 0 _).setCell (.inl (by simp)) 0 _).later (Below.refl _ _).drew
    have hbw : Below w.heap.size w W3 := by
      have h3 : Below n w w2 := HM.out.only.trans (HO.out.below (by have h5 := HM.out.only.size; have h6 := HN.out; omega) (by simp))
      have h4 : Below n w2 W3 := hon.below (by omega) (by intro k hk; simp at hk; omega)
      rw [← HN.out]; exact h3.trans h4
    have hown3 : AnsOwn W3 w.heap.size X := by
      have h3 : n + 3 < W1.heap.size := HM.out.rd.lt
      have h4 := HOWN.out.only hon (by intro k hk; simp at hk; omega)
      exact h4.base (by have h5 := HM.out.only.size; have h6 := HN.out; omega)
    have hfin : ∀ W : World, Below W3.heap.size W3 W → R (.returned (.tuple #[X.val, .int .i64 q, .bool false])) W := fun W hb => by
      rw [← HR.out]; exact ⟨hbw.trans (hb.mono hbw.size), X, HXV.out, rfl, hown3.later hb⟩
    change Leaves _ _ _ _ _ _ (((ansPut (ansPut w2 n X) n X).setCell ⟨n + 1, 0, none⟩ (.int .i64 q)).setCell ⟨n + 2, 0, none⟩ (.bool false)).drew
    rw [← hW3]
    refine leaves_cons (f := 105) (args := #[.pointer (some ⟨n, 0, none⟩), .pointer (some ⟨n + 1, 0, none⟩), .pointer (some ⟨n + 2, 0, none⟩)]) (by simp) (by simp [go_sem]) ?_
    refine (try1_back W3 n (n + 1) (n + 2)).mono ?_
    rintro e u' w'' ⟨rfl, rfl, hb⟩
    exact ⟨_, try_results (hbX.later hb) (hb1.later hb) (hb2.later hb) _ rfl rfl rfl, hfin w'' hb⟩
  | more =>
    have HWY := Lib.hid hwy
    clear hwy
    go_enter_defers Tryz.func64, Tryz.ntmps64
    go_upto_region 2 with (fail)
    rw [← HW1.out, ← HN.out, show n + 1 + 1 + 1 = n + 3 from rfl, show n + 1 + 1 = n + 2 from rfl]
    go_wp2_with fail
    refine HWY.out.mono ?_
    rintro e w2 ⟨ho, rfl⟩
    have hm := HM.out
    have h0 := hm.c0.same (ho.block _ hm.c0.lt (by simp))
    have h1 := hm.c1.same (ho.block _ hm.c1.lt (by simp))
    have h2 := hm.c2.same (ho.block _ hm.c2.lt (by simp))
    have h3 : Below n w w2 := hm.only.trans (ho.below (by have h5 := hm.only.size; have h6 := HN.out; omega) (by simp))
    have hfin : ∀ W : World, OnlyIn [n, n + 1, n + 2] w2 W → R (.returned (.tuple #[AnsX.val {}, .int .i64 0, .bool true])) W := fun W hb => by
      rw [← HR.out]
      refine ⟨?_, rfl⟩
      rw [← HN.out]
      exact h3.trans (hb.below (by have h5 := h3.size; have h6 := HN.out; omega) (by intro k hk; simp at hk; omega))
    refine leaves_cons (f := 105) (args := #[.pointer (some ⟨n, 0, none⟩), .pointer (some ⟨n + 1, 0, none⟩), .pointer (some ⟨n + 2, 0, none⟩)]) (by simp) (by simp [go_sem]) ?_
    refine (try1_thrown h0 h1 h2 (by omega) (by omega) (by omega) true).mono ?_
    rintro e u' w'' ⟨rfl, rfl, k0, k1, k2, ko⟩
    show Leaves _ _ _ _ [] .returning w''
    exact ⟨_, try_results (x := {}) k0 k1 k2 _ rfl rfl rfl, hfin w'' ko⟩
  | fail =>
    have HWY := Lib.hid hwy
    clear hwy
    go_enter_defers Tryz.func64, Tryz.ntmps64
    go_upto_region 2 with (fail)
    rw [← HW1.out, ← HN.out, show n + 1 + 1 + 1 = n + 3 from rfl, show n + 1 + 1 = n + 2 from rfl]
    go_wp2_with fail
    refine HWY.out.mono ?_
    rintro e w2 ⟨ho, rfl⟩
    have hm := HM.out
    have h0 := hm.c0.same (ho.block _ hm.c0.lt (by simp))
    have h1 := hm.c1.same (ho.block _ hm.c1.lt (by simp))
    have h2 := hm.c2.same (ho.block _ hm.c2.lt (by simp))
    have h3 : Below n w w2 := hm.only.trans (ho.below (by have h5 := hm.only.size; have h6 := HN.out; omega) (by simp))
    have hfin : ∀ W : World, OnlyIn [n, n + 1, n + 2] w2 W → R (.returned (.tuple #[AnsX.val {}, .int .i64 0, .bool false])) W := fun W hb => by
      rw [← HR.out]
      refine ⟨?_, rfl⟩
      rw [← HN.out]
      exact h3.trans (hb.below (by have h5 := h3.size; have h6 := HN.out; omega) (by intro k hk; simp at hk; omega))
    refine leaves_cons (f := 105) (args := #[.pointer (some ⟨n, 0, none⟩), .pointer (some ⟨n + 1, 0, none⟩), .pointer (some ⟨n + 2, 0, none⟩)]) (by simp) (by simp [go_sem]) ?_
    refine (try1_thrown h0 h1 h2 (by omega) (by omega) (by omega) false).mono ?_
    rintro e u' w'' ⟨rfl, rfl, k0, k1, k2, ko⟩
    show Leaves _ _ _ _ [] .returning w''
    exact ⟨_, try_results (x := {}) k0 k1 k2 _ rfl rfl rfl, hfin w'' ko⟩
end Go.Proofs.YtnbeeehfapjpdaaGreatDoor
end
