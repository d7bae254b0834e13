/- Walk of package reply: Bytes of a meta verb's answer. Printed by gen/genU1.py. Appends of bytes next to calls: the law of one operation. -/
import Derived.Test.YtnbeeehfapjpdaaGreatDoorVz
import Derived.Test.YtnbeeehfapjpdaaGreatDoorQKw
import Derived.Deep.AppendLies
section
namespace Go.Proofs.YtnbeeehfapjpdaaGreatDoor
attribute [local go_sem ↓] Go.wp_at_zero Go.wp_at_succ
open Go.RowKit

def blkW (x : EntX) : Sp.Bs := x.e.value ++ [13, 10]
theorem blk_flat (xs : List EntX) : (xs.map EntX.e).flatMap (fun e => e.value ++ [13, 10]) = xs.flatMap blkW := by rw [List.flatMap_map]; rfl
set_option maxHeartbeats 16000000 in
set_option maxRecDepth 100000 in
theorem bytes_15 {w : World} (hg : GlobR w) (v : Int) {K : Option Addr} {keys : List Sp.Bs} {kc : Nat} (fl ex tk dl : Int) (D : Option Addr) (dn dc : Nat) (nr lg : Bool) (M : Option Addr) (mn mc : Nat) (what : Sp.Bs) (hK : RowAt w K (keys.map str)) (hkc : keys.length ≤ kc) (hks : keys.length ≤ 1000000000) {x : AnsX} (hx : AnsIn w x) (hf : Sp.fitsV v keys what x.v = true) (hn : nr = false) (hk : x.kind = 15) (hbig : (Sp.answerW v x.v).length ≤ 1000000000000) :
    Calls Tryz.prog 15 #[cmdA v K keys.length kc fl ex tk dl D dn dc nr lg M mn mc what, x.val] w (WroteK w (Sp.wroteV v keys what nr x.v)) := by
  obtain ⟨r, hr⟩ : ∃ r, r = Sp.wroteV v keys what nr x.v := ⟨_, rfl⟩
  rw [← hr]
  unfold Sp.wroteV at hr
  generalize hR : WroteK w r = R
  have hal : Below w.heap.size w ((w.alloc (.cells #[.int .i64 v, .slice K keys.length kc, .int .u64 fl, .int .i64 ex, .int .u64 tk, .int .u64 dl, .slice D dn dc, .bool nr, .bool lg, .slice M mn mc, str what] 32)).alloc (.cells x.cells 36)) := ((Below.refl _ _).alloc (Nat.le_refl _) _).alloc (by simp) _
  have hbx : Blk ((w.alloc (.cells #[.int .i64 v, .slice K keys.length kc, .int .u64 fl, .int .i64 ex, .int .u64 tk, .int .u64 dl, .slice D dn dc, .bool nr, .bool lg, .slice M mn mc, str what] 32)).alloc (.cells x.cells 36)) w.heap.size 32 #[.int .i64 v, .slice K keys.length kc, .int .u64 fl, .int .i64 ex, .int .u64 tk, .int .u64 dl, .slice D dn dc, .bool nr, .bool lg, .slice M mn mc, str what] := (Blk.new w _ _).alloc _
  have hab : Blk ((w.alloc (.cells #[.int .i64 v, .slice K keys.length kc, .int .u64 fl, .int .i64 ex, .int .u64 tk, .int .u64 dl, .slice D dn dc, .bool nr, .bool lg, .slice M mn mc, str what] 32)).alloc (.cells x.cells 36)) (w.heap.size + 1) 36 x.cells := by
    have := Blk.new (w.alloc (.cells #[.int .i64 v, .slice K keys.length kc, .int .u64 fl, .int .i64 ex, .int .u64 tk, .int .u64 dl, .slice D dn dc, .bool nr, .bool lg, .slice M mn mc, str what] 32)) 36 x.cells
    rwa [show (w.alloc (.cells #[.int .i64 v, .slice K keys.length kc, .int .u64 fl, .int .i64 ex, .int .u64 tk, .int .u64 dl, .slice D dn dc, .bool nr, .bool lg, .slice M mn mc, str what] 32)).heap.size = w.heap.size + 1 by simp] at this
  obtain ⟨W1, hW1⟩ : ∃ W1, W1 = (w.alloc (.cells #[.int .i64 v, .slice K keys.length kc, .int .u64 fl, .int .i64 ex, .int .u64 tk, .int .u64 dl, .slice D dn dc, .bool nr, .bool lg, .slice M mn mc, str what] 32)).alloc (.cells x.cells 36) := ⟨_, rfl⟩
  rw [← hW1] at hal hbx hab
  have hft := fitsOf_any (hg.later hal) v fl ex tk dl D dn dc nr lg M mn mc what (hK.below hal) hkc hks (hx.below hal)
  rw [hf] at hft
  rw [if_neg (by rw [hf]; decide), if_neg (by rintro (e | e); rw [hn] at e; cases e; exact absurd (hk.symm.trans e) (by decide))] at hr
  have haw : Sp.answerW v x.v = Sp.lineR [x.text] ++ x.xs.flatMap blkW := by
    unfold Sp.answerW
    rw [if_neg (by show x.kind ≠ 9; omega), if_neg (by show x.kind ≠ 7; omega), if_neg (by show x.kind ≠ 10; omega), if_neg (by show x.kind ≠ 11; omega), if_neg (by show x.kind ≠ 13; omega), if_pos (show x.v.kind = 15 from hk), ← blk_flat]
    rfl
  rw [haw] at hr hbig
  clear hf haw
  obtain ⟨kind, E, ec, xs, number, text, S, sc, stats⟩ := x
  dsimp only [AnsX.val, AnsX.cells] at hW1 hab hft ⊢
  dsimp only at hk hr hbig
  subst hn
  subst hk
  obtain ⟨bx, hbe⟩ : ∃ bx, bx = w.heap.size := ⟨_, rfl⟩
  obtain ⟨ab, hae⟩ : ∃ ab, ab = w.heap.size + 1 := ⟨_, rfl⟩
  rw [← hbe] at hbx
  rw [← hae] at hab
  have y0 := hbx.cell 0
  have y1 := hbx.cell 1
  have y2 := hbx.cell 2
  have y3 := hbx.cell 3
  have y4 := hbx.cell 4
  have y5 := hbx.cell 5
  have y6 := hbx.cell 6
  have y7 := hbx.cell 7
  have y8 := hbx.cell 8
  have y9 := hbx.cell 9
  have y10 := hbx.cell 10
  have q0 := hab.cell 0
  have q1 := hab.cell 1
  have q2 := hab.cell 2
  have q3 := hab.cell 3
  have q4 := hab.cell 4
  simp only [List.getElem?_toArray, List.getElem?_cons_zero, List.getElem?_cons_succ] at y0 y1 y2 y3 y4 y5 y6 y7 y8 y9 y10 q0 q1 q2 q3 q4
  have HR := Lib.hid hR
  have HIN := Lib.hid hx
  have HG := Lib.hid hg
  have HFT := Lib.hid hft
  have HAL := Lib.hid hal
  have HBX := Lib.hid hbx
  have HAB := Lib.hid hab
  have HW1 := Lib.hid hW1
  have HBE := Lib.hid hbe
  have HAE := Lib.hid hae
  have HRR := Lib.hid hr
  clear hR hx hg hft hal hbx hab hW1 hbe hae hr hK hkc hks
  obtain ⟨i0, hi, hz0, hz1, hz2⟩ := info_parts info_u8
  have htl : text.length ≤ 100000000 := HIN.out.text
  have hbl : (xs.flatMap blkW).length ≤ 1000000000000 := by rw [List.length_append] at hbig; omega
  have hsl9 : xs.length ≤ 1000000000 := HIN.out.few.1
  have hl1 : (Sp.lineR [text]).length = text.length + 2 := by simp [Sp.lineR, List.intercalate, List.intersperse]
  have HL1 := Lib.hid hl1
  clear hbig hl1
  go_enter Tryz.func15, Tryz.ntmps15
  go_upto_region 1 with fail
  rw [← HW1.out, ← HAE.out, ← HBE.out]
  go_upto_region 33 with (first | (go_at_call 14; refine HFT.out.mono ?_; rintro e w1 ⟨rfl, hb1⟩; have hbx1 := HBX.out.later hb1; have hab1 := HAB.out.later hb1; have b0 := hbx1.cell 0; have b7 := hbx1.cell 7; have a0 := hab1.cell 0; have a1 := hab1.cell 1; have a2 := hab1.cell 2; have a3 := hab1.cell 3; have a4 := hab1.cell 4; simp only [List.getElem?_toArray, List.getElem?_cons_zero, List.getElem?_cons_succ] at b0 b7 a0 a1 a2 a3 a4; have HB1 := Lib.hid (HAL.out.trans (hb1.mono HAL.out.size)); have hs1 := (HAL.out.trans (hb1.mono HAL.out.size)).size; have HAB1 := Lib.hid hab1; have HBX1 := Lib.hid hbx1; clear hb1 hbx1 hab1) | (go_at_call 49; refine (line_reply (base := w.heap.size) (ov := nilRow) (l := []) (w := w1.alloc (.cells #[str text] 9)) (World.ownsRow_nil _ _ _ 1) (by have := (HB1.out.alloc HB1.out.size (.cells #[str text] 9)).size; exact this) (P := some ⟨w1.heap.size, 0, none⟩) (pc := 1) (ps := [text]) (row_new w1 rfl 9 [str text]) (Nat.le_refl _) (by simp) (by simp [List.intercalate, List.intersperse]; omega) (by simp)).mono ?_; rintro e w9 ⟨O, oc, rfl, hown9, hg9⟩; have HOWN9 := Lib.hid hown9; have HB9 := Lib.hid ((HB1.out.alloc HB1.out.size (.cells #[str text] 9)).trans ((Below.of_grown_none hg9).mono (by have := (HB1.out.alloc HB1.out.size (.cells #[str text] 9)).size; exact this))); have HB19 := Lib.hid (((Below.refl w1.heap.size w1).alloc (Nat.le_refl _) (.cells #[str text] 9)).trans ((Below.of_grown_none hg9).mono (by simp))); clear hown9 hg9))
  have hst : WriteLoop w (.slice O (Sp.lineR [text]).length oc) (Sp.lineR [text]) w9 := ⟨HOWN9.out, HB9.out⟩
  have hab9 := HAB1.out.later HB19.out
  have c1 := hab9.cell 1
  simp only [List.getElem?_toArray, List.getElem?_cons_zero, List.getElem?_cons_succ] at c1
  have HST := Lib.hid hst
  clear hst hab9 b0 b7 a0 a1 a2 a3 a4
  go_wp2_with fail
  go_loopw [6, 13, 116] (fun ov _ iv wr => ∃ (j : Nat) (O : Option Addr) (oc : Nat), iv = .int .i64 j ∧ ov = .slice O (Sp.lineR [text] ++ (xs.take j).flatMap blkW).length oc ∧ j ≤ xs.length ∧ WriteLoop w (.slice O (Sp.lineR [text] ++ (xs.take j).flatMap blkW).length oc) (Sp.lineR [text] ++ (xs.take j).flatMap blkW) wr) (fun _ _ iv _ => xs.length - (intOf iv).toNat)
  case atStart =>
    have h0 : Sp.lineR [text] ++ (xs.take 0).flatMap blkW = Sp.lineR [text] := by simp
    exact ⟨0, O, oc, rfl, by rw [h0], Nat.zero_le _, by rw [h0]; exact HST.out⟩
  case round =>
    obtain ⟨j, O, oc, rfl, rfl, hj, hm⟩ := hrel
    have hol := take_flat blkW xs j
    obtain ⟨out, hout⟩ : ∃ out, out = Sp.lineR [text] ++ (xs.take j).flatMap blkW := ⟨_, rfl⟩
    have hol2 : out.length ≤ 2000000000000 := by rw [hout, List.length_append, HL1.out]; omega
    rw [← hout] at hm ⊢
    have HM := Lib.hid hm
    have HOUT := Lib.hid hout
    have hsw := hm.below.size
    by_cases hjl : j < xs.length
    · obtain ⟨y, hy⟩ : ∃ y, xs[j]? = some y := ⟨xs[j], by simp [hjl]⟩
      obtain ⟨g, o, hEe, hgl, ycell⟩ := (HIN.out.ents.below hm.below).cell hy
      subst hEe
      have k0 : wr.cell? ⟨g, o + j * 9, none⟩ = some (str y.e.key) := ycell 0 _ rfl
      have k1 := ycell 1 _ rfl
      have k2 := ycell 2 _ rfl
      have k3 := ycell 3 _ rfl
      have k4 := ycell 4 _ rfl
      have k5 := ycell 5 _ rfl
      have k6 := ycell 6 _ rfl
      have k7 := ycell 7 _ rfl
      have k8 := ycell 8 _ rfl
      have hj1 : (j : Int) < (xs.length : Int) := by omega
      have hye := HIN.out.ents.each y (List.mem_of_getElem? hy)
      have hnext : Sp.lineR [text] ++ (xs.take (j + 1)).flatMap blkW = (out ++ y.e.value) ++ Sp.lineR [] := by
        rw [List.take_add_one, hy, List.flatMap_append, ← List.append_assoc, ← hout]
        show out ++ ([y].flatMap blkW) = _
        rw [List.flatMap_singleton]
        show out ++ (y.e.value ++ [13, 10]) = out ++ y.e.value ++ [13, 10]
        rw [List.append_assoc]
      have hol3 := take_flat blkW xs (j + 1)
      have hvl : y.e.value.length ≤ 1000000000000 := by
        have h1 := congrArg List.length hnext
        rw [List.length_append, List.length_append, List.length_append, HL1.out] at h1
        have h2 := HL1.out
        have h3 : (Sp.lineR [text]).length ≤ out.length := by rw [hout, List.length_append]; omega
        omega
      obtain ⟨W2, hW2⟩ : ∃ W2, W2 = wr.alloc (.cells #[str y.e.key, .slice y.B y.e.value.length y.c, .int .u64 y.e.flags, .int .i64 y.e.expiry, .int .u64 y.e.token, .int .i64 y.e.touched, .bool y.e.stale, .bool y.e.won, .bool y.e.hit] 86) := ⟨_, rfl⟩
      obtain ⟨eb, heb⟩ : ∃ eb, eb = wr.heap.size := ⟨_, rfl⟩
      have hb2 : Below wr.heap.size wr W2 := by rw [hW2]; exact (Below.refl _ _).alloc (Nat.le_refl _) _
      have hebk : Blk W2 eb 86 #[str y.e.key, .slice y.B y.e.value.length y.c, .int .u64 y.e.flags, .int .i64 y.e.expiry, .int .u64 y.e.token, .int .i64 y.e.touched, .bool y.e.stale, .bool y.e.won, .bool y.e.hit] := by rw [hW2, heb]; exact Blk.new wr _ _
      have e1 : W2.cell? ⟨eb, 1, none⟩ = some (.slice y.B y.e.value.length y.c) := hebk.cell 1
      have hs2 := hb2.size
      have hrowv := (hye.1.below (hm.below.trans (hb2.mono hsw)))
      have HB2 := Lib.hid hb2
      have HW2 := Lib.hid hW2
      have HEB := Lib.hid heb
      have HYE := Lib.hid hye
      have HROWV := Lib.hid hrowv
      have HNEXT := Lib.hid hnext
      clear hb2 hebk heb hW2 hye hrowv hnext hm hout hy hol hol3 ycell
      go_upto_region 36 with fail
      rw [← HW2.out, ← HEB.out]
      clear k0 k1 k2 k3 k4 k5 k6 k7 k8 c1
      go_wp2_with (first
        | (at_builtin; refine wpList_append_in rfl (.tmp 120) (.tmp 122) _ rfl w.heap.size 5 i0 _ 1 1 Tryz.underlying29 hi hz0 hz1 hz2 rfl (by decide) (.slice O out.length oc) out.length (bytesV out) rfl (own_later HM.out.own HB2.out) y.B y.e.value.length y.c (bytesV y.e.value) rfl HROWV.out HYE.out.2.2.1 (by rw [bytesV_length, Nat.mul_one]) (bytesV_one _) ?_ ?_ ?_ ?_; (unfold maxLen; omega); omega; omega; intro v3 w3 hown3 hg3; have hown3' : w3.ownsRow w.heap.size 5 1 v3 (out ++ y.e.value).length (bytesV (out ++ y.e.value)) := (by rw [List.length_append, bytesV_append]; exact hown3); have hs3 := hg3.size; have hln := line_reply (P := none) (pc := 0) (ps := []) hown3' (by omega) (.inl rfl) (Nat.le_refl _) (by simp) (by simp [List.intercalate, List.intersperse]) (by rw [List.length_append]; omega); have HLN := Lib.hid hln; have HOWN3 := Lib.hid hown3'; have HG3 := Lib.hid hg3; clear hown3 hown3' hg3 hln)
        | (go_at_call 49; refine HLN.out.mono ?_; rintro e w4 ⟨O4, oc4, rfl, hown4, hg4⟩; have HOWN4 := Lib.hid hown4; have HG4 := Lib.hid hg4; clear hown4 hg4))
      have hb3 : Below w.heap.size w w3 := by
        have h1 : Below w.heap.size w W2 := HM.out.below.trans (HB2.out.mono hsw)
        exact h1.grown HG3.out h1.size (fun k hk => ((own_later HM.out.own HB2.out).lt k hk).1)
      have hb4 : Below w.heap.size w w4 := hb3.grown HG4.out hb3.size (fun k hk => (HOWN3.out.lt k hk).1)
      refine ⟨⟨j + 1, O4, oc4, by go_num, by rw [HNEXT.out, List.length_append, List.length_append, Nat.add_assoc], by omega, by rw [HNEXT.out]; exact ⟨HOWN4.out, hb4⟩⟩, by show xs.length - ((j : Int) + 1).toNat < xs.length - (j : Int).toNat; omega⟩
    · have hje : j = xs.length := by omega
      have i1' : decide ((j : Int) < (xs.length : Int)) = false := decide_eq_false (by omega)
      have i2' : decide (j < xs.length) = false := decide_eq_false hjl
      have hlast : Sp.lineR [text] ++ xs.flatMap blkW = out := by rw [hout, hje, List.take_length]
      have hrr := HRR.out
      rw [hlast] at hrr
      have HRR2 := Lib.hid hrr
      clear hrr hlast hje hm hout hol hjl
      go_wp2_with fail
      rw [← HR.out, HRR2.out]
      exact ⟨O, oc, rfl, HM.out.own, HM.out.below⟩
end Go.Proofs.YtnbeeehfapjpdaaGreatDoor
end
section
namespace Go.Proofs.YtnbeeehfapjpdaaGreatDoor
open Go.RowKit

section
variable {w : World} {base n : Nat} {v : Value} {xs : List Value}
theorem run_append_bytes {ty : TypeId} (hown : w.ownsRow base 5 1 v n xs) {A : Option Addr} {c : Nat} {k : Sp.Bs} (hrow : RowAt w A (bytesV k)) (hA : A = none → c = 0) (hbytes : n + k.length ≤ 140737488355328) (hbase : base ≤ w.heap.size) :
    ∃ v' w', (Builtin.append_ #[29, 29] ty #[v, .slice A k.length c]).run Tryz.prog w = .ok v' w' ∧ w'.ownsRow base 5 1 v' (n + k.length) (xs ++ bytesV k) ∧ w.grownBy w' v.ownBlock := by
  obtain ⟨i, hi, hz, hsz, hby⟩ := info_parts info_u8
  cases A with
  | some a =>
    obtain ⟨v', w', h1, h2, h3, _⟩ := run_append_own_at (P := Tryz.prog) w base 29 ty 5 i _ 1 1 Tryz.underlying29 hi hz hsz hby rfl (by decide) v n xs hown a k.length c (bytesV k) (by rw [bytesV_length, Nat.mul_one]) hrow.cells (bytesV_one k) (by unfold maxLen; omega) (by omega) hbase
    exact ⟨v', w', h1, h2, h3⟩
  | none =>
    have hc := hA rfl
    have hk : k = [] := RowAt.none_nil hrow
    subst hk
    subst hc
    have hrun := run_append_owned_none (P := Tryz.prog) (w := w) base 29 ty 5 i 1 Tryz.underlying29 hi v n xs hown
    exact ⟨v, w, hrun, by simpa [bytesV] using hown, ⟨rfl, rfl, rfl, Nat.le_refl _, fun _ _ _ => rfl⟩⟩
theorem step_append_bytes {ops : Array Oper} {o : Oper} {a : Act} {K : Act → World → Prop} {Q : Exit → Act → World → Prop} {E : Prop} (hgd : o.guard = none) (s x : Operand)
    (ho : o.op = .call { callee := .builtin .append, args := #[s, x], argTypes := #[29, 29] }) (hs : a.eval s = v) (hown : w.ownsRow base 5 1 v n xs) {A : Option Addr} {c : Nat} {k : Sp.Bs} (hx : a.eval x = .slice A k.length c)
    (hrow : RowAt w A (bytesV k)) (hA : A = none → c = 0) (hbytes : n + k.length ≤ 140737488355328) (hbase : base ≤ w.heap.size)
    (h : ∀ v' w', w'.ownsRow base 5 1 v' (n + k.length) (xs ++ bytesV k) → w.grownBy w' v.ownBlock → K (a.put o.dst v') w') :
    if Region.wanted o (yielded ops a.tmps) = true then Oper.wp Tryz.prog o a w K Q else E := by
  have hw : Region.wanted o (yielded ops a.tmps) = true := by simp [Region.wanted, hgd]
  rw [if_pos hw]
  obtain ⟨v', w', hr, h2, h3⟩ := run_append_bytes (ty := o.type) hown hrow hA hbytes hbase
  unfold Oper.wp execOp
  simp only [ho, resolve, invoke, builtin, Sem.run_bind, Sem.run_pure, Result.andThen_ok, List.map_toArray, List.map_cons, List.map_nil, hs, hx, hr]
  exact h v' w' h2 h3
end
end Go.Proofs.YtnbeeehfapjpdaaGreatDoor
end
