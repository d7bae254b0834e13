/- Walks of package reply: digits, line. -/
import Derived.Test.YtnbeeehfapjpdaaGreatDoorVj
import Derived.Test.YtnbeeehfapjpdaaGreatDoorQV6
import Derived.Test.YtnbeeehfapjpdaaGreatDoorQKw
import Derived.Lib.AppendStr
namespace Go.Proofs.YtnbeeehfapjpdaaGreatDoor
attribute [local go_sem ↓] Go.wp_at_zero Go.wp_at_succ
open Go.RowKit

/-- the library's variables hold what the contracts ask -/
structure GlobR (w : World) : Prop where
  maxLen : ∃ m : Int, w.cell? ⟨3, 0, none⟩ = some (.int .i64 m)
  tab : TabAt w
  size : 6 ≤ w.heap.size
theorem GlobR.later {w w' : World} (h : GlobR w) (hb : Below w.heap.size w w') : GlobR w' := by
  obtain ⟨⟨m, h1⟩, h2, h3⟩ := h
  exact ⟨⟨m, (World.cell?_of_block (hb.block _ (Nat.lt_of_lt_of_le (by decide) h3))).trans h1⟩, var?_below hb (g := 0) (by kernel_rfl) (Nat.lt_of_lt_of_le (by decide) h3) h2, Nat.le_trans h3 hb.size⟩
theorem GlobR.only {w w' : World} (h : GlobR w) {L : List Nat} (ho : OnlyIn L w w') (hL : ∀ k ∈ L, 6 ≤ k) : GlobR w' := by
  have hb : Below 6 w w' := ho.below h.size hL
  obtain ⟨⟨m, h1⟩, h2, h3⟩ := h
  exact ⟨⟨m, (World.cell?_of_block (hb.block _ (by decide))).trans h1⟩, var?_below hb (g := 0) (by kernel_rfl) (by decide) h2, Nat.le_trans h3 hb.size⟩
theorem replyDigits_any (u : Nat) (hu : u ≤ 18446744073709551615) {w : World} (hg : GlobR w) : Calls Tryz.prog 46 #[.int .u64 u] w fun e w' => e = .returned (str (Sp.digitsV u)) ∧ Below w.heap.size w w' := by
  have h := formatUint_any u (by omega) w hg.tab
  rw [← Sp.digits_dec hu] at h
  generalize Sp.digitsV u = s at h
  have H := Lib.hid h
  clear h hg
  go_enter Tryz.func46, Tryz.ntmps46
  go_wp2_with (go_at_call 90; refine H.out.mono ?_; rintro e w1 ⟨rfl, hb1⟩; have HB1 := Lib.hid hb1; clear hb1)
  go_ret
  exact ⟨rfl, HB1.out⟩
theorem strCells_bytes (l : Sp.Bs) : Lib.strCells ⟨l.toArray⟩ = bytesV l := by unfold Lib.strCells bytesV; simp
theorem join_any {w : World} {T : Option Addr} {c : Nat} {ps : List Sp.Bs} (hrow : RowAt w T (ps.map str)) (hc : ps.length ≤ c) (hn : ps.length ≤ 1000) (hl : ([32].intercalate ps : Sp.Bs).length ≤ 100000000) :
    Calls Tryz.prog 92 #[.slice T ps.length c, .string ⟨#[32]⟩] w fun e w' => e = .returned (str ([32].intercalate ps)) ∧ Below w.heap.size w w' := by
  rcases hrow with h0 | ⟨g, o, rfl, hlt, h3⟩
  · have : ps = [] := by simpa using h0
    subst this
    exact (Tryz.strings_Join_none T c ⟨#[32]⟩ w).mono fun e w' ⟨h1, h2⟩ => ⟨h1, by rw [h2]; exact Below.refl _ _⟩
  · have hm : (ps.map fun l => (⟨l.toArray⟩ : ByteArray)).map (·.data.toList) = ps := by
      rw [List.map_map]
      conv => rhs; rw [← List.map_id ps]
      exact List.map_congr_left fun x _ => strR_list x
    have := Tryz.strings_Join g o c (ps.map fun l => (⟨l.toArray⟩ : ByteArray)) ⟨#[32]⟩ w (fun j x hx => by
      rw [List.getElem?_map] at hx
      cases e : ps[j]? with
      | none => rw [e] at hx; cases hx
      | some y =>
        rw [e] at hx
        injection hx with hx
        rw [← hx]
        exact h3 j (str y) (by rw [List.getElem?_map, e]; rfl)) hlt (by rw [List.length_map]; omega) (by rw [List.length_map]; exact hc) (by rw [hm]; show ([32].intercalate ps : Sp.Bs).length ≤ _; omega)
    rw [hm, List.length_map] at this
    exact this
section
variable {w : World} {base n : Nat} {v : Value} {xs : List Value}
/-- an append of a text onto bytes of the call's own: it lies where they lay, or in new memory -/
theorem run_append_text {ty : TypeId} (hown : w.ownsRow base 5 1 v n xs) (s : ByteArray) (hbytes : n + s.size ≤ 140737488355328) (hbase : base ≤ w.heap.size) :
    ∃ v' w', (Builtin.append_ #[29, 9] ty #[v, .string s]).run Tryz.prog w = .ok v' w' ∧ w'.ownsRow base 5 1 v' (n + s.size) (xs ++ Lib.strCells s) ∧ w.grownBy w' v.ownBlock ∧ (v'.ownBlock = v.ownBlock ∨ v'.ownBlock = some w.heap.size) := by
  obtain ⟨i, hi, hz, hsz, hby⟩ := info_parts info_u8
  have hu : Tryz.prog.underlying 9 = some .string := by kernel_rfl
  obtain ⟨v', w', hr, h1, h2, h3⟩ := Lib.run_append_own_string (P := Tryz.prog) w base 29 9 ty 5 i Tryz.underlying29 hu hi hz hsz hby v n xs hown s (by unfold maxLen; omega) hbytes hbase
  refine ⟨v', w', hr, h1, h2, ?_⟩
  rcases hown.2 with ⟨rfl, rfl⟩ | ⟨g, cap, cur, rfl, hbg, hg, hnc, hcm, hcs, htake⟩
  · by_cases hs : s.size = 0
    · exact .inl (by rw [h3.2 ⟨rfl, hs⟩])
    · have hr2 := run_append_nil_string (P := Tryz.prog) w 29 9 ty 5 i _ Tryz.underlying29 hu hi hz s (by omega) (by omega) (by rw [hby]; omega)
      rw [hr] at hr2
      injection hr2 with e1 _
      exact .inr (by rw [e1]; rfl)
  · by_cases hroom : n + s.size ≤ cap
    · have hsrc := Src.ofString (P := Tryz.prog) w hu s
      have hbl : (byteCells s).length = s.size := by
        unfold byteCells
        rw [List.length_map, Array.length_toList]
        rfl
      have hbk : Blk w g 5 cur := hg
      have hr2 := run_append_room_src (P := Tryz.prog) w 29 9 ty 5 i Tryz.underlying29 hi g 0 n cap (.string s) s.size (byteCells s) (by rw [hsz]; exact hsrc) hroom (fun j hj => by
        rw [hbk.cell, hsz, Array.getElem?_eq_getElem (by omega)]; rfl) (fun j hj => hbk.frozen _)
      rw [hr] at hr2
      injection hr2 with e1 _
      exact .inl (by rw [e1]; rfl)
    · have hgf := growslice_fits (need := n + s.size) (old := cap) (bytes := 1) (by omega) (by omega)
      have hr2 := Lib.run_append_grow_string (P := Tryz.prog) w 29 9 ty 5 i _ Tryz.underlying29 hu hi hz ⟨g, 0, none⟩ n cap xs (by rw [hown.1, hsz]) (RowAt.of_own hown).cells s (by omega) (by omega) (by rw [hby]; exact hgf)
      rw [hr] at hr2
      injection hr2 with e1 _
      exact .inr (by rw [e1]; rfl)
theorem wpList_append_textL {ops : Array Oper} {rest : List Oper} {o : Oper} {a : Act} {Q : Exit → Act → World → Prop} (hgd : o.guard = none) (sl x : Operand)
    (ho : o.op = .call { callee := .builtin .append, args := #[sl, x], argTypes := #[29, 9] }) (hs : a.eval sl = v) (hown : w.ownsRow base 5 1 v n xs) (s : ByteArray) (hx : a.eval x = .string s)
    (hbytes : n + s.size ≤ 140737488355328) (hbase : base ≤ w.heap.size)
    (h : ∀ v' w', w'.ownsRow base 5 1 v' (n + s.size) (xs ++ Lib.strCells s) → w.grownBy w' v.ownBlock → (v'.ownBlock = v.ownBlock ∨ v'.ownBlock = some w.heap.size) → wpList Tryz.prog ops Q rest (a.put o.dst v') w') :
    wpList Tryz.prog ops Q (o :: rest) a w := by
  refine wpList_plain hgd fun K hK' => ?_
  obtain ⟨v', w', hr, h2, h3, h4⟩ := run_append_text (ty := o.type) hown s hbytes hbase
  unfold Oper.wp execOp
  simp only [ho, resolve, invoke, builtin, Sem.run_bind, Sem.run_pure, Result.andThen_ok, List.map_toArray, List.map_cons, List.map_nil, hs, hx, hr]
  exact hK' _ _ (h v' w' h2 h3 h4)
end
/-- a line, written behind what was there -/
def LineK (w : World) (base : Nat) (ov : Value) (out : Sp.Bs) (e : Ending) (w' : World) : Prop :=
  ∃ O oc, e = .returned (.slice O out.length oc) ∧ w'.ownsRow base 5 1 (.slice O out.length oc) out.length (bytesV out) ∧ w.grownBy w' ov.ownBlock
theorem grown_trans {w w1 w2 : World} {v1 : Value} {row : Option Nat} (h : w.grownBy w1 row) (k : w1.grownBy w2 v1.ownBlock) (hv : ∀ b, v1.ownBlock = some b → row = some b ∨ w.heap.size ≤ b) : w.grownBy w2 row :=
  ⟨k.os.trans h.os, k.tape.trans h.tape, k.output.trans h.output, Nat.le_trans h.size k.size, fun i hi hn => by
    refine (k.block i (Nat.lt_of_lt_of_le hi h.size) fun e => ?_).trans (h.block i hi hn)
    rcases hv i e.symm with h1 | h1
    · exact hn h1.symm
    · omega⟩
set_option maxHeartbeats 4000000 in
set_option maxRecDepth 100000 in
theorem line_reply {w : World} {base : Nat} {ov : Value} {l : Sp.Bs} (hown : w.ownsRow base 5 1 ov l.length (bytesV l)) (hbase : base ≤ w.heap.size) {P : Option Addr} {pc : Nat} {ps : List Sp.Bs} (hP : RowAt w P (ps.map str)) (hc : ps.length ≤ pc) (hn : ps.length ≤ 1000)
    (hps : ([32].intercalate ps : Sp.Bs).length ≤ 100000000) (hl : l.length ≤ 140737288355328) :
    Calls Tryz.prog 49 #[ov, .slice P ps.length pc] w (LineK w base ov (l ++ Sp.lineR ps)) := by
  generalize hR : LineK w base ov (l ++ Sp.lineR ps) = R
  have hj := join_any hP hc hn hps
  obtain ⟨j, hjj⟩ : ∃ j : Sp.Bs, j = [32].intercalate ps := ⟨_, rfl⟩
  rw [← hjj] at hj hps
  have hsz : (⟨j.toArray⟩ : ByteArray).size = j.length := strR_size j
  have HR := Lib.hid hR
  have HJ := Lib.hid hj
  have HOWN := Lib.hid hown
  have HJJ := Lib.hid hjj
  clear hR hj hown hP hjj
  go_enter Tryz.func49, Tryz.ntmps49
  go_wp2_with (first
    | (go_at_call 92; refine HJ.out.mono ?_; rintro e w1 ⟨rfl, hb1⟩; have hs1 := hb1.size; have HOWN1 := Lib.hid (own_later HOWN.out hb1); have HB1 := Lib.hid hb1; clear hb1)
    | (at_builtin; refine wpList_append_textL (v := ov) rfl (.tmp 5) (.tmp 7) rfl rfl HOWN1.out ⟨j.toArray⟩ rfl ?_ ?_ ?_; (rw [hsz]; omega); omega; intro v2 w2 hown2 hg2 hl2; have HOWN2 := Lib.hid hown2; have HG2 := Lib.hid hg2; have HL2 := Lib.hid hl2; have hs2 := hg2.size; clear hown2 hg2 hl2)
    | (at_builtin; refine wpList_append_textL (v := v2) rfl (.tmp 8) (.const (.string ⟨#[13, 10]⟩)) rfl rfl HOWN2.out ⟨#[13, 10]⟩ rfl ?_ ?_ ?_; (rw [hsz]; simp [ByteArray.size]; omega); omega; intro v3 w3 hown3 hg3 hl3; have HL3 := Lib.hid hl3; have HOWN3 := Lib.hid hown3; have HG3 := Lib.hid hg3; clear hown3 hg3))
  have hown3 := HOWN3.out
  obtain ⟨O, oc, hv3⟩ := own_form hown3
  have hlen : l.length + (⟨j.toArray⟩ : ByteArray).size + (⟨#[13, 10]⟩ : ByteArray).size = (l ++ Sp.lineR ps).length := by
    rw [hsz, List.length_append]
    unfold Sp.lineR
    rw [List.length_append, ← HJJ.out]
    show l.length + j.length + 2 = l.length + (j.length + 2)
    omega
  have hcells : bytesV l ++ Lib.strCells ⟨j.toArray⟩ ++ Lib.strCells ⟨#[13, 10]⟩ = bytesV (l ++ Sp.lineR ps) := by
    rw [strCells_bytes j, show Lib.strCells ⟨#[13, 10]⟩ = bytesV [13, 10] from strCells_bytes [13, 10]]
    unfold Sp.lineR
    rw [← HJJ.out, bytesV_append, bytesV_append, List.append_assoc]
  rw [hlen, hcells] at hown3
  rw [hlen] at hv3
  rw [← HR.out]
  refine ⟨O, oc, by rw [← hv3]; rfl, by rw [← hv3]; exact hown3, ?_⟩
  have hg1 : w.grownBy w2 ov.ownBlock := by
    have h1 := HB1.out
    have h2 := HG2.out
    exact ⟨h2.os.trans h1.os, h2.tape.trans h1.tape, h2.output.trans h1.output, Nat.le_trans h1.size h2.size, fun i hi hn => (h2.block i (Nat.lt_of_lt_of_le hi h1.size) hn).trans (h1.block i hi)⟩
  refine grown_trans hg1 HG3.out (fun b hb => ?_)
  rcases HL2.out with h1 | h1
  · exact .inl (by rw [← h1]; exact hb)
  · rw [h1] at hb; injection hb with hb; exact .inr (by omega)
end Go.Proofs.YtnbeeehfapjpdaaGreatDoor
