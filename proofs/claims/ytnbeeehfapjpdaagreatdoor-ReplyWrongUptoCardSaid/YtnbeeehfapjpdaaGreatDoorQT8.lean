/- Walks of what a wrong line is told, by the program and by the document. Walk of the statement ReplyWrong; its argument, opened. An argument of type []Wrong, opened. -/
import Derived.Test.YtnbeeehfapjpdaaGreatDoorU7
import Derived.Test.YtnbeeehfapjpdaaGreatDoorQH1
import Derived.Lib.SlBytesConst
import Derived.Test.YtnbeeehfapjpdaaGreatDoorU6
import Derived.Deep.Strs
section
namespace Go.Proofs.YtnbeeehfapjpdaaGreatDoor
attribute [local go_sem ↓] Go.wp_at_zero Go.wp_at_succ
open Go.RowKit

namespace Sp
/-- what a wrong line is told -/
def wrongR (k : Int) (t : Bs) : Bs := if k = 1 then errorV ++ crlf else if k = 2 then clientErr ++ t ++ crlf else []
end Sp
set_option maxHeartbeats 4000000 in
set_option maxRecDepth 100000 in
theorem wrong_any {w : World} (k : Int) (t : Sp.Bs) (p : Int) (ht : t.length ≤ 1048576) :
    Calls Tryz.prog 32 #[.agg #[.int .i64 k, str t, .int .i64 p]] w fun e w' => ∃ O oc, e = .returned (.slice O (Sp.wrongR k t).length oc) ∧ w'.ownsRow w.heap.size 5 1 (.slice O (Sp.wrongR k t).length oc) (Sp.wrongR k t).length (bytesV (Sp.wrongR k t)) ∧ Below w.heap.size w w' := by
  generalize hR : (fun (e : Ending) (w' : World) => ∃ O oc, e = .returned (.slice O (Sp.wrongR k t).length oc) ∧ w'.ownsRow w.heap.size 5 1 (.slice O (Sp.wrongR k t).length oc) (Sp.wrongR k t).length (bytesV (Sp.wrongR k t)) ∧ Below w.heap.size w w') = R
  obtain ⟨W1, hW1⟩ : ∃ W1, W1 = w.alloc (.cells #[.int .i64 k, str t, .int .i64 p] 83) := ⟨_, rfl⟩
  have hb1 : Below w.heap.size w W1 := by rw [hW1]; exact (Below.refl _ _).alloc (Nat.le_refl _) _
  have hln : ∀ (ps : List Sp.Bs), ps.length ≤ 1000 → ([32].intercalate ps : Sp.Bs).length ≤ 100000000 → Calls Tryz.prog 49 #[nilRow, .slice (some ⟨W1.heap.size, 0, none⟩) ps.length ps.length] (W1.alloc (.cells (ps.map str).toArray 9)) (LineK (W1.alloc (.cells (ps.map str).toArray 9)) w.heap.size nilRow (Sp.lineR ps)) := fun ps h1 h2 => by
    have h := line_reply (base := w.heap.size) (ov := nilRow) (l := []) (w := W1.alloc (.cells (ps.map str).toArray 9)) (World.ownsRow_nil _ _ _ 1) ((hb1.alloc hb1.size _).size) (P := some ⟨W1.heap.size, 0, none⟩) (pc := ps.length) (ps := ps) (row_new W1 rfl 9 (ps.map str)) (Nat.le_refl _) h1 h2 (by simp)
    rw [List.nil_append] at h
    exact h
  have HR := Lib.hid hR
  have HB1 := Lib.hid hb1
  have HLN := Lib.hid hln
  have HW1 := Lib.hid hW1
  by_cases k1 : k = 1
  · subst k1
    have e1 : Sp.wrongR 1 t = Sp.lineR [Sp.errorV] := by unfold Sp.wrongR; rw [if_pos rfl]; rfl
    have h1 := hln [Sp.errorV] (by decide) (by decide)
    have HL1 := Lib.hid h1
    have HE1 := Lib.hid e1
    clear hR hb1 hln hW1 h1 e1
    go_enter Tryz.func32, Tryz.ntmps32
    go_upto_region 1 with fail
    rw [← HW1.out]
    have c0 : W1.cell? ⟨w.heap.size, 0, none⟩ = some (.int .i64 1) := by rw [HW1.out]; exact (Blk.new w _ _).cell 0
    go_wp2_with (go_at_call 49; refine HL1.out.mono ?_; rintro e w2 ⟨O, oc, rfl, hown, hg⟩; have HOWN := Lib.hid hown; have HG := Lib.hid hg; clear hown hg)
    rw [← HR.out, HE1.out]
    exact ⟨O, oc, rfl, HOWN.out, (HB1.out.alloc HB1.out.size _).trans ((Below.of_grown_none HG.out).mono ((HB1.out.alloc HB1.out.size _).size))⟩
  by_cases k2 : k = 2
  · subst k2
    have e1 : Sp.wrongR 2 t = Sp.lineR [[67, 76, 73, 69, 78, 84, 95, 69, 82, 82, 79, 82], t] := by
      unfold Sp.wrongR Sp.lineR
      rw [if_neg (by decide), if_pos rfl]
      simp [List.intercalate, List.intersperse, Sp.clientErr, Sp.crlf]
    have h1 := hln [[67, 76, 73, 69, 78, 84, 95, 69, 82, 82, 79, 82], t] (by simp) (by simp [List.intercalate, List.intersperse]; omega)
    have HL1 := Lib.hid h1
    have HE1 := Lib.hid e1
    have c0 : W1.cell? ⟨w.heap.size, 0, none⟩ = some (.int .i64 2) := by rw [hW1]; exact (Blk.new w _ _).cell 0
    have c1 : W1.cell? ⟨w.heap.size, 1, none⟩ = some (str t) := by rw [hW1]; exact (Blk.new w _ _).cell 1
    clear hR hb1 hln hW1 h1 e1
    go_enter Tryz.func32, Tryz.ntmps32
    go_upto_region 1 with fail
    rw [← HW1.out]
    go_wp2_with (go_at_call 49; refine HL1.out.mono ?_; rintro e w2 ⟨O, oc, rfl, hown, hg⟩; have HOWN := Lib.hid hown; have HG := Lib.hid hg; clear hown hg)
    rw [← HR.out, HE1.out]
    exact ⟨O, oc, rfl, HOWN.out, (HB1.out.alloc HB1.out.size _).trans ((Below.of_grown_none HG.out).mono ((HB1.out.alloc HB1.out.size _).size))⟩
  · have e1 : Sp.wrongR k t = [] := by unfold Sp.wrongR; rw [if_neg k1, if_neg k2]
    have g1 : (k == 1) = false := by simpa using k1
    have g2 : (k == 2) = false := by simpa using k2
    have c0 : W1.cell? ⟨w.heap.size, 0, none⟩ = some (.int .i64 k) := by rw [hW1]; exact (Blk.new w _ _).cell 0
    have HE1 := Lib.hid e1
    clear hR hb1 hln hW1 e1 k1 k2 ht
    go_enter Tryz.func32, Tryz.ntmps32
    go_upto_region 1 with fail
    rw [← HW1.out]
    go_wp2_with fail
    rw [← HR.out, HE1.out]
    exact ⟨none, 0, rfl, World.ownsRow_nil _ _ _ 1, HB1.out⟩
theorem row_marked (w : World) (t : TypeId) (us : List Value) (a b : Nat) : RowAt (w.alloc (.cells us.toArray t (a, b))) (some ⟨w.heap.size, 0, none⟩) us :=
  .inr ⟨_, 0, rfl, by simp, fun j u hu => by
    unfold World.cell?
    rw [heap_alloc_new, Nat.zero_add]
    simpa using hu⟩
/-- bytes that were told, to be read -/
def ToldRow (w : World) (l : Sp.Bs) (e : Ending) (w' : World) : Prop :=
  ∃ B bc, e = .returned (.slice B l.length bc) ∧ RowAt w' B (bytesV l) ∧ Below w.heap.size w w' ∧ (B = none → bc = 0) ∧ ∀ a, B = some a → w.heap.size ≤ a.block
set_option maxHeartbeats 4000000 in
set_option maxRecDepth 100000 in
theorem refWrong_any {w : World} (k : Int) (t : Sp.Bs) (p : Int) (ht : t.length ≤ 1048576) :
    Calls Tryz.prog 33 #[.agg #[.int .i64 k, str t, .int .i64 p]] w (ToldRow w (Sp.wrongR k t)) := by
  generalize hR : ToldRow w (Sp.wrongR k t) = R
  obtain ⟨W1, hW1⟩ : ∃ W1, W1 = w.alloc (.cells #[.int .i64 k, str t, .int .i64 p] 83) := ⟨_, rfl⟩
  have hb1 : Below w.heap.size w W1 := by rw [hW1]; exact (Below.refl _ _).alloc (Nat.le_refl _) _
  have c0 : W1.cell? ⟨w.heap.size, 0, none⟩ = some (.int .i64 k) := by rw [hW1]; exact (Blk.new w _ _).cell 0
  have c1 : W1.cell? ⟨w.heap.size, 1, none⟩ = some (str t) := by rw [hW1]; exact (Blk.new w _ _).cell 1
  have HR := Lib.hid hR
  have HB1 := Lib.hid hb1
  have HW1 := Lib.hid hW1
  by_cases k1 : k = 1
  · subst k1
    have e1 : Sp.wrongR 1 t = [69, 82, 82, 79, 82, 13, 10] := by unfold Sp.wrongR; rw [if_pos rfl]; rfl
    have HE1 := Lib.hid e1
    have hcv := fun (w : World) (C : Array Value) (n c : Nat) => Lib.run_convert_bytes_const (P := Tryz.prog) w 29 5 C n c Tryz.underlying29 Tryz.underlying5
    clear hR hb1 hW1 e1 c1
    go_enter Tryz.func33, Tryz.ntmps33
    go_upto_region 1 with fail
    rw [← HW1.out]
    go_wp2_with fail
    rw [← HR.out, HE1.out]
    exact ⟨some ⟨W1.heap.size, 0, none⟩, 7, rfl, row_marked W1 5 (bytesV [69, 82, 82, 79, 82, 13, 10]) _ _, HB1.out.alloc HB1.out.size _, (fun e => by cases e), (fun a ha => by rw [← Option.some.inj ha]; exact HB1.out.size)⟩
  by_cases k2 : k = 2
  · subst k2
    have e1 : Sp.wrongR 2 t = Sp.clientErr ++ t ++ [13, 10] := by unfold Sp.wrongR; rw [if_neg (by decide), if_pos rfl]; rfl
    have hl : (Sp.wrongR 2 t).length ≤ 2000000 := by rw [e1]; simp [Sp.clientErr]; omega
    obtain ⟨zb, hzb⟩ : ∃ zb : ByteArray, zb = { data := #[67, 76, 73, 69, 78, 84, 95, 69, 82, 82, 79, 82, 32] } ++ { data := t.toArray } ++ { data := #[13, 10] } := ⟨_, rfl⟩
    have hzs : zb = ⟨(Sp.wrongR 2 t).toArray⟩ := by
      rw [hzb, e1]
      apply ByteArray.ext
      simp [Sp.clientErr]
    obtain ⟨W3, cp2, hcv, hfr, hb3⟩ := convert_free W1 (Sp.wrongR 2 t) (base := W1.heap.size) (Nat.le_refl _) (by unfold maxLen; omega)
    rw [← hzs] at hcv
    have hcat := hzb.symm
    have HFR := Lib.hid hfr.row
    have HB3 := Lib.hid hb3
    clear hR hb1 hW1 e1 hzb hfr hb3 hzs
    go_enter Tryz.func33, Tryz.ntmps33
    go_upto_region 1 with fail
    rw [← HW1.out]
    go_wp2_with fail
    rw [← HR.out]
    exact ⟨some ⟨W1.heap.size, 0, none⟩, cp2, rfl, HFR.out, HB1.out.trans (HB3.out.mono HB1.out.size), (fun e => by cases e), (fun a ha => by rw [← Option.some.inj ha]; exact HB1.out.size)⟩
  · have e1 : Sp.wrongR k t = [] := by unfold Sp.wrongR; rw [if_neg k1, if_neg k2]
    have g1 : (k == 1) = false := by simpa using k1
    have g2 : (k == 2) = false := by simpa using k2
    have HE1 := Lib.hid e1
    clear hR hb1 hW1 e1 k1 k2 ht c1
    go_enter Tryz.func33, Tryz.ntmps33
    go_upto_region 1 with fail
    rw [← HW1.out]
    go_wp2_with fail
    rw [← HR.out, HE1.out]
    exact ⟨none, 0, rfl, .inl rfl, HB1.out, fun _ => rfl, fun a ha => by cases ha⟩
end Go.Proofs.YtnbeeehfapjpdaaGreatDoor
end
section
namespace Go.Proofs.YtnbeeehfapjpdaaGreatDoor
attribute [local go_sem ↓] Go.wp_at_zero Go.wp_at_succ
open Go.RowKit

/-- a wrong line -/
structure WrongV where
  kind : Int
  text : Sp.Bs
  pass : Int
def WrongV.cells (x : WrongV) : List Value := [.int .i64 x.kind, str x.text, .int .i64 x.pass]
/-- Held, and what else the statement leaves as it was -/
structure HeldOn (w : World) (f : Nat → Lab) (hk : Nat) (g wv : Value) (n : Int) (vs ws : List Value) (bs : List Sp.Bs) (wr : World) : Prop where
  held : HeldAt wr f hk g wv n vs ws bs
  small : n < 2097152
  few : bs.length < 250
  below : Below w.heap.size w wr
  lab : ∀ k, k < w.heap.size → f k = (0, 0)
theorem HeldOn.new (w : World) : HeldOn w (fun k => if k = w.heap.size then (1, 0) else (0, 0)) w.heap.size nilRow nilRow 0 [] [] [] (w.alloc (.cells (heldArr nilRow nilRow 0) 26)) :=
  ⟨HeldAt.new w _ (if_pos rfl), by decide, by decide, (Below.refl _ _).alloc (Nat.le_refl _) _, fun k hk => if_neg (by omega)⟩
/-- labels behind a list that was told, and what it must hold -/
def labTold (f : Nat → Lab) (wr : World) (O : Option Addr) (i : Nat) : Nat → Lab := fun k => if k < wr.heap.size then f k else if O.map Addr.block = some k then (2, i) else (0, 0)
theorem HeldOn.add {w wr w2 : World} {f : Nat → Lab} {hk : Nat} {g wv : Value} {n : Int} {vs ws : List Value} {bs : List Sp.Bs} (h : HeldOn w f hk g wv n vs ws bs wr) (hb : Below wr.heap.size wr w2) {O B : Option Addr} {oc bc base : Nat} {l : Sp.Bs}
    (ho : w2.ownsRow base 5 1 (.slice O l.length oc) l.length (bytesV l)) (hbase : wr.heap.size ≤ base) (hB : RowAt w2 B (bytesV l)) (hBn : B = none → bc = 0) (hBO : ∀ a b, O = some a → B = some b → a.block ≠ b.block) (hBg : ∀ b, B = some b → w.heap.size ≤ b.block → wr.heap.size ≤ b.block) (hlen : l.length ≤ 1000000000) :
    Calls Tryz.prog 21 #[.pointer (some ⟨hk, 0, none⟩), .slice O l.length oc, .slice B l.length bc] w2 fun e w' => e = .returned (.bool true) ∧ ∃ f1 g' wv' n' vs' ws' bs', HeldOn w f1 hk g' wv' n' vs' ws' bs' w' := by
  obtain ⟨f', hf'⟩ : ∃ f', f' = labTold f wr O bs.length := ⟨_, rfl⟩
  have hold : ∀ k, k < wr.heap.size → f' k = f k := fun k hk => by rw [hf']; exact if_pos hk
  have h2 := h.held.later hb hold
  have hv : LabV f' (.slice O l.length oc) (2, bs.length) := fun b hb2 => by
    have h1 := own_ge ho b (by simpa [rowBlock] using hb2)
    rw [hf']
    unfold labTold
    rw [if_neg (by omega), if_pos (by
      cases O with
      | none => cases hb2
      | some a => simpa [Value.ownBlock] using hb2)]
  have hlow : ∀ k, k < w.heap.size → f' k = (0, 0) := fun k hk => (hold k (Nat.lt_of_lt_of_le hk h.below.size)).trans (h.lab k hk)
  have hBl : l ≠ [] → ∀ a, B = some a → ¬ OnH (f' a.block) := fun _ a ha => by
    by_cases h1 : a.block < w.heap.size
    · rw [hlow _ h1]; exact onH_no (by decide) (by decide) (by decide) (by decide)
    · have h3 := hBg a ha (by omega)
      rw [hf']
      unfold labTold
      rw [if_neg (by omega), if_neg]
      · exact onH_no (by decide) (by decide) (by decide) (by decide)
      · intro e
        cases O with
        | none => cases e
        | some o =>
          have e2 : o.block = a.block := by simpa using e
          exact hBO o a rfl ha e2
  refine (heldAdd_any h2 h.small h.few (LotB.of_row ho) hv hB hBn hBl hlen).mono fun e w' ⟨he, f1, g', wv', n', vs', ws', bs', ho1, hh, h5, h6⟩ => ?_
  have hbw : Below w.heap.size w w2 := h.below.trans (hb.mono h.below.size)
  exact ⟨he, f1, g', wv', n', vs', ws', bs', hh, h5, h6, hbw.trans (ho1.below hbw.size (fun k hk => by rw [hlow k hk]; exact onH_no (by decide) (by decide) (by decide) (by decide))), fun k hk => (ho1.lab k (Nat.lt_of_lt_of_le hk hbw.size)).trans (hlow k hk)⟩
theorem HeldOn.own {w wr : World} {f : Nat → Lab} {hk : Nat} {g wv : Value} {n : Int} {vs ws : List Value} {bs : List Sp.Bs} (h : HeldOn w f hk g wv n vs ws bs wr) :
    Calls Tryz.prog 22 #[.pointer (some ⟨hk, 0, none⟩)] wr fun e w' => e = .returned (.bool true) ∧ Below w.heap.size w w' :=
  (heldOwn_any h.held).mono fun e w' ⟨he, f1, ho, _⟩ => ⟨he, h.below.trans (ho.below h.below.size (fun k hk => by rw [h.lab k hk]; exact onH_no (by decide) (by decide) (by decide) (by decide)))⟩
set_option maxHeartbeats 8000000 in
set_option maxRecDepth 100000 in
theorem replyWrong_any {w : World} (hg : GlobR w) {A : Option Addr} {ac : Nat} {xs : List WrongV} (hA : RowAt w A (xs.flatMap WrongV.cells)) (hx : ∀ x ∈ xs, x.text.length ≤ 1048576) (hn : xs.length ≤ 1048576) :
    Calls Tryz.prog 9 #[.slice A xs.length ac] w fun e w' => e = .returned (.bool true) ∧ Below w.heap.size w w' := by
  generalize hR : (fun (e : Ending) (w' : World) => e = .returned (.bool true) ∧ Below w.heap.size w w') = R
  have hst := HeldOn.new w
  have hwk : ∀ W : World, Below w.heap.size w W → Calls Tryz.prog 23 #[] W fun e w' => e = .returned (.bool true) ∧ Below W.heap.size W w' := fun W hW => wakes13_any (hg.later hW)
  have HR := Lib.hid hR
  have HST := Lib.hid hst
  have HWK := Lib.hid hwk
  have HA := Lib.hid hA
  have HX := Lib.hid hx
  clear hR hst hwk hA hx hg
  go_enter Tryz.func9, Tryz.ntmps9
  go_wp2_with fail
  go_loopw [4, 5, 6, 7] (fun iv _ _ _ wr => ∃ (i : Nat) (f : Nat → Lab) (g wv : Value) (n : Int) (vs ws : List Value) (bs : List Sp.Bs), i ≤ xs.length ∧ iv = .int .i64 i ∧ HeldOn w f w.heap.size g wv n vs ws bs wr) (fun iv _ _ _ _ => xs.length - (intOf iv).toNat)
  case atStart => exact ⟨0, _, _, _, _, _, _, _, Nat.zero_le _, rfl, HST.out⟩
  case round =>
    obtain ⟨i, f, g, wv, n, vs, ws, bs, hi, rfl, hh⟩ := hrel
    by_cases hlt : i < xs.length
    · have hi1 : (i : Int) < (xs.length : Int) := by omega
      by_cases h20 : i < 200
      · have hi2 : (i : Int) < 200 := by omega
        obtain ⟨x, hxi⟩ : ∃ x, xs[i]? = some x := ⟨xs[i], by simp [hlt]⟩
        have htx := HX.out x (List.mem_of_getElem? hxi)
        have hc : ∀ (j : Nat) (u : Value), x.cells[j]? = some u → (xs.flatMap WrongV.cells)[i * 3 + j]? = some u := fun j u hu => by
          have hj : j < 3 := (List.getElem?_eq_some_iff.1 hu).1
          rw [flatMap_get (k := 3) (f := WrongV.cells) (fun _ _ => rfl) hxi hj]; exact hu
        obtain ⟨gA, oA, hAe, hgA, hcell⟩ : ∃ gA oA, A = some ⟨gA, oA, none⟩ ∧ gA < w.heap.size ∧ ∀ (j : Nat) (u : Value), x.cells[j]? = some u → w.cell? ⟨gA, oA + (i * 3 + j), none⟩ = some u := by
          rcases HA.out with h0 | ⟨b, o, h1, h2, h3⟩
          · have := hc 0 _ rfl; rw [h0] at this; cases this
          · exact ⟨b, o, h1, h2, fun j u hu => h3 _ _ (hc j u hu)⟩
        subst hAe
        have x0 : ∀ W : World, Below w.heap.size w W → W.cell? ⟨gA, oA + i * 3, none⟩ = some (.int .i64 x.kind) := fun W hW => (hW.cell (p := ⟨gA, oA + i * 3, none⟩) hgA).trans (hcell 0 _ rfl)
        have x1 : ∀ W : World, Below w.heap.size w W → W.cell? ⟨gA, oA + i * 3 + 1, none⟩ = some (str x.text) := fun W hW => (hW.cell (p := ⟨gA, oA + i * 3 + 1, none⟩) hgA).trans (by have := hcell 1 _ rfl; rwa [← Nat.add_assoc] at this)
        have x2 : ∀ W : World, Below w.heap.size w W → W.cell? ⟨gA, oA + i * 3 + 2, none⟩ = some (.int .i64 x.pass) := fun W hW => (hW.cell (p := ⟨gA, oA + i * 3 + 2, none⟩) hgA).trans (by have := hcell 2 _ rfl; rwa [← Nat.add_assoc] at this)
        have HH := Lib.hid hh
        have hwl := fun W : World => wrong_any (w := W) x.kind x.text x.pass htx
        have hrl := fun W : World => refWrong_any (w := W) x.kind x.text x.pass htx
        obtain ⟨l, hl⟩ : ∃ l, l = Sp.wrongR x.kind x.text := ⟨_, rfl⟩
        have hll : l.length ≤ 2000000 := by
          rw [hl]; unfold Sp.wrongR
          split
          · decide
          · split
            · simp [Sp.clientErr, Sp.crlf]; omega
            · simp
        rw [← hl] at hwl hrl
        have HWL := Lib.hid hwl
        have HRL := Lib.hid hrl
        clear hh hlt h20 hc hcell hxi hwl hrl hl htx
        go_wp2_with fail
        go_loopw [5, 6, 7] (fun jv _ _ wx => ∃ (j : Nat) (f : Nat → Lab) (g wv : Value) (n : Int) (vs ws : List Value) (bs : List Sp.Bs), j ≤ 2 ∧ jv = .int .i64 j ∧ HeldOn w f w.heap.size g wv n vs ws bs wx) (fun jv _ _ _ => 2 - (intOf jv).toNat)
        case atStart => exact ⟨0, _, _, _, _, _, _, _, Nat.zero_le _, rfl, HH.out⟩
        case round =>
          obtain ⟨j, f, g, wv, n, vs, ws, bs, hj, rfl, hh⟩ := hrel
          by_cases hlj : j < 2
          · have hj1 : (j : Int) < 2 := by omega
            have hbw := hh.below
            have HH2 := Lib.hid hh
            clear hh hlj
            go_wp2_with (first
              | (go_at_call 32; refine (HWL.out _).mono ?_; rintro e w3 ⟨O, oc, rfl, hown3, hb3⟩; have hbw3 : Below w.heap.size w w3 := hbw.trans (hb3.mono hbw.size); have HOWN3 := Lib.hid hown3; have HB3 := Lib.hid hb3; clear hown3 hb3)
              | (go_at_call 33; refine (HRL.out _).mono ?_; rintro e w4 ⟨B, bc, rfl, hrow4, hb4, hn4, hg4⟩; have hown4 := own_later HOWN3.out hb4; have heq := eq01_any (ca := oc) (cb := bc) (RowAt.of_own hown4) hrow4; have hlt3 := own_lt HOWN3.out; have had := HH2.out.add (HB3.out.trans (hb4.mono HB3.out.size)) hown4 (Nat.le_refl _) hrow4 hn4 (fun a b ha hb e => by have h1 := hlt3 a.block (by rw [ha]; simp [rowBlock, Value.ownBlock]); have h2 := hg4 b hb; omega) (fun b hb _ => Nat.le_trans HB3.out.size (hg4 b hb)) (by omega); have HEQ := Lib.hid heq; have HAD := Lib.hid had; clear hrow4 hn4 hg4 hown4 heq had hb4 hlt3)
              | (go_at_call 18; refine HEQ.out.mono ?_; rintro e w5 ⟨rfl, rfl⟩)
              | (go_at_call 21; refine HAD.out.mono ?_; rintro e w6 ⟨rfl, f6, g6, wv6, n6, vs6, ws6, bs6, hh6⟩; have HH6 := Lib.hid hh6; clear hh6))
            exact ⟨⟨j + 1, _, _, _, _, _, _, _, by omega, by go_num, HH6.out⟩, by show 2 - ((j : Int) + 1).toNat < 2 - (j : Int).toNat; omega⟩
          · have hj1 : decide ((j : Int) < 2) = false := decide_eq_false (by omega)
            have HH2 := Lib.hid hh
            clear hh hlj
            go_wp2_with fail
            exact ⟨⟨i + 1, _, _, _, _, _, _, _, by omega, by go_num, HH2.out⟩, by show xs.length - ((i : Int) + 1).toNat < xs.length - (i : Int).toNat; omega⟩
      · have hi2 : decide ((i : Int) < 200) = false := decide_eq_false (by omega)
        have how := hh.own
        have HOW := Lib.hid how
        clear hlt h20 hh how
        go_wp2_with (first
          | (go_at_call 22; refine HOW.out.mono ?_; rintro e w5 ⟨rfl, hb5⟩; have HB5 := Lib.hid hb5; clear hb5)
          | (go_at_call 23; refine (HWK.out _ HB5.out).mono ?_; rintro e w6 ⟨rfl, hb6⟩; have HB6 := Lib.hid (HB5.out.trans (hb6.mono HB5.out.size)); clear hb6))
        rw [← HR.out]
        exact ⟨rfl, HB6.out⟩
    · have hi1 : decide ((i : Int) < (xs.length : Int)) = false := decide_eq_false (by omega)
      have hi3 : decide (i < xs.length) = false := decide_eq_false hlt
      have how := hh.own
      have HOW := Lib.hid how
      clear hlt hh how
      go_wp2_with (first
        | (go_at_call 22; refine HOW.out.mono ?_; rintro e w5 ⟨rfl, hb5⟩; have HB5 := Lib.hid hb5; clear hb5)
        | (go_at_call 23; refine (HWK.out _ HB5.out).mono ?_; rintro e w6 ⟨rfl, hb6⟩; have HB6 := Lib.hid (HB5.out.trans (hb6.mono HB5.out.size)); clear hb6))
      rw [← HR.out]
      exact ⟨rfl, HB6.out⟩
end Go.Proofs.YtnbeeehfapjpdaaGreatDoor
end
section
namespace Go.Proofs.YtnbeeehfapjpdaaGreatDoor
open Go.ChangeShapes Go.WideShapes Go.ChangeAt Go.RowKit
section
variable {H : Type} {enc : TypeId × Value → H} {w : World} {held : Bool}
set_option maxRecDepth 100000 in
theorem open_wrong {n : Nat} {cs : List Value} {x : DataW H × List MemPlace} (h : DataW.trod enc Tryz.prog w 0 (fun _ => true) held n 83 cs = some x) (hl : cs.length = 3) :
    ∃ X : WrongV, cs = X.cells ∧ X.text.length + 1 ≤ Rows.uptoBulk x.1 := by
  obtain ⟨y0, y1, y2, n', rfl, _, g0, g1, g2⟩ := Go.Deep.trod_struct3 Tryz.underlying83 h
  match cs, hl with
  | [c0, c1, c2], _ =>
    have e0 : Tryz.prog.cellsOf 3 = 1 := by kernel_rfl
    have e1 : Tryz.prog.cellsOf 9 = 1 := by kernel_rfl
    simp only [e0, e1, List.drop_zero, List.drop_succ_cons, List.take_succ_cons, List.take_zero] at g0 g1 g2
    obtain ⟨z, k0, _, _⟩ := DataW.trod_int Tryz.underlying3 g0
    obtain ⟨s, k1, q1, _⟩ := DataW.trod_string Tryz.underlying9 g1
    obtain ⟨p, k2, _, _⟩ := DataW.trod_int Tryz.underlying3 g2
    injection k0 with k0; injection k1 with k1; injection k2 with k2
    subst k0 k1 k2
    refine ⟨⟨z, s.data.toList, p⟩, ?_, ?_⟩
    · unfold WrongV.cells; rw [← str_back]
    · simp only [Rows.uptoBulk, Rows.uptoBulkAll]
      rw [q1, Rows.uptoBulk]
      show s.data.toList.length + 1 ≤ _
      omega
set_option maxRecDepth 100000 in
theorem open_wrongs {base : Nat} {v : Value} {d : DataW H} {p : List MemPlace} (hv : Value.okWide Tryz.prog w .any base 80 v) (h : DataW.Trod enc Tryz.prog w 0 (fun _ => true) held 80 v d p) (hw : Rows.uptoBulk d ≤ 1048576) :
    ∃ (A : Option Addr) (cap : Nat) (xs : List WrongV), v = .slice A xs.length cap ∧ RowAt w A (xs.flatMap WrongV.cells) ∧ xs.length ≤ 1048576 ∧ ∀ x ∈ xs, x.text.length ≤ 1048576 := by
  obtain ⟨fuel, h⟩ := h
  obtain ⟨a0, n0, c0, rfl⟩ := okWide_slice Tryz.underlying80 hv
  replace h : DataW.trod enc Tryz.prog w 0 (fun _ => true) held fuel 80 [.slice a0 n0 c0] = some (d, p) := h
  have hlen := bulk_len Tryz.underlying80 h
  obtain ⟨A, cap, l, hv', h1, h2, h3, h4, h5⟩ := open_list (k := 3) WrongV.cells (fun X d => X.text.length + 1 ≤ Rows.uptoBulk d) (by decide) (fun _ => rfl) Tryz.underlying80 (by kernel_rfl) (fun n cs x hx hl => open_wrong hx hl) h
  refine ⟨A, cap, l, hv', h1, ?_, fun x hx => ?_⟩
  · injection hv' with _ e _
    rw [← e]
    have : n0 ≤ Rows.uptoBulk d := hlen
    omega
  · obtain ⟨i, hi⟩ := List.getElem?_of_mem hx
    rcases h5 with ⟨rfl, _⟩ | ⟨es, sp, hy, _, _, hq⟩
    · cases hx
    · obtain ⟨d', hd', hg⟩ := hq i x hi
      change d = _ at hy
      subst hy
      have := (bulk_slice (es := es) (sp := sp)).2 d' (List.mem_of_getElem? hd')
      omega
end
end Go.Proofs.YtnbeeehfapjpdaaGreatDoor
end
