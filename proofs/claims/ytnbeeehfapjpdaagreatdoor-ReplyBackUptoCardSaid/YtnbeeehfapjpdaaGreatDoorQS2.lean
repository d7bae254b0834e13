/- Plain law for the statement ReplyOne, of any command. No program in sight. Walk of the statement ReplyBack: what fits is written, and read again. Printed by gen/genT3.py. The statement ReplyBack of whatever came in; its argument, opened. -/
import Derived.Test.YtnbeeehfapjpdaaGreatDoorQS1
import Derived.Test.YtnbeeehfapjpdaaGreatDoorT2
section
namespace Go.Proofs.YtnbeeehfapjpdaaGreatDoor
namespace Sp
/-- of any bytes: wanted, answered, refused: one of the three at each beginning, in this order -/
structure OneNr (v : Int) (keys : List Bs) (what : Bs) (nr : Bool) (raw : Bs) (r : AnswerV × Nat × Int) (f : Nat → AnswerV × Nat × Int) : Prop where
  le : r.2.1 ≤ raw.length
  err : r.2.2 = 0 ∨ (r.2.2 = 7 ∧ r.2.1 = 0 ∧ r.1 = {})
  fits : 0 < r.2.1 → nr = false ∧ fitsV v keys what r.1 = true ∧ r.1.kind ≠ 12 ∧ answerW v r.1 = raw.take r.2.1
  at_fail : ∀ k, k ≤ raw.length → (f k).2.2 ≠ 0 → r.2.1 = 0 ∧ r.2.2 ≠ 0 ∧ ∀ k', k ≤ k' → (f k').2.2 ≠ 0
  at_got : ∀ k, k ≤ raw.length → 0 < (f k).2.1 → (f k).2.2 = 0 → (f k).2.1 = r.2.1 ∧ r.2.1 ≤ k ∧ (f k).1 = r.1
  at_more : ∀ k, k ≤ raw.length → (f k).2.1 = 0 → (f k).2.2 = 0 → (0 < r.2.1 → k < r.2.1) ∧ (f k).1 = {}
theorem answer_none {v : Int} {keys : List Bs} {what : Bs} {nr : Bool} (hk : kindsV v what = []) (raw : Bs) : answerR raw v keys what nr = ({}, 0, 7) := by
  unfold answerR; rw [if_pos hk]
theorem answer_quiet {v : Int} {keys : List Bs} {what : Bs} {nr : Bool} (hk : kindsV v what ≠ []) (h : nr = true ∨ v = 18) (raw : Bs) : answerR raw v keys what nr = ({}, 0, 0) := by
  unfold answerR; rw [if_neg hk, if_pos h]
theorem one_any (v : Int) (keys : List Bs) (what : Bs) (nr : Bool) (raw : Bs) : OneNr v keys what nr raw (answerR raw v keys what nr) (fun k => answerR (raw.take k) v keys what nr) := by
  by_cases hk : kindsV v what = []
  · have h := answer_none (keys := keys) (nr := nr) hk
    refine ⟨?_, ?_, ?_, ?_, ?_, ?_⟩
    · rw [h]; exact Nat.zero_le _
    · rw [h]; exact .inr ⟨rfl, rfl, rfl⟩
    · intro h0; rw [h] at h0; exact absurd h0 (by decide)
    · intro k _ _
      refine ⟨by rw [h], by rw [h]; decide, fun k' _ => ?_⟩
      show (answerR (raw.take k') v keys what nr).2.2 ≠ 0
      rw [h]; decide
    · intro k _ h0 _
      have h0 : 0 < (answerR (raw.take k) v keys what nr).2.1 := h0
      rw [h] at h0; exact absurd h0 (by decide)
    · intro k _ _ h0
      have h0 : (answerR (raw.take k) v keys what nr).2.2 = 0 := h0
      rw [h] at h0; exact absurd h0 (by decide)
  by_cases hq : nr = true ∨ v = 18
  · have h := answer_quiet (keys := keys) hk hq
    refine ⟨?_, ?_, ?_, ?_, ?_, ?_⟩
    · rw [h]; exact Nat.zero_le _
    · rw [h]; exact .inl rfl
    · intro h0; rw [h] at h0; exact absurd h0 (by decide)
    · intro k _ h0
      have h0 : (answerR (raw.take k) v keys what nr).2.2 ≠ 0 := h0
      rw [h] at h0; exact absurd rfl h0
    · intro k _ h0 _
      have h0 : 0 < (answerR (raw.take k) v keys what nr).2.1 := h0
      rw [h] at h0; exact absurd h0 (by decide)
    · intro k _ _ _
      refine ⟨fun h0 => by rw [h] at h0; exact absurd h0 (by decide), ?_⟩
      show (answerR (raw.take k) v keys what nr).1 = {}
      rw [h]
  have hn : nr = false := by cases nr <;> simp_all
  have hv : v ≠ 18 := fun e => hq (.inr e)
  subst hn
  have h := one_law (keys := keys) hk hv raw
  exact ⟨h.le, h.err, fun h0 => ⟨rfl, h.fits h0⟩, h.at_fail, h.at_got, h.at_more⟩
end Sp
end Go.Proofs.YtnbeeehfapjpdaaGreatDoor
end
section
namespace Go.Proofs.YtnbeeehfapjpdaaGreatDoor
attribute [local go_sem ↓] Go.wp_at_zero Go.wp_at_succ
open Go.RowKit

theorem own_slice_some {w : World} {base : Nat} {e : TypeId} {size n : Nat} {v : Value} {xs : List Value} (h : w.ownsRow base e size v n xs) (hn : n ≠ 0) : ∃ g c, v = .slice (some ⟨g, 0, none⟩) n c := by
  rcases h.2 with ⟨_, h2⟩ | ⟨g, cap, cur, h1, _⟩
  · exact absurd h2 hn
  · exact ⟨g, cap, h1⟩
theorem RowAt.low {w w' : World} {A : Option Addr} {xs : List Value} {B : Nat} (h : RowAt w A xs) (hb : Below B w w') (hA : ∀ a, A = some a → a.block < B) : RowAt w' A xs := by
  rcases h with h | ⟨b, o, h1, h2, h3⟩
  · exact .inl h
  · exact .inr ⟨b, o, h1, Nat.lt_of_lt_of_le h2 hb.size, fun j u hu => (World.cell?_of_block (hb.block b (hA _ h1))).trans (h3 j u hu)⟩
theorem blank_rd {z : AnsX} (h : z.v = {}) (W : World) : AnsRd W z := by
  have h1 := congrArg Sp.AnswerV.entries h
  have h2 := congrArg Sp.AnswerV.stats h
  simp only [AnsX.v] at h1 h2
  have h3 : z.xs = [] := List.map_eq_nil_iff.1 h1
  exact ⟨.inl (by rw [h3]; rfl), fun y hy => (by rw [h3] at hy; cases hy), .inl (by rw [h2]; rfl), by rw [h3, h2]; decide⟩
theorem AnsGood.sized {w : World} {x : AnsX} (h : AnsGood w x) : Sp.Sized x.v := by
  refine ⟨h.mem.number, fun e he => ?_, fun y hy => (h.mem.lines y hy).2⟩
  obtain ⟨z, hz, rfl⟩ := List.mem_map.1 he
  exact (h.mem.ents.each z hz).2.2.2.2.2.2
theorem AnsOwn.rd {w : World} {base : Nat} {y : AnsX} {a : Sp.AnswerV} (h : AnsOwn w base y) (hy : y.v = a) (hl : a.entries.length ≤ 1000000000 ∧ a.stats.length ≤ 1000000000) : AnsRd w y := by
  refine ⟨RowAt.of_own h.ents.row, fun z hz => RowAt.of_own (h.ents.each z hz), RowAt.of_own h.stats, ?_⟩
  subst hy
  simp only [AnsX.v, List.length_map] at hl
  omega
set_option maxHeartbeats 16000000 in
set_option maxRecDepth 100000 in
theorem back_some {w : World} {v : Int} {K : Option Addr} {keys : List Sp.Bs} {kc : Nat} {fl ex tk dl : Int} {D : Option Addr} {dn dc : Nat} {lg : Bool} {M : Option Addr} {mn mc : Nat} {what : Sp.Bs} {R : AnsX} {B : Option Addr} {bc : Nat} {beh : Sp.Bs} {A : Option Addr} {ac : Nat} {ks : List Int} (hx : BackH w v K keys kc R B bc beh A ks) (hl : ¬ 65536 < beh.length) (hf : Sp.fitsV v keys what R.v = true) (hk : R.kind ≠ 12) :
    Calls Tryz.prog 6 #[.agg #[.int .i64 v, .slice K keys.length kc, .int .u64 fl, .int .i64 ex, .int .u64 tk, .int .u64 dl, .slice D dn dc, .bool false, .bool lg, .slice M mn mc, str what, .int .i64 R.kind, .slice R.E R.xs.length R.ec, .int .u64 R.number, str R.text, .slice R.S R.stats.length R.sc, .slice B beh.length bc, .slice A ks.length ac]] w fun e w' => e = .returned (.bool true) ∧ Below w.heap.size w w' := by
  generalize hR : (fun (e : Ending) (w' : World) => e = .returned (.bool true) ∧ Below w.heap.size w w') = RR
  have hal : Below w.heap.size w (w.alloc (.cells #[.int .i64 v, .slice K keys.length kc, .int .u64 fl, .int .i64 ex, .int .u64 tk, .int .u64 dl, .slice D dn dc, .bool false, .bool lg, .slice M mn mc, str what, .int .i64 R.kind, .slice R.E R.xs.length R.ec, .int .u64 R.number, str R.text, .slice R.S R.stats.length R.sc, .slice B beh.length bc, .slice A ks.length ac] 76)) := (Below.refl _ _).alloc (Nat.le_refl _) _
  have hqx := Blk.new w 76 #[.int .i64 v, .slice K keys.length kc, .int .u64 fl, .int .i64 ex, .int .u64 tk, .int .u64 dl, .slice D dn dc, .bool false, .bool lg, .slice M mn mc, str what, .int .i64 R.kind, .slice R.E R.xs.length R.ec, .int .u64 R.number, str R.text, .slice R.S R.stats.length R.sc, .slice B beh.length bc, .slice A ks.length ac]
  obtain ⟨W1, hW1⟩ : ∃ W1, W1 = w.alloc (.cells #[.int .i64 v, .slice K keys.length kc, .int .u64 fl, .int .i64 ex, .int .u64 tk, .int .u64 dl, .slice D dn dc, .bool false, .bool lg, .slice M mn mc, str what, .int .i64 R.kind, .slice R.E R.xs.length R.ec, .int .u64 R.number, str R.text, .slice R.S R.stats.length R.sc, .slice B beh.length bc, .slice A ks.length ac] 76) := ⟨_, rfl⟩
  rw [← hW1] at hal hqx
  obtain ⟨qx, hqe⟩ : ∃ qx, qx = w.heap.size := ⟨_, rfl⟩
  rw [← hqe] at hqx
  have hks : ∀ W : World, Below W1.heap.size W1 W → W.cell? ⟨qx, 0, none⟩ = some (.int .i64 v) ∧ W.cell? ⟨qx, 1, none⟩ = some (.slice K keys.length kc) ∧ W.cell? ⟨qx, 2, none⟩ = some (.int .u64 fl) ∧ W.cell? ⟨qx, 3, none⟩ = some (.int .i64 ex) ∧ W.cell? ⟨qx, 4, none⟩ = some (.int .u64 tk) ∧ W.cell? ⟨qx, 5, none⟩ = some (.int .u64 dl) ∧ W.cell? ⟨qx, 6, none⟩ = some (.slice D dn dc) ∧ W.cell? ⟨qx, 7, none⟩ = some (.bool false) ∧ W.cell? ⟨qx, 8, none⟩ = some (.bool lg) ∧ W.cell? ⟨qx, 9, none⟩ = some (.slice M mn mc) ∧ W.cell? ⟨qx, 10, none⟩ = some (str what) ∧ W.cell? ⟨qx, 11, none⟩ = some (.int .i64 R.kind) ∧ W.cell? ⟨qx, 12, none⟩ = some (.slice R.E R.xs.length R.ec) ∧ W.cell? ⟨qx, 13, none⟩ = some (.int .u64 R.number) ∧ W.cell? ⟨qx, 14, none⟩ = some (str R.text) ∧ W.cell? ⟨qx, 15, none⟩ = some (.slice R.S R.stats.length R.sc) := fun W hW => ⟨(hqx.later hW).cell 0, (hqx.later hW).cell 1, (hqx.later hW).cell 2, (hqx.later hW).cell 3, (hqx.later hW).cell 4, (hqx.later hW).cell 5, (hqx.later hW).cell 6, (hqx.later hW).cell 7, (hqx.later hW).cell 8, (hqx.later hW).cell 9, (hqx.later hW).cell 10, (hqx.later hW).cell 11, (hqx.later hW).cell 12, (hqx.later hW).cell 13, (hqx.later hW).cell 14, (hqx.later hW).cell 15⟩
  have hsm : ∀ W : World, Below w.heap.size w W → Calls Tryz.prog 10 #[R.val] W fun e w' => e = .returned (.bool true) ∧ Below W.heap.size W w' := fun W hW => small_any (hx.ans.below hW)
  have hnm := fun (n : Int) (W : World) => num13_any n W
  have hwk : ∀ W : World, Below w.heap.size w W → Calls Tryz.prog 23 #[] W fun e w' => e = .returned (.bool true) ∧ Below W.heap.size W w' := fun W hW => wakes13_any (hx.glob.later hW)
  obtain ⟨out, hout⟩ : ∃ out, out = Sp.answerW v R.v := ⟨_, rfl⟩
  have hol : out.length ≤ 200000000 := by rw [hout]; exact hx.ans.big v
  have hop : out.length ≠ 0 := fun e => Sp.answerW_ne v R.v (by rw [← hout]; exact List.eq_nil_of_length_eq_zero e)
  obtain ⟨hlaw1, hlaw2⟩ := Sp.back_law hf hk hx.ans.sized
  rw [← hout] at hlaw1 hlaw2
  have hby : ∀ W : World, Below w.heap.size w W → Calls Tryz.prog 15 #[cmdA v K keys.length kc fl ex tk dl D dn dc false lg M mn mc what, R.val] W fun e w' => ∃ O oc, e = .returned (.tuple #[.slice O out.length oc, .int .i64 0]) ∧ w'.ownsRow W.heap.size 5 1 (.slice O out.length oc) out.length (bytesV out) ∧ Below W.heap.size W w' := fun W hW => by
    have h := bytesOf_any (hx.glob.later hW) v fl ex tk dl D dn dc false lg M mn mc what (hx.krow.below hW) hx.room (by have := hx.short.1; omega) (hx.ans.mem.below hW) (by have := hx.ans.big v; omega)
    rw [show Sp.wroteV v keys what false R.v = (out, 0) by unfold Sp.wroteV; rw [if_neg (by rw [hf]; decide), if_neg (by simp; exact hk), hout]] at h
    exact h
  have hft : ∀ W : World, Below w.heap.size w W → Calls Tryz.prog 14 #[cmdA v K keys.length kc fl ex tk dl D dn dc false lg M mn mc what, R.val] W fun e w' => e = .returned (.bool true) ∧ Below W.heap.size W w' := fun W hW => by
    have h := fitsOf_any (hx.glob.later hW) v fl ex tk dl D dn dc false lg M mn mc what (hx.krow.below hW) hx.room (by have := hx.short.1; omega) (hx.ans.mem.below hW)
    rw [hf] at h
    exact h
  have hkp : ∀ W : World, Below w.heap.size w W → Calls Tryz.prog 31 #[cmdA v K keys.length kc fl ex tk dl D dn dc false lg M mn mc what, R.val] W fun e w' => Below W.heap.size W w' ∧ ∃ y : AnsX, y.v = Sp.keptR v R.v ∧ e = .returned (.agg #[.int .i64 y.kind, .slice y.E y.xs.length y.ec, .int .u64 y.number, str y.text, .slice y.S y.stats.length y.sc]) ∧ AnsRd w' y := fun W hW => kept_any v K keys.length kc fl ex tk dl D dn dc false lg M mn mc what (hx.ans.below hW)
  have hrd : ∀ (W : World), Below w.heap.size w W → ∀ (raw : Sp.Bs) (g c : Nat) (a : Sp.AnswerV) (n : Nat), RowAt W (some ⟨g, 0, none⟩) (bytesV raw) → raw.length ≤ c → raw.length ≤ 1000000000 → g < W.heap.size → Sp.answerR raw v keys what false = (a, n, 0) → Calls Tryz.prog 26 #[cmdA v K keys.length kc fl ex tk dl D dn dc false lg M mn mc what, .slice (some ⟨g, 0, none⟩) raw.length c] W fun e w' => Below W.heap.size W w' ∧ ∃ y : AnsX, y.v = a ∧ e = .returned (.tuple #[(.agg #[.int .i64 y.kind, .slice y.E y.xs.length y.ec, .int .u64 y.number, str y.text, .slice y.S y.stats.length y.sc]), .int .i64 n, .int .i64 0]) ∧ AnsOwn w' W.heap.size y := fun W hW raw g c a n h1 h2 h3 h4 h5 => by
    have h := readOf_any (w := W) (A := some ⟨g, 0, none⟩) (cap := c) (raw := raw) h1 h2 h3 (fun e => by cases e) (fun a ha => by rw [← Option.some.inj ha]; exact h4) v fl ex tk dl D dn dc false lg M mn mc what (hx.krow.below hW) hx.room (fun hk a ha => Nat.lt_of_lt_of_le (hx.kold hk a ha) hW.size) ⟨by have := hx.short.1; omega, fun k hk => by have := hx.short.2 k hk; omega⟩
    rw [h5] at h
    exact h
  have hsm2 : ∀ (W : World) (x y : AnsX), AnsRd W x → AnsRd W y → x.v = y.v → Calls Tryz.prog 27 #[(.agg #[.int .i64 x.kind, .slice x.E x.xs.length x.ec, .int .u64 x.number, str x.text, .slice x.S x.stats.length x.sc]), (.agg #[.int .i64 y.kind, .slice y.E y.xs.length y.ec, .int .u64 y.number, str y.text, .slice y.S y.stats.length y.sc])] W fun e w' => e = .returned (.bool true) ∧ Below W.heap.size W w' := fun W x y h1 h2 h3 => same_answers h1 h2 h3
  have hk1 : (R.kind == 12) = false := by simpa using hk
  have HBY := Lib.hid hby
  have HFT := Lib.hid hft
  have HKP := Lib.hid hkp
  have HRD := Lib.hid hrd
  have HSA := Lib.hid hsm2
  have HL1 := Lib.hid hlaw1
  have HL2 := Lib.hid hlaw2
  have HOUT := Lib.hid hout
  clear hby hft hkp hrd hsm2 hlaw1 hlaw2 hout hk hf
  have hl1 : decide ((65536 : Int) < (beh.length : Int)) = false := decide_eq_false (by omega)
  have hl2 : decide (65536 < beh.length) = false := decide_eq_false hl
  clear hl
  have HR := Lib.hid hR
  have HX := Lib.hid hx
  have HAL := Lib.hid hal
  have HQX := Lib.hid hqx
  have HW1 := Lib.hid hW1
  have HQE := Lib.hid hqe
  have HKS := Lib.hid hks
  have HSM := Lib.hid hsm
  have HNM := Lib.hid hnm
  have HWK := Lib.hid hwk
  clear hR hx hal hqx hW1 hqe hks hsm hnm hwk
  go_enter Tryz.func6, Tryz.ntmps6
  go_upto_region 1 with fail
  rw [← HW1.out, ← HQE.out]
  go_cut [3, 4] (fun p q wx => ∃ ca aa : Nat, p = .pointer (some ⟨ca, 0, none⟩) ∧ q = .pointer (some ⟨aa, 0, none⟩) ∧ TwoBoxes W1 wx ca aa 32 #[.int .i64 v, .slice K keys.length kc, .int .u64 fl, .int .i64 ex, .int .u64 tk, .int .u64 dl, .slice D dn dc, .bool false, .bool lg, .slice M mn mc, str what] 36 #[.int .i64 R.kind, .slice R.E R.xs.length R.ec, .int .u64 R.number, str R.text, .slice R.S R.stats.length R.sc])
  case first =>
    go_region_held3 (fun w' => w'.cell? ⟨qx, 0, none⟩ = some (.int .i64 v) ∧ w'.cell? ⟨qx, 1, none⟩ = some (.slice K keys.length kc) ∧ w'.cell? ⟨qx, 2, none⟩ = some (.int .u64 fl) ∧ w'.cell? ⟨qx, 3, none⟩ = some (.int .i64 ex) ∧ w'.cell? ⟨qx, 4, none⟩ = some (.int .u64 tk) ∧ w'.cell? ⟨qx, 5, none⟩ = some (.int .u64 dl) ∧ w'.cell? ⟨qx, 6, none⟩ = some (.slice D dn dc) ∧ w'.cell? ⟨qx, 7, none⟩ = some (.bool false) ∧ w'.cell? ⟨qx, 8, none⟩ = some (.bool lg) ∧ w'.cell? ⟨qx, 9, none⟩ = some (.slice M mn mc) ∧ w'.cell? ⟨qx, 10, none⟩ = some (str what) ∧ w'.cell? ⟨qx, 11, none⟩ = some (.int .i64 R.kind) ∧ w'.cell? ⟨qx, 12, none⟩ = some (.slice R.E R.xs.length R.ec) ∧ w'.cell? ⟨qx, 13, none⟩ = some (.int .u64 R.number) ∧ w'.cell? ⟨qx, 14, none⟩ = some (str R.text) ∧ w'.cell? ⟨qx, 15, none⟩ = some (.slice R.S R.stats.length R.sc)) (first | exact HKS.out _ (Below.refl _ _) | exact HKS.out _ (Below.refl _ _).drew | exact HKS.out _ ((Below.refl _ _).alloc (Nat.le_refl _) _) | exact HKS.out _ ((Below.refl _ _).drew.alloc (Nat.le_refl _) _) | exact HKS.out _ (((Below.refl _ _).drew.alloc (Nat.le_refl _) _).alloc (by simp) _) | exact HKS.out _ (((Below.refl _ _).alloc (Nat.le_refl _) _).alloc (by simp) _)) (fail)
    all_goals
      go_wp2_with fail
      go_meet
      first
        | exact ⟨_, _, rfl, rfl, twoBoxesA _ _ _ _ _⟩
        | exact ⟨_, _, rfl, rfl, twoBoxesB _ _ _ _ _⟩
  case rest =>
    obtain ⟨ca, aa, rfl, rfl, htw⟩ := hcut
    obtain ⟨W2, hW2⟩ : ∃ W2, W2 = wc := ⟨_, rfl⟩
    rw [← hW2] at htw ⊢
    clear hW2
    have hb2 : Below w.heap.size w W2 := HAL.out.trans (htw.below.mono HAL.out.size)
    have q16 : ∀ W : World, Below W2.heap.size W2 W → W.cell? ⟨qx, 16, none⟩ = some (.slice B beh.length bc) := fun W hW => ((HQX.out.later htw.below).later hW).cell 16
    have q17 : ∀ W : World, Below W2.heap.size W2 W → W.cell? ⟨qx, 17, none⟩ = some (.slice A ks.length ac) := fun W hW => ((HQX.out.later htw.below).later hW).cell 17
    have c0 : ∀ W : World, Below W2.heap.size W2 W → W.cell? ⟨ca, 0, none⟩ = some (.int .i64 v) := fun W hW => (htw.fst.later hW).cell 0
    have c1 : ∀ W : World, Below W2.heap.size W2 W → W.cell? ⟨ca, 1, none⟩ = some (.slice K keys.length kc) := fun W hW => (htw.fst.later hW).cell 1
    have c2 : ∀ W : World, Below W2.heap.size W2 W → W.cell? ⟨ca, 2, none⟩ = some (.int .u64 fl) := fun W hW => (htw.fst.later hW).cell 2
    have c3 : ∀ W : World, Below W2.heap.size W2 W → W.cell? ⟨ca, 3, none⟩ = some (.int .i64 ex) := fun W hW => (htw.fst.later hW).cell 3
    have c4 : ∀ W : World, Below W2.heap.size W2 W → W.cell? ⟨ca, 4, none⟩ = some (.int .u64 tk) := fun W hW => (htw.fst.later hW).cell 4
    have c5 : ∀ W : World, Below W2.heap.size W2 W → W.cell? ⟨ca, 5, none⟩ = some (.int .u64 dl) := fun W hW => (htw.fst.later hW).cell 5
    have c6 : ∀ W : World, Below W2.heap.size W2 W → W.cell? ⟨ca, 6, none⟩ = some (.slice D dn dc) := fun W hW => (htw.fst.later hW).cell 6
    have c7 : ∀ W : World, Below W2.heap.size W2 W → W.cell? ⟨ca, 7, none⟩ = some (.bool false) := fun W hW => (htw.fst.later hW).cell 7
    have c8 : ∀ W : World, Below W2.heap.size W2 W → W.cell? ⟨ca, 8, none⟩ = some (.bool lg) := fun W hW => (htw.fst.later hW).cell 8
    have c9 : ∀ W : World, Below W2.heap.size W2 W → W.cell? ⟨ca, 9, none⟩ = some (.slice M mn mc) := fun W hW => (htw.fst.later hW).cell 9
    have c10 : ∀ W : World, Below W2.heap.size W2 W → W.cell? ⟨ca, 10, none⟩ = some (str what) := fun W hW => (htw.fst.later hW).cell 10
    have d0 : ∀ W : World, Below W2.heap.size W2 W → W.cell? ⟨aa, 0, none⟩ = some (.int .i64 R.kind) := fun W hW => (htw.snd.later hW).cell 0
    have d1 : ∀ W : World, Below W2.heap.size W2 W → W.cell? ⟨aa, 1, none⟩ = some (.slice R.E R.xs.length R.ec) := fun W hW => (htw.snd.later hW).cell 1
    have d2 : ∀ W : World, Below W2.heap.size W2 W → W.cell? ⟨aa, 2, none⟩ = some (.int .u64 R.number) := fun W hW => (htw.snd.later hW).cell 2
    have d3 : ∀ W : World, Below W2.heap.size W2 W → W.cell? ⟨aa, 3, none⟩ = some (str R.text) := fun W hW => (htw.snd.later hW).cell 3
    have d4 : ∀ W : World, Below W2.heap.size W2 W → W.cell? ⟨aa, 4, none⟩ = some (.slice R.S R.stats.length R.sc) := fun W hW => (htw.snd.later hW).cell 4
    have hr2 : Below W2.heap.size W2 W2 := Below.refl _ _
    have HB2 := Lib.hid hb2
    have HTW := Lib.hid htw
    clear htw hb2
    go_upto_region 11 with (first | (go_at_call 10; refine (HSM.out _ HB2.out).mono ?_; rintro e w3 ⟨rfl, hb3⟩) | (go_at_call 15; refine (HBY.out _ (HB2.out.trans (hb3.mono HB2.out.size))).mono ?_; rintro e w4 ⟨O, oc, rfl, hown4, hb34⟩; have hb4 := hb3.trans (hb34.mono hb3.size); have HOWN4 := Lib.hid hown4; clear hown4 hb34) | (go_at_call 14; refine (HFT.out _ (HB2.out.trans (hb4.mono HB2.out.size))).mono ?_; rintro e w5 ⟨rfl, hb45⟩; have hb5 := hb4.trans (hb45.mono hb4.size); have HOWN5 := Lib.hid (own_later HOWN4.out hb45); clear hb45) | (go_at_call 17; (with_reducible refine (HNM.out _ _).mono ?_); rintro e wn ⟨rfl, rfl⟩))
    obtain ⟨gO, hgO⟩ := own_some HOWN5.out hop
    subst hgO
    have hbw5 : Below w.heap.size w w5 := HB2.out.trans (hb5.mono HB2.out.size)
    have hrowO : RowAt w5.drew (some ⟨gO, 0, none⟩) (bytesV out) := RowAt.of_own HOWN5.out
    have hcp := copy_any (w := w5.drew) (A := some ⟨gO, 0, none⟩) (cap := oc) (l := out) (by omega) hrowO (fun e => by cases e)
    have hb5d : Below W2.heap.size W2 w5.drew := hb5.drew
    have HCP := Lib.hid hcp
    have HBW5 := Lib.hid hbw5
    have HOC := Lib.hid (own_room3 HOWN5.out)
    have HRB := Lib.hid (HX.out.row.below hbw5)
    have HBN := Lib.hid HX.out.null
    have hnb := HX.out.few
    clear hcp hrowO hbw5
    go_cut [7] (fun l wx => ∃ g cp : Nat, l = .slice (some ⟨g, 0, none⟩) (out.length + beh.length) cp ∧ wx.ownsRow w5.heap.size 5 1 (.slice (some ⟨g, 0, none⟩) (out.length + beh.length) cp) (out.length + beh.length) (bytesV out ++ bytesV beh) ∧ Below w5.heap.size w5 wx)
    case first =>
      go_region_law (first
        | (refine step_append_bytes (v := .slice (some ⟨g9, 0, none⟩) out.length cn) rfl (.tmp 66) (.tmp 68) rfl rfl HOWN9.out (k := beh) rfl HRB9.out HBN.out ?_ ?_ ?_; omega; omega; intro v10 w10 hown10 hg10; obtain ⟨g10, cp, rfl⟩ := own_slice_some hown10 (by omega); have hb910 : Below w5.heap.size w5 w10 := HB59.out.grown hg10 HB59.out.size (fun k hk => (HOWN9.out.lt k hk).1); have HB510 := Lib.hid hb910; have HOWN10 := Lib.hid hown10; clear hown10 hg10 hb910)
        | (go_simp; go_at_call 30; refine HCP.out.mono ?_; rintro e w9 ⟨g9, cn, rfl, hown9, hb9⟩; have hs9 : w5.drew.heap.size ≤ w9.heap.size := hb9.size; have hb59 : Below w5.heap.size w5 w9 := (Below.refl w5.heap.size w5).drew.trans hb9; have hb29 : Below W2.heap.size W2 w9 := hb5.trans (hb59.mono hb5.size); have HB59 := Lib.hid hb59; have HRB9 := Lib.hid (HRB.out.below hb59); have HOWN9 := Lib.hid hown9; clear hown9 hb9 hb59))

      all_goals
        go_wp2_with fail
        go_meet
        exact ⟨g10, cp, rfl, HOWN10.out, HB510.out⟩
    case rest =>
      obtain ⟨g10, cp, rfl, hown10, hb510⟩ := hcut
      obtain ⟨w10, hw10⟩ : ∃ w10, w10 = wc := ⟨_, rfl⟩
      rw [← hw10] at hown10 hb510 ⊢
      have HOWN10 := Lib.hid hown10
      have HB510 := Lib.hid hb510
      clear hw10 hown10 hb510
      have hbw10 : Below w.heap.size w w10 := HBW5.out.trans (HB510.out.mono HBW5.out.size)
      have hb210 : Below W2.heap.size W2 w10 := hb5.trans (HB510.out.mono hb5.size)
      have hrow10 : RowAt w10 (some ⟨g10, 0, none⟩) (bytesV (out ++ beh)) := by rw [bytesV_append]; exact RowAt.of_own HOWN10.out
      have hr1 := HRD.out w10 hbw10 (out ++ beh) g10 cp (Sp.keptR v R.v) out.length hrow10 (by rw [List.length_append]; exact (own_room3 HOWN10.out).1) (by rw [List.length_append]; omega) (own_lt HOWN10.out g10 (by simp [rowBlock, Value.ownBlock])) (HL1.out beh)
      rw [List.length_append] at hr1
      have HR1 := Lib.hid hr1
      have HBW10 := Lib.hid hbw10
      have hownO : w10.ownsRow w3.heap.size 5 1 (.slice (some ⟨gO, 0, none⟩) out.length oc) out.length (bytesV out) := own_later HOWN5.out HB510.out
      have HOWNO := Lib.hid hownO
      clear hr1 hbw10 hrow10 hownO
      go_upto_region 13 with (go_at_call 26; refine HR1.out.mono ?_; rintro e w11 ⟨hb11, y, hy, rfl, hown11⟩; have HB11 := Lib.hid hb11; have HY11 := Lib.hid hy; have HOWN11 := Lib.hid hown11; clear hb11 hy hown11)
      have hb1011 : Below w10.heap.size w10 w11 := HB11.out
      have hb211 : Below W2.heap.size W2 w11 := hb210.trans (hb1011.mono hb210.size)
      have hbw11 : Below w.heap.size w w11 := HBW10.out.trans (hb1011.mono HBW10.out.size)
      show Code.wp _ _ _ _ (w11.alloc (.cells #[.int .i64 y.kind, .slice y.E y.xs.length y.ec, .int .u64 y.number, str y.text, .slice y.S y.stats.length y.sc] 36))
      have hyb := Blk.new w11 36 #[.int .i64 y.kind, .slice y.E y.xs.length y.ec, .int .u64 y.number, str y.text, .slice y.S y.stats.length y.sc]
      have hal : Below w11.heap.size w11 (w11.alloc (.cells #[.int .i64 y.kind, .slice y.E y.xs.length y.ec, .int .u64 y.number, str y.text, .slice y.S y.stats.length y.sc] 36)) := (Below.refl _ _).alloc (Nat.le_refl _) _
      generalize w11.alloc (.cells #[.int .i64 y.kind, .slice y.E y.xs.length y.ec, .int .u64 y.number, str y.text, .slice y.S y.stats.length y.sc] 36) = W12 at hyb hal ⊢
      obtain ⟨yb, hye⟩ : ∃ yb, yb = w11.heap.size := ⟨_, rfl⟩
      rw [← hye] at hyb ⊢
      have hkl : (Sp.keptR v R.v).entries.length ≤ 1000000000 ∧ (Sp.keptR v R.v).stats.length ≤ 1000000000 := by
        have h1 := HX.out.ans.mem.few
        simp only [Sp.keptR, AnsX.v, List.length_map]
        exact h1
      have hyr := (HOWN11.out.rd HY11.out hkl).below hal
      have hcx := (HTW.out.fst.later hb211).later hal
      have hax := (HTW.out.snd.later hb211).later hal
      have hqx2 := (((HQX.out.later HTW.out.below).later hb211)).later hal
      have hownW : W12.ownsRow w3.heap.size 5 1 (.slice (some ⟨gO, 0, none⟩) out.length oc) out.length (bytesV out) := own_later (own_later HOWNO.out hb1011) hal
      have hglt : gO < w11.heap.size := Nat.lt_of_lt_of_le (own_lt HOWNO.out gO (by simp [rowBlock, Value.ownBlock])) hb1011.size
      have hcalt : ca < w11.heap.size := (HTW.out.fst.later hb211).lt
      have haalt : aa < w11.heap.size := (HTW.out.snd.later hb211).lt
      have hqlt : qx < w11.heap.size := ((HQX.out.later HTW.out.below).later hb211).lt
      have hbwW : Below w.heap.size w W12 := hbw11.trans (hal.mono hbw11.size)
      clear q16 q17 c0 c1 c2 c3 c4 c5 c6 c7 c8 c9 c10 d0 d1 d2 d3 d4
      have q16 : ∀ W : World, Below w11.heap.size W12 W → W.cell? ⟨qx, 16, none⟩ = some (.slice B beh.length bc) := fun W hW => (hW.cell (p := ⟨qx, 16, none⟩) hqlt).trans (hqx2.cell 16)
      have q17 : ∀ W : World, Below w11.heap.size W12 W → W.cell? ⟨qx, 17, none⟩ = some (.slice A ks.length ac) := fun W hW => (hW.cell (p := ⟨qx, 17, none⟩) hqlt).trans (hqx2.cell 17)
      have c0 : ∀ W : World, Below w11.heap.size W12 W → W.cell? ⟨ca, 0, none⟩ = some (.int .i64 v) := fun W hW => (hW.cell (p := ⟨ca, 0, none⟩) hcalt).trans (hcx.cell 0)
      have c1 : ∀ W : World, Below w11.heap.size W12 W → W.cell? ⟨ca, 1, none⟩ = some (.slice K keys.length kc) := fun W hW => (hW.cell (p := ⟨ca, 1, none⟩) hcalt).trans (hcx.cell 1)
      have c2 : ∀ W : World, Below w11.heap.size W12 W → W.cell? ⟨ca, 2, none⟩ = some (.int .u64 fl) := fun W hW => (hW.cell (p := ⟨ca, 2, none⟩) hcalt).trans (hcx.cell 2)
      have c3 : ∀ W : World, Below w11.heap.size W12 W → W.cell? ⟨ca, 3, none⟩ = some (.int .i64 ex) := fun W hW => (hW.cell (p := ⟨ca, 3, none⟩) hcalt).trans (hcx.cell 3)
      have c4 : ∀ W : World, Below w11.heap.size W12 W → W.cell? ⟨ca, 4, none⟩ = some (.int .u64 tk) := fun W hW => (hW.cell (p := ⟨ca, 4, none⟩) hcalt).trans (hcx.cell 4)
      have c5 : ∀ W : World, Below w11.heap.size W12 W → W.cell? ⟨ca, 5, none⟩ = some (.int .u64 dl) := fun W hW => (hW.cell (p := ⟨ca, 5, none⟩) hcalt).trans (hcx.cell 5)
      have c6 : ∀ W : World, Below w11.heap.size W12 W → W.cell? ⟨ca, 6, none⟩ = some (.slice D dn dc) := fun W hW => (hW.cell (p := ⟨ca, 6, none⟩) hcalt).trans (hcx.cell 6)
      have c7 : ∀ W : World, Below w11.heap.size W12 W → W.cell? ⟨ca, 7, none⟩ = some (.bool false) := fun W hW => (hW.cell (p := ⟨ca, 7, none⟩) hcalt).trans (hcx.cell 7)
      have c8 : ∀ W : World, Below w11.heap.size W12 W → W.cell? ⟨ca, 8, none⟩ = some (.bool lg) := fun W hW => (hW.cell (p := ⟨ca, 8, none⟩) hcalt).trans (hcx.cell 8)
      have c9 : ∀ W : World, Below w11.heap.size W12 W → W.cell? ⟨ca, 9, none⟩ = some (.slice M mn mc) := fun W hW => (hW.cell (p := ⟨ca, 9, none⟩) hcalt).trans (hcx.cell 9)
      have c10 : ∀ W : World, Below w11.heap.size W12 W → W.cell? ⟨ca, 10, none⟩ = some (str what) := fun W hW => (hW.cell (p := ⟨ca, 10, none⟩) hcalt).trans (hcx.cell 10)
      have d0 : ∀ W : World, Below w11.heap.size W12 W → W.cell? ⟨aa, 0, none⟩ = some (.int .i64 R.kind) := fun W hW => (hW.cell (p := ⟨aa, 0, none⟩) haalt).trans (hax.cell 0)
      have d1 : ∀ W : World, Below w11.heap.size W12 W → W.cell? ⟨aa, 1, none⟩ = some (.slice R.E R.xs.length R.ec) := fun W hW => (hW.cell (p := ⟨aa, 1, none⟩) haalt).trans (hax.cell 1)
      have d2 : ∀ W : World, Below w11.heap.size W12 W → W.cell? ⟨aa, 2, none⟩ = some (.int .u64 R.number) := fun W hW => (hW.cell (p := ⟨aa, 2, none⟩) haalt).trans (hax.cell 2)
      have d3 : ∀ W : World, Below w11.heap.size W12 W → W.cell? ⟨aa, 3, none⟩ = some (str R.text) := fun W hW => (hW.cell (p := ⟨aa, 3, none⟩) haalt).trans (hax.cell 3)
      have d4 : ∀ W : World, Below w11.heap.size W12 W → W.cell? ⟨aa, 4, none⟩ = some (.slice R.S R.stats.length R.sc) := fun W hW => (hW.cell (p := ⟨aa, 4, none⟩) haalt).trans (hax.cell 4)
      have y0 : ∀ W : World, Below W12.heap.size W12 W → W.cell? ⟨yb, 0, none⟩ = some (.int .i64 y.kind) := fun W hW => (hyb.later hW).cell 0
      have y1 : ∀ W : World, Below W12.heap.size W12 W → W.cell? ⟨yb, 1, none⟩ = some (.slice y.E y.xs.length y.ec) := fun W hW => (hyb.later hW).cell 1
      have y2 : ∀ W : World, Below W12.heap.size W12 W → W.cell? ⟨yb, 2, none⟩ = some (.int .u64 y.number) := fun W hW => (hyb.later hW).cell 2
      have y3 : ∀ W : World, Below W12.heap.size W12 W → W.cell? ⟨yb, 3, none⟩ = some (str y.text) := fun W hW => (hyb.later hW).cell 3
      have y4 : ∀ W : World, Below W12.heap.size W12 W → W.cell? ⟨yb, 4, none⟩ = some (.slice y.S y.stats.length y.sc) := fun W hW => (hyb.later hW).cell 4
      have hrf : Below w11.heap.size W12 W12 := Below.refl _ _
      have hrd0 : Below w11.heap.size W12 W12.drew := (Below.refl _ _).drew
      have hrf2 : Below W12.heap.size W12 W12 := Below.refl _ _
      have hrd2 : Below W12.heap.size W12 W12.drew := (Below.refl _ _).drew
      have hoc := (own_room3 hownW).1
      have hoc2 := (own_room3 hownW).2.1
      have HW12 := Lib.hid hal.size
      have HYR := Lib.hid hyr
      have HYB := Lib.hid hyb
      have HYE := Lib.hid hye
      have HBWW := Lib.hid hbwW
      have HOWNW := Lib.hid hownW
      have HKL := Lib.hid hkl
      have HS11 := Lib.hid hbw11.size
      have HW11 := Lib.hid hal.size
      clear hb1011 hb211 hbw11 hyb hal hye hyr hcx hax hqx2 hownW hbwW hkl hb3 hb4 hb5 hb5d hb210
      have HKS2 := Lib.hid (fun (W : World) (hW : Below W12.heap.size W12 W) => (⟨c0 W (hW.mono HW12.out), c1 W (hW.mono HW12.out), c2 W (hW.mono HW12.out), c3 W (hW.mono HW12.out), c4 W (hW.mono HW12.out), c5 W (hW.mono HW12.out), c6 W (hW.mono HW12.out), c7 W (hW.mono HW12.out), c8 W (hW.mono HW12.out), c9 W (hW.mono HW12.out), c10 W (hW.mono HW12.out), d0 W (hW.mono HW12.out), d1 W (hW.mono HW12.out), d2 W (hW.mono HW12.out), d3 W (hW.mono HW12.out), d4 W (hW.mono HW12.out), y0 W hW, y1 W hW, y2 W hW, y3 W hW, y4 W hW⟩ : W.cell? ⟨ca, 0, none⟩ = some (.int .i64 v) ∧ W.cell? ⟨ca, 1, none⟩ = some (.slice K keys.length kc) ∧ W.cell? ⟨ca, 2, none⟩ = some (.int .u64 fl) ∧ W.cell? ⟨ca, 3, none⟩ = some (.int .i64 ex) ∧ W.cell? ⟨ca, 4, none⟩ = some (.int .u64 tk) ∧ W.cell? ⟨ca, 5, none⟩ = some (.int .u64 dl) ∧ W.cell? ⟨ca, 6, none⟩ = some (.slice D dn dc) ∧ W.cell? ⟨ca, 7, none⟩ = some (.bool false) ∧ W.cell? ⟨ca, 8, none⟩ = some (.bool lg) ∧ W.cell? ⟨ca, 9, none⟩ = some (.slice M mn mc) ∧ W.cell? ⟨ca, 10, none⟩ = some (str what) ∧ W.cell? ⟨aa, 0, none⟩ = some (.int .i64 R.kind) ∧ W.cell? ⟨aa, 1, none⟩ = some (.slice R.E R.xs.length R.ec) ∧ W.cell? ⟨aa, 2, none⟩ = some (.int .u64 R.number) ∧ W.cell? ⟨aa, 3, none⟩ = some (str R.text) ∧ W.cell? ⟨aa, 4, none⟩ = some (.slice R.S R.stats.length R.sc) ∧ W.cell? ⟨yb, 0, none⟩ = some (.int .i64 y.kind) ∧ W.cell? ⟨yb, 1, none⟩ = some (.slice y.E y.xs.length y.ec) ∧ W.cell? ⟨yb, 2, none⟩ = some (.int .u64 y.number) ∧ W.cell? ⟨yb, 3, none⟩ = some (str y.text) ∧ W.cell? ⟨yb, 4, none⟩ = some (.slice y.S y.stats.length y.sc)))
      go_cut [93] (fun u wx => u = .bool false ∧ Below W12.heap.size W12 wx)
      case first =>
        go_region_held3 (fun w' => w'.cell? ⟨ca, 0, none⟩ = some (.int .i64 v) ∧ w'.cell? ⟨ca, 1, none⟩ = some (.slice K keys.length kc) ∧ w'.cell? ⟨ca, 2, none⟩ = some (.int .u64 fl) ∧ w'.cell? ⟨ca, 3, none⟩ = some (.int .i64 ex) ∧ w'.cell? ⟨ca, 4, none⟩ = some (.int .u64 tk) ∧ w'.cell? ⟨ca, 5, none⟩ = some (.int .u64 dl) ∧ w'.cell? ⟨ca, 6, none⟩ = some (.slice D dn dc) ∧ w'.cell? ⟨ca, 7, none⟩ = some (.bool false) ∧ w'.cell? ⟨ca, 8, none⟩ = some (.bool lg) ∧ w'.cell? ⟨ca, 9, none⟩ = some (.slice M mn mc) ∧ w'.cell? ⟨ca, 10, none⟩ = some (str what) ∧ w'.cell? ⟨aa, 0, none⟩ = some (.int .i64 R.kind) ∧ w'.cell? ⟨aa, 1, none⟩ = some (.slice R.E R.xs.length R.ec) ∧ w'.cell? ⟨aa, 2, none⟩ = some (.int .u64 R.number) ∧ w'.cell? ⟨aa, 3, none⟩ = some (str R.text) ∧ w'.cell? ⟨aa, 4, none⟩ = some (.slice R.S R.stats.length R.sc) ∧ w'.cell? ⟨yb, 0, none⟩ = some (.int .i64 y.kind) ∧ w'.cell? ⟨yb, 1, none⟩ = some (.slice y.E y.xs.length y.ec) ∧ w'.cell? ⟨yb, 2, none⟩ = some (.int .u64 y.number) ∧ w'.cell? ⟨yb, 3, none⟩ = some (str y.text) ∧ w'.cell? ⟨yb, 4, none⟩ = some (.slice y.S y.stats.length y.sc)) (first | exact HKS2.out _ hrf2 | exact HKS2.out _ hrd2 | exact HKS2.out _ hb13W | exact HKS2.out _ hb14W) (first
          | (go_at_call 17; (with_reducible refine (HNM.out _ _).mono ?_); rintro e wn ⟨rfl, rfl⟩)
          | (go_at_call 31; refine (HKP.out _ (HBWW.out.trans (hrd0.mono HS11.out))).mono ?_; rintro e w13 ⟨hb13, z, hz, rfl, hzr⟩; have hb13W : Below W12.heap.size W12 w13 := hrd2.trans hb13; have hb1213 : Below w11.heap.size W12 w13 := hb13W.mono HW12.out; have HZ := Lib.hid hz; have HZR := Lib.hid hzr; clear hb13 hz hzr)
          | (go_at_call 27; refine (HSA.out w13 y z (HYR.out.below hb13W) HZR.out (HY11.out.trans HZ.out.symm)).mono ?_; rintro e w14 ⟨rfl, hb14⟩; have hb14W : Below W12.heap.size W12 w14 := hb13W.trans (hb14.mono hb13W.size); clear hb14))
        all_goals
          go_wp2_with fail
          go_meet
          exact ⟨rfl, hb14W⟩
      case rest =>
        obtain ⟨rfl, hbc⟩ := hcut
        obtain ⟨W13, hW13⟩ : ∃ W13, W13 = wc := ⟨_, rfl⟩
        rw [← hW13] at hbc ⊢
        have hst : ∃ u0 u1 u2 u3 u4 : Value, Blk W13 yb 36 #[u0, u1, u2, u3, u4] := ⟨_, _, _, _, _, HYB.out.later hbc⟩
        have HST := Lib.hid hst
        have HB13 := Lib.hid (hbc.mono HW12.out)
        clear hW13 hbc hrf hrd0 hrf2 hrd2 hst y0 y1 y2 y3 y4 HKS2
        go_wp2_with fail
        go_loopw [9, 10, 11, 12] (fun _ _ iv _ wr => ∃ i : Nat, i ≤ ks.length ∧ iv = .int .i64 i ∧ Below w11.heap.size W12 wr ∧ ∃ u0 u1 u2 u3 u4 : Value, Blk wr yb 36 #[u0, u1, u2, u3, u4]) (fun _ _ iv _ _ => ks.length - (intOf iv).toNat)
        case atStart => exact ⟨0, Nat.zero_le _, rfl, HB13.out, HST.out⟩
        case round =>
          obtain ⟨i, hi, rfl, hb, a0, a1, a2, a3, a4, hyb⟩ := hrel
          have HYB2 := Lib.hid hyb
          clear hyb
          by_cases hlt : i < ks.length
          · have hi1 : (i : Int) < (ks.length : Int) := by omega
            by_cases h20 : i < 20
            · have hi2 : (i : Int) < 20 := by omega
              obtain ⟨zk, hz⟩ : ∃ zk, ks[i]? = some zk := ⟨ks[i], by simp [hlt]⟩
              obtain ⟨gA, oA, hAe, zcell⟩ : ∃ gA oA, A = some ⟨gA, oA, none⟩ ∧ wr.cell? ⟨gA, oA + i, none⟩ = some (.int .i64 zk) := by
                rcases HX.out.ksrow.below (HBWW.out.trans (hb.mono HS11.out)) with h0 | ⟨gA, oA, h1, h2, h3⟩
                · have : ks = [] := by simpa using h0
                  rw [this] at hlt; simp at hlt
                · exact ⟨gA, oA, h1, h3 _ _ (by simp [hz])⟩
              subst hAe
              have hzb := HX.out.kb zk (List.mem_of_getElem? hz)
              have hn0 : (0 : Int) < (out.length : Int) := by omega
              have h1 := Int.lt_tmod_of_pos zk hn0
              have h2 := Int.tmod_lt_of_pos zk hn0
              obtain ⟨kk, hkk⟩ : ∃ kk : Nat, (zk.tmod (out.length : Int) + (out.length : Int)) % (out.length : Int) = (kk : Int) := ⟨((zk.tmod (out.length : Int) + (out.length : Int)) % (out.length : Int)).toNat, (Int.toNat_of_nonneg (Int.emod_nonneg _ (by omega))).symm⟩
              have hkl : kk < out.length := by
                have := Int.emod_lt_of_pos (zk.tmod (out.length : Int) + (out.length : Int)) hn0
                omega
              have hne : ((out.length : Int) == 0) = false := by simpa using hop
              clear hz h20
              go_upto_region 19 with fail
              rw [hkk]
              have hrowk : RowAt wr.drew (some ⟨gO, 0, none⟩) (bytesV (out.take kk)) := by
                have h := (RowAt.low (RowAt.of_own HOWNW.out) hb (fun a ha => by rw [← Option.some.inj ha]; exact hglt)).take kk
                have e : (bytesV out).take kk = bytesV (out.take kk) := by unfold bytesV; rw [List.map_take]
                rw [e] at h
                exact h
              have hbw : Below w.heap.size w wr := HBWW.out.trans (hb.mono HS11.out)
              have hr2 := HRD.out wr.drew hbw.drew (out.take kk) gO oc {} 0 hrowk (by rw [List.length_take]; omega) (by rw [List.length_take]; omega) (Nat.lt_of_lt_of_le hglt (Nat.le_trans HW11.out hb.size)) (HL2.out kk hkl)
              rw [List.length_take, Nat.min_eq_left (Nat.le_of_lt hkl)] at hr2
              have hsl1 : (0 : Int) ≤ (kk : Int) := by omega
              have hsl2 : (kk : Int) ≤ (oc : Int) := by omega
              have hbd : Below w11.heap.size W12 wr.drew := hb.drew
              have HR2 := Lib.hid hr2
              clear hrowk hr2 hkk h1 h2 zcell hne hbw
              go_region_law (go_simp; go_at_call 26; refine HR2.out.mono ?_; rintro e w15 ⟨hb15, z, hz, rfl, _⟩; have hb15w : Below wr.heap.size wr w15 := (Below.refl wr.heap.size wr).drew.trans hb15; have hbz : Below w11.heap.size W12 w15 := hb.trans (hb15w.mono (Nat.le_trans HW11.out hb.size)); have hy15 := HYB2.out.later hb15w; have z0 := hy15.cell 0; have z1 := hy15.cell 1; have z2 := hy15.cell 2; have z3 := hy15.cell 3; have z4 := hy15.cell 4; simp only [List.getElem?_toArray, List.getElem?_cons_zero, List.getElem?_cons_succ] at z0 z1 z2 z3 z4; have f0 := hy15.frozen 0; have f1 := hy15.frozen 1; have f2 := hy15.frozen 2; have f3 := hy15.frozen 3; have f4 := hy15.frozen 4; have HY15 := Lib.hid hy15; have HBZ := Lib.hid hbz; have HZ := Lib.hid hz; clear hb15 hb15w hbz hy15 hz)
              all_goals
                show Exit.then _ _ _ _ (((((w15.setCell ⟨yb, 0, none⟩ (.int .i64 z.kind)).setCell ⟨yb, 1, none⟩ (.slice z.E z.xs.length z.ec)).setCell ⟨yb, 2, none⟩ (.int .u64 z.number)).setCell ⟨yb, 3, none⟩ (str z.text)).setCell ⟨yb, 4, none⟩ (.slice z.S z.stats.length z.sc))
                have hyge : w11.heap.size ≤ yb := by rw [HYE.out]; exact Nat.le_refl _
                have hb20 : Below w11.heap.size W12 (((((w15.setCell ⟨yb, 0, none⟩ (.int .i64 z.kind)).setCell ⟨yb, 1, none⟩ (.slice z.E z.xs.length z.ec)).setCell ⟨yb, 2, none⟩ (.int .u64 z.number)).setCell ⟨yb, 3, none⟩ (str z.text)).setCell ⟨yb, 4, none⟩ (.slice z.S z.stats.length z.sc)) := ((((HBZ.out.setCell (p := ⟨yb, 0, none⟩) hyge _).setCell (p := ⟨yb, 1, none⟩) hyge _).setCell (p := ⟨yb, 2, none⟩) hyge _).setCell (p := ⟨yb, 3, none⟩) hyge _).setCell (p := ⟨yb, 4, none⟩) hyge _
                have hyb20 : Blk (((((w15.setCell ⟨yb, 0, none⟩ (.int .i64 z.kind)).setCell ⟨yb, 1, none⟩ (.slice z.E z.xs.length z.ec)).setCell ⟨yb, 2, none⟩ (.int .u64 z.number)).setCell ⟨yb, 3, none⟩ (str z.text)).setCell ⟨yb, 4, none⟩ (.slice z.S z.stats.length z.sc)) yb 36 #[.int .i64 z.kind, .slice z.E z.xs.length z.ec, .int .u64 z.number, str z.text, .slice z.S z.stats.length z.sc] := ((((HY15.out.put 0 (.int .i64 z.kind)).put 1 (.slice z.E z.xs.length z.ec)).put 2 (.int .u64 z.number)).put 3 (str z.text)).put 4 (.slice z.S z.stats.length z.sc)
                generalize (((((w15.setCell ⟨yb, 0, none⟩ (.int .i64 z.kind)).setCell ⟨yb, 1, none⟩ (.slice z.E z.xs.length z.ec)).setCell ⟨yb, 2, none⟩ (.int .u64 z.number)).setCell ⟨yb, 3, none⟩ (str z.text)).setCell ⟨yb, 4, none⟩ (.slice z.S z.stats.length z.sc)) = W20 at hb20 hyb20 ⊢
                have m0 := hyb20.cell 0
                have m1 := hyb20.cell 1
                have m2 := hyb20.cell 2
                have m3 := hyb20.cell 3
                have m4 := hyb20.cell 4
                simp only [List.getElem?_toArray, List.getElem?_cons_zero, List.getElem?_cons_succ] at m0 m1 m2 m3 m4
                have hsa := HSA.out W20 z {} (blank_rd HZ.out W20) (blank_rd rfl W20) HZ.out
                have HSA2 := Lib.hid hsa
                have HY20 := Lib.hid hyb20
                clear hsa hyb20 z0 z1 z2 z3 z4 f0 f1 f2 f3 f4 hyge
                go_wp2_with (first
                  | (go_at_call 17; (with_reducible refine (HNM.out _ _).mono ?_); rintro e wn ⟨rfl, rfl⟩)
                  | (go_at_call 27; refine HSA2.out.mono ?_; rintro e w21 ⟨rfl, hb21⟩; have HB21 := Lib.hid hb21; clear hb21))
                exact ⟨⟨i + 1, by omega, by go_num, hb20.trans (HB21.out.mono (Nat.le_trans HW11.out hb20.size)), _, _, _, _, _, HY20.out.later HB21.out⟩, by show ks.length - ((i : Int) + 1).toNat < ks.length - (i : Int).toNat; omega⟩
            · have hi2 : decide ((i : Int) < 20) = false := decide_eq_false (by omega)
              have hi3 : decide (i < 20) = false := decide_eq_false h20
              have hwk2 := HWK.out wr (HBWW.out.trans (hb.mono HS11.out))
              have HW2 := Lib.hid hwk2
              clear hlt h20 hwk2
              go_wp2_with (go_at_call 23; refine HW2.out.mono ?_; rintro e w20 ⟨rfl, hb20⟩; have HB20 := Lib.hid hb20; clear hb20)
              rw [← HR.out]
              exact ⟨rfl, (HBWW.out.trans (hb.mono HS11.out)).trans (HB20.out.mono ((HBWW.out.trans (hb.mono HS11.out)).size))⟩
          · have hi1 : decide ((i : Int) < (ks.length : Int)) = false := decide_eq_false (by omega)
            have hi3 : decide (i < ks.length) = false := decide_eq_false hlt
            have hwk2 := HWK.out wr (HBWW.out.trans (hb.mono HS11.out))
            have HW2 := Lib.hid hwk2
            clear hlt hwk2
            go_wp2_with (go_at_call 23; refine HW2.out.mono ?_; rintro e w20 ⟨rfl, hb20⟩; have HB20 := Lib.hid hb20; clear hb20)
            rw [← HR.out]
            exact ⟨rfl, (HBWW.out.trans (hb.mono HS11.out)).trans (HB20.out.mono ((HBWW.out.trans (hb.mono HS11.out)).size))⟩
end Go.Proofs.YtnbeeehfapjpdaaGreatDoor
end
section
namespace Go.Proofs.YtnbeeehfapjpdaaGreatDoor
open Go.ChangeShapes Go.WideShapes Go.ChangeAt Go.RowKit

theorem CmdGood.short {w : World} {x : CmdX} (h : CmdGood w x) : x.c.keys.length ≤ 1048576 ∧ ∀ k ∈ x.c.keys, k.length ≤ 1048576 :=
  ⟨h.counts.1, fun k hk => by have h1 := tails_mem hk; have h2 := h.keysT; omega⟩
theorem CmdGood.kold {w : World} {x : CmdX} (h : CmdGood w x) : x.c.keys ≠ [] → ∀ a, x.K = some a → a.block < w.heap.size := fun hk _ ha => RowAt.lt h.mem.keys (fun e => hk (List.map_eq_nil_iff.1 e)) ha
theorem replyBack_any {w : World} (hg : GlobR w) {x : CutX} (hx : CutGood w x) :
    Calls Tryz.prog 6 #[.agg x.cells.toArray] w fun e w' => e = .returned (.bool true) ∧ Below w.heap.size w w' := by
  have hs := hx.pair.cmd.short
  have ho := hx.pair.cmd.kold
  have hb : BackH w x.P.C.v x.P.C.K x.P.C.c.keys x.P.C.kc x.P.R x.B x.bc x.behind x.A x.ks := ⟨hg, hx.pair.cmd.mem.keys, hx.pair.cmd.kc, ho, hs, hx.pair.ans, hx.row, hx.null, hx.few, hx.ks, hx.kn, hx.kb⟩
  obtain ⟨⟨⟨v, ⟨vb, keys, fl, tm, tk, dl, data, nr, lg, ms, what⟩, K, kc, D, dc, M, mc⟩, R⟩, B, bc, beh, A, ac, ks⟩ := x
  clear hx hs ho
  by_cases hl : 65536 < beh.length
  · exact back_long hb hl
  cases hf : Sp.fitsV v keys what R.v with
  | false => exact back_unfit hb hl hf
  | true =>
    cases nr with
    | true => exact back_quiet hb hl hf
    | false =>
      by_cases hk : R.kind = 12
      · exact back_none hb hl hf hk
      · exact back_some hb hl hf hk
section
variable {H : Type} {enc : TypeId × Value → H} {w : World} {held : Bool}
set_option maxRecDepth 100000 in
theorem open_cutArg {base : Nat} {v : Value} {d : DataW H} {p : List MemPlace} (hv : Value.okWide Tryz.prog w .any base 76 v) (h : DataW.Trod enc Tryz.prog w 0 (fun _ => true) held 76 v d p) (hw : Rows.uptoBulk d ≤ 1048576) :
    ∃ x : CutX, v = .agg x.cells.toArray ∧ CutGood w x := by
  obtain ⟨cs, rfl, hsz⟩ := okWide_struct Tryz.underlying76 hv
  obtain ⟨fuel, hf⟩ := h
  have e18 : Tryz.prog.cellsOf 76 = 18 := by kernel_rfl
  obtain ⟨X, hX, gX⟩ := open_cut13 hf (by show cs.toList.length = 18; rw [Array.length_toList, hsz, e18])
  have hX' : cs.toList = X.cells := hX
  exact ⟨X, by rw [← hX', Array.toArray_toList], gX hw⟩
end
end Go.Proofs.YtnbeeehfapjpdaaGreatDoor
end
