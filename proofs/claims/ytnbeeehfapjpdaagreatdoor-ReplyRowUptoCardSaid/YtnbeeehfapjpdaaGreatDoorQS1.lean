/- Plain laws for the statements ReplyBack, ReplyRow, ReplyOne. No program in sight. Walk of package reply: Read. Printed by gen/genVp.py. -/
import Derived.Test.YtnbeeehfapjpdaaGreatDoorQSs
import Derived.Test.YtnbeeehfapjpdaaGreatDoorQVn
section
namespace Go.Proofs.YtnbeeehfapjpdaaGreatDoor
namespace Sp
section
variable {v : Int} {keys : List Bs} {what : Bs} {a : AnswerV}
theorem fits_live (hf : fitsV v keys what a = true) (h12 : a.kind ≠ 12) : v ≠ 18 ∧ kindsV v what ≠ [] := by
  obtain ⟨g0, g1, _⟩ := fits_form hf
  refine ⟨fun e => ?_, g1⟩
  subst e
  rcases g0 with g0 | ⟨_, g0⟩
  · have : kindsV 18 what = [12] := rfl
    rw [this] at g0
    exact h12 (by simpa using g0)
  · exact g0 rfl
theorem answerW_ne : ∀ (v : Int) (a : AnswerV), answerW v a ≠ [] := fun v a e => by
  have hl : ∀ (x : Bs) (ps : List Bs), x ++ lineR ps ≠ [] := fun x ps e => by
    have := congrArg List.length e
    unfold lineR at this
    simp at this
  have hl2 : ∀ ps : List Bs, lineR ps ≠ [] := fun ps e => by
    have := congrArg List.length e
    unfold lineR at this
    simp at this
  unfold answerW at e
  split at e
  · exact hl _ _ e
  · split at e
    · exact hl2 _ e
    · split at e
      · exact hl2 _ e
      · split at e
        · exact hl2 _ e
        · split at e
          · exact hl _ _ e
          · split at e
            · have := congrArg List.length e
              unfold lineR at this
              simp at this
            · exact hl2 _ e
/-- what was written is read again, whatever stands behind; of each beginning more is wanted -/
theorem back_law (hf : fitsV v keys what a = true) (h12 : a.kind ≠ 12) (hs : Sized a) : (∀ r, answerR (answerW v a ++ r) v keys what false = (keptR v a, (answerW v a).length, 0)) ∧ ∀ k, k < (answerW v a).length → answerR ((answerW v a).take k) v keys what false = ({}, 0, 0) := by
  obtain ⟨hv, hk⟩ := fits_live hf h12
  have hex : ∀ r, outcomeR (answerW v a ++ r) v keys what = .got (keptR v a) (answerW v a).length := fun r => by
    obtain ⟨q, h1, h2⟩ := outcome_exact (r := r) hf h12 hs rfl
    have h3 := outcome_steady (raw := answerW v a ++ r) v keys what
    rw [h1] at h3
    have hq : q = (answerW v a).length := by
      have := congrArg List.length h2
      rw [List.length_drop, List.length_append] at this
      have h4 := h3.1
      rw [List.length_append] at h4
      omega
    rw [h1, hq]
  refine ⟨fun r => by rw [answer_outcome hk hv, hex r], fun k hlt => ?_⟩
  rw [answer_outcome hk hv]
  have h0 := hex []
  rw [List.append_nil] at h0
  have hsplit : (answerW v a).take k ++ (answerW v a).drop k = answerW v a := List.take_append_drop k _
  have hst := outcome_steady (raw := (answerW v a).take k) v keys what
  cases e : outcomeR ((answerW v a).take k) v keys what with
  | more => rfl
  | got b q =>
    rw [e] at hst
    have := hst.2 ((answerW v a).drop k)
    rw [hsplit, h0] at this
    injection this with _ this
    have h4 := hst.1
    rw [List.length_take] at h4
    omega
  | fail =>
    rw [e] at hst
    have h5 : outcomeR ((answerW v a).take k ++ (answerW v a).drop k) v keys what = .fail := hst ((answerW v a).drop k)
    rw [hsplit, h0] at h5
    cases h5
theorem told_kept {v : Int} {a : AnswerV} (h : Told v a) (hk : a.kind ≠ 9 → tokensV v = true → a.entries = []) : keptR v a = a := by
  obtain ⟨h1, h2, _, _⟩ := h
  unfold keptR
  have : a.entries.map (fun e => ({ key := if a.kind = 9 then e.key else [], value := e.value, flags := if a.kind = 9 then e.flags else 0, token := if tokensV v then e.token else 0 } : EntryV)) = a.entries := by
    conv => rhs; rw [← List.map_id a.entries]
    refine List.map_congr_left fun e he => ?_
    by_cases h9 : a.kind = 9
    · rw [if_pos h9, if_pos h9]
      exact (h1 h9 e he).1.symm
    · rw [if_neg h9, if_neg h9]
      have h3 := h2 h9 e he
      cases hv : tokensV v with
      | true => rw [hk h9 hv] at he; cases he
      | false =>
        show ({ key := [], value := e.value, flags := 0, token := if false = true then e.token else 0 } : EntryV) = e
        rw [if_neg (by decide)]
        exact h3.symm
  rw [this]
/-- of any bytes: what Read tells of them, and of each beginning -/
structure OneLaw (v : Int) (keys : List Bs) (what : Bs) (raw : Bs) (last : AnswerV) (n : Nat) (f : Int) : Prop where
  le : n ≤ raw.length
  err : f = 0 ∨ (f = 7 ∧ n = 0 ∧ last = {})
  fits : 0 < n → fitsV v keys what last = true ∧ last.kind ≠ 12 ∧ answerW v last = raw.take n
  at_fail : ∀ k, k ≤ raw.length → (answerR (raw.take k) v keys what false).2.2 ≠ 0 → n = 0 ∧ f ≠ 0 ∧ ∀ k', k ≤ k' → (answerR (raw.take k') v keys what false).2.2 ≠ 0
  at_got : ∀ k, k ≤ raw.length → 0 < (answerR (raw.take k) v keys what false).2.1 → (answerR (raw.take k) v keys what false).2.2 = 0 → (answerR (raw.take k) v keys what false).2.1 = n ∧ n ≤ k ∧ (answerR (raw.take k) v keys what false).1 = last
  at_more : ∀ k, k ≤ raw.length → (answerR (raw.take k) v keys what false).2.1 = 0 → (answerR (raw.take k) v keys what false).2.2 = 0 → (0 < n → k < n) ∧ (answerR (raw.take k) v keys what false).1 = {}
theorem one_law (hk : kindsV v what ≠ []) (hv : v ≠ 18) (raw : Bs) : OneLaw v keys what raw (answerR raw v keys what false).1 (answerR raw v keys what false).2.1 (answerR raw v keys what false).2.2 := by
  have ha : ∀ x : Bs, answerR x v keys what false = match outcomeR x v keys what with
    | .got a p => (a, p, 0)
    | .more => ({}, 0, 0)
    | .fail => ({}, 0, 7) := fun x => answer_outcome hk hv
  have hpos : ∀ (x : Bs) (b : AnswerV) (q : Nat), outcomeR x v keys what = .got b q → fitsV v keys what b = true ∧ b.kind ≠ 12 ∧ answerW v b = x.take q ∧ Told v b ∧ 0 < q ∧ q ≤ x.length := fun x b q e => by
    obtain ⟨h1, h2, h3, h4⟩ := outcome_reads hk hv e
    have h5 := outcome_steady (raw := x) v keys what
    rw [e] at h5
    have h6 := h5.1
    have hl : (answerW v b).length = q := by
      have := congrArg List.length h3
      rw [List.length_append, List.length_drop] at this
      omega
    refine ⟨h1, h2, ?_, h4, ?_, h6⟩
    · conv => rhs; rw [h3]
      rw [← hl, List.take_left]
    · have := answerW_ne v b
      have h7 : (answerW v b).length ≠ 0 := fun e => this (List.eq_nil_of_length_eq_zero e)
      omega
  have hext : ∀ (k k' : Nat), k ≤ k' → raw.take k' = raw.take k ++ (raw.take k').drop k := fun k k' h => by
    have := (List.take_append_drop k (raw.take k')).symm
    rwa [List.take_take, Nat.min_eq_left h] at this
  have hall : raw = raw.take raw.length := (List.take_length).symm
  have hfail : ∀ (k k' : Nat), k ≤ k' → outcomeR (raw.take k) v keys what = .fail → outcomeR (raw.take k') v keys what = .fail := fun k k' h e => by
    have h5 := outcome_steady (raw := raw.take k) v keys what
    rw [e] at h5
    rw [hext k k' h]
    exact h5 _
  have hgot : ∀ (k k' : Nat) (b : AnswerV) (q : Nat), k ≤ k' → outcomeR (raw.take k) v keys what = .got b q → outcomeR (raw.take k') v keys what = .got b q := fun k k' b q h e => by
    have h5 := outcome_steady (raw := raw.take k) v keys what
    rw [e] at h5
    rw [hext k k' h]
    exact h5.2 _
  refine ⟨?_, ?_, ?_, ?_, ?_, ?_⟩
  · rw [ha]
    cases e : outcomeR raw v keys what with
    | got b q => exact (hpos raw b q e).2.2.2.2.2
    | more => exact Nat.zero_le _
    | fail => exact Nat.zero_le _
  · rw [ha]
    cases e : outcomeR raw v keys what with
    | got b q => exact .inl rfl
    | more => exact .inl rfl
    | fail => exact .inr ⟨rfl, rfl, rfl⟩
  · intro hn
    rw [ha] at hn ⊢
    cases e : outcomeR raw v keys what with
    | got b q =>
      obtain ⟨h1, h2, h3, _⟩ := hpos raw b q e
      exact ⟨h1, h2, h3⟩
    | more => rw [e] at hn; cases hn
    | fail => rw [e] at hn; cases hn
  · intro k hkl hne
    rw [ha] at hne
    have ek : outcomeR (raw.take k) v keys what = .fail := by
      cases e : outcomeR (raw.take k) v keys what with
      | got b q => rw [e] at hne; exact absurd rfl hne
      | more => rw [e] at hne; exact absurd rfl hne
      | fail => rfl
    have er : outcomeR raw v keys what = .fail := by
      have := hfail k raw.length hkl ek
      rwa [List.take_length] at this
    refine ⟨by rw [ha, er], by rw [ha, er]; decide, fun k' hk' => ?_⟩
    rw [ha, hfail k k' hk' ek]; decide
  · intro k hkl hm he
    rw [ha] at hm he ⊢
    cases e : outcomeR (raw.take k) v keys what with
    | more => rw [e] at hm; cases hm
    | fail => rw [e] at hm; cases hm
    | got b q =>
      have er : outcomeR raw v keys what = .got b q := by
        have := hgot k raw.length b q hkl e
        rwa [List.take_length] at this
      have hq := (hpos _ b q e).2.2.2.2.2
      rw [List.length_take] at hq
      refine ⟨?_, ?_, ?_⟩
      · rw [ha raw, er]
      · rw [ha raw, er]
        show q ≤ k
        omega
      · rw [ha raw, er]
  · intro k hkl hm he
    rw [ha (raw.take k)] at hm he ⊢
    cases e : outcomeR (raw.take k) v keys what with
    | fail => rw [e] at he; cases he
    | got b q =>
      rw [e] at hm
      have := (hpos _ b q e).2.2.2.2.1
      have hm' : q = 0 := hm
      omega
    | more =>
      refine ⟨fun hn => ?_, rfl⟩
      rw [ha raw] at hn ⊢
      cases er : outcomeR raw v keys what with
      | more => rw [er] at hn; cases hn
      | fail => rw [er] at hn; cases hn
      | got b q =>
        show k < q
        rcases Nat.lt_or_ge k q with hlt | hge
        · exact hlt
        · exfalso
          obtain ⟨h1, h2, h3, h4, h5, h6⟩ := hpos raw b q er
          have hsz : Sized b := ⟨h4.2.2.1, fun x hx => ?_, h4.2.2.2⟩
          · obtain ⟨q', g1, _⟩ := outcome_exact (raw := raw.take q) (r := []) h1 h2 hsz (by rw [List.append_nil]; exact h3.symm)
            have := hgot q k _ _ hge g1
            rw [e] at this; cases this
          · by_cases h9 : b.kind = 9
            · exact (h4.1 h9 x hx).2.2.1
            · have := h4.2.1 h9 x hx
              rw [this]; exact Nat.zero_le _
end
end Sp
end Go.Proofs.YtnbeeehfapjpdaaGreatDoor
end
section
namespace Go.Proofs.YtnbeeehfapjpdaaGreatDoor
attribute [local go_sem ↓] Go.wp_at_zero Go.wp_at_succ
open Go.RowKit

theorem kinds_quit {v : Int} {what : Sp.Bs} (h : Sp.kindsV v what = [12]) : v = 18 := by
  unfold Sp.kindsV at h
  by_cases h0 : v = 1 ∨ v = 2 ∨ v = 3 ∨ v = 4
  · rw [if_pos h0] at h; exact absurd h (by decide)
  rw [if_neg h0] at h
  by_cases h1 : v = 5 ∨ v = 6 ∨ v = 7 ∨ v = 8 ∨ v = 9
  · rw [if_pos h1] at h; exact absurd h (by decide)
  rw [if_neg h1] at h
  by_cases h2 : v = 10
  · rw [if_pos h2] at h; exact absurd h (by decide)
  rw [if_neg h2] at h
  by_cases h3 : v = 11
  · rw [if_pos h3] at h; exact absurd h (by decide)
  rw [if_neg h3] at h
  by_cases h4 : v = 12 ∨ v = 13
  · rw [if_pos h4] at h; exact absurd h (by decide)
  rw [if_neg h4] at h
  by_cases h5 : v = 14
  · rw [if_pos h5] at h; exact absurd h (by decide)
  rw [if_neg h5] at h
  by_cases h6 : v = 15 ∨ v = 17
  · rw [if_pos h6] at h; exact absurd h (by decide)
  rw [if_neg h6] at h
  by_cases h7 : v = 16
  · rw [if_pos h7] at h; exact absurd h (by decide)
  rw [if_neg h7] at h
  by_cases h8 : v = 18
  · exact h8
  rw [if_neg h8] at h
  by_cases h9 : v = 19
  · rw [if_pos h9] at h
    by_cases hw : what = [114, 101, 115, 101, 116]
    · rw [if_pos hw] at h; exact absurd h (by decide)
    · rw [if_neg hw] at h; exact absurd h (by decide)
  rw [if_neg h9] at h
  by_cases h10 : v = 20 ∨ v = 21 ∨ v = 22 ∨ v = 23
  · rw [if_pos h10] at h; exact absurd h (by decide)
  rw [if_neg h10] at h
  by_cases h11 : v = 24
  · rw [if_pos h11] at h; exact absurd h (by decide)
  rw [if_neg h11] at h
  exact absurd h (by decide)
theorem run_nil_kinds (W : World) : (binOp .eql 74 (.slice none 0 0) (.slice none 0 0)).run Tryz.prog W = .ok (.bool true) W := by kernel_rfl
theorem run_some_kinds (a : Addr) (n c : Nat) (W : World) : (binOp .eql 74 (.slice (some a) n c) (.slice none 0 0)).run Tryz.prog W = .ok (.bool false) W := by kernel_rfl
theorem read_placed {raw : Sp.Bs} {v : Int} {keys : List Sp.Bs} {what : Sp.Bs} {a : Sp.AnswerV} {q : Nat} (hv : v ≠ 18) (h : Sp.readR raw v keys what 0 = .got a q) : 0 < q := by
  obtain ⟨_, _, h1, _⟩ := Sp.read_reads (fun e => hv (kinds_quit e)) h
  rcases Nat.eq_zero_or_pos q with h0 | h0
  · rw [h0, List.drop_zero] at h1
    have h2 := congrArg List.length h1
    rw [List.length_append] at h2
    exact absurd (List.length_eq_zero_iff.1 (by omega)) (Sp.answerW_ne v a)
  · exact h0
theorem refused_placed {raw : Sp.Bs} {a : Sp.AnswerV} {q : Nat} (h : Sp.refusedR raw 0 = .got a q) : 0 < q := by
  obtain ⟨_, _, h1⟩ := Sp.refused_reads h
  rcases Nat.eq_zero_or_pos q with h0 | h0
  · rw [h0, List.drop_zero] at h1
    have h2 := congrArg List.length h1
    rw [List.length_append, List.length_append] at h2
    simp [Sp.crlf] at h2
  · exact h0
theorem read2_results {W : World} {b : Nat} {x : AnsX} {n k : Int} (h : Blk W b 36 x.cells) (tm : Array Value)
    (t4 : tm[4]?.getD undef = .pointer (some ⟨b, 0, none⟩)) (t5 : tm[5]?.getD undef = .int .i64 n) (t6 : tm[6]?.getD undef = .int .i64 k) :
    (results Tryz.f26 tm).run Tryz.prog W = .ok (.tuple #[x.val, .int .i64 n, .int .i64 k]) W := by
  have z0 := h.cell 0
  have z1 := h.cell 1
  have z2 := h.cell 2
  have z3 := h.cell 3
  have z4 := h.cell 4
  change _ = some _ at z0 z1 z2 z3 z4
  clear h
  simp [results, Tryz.results26, go_sem, t4, t5, t6, z0, z1, z2, z3, z4]
/-- what Read tells -/
def ReadPostR (w : World) (r : Sp.AnswerV × Nat × Int) (e : Ending) (w' : World) : Prop :=
  Below w.heap.size w w' ∧ ∃ x : AnsX, x.v = r.1 ∧ e = .returned (.tuple #[x.val, .int .i64 r.2.1, .int .i64 r.2.2]) ∧ AnsOwn w' w.heap.size x
set_option maxHeartbeats 16000000 in
set_option maxRecDepth 100000 in
theorem readOf_any {w : World} {A : Option Addr} {cap : Nat} {raw : Sp.Bs} (hrow : RowAt w A (bytesV raw)) (hroom : raw.length ≤ cap) (hsm : raw.length ≤ 1000000000) (hnil : A = none → cap = 0) (hA : ∀ a, A = some a → a.block < w.heap.size)
    (v : Int) {K : Option Addr} {keys : List Sp.Bs} {kc : Nat} (fl ex tk dl : Int) (D : Option Addr) (dn dc : Nat) (nr lg : Bool) (M : Option Addr) (mn mc : Nat) (what : Sp.Bs)
    (hK : RowAt w K (keys.map str)) (hkc : keys.length ≤ kc) (hKo : keys ≠ [] → ∀ a, K = some a → a.block < w.heap.size) (hks : keys.length ≤ 4000000 ∧ ∀ k ∈ keys, k.length ≤ 140737488355328) :
    Calls Tryz.prog 26 #[cmdA v K keys.length kc fl ex tk dl D dn dc nr lg M mn mc what, .slice A raw.length cap] w (ReadPostR w (Sp.answerR raw v keys what nr)) := by
  obtain ⟨r, hr⟩ : ∃ r, r = Sp.answerR raw v keys what nr := ⟨_, rfl⟩
  rw [← hr]
  unfold Sp.answerR at hr
  generalize hR : ReadPostR w r = R
  have hal : Below w.heap.size w ((w.alloc (.cells #[.int .i64 v, .slice K keys.length kc, .int .u64 fl, .int .i64 ex, .int .u64 tk, .int .u64 dl, .slice D dn dc, .bool nr, .bool lg, .slice M mn mc, str what] 32)).alloc (.cells #[.int .i64 0, .slice none 0 0, .int .u64 0, .string ⟨#[]⟩, .slice none 0 0] 36)) := ((Below.refl _ _).alloc (Nat.le_refl _) _).alloc (by simp) _
  have hbx : Blk ((w.alloc (.cells #[.int .i64 v, .slice K keys.length kc, .int .u64 fl, .int .i64 ex, .int .u64 tk, .int .u64 dl, .slice D dn dc, .bool nr, .bool lg, .slice M mn mc, str what] 32)).alloc (.cells #[.int .i64 0, .slice none 0 0, .int .u64 0, .string ⟨#[]⟩, .slice none 0 0] 36)) w.heap.size 32 #[.int .i64 v, .slice K keys.length kc, .int .u64 fl, .int .i64 ex, .int .u64 tk, .int .u64 dl, .slice D dn dc, .bool nr, .bool lg, .slice M mn mc, str what] := (Blk.new w _ _).alloc _
  have hcb : Blk ((w.alloc (.cells #[.int .i64 v, .slice K keys.length kc, .int .u64 fl, .int .i64 ex, .int .u64 tk, .int .u64 dl, .slice D dn dc, .bool nr, .bool lg, .slice M mn mc, str what] 32)).alloc (.cells #[.int .i64 0, .slice none 0 0, .int .u64 0, .string ⟨#[]⟩, .slice none 0 0] 36)) (w.heap.size + 1) 36 #[.int .i64 0, .slice none 0 0, .int .u64 0, .string ⟨#[]⟩, .slice none 0 0] := by
    have := Blk.new (w.alloc (.cells #[.int .i64 v, .slice K keys.length kc, .int .u64 fl, .int .i64 ex, .int .u64 tk, .int .u64 dl, .slice D dn dc, .bool nr, .bool lg, .slice M mn mc, str what] 32)) 36 #[.int .i64 0, .slice none 0 0, .int .u64 0, .string ⟨#[]⟩, .slice none 0 0]
    rwa [show (w.alloc (.cells #[.int .i64 v, .slice K keys.length kc, .int .u64 fl, .int .i64 ex, .int .u64 tk, .int .u64 dl, .slice D dn dc, .bool nr, .bool lg, .slice M mn mc, str what] 32)).heap.size = w.heap.size + 1 by simp] at this
  obtain ⟨W1, hW1⟩ : ∃ W1, W1 = (w.alloc (.cells #[.int .i64 v, .slice K keys.length kc, .int .u64 fl, .int .i64 ex, .int .u64 tk, .int .u64 dl, .slice D dn dc, .bool nr, .bool lg, .slice M mn mc, str what] 32)).alloc (.cells #[.int .i64 0, .slice none 0 0, .int .u64 0, .string ⟨#[]⟩, .slice none 0 0] 36) := ⟨_, rfl⟩
  rw [← hW1] at hal hbx hcb
  have hkd := fun W : World => kinds_any v K keys.length kc fl ex tk dl D dn dc nr lg M mn mc what W
  obtain ⟨bx, hbxe⟩ : ∃ bx, bx = w.heap.size := ⟨_, rfl⟩
  obtain ⟨c0, hc0⟩ : ∃ c0, c0 = w.heap.size + 1 := ⟨_, rfl⟩
  rw [← hbxe] at hbx
  rw [← hc0] at hcb
  obtain ⟨l, hl⟩ : ∃ l, l = Sp.kindsV v what := ⟨_, rfl⟩
  rw [← hl] at hkd hr
  have hfin : ∀ (x : AnsX) (n : Nat) (k : Int), r = (x.v, n, k) → ∀ W : World, Below w.heap.size w W → AnsOwn W w.heap.size x → R (.returned (.tuple #[x.val, .int .i64 n, .int .i64 k])) W := fun x n k he W hb ho => by
    rw [← hR, he]; exact ⟨hb, x, rfl, rfl, ho⟩
  have y0 := hbx.cell 0
  have y1 := hbx.cell 1
  have y2 := hbx.cell 2
  have y3 := hbx.cell 3
  have y4 := hbx.cell 4
  have y5 := hbx.cell 5
  have y6 := hbx.cell 6
  have y7 := hbx.cell 7
  have y8 := hbx.cell 8
  have y9 := hbx.cell 9
  have y10 := hbx.cell 10
  simp only [List.getElem?_toArray, List.getElem?_cons_zero, List.getElem?_cons_succ] at y0 y1 y2 y3 y4 y5 y6 y7 y8 y9 y10
  have hmf : ∀ (fn : Fn) (first cap : Array Value) (w : World), (Instr.makeFunc fn first cap).run Tryz.prog w = .ok (.func fn first cap) w := fun _ _ _ _ => rfl
  have hsz1 : w.heap.size ≤ W1.heap.size := hal.size
  have hnilk := run_nil_kinds
  have hsomek := run_some_kinds
  have htr := fun (W : World) (hW : Below W1.heap.size W1 W) (hne : l ≠ []) => tryRead_any (cap := cap) (A := A) (raw := raw) (bx := bx) (r := Sp.readR raw v keys what 0) ((hrow.below hal).below hW) hroom hsm hnil (fun a ha => by have h1 := hA a ha; have h2 := hW.size; omega) (fun W' hW' hrd => way_any hrd ((hbx.later hW).later hW') (((hK.below hal).below hW).below hW') hkc (fun hk a ha => by have h1 := hKo hk a ha; have h2 := hW.size; omega) (fun hk a ha => by have h1 := hKo hk a ha; have h2 := hW.size; have h3 := hW'.size; omega) hks (by rw [← hl]; exact hne))
  have htf := fun (W : World) (hW : Below W1.heap.size W1 W) => tryRefused_any (cap := cap) (A := A) (raw := raw) (r := Sp.refusedR raw 0) ((hrow.below hal).below hW) hroom hsm hnil (fun a ha => by have h1 := hA a ha; have h2 := hW.size; omega) (fun W' hW' hrd => refused_any hrd)
  have HFIN := Lib.hid hfin
  have HAL := Lib.hid hal
  have HBX := Lib.hid hbx
  have HCB := Lib.hid hcb
  have HW1 := Lib.hid hW1
  have HKD := Lib.hid hkd
  have HRR := Lib.hid hr
  have HC0 := Lib.hid hc0
  have HBXE := Lib.hid hbxe
  have HTR := Lib.hid htr
  have HTF := Lib.hid htf
  have HL := Lib.hid hl
  obtain ⟨ln, hln⟩ : ∃ ln, ln = raw.length := ⟨_, rfl⟩
  clear hR hal hbx hcb hW1 hkd hr hc0 hbxe htr htf hrow hroom hsm hnil hA hK hkc hKo hks hfin hl hln
  by_cases hne : l = []
  · have hrr := HRR.out
    rw [if_pos hne] at hrr
    have HG := Lib.hid hrr
    have HNE := Lib.hid hne
    clear hrr hne
    go_enter Tryz.func26, Tryz.ntmps26
    go_upto_region 1 with fail
    rw [← HW1.out, ← HC0.out, ← HBXE.out]
    go_wp2_with (go_at_call 37; refine (HKD.out W1).mono ?_; rintro e w1 ⟨L, lc, rfl, hown1, hiff, hb1⟩; have hLn := hiff.2 HNE.out; have hl0 : l.length = 0 := (by rw [HNE.out]; rfl); rw [hl0] at hown1 ⊢; subst hLn; have hc0 := (own_room3 hown1).2.2 rfl; subst hc0; have hcb := HCB.out.later hb1; have HCBE := Lib.hid hcb; have z0 := hcb.cell 0; have z1 := hcb.cell 1; have z2 := hcb.cell 2; have z3 := hcb.cell 3; have z4 := hcb.cell 4; have f0 := hcb.frozen 0; have f1 := hcb.frozen 1; have f2 := hcb.frozen 2; have f3 := hcb.frozen 3; have f4 := hcb.frozen 4; simp only [List.getElem?_toArray, List.getElem?_cons_zero, List.getElem?_cons_succ] at z0 z1 z2 z3 z4; have HB := Lib.hid (HAL.out.trans (hb1.mono HAL.out.size)); clear hown1 hiff hb1 hl0 hcb)
    change bodyPost _ _ _ _ _ (ansPut w1 c0 {})
    refine bodyPost_ret (read2_results (x := {}) (ansPut_blk HCBE.out _) _ rfl rfl rfl) rfl ?_
    exact HFIN.out {} 0 7 HG.out _ (HB.out.trans ((ansPut_only w1 c0 {}).below HB.out.size (by have := HC0.out; simp; omega))) (AnsOwn.bare _ _ rfl rfl rfl rfl rfl rfl)
  · have hrr := HRR.out
    rw [if_neg hne] at hrr
    have HG := Lib.hid hrr
    have HNE := Lib.hid hne
    have hpos : 0 < l.length := List.length_pos_iff.2 hne
    clear hrr hne
    go_enter Tryz.func26, Tryz.ntmps26
    go_upto_region 1 with fail
    rw [← HW1.out, ← HC0.out, ← HBXE.out]
    go_upto_region 3 with (go_at_call 37; refine (HKD.out W1).mono ?_; rintro e w1 ⟨L, lc, rfl, hown1, hiff, hb1⟩; have HOWN1 := Lib.hid hown1; have HB1 := Lib.hid hb1; obtain ⟨gk, hgk⟩ := own_some hown1 (by omega); subst hgk; have hbx1 := HBX.out.later hb1; have b0 := hbx1.cell 0; have b7 := hbx1.cell 7; simp only [List.getElem?_toArray, List.getElem?_cons_zero, List.getElem?_cons_succ] at b0 b7; clear hown1 hiff hb1 hbx1)
    have hb1 : Below w.heap.size w w1 := HAL.out.trans (HB1.out.mono HAL.out.size)
    have hcb := HCB.out.later HB1.out
    have HB1' := Lib.hid hb1
    have HCB1 := Lib.hid hcb
    by_cases hnq : nr = true ∨ v = 18
    · have hrr := HG.out
      rw [if_pos hnq] at hrr
      have HG2 := Lib.hid hrr
      have hsplit : nr = true ∨ (nr = false ∧ v = 18) := by
        cases nr
        · exact .inr ⟨rfl, hnq.resolve_left (by decide)⟩
        · exact .inl rfl
      have z0 := hcb.cell 0
      have z1 := hcb.cell 1
      have z2 := hcb.cell 2
      have z3 := hcb.cell 3
      have z4 := hcb.cell 4
      have f0 := hcb.frozen 0
      have f1 := hcb.frozen 1
      have f2 := hcb.frozen 2
      have f3 := hcb.frozen 3
      have f4 := hcb.frozen 4
      simp only [List.getElem?_toArray, List.getElem?_cons_zero, List.getElem?_cons_succ] at z0 z1 z2 z3 z4
      clear hrr hb1 hcb hnq
      rcases hsplit with rfl | ⟨rfl, rfl⟩
      all_goals go_wp2_with fail
      all_goals change bodyPost _ _ _ _ _ (ansPut w1 c0 {})
      all_goals refine bodyPost_ret (read2_results (x := {}) (ansPut_blk HCB1.out _) _ rfl rfl rfl) rfl ?_
      all_goals exact HFIN.out {} 0 0 HG2.out _ (HB1'.out.trans ((ansPut_only w1 c0 {}).below HB1'.out.size (by have := HC0.out; simp; omega))) (AnsOwn.bare _ _ rfl rfl rfl rfl rfl rfl)
    · have hrr := HG.out
      rw [if_neg hnq] at hrr
      have hnr : nr = false := by cases nr; rfl; exact absurd (.inl rfl) hnq
      have hv18 : v ≠ 18 := fun e => hnq (.inr e)
      subst hnr
      have g18 : (v == 18) = false := by simpa using hv18
      have htr := HTR.out w1 HB1.out HNE.out
      have HV18 := Lib.hid hv18
      clear hb1 hcb hnq hv18
      go_upto_region 5 with fail
      clear b0 b7
      cases hcv : Sp.readR raw v keys what 0 with
      | got a q =>
        rw [hcv] at hrr htr
        have hq := read_placed HV18.out hcv
        have hq2 : (0 : Int) < (q : Int) := by omega
        have HT := Lib.hid htr
        have HG2 := Lib.hid hrr
        clear hrr htr hcv
        go_wp2_with (go_at_call 64; refine HT.out.mono ?_; rintro e w2 ⟨hb2, X, hXv, rfl, hown⟩; have hcb := (HCB1.out.later hb2).alloc (.cells #[.int .i64 X.kind, .slice X.E X.xs.length X.ec, .int .u64 X.number, str X.text, .slice X.S X.stats.length X.sc] 36); have z0 := hcb.cell 0; have z1 := hcb.cell 1; have z2 := hcb.cell 2; have z3 := hcb.cell 3; have z4 := hcb.cell 4; have f0 := hcb.frozen 0; have f1 := hcb.frozen 1; have f2 := hcb.frozen 2; have f3 := hcb.frozen 3; have f4 := hcb.frozen 4; simp only [List.getElem?_toArray, List.getElem?_cons_zero, List.getElem?_cons_succ] at z0 z1 z2 z3 z4; have HXV := Lib.hid hXv; have HOWN := Lib.hid hown; have HB2 := Lib.hid (HB1'.out.trans (hb2.mono HB1'.out.size)); have HB2' := Lib.hid hb2; clear hb2 hXv hown hcb)
        change bodyPost _ _ _ _ _ (ansPut ((w2).alloc (.cells #[.int .i64 X.kind, .slice X.E X.xs.length X.ec, .int .u64 X.number, str X.text, .slice X.S X.stats.length X.sc] 36)) c0 X)
        have hbf : Below w.heap.size w ((w2).alloc (.cells #[.int .i64 X.kind, .slice X.E X.xs.length X.ec, .int .u64 X.number, str X.text, .slice X.S X.stats.length X.sc] 36)) := HB2.out.alloc HB2.out.size _
        have hcf : Blk ((w2).alloc (.cells #[.int .i64 X.kind, .slice X.E X.xs.length X.ec, .int .u64 X.number, str X.text, .slice X.S X.stats.length X.sc] 36)) c0 36 #[.int .i64 0, .slice none 0 0, .int .u64 0, .string ⟨#[]⟩, .slice none 0 0] := (HCB1.out.later HB2'.out).alloc _
        have hput := ansPut_only ((w2).alloc (.cells #[.int .i64 X.kind, .slice X.E X.xs.length X.ec, .int .u64 X.number, str X.text, .slice X.S X.stats.length X.sc] 36)) c0 X
        refine bodyPost_ret (read2_results (x := X) (ansPut_blk hcf _) _ rfl rfl rfl) rfl ?_
        exact HFIN.out X q 0 (by rw [HG2.out, HXV.out]) _ (hbf.trans (hput.below hbf.size (by have := HC0.out; simp; omega))) (((HOWN.out.base HB1'.out.size).later ((Below.refl _ _).alloc (Nat.le_refl _) _)).far hcf hput)
      | more =>
        rw [hcv] at hrr htr
        have HT := Lib.hid htr
        clear htr hcv
        go_upto_region 8 with (go_at_call 64; refine HT.out.mono ?_; rintro e w2 ⟨hb2, rfl⟩; have HB2 := Lib.hid hb2; clear hb2)
        obtain ⟨W2, hW2⟩ : ∃ W2, W2 = (w2).alloc (.cells #[.int .i64 0, .slice none 0 0, .int .u64 0, .string ⟨#[]⟩, .slice none 0 0] 36) := ⟨_, rfl⟩
        rw [← hW2]
        have hb2 : Below w1.heap.size w1 W2 := by rw [hW2]; exact HB2.out.alloc HB2.out.size _
        have htf := HTF.out W2 (HB1.out.trans (hb2.mono HB1.out.size))
        have HCB2 := Lib.hid (HCB1.out.later hb2)
        have HB2' := Lib.hid (HB1'.out.trans (hb2.mono HB1'.out.size))
        clear hW2 hb2 HB2 HT
        change r = (match Sp.refusedR raw 0 with
          | .got b m => (b, m, 0)
          | _ => ({}, 0, 0)) at hrr
        cases hcv : Sp.refusedR raw 0 with
        | got b m =>
          rw [hcv] at hrr htf
          have hq := refused_placed hcv
          have g1 : ((m : Int) == 0) = false := by simp; omega
          have HT := Lib.hid htf
          have HG2 := Lib.hid hrr
          clear hrr htf hcv
          go_wp2_with (go_at_call 64; refine HT.out.mono ?_; rintro e w3 ⟨hb2, X, hXv, rfl, hown⟩; have hcb := (HCB2.out.later hb2).alloc (.cells #[.int .i64 X.kind, .slice X.E X.xs.length X.ec, .int .u64 X.number, str X.text, .slice X.S X.stats.length X.sc] 36); have z0 := hcb.cell 0; have z1 := hcb.cell 1; have z2 := hcb.cell 2; have z3 := hcb.cell 3; have z4 := hcb.cell 4; have f0 := hcb.frozen 0; have f1 := hcb.frozen 1; have f2 := hcb.frozen 2; have f3 := hcb.frozen 3; have f4 := hcb.frozen 4; simp only [List.getElem?_toArray, List.getElem?_cons_zero, List.getElem?_cons_succ] at z0 z1 z2 z3 z4; have HXV := Lib.hid hXv; have HOWN := Lib.hid hown; have HB3 := Lib.hid (HB2'.out.trans (hb2.mono HB2'.out.size)); have HB3' := Lib.hid hb2; clear hb2 hXv hown hcb)
          change bodyPost _ _ _ _ _ (ansPut ((w3).alloc (.cells #[.int .i64 X.kind, .slice X.E X.xs.length X.ec, .int .u64 X.number, str X.text, .slice X.S X.stats.length X.sc] 36)) c0 X)
          have hbf : Below w.heap.size w ((w3).alloc (.cells #[.int .i64 X.kind, .slice X.E X.xs.length X.ec, .int .u64 X.number, str X.text, .slice X.S X.stats.length X.sc] 36)) := HB3.out.alloc HB3.out.size _
          have hcf : Blk ((w3).alloc (.cells #[.int .i64 X.kind, .slice X.E X.xs.length X.ec, .int .u64 X.number, str X.text, .slice X.S X.stats.length X.sc] 36)) c0 36 #[.int .i64 0, .slice none 0 0, .int .u64 0, .string ⟨#[]⟩, .slice none 0 0] := (HCB2.out.later HB3'.out).alloc _
          have hput := ansPut_only ((w3).alloc (.cells #[.int .i64 X.kind, .slice X.E X.xs.length X.ec, .int .u64 X.number, str X.text, .slice X.S X.stats.length X.sc] 36)) c0 X
          refine bodyPost_ret (read2_results (x := X) (ansPut_blk hcf _) _ rfl rfl rfl) rfl ?_
          exact HFIN.out X m 0 (by rw [HG2.out, HXV.out]) _ (hbf.trans (hput.below hbf.size (by have := HC0.out; simp; omega))) (((HOWN.out.base HB2'.out.size).later ((Below.refl _ _).alloc (Nat.le_refl _) _)).far hcf hput)
        | more =>
          rw [hcv] at hrr htf
          have HT := Lib.hid htf
          have HG2 := Lib.hid hrr
          clear hrr htf hcv
          go_wp2_with (go_at_call 64; refine HT.out.mono ?_; rintro e w3 ⟨hb2, rfl⟩; have hcb := (HCB2.out.later hb2).alloc (.cells #[.int .i64 0, .slice none 0 0, .int .u64 0, .string ⟨#[]⟩, .slice none 0 0] 36); have z0 := hcb.cell 0; have z1 := hcb.cell 1; have z2 := hcb.cell 2; have z3 := hcb.cell 3; have z4 := hcb.cell 4; have f0 := hcb.frozen 0; have f1 := hcb.frozen 1; have f2 := hcb.frozen 2; have f3 := hcb.frozen 3; have f4 := hcb.frozen 4; simp only [List.getElem?_toArray, List.getElem?_cons_zero, List.getElem?_cons_succ] at z0 z1 z2 z3 z4; have HB3 := Lib.hid (HB2'.out.trans (hb2.mono HB2'.out.size)); have HB3' := Lib.hid hb2; clear hb2 hcb)
          change bodyPost _ _ _ _ _ (ansPut ((w3).alloc (.cells #[.int .i64 0, .slice none 0 0, .int .u64 0, .string ⟨#[]⟩, .slice none 0 0] 36)) c0 {})
          have hbf : Below w.heap.size w ((w3).alloc (.cells #[.int .i64 0, .slice none 0 0, .int .u64 0, .string ⟨#[]⟩, .slice none 0 0] 36)) := HB3.out.alloc HB3.out.size _
          have hcf : Blk ((w3).alloc (.cells #[.int .i64 0, .slice none 0 0, .int .u64 0, .string ⟨#[]⟩, .slice none 0 0] 36)) c0 36 #[.int .i64 0, .slice none 0 0, .int .u64 0, .string ⟨#[]⟩, .slice none 0 0] := (HCB2.out.later HB3'.out).alloc _
          have hput := ansPut_only ((w3).alloc (.cells #[.int .i64 0, .slice none 0 0, .int .u64 0, .string ⟨#[]⟩, .slice none 0 0] 36)) c0 {}
          refine bodyPost_ret (read2_results (x := {}) (ansPut_blk hcf _) _ rfl rfl rfl) rfl ?_
          exact HFIN.out {} 0 0 HG2.out _ (hbf.trans (hput.below hbf.size (by have := HC0.out; simp; omega))) (AnsOwn.bare _ _ rfl rfl rfl rfl rfl rfl)
        | fail =>
          rw [hcv] at hrr htf
          have HT := Lib.hid htf
          have HG2 := Lib.hid hrr
          clear hrr htf hcv
          go_wp2_with (go_at_call 64; refine HT.out.mono ?_; rintro e w3 ⟨hb2, rfl⟩; have hcb := (HCB2.out.later hb2).alloc (.cells #[.int .i64 0, .slice none 0 0, .int .u64 0, .string ⟨#[]⟩, .slice none 0 0] 36); have z0 := hcb.cell 0; have z1 := hcb.cell 1; have z2 := hcb.cell 2; have z3 := hcb.cell 3; have z4 := hcb.cell 4; have f0 := hcb.frozen 0; have f1 := hcb.frozen 1; have f2 := hcb.frozen 2; have f3 := hcb.frozen 3; have f4 := hcb.frozen 4; simp only [List.getElem?_toArray, List.getElem?_cons_zero, List.getElem?_cons_succ] at z0 z1 z2 z3 z4; have HB3 := Lib.hid (HB2'.out.trans (hb2.mono HB2'.out.size)); have HB3' := Lib.hid hb2; clear hb2 hcb)
          change bodyPost _ _ _ _ _ (ansPut ((w3).alloc (.cells #[.int .i64 0, .slice none 0 0, .int .u64 0, .string ⟨#[]⟩, .slice none 0 0] 36)) c0 {})
          have hbf : Below w.heap.size w ((w3).alloc (.cells #[.int .i64 0, .slice none 0 0, .int .u64 0, .string ⟨#[]⟩, .slice none 0 0] 36)) := HB3.out.alloc HB3.out.size _
          have hcf : Blk ((w3).alloc (.cells #[.int .i64 0, .slice none 0 0, .int .u64 0, .string ⟨#[]⟩, .slice none 0 0] 36)) c0 36 #[.int .i64 0, .slice none 0 0, .int .u64 0, .string ⟨#[]⟩, .slice none 0 0] := (HCB2.out.later HB3'.out).alloc _
          have hput := ansPut_only ((w3).alloc (.cells #[.int .i64 0, .slice none 0 0, .int .u64 0, .string ⟨#[]⟩, .slice none 0 0] 36)) c0 {}
          refine bodyPost_ret (read2_results (x := {}) (ansPut_blk hcf _) _ rfl rfl rfl) rfl ?_
          exact HFIN.out {} 0 0 HG2.out _ (hbf.trans (hput.below hbf.size (by have := HC0.out; simp; omega))) (AnsOwn.bare _ _ rfl rfl rfl rfl rfl rfl)
      | fail =>
        rw [hcv] at hrr htr
        have HT := Lib.hid htr
        clear htr hcv
        go_upto_region 8 with (go_at_call 64; refine HT.out.mono ?_; rintro e w2 ⟨hb2, rfl⟩; have HB2 := Lib.hid hb2; clear hb2)
        obtain ⟨W2, hW2⟩ : ∃ W2, W2 = (w2).alloc (.cells #[.int .i64 0, .slice none 0 0, .int .u64 0, .string ⟨#[]⟩, .slice none 0 0] 36) := ⟨_, rfl⟩
        rw [← hW2]
        have hb2 : Below w1.heap.size w1 W2 := by rw [hW2]; exact HB2.out.alloc HB2.out.size _
        have htf := HTF.out W2 (HB1.out.trans (hb2.mono HB1.out.size))
        have HCB2 := Lib.hid (HCB1.out.later hb2)
        have HB2' := Lib.hid (HB1'.out.trans (hb2.mono HB1'.out.size))
        clear hW2 hb2 HB2 HT
        change r = (match Sp.refusedR raw 0 with
          | .got b m => (b, m, 0)
          | .more => ({}, 0, 0)
          | .fail => ({}, 0, 7)) at hrr
        cases hcv : Sp.refusedR raw 0 with
        | got b m =>
          rw [hcv] at hrr htf
          have hq := refused_placed hcv
          have g1 : ((m : Int) == 0) = false := by simp; omega
          have HT := Lib.hid htf
          have HG2 := Lib.hid hrr
          clear hrr htf hcv
          go_wp2_with (go_at_call 64; refine HT.out.mono ?_; rintro e w3 ⟨hb2, X, hXv, rfl, hown⟩; have hcb := (HCB2.out.later hb2).alloc (.cells #[.int .i64 X.kind, .slice X.E X.xs.length X.ec, .int .u64 X.number, str X.text, .slice X.S X.stats.length X.sc] 36); have z0 := hcb.cell 0; have z1 := hcb.cell 1; have z2 := hcb.cell 2; have z3 := hcb.cell 3; have z4 := hcb.cell 4; have f0 := hcb.frozen 0; have f1 := hcb.frozen 1; have f2 := hcb.frozen 2; have f3 := hcb.frozen 3; have f4 := hcb.frozen 4; simp only [List.getElem?_toArray, List.getElem?_cons_zero, List.getElem?_cons_succ] at z0 z1 z2 z3 z4; have HXV := Lib.hid hXv; have HOWN := Lib.hid hown; have HB3 := Lib.hid (HB2'.out.trans (hb2.mono HB2'.out.size)); have HB3' := Lib.hid hb2; clear hb2 hXv hown hcb)
          change bodyPost _ _ _ _ _ (ansPut ((w3).alloc (.cells #[.int .i64 X.kind, .slice X.E X.xs.length X.ec, .int .u64 X.number, str X.text, .slice X.S X.stats.length X.sc] 36)) c0 X)
          have hbf : Below w.heap.size w ((w3).alloc (.cells #[.int .i64 X.kind, .slice X.E X.xs.length X.ec, .int .u64 X.number, str X.text, .slice X.S X.stats.length X.sc] 36)) := HB3.out.alloc HB3.out.size _
          have hcf : Blk ((w3).alloc (.cells #[.int .i64 X.kind, .slice X.E X.xs.length X.ec, .int .u64 X.number, str X.text, .slice X.S X.stats.length X.sc] 36)) c0 36 #[.int .i64 0, .slice none 0 0, .int .u64 0, .string ⟨#[]⟩, .slice none 0 0] := (HCB2.out.later HB3'.out).alloc _
          have hput := ansPut_only ((w3).alloc (.cells #[.int .i64 X.kind, .slice X.E X.xs.length X.ec, .int .u64 X.number, str X.text, .slice X.S X.stats.length X.sc] 36)) c0 X
          refine bodyPost_ret (read2_results (x := X) (ansPut_blk hcf _) _ rfl rfl rfl) rfl ?_
          exact HFIN.out X m 0 (by rw [HG2.out, HXV.out]) _ (hbf.trans (hput.below hbf.size (by have := HC0.out; simp; omega))) (((HOWN.out.base HB2'.out.size).later ((Below.refl _ _).alloc (Nat.le_refl _) _)).far hcf hput)
        | more =>
          rw [hcv] at hrr htf
          have HT := Lib.hid htf
          have HG2 := Lib.hid hrr
          clear hrr htf hcv
          go_wp2_with (go_at_call 64; refine HT.out.mono ?_; rintro e w3 ⟨hb2, rfl⟩; have hcb := (HCB2.out.later hb2).alloc (.cells #[.int .i64 0, .slice none 0 0, .int .u64 0, .string ⟨#[]⟩, .slice none 0 0] 36); have z0 := hcb.cell 0; have z1 := hcb.cell 1; have z2 := hcb.cell 2; have z3 := hcb.cell 3; have z4 := hcb.cell 4; have f0 := hcb.frozen 0; have f1 := hcb.frozen 1; have f2 := hcb.frozen 2; have f3 := hcb.frozen 3; have f4 := hcb.frozen 4; simp only [List.getElem?_toArray, List.getElem?_cons_zero, List.getElem?_cons_succ] at z0 z1 z2 z3 z4; have HB3 := Lib.hid (HB2'.out.trans (hb2.mono HB2'.out.size)); have HB3' := Lib.hid hb2; clear hb2 hcb)
          change bodyPost _ _ _ _ _ (ansPut ((w3).alloc (.cells #[.int .i64 0, .slice none 0 0, .int .u64 0, .string ⟨#[]⟩, .slice none 0 0] 36)) c0 {})
          have hbf : Below w.heap.size w ((w3).alloc (.cells #[.int .i64 0, .slice none 0 0, .int .u64 0, .string ⟨#[]⟩, .slice none 0 0] 36)) := HB3.out.alloc HB3.out.size _
          have hcf : Blk ((w3).alloc (.cells #[.int .i64 0, .slice none 0 0, .int .u64 0, .string ⟨#[]⟩, .slice none 0 0] 36)) c0 36 #[.int .i64 0, .slice none 0 0, .int .u64 0, .string ⟨#[]⟩, .slice none 0 0] := (HCB2.out.later HB3'.out).alloc _
          have hput := ansPut_only ((w3).alloc (.cells #[.int .i64 0, .slice none 0 0, .int .u64 0, .string ⟨#[]⟩, .slice none 0 0] 36)) c0 {}
          refine bodyPost_ret (read2_results (x := {}) (ansPut_blk hcf _) _ rfl rfl rfl) rfl ?_
          exact HFIN.out {} 0 0 HG2.out _ (hbf.trans (hput.below hbf.size (by have := HC0.out; simp; omega))) (AnsOwn.bare _ _ rfl rfl rfl rfl rfl rfl)
        | fail =>
          rw [hcv] at hrr htf
          have HT := Lib.hid htf
          have HG2 := Lib.hid hrr
          clear hrr htf hcv
          go_wp2_with (go_at_call 64; refine HT.out.mono ?_; rintro e w3 ⟨hb2, rfl⟩; have hcb := (HCB2.out.later hb2).alloc (.cells #[.int .i64 0, .slice none 0 0, .int .u64 0, .string ⟨#[]⟩, .slice none 0 0] 36); have z0 := hcb.cell 0; have z1 := hcb.cell 1; have z2 := hcb.cell 2; have z3 := hcb.cell 3; have z4 := hcb.cell 4; have f0 := hcb.frozen 0; have f1 := hcb.frozen 1; have f2 := hcb.frozen 2; have f3 := hcb.frozen 3; have f4 := hcb.frozen 4; simp only [List.getElem?_toArray, List.getElem?_cons_zero, List.getElem?_cons_succ] at z0 z1 z2 z3 z4; have HB3 := Lib.hid (HB2'.out.trans (hb2.mono HB2'.out.size)); have HB3' := Lib.hid hb2; clear hb2 hcb)
          change bodyPost _ _ _ _ _ (ansPut ((w3).alloc (.cells #[.int .i64 0, .slice none 0 0, .int .u64 0, .string ⟨#[]⟩, .slice none 0 0] 36)) c0 {})
          have hbf : Below w.heap.size w ((w3).alloc (.cells #[.int .i64 0, .slice none 0 0, .int .u64 0, .string ⟨#[]⟩, .slice none 0 0] 36)) := HB3.out.alloc HB3.out.size _
          have hcf : Blk ((w3).alloc (.cells #[.int .i64 0, .slice none 0 0, .int .u64 0, .string ⟨#[]⟩, .slice none 0 0] 36)) c0 36 #[.int .i64 0, .slice none 0 0, .int .u64 0, .string ⟨#[]⟩, .slice none 0 0] := (HCB2.out.later HB3'.out).alloc _
          have hput := ansPut_only ((w3).alloc (.cells #[.int .i64 0, .slice none 0 0, .int .u64 0, .string ⟨#[]⟩, .slice none 0 0] 36)) c0 {}
          refine bodyPost_ret (read2_results (x := {}) (ansPut_blk hcf _) _ rfl rfl rfl) rfl ?_
          exact HFIN.out {} 0 7 HG2.out _ (hbf.trans (hput.below hbf.size (by have := HC0.out; simp; omega))) (AnsOwn.bare _ _ rfl rfl rfl rfl rfl rfl)
end Go.Proofs.YtnbeeehfapjpdaaGreatDoor
end
