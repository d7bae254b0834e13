/- Plain laws of reading replies: an answer that is told fits, and its bytes are those that were read. No program in sight. Plain laws of reading replies: what is written of an answer that fits is read again. No program in sight. Plain laws of reading replies: what is written is read, whole. No program in sight. Plain laws of reading replies: an answer that fits comes out again, whatever stands behind it. No program in sight. -/
import Derived.Test.YtnbeeehfapjpdaaGreatDoorQ18
section
namespace Go.Proofs.YtnbeeehfapjpdaaGreatDoor
namespace Sp
section
variable {raw : Bs} {p q : Nat}
theorem split_word : ∀ {w : Bs}, (32 : UInt8) ∉ w → splitV w = [w]
  | [], _ => rfl
  | c :: w, h => by
    unfold splitV
    rw [if_neg (fun e => h (by rw [e]; exact List.mem_cons_self ..)), split_word (w := w) (fun e => h (List.mem_cons_of_mem _ e))]
theorem split_more {r : Bs} : ∀ {w : Bs}, (32 : UInt8) ∉ w → splitV (w ++ 32 :: r) = w :: splitV r
  | [], _ => by
    show splitV (32 :: r) = _
    rw [splitV, if_pos rfl]
  | c :: w, h => by
    show splitV (c :: (w ++ 32 :: r)) = _
    rw [splitV, if_neg (fun e => h (by rw [e]; exact List.mem_cons_self ..)), split_more (w := w) (fun e => h (List.mem_cons_of_mem _ e))]
theorem split_words : ∀ (ws : List Bs) {w : Bs}, (32 : UInt8) ∉ w → (∀ x ∈ ws, (32 : UInt8) ∉ x) → splitV (w ++ ws.flatMap fun w => [32] ++ w) = w :: ws
  | [], w, h, _ => by rw [List.flatMap_nil, List.append_nil]; exact split_word h
  | x :: ws, w, h, hx => by
    rw [List.flatMap_cons, List.append_assoc]
    show splitV (w ++ 32 :: (x ++ ws.flatMap fun w => [32] ++ w)) = _
    rw [split_more h, split_words ws (hx x (List.mem_cons_self ..)) (fun y hy => hx y (List.mem_cons_of_mem _ hy))]
theorem flag_blank {w : Bs} (h : flagR w = true) : (32 : UInt8) ∉ w := fun hm => by
  unfold flagR at h
  simp only [Bool.and_eq_true, List.all_eq_true] at h
  have := h.2 32 hm
  simp [oddV] at this
theorem dec_blank (n : Nat) : ∀ c ∈ Lib.decDigits n, 48 ≤ c.toNat ∧ c.toNat ≤ 57 := by
  induction n using Nat.strongRecOn with
  | _ n ih =>
    intro c hc
    rw [Lib.decDigits] at hc
    have hb : ∀ d, d < 10 → (UInt8.ofNat (48 + d)).toNat = 48 + d := fun d hd => by rw [UInt8.toNat_ofNat']; exact Nat.mod_eq_of_lt (by have : (2 : Nat) ^ 8 = 256 := rfl; omega)
    by_cases h : n < 10
    · rw [dif_pos h, List.mem_singleton] at hc
      rw [hc, hb n h]; omega
    · rw [dif_neg h] at hc
      rcases List.mem_append.1 hc with hc | hc
      · exact ih (n / 10) (by omega) c hc
      · rw [List.mem_singleton] at hc
        rw [hc, hb _ (by omega)]; omega
theorem codes_two (v : Int) : ∀ c ∈ codesV v, c.length = 2 ∧ (32 : UInt8) ∉ c := by
  unfold codesV
  repeat' split
  all_goals decide
theorem coded_reads {v : Int} {a : AnswerV} (h : codedR raw v 0 = .got a q) : a.kind = 15 ∧ a.number = 0 ∧ a.stats = [] ∧ metaV v a.text a.entries = true ∧ raw = a.text ++ crlf ++ a.entries.flatMap (fun e => e.value ++ crlf) ++ raw.drop q ∧ (∀ e ∈ a.entries, e = { value := e.value }) := by
  unfold codedR at h
  obtain ⟨i, p1, h1, h⟩ := next_got h
  obtain ⟨s, g1, g2, g3⟩ := choose_reads h1
  rw [List.drop_zero] at g2
  rw [Nat.zero_add] at g3
  have hg : (codesV v).getD i [] = s := by rw [List.getD_eq_getElem?_getD, g1]; rfl
  have hs := List.mem_of_getElem? g1
  obtain ⟨s2, sb⟩ := codes_two v s hs
  unfold codedRest at h
  rw [hg] at h
  by_cases hc : s = [69, 78] ∨ s = [77, 78]
  · rw [if_pos hc] at h
    obtain ⟨_, p2, h2, h⟩ := next_got h
    injection h with h3 h4
    subst h3 h4
    obtain ⟨a1, _⟩ := want_reads h2
    have hva : s ≠ [86, 65] := fun e => by rcases hc with rfl | rfl <;> cases e
    refine ⟨rfl, rfl, rfl, ?_, ?_, fun e he => by cases he⟩
    · unfold metaV
      rw [split_word sb]
      dsimp only
      rw [if_neg, if_neg hva]
      · rfl
      · rintro (h | h | ⟨h, _⟩ | ⟨_, h⟩)
        · omega
        · exact h hs
        · exact h rfl
        · exact h rfl
    · show raw = s ++ crlf ++ [] ++ raw.drop p2
      rw [List.append_nil, List.append_assoc, ← a1]; exact g2
  · rw [if_neg hc] at h
    obtain ⟨n, p2, h2, h⟩ := next_got h
    obtain ⟨_, p3, h3, h⟩ := next_got h
    obtain ⟨ws, f1, f2, f3, f4⟩ := flags_reads _ _ _ _ h3
    rw [Nat.sub_zero] at f3
    unfold codedEnd at h
    obtain ⟨_, p4, h4, h⟩ := next_got h
    obtain ⟨b1, _⟩ := want_reads h4
    unfold codedLast at h
    rw [hg, List.drop_zero, Nat.sub_zero] at h
    have hwb : ∀ x ∈ ws, (32 : UInt8) ∉ x := fun x hx => flag_blank (f2 x hx)
    by_cases hva : s = [86, 65]
    · rw [if_pos hva] at h2 h
      obtain ⟨_, p5, h5, h2⟩ := next_got h2
      obtain ⟨c1, c2⟩ := want_reads h5
      obtain ⟨d1, d2, d3⟩ := number_reads (by decide) h2
      obtain ⟨d, p6, h6, h⟩ := next_got h
      obtain ⟨_, p7, h7, h⟩ := next_got h
      injection h with h8 h9
      obtain ⟨e1, _, e2⟩ := data_reads h6
      obtain ⟨k1, _⟩ := want_reads h7
      have htx : raw.take p3 = s ++ ((Lib.decDigits n :: ws).flatMap fun w => [32] ++ w) := by
        have e : raw = (s ++ ((Lib.decDigits n :: ws).flatMap fun w => [32] ++ w)) ++ raw.drop p3 := by
          rw [List.flatMap_cons]
          conv => lhs; rw [g2, c1, d1, f1]
          simp only [List.append_assoc]
        have hl : (s ++ ((Lib.decDigits n :: ws).flatMap fun w => [32] ++ w)).length = p3 := by
          rw [List.flatMap_cons, List.length_append, List.length_append, List.length_append]
          simp only [List.length_cons, List.length_nil] at c2 ⊢
          rw [f4, d2, c2, g3, s2]
          simp only [Nat.add_assoc, Nat.zero_add]
        conv => lhs; rw [e]
        rw [← hl, List.take_left]
      have hdb : (32 : UInt8) ∉ Lib.decDigits n := fun hm => by have := dec_blank n 32 hm; have e : (32 : UInt8).toNat = 32 := rfl; omega
      rw [htx] at h8
      subst h8 h9
      refine ⟨rfl, rfl, rfl, ?_, ?_, fun e he => ?_⟩
      · unfold metaV
        rw [split_words _ sb (fun x hx => by
          rcases List.mem_cons.1 hx with rfl | hx
          · exact hdb
          · exact hwb x hx)]
        dsimp only
        rw [if_neg, if_pos hva]
        · rw [decide_eq_true (show d.length ≤ 1048576 by omega), decide_eq_true (show Lib.decDigits n = digitsV d.length by rw [e2, digits_dec (by omega)]), List.all_eq_true.2 f2]; rfl
        · rintro (h | h | ⟨_, h⟩ | ⟨h, _⟩)
          · rw [← htx, List.length_take] at h; omega
          · exact h hs
          · exact hc h
          · exact h hva
      · show raw = _ ++ crlf ++ ([{ value := d : EntryV }].flatMap fun e => e.value ++ crlf) ++ raw.drop p7
        rw [← htx, List.flatMap_cons, List.flatMap_nil, List.append_nil]
        conv => lhs; rw [← List.take_append_drop p3 raw, b1, e1, k1]
        simp only [List.append_assoc]
      · rw [List.mem_singleton.1 he]
    · rw [if_neg hva] at h2 h
      injection h with h8 h9
      injection h2 with h2 h5
      subst h5
      have htx : raw.take p3 = s ++ (ws.flatMap fun w => [32] ++ w) := by
        have e : raw = (s ++ (ws.flatMap fun w => [32] ++ w)) ++ raw.drop p3 := by
          conv => lhs; rw [g2, f1]
          simp only [List.append_assoc]
        have hl : (s ++ (ws.flatMap fun w => [32] ++ w)).length = p3 := by rw [List.length_append, f4, g3]
        conv => lhs; rw [e]
        rw [← hl, List.take_left]
      rw [htx] at h8
      subst h8 h9
      refine ⟨rfl, rfl, rfl, ?_, ?_, fun e he => by cases he⟩
      · unfold metaV
        rw [split_words _ sb hwb]
        dsimp only
        rw [if_neg, if_neg hva]
        · exact List.all_eq_true.2 f2
        · rintro (h | h | ⟨_, h⟩ | ⟨_, h⟩)
          · rw [← htx, List.length_take] at h; omega
          · exact h hs
          · exact hc h
          · exact h rfl
      · show raw = _ ++ crlf ++ [] ++ raw.drop p4
        rw [← htx, List.append_nil, List.append_assoc, ← b1, List.take_append_drop]
theorem fixed_reads {l : List Int} {a : AnswerV} (h : ((chooseV raw 0 (l.map fun k => fixedV k ++ crlf)).next fun i p => (RdV.got ({ kind := l.getD i 0 } : AnswerV) p)) = .got a q) : ∃ k ∈ l, a = { kind := k } ∧ raw = fixedV k ++ crlf ++ raw.drop q := by
  obtain ⟨i, p1, h1, h⟩ := next_got h
  obtain ⟨s, g1, g2, _⟩ := choose_reads h1
  rw [List.drop_zero] at g2
  injection h with h2 h3
  subst h2 h3
  rw [List.getElem?_map, Option.map_eq_some_iff] at g1
  obtain ⟨k, k1, k2⟩ := g1
  subst k2
  exact ⟨k, List.mem_of_getElem? k1, by rw [List.getD_eq_getElem?_getD, k1]; rfl, g2⟩
theorem line_one (s : Bs) : lineR [s] = s ++ crlf := by simp [lineR, List.intercalate, List.intersperse, crlf]
/-- an answer as it is told -/
def Told (v : Int) (a : AnswerV) : Prop := (a.kind = 9 → ∀ e ∈ a.entries, EntryFit v e) ∧ (a.kind ≠ 9 → ∀ e ∈ a.entries, e = { value := e.value }) ∧ (a.number ≤ 18446744073709551615) ∧ ∀ x ∈ a.stats, x.2 ≤ 18446744073709551615
theorem told_plain (v : Int) (k : Int) : Told v { kind := k } := ⟨fun _ e h => (by cases h), fun _ e h => (by cases h), Nat.zero_le _, fun x h => by cases h⟩
theorem meta_reads {v : Int} {keys : List Bs} {what : Bs} {a : AnswerV} (hl : kindsV v what = [15, 12] ∨ kindsV v what = [15]) (h : codedR raw v 0 = .got a q) : fitsV v keys what a = true ∧ a.kind ≠ 12 ∧ raw = answerW v a ++ raw.drop q ∧ Told v a := by
  obtain ⟨h1, h2, h3, h4, h5, h6⟩ := coded_reads h
  refine ⟨?_, by rw [h1]; decide, ?_, ⟨fun h => absurd (h1.symm.trans h) (by decide), fun _ => h6, by rw [h2]; exact Nat.zero_le _, fun x h => by rw [h3] at h; cases h⟩⟩
  · unfold fitsV
    rw [h1, h2, h3]
    rcases hl with hl | hl <;> rw [hl] <;> simp [h4]
  · unfold answerW
    rw [h1, if_neg (by decide), if_neg (by decide), if_neg (by decide), if_neg (by decide), if_neg (by decide), if_pos rfl, line_one]
    exact h5
theorem read_reads {v : Int} {keys : List Bs} {what : Bs} {a : AnswerV} (hv : kindsV v what ≠ [12]) (h : readR raw v keys what 0 = .got a q) : fitsV v keys what a = true ∧ a.kind ≠ 12 ∧ raw = answerW v a ++ raw.drop q ∧ Told v a := by
  have hk := kinds_cases v what
  obtain ⟨l, hl⟩ : ∃ l, l = kindsV v what := ⟨_, rfl⟩
  unfold readR at h
  rw [← hl] at h hk hv
  have hfix : ∀ k : Int, k ∈ l → fixedV k ≠ [] → k ≠ 7 → k ≠ 9 → k ≠ 10 → k ≠ 11 → k ≠ 13 → k ≠ 15 → k ≠ 12 → a = { kind := k } → raw = fixedV k ++ crlf ++ raw.drop q → fitsV v keys what a = true ∧ a.kind ≠ 12 ∧ raw = answerW v a ++ raw.drop q ∧ Told v a := by
    intro k hm hf h7 h9 h10 h11 h13 h15 h12 ha hr
    subst ha
    refine ⟨?_, h12, ?_, told_plain v k⟩
    · unfold fitsV
      rw [← hl]
      have hne : l ≠ [] := fun e => by rw [e] at hm; cases hm
      simp [hne, hm, h9, h10, h11, h13, h15]
    · unfold answerW
      rw [if_neg h9, if_neg h7, if_neg h10, if_neg h11, if_neg h13, if_neg h15, line_one]
      exact hr
  simp only [List.mem_cons, List.not_mem_nil, or_false] at hk
  rcases hk with rfl | rfl | rfl | rfl | rfl | rfl | rfl | rfl | rfl | rfl | rfl | rfl | rfl | rfl
  · obtain ⟨k, hm, _⟩ := fixed_reads (raw := raw) (l := []) h
    cases hm
  · have h' : ((valuesFrom raw v (keys.length + 1) keys [] 0).next fun x p => RdV.got ({ kind := 9, entries := x } : AnswerV) p) = .got a q := h
    obtain ⟨x, p1, h1, h2⟩ := next_got h'
    injection h2 with h3 h4
    subst h3 h4
    obtain ⟨l, m1, m2, m3, m4⟩ := values_reads v _ _ _ _ _ _ h1
    rw [List.nil_append] at m1
    subst m1
    refine ⟨?_, by show (9 : Int) ≠ 12; decide, ?_, ⟨fun _ => m4, fun h => absurd rfl h, Nat.zero_le _, fun x h => by cases h⟩⟩
    · unfold fitsV
      rw [← hl]
      simp [m3]
    · unfold answerW
      rw [if_pos rfl, line_one]
      rw [List.drop_zero] at m2
      exact m2
  · obtain ⟨k, hm, h1, h2⟩ := fixed_reads (l := [1, 2]) h
    simp only [List.mem_cons, List.not_mem_nil, or_false] at hm
    rcases hm with rfl | rfl
    · exact hfix _ (by decide) (by decide) (by decide) (by decide) (by decide) (by decide) (by decide) (by decide) (by decide) h1 h2
    · exact hfix _ (by decide) (by decide) (by decide) (by decide) (by decide) (by decide) (by decide) (by decide) (by decide) h1 h2
  · obtain ⟨k, hm, h1, h2⟩ := fixed_reads (l := [1, 3, 4]) h
    simp only [List.mem_cons, List.not_mem_nil, or_false] at hm
    rcases hm with rfl | rfl | rfl
    · exact hfix _ (by decide) (by decide) (by decide) (by decide) (by decide) (by decide) (by decide) (by decide) (by decide) h1 h2
    · exact hfix _ (by decide) (by decide) (by decide) (by decide) (by decide) (by decide) (by decide) (by decide) (by decide) h1 h2
    · exact hfix _ (by decide) (by decide) (by decide) (by decide) (by decide) (by decide) (by decide) (by decide) (by decide) h1 h2
  · obtain ⟨k, hm, h1, h2⟩ := fixed_reads (l := [5, 4]) h
    simp only [List.mem_cons, List.not_mem_nil, or_false] at hm
    rcases hm with rfl | rfl
    · exact hfix _ (by decide) (by decide) (by decide) (by decide) (by decide) (by decide) (by decide) (by decide) (by decide) h1 h2
    · exact hfix _ (by decide) (by decide) (by decide) (by decide) (by decide) (by decide) (by decide) (by decide) (by decide) h1 h2
  · have h' : (if digitAt raw 0 = true then (numberR raw 18446744073709551615 0).next fun n p => (wantV raw p crlf).next fun _ p1 => RdV.got ({ kind := 7, number := n } : AnswerV) p1 else (chooseV raw 0 (([4] : List Int).map fun k => fixedV k ++ crlf)).next fun i p => RdV.got ({ kind := ([4] : List Int).getD i 0 } : AnswerV) p) = .got a q := h
    by_cases hd : digitAt raw 0 = true
    · rw [if_pos hd] at h'
      obtain ⟨n, p1, h1, h2⟩ := next_got h'
      obtain ⟨_, p2, h3, h4⟩ := next_got h2
      injection h4 with h5 h6
      subst h5 h6
      obtain ⟨g1, _, g2⟩ := number_reads (by decide) h1
      obtain ⟨g3, _⟩ := want_reads h3
      rw [List.drop_zero] at g1
      refine ⟨?_, by show (7 : Int) ≠ 12; decide, ?_, ⟨fun (h : (7 : Int) = 9) => absurd h (by decide), fun _ e h => (by cases h), g2, fun x h => by cases h⟩⟩
      · unfold fitsV
        rw [← hl]
        simp
      · unfold answerW
        dsimp only
        rw [if_neg (by decide), if_pos rfl, line_one, digits_dec g2, List.append_assoc, ← g3]
        exact g1
    · rw [if_neg hd] at h'
      obtain ⟨k, hm, h1, h2⟩ := fixed_reads (l := [4]) h'
      simp only [List.mem_cons, List.not_mem_nil, or_false] at hm
      subst hm
      exact hfix _ (by decide) (by decide) (by decide) (by decide) (by decide) (by decide) (by decide) (by decide) (by decide) h1 h2
  · obtain ⟨k, hm, h1, h2⟩ := fixed_reads (l := [6, 4]) h
    simp only [List.mem_cons, List.not_mem_nil, or_false] at hm
    rcases hm with rfl | rfl
    · exact hfix _ (by decide) (by decide) (by decide) (by decide) (by decide) (by decide) (by decide) (by decide) (by decide) h1 h2
    · exact hfix _ (by decide) (by decide) (by decide) (by decide) (by decide) (by decide) (by decide) (by decide) (by decide) h1 h2
  · obtain ⟨k, hm, h1, h2⟩ := fixed_reads (l := [8]) h
    simp only [List.mem_cons, List.not_mem_nil, or_false] at hm
    subst hm
    exact hfix _ (by decide) (by decide) (by decide) (by decide) (by decide) (by decide) (by decide) (by decide) (by decide) h1 h2
  · have h' : ((wantV raw 0 (versionV ++ [32])).next fun _ p => (textR raw p).next fun s p1 => (wantV raw p1 crlf).next fun _ p2 => RdV.got ({ kind := 10, text := s } : AnswerV) p2) = .got a q := h
    obtain ⟨_, p1, h1, h2⟩ := next_got h'
    obtain ⟨s, p2, h3, h4⟩ := next_got h2
    obtain ⟨_, p3, h5, h6⟩ := next_got h4
    injection h6 with h7 h8
    subst h7 h8
    obtain ⟨g1, _⟩ := want_reads h1
    obtain ⟨g2, _, g3⟩ := text_reads h3
    obtain ⟨g4, _⟩ := want_reads h5
    rw [List.drop_zero] at g1
    refine ⟨?_, by show (10 : Int) ≠ 12; decide, ?_, ⟨fun (h : (10 : Int) = 9) => absurd h (by decide), fun _ e h => (by cases h), Nat.zero_le _, fun x h => by cases h⟩⟩
    · unfold fitsV
      rw [← hl]
      simp [g3]
    · unfold answerW
      dsimp only
      rw [if_neg (by decide), if_neg (by decide), if_pos rfl]
      have e : lineR [versionV, s] = versionV ++ [32] ++ s ++ crlf := by simp [lineR, List.intercalate, List.intersperse, crlf]
      show raw = lineR [versionV, s] ++ raw.drop p3
      rw [e]
      conv => lhs; rw [g1, g2, g4]
      simp only [List.append_assoc]
  · exact absurd rfl hv
  · obtain ⟨k, hm, h1, h2⟩ := fixed_reads (l := [14]) h
    simp only [List.mem_cons, List.not_mem_nil, or_false] at hm
    subst hm
    exact hfix _ (by decide) (by decide) (by decide) (by decide) (by decide) (by decide) (by decide) (by decide) (by decide) h1 h2
  · have h' : ((statsFrom raw (raw.length + 1) [] 0).next fun x p => RdV.got ({ kind := 13, stats := x } : AnswerV) p) = .got a q := h
    obtain ⟨x, p1, h1, h2⟩ := next_got h'
    injection h2 with h3 h4
    subst h3 h4
    obtain ⟨l, m1, m2, m3⟩ := stats_reads _ _ _ _ _ h1
    rw [List.nil_append] at m1
    subst m1
    refine ⟨?_, by show (13 : Int) ≠ 12; decide, ?_, ⟨fun (h : (13 : Int) = 9) => absurd h (by decide), fun _ e h => (by cases h), Nat.zero_le _, fun x h => (m3 x h).2⟩⟩
    · unfold fitsV
      rw [← hl]
      have hall : (x.all fun x => nameR x.1) = true := List.all_eq_true.2 fun x hx => (m3 x hx).1
      simp only [hall]
      simp
    · unfold answerW
      dsimp only
      rw [if_neg (by decide), if_neg (by decide), if_neg (by decide), if_neg (by decide), if_pos rfl, line_one]
      rw [List.drop_zero] at m2
      exact m2
  · exact meta_reads (by rw [← hl]; exact .inl rfl) h
  · exact meta_reads (by rw [← hl]; exact .inr rfl) h
end
end Sp
end Go.Proofs.YtnbeeehfapjpdaaGreatDoor
end
section
namespace Go.Proofs.YtnbeeehfapjpdaaGreatDoor
namespace Sp
section
variable {raw : Bs} {p q : Nat}
theorem kinds_quit {v : Int} {what : Bs} (h : v ≠ 18) : kindsV v what ≠ [12] := by
  unfold kindsV
  by_cases h1 : v = 1 ∨ v = 2 ∨ v = 3 ∨ v = 4
  · rw [if_pos h1]; decide
  rw [if_neg h1]
  by_cases h2 : v = 5 ∨ v = 6 ∨ v = 7 ∨ v = 8 ∨ v = 9
  · rw [if_pos h2]; decide
  rw [if_neg h2]
  by_cases h3 : v = 10
  · rw [if_pos h3]; decide
  rw [if_neg h3]
  by_cases h4 : v = 11
  · rw [if_pos h4]; decide
  rw [if_neg h4]
  by_cases h5 : v = 12 ∨ v = 13
  · rw [if_pos h5]; decide
  rw [if_neg h5]
  by_cases h6 : v = 14
  · rw [if_pos h6]; decide
  rw [if_neg h6]
  by_cases h7 : v = 15 ∨ v = 17
  · rw [if_pos h7]; decide
  rw [if_neg h7]
  by_cases h8 : v = 16
  · rw [if_pos h8]; decide
  rw [if_neg h8, if_neg h]
  by_cases h10 : v = 19
  · rw [if_pos h10]
    by_cases hw : what = [114, 101, 115, 101, 116]
    · rw [if_pos hw]; decide
    · rw [if_neg hw]; decide
  rw [if_neg h10]
  by_cases h11 : v = 20 ∨ v = 21 ∨ v = 22 ∨ v = 23
  · rw [if_pos h11]; decide
  rw [if_neg h11]
  by_cases h12 : v = 24
  · rw [if_pos h12]; decide
  · rw [if_neg h12]; decide
theorem refused_reads {a : AnswerV} (h : refusedR raw 0 = .got a q) : a = { kind := 11, text := a.text } ∧ refusalV a.text = true ∧ raw = a.text ++ crlf ++ raw.drop q := by
  unfold refusedR at h
  obtain ⟨i, p1, h1, h⟩ := next_got h
  obtain ⟨s, g1, g2, _⟩ := choose_reads h1
  rw [List.drop_zero] at g2
  by_cases hi : i = 0
  · rw [if_pos hi] at h
    injection h with h2 h3
    subst h2 h3 hi
    have hs : s = errorV ++ crlf := by simpa [refusals] using g1.symm
    subst hs
    exact ⟨rfl, by decide, g2⟩
  · rw [if_neg hi] at h
    obtain ⟨t, p2, h2, h⟩ := next_got h
    obtain ⟨_, p3, h3, h⟩ := next_got h
    injection h with h4 h5
    subst h4 h5
    have hg : refusals.getD i [] = s := by rw [List.getD_eq_getElem?_getD, g1]; rfl
    obtain ⟨a1, _, a2⟩ := text_reads h2
    obtain ⟨b1, _⟩ := want_reads h3
    have hs : s = clientErr ∨ s = serverErr := by
      match i, hi, g1 with
      | 1, _, g1 => left; simpa [refusals] using g1.symm
      | 2, _, g1 => right; simpa [refusals] using g1.symm
      | i + 3, _, g1 => simp [refusals] at g1
    rw [hg]
    refine ⟨rfl, ?_, ?_⟩
    · show refusalV (s ++ t) = true
      have hp : s.isPrefixOf (s ++ t) = true := by rw [List.isPrefixOf_iff_prefix]; exact List.prefix_append _ _
      unfold refusalV
      rw [Bool.or_eq_true]
      right
      rw [List.any_eq_true]
      refine ⟨s, ?_, by rw [hp, List.drop_left, a2]; rfl⟩
      rcases hs with rfl | rfl <;> decide
    · show raw = s ++ t ++ crlf ++ raw.drop p3
      conv => lhs; rw [g2, a1, b1]
      simp only [List.append_assoc]
/-- what is told of an entry of keys -/
def keptE (v : Int) (e : EntryV) : EntryV := { key := e.key, value := e.value, flags := e.flags, token := if tokensV v then e.token else 0 }
end
end Sp
end Go.Proofs.YtnbeeehfapjpdaaGreatDoor
end
section
namespace Go.Proofs.YtnbeeehfapjpdaaGreatDoor
namespace Sp
section
variable {raw : Bs} {p q : Nat}
end
end Sp
end Go.Proofs.YtnbeeehfapjpdaaGreatDoor
end
section
namespace Go.Proofs.YtnbeeehfapjpdaaGreatDoor
namespace Sp
section
variable {raw r : Bs} {p q : Nat}
/-- what is told of an answer -/
def keptR (v : Int) (a : AnswerV) : AnswerV := { a with entries := a.entries.map fun e => { key := if a.kind = 9 then e.key else [], value := e.value, flags := if a.kind = 9 then e.flags else 0, token := if tokensV v then e.token else 0 } }
/-- numbers are unsigned ones of 64 bits -/
structure Sized (a : AnswerV) : Prop where
  number : a.number ≤ 18446744073709551615
  tokens : ∀ e ∈ a.entries, e.token ≤ 18446744073709551615
  stats : ∀ x ∈ a.stats, x.2 ≤ 18446744073709551615
theorem fits_form {v : Int} {keys : List Bs} {what : Bs} {a : AnswerV} (h : fitsV v keys what a = true) : (a.kind ∈ kindsV v what ∨ (a.kind = 11 ∧ v ≠ 18)) ∧ kindsV v what ≠ [] ∧ (a.kind ≠ 13 → a.stats = []) ∧ (a.kind ≠ 9 → a.kind ≠ 15 → a.entries = []) ∧ (a.kind ≠ 7 → a.number = 0) ∧ (a.kind ≠ 10 → a.kind ≠ 11 → a.kind ≠ 15 → a.text = []) ∧
    (a.kind = 9 → entriesV keys a.entries = true) ∧ (a.kind = 10 → plainV a.text = true) ∧ (a.kind = 11 → refusalV a.text = true) ∧ (a.kind = 13 → ∀ x ∈ a.stats, nameR x.1 = true) ∧ (a.kind = 15 → metaV v a.text a.entries = true) := by
  unfold fitsV at h
  dsimp only at h
  by_cases h1 : kindsV v what = [] ∨ (a.kind ∉ kindsV v what ∧ (a.kind ≠ 11 ∨ v = 18))
  · rw [if_pos h1] at h; cases h
  · rw [if_neg h1] at h
    by_cases h2 : (a.stats ≠ [] ∧ a.kind ≠ 13) ∨ (a.entries ≠ [] ∧ a.kind ≠ 9 ∧ a.kind ≠ 15) ∨ (0 < a.number ∧ a.kind ≠ 7) ∨ (a.text ≠ [] ∧ a.kind ≠ 10 ∧ a.kind ≠ 11 ∧ a.kind ≠ 15)
    · rw [if_pos h2] at h; cases h
    · rw [if_neg h2] at h
      refine ⟨?_, fun e => h1 (.inl e), ?_, ?_, ?_, ?_, ?_, ?_, ?_, ?_, ?_⟩
      · by_cases hk : a.kind ∈ kindsV v what
        · exact .inl hk
        · refine .inr ⟨?_, ?_⟩
          · by_cases h3 : a.kind = 11
            · exact h3
            · exact absurd (.inr ⟨hk, .inl h3⟩) h1
          · intro h3
            exact h1 (.inr ⟨hk, .inr h3⟩)
      · intro h3
        by_cases h4 : a.stats = []
        · exact h4
        · exact absurd (.inl ⟨h4, h3⟩) h2
      · intro h3 h5
        by_cases h4 : a.entries = []
        · exact h4
        · exact absurd (.inr (.inl ⟨h4, h3, h5⟩)) h2
      · intro h3
        by_cases h4 : a.number = 0
        · exact h4
        · exact absurd (.inr (.inr (.inl ⟨by omega, h3⟩))) h2
      · intro h3 h5 h6
        by_cases h4 : a.text = []
        · exact h4
        · exact absurd (.inr (.inr (.inr ⟨h4, h3, h5, h6⟩))) h2
      · intro h3
        rw [if_pos h3] at h; exact h
      · intro h3
        rw [h3] at h; exact h
      · intro h3
        rw [h3] at h; exact h
      · intro h3
        rw [h3] at h
        exact fun x hx => List.all_eq_true.1 h x hx
      · intro h3
        rw [h3] at h; exact h
end
end Sp
end Go.Proofs.YtnbeeehfapjpdaaGreatDoor
end
