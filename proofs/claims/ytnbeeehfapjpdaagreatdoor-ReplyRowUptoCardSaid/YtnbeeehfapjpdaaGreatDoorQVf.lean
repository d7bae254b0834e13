/- Memory of answers; what a reader's call leaves as it was; slices.Index over bytes; the predicate of flags. Walk of package reply's reader: stats. -/
import Derived.Test.YtnbeeehfapjpdaaGreatDoorQVd
section
namespace Go.Proofs.YtnbeeehfapjpdaaGreatDoor
attribute [local go_sem ↓] Go.wp_at_zero Go.wp_at_succ
open Go.RowKit

theorem RdAt.lt {w : World} {rb : Nat} {A : Option Addr} {cap : Nat} {raw : Sp.Bs} {p : Nat} (h : RdAt w rb A cap raw p) : rb < w.heap.size := h.blk.lt
theorem RowAt.only {w w' : World} {A : Option Addr} {xs : List Value} (h : RowAt w A xs) {L : List Nat} (ho : OnlyIn L w w') (hA : ∀ a, A = some a → a.block ∉ L) : RowAt w' A xs := by
  rcases h with h | ⟨b, o, h1, h2, h3⟩
  · exact .inl h
  · exact .inr ⟨b, o, h1, Nat.lt_of_lt_of_le h2 ho.size, fun j u hu => (World.cell?_of_block (ho.block b h2 (hA _ h1))).trans (h3 j u hu)⟩
theorem RowAt.onlyN {w w' : World} {A : Option Addr} {xs : List Value} (h : RowAt w A xs) {L : List Nat} (ho : OnlyIn L w w') (hA : xs ≠ [] → ∀ a, A = some a → a.block ∉ L) : RowAt w' A xs := by
  by_cases hx : xs = []
  · exact .inl hx
  · exact h.only ho (hA hx)
theorem ne_of_map {α β : Type} {f : α → β} {l : List α} (h : l.map f ≠ []) : l ≠ [] := fun e => h (by rw [e]; rfl)
theorem ne_of_drop {α : Type} {l : List α} {n : Nat} (h : l.drop n ≠ []) : l ≠ [] := fun e => h (by rw [e]; exact List.drop_nil)
/-- a call that leaves the reader's block and what lay ahead of it as it was -/
theorem RdAt.only {w w' : World} {rb : Nat} {A : Option Addr} {cap : Nat} {raw : Sp.Bs} {p : Nat} (h : RdAt w rb A cap raw p) {L : List Nat} (ho : OnlyIn L w w') (hL : ∀ k ∈ L, rb < k) : RdAt w' rb A cap raw p :=
  { h with
    blk := h.blk.same (ho.block rb h.lt fun hm => by have := hL rb hm; omega)
    row := h.row.only ho fun a ha hm => by have := hL _ hm; have := h.old a ha; omega }
/-- a row of the call's own stays when the reader goes on -/
theorem own_only {w w' : World} {base : Nat} {e : TypeId} {size n : Nat} {v : Value} {xs : List Value} (h : w.ownsRow base e size v n xs) {L : List Nat} (ho : OnlyIn L w w') (hL : ∀ k ∈ L, k < base) : w'.ownsRow base e size v n xs :=
  own_same h fun k hk => ho.block k (own_lt h k hk) fun hm => by have := hL k hm; have := own_ge h k hk; omega
theorem OnlyIn.rd {rb : Nat} {w w1 w2 : World} (h : OnlyIn [rb] w w1) (k : OnlyIn [rb] w1 w2) : OnlyIn [rb] w w2 := h.trans k fun _ hi => .inl hi
/-- a stat's cells -/
def statCells (l : List (Sp.Bs × Nat)) : List Value := l.flatMap fun x => [str x.1, .int .u64 x.2]
theorem statCells_snoc (l : List (Sp.Bs × Nat)) (x : Sp.Bs × Nat) : statCells (l ++ [x]) = statCells l ++ [str x.1, .int .u64 x.2] := by simp [statCells]
/-- an entry, and where its value lies -/
structure EntX where
  e : Sp.EntryV
  B : Option Addr
  c : Nat
def EntX.cells (x : EntX) : List Value := [str x.e.key, .slice x.B x.e.value.length x.c, .int .u64 x.e.flags, .int .i64 x.e.expiry, .int .u64 x.e.token, .int .i64 x.e.touched, .bool x.e.stale, .bool x.e.won, .bool x.e.hit]
abbrev EntX.val (x : EntX) : Value := .slice x.B x.e.value.length x.c
/-- entries of the call's own -/
structure EntsOwn (w : World) (base : Nat) (v : Value) (xs : List EntX) : Prop where
  row : w.ownsRow base 86 9 v xs.length (xs.flatMap EntX.cells)
  each : ∀ x ∈ xs, w.ownsRow base 5 1 x.val x.e.value.length (bytesV x.e.value)
  apart : (xs.flatMap fun x => rowBlock x.val).Nodup
theorem EntsOwn.nil (w : World) (base : Nat) : EntsOwn w base nilRow [] := ⟨World.ownsRow_nil w base _ 9, by simp, by simp⟩
theorem EntsOwn.only {w w' : World} {base : Nat} {v : Value} {xs : List EntX} (h : EntsOwn w base v xs) {L : List Nat} (ho : OnlyIn L w w') (hL : ∀ k ∈ L, k < base) : EntsOwn w' base v xs :=
  ⟨own_only h.row ho hL, fun x hx => own_only (h.each x hx) ho hL, h.apart⟩
theorem EntsOwn.later {w w' : World} {base : Nat} {v : Value} {xs : List EntX} (h : EntsOwn w base v xs) (hb : Below w.heap.size w w') : EntsOwn w' base v xs := h.only (OnlyIn.of hb []) (by simp)
/-- an answer, and where its lists lie -/
structure AnsX where
  kind : Int := 0
  E : Option Addr := none
  ec : Nat := 0
  xs : List EntX := []
  number : Nat := 0
  text : Sp.Bs := []
  S : Option Addr := none
  sc : Nat := 0
  stats : List (Sp.Bs × Nat) := []
def AnsX.v (x : AnsX) : Sp.AnswerV := { kind := x.kind, entries := x.xs.map (·.e), number := x.number, text := x.text, stats := x.stats }
abbrev AnsX.cells (x : AnsX) : Array Value := #[.int .i64 x.kind, .slice x.E x.xs.length x.ec, .int .u64 x.number, str x.text, .slice x.S x.stats.length x.sc]
abbrev AnsX.val (x : AnsX) : Value := .agg x.cells
structure AnsOwn (w : World) (base : Nat) (x : AnsX) : Prop where
  ents : EntsOwn w base (.slice x.E x.xs.length x.ec) x.xs
  stats : w.ownsRow base 90 2 (.slice x.S x.stats.length x.sc) x.stats.length (statCells x.stats)
theorem AnsOwn.later {w w' : World} {base : Nat} {x : AnsX} (h : AnsOwn w base x) (hb : Below w.heap.size w w') : AnsOwn w' base x := ⟨h.ents.later hb, own_later h.stats hb⟩
theorem AnsOwn.only {w w' : World} {base : Nat} {x : AnsX} (h : AnsOwn w base x) {L : List Nat} (ho : OnlyIn L w w') (hL : ∀ k ∈ L, k < base) : AnsOwn w' base x := ⟨h.ents.only ho hL, own_only h.stats ho hL⟩
theorem AnsOwn.bare (w : World) (base : Nat) {x : AnsX} (h1 : x.E = none) (h2 : x.ec = 0) (h3 : x.xs = []) (h4 : x.S = none) (h5 : x.sc = 0) (h6 : x.stats = []) : AnsOwn w base x := by
  constructor
  · rw [h1, h2, h3]; exact EntsOwn.nil w base
  · rw [h4, h5, h6]; exact World.ownsRow_nil w base _ 2

theorem flags1_any (c : UInt8) (w : World) : Calls Tryz.prog 160 #[.int .u8 c.toNat] w fun e w' => e = .returned (.bool (Sp.oddV c)) ∧ w = w' := by
  have h := odd_any (c.toNat : Int) w
  have e : Sp.oddV c = (decide ((c.toNat : Int) ≤ 32) || decide ((c.toNat : Int) = 127)) := by
    unfold Sp.oddV
    rw [← Bool.decide_or, decide_eq_decide, UInt8.le_iff_toNat_le, ← UInt8.toNat_inj]
    show c.toNat ≤ 32 ∨ c.toNat = 127 ↔ _
    omega
  rw [← e] at h
  generalize Sp.oddV c = b at h
  have hc : c.toNat < 256 := UInt8.toNat_lt c
  generalize c.toNat = n at h hc
  have H := Lib.hid h
  clear h e
  go_enter Tryz.func160, Tryz.ntmps160
  go_wp2_with (go_at_call 125; refine H.out.mono ?_; rintro e w1 ⟨rfl, rfl⟩)
  go_ret
  exact ⟨rfl, rfl⟩
set_option maxHeartbeats 2000000 in
set_option maxRecDepth 100000 in
theorem idx_rdByte {w : World} {A : Option Addr} {c : Nat} {l : Sp.Bs} (hrow : RowAt w A (bytesV l)) (hl : l.length ≤ 1000000000) (b : UInt8) :
    Calls Tryz.prog 136 #[.slice A l.length c, .int .u8 b.toNat] w fun e w' => e = .returned (.int .i64 (idxB (fun x => decide (x = b)) l)) ∧ Below w.heap.size w w' := by
  generalize hR : (fun (e : Ending) (w' : World) => e = .returned (.int .i64 (idxB (fun x => decide (x = b)) l)) ∧ Below w.heap.size w w') = R
  have HR := Lib.hid hR
  have HROW := Lib.hid hrow
  obtain ⟨bn, hbn⟩ : ∃ bn, bn = b.toNat := ⟨_, rfl⟩
  rw [← hbn]
  have HBN := Lib.hid hbn
  clear hR hrow hbn
  go_enter Tryz.func136, Tryz.ntmps136
  go_wp2_with fail
  go_loopw [5, 8] (fun _ k wr => ∃ i : Nat, k = .int .i64 i ∧ i ≤ l.length ∧ (∀ (j : Nat) (y : UInt8), j < i → l[j]? = some y → decide (y = b) = false) ∧ Below w.heap.size w wr) (fun _ k _ => l.length - (intOf k).toNat)
  case atStart => exact ⟨0, rfl, Nat.zero_le _, fun j y h => by omega, Below.refl _ _⟩
  case round =>
    obtain ⟨i, rfl, hi, hn, hb⟩ := hrel
    have HN := Lib.hid hn
    have HB := Lib.hid hb
    by_cases hlt : i < l.length
    · obtain ⟨x, hx⟩ : ∃ x, l[i]? = some x := ⟨l[i], by simp [hlt]⟩
      obtain ⟨g, o, hAe, ycell⟩ : ∃ g o, A = some ⟨g, o, none⟩ ∧ wr.cell? ⟨g, o + i, none⟩ = some (.int .u8 x.toNat) := by
        rcases HROW.out.below hb with h0 | ⟨g, o, h1, h2, h3⟩
        · have : l = [] := by simpa [bytesV] using h0
          rw [this] at hlt; simp at hlt
        · exact ⟨g, o, h1, h3 _ _ (by simp [bytesV, hx])⟩
      subst hAe
      have hi1 : (i : Int) < (l.length : Int) := by omega
      have HX := Lib.hid hx
      obtain ⟨xn, hxn⟩ : ∃ xn, xn = x.toNat := ⟨_, rfl⟩
      rw [← hxn] at ycell
      have HXN := Lib.hid hxn
      by_cases he : x = b
      · have g1 : ((bn : Int) == (xn : Int)) = true := by rw [HBN.out, hxn, he]; simp
        clear hn hb hx hxn
        go_wp2_with fail
        rw [← HR.out]
        exact ⟨by rw [idxB_at (P := fun x => decide (x = b)) HX.out (decide_eq_true he) HN.out]; rfl, HB.out⟩
      · have g1 : ((bn : Int) == (xn : Int)) = false := by
          rw [beq_eq_false_iff_ne]
          intro e
          exact he (UInt8.toNat_inj.1 (by rw [← hxn, ← HBN.out]; omega))
        have HE := Lib.hid he
        clear hn hb hx hxn he
        go_wp2_with fail
        refine ⟨⟨i + 1, by go_num, by omega, fun j y hj hy => ?_, HB.out⟩, by show l.length - ((i : Int) + 1).toNat < l.length - (i : Int).toNat; omega⟩
        rcases Nat.lt_or_ge j i with h1 | h1
        · exact HN.out j y h1 hy
        · have e : j = i := by omega
          have h2 := HX.out
          rw [← e, hy] at h2
          injection h2 with h2
          rw [h2]; exact decide_eq_false HE.out
    · have hi1 : decide ((i : Int) < (l.length : Int)) = false := decide_eq_false (by omega)
      have hi2 : decide (i < l.length) = false := decide_eq_false hlt
      have e : i = l.length := by omega
      clear hn hb
      go_wp2_with fail
      rw [← HR.out]
      exact ⟨by rw [idxB_none (by rw [← e]; exact HN.out)]; rfl, HB.out⟩
end Go.Proofs.YtnbeeehfapjpdaaGreatDoor
end
section
namespace Go.Proofs.YtnbeeehfapjpdaaGreatDoor
attribute [local go_sem ↓] Go.wp_at_zero Go.wp_at_succ
open Go.RowKit

/-- what a reading of several parts tells: what was read, and where it ends; or it is thrown -/
def ReadsTo {α : Type} (w : World) (rb : Nat) (A : Option Addr) (cap : Nat) (raw : Sp.Bs) (K : α → Ending → World → Prop) (r : Sp.RdV α) (e : Ending) (w' : World) : Prop :=
  OnlyIn [rb] w w' ∧ match r with
    | .got x q => K x e w' ∧ RdAt w' rb A cap raw q
    | .more => e = thrownR true
    | .fail => e = thrownR false
/-- where a reader in memory is -/
def atOf (w : World) (rb : Nat) : Nat := match w.cell? ⟨rb, 1, none⟩ with
  | some v => (intOf v).toNat
  | none => 0
theorem RdAt.at {w : World} {rb : Nat} {A : Option Addr} {cap : Nat} {raw : Sp.Bs} {p : Nat} (h : RdAt w rb A cap raw p) : atOf w rb = p := by
  have : w.cell? ⟨rb, 1, none⟩ = some (.int .i64 p) := h.blk.cell 1
  unfold atOf
  rw [this]
  show (p : Int).toNat = p
  omega
def StatsK (base : Nat) (l : List (Sp.Bs × Nat)) (e : Ending) (w' : World) : Prop := ∃ S sc, e = .returned (.slice S l.length sc) ∧ w'.ownsRow base 90 2 (.slice S l.length sc) l.length (statCells l)
structure StatsLoop (w : World) (rb : Nat) (A : Option Addr) (cap : Nat) (raw : Sp.Bs) (r : Sp.RdV (List (Sp.Bs × Nat))) (ov : Value) (out : List (Sp.Bs × Nat)) (k p : Nat) (wr : World) : Prop where
  rd : RdAt wr rb A cap raw p
  own : wr.ownsRow w.heap.size 90 2 ov out.length (statCells out)
  only : OnlyIn [rb] w wr
  go : Sp.statsFrom raw k out p = r
  fuel : raw.length - p < k
  few : out.length ≤ p
theorem info_stat : (Tryz.prog.info? 90).map (fun i => (i.zero, i.size, i.bytes)) = some (some (.agg #[.string ⟨#[]⟩, .int .u64 0]), 2, 24) := by kernel_rfl
theorem statName_none {raw : Sp.Bs} {p : Nat} (h : (raw.drop p).findIdx? (fun c => decide (c = 32)) = none) : Sp.statNameR raw p = if raw.drop p ≠ [] ∧ Sp.nameR (raw.drop p) = false then .fail else .more := by unfold Sp.statNameR; rw [h]
theorem statName_some {raw : Sp.Bs} {p e : Nat} (h : (raw.drop p).findIdx? (fun c => decide (c = 32)) = some e) : Sp.statNameR raw p = if Sp.nameR ((raw.drop p).take e) = false then .fail else .got ((raw.drop p).take e) (p + e + 1) := by unfold Sp.statNameR; rw [h]
def statTexts : List Sp.Bs := [Sp.endV ++ Sp.crlf, Sp.statV ++ [32]]
set_option maxHeartbeats 8000000 in
set_option maxRecDepth 100000 in
theorem stats_any {w : World} {rb : Nat} {A : Option Addr} {cap : Nat} {raw : Sp.Bs} {p : Nat} (h : RdAt w rb A cap raw p) :
    Calls Tryz.prog 106 #[.pointer (some ⟨rb, 0, none⟩)] w (ReadsTo w rb A cap raw (StatsK w.heap.size) (Sp.statsFrom raw (raw.length + 1) [] p)) := by
  obtain ⟨r, hr⟩ : ∃ r, r = Sp.statsFrom raw (raw.length + 1) [] p := ⟨_, rfl⟩
  rw [← hr]
  generalize hR : ReadsTo w rb A cap raw (StatsK w.heap.size) r = R
  have hstart : StatsLoop w rb A cap raw r nilRow [] (raw.length + 1) p w := ⟨h, World.ownsRow_nil w _ _ 2, OnlyIn.refl _ _, hr.symm, by omega, Nat.zero_le _⟩
  obtain ⟨i0, hi, hz0, hz1, hz2⟩ := info_parts info_stat
  have hlt := h.lt
  have hsm := h.small
  have hroom := h.room
  have hf := fun W : World => readerFail_any W rb
  have HR := Lib.hid hR
  have HS := Lib.hid hstart
  have HF := Lib.hid hf
  clear hR hstart hr h hf
  go_enter Tryz.func106, Tryz.ntmps106
  go_wp2_with fail
  go_loopw [3, 4, 5, 6, 7] (fun o _ _ _ _ wr => ∃ k out q, StatsLoop w rb A cap raw r o out k q wr) (fun _ _ _ _ _ wr => raw.length - atOf wr rb)
  case atStart => exact ⟨_, _, _, HS.out⟩
  case round =>
    obtain ⟨k, out, q, hm⟩ := hrel
    obtain ⟨k, rfl⟩ : ∃ k', k = k' + 1 := ⟨k - 1, by have := hm.fuel; omega⟩
    have hgo := hm.go
    rw [Sp.statsFrom] at hgo
    have hrd1 := hm.rd.only (OnlyIn.of ((Below.refl _ _).alloc (Nat.le_refl _) (.cells #[.string ⟨#[69, 78, 68, 13, 10]⟩, .string ⟨#[83, 84, 65, 84, 32]⟩] 9)) []) (by simp)
    have hch := choose_any (tc := 2) (ts := statTexts) hrd1 (T := some ⟨wr.heap.size, 0, none⟩) (row_new wr rfl 9 [.string ⟨#[69, 78, 68, 13, 10]⟩, .string ⟨#[83, 84, 65, 84, 32]⟩]) (by decide) (by decide)
    have HM := Lib.hid hm
    have hat := hm.rd.at
    have HAT := Lib.hid hat
    have ho1 : OnlyIn [rb] w (wr.alloc (.cells #[.string ⟨#[69, 78, 68, 13, 10]⟩, .string ⟨#[83, 84, 65, 84, 32]⟩] 9)) := hm.only.alloc _
    have hw1 : w.heap.size ≤ wr.heap.size := hm.only.size
    have hown1 := own_later hm.own ((Below.refl _ _).alloc (Nat.le_refl _) (.cells #[.string ⟨#[69, 78, 68, 13, 10]⟩, .string ⟨#[83, 84, 65, 84, 32]⟩] 9))
    have HO1 := Lib.hid ho1
    have HOWN1 := Lib.hid hown1
    clear hm hrd1 ho1 hown1 hat
    change (Sp.chooseV raw q statTexts).next _ = r at hgo
    cases hcv : Sp.chooseV raw q statTexts with
    | more =>
      rw [hcv] at hgo hch
      have HC := Lib.hid hch
      have HG := Lib.hid hgo
      clear hgo hch hcv
      go_wp2_with (go_at_call 112; refine HC.out.mono ?_; rintro e w1 ⟨ho2, rfl, _⟩; have HO2 := Lib.hid ho2; clear ho2)
      refine ⟨rfl, ?_⟩
      rw [← HR.out, ← HG.out]
      exact ⟨HO1.out.rd HO2.out, rfl⟩
    | fail =>
      rw [hcv] at hgo hch
      have HC := Lib.hid hch
      have HG := Lib.hid hgo
      clear hgo hch hcv
      go_wp2_with (go_at_call 112; refine HC.out.mono ?_; rintro e w1 ⟨ho2, rfl, _⟩; have HO2 := Lib.hid ho2; clear ho2)
      refine ⟨rfl, ?_⟩
      rw [← HR.out, ← HG.out]
      exact ⟨HO1.out.rd HO2.out, rfl⟩
    | got i q1 =>
      obtain ⟨s0, hs0, _, hq1⟩ := Sp.choose_reads hcv
      rw [hcv] at hgo hch
      change (if i = 0 then Sp.RdV.got out q1 else _) = r at hgo
      have hi2 : i < 2 := (List.getElem?_eq_some_iff.1 hs0).1
      by_cases h0 : i = 0
      · rw [if_pos h0] at hgo
        have g1 : ((i : Int) == 1) = false := by rw [h0]; rfl
        have HC := Lib.hid hch
        have HG := Lib.hid hgo
        clear hgo hch hcv h0 hs0 hq1
        go_wp2_with (go_at_call 112; refine HC.out.mono ?_; rintro e w1 ⟨ho2, rfl, hx2⟩; have HO2 := Lib.hid ho2; have HX2 := Lib.hid hx2; clear ho2 hx2)
        rw [← HR.out, ← HG.out]
        obtain ⟨S, sc, hv⟩ := own_form HOWN1.out
        refine ⟨HO1.out.rd HO2.out, ⟨S, sc, by rw [hv]; rfl, ?_⟩, HX2.out⟩
        rw [← hv]
        exact own_only HOWN1.out HO2.out (by simpa using hlt)
      · rw [if_neg h0] at hgo
        have h1 : i = 1 := by omega
        have g1 : ((i : Int) == 1) = true := by rw [h1]; rfl
        have hq5 : q1 = q + 5 := by
          rw [hq1]; rw [h1] at hs0
          injection hs0 with hs0
          rw [← hs0]; rfl
        have HC := Lib.hid hch
        have HG := Lib.hid hgo
        have HQ5 := Lib.hid hq5
        clear hgo hch hcv h0 hs0 hq1 h1 hq5
        go_upto_region 3 with (go_at_call 112; refine HC.out.mono ?_; rintro e w1 ⟨ho2, rfl, hx2⟩; have HO2 := Lib.hid (HO1.out.rd ho2); have HOWN2 := Lib.hid (own_only HOWN1.out ho2 (by simpa using hlt)); have HX2 := Lib.hid hx2; clear ho2 hx2)
        have hx2 := HX2.out
        have hrest := rest_any hx2
        unfold restV at hrest
        obtain ⟨l, hl⟩ : ∃ l, l = raw.drop q1 := ⟨_, rfl⟩
        have hlen : l.length = raw.length - q1 := by rw [hl, List.length_drop]
        rw [← hlen] at hrest
        have hrow := hx2.rest
        rw [← hl] at hrow
        have hle := hx2.le
        have hidx : ∀ W : World, Below w1.heap.size w1 W → Calls Tryz.prog 136 #[.slice (cutAddr A q1 cap) l.length (cap - q1), .int .u8 32] W fun e w' => e = .returned (.int .i64 (idxB (fun x => decide (x = 32)) l)) ∧ Below W.heap.size W w' := fun W hW => idx_rdByte (c := cap - q1) (hrow.below hW) (by omega) 32
        have hgo := HG.out
        change (Sp.statNameR raw q1).next _ = r at hgo
        generalize cutAddr A q1 cap = D at hrest hrow hidx
        rcases idxB_find (fun x => decide (x = 32)) l with ⟨hx, hn⟩ | ⟨e, hx, hn, hel⟩
        · rw [hx] at hidx
          rw [statName_none (by rw [← hl]; exact hn), ← hl] at hgo
          have hstr := fun (W : World) (hW : Below w1.heap.size w1 W) => run_bytes_str (cap := cap - q1) (hrow.below hW)
          have hnm := fun W : World => replyName_any l W (by omega)
          obtain ⟨n, hnl⟩ : ∃ n, n = l.length := ⟨_, rfl⟩
          rw [← hnl] at hrest hidx hstr
          have HREST := Lib.hid hrest
          have HIDX := Lib.hid hidx
          have HSTR := Lib.hid hstr
          have HX2' := Lib.hid hx2
          by_cases hn0 : n = 0
          · have hl0 : l = [] := List.length_eq_zero_iff.1 (by omega)
            rw [if_neg (by rw [hl0]; simp)] at hgo
            have g2 : decide ((0 : Int) < (n : Int)) = false := decide_eq_false (by omega)
            have g3 : decide (0 < n) = false := decide_eq_false (by omega)
            have HG2 := Lib.hid hgo
            clear hgo hrest hidx hstr hrow hx hn hl hlen hnm hnl hn0 hl0 hx2 hle HG HC g1
            go_wp2_with (first
              | (go_at_call 135; refine HREST.out.mono ?_; rintro e w2 ⟨rfl, hb2⟩; have HB2 := Lib.hid hb2; clear hb2)
              | (go_at_call 136; refine (HIDX.out _ HB2.out).mono ?_; rintro e w3 ⟨rfl, hb3⟩; have HB3 := Lib.hid (HB2.out.trans (hb3.mono HB2.out.size)); clear hb3))
            refine ⟨rfl, ?_⟩
            rw [← HR.out, ← HG2.out]
            exact ⟨HO2.out.later HB3.out, rfl⟩
          · have g2 : (0 : Int) < (n : Int) := by omega
            have g3 : 0 < n := by omega
            have hl0 : l ≠ [] := fun e => by rw [e] at hnl; exact hn0 hnl
            cases hnv : Sp.nameR l with
            | true =>
              rw [hnv] at hgo hnm
              rw [if_neg (by simp)] at hgo
              have HNM := Lib.hid hnm
              have HG2 := Lib.hid hgo
              clear hgo hrest hidx hstr hrow hx hn hl hlen hnm hnl hn0 hl0 hx2 hle HG HC g1 hnv
              go_wp2_with (first
                | (go_at_call 135; refine HREST.out.mono ?_; rintro e w2 ⟨rfl, hb2⟩; have HB2 := Lib.hid hb2; clear hb2)
                | (go_at_call 136; refine (HIDX.out _ HB2.out).mono ?_; rintro e w3 ⟨rfl, hb3⟩; have hb := HB2.out.trans (hb3.mono HB2.out.size); have k3 := HSTR.out w3 hb; have HB3 := Lib.hid hb; clear hb3 hb)
                | (go_at_call 44; refine (HNM.out w3).mono ?_; rintro e w4 ⟨rfl, hb4⟩; have HB4 := Lib.hid (HB3.out.trans (hb4.mono HB3.out.size)); clear hb4))
              refine ⟨rfl, ?_⟩
              rw [← HR.out, ← HG2.out]
              exact ⟨HO2.out.later HB4.out, rfl⟩
            | false =>
              rw [hnv] at hgo hnm
              rw [if_pos ⟨hl0, rfl⟩] at hgo
              have HNM := Lib.hid hnm
              have HG2 := Lib.hid hgo
              clear hgo hrest hidx hstr hrow hx hn hl hlen hnm hnl hn0 hl0 hx2 hle HG HC g1 hnv
              go_wp2_with (first
                | (go_at_call 135; refine HREST.out.mono ?_; rintro e w2 ⟨rfl, hb2⟩; have HB2 := Lib.hid hb2; clear hb2)
                | (go_at_call 136; refine (HIDX.out _ HB2.out).mono ?_; rintro e w3 ⟨rfl, hb3⟩; have hb := HB2.out.trans (hb3.mono HB2.out.size); have k3 := HSTR.out w3 hb; have HB3 := Lib.hid hb; clear hb3 hb)
                | (go_at_call 44; refine (HNM.out w3).mono ?_; rintro e w4 ⟨rfl, hb4⟩; have HB4 := Lib.hid (HB3.out.trans (hb4.mono HB3.out.size)); clear hb4)
                | (go_at_call 137; refine (HF.out _).mono ?_; rintro e w5 ⟨rfl, rfl⟩))
              refine ⟨rfl, ?_⟩
              rw [← HR.out, ← HG2.out]
              exact ⟨HO2.out.later HB4.out, rfl⟩
        · rw [hx] at hidx
          rw [statName_some (by rw [← hl]; exact hn), ← hl] at hgo
          obtain ⟨s, hs⟩ : ∃ s, s = l.take e := ⟨_, rfl⟩
          have hsl : s.length = e := by rw [hs, List.length_take]; omega
          rw [← hs] at hgo
          have hstr : ∀ W : World, Below w1.heap.size w1 W → (convert 29 9 (.slice D e (cap - q1))).run Tryz.prog W = .ok (.string ⟨s.toArray⟩) W := fun W hW => by
            have hrt : RowAt W D (bytesV s) := by
              have := (hrow.below hW).take e
              rw [hs]
              simpa [bytesV, List.map_take] using this
            have := run_bytes_str (cap := cap - q1) hrt
            rwa [hsl] at this
          have hnm := fun W : World => replyName_any s W (by omega)
          have hi0 : decide ((e : Int) < 0) = false := decide_eq_false (by omega)
          have hic : (e : Int) ≤ ((cap - q1 : Nat) : Int) := by omega
          obtain ⟨n0, hn0⟩ : ∃ n, n = l.length := ⟨_, rfl⟩
          have hil2 : (e : Int) ≤ (n0 : Int) := by omega
          have hq2 : q1 + e + 1 ≤ raw.length := by omega
          rw [← hn0] at hrest hidx
          have HREST := Lib.hid hrest
          have HIDX := Lib.hid hidx
          have HSTR := Lib.hid hstr
          have HX2' := Lib.hid hx2
          cases hnv : Sp.nameR s with
          | false =>
            rw [hnv] at hgo hnm
            rw [if_pos rfl] at hgo
            have HNM := Lib.hid hnm
            have HG2 := Lib.hid hgo
            clear hgo hrest hidx hstr hrow hx hn hl hlen hnm hn0 hs hsl hx2 hle HG HC g1 hnv hel
            go_wp2_with (first
              | (go_at_call 135; refine HREST.out.mono ?_; rintro e w2 ⟨rfl, hb2⟩; have HB2 := Lib.hid hb2; clear hb2)
              | (go_at_call 136; refine (HIDX.out _ HB2.out).mono ?_; rintro e w3 ⟨rfl, hb3⟩; have hb := HB2.out.trans (hb3.mono HB2.out.size); have k3 := HSTR.out w3 hb; have HB3 := Lib.hid hb; clear hb3 hb)
              | (go_at_call 44; refine (HNM.out w3).mono ?_; rintro e w4 ⟨rfl, hb4⟩; have HB4 := Lib.hid (HB3.out.trans (hb4.mono HB3.out.size)); clear hb4)
              | (go_at_call 137; refine (HF.out _).mono ?_; rintro e w5 ⟨rfl, rfl⟩))
            refine ⟨rfl, ?_⟩
            rw [← HR.out, ← HG2.out]
            exact ⟨HO2.out.later HB4.out, rfl⟩
          | true =>
            rw [hnv] at hgo hnm
            rw [if_neg (by simp)] at hgo
            change (Sp.numberR raw 18446744073709551615 (q1 + e + 1)).next _ = r at hgo
            have HNM := Lib.hid hnm
            have HG2 := Lib.hid hgo
            have HSL := Lib.hid hsl
            clear hgo hrest hidx hstr hrow hx hn hl hlen hnm hn0 hs hsl hx2 hle HG HC g1 hnv hel
            go_upto_region 13 with (first
              | (go_at_call 135; refine HREST.out.mono ?_; rintro e w2 ⟨rfl, hb2⟩; have HB2 := Lib.hid hb2; clear hb2)
              | (go_at_call 136; refine (HIDX.out _ HB2.out).mono ?_; rintro e w3 ⟨rfl, hb3⟩; have hb := HB2.out.trans (hb3.mono HB2.out.size); have k3 := HSTR.out w3 hb; have HB3 := Lib.hid hb; clear hb3 hb)
              | (go_at_call 44; refine (HNM.out w3).mono ?_; rintro e w4 ⟨rfl, hb4⟩; have hb := HB3.out.trans (hb4.mono HB3.out.size); have hx4 := HX2'.out.later hb; have x1 : w4.cell? ⟨rb, 1, none⟩ = some (.int .i64 q1) := hx4.blk.cell 1; have x1f := hx4.blk.frozen 1; have HX4 := Lib.hid hx4; have HB4 := Lib.hid hb; clear hb4 hb hx4))
            have hmv := HX4.out.move hq2
            rw [show ((q1 + e + 1 : Nat) : Int) = (q1 : Int) + ((e : Int) + 1) by omega] at hmv
            have ho5 := (HO2.out.later HB4.out).setCell (.inl (List.mem_singleton.2 rfl)) 1 (.int .i64 ((q1 : Int) + ((e : Int) + 1)))
            have hown5 := own_only HOWN2.out ((OnlyIn.of HB4.out [rb]).setCell (.inl (List.mem_singleton.2 rfl)) 1 (.int .i64 ((q1 : Int) + ((e : Int) + 1)))) (by simpa using hlt)
            obtain ⟨W5, hW5⟩ : ∃ W5, W5 = w4.setCell ⟨rb, 1, none⟩ (.int .i64 ((q1 : Int) + ((e : Int) + 1))) := ⟨_, rfl⟩
            rw [← hW5] at hmv ho5 hown5
            rw [← hW5]
            have hnum := number_any (most := 18446744073709551615) hmv (by decide) (by decide)
            have HO5 := Lib.hid ho5
            have HOWN5 := Lib.hid hown5
            clear hmv ho5 hown5 hW5 x1 x1f k3
            have hgo := HG2.out
            cases hnv : Sp.numberR raw 18446744073709551615 (q1 + e + 1) with
            | more =>
              rw [hnv] at hgo hnum
              have HNUM := Lib.hid hnum
              have HG3 := Lib.hid hgo
              clear hgo hnum hnv HG2
              go_wp2_with (go_at_call 111; refine HNUM.out.mono ?_; rintro e w6 ⟨ho6, rfl, _⟩; have HO6 := Lib.hid ho6; clear ho6)
              refine ⟨rfl, ?_⟩
              rw [← HR.out, ← HG3.out]
              exact ⟨HO5.out.rd HO6.out, rfl⟩
            | fail =>
              rw [hnv] at hgo hnum
              have HNUM := Lib.hid hnum
              have HG3 := Lib.hid hgo
              clear hgo hnum hnv HG2
              go_wp2_with (go_at_call 111; refine HNUM.out.mono ?_; rintro e w6 ⟨ho6, rfl, _⟩; have HO6 := Lib.hid ho6; clear ho6)
              refine ⟨rfl, ?_⟩
              rw [← HR.out, ← HG3.out]
              exact ⟨HO5.out.rd HO6.out, rfl⟩
            | got n q3 =>
              obtain ⟨_, hq3, _⟩ := Sp.number_reads (by decide) hnv
              rw [hnv] at hgo hnum
              change (Sp.wantV raw q3 Sp.crlf).next _ = r at hgo
              have HNUM := Lib.hid hnum
              have HG3 := Lib.hid hgo
              have hq3' : q1 + e + 1 ≤ q3 := by rw [hq3]; omega
              have HQ3 := Lib.hid hq3'
              clear hgo hnum hnv HG2 hq3 hq3'
              go_upto_region 14 with (go_at_call 111; refine HNUM.out.mono ?_; rintro e w6 ⟨ho6, rfl, hx6⟩; have HW6 := Lib.hid (readerWant_any hx6 Sp.crlf (by decide)); have HO6 := Lib.hid (HO5.out.rd ho6); have HOWN6 := Lib.hid (own_only HOWN5.out ho6 (by simpa using hlt)); clear ho6 hx6)
              have hgo := HG3.out
              have hw6 := HW6.out
              cases hwv : Sp.wantV raw q3 Sp.crlf with
              | more =>
                rw [hwv] at hgo hw6
                have HW := Lib.hid hw6
                have HG4 := Lib.hid hgo
                clear hgo hw6 HW6 HG3 hwv
                go_wp2_with (go_at_call 109; refine HW.out.mono ?_; rintro e w7 ⟨ho7, rfl, _⟩; have HO7 := Lib.hid ho7; clear ho7)
                refine ⟨rfl, ?_⟩
                rw [← HR.out, ← HG4.out]
                exact ⟨HO6.out.rd HO7.out, rfl⟩
              | fail =>
                rw [hwv] at hgo hw6
                have HW := Lib.hid hw6
                have HG4 := Lib.hid hgo
                clear hgo hw6 HW6 HG3 hwv
                go_wp2_with (go_at_call 109; refine HW.out.mono ?_; rintro e w7 ⟨ho7, rfl, _⟩; have HO7 := Lib.hid ho7; clear ho7)
                refine ⟨rfl, ?_⟩
                rw [← HR.out, ← HG4.out]
                exact ⟨HO6.out.rd HO7.out, rfl⟩
              | got u q4 =>
                obtain ⟨_, hq4⟩ := Sp.want_reads hwv
                rw [hwv] at hgo hw6
                change Sp.statsFrom raw k (out ++ [(s, n)]) q4 = r at hgo
                have hq34 : q3 ≤ q4 := by omega
                have HW := Lib.hid hw6
                have HG4 := Lib.hid hgo
                have HQ4 := Lib.hid hq34
                have hfw := HM.out.few
                have hrl := HM.out.rd.le
                clear hgo hw6 HW6 HG3 hwv hq4 hq34
                have hbig : out.length ≤ 1000000000 := by omega
                go_wp2_with (first
                  | (go_at_call 109; refine HW.out.mono ?_; rintro e w7 ⟨ho7, rfl, hx7⟩; have hsz7 := (HO6.out.rd ho7).size; have HO7 := Lib.hid (HO6.out.rd ho7); have HX7 := Lib.hid hx7; have HOWN7 := Lib.hid (own_only HOWN6.out ho7 (by simpa using hlt)); clear ho7 hx7)
                  | (at_builtin; refine wpList_append_put rfl (.tmp 53) (.tmp 57) _ rfl w.heap.size 90 i0 _ 2 24 Tryz.underlying34 hi hz0 hz1 hz2 rfl (by decide) u3 out.length (statCells out) rfl (own_later HOWN7.out ((Below.refl _ _).alloc (Nat.le_refl _) _)) ⟨w7.heap.size, 0, none⟩ 1 1 [str s, .int .u64 n] rfl rfl (cells_new w7 [str s, .int .u64 n] _) ?_ ?_ ?_ ?_ ?_ ?_; (intro u hu; simp only [List.mem_cons, List.not_mem_nil, or_false] at hu; rcases hu with rfl | rfl <;> rfl); decide; (unfold maxLen; omega); omega; (simp; omega); intro g8 cap8 w8 hown8 hg8 hat8; have HOWN8 := Lib.hid hown8; have HG8 := Lib.hid hg8; clear hown8 hg8 hat8))
                have hog : OnlyIn (rowBlock u3) w7 w8 := (OnlyIn.of ((Below.refl _ _).alloc (Nat.le_refl _) _) _).trans (OnlyIn.grown HG8.out) (fun i hi => .inl hi)
                have hge := own_ge HOWN7.out
                have hrd8 := HX7.out.only hog (fun k hk => by have := hge k hk; omega)
                have ho8 : OnlyIn [rb] w w8 := HO7.out.trans hog (fun k hk => .inr (hge k hk))
                have hfin : StatsLoop w rb A cap raw r (.slice (some ⟨g8, 0, none⟩) (out.length + 1) cap8) (out ++ [(s, n)]) k q4 w8 := by
                  refine ⟨hrd8, ?_, ho8, HG4.out, ?_, ?_⟩
                  · rw [List.length_append, List.length_singleton, statCells_snoc]; exact HOWN8.out
                  · have := HM.out.fuel; have := HQ3.out; have := HQ4.out; have := HQ5.out; omega
                  · rw [List.length_append, List.length_singleton]; have := HQ3.out; have := HQ4.out; have := HQ5.out; omega
                refine ⟨⟨k, out ++ [(s, n)], q4, hfin⟩, ?_⟩
                show raw.length - atOf w8 rb < raw.length - atOf wr rb
                rw [hrd8.at, HAT.out]
                have := HQ3.out; have := HQ4.out; have := HQ5.out; have := hrd8.le; omega
end Go.Proofs.YtnbeeehfapjpdaaGreatDoor
end
