/- Walks of the document's reading of bytes: next, Block. Walks of the document's reading of lines: verbOf, passOf. Walk of the document's Words. Walk of the document's wrong. Walks of the document's word: the letters that make no memory. Walk of the document's word: a key. -/
import Derived.Test.YthgfjafnclklpaaGreatDoorR3
import Derived.Test.YthgfjafnclklpaaGreatDoorPc
import Derived.Test.YthgfjafnclklpaaGreatDoorAp
import Derived.Deep.CutRange
import Derived.Deep.DeepCutAuto
import Derived.Test.YthgfjafnclklpaaGreatDoorRE
import Derived.Test.YthgfjafnclklpaaGreatDoorOc
import Derived.Test.YthgfjafnclklpaaGreatDoorW8
import Derived.Test.YthgfjafnclklpaaGreatDoorL2
section
namespace Go.Proofs.YthgfjafnclklpaaGreatDoor
attribute [local go_sem ↓] Go.wp_at_zero Go.wp_at_succ
open Go.RowKit Sp

/-- where the next byte 10 stands; -1: nowhere -/
def nextV (l : Bs) (k : Nat) : Int := match indexOf (l.drop k) 10 with
  | some i => ((k + i : Nat) : Int)
  | none => -1
theorem nextV_step {l : Bs} {k : Nat} {b : UInt8} (h : l[k]? = some b) : nextV l k = if b = 10 then (k : Int) else nextV l (k + 1) := by
  obtain ⟨h1, h2⟩ := List.getElem?_eq_some_iff.1 h
  unfold nextV
  rw [List.drop_eq_getElem_cons h1, indexOf_cons, h2]
  by_cases hb : b = 10
  · rw [if_pos hb, if_pos hb]; simp
  · rw [if_neg hb, if_neg hb]
    cases indexOf (l.drop (k + 1)) 10 with
    | none => rfl
    | some i => simp only [Option.map_some]; omega
theorem nextV_end (l : Bs) : nextV l l.length = -1 := by
  unfold nextV
  rw [List.drop_length]
  rfl
theorem RowAt.byte {w : World} {A : Option Addr} {l : Bs} (h : RowAt w A (bytesV l)) {k : Nat} {b : UInt8} (hb : l[k]? = some b) : ∃ g o, A = some ⟨g, o, none⟩ ∧ w.cell? ⟨g, o + k, none⟩ = some (.int .u8 b.toNat) := by
  have hx : (bytesV l)[k]? = some (.int .u8 b.toNat) := by simp [bytesV, hb]
  rcases h with h0 | ⟨g, o, h1, _, h3⟩
  · rw [h0] at hx; cases hx
  · exact ⟨g, o, h1, h3 _ _ hx⟩

set_option maxHeartbeats 4000000 in
set_option maxRecDepth 100000 in
theorem refNext_any {w : World} {A : Option Addr} {cap : Nat} {l : Bs} (hrow : RowAt w A (bytesV l)) (hl : l.length ≤ 4611686018427387904) {k0 : Nat} (hk0 : k0 ≤ l.length) :
    Calls Tryz.prog 111 #[.slice A l.length cap, .int .i64 k0] w fun e w' => e = .returned (.int .i64 (nextV l k0)) ∧ w = w' := by
  obtain ⟨V, hV⟩ : ∃ V, V = nextV l k0 := ⟨_, rfl⟩
  rw [← hV]
  have HROW := Lib.hid hrow
  have HV := Lib.hid hV
  clear hrow hV
  go_enter Tryz.func111, Tryz.ntmps111
  go_wp2
  go_loop [5] (fun i => ∃ k : Nat, k ≤ l.length ∧ i = .int .i64 k ∧ Hid (V = nextV l k)) (fun i => l.length - (intOf i).toNat)
  case atStart => exact ⟨k0, hk0, rfl, HV⟩
  case round =>
    obtain ⟨k, hk, rfl, hv⟩ := hrel
    by_cases hlt : k < l.length
    · obtain ⟨b, hb⟩ : ∃ b, l[k]? = some b := ⟨l[k]'hlt, List.getElem?_eq_getElem _⟩
      obtain ⟨g, o, hA, hc⟩ := HROW.out.byte hb
      subst hA
      have hs := nextV_step hb
      have hme : l.length - ((k : Int) + 1).toNat < l.length - (k : Int).toNat := by omega
      have HME := Lib.hid hme
      by_cases h10 : b = 10
      · subst h10
        rw [if_pos rfl] at hs
        have he := hv.out.trans hs
        have HE := Lib.hid he
        clear hs hme hb hv he
        go_wp2
        go_ret
        exact ⟨by rw [HE.out]; rfl, rfl⟩
      · rw [if_neg h10] at hs
        have he := hv.out.trans hs
        have HE := Lib.hid he
        have hne : ((b.toNat : Int) == 10) = false := by
          rw [beq_eq_false_iff_ne]
          intro h
          exact h10 (UInt8.toNat_inj.1 (by have : (10 : UInt8).toNat = 10 := rfl; omega))
        clear hs hme hb hv he h10
        go_wp2
        exact ⟨⟨k + 1, by omega, by go_num, HE⟩, HME.out⟩
    · obtain rfl : k = l.length := by omega
      have he := hv.out.trans (nextV_end l)
      have HE := Lib.hid he
      clear hv he
      go_wp2
      go_ret
      exact ⟨by rw [HE.out]; rfl, rfl⟩

/-- what Block tells: where a block ends, and whether it ends well -/
def blockV (l : Bs) (a n : Nat) : Value := match skipV (l.drop a) n with
  | some (m, gd) => .tuple #[.int .i64 ((a + m : Nat) : Int), .bool gd]
  | none => .tuple #[.int .i64 (-1), .bool false]
theorem drop_len {l : Bs} {a n : Nat} (ha : a ≤ l.length) : (l.drop a).length ≤ n ↔ l.length ≤ a + n := by rw [List.length_drop]; omega
theorem blockV_short {l : Bs} {a n : Nat} (ha : a ≤ l.length) (h : l.length ≤ a + n) : blockV l a n = .tuple #[.int .i64 (-1), .bool false] := by
  unfold blockV skipV
  rw [if_pos ((drop_len ha).2 h)]
theorem drop_at {l : Bs} {a n : Nat} {c : UInt8} (h : l[a + n]? = some c) : (l.drop a).drop n = c :: l.drop (a + n + 1) := by
  obtain ⟨h1, h2⟩ := List.getElem?_eq_some_iff.1 h
  rw [List.drop_drop, List.drop_eq_getElem_cons h1, h2]
theorem blockV_cr {l : Bs} {a n : Nat} (ha : a ≤ l.length) (h : l[a + n]? = some 13) (he : l.length ≤ a + n + 1) : blockV l a n = .tuple #[.int .i64 (-1), .bool false] := by
  have h1 := (List.getElem?_eq_some_iff.1 h).1
  unfold blockV skipV
  rw [if_neg (fun h => by rw [drop_len ha] at h; omega), drop_at h, List.drop_eq_nil_of_le he]
  rfl
theorem blockV_good {l : Bs} {a n : Nat} (ha : a ≤ l.length) (h : l[a + n]? = some 13) (h' : l[a + n + 1]? = some 10) : blockV l a n = .tuple #[.int .i64 ((a + n + 2 : Nat) : Int), .bool true] := by
  have h1 := (List.getElem?_eq_some_iff.1 h).1
  obtain ⟨h2, h3⟩ := List.getElem?_eq_some_iff.1 h'
  unfold blockV skipV
  rw [if_neg (fun h => by rw [drop_len ha] at h; omega), drop_at h, List.drop_eq_getElem_cons h2, h3]
  rw [if_pos (by simp)]
  rfl
theorem blockV_bad {l : Bs} {a n : Nat} {c : UInt8} (ha : a ≤ l.length) (h : l[a + n]? = some c) (hb : c ≠ 13 ∨ (a + n + 1 < l.length ∧ l[a + n + 1]? ≠ some 10)) :
    blockV l a n = if nextV l (a + n) < 0 then .tuple #[.int .i64 (-1), .bool false] else .tuple #[.int .i64 (nextV l (a + n) + 1), .bool false] := by
  have h1 := (List.getElem?_eq_some_iff.1 h).1
  have hd := drop_at h
  have e1 : ¬ ((l.drop a).drop n).take 2 = [13, 10] := fun e => by
    rw [hd] at e
    rcases hb with hb | ⟨h2, hb⟩
    · rw [List.take_succ_cons] at e; injection e with e _; exact hb e
    · rw [List.drop_eq_getElem_cons h2, List.take_succ_cons, List.take_succ_cons] at e
      injection e with _ e
      injection e with e _
      exact hb (by rw [List.getElem?_eq_getElem h2, e])
  have e2 : ¬ (l.drop a).drop n = [13] := fun e => by
    rw [hd] at e
    rcases hb with hb | ⟨h2, hb⟩
    · injection e with e _; exact hb e
    · injection e with _ e
      have := congrArg List.length e
      rw [List.length_drop, List.length_nil] at this
      omega
  unfold blockV skipV nextV
  rw [if_neg (fun h => by rw [drop_len ha] at h; omega), if_neg e1, if_neg e2, List.drop_drop]
  cases indexOf (l.drop (a + n)) 10 with
  | none => rfl
  | some i =>
    dsimp only
    rw [if_neg (by omega)]
    have e : ((a + (n + i + 1) : Nat) : Int) = ((a + n + i : Nat) : Int) + 1 := by omega
    rw [e]

theorem nextV_range (l : Bs) (k : Nat) (hl : l.length ≤ 4611686018427387904) : nextV l k = -1 ∨ (0 ≤ nextV l k ∧ nextV l k ≤ 4611686018427387904) := by
  unfold nextV
  cases h : indexOf (l.drop k) 10 with
  | none => exact .inl rfl
  | some i =>
    have := indexOf_lt h
    rw [List.length_drop] at this
    right
    dsimp only
    omega
theorem byte_ne {b : UInt8} {n : Nat} {c : UInt8} (hc : c.toNat = n) (h : b ≠ c) : ((b.toNat : Int) == (n : Int)) = false := by
  rw [beq_eq_false_iff_ne]
  intro e
  exact h (UInt8.toNat_inj.1 (by omega))

set_option maxHeartbeats 8000000 in
set_option maxRecDepth 100000 in
theorem refBlock_any {w : World} {A : Option Addr} {cap : Nat} {l : Bs} (hrow : RowAt w A (bytesV l)) (hl : l.length ≤ 4611686018427387904) {a n : Nat} (ha : a ≤ l.length) (hn : n ≤ 2147483647) :
    Calls Tryz.prog 112 #[.slice A l.length cap, .int .i64 a, .int .i64 n] w fun e w' => e = .returned (blockV l a n) ∧ w = w' := by
  have hnx := fun h : a + n ≤ l.length => refNext_any (cap := cap) hrow hl h
  have hrg := nextV_range l (a + n) hl
  have h1 := fun h => blockV_short (n := n) ha h
  have h2 := fun h h' => blockV_cr (n := n) ha h h'
  have h3 := fun h h' => blockV_good (n := n) ha h h'
  have h4 := fun (c : UInt8) h h' => blockV_bad (n := n) (c := c) ha h h'
  have hcast : ((a + n : Nat) : Int) = (a : Int) + (n : Int) := by omega
  rw [hcast] at hnx
  generalize blockV l a n = V at *
  generalize nextV l (a + n) = X at *
  have HROW := Lib.hid hrow
  have HNX := Lib.hid hnx
  have H1 := Lib.hid h1
  have H2 := Lib.hid h2
  have H3 := Lib.hid h3
  have H4 := Lib.hid h4
  clear hrow hnx h1 h2 h3 h4 hcast
  by_cases hs : l.length ≤ a + n
  · have he := H1.out hs
    have HE := Lib.hid he
    have g1 : decide ((l.length : Int) ≤ (a : Int) + (n : Int)) = true := decide_eq_true (by omega)
    clear he
    go_enter Tryz.func112, Tryz.ntmps112
    go_wp2_with fail
    go_ret2
    exact ⟨by rw [HE.out]; rfl, rfl⟩
  · have g1 : decide ((l.length : Int) ≤ (a : Int) + (n : Int)) = false := decide_eq_false (by omega)
    have hnx := HNX.out (by omega)
    have HN := Lib.hid hnx
    obtain ⟨c, hc⟩ : ∃ c, l[a + n]? = some c := ⟨l[a + n]'(by omega), List.getElem?_eq_getElem _⟩
    obtain ⟨g, o, hA, hcell⟩ := HROW.out.byte hc
    subst hA
    have hcell0 : w.cell? ⟨g, o + (a + n), none⟩ = some (.int .u8 c.toNat) := hcell
    clear hnx
    by_cases h13 : c = 13
    · subst h13
      by_cases hlast : l.length ≤ a + n + 1
      · have he := H2.out hc hlast
        have HE := Lib.hid he
        have g2 : decide ((l.length : Int) ≤ (a : Int) + (n : Int) + 1) = true := decide_eq_true (by omega)
        clear he hc
        go_enter Tryz.func112, Tryz.ntmps112
        go_wp2_with fail
        go_ret2
        exact ⟨by rw [HE.out]; rfl, rfl⟩
      · have g2 : decide ((l.length : Int) ≤ (a : Int) + (n : Int) + 1) = false := decide_eq_false (by omega)
        obtain ⟨d, hd⟩ : ∃ d, l[a + n + 1]? = some d := ⟨l[a + n + 1]'(by omega), List.getElem?_eq_getElem _⟩
        obtain ⟨g', o', hA', hcell2⟩ := HROW.out.byte hd
        injection hA' with hA'
        injection hA' with e1 e2
        subst e1; subst e2
        by_cases h10 : d = 10
        · subst h10
          have he := H3.out hc hd
          have HE := Lib.hid he
          clear he hc hd
          go_enter Tryz.func112, Tryz.ntmps112
          go_wp2_with fail
          go_ret2
          exact ⟨by rw [HE.out]; rfl, rfl⟩
        · have he := H4.out 13 hc (.inr ⟨by omega, fun e => h10 (Option.some.inj (hd.symm.trans e))⟩)
          have HE := Lib.hid he
          have g3 : ((d.toNat : Int) == 10) = false := byte_ne (c := 10) rfl h10
          clear he hc hd h10
          rcases hrg with hrg | hrg
          · subst hrg
            go_enter Tryz.func112, Tryz.ntmps112
            go_wp2_with (go_at_call 111; refine HN.out.mono ?_; rintro e w' ⟨rfl, rfl⟩)
            go_ret2
            exact ⟨by rw [HE.out]; rfl, rfl⟩
          · have g4 : decide (X < 0) = false := decide_eq_false (by omega)
            go_enter Tryz.func112, Tryz.ntmps112
            go_wp2_with (go_at_call 111; refine HN.out.mono ?_; rintro e w' ⟨rfl, rfl⟩)
            go_ret2
            exact ⟨by rw [HE.out, if_neg (by omega)]; rfl, rfl⟩
    · have he := H4.out c hc (.inl h13)
      have HE := Lib.hid he
      have g3 : ((c.toNat : Int) == 13) = false := byte_ne (c := 13) rfl h13
      clear he hc h13
      rcases hrg with hrg | hrg
      · subst hrg
        go_enter Tryz.func112, Tryz.ntmps112
        go_wp2_with (go_at_call 111; refine HN.out.mono ?_; rintro e w' ⟨rfl, rfl⟩)
        go_ret2
        exact ⟨by rw [HE.out]; rfl, rfl⟩
      · have g4 : decide (X < 0) = false := decide_eq_false (by omega)
        go_enter Tryz.func112, Tryz.ntmps112
        go_wp2_with (go_at_call 111; refine HN.out.mono ?_; rintro e w' ⟨rfl, rfl⟩)
        go_ret2
        exact ⟨by rw [HE.out, if_neg (by omega)]; rfl, rfl⟩
end Go.Proofs.YthgfjafnclklpaaGreatDoor
end
section
namespace Go.Proofs.YthgfjafnclklpaaGreatDoor
attribute [local go_sem ↓] Go.wp_at_zero Go.wp_at_succ
open Go.RowKit Sp

/-- which verb a word is; 0: none -/
def verbV (w : Bs) : Nat := match rowOf w with
  | some r => r.verb
  | none => 0
set_option maxHeartbeats 4000000 in
set_option maxRecDepth 100000 in
theorem refVerbOf_any (l : Bs) (w : World) : Calls Tryz.prog 60 #[str l] w fun e w' => e = .returned (.int .i64 (verbV l)) ∧ Below w.heap.size w w' := by
  have hyes : ∀ v, 1 ≤ v → v ≤ 24 → wordBy v = l → verbV l = v := fun v h1 h2 h => by
    obtain ⟨e1, e2⟩ := rowOf_first h1 h2 h
    unfold verbV
    rw [e1]; exact e2
  have hno : (∀ v, 1 ≤ v → v ≤ 24 → wordBy v ≠ l) → verbV l = 0 := fun h => by
    unfold verbV
    rw [rowOf_none h]
  generalize verbV l = V at *
  have HY := Lib.hid hyes
  have HN := Lib.hid hno
  clear hyes hno
  go_enter Tryz.func60, Tryz.ntmps60
  go_wp2
  go_loopw [3] (fun iv wr => ∃ k : Nat, 1 ≤ k ∧ k ≤ 25 ∧ iv = .int .i64 k ∧ Below w.heap.size w wr ∧ Hid (∀ v, 1 ≤ v → v < k → wordBy v ≠ l)) (fun iv _ => 25 - (intOf iv).toNat)
  case atStart => exact ⟨1, by omega, by omega, rfl, Below.refl _ _, Lib.hid (fun v h1 h2 => by omega)⟩
  case round =>
    obtain ⟨k, hk1, hk, rfl, hb, hn⟩ := hrel
    by_cases hlt : k ≤ 24
    · have hsp := fun W : World => refSpelled_any k W hk1 hlt
      have hme : 25 - ((k : Int) + 1).toNat < 25 - (k : Int).toNat := by omega
      obtain ⟨wd, hwd⟩ : ∃ wd, wd = wordBy k := ⟨_, rfl⟩
      rw [← hwd] at hsp
      have HSP := Lib.hid hsp
      have HME := Lib.hid hme
      have HB := Lib.hid hb
      by_cases he : wd = l
      · have hV := HY.out k hk1 hlt (by rw [← hwd]; exact he)
        have HV := Lib.hid hV
        have i1 : (wd == l) = true := beq_iff_eq.2 he
        clear hsp hme hb hV hwd he
        go_wp2_with (go_at_call 80; refine (HSP.out _).mono ?_; rintro e w1 ⟨rfl, hb1⟩; have HB1 := Lib.hid hb1; clear hb1)
        go_ret
        exact ⟨by rw [HV.out]; rfl, HB.out.trans (HB1.out.mono HB.out.size)⟩
      · have i1 : (wd == l) = false := beq_eq_false_iff_ne.2 he
        have hn2 : ∀ v, 1 ≤ v → v < k + 1 → wordBy v ≠ l := fun v h1 h2 => by
          rcases Nat.lt_succ_iff_lt_or_eq.1 h2 with h | h
          · exact hn.out v h1 h
          · rw [h, ← hwd]; exact he
        have HN2 := Lib.hid hn2
        clear hsp hme hb hwd he hn2
        go_wp2_with (go_at_call 80; refine (HSP.out _).mono ?_; rintro e w1 ⟨rfl, hb1⟩; have HB1 := Lib.hid hb1; clear hb1)
        exact ⟨⟨k + 1, by omega, by omega, by go_num, HB.out.trans (HB1.out.mono HB.out.size), HN2⟩, HME.out⟩
    · have hV := HN.out (fun v h1 h2 => hn.out v h1 (by omega))
      have HV := Lib.hid hV
      have HB := Lib.hid hb
      clear hV hb
      go_wp2
      go_ret
      exact ⟨by rw [HV.out]; rfl, HB.out⟩

theorem words_at {w : World} {A : Option Addr} {ws : List Bs} (h : RowAt w A (ws.map str)) {k : Nat} {x : Bs} (hx : ws[k]? = some x) : ∃ g o, A = some ⟨g, o, none⟩ ∧ w.cell? ⟨g, o + k, none⟩ = some (str x) := by
  have hy : (ws.map str)[k]? = some (str x) := by simp [hx]
  rcases h with h0 | ⟨g, o, h1, _, h3⟩
  · rw [h0] at hy; cases hy
  · exact ⟨g, o, h1, h3 _ _ hy⟩
set_option maxHeartbeats 8000000 in
set_option maxRecDepth 100000 in
theorem refPassOf_any {w : World} {A : Option Addr} {cap v : Nat} {ws : List Bs} (h1 : 1 ≤ v) (h2 : v ≤ 24) (hrow : RowAt w A (ws.map str)) (hn : ws.length ≤ 4611686018427387904) (hl : ∀ x ∈ ws, x.length ≤ 4611686018427387904) :
    Calls Tryz.prog 61 #[refRow v (rowBy v), .slice A ws.length cap] w fun e w' => e = .returned (.int .i64 (passOf (rowBy v) ws)) ∧ Below w.heap.size w w' := by
  have hro := rowOf_word h1 h2
  have hok := (rowOf_ok hro).1
  have hstop := fun k hk h => pass_stop (r := rowBy v) (ws := ws) (k := k) hk h
  have hhere := fun k n x hk hw hx => pass_here (v := wordBy v) (w := x) (r := rowBy v) (ws := ws) (k := k) (n := n) hro hk hw hx
  obtain ⟨r, hr⟩ : ∃ r, r = rowBy v := ⟨_, rfl⟩
  rw [← hr] at hstop hhere hok ⊢
  generalize passOf r ws = V at *
  have hb0 : Below w.heap.size w (w.alloc (.cells #[.int .i64 v, str (zeds r.places), .int .i64 r.least, .bool r.more, .bool r.noreply, .bool r.block] 86)) := (Below.refl _ _).alloc (Nat.le_refl _) _
  have hbx := Blk.new w 86 #[.int .i64 v, str (zeds r.places), .int .i64 r.least, .bool r.more, .bool r.noreply, .bool r.block]
  obtain ⟨ps, hps⟩ : ∃ ps, ps = r.places := ⟨_, rfl⟩
  rw [← hps] at hstop hhere hok hbx hb0
  unfold refRow
  rw [← hps]
  have hsz : (⟨(zeds ps).toArray⟩ : ByteArray).size = ps.length := by rw [str_size, zeds_length]
  have HST := Lib.hid hstop
  have HHE := Lib.hid hhere
  have HROW := Lib.hid hrow
  have HL := Lib.hid hl
  have HB0 := Lib.hid hb0
  have HBX := Lib.hid hbx
  clear hstop hhere hrow hl hb0 hbx hro h1 h2 hr hps
  go_enter Tryz.func61, Tryz.ntmps61
  go_wp2
  go_loopw [5] (fun iv wr => ∃ k : Nat, k ≤ ps.length ∧ k ≤ ws.length ∧ iv = .int .i64 k ∧ Below w.heap.size w wr ∧ Blk wr w.heap.size 86 #[.int .i64 v, str (zeds ps), .int .i64 r.least, .bool r.more, .bool r.noreply, .bool r.block] ∧ Hid (∀ j < k, ps[j]? = some 78 → ∀ w, ws[j]? = some w → number w 2147483647 = none)) (fun iv _ => ps.length - (intOf iv).toNat)
  case atStart => exact ⟨0, by omega, by omega, rfl, HB0.out, HBX.out, Lib.hid (fun j h => by omega)⟩
  case round =>
    obtain ⟨k, hk1, hk2, rfl, hb, hx, hno⟩ := hrel
    have q1 : wr.cell? ⟨w.heap.size, 1, none⟩ = some (str (zeds ps)) := hx.cell 1
    by_cases hlt : k < ps.length ∧ k < ws.length
    · obtain ⟨y, hy⟩ : ∃ y, ps[k]? = some y := ⟨ps[k]'hlt.1, List.getElem?_eq_getElem _⟩
      obtain ⟨x, hxw⟩ : ∃ x, ws[k]? = some x := ⟨ws[k]'hlt.2, List.getElem?_eq_getElem _⟩
      have hby : (⟨(zeds ps).toArray⟩ : ByteArray)[k]'(by rw [hsz]; exact hlt.1) = zed y := by
        rw [byte_getD']
        unfold zeds
        rw [List.getD_eq_getElem?_getD, List.getElem?_map, hy]
        rfl
      obtain ⟨hlt1, hlt2⟩ := hlt
      have g1 : (k : Int) < (ps.length : Int) := by omega
      have g2 : (k : Int) < (ws.length : Int) := by omega
      have hme : ps.length - ((k : Int) + 1).toNat < ps.length - (k : Int).toNat := by omega
      have HME := Lib.hid hme
      have HB := Lib.hid hb
      have HX := Lib.hid hx
      by_cases h78 : y = 78
      · subst h78
        replace hby : (⟨(zeds ps).toArray⟩ : ByteArray)[k]'(by rw [hsz]; exact hlt1) = 78 := hby
        obtain ⟨g, o, hA, hc⟩ := words_at (HROW.out.below hb) hxw
        have hnu := fun W : World => refNumber_any x 2147483647 W (HL.out x (List.mem_of_getElem? hxw)) (by omega)
        subst hA
        cases hnum : number x 2147483647 with
        | none =>
          rw [hnum] at hnu
          have hno2 : ∀ j < k + 1, ps[j]? = some 78 → ∀ w, ws[j]? = some w → number w 2147483647 = none := fun j hj h w hw => by
            rcases Nat.lt_succ_iff_lt_or_eq.1 hj with h' | h'
            · exact hno.out j h' h w hw
            · rw [h', hxw] at hw
              injection hw with hw
              rw [← hw]; exact hnum
          have HNU := Lib.hid hnu
          have HNO := Lib.hid hno2
          clear hnu hno2 hno hb hx hme hy hxw hnum
          go_wp2_with (go_at_call 103; refine (HNU.out _).mono ?_; rintro e w' ⟨rfl, rfl⟩; unfold numR)
          exact ⟨⟨k + 1, by omega, by omega, by go_num, HB.out, HX.out, HNO⟩, HME.out⟩
        | some n =>
          rw [hnum] at hnu
          have hn9 := number_le hnum
          have hV := HHE.out k n x hy hxw hnum
          have hwp : IntKind.i64.wrap (n : Int) = (n : Int) := by rw [IntKind.wrap_i64]; omega
          have HNU := Lib.hid hnu
          have HV := Lib.hid hV
          clear hnu hV hno hb hx hme hy hxw hnum
          go_wp2_with (go_at_call 103; refine (HNU.out _).mono ?_; rintro e w' ⟨rfl, rfl⟩; unfold numR)
          go_ret
          exact ⟨by rw [HV.out]; rfl, HB.out⟩
      · have h78' : zed y ≠ 78 := fun h => h78 ((zed_78 y).1 h)
        have hno2 : ∀ j < k + 1, ps[j]? = some 78 → ∀ w, ws[j]? = some w → number w 2147483647 = none := fun j hj h w hw => by
          rcases Nat.lt_succ_iff_lt_or_eq.1 hj with h' | h'
          · exact hno.out j h' h w hw
          · rw [h', hy] at h
            exact absurd (Option.some.inj h) h78
        generalize zed y = z at hby h78'
        have g3 : ((z.toNat : Int) == 78) = false := byte_ne (c := 78) rfl h78'
        have HNO := Lib.hid hno2
        clear hno2 hno hb hx hme hy hxw h78 h78'
        go_wp2_with fail
        exact ⟨⟨k + 1, by omega, by omega, by go_num, HB.out, HX.out, HNO⟩, HME.out⟩
    · have hV := HST.out k (by omega) hno.out
      have HV := Lib.hid hV
      have HB := Lib.hid hb
      by_cases h1 : k < ps.length
      · obtain rfl : k = ws.length := by omega
        have g1 : (ws.length : Int) < (ps.length : Int) := by omega
        clear hV hb hno hx hlt
        go_wp2_with fail
        go_ret
        exact ⟨by rw [HV.out]; rfl, HB.out⟩
      · have g1 : decide ((k : Int) < (ps.length : Int)) = false := decide_eq_false (by omega)
        clear hV hb hno hx hlt
        go_wp2_with fail
        go_ret
        exact ⟨by rw [HV.out]; rfl, HB.out⟩
end Go.Proofs.YthgfjafnclklpaaGreatDoor
end
section
namespace Go.Proofs.YthgfjafnclklpaaGreatDoor
attribute [local go_sem ↓] Go.wp_at_zero Go.wp_at_succ
open Go.RowKit Sp

theorem str_put (a : Bs) (c : UInt8) : Value.string ((⟨a.toArray⟩ : ByteArray) ++ ⟨#[c]⟩) = str (a ++ [c]) := by
  congr 1
/-- one byte out of a text -/
theorem run_str_one (W : World) {l : Bs} {k : Nat} {c : UInt8} (h : l[k]? = some c) : (Instr.slice 9 (str l) (some (.int .i64 k)) (some (.int .i64 ((k : Int) + 1))) none).run Tryz.prog W = .ok (str [c]) W := by
  obtain ⟨h1, h2⟩ := List.getElem?_eq_some_iff.1 h
  have h3 := run_slice_string (P := Tryz.prog) (w := W) 9 (⟨l.toArray⟩ : ByteArray) .i64 .i64 (k : Int) ((k : Int) + 1) Tryz.underlying9 (by omega) (by omega) (by rw [str_size]; omega)
  rw [h3]
  have e : (⟨l.toArray⟩ : ByteArray).extract (k : Int).toNat ((k : Int) + 1).toNat = ⟨([c] : Bs).toArray⟩ := by
    apply ByteArray.ext
    rw [show ((k : Int) + 1).toNat = k + 1 by omega, Int.toNat_natCast]
    simp
    rw [List.drop_eq_getElem_cons h1, h2]
    rfl
  rw [e]

/-- where the loop of Words stands -/
structure WordsMid (w : World) (l : Bs) (k : Nat) (done : List Bs) (cur : Bs) (ov : Value) (wr : World) : Prop where
  row : wr.ownsRow w.heap.size 9 1 ov done.length (done.map str)
  below : Below w.heap.size w wr
  words : wordsOf l = done ++ wordsGo (l.drop k) cur
  few : done.length ≤ k
  small : cur.length ≤ k
theorem WordsMid.on {w wr w2 : World} {l : Bs} {k : Nat} {done : List Bs} {cur : Bs} {ov v' : Value} (h : WordsMid w l k done cur ov wr) (hg : wr.grownBy w2 ov.ownBlock) (ho : w2.ownsRow w.heap.size 9 1 v' (done.length + 1) (done.map str ++ [str cur])) :
    w2.ownsRow w.heap.size 9 1 v' (done ++ [cur]).length ((done ++ [cur]).map str) ∧ Below w.heap.size w w2 :=
  ⟨by rw [List.length_append, List.map_append]; exact ho, h.below.grown hg h.below.size (fun k hk => own_ge h.row k (mem_rowBlock.2 hk))⟩

set_option maxHeartbeats 8000000 in
set_option maxRecDepth 100000 in
theorem refWords_any (l : Bs) (w : World) (hl : l.length ≤ 1000000) : Calls Tryz.prog 59 #[str l] w fun e w' =>
    ∃ A cap, e = .returned (.slice A (wordsOf l).length cap) ∧ w'.ownsRow w.heap.size 9 1 (.slice A (wordsOf l).length cap) (wordsOf l).length ((wordsOf l).map str) ∧ Below w.heap.size w w' := by
  obtain ⟨i0, hi, hz0, hz1, hz2⟩ := info_parts info_string
  generalize hR : (fun (e : Ending) (w' : World) => ∃ A cap, e = .returned (.slice A (wordsOf l).length cap) ∧ w'.ownsRow w.heap.size 9 1 (.slice A (wordsOf l).length cap) (wordsOf l).length ((wordsOf l).map str) ∧ Below w.heap.size w w') = R
  have hfin : ∀ (ov : Value) (w' : World) (ws : List Bs), wordsOf l = ws → w'.ownsRow w.heap.size 9 1 ov ws.length (ws.map str) → Below w.heap.size w w' → R (.returned ov) w' := fun ov w' ws h1 h2 h3 => by
    subst h1
    obtain ⟨A, cap, rfl⟩ := own_form h2
    rw [← hR]
    exact ⟨A, cap, rfl, h2, h3⟩
  have hsz := str_size l
  have HF := Lib.hid hfin
  clear hfin hR
  go_enter Tryz.func59, Tryz.ntmps59
  go_wp2
  go_loopw [3, 4, 5] (fun ov cv iv wr => ∃ (k : Nat) (done : List Bs) (cur : Bs), k ≤ l.length ∧ iv = .int .i64 k ∧ cv = str cur ∧ WordsMid w l k done cur ov wr) (fun _ _ iv _ => l.length - (intOf iv).toNat)
  case atStart => exact ⟨0, [], [], Nat.zero_le _, rfl, rfl, ⟨World.ownsRow_nil _ _ _ 1, Below.refl _ _, by simp [wordsOf], Nat.le_refl _, Nat.le_refl _⟩⟩
  case round =>
    obtain ⟨k, done, cur, hk, rfl, rfl, hm⟩ := hrel
    obtain ⟨wo, rfl⟩ : ∃ wo, wo = wr := ⟨wr, rfl⟩
    have hcur := hm.small
    have hfew := hm.few
    have hszw : w.heap.size ≤ wo.heap.size := hm.below.size
    by_cases hlt : k < l.length
    · obtain ⟨c, hc⟩ : ∃ c, l[k]? = some c := ⟨l[k]'hlt, List.getElem?_eq_getElem _⟩
      have hgd : l.getD k 0 = c := by rw [List.getD_eq_getElem?_getD, hc]; rfl
      have hby : (⟨l.toArray⟩ : ByteArray)[k]'(by rw [hsz]; exact hlt) = c := by rw [byte_getD', hgd]
      have hme : l.length - ((k : Int) + 1).toNat < l.length - (k : Int).toNat := by omega
      have HME := Lib.hid hme
      have HM := Lib.hid hm
      by_cases h32 : c = 32
      · subst h32
        have g1 : (((32 : UInt8).toNat : Int) != 32) = false := rfl
        by_cases hn : cur = []
        · subst hn
          have hw := hm.words.trans (congrArg (done ++ ·) (words_blank0 hlt hgd))
          have HW := Lib.hid hw
          clear hw hme hm hgd hc
          go_wp2_with fail
          exact ⟨⟨k + 1, done, [], by omega, by go_num, rfl, ⟨HM.out.row, HM.out.below, HW.out, by omega, by simp⟩⟩, HME.out⟩
        · have i1 : cur.isEmpty = false := List.isEmpty_eq_false_iff.2 hn
          have hw : wordsOf l = (done ++ [cur]) ++ wordsGo (l.drop (k + 1)) [] := by rw [hm.words, words_blank hlt hgd hn]; simp
          have HW := Lib.hid hw
          clear hw hme hm hgd hc hn
          go_wp2_with (at_builtin; refine wpList_append_in rfl (.tmp 25) (.tmp 27) _ rfl w.heap.size 9 i0 _ 1 16 Tryz.underlying33 hi hz0 hz1 hz2 rfl (by decide) u3 done.length (done.map str) rfl (own_later HM.out.row ((Below.refl _ _).alloc (Nat.le_refl _) _)) (some ⟨wo.heap.size, 0, none⟩) 1 1 [str cur] rfl (row_new wo rfl 9 [str cur]) (fun h => by cases h) rfl ?_ ?_ ?_ ?_ ?_; (intro u hu; simp only [List.mem_cons, List.not_mem_nil, or_false] at hu; subst hu; rfl); (unfold maxLen; omega); omega; (simp; omega); intro v7 w7 hown7 hg7; have hk7 := (WordsMid.mk (own_later HM.out.row ((Below.refl _ _).alloc (Nat.le_refl _) (.cells #[str cur] 9))) (HM.out.below.alloc hszw (.cells #[str cur] 9)) HM.out.words HM.out.few HM.out.small).on hg7 hown7; have HK7 := Lib.hid hk7; clear hown7 hg7 hk7)
          exact ⟨⟨k + 1, done ++ [cur], [], by omega, by go_num, rfl, ⟨HK7.out.1, HK7.out.2, HW.out, by simp; omega, by simp⟩⟩, HME.out⟩
      · have hne : ((c.toNat : Int) == 32) = false := byte_ne (c := 32) rfl h32
        have g1 : ((c.toNat : Int) != 32) = true := by rw [bne, hne]; rfl
        have hone := fun W : World => run_str_one W hc
        have hw := hm.words.trans (congrArg (done ++ ·) (words_byte (cur := cur) hlt (by rw [hgd]; exact h32)))
        rw [hgd] at hw
        have HW := Lib.hid hw
        clear hw hme hm hgd hc h32
        go_wp2_with fail
        exact ⟨⟨k + 1, done, cur ++ [c], by omega, by go_num, str_put cur c, ⟨HM.out.row, HM.out.below, HW.out, by omega, by simp; omega⟩⟩, HME.out⟩
    · obtain rfl : k = l.length := by omega
      have HM := Lib.hid hm
      by_cases hn : cur = []
      · subst hn
        have hw : wordsOf l = done := by rw [hm.words, words_end0 (Nat.le_refl _), List.append_nil]
        have hfin := HF.out u3 wo done hw HM.out.row HM.out.below
        have HFIN := Lib.hid hfin
        clear hw hm hfin
        go_wp2_with fail
        exact HFIN.out
      · have i1 : cur.isEmpty = false := List.isEmpty_eq_false_iff.2 hn
        have hw : wordsOf l = done ++ [cur] := by rw [hm.words, words_end (Nat.le_refl _) hn]
        have HW := Lib.hid hw
        clear hw hm hn
        go_wp2_with (at_builtin; refine wpList_append_in rfl (.tmp 31) (.tmp 33) _ rfl w.heap.size 9 i0 _ 1 16 Tryz.underlying33 hi hz0 hz1 hz2 rfl (by decide) u3 done.length (done.map str) rfl (own_later HM.out.row ((Below.refl _ _).alloc (Nat.le_refl _) _)) (some ⟨wo.heap.size, 0, none⟩) 1 1 [str cur] rfl (row_new wo rfl 9 [str cur]) (fun h => by cases h) rfl ?_ ?_ ?_ ?_ ?_; (intro u hu; simp only [List.mem_cons, List.not_mem_nil, or_false] at hu; subst hu; rfl); (unfold maxLen; omega); omega; (simp; omega); intro v7 w7 hown7 hg7; have hk7 := (WordsMid.mk (own_later HM.out.row ((Below.refl _ _).alloc (Nat.le_refl _) (.cells #[str cur] 9))) (HM.out.below.alloc hszw (.cells #[str cur] 9)) HM.out.words HM.out.few HM.out.small).on hg7 hown7; have HK7 := Lib.hid (HF.out v7 w7 (done ++ [cur]) HW.out hk7.1 hk7.2); clear hown7 hg7 hk7)
        exact HK7.out
end Go.Proofs.YthgfjafnclklpaaGreatDoor
end
section
namespace Go.Proofs.YthgfjafnclklpaaGreatDoor
attribute [local go_sem ↓] Go.wp_at_zero Go.wp_at_succ
open Go.RowKit Sp
attribute [-go_sem] storeVar
attribute [local go_sem] run_store_cmd run_store_wrong storeVar_int' storeVar_bool' storeVar_slice' canPut_setCell canPut_drew canPut_alloc canPut_setCells cell_setCells_far World.frozen?_setCells

theorem wrong_results {W : World} {b4 b6 : Nat} {x : WrongV} {n : Int} (h4 : Blk W b4 38 (cmdArr {} nilRow nilRow nilRow)) (h6 : Blk W b6 59 (wrongArr x)) (tm : Array Value)
    (t4 : tm[4]?.getD undef = .pointer (some ⟨b4, 0, none⟩)) (t5 : tm[5]?.getD undef = .int .i64 n) (t6 : tm[6]?.getD undef = .pointer (some ⟨b6, 0, none⟩)) :
    (results Tryz.f58 tm).run Tryz.prog W = .ok (.tuple #[.agg (cmdArr {} nilRow nilRow nilRow), .int .i64 n, .agg (wrongArr x)]) W := by
  have z0 := h4.cell 0
  have z1 := h4.cell 1
  have z2 := h4.cell 2
  have z3 := h4.cell 3
  have z4 := h4.cell 4
  have z5 := h4.cell 5
  have z6 := h4.cell 6
  have z7 := h4.cell 7
  have z8 := h4.cell 8
  have z9 := h4.cell 9
  have z10 := h4.cell 10
  have v0 := h6.cell 0
  have v1 := h6.cell 1
  have v2 := h6.cell 2
  change _ = some _ at z0 z1 z2 z3 z4 z5 z6 z7 z8 z9 z10 v0 v1 v2
  clear h4 h6
  simp [results, Tryz.results58, go_sem, t4, t5, t6, z0, z1, z2, z3, z4, z5, z6, z7, z8, z9, z10, v0, v1, v2]
  exact ⟨rfl, rfl⟩

set_option maxHeartbeats 4000000 in
set_option maxRecDepth 100000 in
theorem refWrong_any (t : Bs) (p : Int) (w : World) : Calls Tryz.prog 58 #[str t, .int .i64 p] w fun e w' =>
    e = .returned (.tuple #[.agg (cmdArr {} nilRow nilRow nilRow), .int .i64 (-1), .agg (wrongArr ⟨2, t, p⟩)]) ∧ Below w.heap.size w w' := by
  obtain ⟨W, hW⟩ : ∃ W, W = (w.alloc (.cells #[.int .i64 0, .slice none 0 0, .int .u64 0, .int .i64 0, .int .u64 0, .int .u64 0, .slice none 0 0, .bool false, .bool false, .slice none 0 0, .string ⟨#[]⟩] 38)).alloc (.cells #[.int .i64 0, .string ⟨#[]⟩, .int .i64 0] 59) := ⟨_, rfl⟩
  have h4 : Blk W w.heap.size 38 (cmdArr {} nilRow nilRow nilRow) := by rw [hW]; exact (Blk.new w 38 (cmdArr {} nilRow nilRow nilRow)).alloc _
  have h6 : Blk W (w.heap.size + 1) 59 (wrongArr {}) := by
    rw [hW]
    have := Blk.new (w.alloc (.cells #[.int .i64 0, .slice none 0 0, .int .u64 0, .int .i64 0, .int .u64 0, .int .u64 0, .slice none 0 0, .bool false, .bool false, .slice none 0 0, .string ⟨#[]⟩] 38)) 59 (wrongArr {})
    rwa [show (w.alloc (.cells #[.int .i64 0, .slice none 0 0, .int .u64 0, .int .i64 0, .int .u64 0, .int .u64 0, .slice none 0 0, .bool false, .bool false, .slice none 0 0, .string ⟨#[]⟩] 38)).heap.size = w.heap.size + 1 by simp] at this
  have hb : Below w.heap.size w W := by
    rw [hW]
    exact ((Below.refl _ _).alloc (Nat.le_refl _) _).alloc (by simp) _
  have c4 : canPut W w.heap.size 0 11 = true := h4.can 0 11 (by decide)
  have k4 := h4.putCmd {} nilRow nilRow nilRow
  have k6 := Blk.farCells w.heap.size (by omega) (cmdList {} nilRow nilRow nilRow) 0 h6
  have c6 : canPut (W.setCells w.heap.size 0 [.int .i64 0, .slice none 0 0, .int .u64 0, .int .i64 0, .int .u64 0, .int .u64 0, .slice none 0 0, .bool false, .bool false, .slice none 0 0, .string ⟨#[]⟩]) (w.heap.size + 1) 0 3 = true := k6.can 0 3 (by decide)
  have m6 : Blk ((W.setCells w.heap.size 0 [.int .i64 0, .slice none 0 0, .int .u64 0, .int .i64 0, .int .u64 0, .int .u64 0, .slice none 0 0, .bool false, .bool false, .slice none 0 0, .string ⟨#[]⟩]).setCells (w.heap.size + 1) 0 [.int .i64 2, str t, .int .i64 p]) (w.heap.size + 1) 59 (wrongArr ⟨2, t, p⟩) := k6.putWrong ⟨2, t, p⟩
  have m4 : Blk ((W.setCells w.heap.size 0 [.int .i64 0, .slice none 0 0, .int .u64 0, .int .i64 0, .int .u64 0, .int .u64 0, .slice none 0 0, .bool false, .bool false, .slice none 0 0, .string ⟨#[]⟩]).setCells (w.heap.size + 1) 0 [.int .i64 2, str t, .int .i64 p]) w.heap.size 38 (cmdArr {} nilRow nilRow nilRow) := Blk.farCells (w.heap.size + 1) (by omega) (wrongList ⟨2, t, p⟩) 0 k4
  have hb2 : Below w.heap.size w ((W.setCells w.heap.size 0 [.int .i64 0, .slice none 0 0, .int .u64 0, .int .i64 0, .int .u64 0, .int .u64 0, .slice none 0 0, .bool false, .bool false, .slice none 0 0, .string ⟨#[]⟩]).setCells (w.heap.size + 1) 0 [.int .i64 2, str t, .int .i64 p]) := Below.setCells (Nat.le_succ w.heap.size) (wrongList ⟨2, t, p⟩) 0 (Below.setCells (Nat.le_refl w.heap.size) (cmdList {} nilRow nilRow nilRow) 0 hb)
  have HW := Lib.hid hW
  have M4 := Lib.hid m4
  have M6 := Lib.hid m6
  have HB2 := Lib.hid hb2
  clear h4 h6 hb k4 k6 m6 m4 hb2 hW
  go_enter Tryz.func58, Tryz.ntmps58
  go_upto_region 1 with fail
  rw [← HW.out]
  go_wp2_with fail
  exact bodyPost_ret (wrong_results M4.out M6.out _ rfl rfl rfl) rfl ⟨rfl, HB2.out⟩
end Go.Proofs.YthgfjafnclklpaaGreatDoor
end
section
namespace Go.Proofs.YthgfjafnclklpaaGreatDoor
attribute [local go_sem ↓] Go.wp_at_zero Go.wp_at_succ
open Go.RowKit Sp
theorem storeVar_str' (t : TypeId) (a : Addr) (s : ByteArray) : type_of% (storeVar.eq_1 t a (.string s)) := storeVar.eq_1 t a (.string s)
attribute [-go_sem] storeVar
attribute [local go_sem] run_store_cmd run_store_wrong storeVar_int' storeVar_bool' storeVar_slice' storeVar_str' canPut_setCell canPut_drew canPut_alloc canPut_setCells cell_setCells_far World.frozen?_setCells

theorem word_results {W : World} {b6 : Nat} {c : CmdV} {K D M : Option Addr} {kn kc dn dc mn mc : Nat} {n : Int} {t : Bs} (h6 : Blk W b6 38 (cmdArr c (.slice K kn kc) (.slice D dn dc) (.slice M mn mc))) (tm : Array Value)
    (t6 : tm[6]?.getD undef = .pointer (some ⟨b6, 0, none⟩)) (t7 : tm[7]?.getD undef = .int .i64 n) (t8 : tm[8]?.getD undef = str t) :
    (results Tryz.f62 tm).run Tryz.prog W = .ok (.tuple #[.agg (cmdArr c (.slice K kn kc) (.slice D dn dc) (.slice M mn mc)), .int .i64 n, str t]) W := by
  have z0 := h6.cell 0
  have z1 := h6.cell 1
  have z2 := h6.cell 2
  have z3 := h6.cell 3
  have z4 := h6.cell 4
  have z5 := h6.cell 5
  have z6 := h6.cell 6
  have z7 := h6.cell 7
  have z8 := h6.cell 8
  have z9 := h6.cell 9
  have z10 := h6.cell 10
  change _ = some _ at z0 z1 z2 z3 z4 z5 z6 z7 z8 z9 z10
  clear h6
  simp [results, Tryz.results62, go_sem, t6, t7, t8, z0, z1, z2, z3, z4, z5, z6, z7, z8, z9, z10]
  rfl

/-- what word tells of a letter that makes no memory -/
def RwPost (w : World) (c : CmdV) (kv mv : Value) (k : UInt8) (wd : Bs) (e : Ending) (w' : World) : Prop :=
  ∃ c' n t, e = .returned (.tuple #[.agg (cmdArr c' kv nilRow mv), .int .i64 n, str t]) ∧ Below w.heap.size w w' ∧
    match wordAt c (-1) k wd with
    | .ok (c2, b2) => t = [] ∧ c' = c2 ∧ n = b2
    | .error m => t = m ∧ t ≠ []

/-- the two boxes: the command that came in, the one that is told -/
structure WordBoxes (w : World) (c c0 : CmdV) (kv mv : Value) (W : World) : Prop where
  box : Blk W w.heap.size 38 (cmdArr c kv nilRow mv)
  res : Blk W (w.heap.size + 1) 38 (cmdArr c0 nilRow nilRow nilRow)
  below : Below w.heap.size w W
theorem WordBoxes.new (w : World) (c : CmdV) (kv mv : Value) : WordBoxes w c {} kv mv ((w.alloc (.cells (cmdArr c kv nilRow mv) 38)).alloc (.cells (cmdArr {} nilRow nilRow nilRow) 38)) := by
  refine ⟨(Blk.new w 38 (cmdArr c kv nilRow mv)).alloc _, ?_, ((Below.refl _ _).alloc (Nat.le_refl _) _).alloc (by simp) _⟩
  have := Blk.new (w.alloc (.cells (cmdArr c kv nilRow mv) 38)) 38 (cmdArr {} nilRow nilRow nilRow)
  rwa [show (w.alloc (.cells (cmdArr c kv nilRow mv) 38)).heap.size = w.heap.size + 1 by simp] at this

set_option maxHeartbeats 2000000 in
set_option maxHeartbeats 2000000 in
set_option maxRecDepth 100000 in
theorem refWord_F {w : World} {c : CmdV} {K M : Option Addr} {kn kc mn mc : Nat} {wd : Bs} (hl : wd.length ≤ 4611686018427387904) :
    Calls Tryz.prog 62 #[.agg (cmdArr c (.slice K kn kc) nilRow (.slice M mn mc)), .int .u8 70, str wd] w (RwPost w c (.slice K kn kc) (.slice M mn mc) 70 wd) := by
  generalize hR : RwPost w c (.slice K kn kc) (.slice M mn mc) 70 wd = R
  have hW0 := WordBoxes.new w c (.slice K kn kc) (.slice M mn mc)
  obtain ⟨W, hW⟩ : ∃ W, W = (w.alloc (.cells (cmdArr c (.slice K kn kc) nilRow (.slice M mn mc)) 38)).alloc (.cells #[.int .i64 0, .slice none 0 0, .int .u64 0, .int .i64 0, .int .u64 0, .int .u64 0, .slice none 0 0, .bool false, .bool false, .slice none 0 0, .string ⟨#[]⟩] 38) := ⟨_, rfl⟩
  replace hW0 : WordBoxes w c {} (.slice K kn kc) (.slice M mn mc) W := by rw [hW]; exact hW0
  have z0 : W.cell? ⟨w.heap.size, 0, none⟩ = some (.int .i64 c.verb) := hW0.box.cell 0
  have z1 : W.cell? ⟨w.heap.size, 1, none⟩ = some (.slice K kn kc) := hW0.box.cell 1
  have z2 : W.cell? ⟨w.heap.size, 2, none⟩ = some (.int .u64 c.flags) := hW0.box.cell 2
  have z3 : W.cell? ⟨w.heap.size, 3, none⟩ = some (.int .i64 c.exptime) := hW0.box.cell 3
  have z4 : W.cell? ⟨w.heap.size, 4, none⟩ = some (.int .u64 c.token) := hW0.box.cell 4
  have z5 : W.cell? ⟨w.heap.size, 5, none⟩ = some (.int .u64 c.delta) := hW0.box.cell 5
  have z6 : W.cell? ⟨w.heap.size, 6, none⟩ = some nilRow := hW0.box.cell 6
  have z7 : W.cell? ⟨w.heap.size, 7, none⟩ = some (.bool c.noreply) := hW0.box.cell 7
  have z8 : W.cell? ⟨w.heap.size, 8, none⟩ = some (.bool c.large) := hW0.box.cell 8
  have z9 : W.cell? ⟨w.heap.size, 9, none⟩ = some (.slice M mn mc) := hW0.box.cell 9
  have z10 : W.cell? ⟨w.heap.size, 10, none⟩ = some (str c.what) := hW0.box.cell 10
  have f2 := hW0.box.frozen 2
  have f3 := hW0.box.frozen 3
  have f4 := hW0.box.frozen 4
  have f5 := hW0.box.frozen 5
  have f10 := hW0.box.frozen 10
  have c6 : canPut W (w.heap.size + 1) 0 11 = true := hW0.res.can 0 11 (by decide)
  have hnu := fun W : World => refNumber_any wd 4294967295 W hl (by omega)
  have HW := Lib.hid hW
  have HW0 := Lib.hid hW0
  have HR := Lib.hid hR
  have HNU := Lib.hid hnu
  clear hW hW0 hR hnu
  cases hn : number wd 4294967295 with
  | some n =>
    have hv : wordAt c (-1) 70 wd = .ok ({ c with flags := n }, -1) := by simp [wordAt, hn]
    have hle := number_le hn
    have hnu2 := HNU.out W
    rw [hn] at hnu2
    have HN2 := Lib.hid hnu2
    have HV := Lib.hid hv
    clear hnu2 hn hv
    have hres := (HW0.out.res.far (p := ⟨w.heap.size, 2, none⟩) (by show w.heap.size + 1 ≠ w.heap.size; omega) (.int .u64 n)).putCmd ({ c with flags := n }) (.slice K kn kc) nilRow (.slice M mn mc)
    have hbel := Below.setCells (Nat.le_succ w.heap.size) (cmdList ({ c with flags := n }) (.slice K kn kc) nilRow (.slice M mn mc)) 0 (HW0.out.below.setCell (p := ⟨w.heap.size, 2, none⟩) (Nat.le_refl _) (.int .u64 n))
    have hfin : ∀ W', Below w.heap.size w W' → R (.returned (.tuple #[.agg (cmdArr ({ c with flags := n }) (.slice K kn kc) nilRow (.slice M mn mc)), .int .i64 (-1), str []])) W' := fun W' hb => by rw [← HR.out]; exact ⟨{ c with flags := n }, (-1), [], rfl, hb, by rw [HV.out]; exact ⟨rfl, rfl, rfl⟩⟩
    have HRES := Lib.hid hres
    have HBEL := Lib.hid hbel
    have HFIN := Lib.hid hfin
    clear hres hbel hfin
    go_enter Tryz.func62, Tryz.ntmps62
    go_upto_region 1 with fail
    rw [← HW.out]
    go_wp2_with (go_at_call 103; refine HN2.out.mono ?_; rintro e w' ⟨rfl, rfl⟩; unfold numR)
    exact bodyPost_ret (word_results HRES.out _ rfl rfl rfl) rfl (HFIN.out _ HBEL.out)
  | none =>
    have hv : wordAt c (-1) 70 wd = .error badFormat := by simp [wordAt, hn]
    have hnu2 := HNU.out W
    rw [hn] at hnu2
    have HN2 := Lib.hid hnu2
    have HV := Lib.hid hv
    clear hnu2 hn hv
    have hres := (HW0.out.res.far (p := ⟨w.heap.size, 2, none⟩) (by show w.heap.size + 1 ≠ w.heap.size; omega) (.int .u64 0)).putCmd ({ c with flags := 0 }) (.slice K kn kc) nilRow (.slice M mn mc)
    have hbel := Below.setCells (Nat.le_succ w.heap.size) (cmdList ({ c with flags := 0 }) (.slice K kn kc) nilRow (.slice M mn mc)) 0 (HW0.out.below.setCell (p := ⟨w.heap.size, 2, none⟩) (Nat.le_refl _) (.int .u64 0))
    have hfin : ∀ W', Below w.heap.size w W' → R (.returned (.tuple #[.agg (cmdArr ({ c with flags := 0 }) (.slice K kn kc) nilRow (.slice M mn mc)), .int .i64 (-1), str badFormat])) W' := fun W' hb => by rw [← HR.out]; exact ⟨{ c with flags := 0 }, (-1), badFormat, rfl, hb, by rw [HV.out]; exact ⟨rfl, by decide⟩⟩
    have HRES := Lib.hid hres
    have HBEL := Lib.hid hbel
    have HFIN := Lib.hid hfin
    clear hres hbel hfin
    go_enter Tryz.func62, Tryz.ntmps62
    go_upto_region 1 with fail
    rw [← HW.out]
    go_wp2_with (go_at_call 103; refine HN2.out.mono ?_; rintro e w' ⟨rfl, rfl⟩; unfold numR)
    exact bodyPost_ret (word_results HRES.out _ rfl rfl rfl) rfl (HFIN.out _ HBEL.out)

set_option maxHeartbeats 2000000 in
set_option maxRecDepth 100000 in
theorem refWord_C {w : World} {c : CmdV} {K M : Option Addr} {kn kc mn mc : Nat} {wd : Bs} (hl : wd.length ≤ 4611686018427387904) :
    Calls Tryz.prog 62 #[.agg (cmdArr c (.slice K kn kc) nilRow (.slice M mn mc)), .int .u8 67, str wd] w (RwPost w c (.slice K kn kc) (.slice M mn mc) 67 wd) := by
  generalize hR : RwPost w c (.slice K kn kc) (.slice M mn mc) 67 wd = R
  have hW0 := WordBoxes.new w c (.slice K kn kc) (.slice M mn mc)
  obtain ⟨W, hW⟩ : ∃ W, W = (w.alloc (.cells (cmdArr c (.slice K kn kc) nilRow (.slice M mn mc)) 38)).alloc (.cells #[.int .i64 0, .slice none 0 0, .int .u64 0, .int .i64 0, .int .u64 0, .int .u64 0, .slice none 0 0, .bool false, .bool false, .slice none 0 0, .string ⟨#[]⟩] 38) := ⟨_, rfl⟩
  replace hW0 : WordBoxes w c {} (.slice K kn kc) (.slice M mn mc) W := by rw [hW]; exact hW0
  have z0 : W.cell? ⟨w.heap.size, 0, none⟩ = some (.int .i64 c.verb) := hW0.box.cell 0
  have z1 : W.cell? ⟨w.heap.size, 1, none⟩ = some (.slice K kn kc) := hW0.box.cell 1
  have z2 : W.cell? ⟨w.heap.size, 2, none⟩ = some (.int .u64 c.flags) := hW0.box.cell 2
  have z3 : W.cell? ⟨w.heap.size, 3, none⟩ = some (.int .i64 c.exptime) := hW0.box.cell 3
  have z4 : W.cell? ⟨w.heap.size, 4, none⟩ = some (.int .u64 c.token) := hW0.box.cell 4
  have z5 : W.cell? ⟨w.heap.size, 5, none⟩ = some (.int .u64 c.delta) := hW0.box.cell 5
  have z6 : W.cell? ⟨w.heap.size, 6, none⟩ = some nilRow := hW0.box.cell 6
  have z7 : W.cell? ⟨w.heap.size, 7, none⟩ = some (.bool c.noreply) := hW0.box.cell 7
  have z8 : W.cell? ⟨w.heap.size, 8, none⟩ = some (.bool c.large) := hW0.box.cell 8
  have z9 : W.cell? ⟨w.heap.size, 9, none⟩ = some (.slice M mn mc) := hW0.box.cell 9
  have z10 : W.cell? ⟨w.heap.size, 10, none⟩ = some (str c.what) := hW0.box.cell 10
  have f2 := hW0.box.frozen 2
  have f3 := hW0.box.frozen 3
  have f4 := hW0.box.frozen 4
  have f5 := hW0.box.frozen 5
  have f10 := hW0.box.frozen 10
  have c6 : canPut W (w.heap.size + 1) 0 11 = true := hW0.res.can 0 11 (by decide)
  have hnu := fun W : World => refNumber_any wd 18446744073709551615 W hl (by omega)
  have HW := Lib.hid hW
  have HW0 := Lib.hid hW0
  have HR := Lib.hid hR
  have HNU := Lib.hid hnu
  clear hW hW0 hR hnu
  cases hn : number wd 18446744073709551615 with
  | some n =>
    have hv : wordAt c (-1) 67 wd = .ok ({ c with token := n }, -1) := by simp [wordAt, hn]
    have hle := number_le hn
    have hnu2 := HNU.out W
    rw [hn] at hnu2
    have HN2 := Lib.hid hnu2
    have HV := Lib.hid hv
    clear hnu2 hn hv
    have hres := (HW0.out.res.far (p := ⟨w.heap.size, 4, none⟩) (by show w.heap.size + 1 ≠ w.heap.size; omega) (.int .u64 n)).putCmd ({ c with token := n }) (.slice K kn kc) nilRow (.slice M mn mc)
    have hbel := Below.setCells (Nat.le_succ w.heap.size) (cmdList ({ c with token := n }) (.slice K kn kc) nilRow (.slice M mn mc)) 0 (HW0.out.below.setCell (p := ⟨w.heap.size, 4, none⟩) (Nat.le_refl _) (.int .u64 n))
    have hfin : ∀ W', Below w.heap.size w W' → R (.returned (.tuple #[.agg (cmdArr ({ c with token := n }) (.slice K kn kc) nilRow (.slice M mn mc)), .int .i64 (-1), str []])) W' := fun W' hb => by rw [← HR.out]; exact ⟨{ c with token := n }, (-1), [], rfl, hb, by rw [HV.out]; exact ⟨rfl, rfl, rfl⟩⟩
    have HRES := Lib.hid hres
    have HBEL := Lib.hid hbel
    have HFIN := Lib.hid hfin
    clear hres hbel hfin
    go_enter Tryz.func62, Tryz.ntmps62
    go_upto_region 1 with fail
    rw [← HW.out]
    go_wp2_with (go_at_call 103; refine HN2.out.mono ?_; rintro e w' ⟨rfl, rfl⟩; unfold numR)
    exact bodyPost_ret (word_results HRES.out _ rfl rfl rfl) rfl (HFIN.out _ HBEL.out)
  | none =>
    have hv : wordAt c (-1) 67 wd = .error badFormat := by simp [wordAt, hn]
    have hnu2 := HNU.out W
    rw [hn] at hnu2
    have HN2 := Lib.hid hnu2
    have HV := Lib.hid hv
    clear hnu2 hn hv
    have hres := (HW0.out.res.far (p := ⟨w.heap.size, 4, none⟩) (by show w.heap.size + 1 ≠ w.heap.size; omega) (.int .u64 0)).putCmd ({ c with token := 0 }) (.slice K kn kc) nilRow (.slice M mn mc)
    have hbel := Below.setCells (Nat.le_succ w.heap.size) (cmdList ({ c with token := 0 }) (.slice K kn kc) nilRow (.slice M mn mc)) 0 (HW0.out.below.setCell (p := ⟨w.heap.size, 4, none⟩) (Nat.le_refl _) (.int .u64 0))
    have hfin : ∀ W', Below w.heap.size w W' → R (.returned (.tuple #[.agg (cmdArr ({ c with token := 0 }) (.slice K kn kc) nilRow (.slice M mn mc)), .int .i64 (-1), str badFormat])) W' := fun W' hb => by rw [← HR.out]; exact ⟨{ c with token := 0 }, (-1), badFormat, rfl, hb, by rw [HV.out]; exact ⟨rfl, by decide⟩⟩
    have HRES := Lib.hid hres
    have HBEL := Lib.hid hbel
    have HFIN := Lib.hid hfin
    clear hres hbel hfin
    go_enter Tryz.func62, Tryz.ntmps62
    go_upto_region 1 with fail
    rw [← HW.out]
    go_wp2_with (go_at_call 103; refine HN2.out.mono ?_; rintro e w' ⟨rfl, rfl⟩; unfold numR)
    exact bodyPost_ret (word_results HRES.out _ rfl rfl rfl) rfl (HFIN.out _ HBEL.out)

set_option maxHeartbeats 2000000 in
set_option maxRecDepth 100000 in
theorem refWord_D {w : World} {c : CmdV} {K M : Option Addr} {kn kc mn mc : Nat} {wd : Bs} (hl : wd.length ≤ 4611686018427387904) :
    Calls Tryz.prog 62 #[.agg (cmdArr c (.slice K kn kc) nilRow (.slice M mn mc)), .int .u8 68, str wd] w (RwPost w c (.slice K kn kc) (.slice M mn mc) 68 wd) := by
  generalize hR : RwPost w c (.slice K kn kc) (.slice M mn mc) 68 wd = R
  have hW0 := WordBoxes.new w c (.slice K kn kc) (.slice M mn mc)
  obtain ⟨W, hW⟩ : ∃ W, W = (w.alloc (.cells (cmdArr c (.slice K kn kc) nilRow (.slice M mn mc)) 38)).alloc (.cells #[.int .i64 0, .slice none 0 0, .int .u64 0, .int .i64 0, .int .u64 0, .int .u64 0, .slice none 0 0, .bool false, .bool false, .slice none 0 0, .string ⟨#[]⟩] 38) := ⟨_, rfl⟩
  replace hW0 : WordBoxes w c {} (.slice K kn kc) (.slice M mn mc) W := by rw [hW]; exact hW0
  have z0 : W.cell? ⟨w.heap.size, 0, none⟩ = some (.int .i64 c.verb) := hW0.box.cell 0
  have z1 : W.cell? ⟨w.heap.size, 1, none⟩ = some (.slice K kn kc) := hW0.box.cell 1
  have z2 : W.cell? ⟨w.heap.size, 2, none⟩ = some (.int .u64 c.flags) := hW0.box.cell 2
  have z3 : W.cell? ⟨w.heap.size, 3, none⟩ = some (.int .i64 c.exptime) := hW0.box.cell 3
  have z4 : W.cell? ⟨w.heap.size, 4, none⟩ = some (.int .u64 c.token) := hW0.box.cell 4
  have z5 : W.cell? ⟨w.heap.size, 5, none⟩ = some (.int .u64 c.delta) := hW0.box.cell 5
  have z6 : W.cell? ⟨w.heap.size, 6, none⟩ = some nilRow := hW0.box.cell 6
  have z7 : W.cell? ⟨w.heap.size, 7, none⟩ = some (.bool c.noreply) := hW0.box.cell 7
  have z8 : W.cell? ⟨w.heap.size, 8, none⟩ = some (.bool c.large) := hW0.box.cell 8
  have z9 : W.cell? ⟨w.heap.size, 9, none⟩ = some (.slice M mn mc) := hW0.box.cell 9
  have z10 : W.cell? ⟨w.heap.size, 10, none⟩ = some (str c.what) := hW0.box.cell 10
  have f2 := hW0.box.frozen 2
  have f3 := hW0.box.frozen 3
  have f4 := hW0.box.frozen 4
  have f5 := hW0.box.frozen 5
  have f10 := hW0.box.frozen 10
  have c6 : canPut W (w.heap.size + 1) 0 11 = true := hW0.res.can 0 11 (by decide)
  have hnu := fun W : World => refNumber_any wd 18446744073709551615 W hl (by omega)
  have HW := Lib.hid hW
  have HW0 := Lib.hid hW0
  have HR := Lib.hid hR
  have HNU := Lib.hid hnu
  clear hW hW0 hR hnu
  cases hn : number wd 18446744073709551615 with
  | some n =>
    have hv : wordAt c (-1) 68 wd = .ok ({ c with delta := n }, -1) := by simp [wordAt, hn]
    have hle := number_le hn
    have hnu2 := HNU.out W
    rw [hn] at hnu2
    have HN2 := Lib.hid hnu2
    have HV := Lib.hid hv
    clear hnu2 hn hv
    have hres := (HW0.out.res.far (p := ⟨w.heap.size, 5, none⟩) (by show w.heap.size + 1 ≠ w.heap.size; omega) (.int .u64 n)).putCmd ({ c with delta := n }) (.slice K kn kc) nilRow (.slice M mn mc)
    have hbel := Below.setCells (Nat.le_succ w.heap.size) (cmdList ({ c with delta := n }) (.slice K kn kc) nilRow (.slice M mn mc)) 0 (HW0.out.below.setCell (p := ⟨w.heap.size, 5, none⟩) (Nat.le_refl _) (.int .u64 n))
    have hfin : ∀ W', Below w.heap.size w W' → R (.returned (.tuple #[.agg (cmdArr ({ c with delta := n }) (.slice K kn kc) nilRow (.slice M mn mc)), .int .i64 (-1), str []])) W' := fun W' hb => by rw [← HR.out]; exact ⟨{ c with delta := n }, (-1), [], rfl, hb, by rw [HV.out]; exact ⟨rfl, rfl, rfl⟩⟩
    have HRES := Lib.hid hres
    have HBEL := Lib.hid hbel
    have HFIN := Lib.hid hfin
    clear hres hbel hfin
    go_enter Tryz.func62, Tryz.ntmps62
    go_upto_region 1 with fail
    rw [← HW.out]
    go_wp2_with (go_at_call 103; refine HN2.out.mono ?_; rintro e w' ⟨rfl, rfl⟩; unfold numR)
    exact bodyPost_ret (word_results HRES.out _ rfl rfl rfl) rfl (HFIN.out _ HBEL.out)
  | none =>
    have hv : wordAt c (-1) 68 wd = .error badDelta := by simp [wordAt, hn]
    have hnu2 := HNU.out W
    rw [hn] at hnu2
    have HN2 := Lib.hid hnu2
    have HV := Lib.hid hv
    clear hnu2 hn hv
    have hres := (HW0.out.res.far (p := ⟨w.heap.size, 5, none⟩) (by show w.heap.size + 1 ≠ w.heap.size; omega) (.int .u64 0)).putCmd ({ c with delta := 0 }) (.slice K kn kc) nilRow (.slice M mn mc)
    have hbel := Below.setCells (Nat.le_succ w.heap.size) (cmdList ({ c with delta := 0 }) (.slice K kn kc) nilRow (.slice M mn mc)) 0 (HW0.out.below.setCell (p := ⟨w.heap.size, 5, none⟩) (Nat.le_refl _) (.int .u64 0))
    have hfin : ∀ W', Below w.heap.size w W' → R (.returned (.tuple #[.agg (cmdArr ({ c with delta := 0 }) (.slice K kn kc) nilRow (.slice M mn mc)), .int .i64 (-1), str badDelta])) W' := fun W' hb => by rw [← HR.out]; exact ⟨{ c with delta := 0 }, (-1), badDelta, rfl, hb, by rw [HV.out]; exact ⟨rfl, by decide⟩⟩
    have HRES := Lib.hid hres
    have HBEL := Lib.hid hbel
    have HFIN := Lib.hid hfin
    clear hres hbel hfin
    go_enter Tryz.func62, Tryz.ntmps62
    go_upto_region 1 with fail
    rw [← HW.out]
    go_wp2_with (go_at_call 103; refine HN2.out.mono ?_; rintro e w' ⟨rfl, rfl⟩; unfold numR)
    exact bodyPost_ret (word_results HRES.out _ rfl rfl rfl) rfl (HFIN.out _ HBEL.out)

set_option maxHeartbeats 2000000 in
set_option maxRecDepth 100000 in
theorem refWord_N {w : World} {c : CmdV} {K M : Option Addr} {kn kc mn mc : Nat} {wd : Bs} (hl : wd.length ≤ 4611686018427387904) :
    Calls Tryz.prog 62 #[.agg (cmdArr c (.slice K kn kc) nilRow (.slice M mn mc)), .int .u8 78, str wd] w (RwPost w c (.slice K kn kc) (.slice M mn mc) 78 wd) := by
  generalize hR : RwPost w c (.slice K kn kc) (.slice M mn mc) 78 wd = R
  have hW0 := WordBoxes.new w c (.slice K kn kc) (.slice M mn mc)
  obtain ⟨W, hW⟩ : ∃ W, W = (w.alloc (.cells (cmdArr c (.slice K kn kc) nilRow (.slice M mn mc)) 38)).alloc (.cells #[.int .i64 0, .slice none 0 0, .int .u64 0, .int .i64 0, .int .u64 0, .int .u64 0, .slice none 0 0, .bool false, .bool false, .slice none 0 0, .string ⟨#[]⟩] 38) := ⟨_, rfl⟩
  replace hW0 : WordBoxes w c {} (.slice K kn kc) (.slice M mn mc) W := by rw [hW]; exact hW0
  have z0 : W.cell? ⟨w.heap.size, 0, none⟩ = some (.int .i64 c.verb) := hW0.box.cell 0
  have z1 : W.cell? ⟨w.heap.size, 1, none⟩ = some (.slice K kn kc) := hW0.box.cell 1
  have z2 : W.cell? ⟨w.heap.size, 2, none⟩ = some (.int .u64 c.flags) := hW0.box.cell 2
  have z3 : W.cell? ⟨w.heap.size, 3, none⟩ = some (.int .i64 c.exptime) := hW0.box.cell 3
  have z4 : W.cell? ⟨w.heap.size, 4, none⟩ = some (.int .u64 c.token) := hW0.box.cell 4
  have z5 : W.cell? ⟨w.heap.size, 5, none⟩ = some (.int .u64 c.delta) := hW0.box.cell 5
  have z6 : W.cell? ⟨w.heap.size, 6, none⟩ = some nilRow := hW0.box.cell 6
  have z7 : W.cell? ⟨w.heap.size, 7, none⟩ = some (.bool c.noreply) := hW0.box.cell 7
  have z8 : W.cell? ⟨w.heap.size, 8, none⟩ = some (.bool c.large) := hW0.box.cell 8
  have z9 : W.cell? ⟨w.heap.size, 9, none⟩ = some (.slice M mn mc) := hW0.box.cell 9
  have z10 : W.cell? ⟨w.heap.size, 10, none⟩ = some (str c.what) := hW0.box.cell 10
  have f2 := hW0.box.frozen 2
  have f3 := hW0.box.frozen 3
  have f4 := hW0.box.frozen 4
  have f5 := hW0.box.frozen 5
  have f10 := hW0.box.frozen 10
  have c6 : canPut W (w.heap.size + 1) 0 11 = true := hW0.res.can 0 11 (by decide)
  have hnu := fun W : World => refNumber_any wd 2147483647 W hl (by omega)
  have HW := Lib.hid hW
  have HW0 := Lib.hid hW0
  have HR := Lib.hid hR
  have HNU := Lib.hid hnu
  clear hW hW0 hR hnu
  cases hn : number wd 2147483647 with
  | some n =>
    have hv : wordAt c (-1) 78 wd = .ok (c, (n : Int)) := by simp [wordAt, hn]
    have hle := number_le hn
    have hwp : IntKind.i64.wrap (n : Int) = (n : Int) := by rw [IntKind.wrap_i64]; omega
    have hnu2 := HNU.out W
    rw [hn] at hnu2
    have HN2 := Lib.hid hnu2
    have HV := Lib.hid hv
    clear hnu2 hn hv
    have hres := HW0.out.res.putCmd (c) (.slice K kn kc) nilRow (.slice M mn mc)
    have hbel := Below.setCells (Nat.le_succ w.heap.size) (cmdList (c) (.slice K kn kc) nilRow (.slice M mn mc)) 0 HW0.out.below
    have hfin : ∀ W', Below w.heap.size w W' → R (.returned (.tuple #[.agg (cmdArr (c) (.slice K kn kc) nilRow (.slice M mn mc)), .int .i64 n, str []])) W' := fun W' hb => by rw [← HR.out]; exact ⟨c, n, [], rfl, hb, by rw [HV.out]; exact ⟨rfl, rfl, rfl⟩⟩
    have HRES := Lib.hid hres
    have HBEL := Lib.hid hbel
    have HFIN := Lib.hid hfin
    clear hres hbel hfin
    go_enter Tryz.func62, Tryz.ntmps62
    go_upto_region 1 with fail
    rw [← HW.out]
    go_wp2_with (go_at_call 103; refine HN2.out.mono ?_; rintro e w' ⟨rfl, rfl⟩; unfold numR)
    exact bodyPost_ret (word_results HRES.out _ rfl rfl rfl) rfl (HFIN.out _ HBEL.out)
  | none =>
    have hv : wordAt c (-1) 78 wd = .error badFormat := by simp [wordAt, hn]
    have hnu2 := HNU.out W
    rw [hn] at hnu2
    have HN2 := Lib.hid hnu2
    have HV := Lib.hid hv
    clear hnu2 hn hv
    have hres := HW0.out.res.putCmd (c) (.slice K kn kc) nilRow (.slice M mn mc)
    have hbel := Below.setCells (Nat.le_succ w.heap.size) (cmdList (c) (.slice K kn kc) nilRow (.slice M mn mc)) 0 HW0.out.below
    have hfin : ∀ W', Below w.heap.size w W' → R (.returned (.tuple #[.agg (cmdArr (c) (.slice K kn kc) nilRow (.slice M mn mc)), .int .i64 0, str badFormat])) W' := fun W' hb => by rw [← HR.out]; exact ⟨c, 0, badFormat, rfl, hb, by rw [HV.out]; exact ⟨rfl, by decide⟩⟩
    have HRES := Lib.hid hres
    have HBEL := Lib.hid hbel
    have HFIN := Lib.hid hfin
    clear hres hbel hfin
    go_enter Tryz.func62, Tryz.ntmps62
    go_upto_region 1 with fail
    rw [← HW.out]
    go_wp2_with (go_at_call 103; refine HN2.out.mono ?_; rintro e w' ⟨rfl, rfl⟩; unfold numR)
    exact bodyPost_ret (word_results HRES.out _ rfl rfl rfl) rfl (HFIN.out _ HBEL.out)

set_option maxHeartbeats 2000000 in
set_option maxRecDepth 100000 in
theorem refWord_V {w : World} {c : CmdV} {K M : Option Addr} {kn kc mn mc : Nat} {wd : Bs} (hl : wd.length ≤ 4611686018427387904) :
    Calls Tryz.prog 62 #[.agg (cmdArr c (.slice K kn kc) nilRow (.slice M mn mc)), .int .u8 86, str wd] w (RwPost w c (.slice K kn kc) (.slice M mn mc) 86 wd) := by
  generalize hR : RwPost w c (.slice K kn kc) (.slice M mn mc) 86 wd = R
  have hW0 := WordBoxes.new w c (.slice K kn kc) (.slice M mn mc)
  obtain ⟨W, hW⟩ : ∃ W, W = (w.alloc (.cells (cmdArr c (.slice K kn kc) nilRow (.slice M mn mc)) 38)).alloc (.cells #[.int .i64 0, .slice none 0 0, .int .u64 0, .int .i64 0, .int .u64 0, .int .u64 0, .slice none 0 0, .bool false, .bool false, .slice none 0 0, .string ⟨#[]⟩] 38) := ⟨_, rfl⟩
  replace hW0 : WordBoxes w c {} (.slice K kn kc) (.slice M mn mc) W := by rw [hW]; exact hW0
  have z0 : W.cell? ⟨w.heap.size, 0, none⟩ = some (.int .i64 c.verb) := hW0.box.cell 0
  have z1 : W.cell? ⟨w.heap.size, 1, none⟩ = some (.slice K kn kc) := hW0.box.cell 1
  have z2 : W.cell? ⟨w.heap.size, 2, none⟩ = some (.int .u64 c.flags) := hW0.box.cell 2
  have z3 : W.cell? ⟨w.heap.size, 3, none⟩ = some (.int .i64 c.exptime) := hW0.box.cell 3
  have z4 : W.cell? ⟨w.heap.size, 4, none⟩ = some (.int .u64 c.token) := hW0.box.cell 4
  have z5 : W.cell? ⟨w.heap.size, 5, none⟩ = some (.int .u64 c.delta) := hW0.box.cell 5
  have z6 : W.cell? ⟨w.heap.size, 6, none⟩ = some nilRow := hW0.box.cell 6
  have z7 : W.cell? ⟨w.heap.size, 7, none⟩ = some (.bool c.noreply) := hW0.box.cell 7
  have z8 : W.cell? ⟨w.heap.size, 8, none⟩ = some (.bool c.large) := hW0.box.cell 8
  have z9 : W.cell? ⟨w.heap.size, 9, none⟩ = some (.slice M mn mc) := hW0.box.cell 9
  have z10 : W.cell? ⟨w.heap.size, 10, none⟩ = some (str c.what) := hW0.box.cell 10
  have f2 := hW0.box.frozen 2
  have f3 := hW0.box.frozen 3
  have f4 := hW0.box.frozen 4
  have f5 := hW0.box.frozen 5
  have f10 := hW0.box.frozen 10
  have c6 : canPut W (w.heap.size + 1) 0 11 = true := hW0.res.can 0 11 (by decide)
  have hnu := fun W : World => refNumber_any wd 2147483647 W hl (by omega)
  have HW := Lib.hid hW
  have HW0 := Lib.hid hW0
  have HR := Lib.hid hR
  have HNU := Lib.hid hnu
  clear hW hW0 hR hnu
  cases hn : number wd 2147483647 with
  | some n =>
    have hv : wordAt c (-1) 86 wd = .ok (c, -1) := by simp [wordAt, hn]
    have hle := number_le hn
    have hnu2 := HNU.out W
    rw [hn] at hnu2
    have HN2 := Lib.hid hnu2
    have HV := Lib.hid hv
    clear hnu2 hn hv
    have hres := HW0.out.res.putCmd (c) (.slice K kn kc) nilRow (.slice M mn mc)
    have hbel := Below.setCells (Nat.le_succ w.heap.size) (cmdList (c) (.slice K kn kc) nilRow (.slice M mn mc)) 0 HW0.out.below
    have hfin : ∀ W', Below w.heap.size w W' → R (.returned (.tuple #[.agg (cmdArr (c) (.slice K kn kc) nilRow (.slice M mn mc)), .int .i64 (-1), str []])) W' := fun W' hb => by rw [← HR.out]; exact ⟨c, (-1), [], rfl, hb, by rw [HV.out]; exact ⟨rfl, rfl, rfl⟩⟩
    have HRES := Lib.hid hres
    have HBEL := Lib.hid hbel
    have HFIN := Lib.hid hfin
    clear hres hbel hfin
    go_enter Tryz.func62, Tryz.ntmps62
    go_upto_region 1 with fail
    rw [← HW.out]
    go_wp2_with (go_at_call 103; refine HN2.out.mono ?_; rintro e w' ⟨rfl, rfl⟩; unfold numR)
    exact bodyPost_ret (word_results HRES.out _ rfl rfl rfl) rfl (HFIN.out _ HBEL.out)
  | none =>
    have hv : wordAt c (-1) 86 wd = .error badFormat := by simp [wordAt, hn]
    have hnu2 := HNU.out W
    rw [hn] at hnu2
    have HN2 := Lib.hid hnu2
    have HV := Lib.hid hv
    clear hnu2 hn hv
    have hres := HW0.out.res.putCmd (c) (.slice K kn kc) nilRow (.slice M mn mc)
    have hbel := Below.setCells (Nat.le_succ w.heap.size) (cmdList (c) (.slice K kn kc) nilRow (.slice M mn mc)) 0 HW0.out.below
    have hfin : ∀ W', Below w.heap.size w W' → R (.returned (.tuple #[.agg (cmdArr (c) (.slice K kn kc) nilRow (.slice M mn mc)), .int .i64 (-1), str badFormat])) W' := fun W' hb => by rw [← HR.out]; exact ⟨c, (-1), badFormat, rfl, hb, by rw [HV.out]; exact ⟨rfl, by decide⟩⟩
    have HRES := Lib.hid hres
    have HBEL := Lib.hid hbel
    have HFIN := Lib.hid hfin
    clear hres hbel hfin
    go_enter Tryz.func62, Tryz.ntmps62
    go_upto_region 1 with fail
    rw [← HW.out]
    go_wp2_with (go_at_call 103; refine HN2.out.mono ?_; rintro e w' ⟨rfl, rfl⟩; unfold numR)
    exact bodyPost_ret (word_results HRES.out _ rfl rfl rfl) rfl (HFIN.out _ HBEL.out)

set_option maxHeartbeats 2000000 in
set_option maxRecDepth 100000 in
theorem refWord_T {w : World} {c : CmdV} {K M : Option Addr} {kn kc mn mc : Nat} {wd : Bs} (hl : wd.length ≤ 4611686018427387904) :
    Calls Tryz.prog 62 #[.agg (cmdArr c (.slice K kn kc) nilRow (.slice M mn mc)), .int .u8 84, str wd] w (RwPost w c (.slice K kn kc) (.slice M mn mc) 84 wd) := by
  generalize hR : RwPost w c (.slice K kn kc) (.slice M mn mc) 84 wd = R
  have hW0 := WordBoxes.new w c (.slice K kn kc) (.slice M mn mc)
  obtain ⟨W, hW⟩ : ∃ W, W = (w.alloc (.cells (cmdArr c (.slice K kn kc) nilRow (.slice M mn mc)) 38)).alloc (.cells #[.int .i64 0, .slice none 0 0, .int .u64 0, .int .i64 0, .int .u64 0, .int .u64 0, .slice none 0 0, .bool false, .bool false, .slice none 0 0, .string ⟨#[]⟩] 38) := ⟨_, rfl⟩
  replace hW0 : WordBoxes w c {} (.slice K kn kc) (.slice M mn mc) W := by rw [hW]; exact hW0
  have z0 : W.cell? ⟨w.heap.size, 0, none⟩ = some (.int .i64 c.verb) := hW0.box.cell 0
  have z1 : W.cell? ⟨w.heap.size, 1, none⟩ = some (.slice K kn kc) := hW0.box.cell 1
  have z2 : W.cell? ⟨w.heap.size, 2, none⟩ = some (.int .u64 c.flags) := hW0.box.cell 2
  have z3 : W.cell? ⟨w.heap.size, 3, none⟩ = some (.int .i64 c.exptime) := hW0.box.cell 3
  have z4 : W.cell? ⟨w.heap.size, 4, none⟩ = some (.int .u64 c.token) := hW0.box.cell 4
  have z5 : W.cell? ⟨w.heap.size, 5, none⟩ = some (.int .u64 c.delta) := hW0.box.cell 5
  have z6 : W.cell? ⟨w.heap.size, 6, none⟩ = some nilRow := hW0.box.cell 6
  have z7 : W.cell? ⟨w.heap.size, 7, none⟩ = some (.bool c.noreply) := hW0.box.cell 7
  have z8 : W.cell? ⟨w.heap.size, 8, none⟩ = some (.bool c.large) := hW0.box.cell 8
  have z9 : W.cell? ⟨w.heap.size, 9, none⟩ = some (.slice M mn mc) := hW0.box.cell 9
  have z10 : W.cell? ⟨w.heap.size, 10, none⟩ = some (str c.what) := hW0.box.cell 10
  have f2 := hW0.box.frozen 2
  have f3 := hW0.box.frozen 3
  have f4 := hW0.box.frozen 4
  have f5 := hW0.box.frozen 5
  have f10 := hW0.box.frozen 10
  have c6 : canPut W (w.heap.size + 1) 0 11 = true := hW0.res.can 0 11 (by decide)
  have hnu := fun W : World => refTimeOf_any wd W hl
  have HW := Lib.hid hW
  have HW0 := Lib.hid hW0
  have HR := Lib.hid hR
  have HNU := Lib.hid hnu
  clear hW hW0 hR hnu
  cases hn : timeOf wd with
  | some n =>
    have hv : wordAt c (-1) 84 wd = .ok ({ c with exptime := n }, -1) := by simp [wordAt, hn]
    have hnu2 := HNU.out W
    rw [hn] at hnu2
    have HN2 := Lib.hid hnu2
    have HV := Lib.hid hv
    clear hnu2 hn hv
    have hres := (HW0.out.res.far (p := ⟨w.heap.size, 3, none⟩) (by show w.heap.size + 1 ≠ w.heap.size; omega) (.int .i64 n)).putCmd ({ c with exptime := n }) (.slice K kn kc) nilRow (.slice M mn mc)
    have hbel := Below.setCells (Nat.le_succ w.heap.size) (cmdList ({ c with exptime := n }) (.slice K kn kc) nilRow (.slice M mn mc)) 0 (HW0.out.below.setCell (p := ⟨w.heap.size, 3, none⟩) (Nat.le_refl _) (.int .i64 n))
    have hfin : ∀ W', Below w.heap.size w W' → R (.returned (.tuple #[.agg (cmdArr ({ c with exptime := n }) (.slice K kn kc) nilRow (.slice M mn mc)), .int .i64 (-1), str []])) W' := fun W' hb => by rw [← HR.out]; exact ⟨{ c with exptime := n }, (-1), [], rfl, hb, by rw [HV.out]; exact ⟨rfl, rfl, rfl⟩⟩
    have HRES := Lib.hid hres
    have HBEL := Lib.hid hbel
    have HFIN := Lib.hid hfin
    clear hres hbel hfin
    go_enter Tryz.func62, Tryz.ntmps62
    go_upto_region 1 with fail
    rw [← HW.out]
    go_wp2_with (go_at_call 104; refine HN2.out.mono ?_; rintro e w' ⟨rfl, rfl⟩; unfold timeR)
    exact bodyPost_ret (word_results HRES.out _ rfl rfl rfl) rfl (HFIN.out _ HBEL.out)
  | none =>
    have hv : wordAt c (-1) 84 wd = .error badTime := by simp [wordAt, hn]
    have hnu2 := HNU.out W
    rw [hn] at hnu2
    have HN2 := Lib.hid hnu2
    have HV := Lib.hid hv
    clear hnu2 hn hv
    have hres := (HW0.out.res.far (p := ⟨w.heap.size, 3, none⟩) (by show w.heap.size + 1 ≠ w.heap.size; omega) (.int .i64 0)).putCmd ({ c with exptime := 0 }) (.slice K kn kc) nilRow (.slice M mn mc)
    have hbel := Below.setCells (Nat.le_succ w.heap.size) (cmdList ({ c with exptime := 0 }) (.slice K kn kc) nilRow (.slice M mn mc)) 0 (HW0.out.below.setCell (p := ⟨w.heap.size, 3, none⟩) (Nat.le_refl _) (.int .i64 0))
    have hfin : ∀ W', Below w.heap.size w W' → R (.returned (.tuple #[.agg (cmdArr ({ c with exptime := 0 }) (.slice K kn kc) nilRow (.slice M mn mc)), .int .i64 (-1), str badTime])) W' := fun W' hb => by rw [← HR.out]; exact ⟨{ c with exptime := 0 }, (-1), badTime, rfl, hb, by rw [HV.out]; exact ⟨rfl, by decide⟩⟩
    have HRES := Lib.hid hres
    have HBEL := Lib.hid hbel
    have HFIN := Lib.hid hfin
    clear hres hbel hfin
    go_enter Tryz.func62, Tryz.ntmps62
    go_upto_region 1 with fail
    rw [← HW.out]
    go_wp2_with (go_at_call 104; refine HN2.out.mono ?_; rintro e w' ⟨rfl, rfl⟩; unfold timeR)
    exact bodyPost_ret (word_results HRES.out _ rfl rfl rfl) rfl (HFIN.out _ HBEL.out)

set_option maxHeartbeats 2000000 in
set_option maxRecDepth 100000 in
theorem refWord_S {w : World} {c : CmdV} {K M : Option Addr} {kn kc mn mc : Nat} {wd : Bs} (hl : wd.length ≤ 4611686018427387904) :
    Calls Tryz.prog 62 #[.agg (cmdArr c (.slice K kn kc) nilRow (.slice M mn mc)), .int .u8 83, str wd] w (RwPost w c (.slice K kn kc) (.slice M mn mc) 83 wd) := by
  generalize hR : RwPost w c (.slice K kn kc) (.slice M mn mc) 83 wd = R
  have hW0 := WordBoxes.new w c (.slice K kn kc) (.slice M mn mc)
  obtain ⟨W, hW⟩ : ∃ W, W = (w.alloc (.cells (cmdArr c (.slice K kn kc) nilRow (.slice M mn mc)) 38)).alloc (.cells #[.int .i64 0, .slice none 0 0, .int .u64 0, .int .i64 0, .int .u64 0, .int .u64 0, .slice none 0 0, .bool false, .bool false, .slice none 0 0, .string ⟨#[]⟩] 38) := ⟨_, rfl⟩
  replace hW0 : WordBoxes w c {} (.slice K kn kc) (.slice M mn mc) W := by rw [hW]; exact hW0
  have z0 : W.cell? ⟨w.heap.size, 0, none⟩ = some (.int .i64 c.verb) := hW0.box.cell 0
  have z1 : W.cell? ⟨w.heap.size, 1, none⟩ = some (.slice K kn kc) := hW0.box.cell 1
  have z2 : W.cell? ⟨w.heap.size, 2, none⟩ = some (.int .u64 c.flags) := hW0.box.cell 2
  have z3 : W.cell? ⟨w.heap.size, 3, none⟩ = some (.int .i64 c.exptime) := hW0.box.cell 3
  have z4 : W.cell? ⟨w.heap.size, 4, none⟩ = some (.int .u64 c.token) := hW0.box.cell 4
  have z5 : W.cell? ⟨w.heap.size, 5, none⟩ = some (.int .u64 c.delta) := hW0.box.cell 5
  have z6 : W.cell? ⟨w.heap.size, 6, none⟩ = some nilRow := hW0.box.cell 6
  have z7 : W.cell? ⟨w.heap.size, 7, none⟩ = some (.bool c.noreply) := hW0.box.cell 7
  have z8 : W.cell? ⟨w.heap.size, 8, none⟩ = some (.bool c.large) := hW0.box.cell 8
  have z9 : W.cell? ⟨w.heap.size, 9, none⟩ = some (.slice M mn mc) := hW0.box.cell 9
  have z10 : W.cell? ⟨w.heap.size, 10, none⟩ = some (str c.what) := hW0.box.cell 10
  have f2 := hW0.box.frozen 2
  have f3 := hW0.box.frozen 3
  have f4 := hW0.box.frozen 4
  have f5 := hW0.box.frozen 5
  have f10 := hW0.box.frozen 10
  have c6 : canPut W (w.heap.size + 1) 0 11 = true := hW0.res.can 0 11 (by decide)
  have hnu := fun W : World => refTimeOf_any wd W hl
  have HW := Lib.hid hW
  have HW0 := Lib.hid hW0
  have HR := Lib.hid hR
  have HNU := Lib.hid hnu
  clear hW hW0 hR hnu
  cases hn : timeOf wd with
  | some n =>
    by_cases hneg : n < 0
    · have hv : wordAt c (-1) 83 wd = .error badTime := by simp [wordAt, hn, hneg]
      have g1 : decide (0 ≤ n) = false := decide_eq_false (by omega)
      have hnu2 := HNU.out W
      rw [hn] at hnu2
      have HN2 := Lib.hid hnu2
      have HV := Lib.hid hv
      clear hnu2 hn hv hneg
      have hres := (HW0.out.res.far (p := ⟨w.heap.size, 3, none⟩) (by show w.heap.size + 1 ≠ w.heap.size; omega) (.int .i64 n)).putCmd ({ c with exptime := n }) (.slice K kn kc) nilRow (.slice M mn mc)
      have hbel := Below.setCells (Nat.le_succ w.heap.size) (cmdList ({ c with exptime := n }) (.slice K kn kc) nilRow (.slice M mn mc)) 0 (HW0.out.below.setCell (p := ⟨w.heap.size, 3, none⟩) (Nat.le_refl _) (.int .i64 n))
      have hfin : ∀ W', Below w.heap.size w W' → R (.returned (.tuple #[.agg (cmdArr ({ c with exptime := n }) (.slice K kn kc) nilRow (.slice M mn mc)), .int .i64 (-1), str badTime])) W' := fun W' hb => by rw [← HR.out]; exact ⟨{ c with exptime := n }, (-1), badTime, rfl, hb, by rw [HV.out]; exact ⟨rfl, by decide⟩⟩
      have HRES := Lib.hid hres
      have HBEL := Lib.hid hbel
      have HFIN := Lib.hid hfin
      clear hres hbel hfin
      go_enter Tryz.func62, Tryz.ntmps62
      go_upto_region 1 with fail
      rw [← HW.out]
      go_wp2_with (go_at_call 104; refine HN2.out.mono ?_; rintro e w' ⟨rfl, rfl⟩; unfold timeR)
      exact bodyPost_ret (word_results HRES.out _ rfl rfl rfl) rfl (HFIN.out _ HBEL.out)
    · have hv : wordAt c (-1) 83 wd = .ok ({ c with exptime := n }, -1) := by simp [wordAt, hn, hneg]
      have g1 : decide (0 ≤ n) = true := decide_eq_true (by omega)
      have hnu2 := HNU.out W
      rw [hn] at hnu2
      have HN2 := Lib.hid hnu2
      have HV := Lib.hid hv
      clear hnu2 hn hv hneg
      have hres := (HW0.out.res.far (p := ⟨w.heap.size, 3, none⟩) (by show w.heap.size + 1 ≠ w.heap.size; omega) (.int .i64 n)).putCmd ({ c with exptime := n }) (.slice K kn kc) nilRow (.slice M mn mc)
      have hbel := Below.setCells (Nat.le_succ w.heap.size) (cmdList ({ c with exptime := n }) (.slice K kn kc) nilRow (.slice M mn mc)) 0 (HW0.out.below.setCell (p := ⟨w.heap.size, 3, none⟩) (Nat.le_refl _) (.int .i64 n))
      have hfin : ∀ W', Below w.heap.size w W' → R (.returned (.tuple #[.agg (cmdArr ({ c with exptime := n }) (.slice K kn kc) nilRow (.slice M mn mc)), .int .i64 (-1), str []])) W' := fun W' hb => by rw [← HR.out]; exact ⟨{ c with exptime := n }, (-1), [], rfl, hb, by rw [HV.out]; exact ⟨rfl, rfl, rfl⟩⟩
      have HRES := Lib.hid hres
      have HBEL := Lib.hid hbel
      have HFIN := Lib.hid hfin
      clear hres hbel hfin
      go_enter Tryz.func62, Tryz.ntmps62
      go_upto_region 1 with fail
      rw [← HW.out]
      go_wp2_with (go_at_call 104; refine HN2.out.mono ?_; rintro e w' ⟨rfl, rfl⟩; unfold timeR)
      exact bodyPost_ret (word_results HRES.out _ rfl rfl rfl) rfl (HFIN.out _ HBEL.out)
  | none =>
    have hv : wordAt c (-1) 83 wd = .error badTime := by simp [wordAt, hn]
    have hnu2 := HNU.out W
    rw [hn] at hnu2
    have HN2 := Lib.hid hnu2
    have HV := Lib.hid hv
    clear hnu2 hn hv
    have hres := (HW0.out.res.far (p := ⟨w.heap.size, 3, none⟩) (by show w.heap.size + 1 ≠ w.heap.size; omega) (.int .i64 0)).putCmd ({ c with exptime := 0 }) (.slice K kn kc) nilRow (.slice M mn mc)
    have hbel := Below.setCells (Nat.le_succ w.heap.size) (cmdList ({ c with exptime := 0 }) (.slice K kn kc) nilRow (.slice M mn mc)) 0 (HW0.out.below.setCell (p := ⟨w.heap.size, 3, none⟩) (Nat.le_refl _) (.int .i64 0))
    have hfin : ∀ W', Below w.heap.size w W' → R (.returned (.tuple #[.agg (cmdArr ({ c with exptime := 0 }) (.slice K kn kc) nilRow (.slice M mn mc)), .int .i64 (-1), str badTime])) W' := fun W' hb => by rw [← HR.out]; exact ⟨{ c with exptime := 0 }, (-1), badTime, rfl, hb, by rw [HV.out]; exact ⟨rfl, by decide⟩⟩
    have HRES := Lib.hid hres
    have HBEL := Lib.hid hbel
    have HFIN := Lib.hid hfin
    clear hres hbel hfin
    go_enter Tryz.func62, Tryz.ntmps62
    go_upto_region 1 with fail
    rw [← HW.out]
    go_wp2_with (go_at_call 104; refine HN2.out.mono ?_; rintro e w' ⟨rfl, rfl⟩; unfold timeR)
    exact bodyPost_ret (word_results HRES.out _ rfl rfl rfl) rfl (HFIN.out _ HBEL.out)

set_option maxHeartbeats 2000000 in
set_option maxRecDepth 100000 in
theorem refWord_Z {w : World} {c : CmdV} {K M : Option Addr} {kn kc mn mc : Nat} {wd : Bs} (_hl : wd.length ≤ 4611686018427387904) :
    Calls Tryz.prog 62 #[.agg (cmdArr c (.slice K kn kc) nilRow (.slice M mn mc)), .int .u8 90, str wd] w (RwPost w c (.slice K kn kc) (.slice M mn mc) 48 wd) := by
  generalize hR : RwPost w c (.slice K kn kc) (.slice M mn mc) 48 wd = R
  have hW0 := WordBoxes.new w c (.slice K kn kc) (.slice M mn mc)
  obtain ⟨W, hW⟩ : ∃ W, W = (w.alloc (.cells (cmdArr c (.slice K kn kc) nilRow (.slice M mn mc)) 38)).alloc (.cells #[.int .i64 0, .slice none 0 0, .int .u64 0, .int .i64 0, .int .u64 0, .int .u64 0, .slice none 0 0, .bool false, .bool false, .slice none 0 0, .string ⟨#[]⟩] 38) := ⟨_, rfl⟩
  replace hW0 : WordBoxes w c {} (.slice K kn kc) (.slice M mn mc) W := by rw [hW]; exact hW0
  have z0 : W.cell? ⟨w.heap.size, 0, none⟩ = some (.int .i64 c.verb) := hW0.box.cell 0
  have z1 : W.cell? ⟨w.heap.size, 1, none⟩ = some (.slice K kn kc) := hW0.box.cell 1
  have z2 : W.cell? ⟨w.heap.size, 2, none⟩ = some (.int .u64 c.flags) := hW0.box.cell 2
  have z3 : W.cell? ⟨w.heap.size, 3, none⟩ = some (.int .i64 c.exptime) := hW0.box.cell 3
  have z4 : W.cell? ⟨w.heap.size, 4, none⟩ = some (.int .u64 c.token) := hW0.box.cell 4
  have z5 : W.cell? ⟨w.heap.size, 5, none⟩ = some (.int .u64 c.delta) := hW0.box.cell 5
  have z6 : W.cell? ⟨w.heap.size, 6, none⟩ = some nilRow := hW0.box.cell 6
  have z7 : W.cell? ⟨w.heap.size, 7, none⟩ = some (.bool c.noreply) := hW0.box.cell 7
  have z8 : W.cell? ⟨w.heap.size, 8, none⟩ = some (.bool c.large) := hW0.box.cell 8
  have z9 : W.cell? ⟨w.heap.size, 9, none⟩ = some (.slice M mn mc) := hW0.box.cell 9
  have z10 : W.cell? ⟨w.heap.size, 10, none⟩ = some (str c.what) := hW0.box.cell 10
  have f2 := hW0.box.frozen 2
  have f3 := hW0.box.frozen 3
  have f4 := hW0.box.frozen 4
  have f5 := hW0.box.frozen 5
  have f10 := hW0.box.frozen 10
  have c6 : canPut W (w.heap.size + 1) 0 11 = true := hW0.res.can 0 11 (by decide)
  have HW := Lib.hid hW
  have HW0 := Lib.hid hW0
  have HR := Lib.hid hR
  clear hW hW0 hR
  by_cases he : wd = [48]
  · have hv : wordAt c (-1) 48 wd = .ok (c, -1) := by simp [wordAt, he]
    have g1 : (wd == ([48] : Bs)) = true := beq_iff_eq.2 he
    have HV := Lib.hid hv
    clear hv he
    have hres := HW0.out.res.putCmd (c) (.slice K kn kc) nilRow (.slice M mn mc)
    have hbel := Below.setCells (Nat.le_succ w.heap.size) (cmdList (c) (.slice K kn kc) nilRow (.slice M mn mc)) 0 HW0.out.below
    have hfin : ∀ W', Below w.heap.size w W' → R (.returned (.tuple #[.agg (cmdArr (c) (.slice K kn kc) nilRow (.slice M mn mc)), .int .i64 (-1), str []])) W' := fun W' hb => by rw [← HR.out]; exact ⟨c, (-1), [], rfl, hb, by rw [HV.out]; exact ⟨rfl, rfl, rfl⟩⟩
    have HRES := Lib.hid hres
    have HBEL := Lib.hid hbel
    have HFIN := Lib.hid hfin
    clear hres hbel hfin
    go_enter Tryz.func62, Tryz.ntmps62
    go_upto_region 1 with fail
    rw [← HW.out]
    go_wp2_with fail
    exact bodyPost_ret (word_results HRES.out _ rfl rfl rfl) rfl (HFIN.out _ HBEL.out)
  · have hv : wordAt c (-1) 48 wd = .error badFormat := by simp [wordAt, he]
    have g1 : (wd == ([48] : Bs)) = false := beq_eq_false_iff_ne.2 he
    have HV := Lib.hid hv
    clear hv he
    have hres := HW0.out.res.putCmd (c) (.slice K kn kc) nilRow (.slice M mn mc)
    have hbel := Below.setCells (Nat.le_succ w.heap.size) (cmdList (c) (.slice K kn kc) nilRow (.slice M mn mc)) 0 HW0.out.below
    have hfin : ∀ W', Below w.heap.size w W' → R (.returned (.tuple #[.agg (cmdArr (c) (.slice K kn kc) nilRow (.slice M mn mc)), .int .i64 (-1), str badFormat])) W' := fun W' hb => by rw [← HR.out]; exact ⟨c, (-1), badFormat, rfl, hb, by rw [HV.out]; exact ⟨rfl, by decide⟩⟩
    have HRES := Lib.hid hres
    have HBEL := Lib.hid hbel
    have HFIN := Lib.hid hfin
    clear hres hbel hfin
    go_enter Tryz.func62, Tryz.ntmps62
    go_upto_region 1 with fail
    rw [← HW.out]
    go_wp2_with fail
    exact bodyPost_ret (word_results HRES.out _ rfl rfl rfl) rfl (HFIN.out _ HBEL.out)

set_option maxHeartbeats 2000000 in
set_option maxRecDepth 100000 in
theorem refWord_W {w : World} {c : CmdV} {K M : Option Addr} {kn kc mn mc : Nat} {wd : Bs} (_hl : wd.length ≤ 4611686018427387904) :
    Calls Tryz.prog 62 #[.agg (cmdArr c (.slice K kn kc) nilRow (.slice M mn mc)), .int .u8 87, str wd] w (RwPost w c (.slice K kn kc) (.slice M mn mc) 87 wd) := by
  generalize hR : RwPost w c (.slice K kn kc) (.slice M mn mc) 87 wd = R
  have hW0 := WordBoxes.new w c (.slice K kn kc) (.slice M mn mc)
  obtain ⟨W, hW⟩ : ∃ W, W = (w.alloc (.cells (cmdArr c (.slice K kn kc) nilRow (.slice M mn mc)) 38)).alloc (.cells #[.int .i64 0, .slice none 0 0, .int .u64 0, .int .i64 0, .int .u64 0, .int .u64 0, .slice none 0 0, .bool false, .bool false, .slice none 0 0, .string ⟨#[]⟩] 38) := ⟨_, rfl⟩
  replace hW0 : WordBoxes w c {} (.slice K kn kc) (.slice M mn mc) W := by rw [hW]; exact hW0
  have z0 : W.cell? ⟨w.heap.size, 0, none⟩ = some (.int .i64 c.verb) := hW0.box.cell 0
  have z1 : W.cell? ⟨w.heap.size, 1, none⟩ = some (.slice K kn kc) := hW0.box.cell 1
  have z2 : W.cell? ⟨w.heap.size, 2, none⟩ = some (.int .u64 c.flags) := hW0.box.cell 2
  have z3 : W.cell? ⟨w.heap.size, 3, none⟩ = some (.int .i64 c.exptime) := hW0.box.cell 3
  have z4 : W.cell? ⟨w.heap.size, 4, none⟩ = some (.int .u64 c.token) := hW0.box.cell 4
  have z5 : W.cell? ⟨w.heap.size, 5, none⟩ = some (.int .u64 c.delta) := hW0.box.cell 5
  have z6 : W.cell? ⟨w.heap.size, 6, none⟩ = some nilRow := hW0.box.cell 6
  have z7 : W.cell? ⟨w.heap.size, 7, none⟩ = some (.bool c.noreply) := hW0.box.cell 7
  have z8 : W.cell? ⟨w.heap.size, 8, none⟩ = some (.bool c.large) := hW0.box.cell 8
  have z9 : W.cell? ⟨w.heap.size, 9, none⟩ = some (.slice M mn mc) := hW0.box.cell 9
  have z10 : W.cell? ⟨w.heap.size, 10, none⟩ = some (str c.what) := hW0.box.cell 10
  have f2 := hW0.box.frozen 2
  have f3 := hW0.box.frozen 3
  have f4 := hW0.box.frozen 4
  have f5 := hW0.box.frozen 5
  have f10 := hW0.box.frozen 10
  have c6 : canPut W (w.heap.size + 1) 0 11 = true := hW0.res.can 0 11 (by decide)
  have HW := Lib.hid hW
  have HW0 := Lib.hid hW0
  have HR := Lib.hid hR
  clear hW hW0 hR
  by_cases he : wd = slabsW
  · have hv : wordAt c (-1) 87 wd = .ok ({ c with what := wd }, -1) := by simp [wordAt, he]
    have g1 : (wd == ([115, 108, 97, 98, 115] : Bs)) = true := beq_iff_eq.2 he
    have HV := Lib.hid hv
    clear hv he
    have hres := (HW0.out.res.far (p := ⟨w.heap.size, 10, none⟩) (by show w.heap.size + 1 ≠ w.heap.size; omega) (str wd)).putCmd ({ c with what := wd }) (.slice K kn kc) nilRow (.slice M mn mc)
    have hbel := Below.setCells (Nat.le_succ w.heap.size) (cmdList ({ c with what := wd }) (.slice K kn kc) nilRow (.slice M mn mc)) 0 (HW0.out.below.setCell (p := ⟨w.heap.size, 10, none⟩) (Nat.le_refl _) (str wd))
    have hfin : ∀ W', Below w.heap.size w W' → R (.returned (.tuple #[.agg (cmdArr ({ c with what := wd }) (.slice K kn kc) nilRow (.slice M mn mc)), .int .i64 (-1), str []])) W' := fun W' hb => by rw [← HR.out]; exact ⟨{ c with what := wd }, (-1), [], rfl, hb, by rw [HV.out]; exact ⟨rfl, rfl, rfl⟩⟩
    have HRES := Lib.hid hres
    have HBEL := Lib.hid hbel
    have HFIN := Lib.hid hfin
    clear hres hbel hfin
    go_enter Tryz.func62, Tryz.ntmps62
    go_upto_region 1 with fail
    rw [← HW.out]
    go_wp2_with fail
    exact bodyPost_ret (word_results HRES.out _ rfl rfl rfl) rfl (HFIN.out _ HBEL.out)
  · have g1 : (wd == ([115, 108, 97, 98, 115] : Bs)) = false := beq_eq_false_iff_ne.2 he
    by_cases he2 : wd = resetW
    · have hv : wordAt c (-1) 87 wd = .ok ({ c with what := wd }, -1) := by simp [wordAt, he2]
      have g2 : (wd == ([114, 101, 115, 101, 116] : Bs)) = true := beq_iff_eq.2 he2
      have HV := Lib.hid hv
      clear hv he he2
      have hres := (HW0.out.res.far (p := ⟨w.heap.size, 10, none⟩) (by show w.heap.size + 1 ≠ w.heap.size; omega) (str wd)).putCmd ({ c with what := wd }) (.slice K kn kc) nilRow (.slice M mn mc)
      have hbel := Below.setCells (Nat.le_succ w.heap.size) (cmdList ({ c with what := wd }) (.slice K kn kc) nilRow (.slice M mn mc)) 0 (HW0.out.below.setCell (p := ⟨w.heap.size, 10, none⟩) (Nat.le_refl _) (str wd))
      have hfin : ∀ W', Below w.heap.size w W' → R (.returned (.tuple #[.agg (cmdArr ({ c with what := wd }) (.slice K kn kc) nilRow (.slice M mn mc)), .int .i64 (-1), str []])) W' := fun W' hb => by rw [← HR.out]; exact ⟨{ c with what := wd }, (-1), [], rfl, hb, by rw [HV.out]; exact ⟨rfl, rfl, rfl⟩⟩
      have HRES := Lib.hid hres
      have HBEL := Lib.hid hbel
      have HFIN := Lib.hid hfin
      clear hres hbel hfin
      go_enter Tryz.func62, Tryz.ntmps62
      go_upto_region 1 with fail
      rw [← HW.out]
      go_wp2_with fail
      exact bodyPost_ret (word_results HRES.out _ rfl rfl rfl) rfl (HFIN.out _ HBEL.out)
    · have hv : wordAt c (-1) 87 wd = .error badFormat := by simp [wordAt, he, he2]
      have g2 : (wd == ([114, 101, 115, 101, 116] : Bs)) = false := beq_eq_false_iff_ne.2 he2
      have HV := Lib.hid hv
      clear hv he he2
      have hres := (HW0.out.res.far (p := ⟨w.heap.size, 10, none⟩) (by show w.heap.size + 1 ≠ w.heap.size; omega) (str wd)).putCmd ({ c with what := wd }) (.slice K kn kc) nilRow (.slice M mn mc)
      have hbel := Below.setCells (Nat.le_succ w.heap.size) (cmdList ({ c with what := wd }) (.slice K kn kc) nilRow (.slice M mn mc)) 0 (HW0.out.below.setCell (p := ⟨w.heap.size, 10, none⟩) (Nat.le_refl _) (str wd))
      have hfin : ∀ W', Below w.heap.size w W' → R (.returned (.tuple #[.agg (cmdArr ({ c with what := wd }) (.slice K kn kc) nilRow (.slice M mn mc)), .int .i64 (-1), str badFormat])) W' := fun W' hb => by rw [← HR.out]; exact ⟨{ c with what := wd }, (-1), badFormat, rfl, hb, by rw [HV.out]; exact ⟨rfl, by decide⟩⟩
      have HRES := Lib.hid hres
      have HBEL := Lib.hid hbel
      have HFIN := Lib.hid hfin
      clear hres hbel hfin
      go_enter Tryz.func62, Tryz.ntmps62
      go_upto_region 1 with fail
      rw [← HW.out]
      go_wp2_with fail
      exact bodyPost_ret (word_results HRES.out _ rfl rfl rfl) rfl (HFIN.out _ HBEL.out)

end Go.Proofs.YthgfjafnclklpaaGreatDoor
end
section
namespace Go.Proofs.YthgfjafnclklpaaGreatDoor
attribute [local go_sem ↓] Go.wp_at_zero Go.wp_at_succ
open Go.RowKit Sp
attribute [-go_sem] storeVar
attribute [local go_sem] run_store_cmd run_store_wrong storeVar_int' storeVar_bool' storeVar_slice' storeVar_str' canPut_setCell canPut_drew canPut_alloc canPut_setCells cell_setCells_far World.frozen?_setCells

/-- what word tells of a key -/
def KeyPost (w : World) (base : Nat) (c : CmdV) (kv mv : Value) (wd : Bs) (e : Ending) (w' : World) : Prop :=
  ∃ K' kc', e = .returned (.tuple #[.agg (cmdArr { c with keys := c.keys ++ [wd] } (.slice K' (c.keys.length + 1) kc') nilRow mv), .int .i64 (-1), str (if keyV wd = true then [] else badFormat)]) ∧
    w'.ownsRow base 9 1 (.slice K' (c.keys.length + 1) kc') (c.keys.length + 1) (c.keys.map str ++ [str wd]) ∧ OnlyIn (rowBlock kv) w w'

set_option maxHeartbeats 2000000 in
set_option maxRecDepth 100000 in
theorem refWord_K {w : World} {base : Nat} {c : CmdV} {K M : Option Addr} {kc mn mc : Nat} {wd : Bs} (hl : wd.length ≤ 4611686018427387904)
    (ho : w.ownsRow base 9 1 (.slice K c.keys.length kc) c.keys.length (c.keys.map str)) (hb : base ≤ w.heap.size) (hn : c.keys.length ≤ 1000000) :
    Calls Tryz.prog 62 #[.agg (cmdArr c (.slice K c.keys.length kc) nilRow (.slice M mn mc)), .int .u8 75, str wd] w (KeyPost w base c (.slice K c.keys.length kc) (.slice M mn mc) wd) := by
  obtain ⟨i0, hi, hz0, hz1, hz2⟩ := info_parts info_string
  have hfin : ∀ K' kc' W', W'.ownsRow base 9 1 (.slice K' (c.keys.length + 1) kc') (c.keys.length + 1) (c.keys.map str ++ [str wd]) → OnlyIn (rowBlock (.slice K c.keys.length kc)) w W' →
      KeyPost w base c (.slice K c.keys.length kc) (.slice M mn mc) wd (.returned (.tuple #[.agg (cmdArr { c with keys := c.keys ++ [wd] } (.slice K' (c.keys.length + 1) kc') nilRow (.slice M mn mc)), .int .i64 (-1), str (if keyV wd = true then [] else badFormat)])) W' := fun K' kc' W' h1 h2 => ⟨K', kc', rfl, h1, h2⟩
  generalize KeyPost w base c (.slice K c.keys.length kc) (.slice M mn mc) wd = R at hfin ⊢
  have hW0 := WordBoxes.new w c (.slice K c.keys.length kc) (.slice M mn mc)
  obtain ⟨W, hW⟩ : ∃ W, W = (w.alloc (.cells (cmdArr c (.slice K c.keys.length kc) nilRow (.slice M mn mc)) 38)).alloc (.cells #[.int .i64 0, .slice none 0 0, .int .u64 0, .int .i64 0, .int .u64 0, .int .u64 0, .slice none 0 0, .bool false, .bool false, .slice none 0 0, .string ⟨#[]⟩] 38) := ⟨_, rfl⟩
  replace hW0 : WordBoxes w c {} (.slice K c.keys.length kc) (.slice M mn mc) W := by rw [hW]; exact hW0
  have z1 : W.cell? ⟨w.heap.size, 1, none⟩ = some (.slice K c.keys.length kc) := hW0.box.cell 1
  have hszW : w.heap.size + 1 < W.heap.size := hW0.res.lt
  have hrow : (W.alloc (.cells #[str wd] 9)).ownsRow base 9 1 (.slice K c.keys.length kc) c.keys.length (c.keys.map str) := (own_later ho hW0.below).alloc _
  have hkl := own_lt ho
  have hk := fun W : World => refKey_any wd W hl
  have HW := Lib.hid hW
  have HW0 := Lib.hid hW0
  have HFIN := Lib.hid hfin
  have HROW := Lib.hid hrow
  have HKL := Lib.hid hkl
  clear hW hW0 hfin hrow hkl ho
  generalize keyV wd = b at hk HFIN
  have HK := Lib.hid hk
  clear hk
  cases b
  all_goals
    go_enter Tryz.func62, Tryz.ntmps62
    go_upto_region 1 with fail
    rw [← HW.out]
    go_wp2_with (first | (go_at_call 78; refine (HK.out _).mono ?_; rintro e w' ⟨rfl, rfl⟩) | (at_builtin; refine wpList_append_in rfl (.tmp 20) (.tmp 22) _ rfl base 9 i0 _ 1 16 Tryz.underlying33 hi hz0 hz1 hz2 rfl (by decide) (.slice K c.keys.length kc) c.keys.length (c.keys.map str) rfl HROW.out (some ⟨W.heap.size, 0, none⟩) 1 1 [str wd] rfl (row_new W rfl 9 [str wd]) (fun h => by cases h) rfl ?_ ?_ ?_ ?_ ?_; (intro u hu; simp only [List.mem_cons, List.not_mem_nil, or_false] at hu; subst hu; rfl); (unfold maxLen; omega); omega; (simp; omega); intro v7 w7 hown7 hg7; have hx7 := (HW0.out.box.alloc (.cells #[str wd] 9)).grown hg7 (fun e => absurd (HKL.out w.heap.size (mem_rowBlock.2 e.symm)) (Nat.lt_irrefl _)); have hr7 := (HW0.out.res.alloc (.cells #[str wd] 9)).grown hg7 (fun e => absurd (HKL.out (w.heap.size + 1) (mem_rowBlock.2 e.symm)) (by omega)); have y0 : w7.cell? ⟨w.heap.size, 0, none⟩ = some (.int .i64 c.verb) := hx7.cell 0; have y1 : w7.cell? ⟨w.heap.size, 1, none⟩ = some (.slice K c.keys.length kc) := hx7.cell 1; have y2 : w7.cell? ⟨w.heap.size, 2, none⟩ = some (.int .u64 c.flags) := hx7.cell 2; have y3 : w7.cell? ⟨w.heap.size, 3, none⟩ = some (.int .i64 c.exptime) := hx7.cell 3; have y4 : w7.cell? ⟨w.heap.size, 4, none⟩ = some (.int .u64 c.token) := hx7.cell 4; have y5 : w7.cell? ⟨w.heap.size, 5, none⟩ = some (.int .u64 c.delta) := hx7.cell 5; have y6 : w7.cell? ⟨w.heap.size, 6, none⟩ = some nilRow := hx7.cell 6; have y7 : w7.cell? ⟨w.heap.size, 7, none⟩ = some (.bool c.noreply) := hx7.cell 7; have y8 : w7.cell? ⟨w.heap.size, 8, none⟩ = some (.bool c.large) := hx7.cell 8; have y9 : w7.cell? ⟨w.heap.size, 9, none⟩ = some (.slice M mn mc) := hx7.cell 9; have y10 : w7.cell? ⟨w.heap.size, 10, none⟩ = some (str c.what) := hx7.cell 10; have f1 := hx7.frozen 1; have c6 : canPut w7 (w.heap.size + 1) 0 11 = true := hr7.can 0 11 (by decide); have ha1 := own_apart hown7 hx7 (by decide); have ha2 := own_apart hown7 hr7 (by decide); have hon7 := ((OnlyIn.of HW0.out.below (rowBlock (.slice K c.keys.length kc))).alloc (.cells #[str wd] 9)).trans (OnlyIn.grown hg7) (fun i hi => .inl hi); obtain ⟨p7, c7, rfl⟩ := own_form hown7; have HX7 := Lib.hid hx7; have HR7 := Lib.hid hr7; have HOWN7 := Lib.hid hown7; have HA1 := Lib.hid ha1; have HA2 := Lib.hid ha2; have HON7 := Lib.hid hon7; clear hx7 hr7 hown7 hg7 ha1 ha2 hon7 z1))
    have hres := (HR7.out.far (p := ⟨w.heap.size, 1, none⟩) (by show w.heap.size + 1 ≠ w.heap.size; omega) (.slice p7 (c.keys.length + 1) c7)).putCmd { c with keys := c.keys ++ [wd] } (.slice p7 (c.keys.length + 1) c7) nilRow (.slice M mn mc)
    have hown : ((w7.setCell ⟨w.heap.size, 1, none⟩ (.slice p7 (c.keys.length + 1) c7)).setCells (w.heap.size + 1) 0 (cmdList { c with keys := c.keys ++ [wd] } (.slice p7 (c.keys.length + 1) c7) nilRow (.slice M mn mc))).ownsRow base 9 1 (.slice p7 (c.keys.length + 1) c7) (c.keys.length + 1) (c.keys.map str ++ [str wd]) := own_same HOWN7.out (fun k hk => by
      have hb := mem_rowBlock.1 hk
      have hne1 : k ≠ w.heap.size := fun e => HA1.out (by rw [hb, e])
      have hne2 : k ≠ w.heap.size + 1 := fun e => HA2.out (by rw [hb, e])
      have h1 := (OnlyIn.setCells (L := [w.heap.size, w.heap.size + 1]) (a := w7) (g := w.heap.size + 1) (.inl (by simp)) (cmdList { c with keys := c.keys ++ [wd] } (.slice p7 (c.keys.length + 1) c7) nilRow (.slice M mn mc)) 0 ((OnlyIn.refl _ w7).setCell (g := w.heap.size) (.inl (by simp)) 1 (.slice p7 (c.keys.length + 1) c7)))
      exact h1.block k (own_lt HOWN7.out k hk) (by simp; omega))
    have hon := OnlyIn.setCells (.inr (Nat.le_succ w.heap.size)) (cmdList { c with keys := c.keys ++ [wd] } (.slice p7 (c.keys.length + 1) c7) nilRow (.slice M mn mc)) 0 (HON7.out.setCell (g := w.heap.size) (.inr (Nat.le_refl _)) 1 (.slice p7 (c.keys.length + 1) c7))
    exact bodyPost_ret (word_results hres _ rfl rfl rfl) rfl (HFIN.out p7 c7 _ hown hon)
end Go.Proofs.YthgfjafnclklpaaGreatDoor
end
