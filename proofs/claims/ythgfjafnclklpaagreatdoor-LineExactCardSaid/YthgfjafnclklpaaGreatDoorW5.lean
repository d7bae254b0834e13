/- Walks of package words: flag, Flags. -/
import Derived.Test.YthgfjafnclklpaaGreatDoorW4
import Derived.BigGuardPart
import Derived.Deep.LoopGhost
namespace Go.Proofs.YthgfjafnclklpaaGreatDoor
open Go.RowKit

/-- from this address on lie these cells (no matter where, if there is none) -/
def RowAt (w : World) (A : Option Addr) (xs : List Value) : Prop :=
  xs = [] ∨ ∃ b o, A = some ⟨b, o, none⟩ ∧ b < w.heap.size ∧ ∀ j u, xs[j]? = some u → w.cell? ⟨b, o + j, none⟩ = some u

theorem RowAt.keep {w w' : World} {A : Option Addr} {xs : List Value} (h : RowAt w A xs) (hs : w.heap.size ≤ w'.heap.size) (hk : ∀ p : Addr, p.block < w.heap.size → w'.cell? p = w.cell? p) : RowAt w' A xs := by
  rcases h with h | ⟨b, o, h1, h2, h3⟩
  · exact .inl h
  · exact .inr ⟨b, o, h1, by omega, fun j u hu => (hk ⟨b, o + j, none⟩ h2).trans (h3 j u hu)⟩
theorem RowAt.below {w w' : World} {A : Option Addr} {xs : List Value} (h : RowAt w A xs) (hb : Below w.heap.size w w') : RowAt w' A xs := h.keep hb.size fun _ hp => hb.cell hp
theorem RowAt.alloc {w : World} {A : Option Addr} {xs : List Value} (h : RowAt w A xs) (o : Obj) : RowAt (w.alloc o) A xs := h.below ((Below.refl _ _).alloc (Nat.le_refl _) o)

def flagCells (f : Sp.FlagV) : List Value := [.int .u8 f.letter.toNat, str f.arg, .bool f.has]
def flagsCells (l : List Sp.FlagV) : List Value := l.flatMap flagCells

theorem flagsCells_at : ∀ (l : List Sp.FlagV) (i : Nat) (f : Sp.FlagV), l[i]? = some f →
    (flagsCells l)[i * 3]? = some (.int .u8 f.letter.toNat) ∧ (flagsCells l)[i * 3 + 1]? = some (str f.arg) ∧ (flagsCells l)[i * 3 + 2]? = some (.bool f.has)
  | [], i, f, h => by simp at h
  | g :: t, 0, f, h => by
    simp at h
    subst h
    simp [flagsCells, flagCells]
  | g :: t, i + 1, f, h => by
    have ih := flagsCells_at t i f (by simpa using h)
    have e : flagsCells (g :: t) = .int .u8 g.letter.toNat :: str g.arg :: .bool g.has :: flagsCells t := by simp [flagsCells, flagCells]
    rw [e]
    have e0 : (i + 1) * 3 = i * 3 + 3 := by omega
    rw [e0]
    refine ⟨?_, ?_, ?_⟩
    · rw [show i * 3 + 3 = (i * 3) + 1 + 1 + 1 by omega]; simpa using ih.1
    · rw [show i * 3 + 3 + 1 = (i * 3 + 1) + 1 + 1 + 1 by omega]; simpa using ih.2.1
    · rw [show i * 3 + 3 + 2 = (i * 3 + 2) + 1 + 1 + 1 by omega]; simpa using ih.2.2

theorem RowAt.flag {w : World} {A : Option Addr} {l : List Sp.FlagV} (h : RowAt w A (flagsCells l)) {i : Nat} {f : Sp.FlagV} (hf : l[i]? = some f) :
    ∃ b o, A = some ⟨b, o, none⟩ ∧ b < w.heap.size ∧ w.cell? ⟨b, o + i * 3, none⟩ = some (.int .u8 f.letter.toNat) ∧ w.cell? ⟨b, o + i * 3 + 1, none⟩ = some (str f.arg) ∧ w.cell? ⟨b, o + i * 3 + 2, none⟩ = some (.bool f.has) := by
  obtain ⟨h1, h2, h3⟩ := flagsCells_at l i f hf
  rcases h with h | ⟨b, o, hA, hb, hc⟩
  · rw [h] at h1; simp at h1
  · exact ⟨b, o, hA, hb, hc _ _ h1, hc _ _ h2, hc _ _ h3⟩

theorem idx_byte (l : Sp.Bs) (c : UInt8) (w : World) : Calls Tryz.prog 108 #[str l, .int .u8 c.toNat] w fun e w' => e = .returned (.int .i64 (Lib.indexByte l c)) ∧ w = w' :=
  (Tryz.strings_IndexByte ⟨l.toArray⟩ c.toNat w).mono fun e w' ⟨h1, h2⟩ => ⟨by rw [h1, str_list]; simp, h2.symm⟩

set_option maxHeartbeats 1000000 in
/-- flag where the letter is none of the verb's -/
theorem flag_invalid (v : Nat) (f : Sp.FlagV) (A : Option Addr) (n cap : Nat) (w : World)
    (ha : (Sp.alone v).contains f.letter = false) (hw : (Sp.withs v).contains f.letter = false) :
    Calls Tryz.prog 154 #[.int .i64 v, .slice A n cap, flagV f] w fun e w' => e = .returned (str Sp.invalidFlag) ∧ Below w.heap.size w w' := by
  obtain ⟨L, a, H⟩ := f
  have h1 := fun wx => letters_any v wx
  have h2 := fun wx => idx_byte (Sp.alone v) L wx
  have h3 := fun wx => idx_byte (Sp.withs v) L wx
  dsimp only at ha hw
  rw [← contains_byte] at ha hw
  have hw' : decide (Lib.indexByte (Sp.withs v) L < 0) = true := by have := of_decide_eq_false hw; simp; omega
  generalize Lib.indexByte (Sp.alone v) L = ia at *
  generalize Lib.indexByte (Sp.withs v) L = iw at *
  have H1 := Lib.hid h1
  have H2 := Lib.hid h2
  have H3 := Lib.hid h3
  clear h1 h2 h3 hw
  go_enter Tryz.func154, Tryz.ntmps154
  go_wp2_with fail
  refine (H1.out _).mono ?_
  rintro e w1 ⟨rfl, rfl⟩
  go_wp2_with fail
  refine (H2.out _).mono ?_
  rintro e w1 ⟨rfl, rfl⟩
  go_wp2_with fail
  refine (H3.out _).mono ?_
  rintro e w1 ⟨rfl, rfl⟩
  go_wp2
  go_ret
  exact ⟨rfl, (Below.refl _ w).alloc (Nat.le_refl _) _⟩

/-- what flag tells behind its look at the flags ahead -/
def flagEnd (bare isO argE long has beh : Bool) : Sp.Bs :=
  if isO && (argE || long) then Sp.opaqueLong
  else if (has != !argE) || (bare && has) || (!bare && !beh) then Sp.badToken
  else []

theorem flagEnd_is (v : Nat) (ahead : List Sp.FlagV) (f : Sp.FlagV) (h : ((Sp.alone v).contains f.letter || (Sp.withs v).contains f.letter) = true) (hd : ahead.any (fun x => x.letter == f.letter) = false) :
    Sp.flagOf v ahead f = flagEnd ((Sp.alone v).contains f.letter) (f.letter == 79) f.arg.isEmpty (decide (32 < f.arg.length)) f.has (Sp.behind v f) := by
  unfold Sp.flagOf flagEnd
  rw [hd]
  have h' : (!(Sp.alone v).contains f.letter && !(Sp.withs v).contains f.letter) = false := by
    revert h
    cases (Sp.alone v).contains f.letter <;> cases (Sp.withs v).contains f.letter <;> simp
  rw [if_neg (by rw [h']; decide), if_neg (by decide)]
  congr 1
  simp only [Bool.and_eq_true, Bool.or_eq_true, beq_iff_eq, decide_eq_true_eq, List.isEmpty_iff]

set_option maxHeartbeats 4000000 in
theorem flag_rest (v : Nat) (ahead : List Sp.FlagV) (f : Sp.FlagV) (A : Option Addr) (cap : Nat) (w : World) (bare : Bool) (hg : Glob w)
    (hA : RowAt w A (flagsCells ahead)) (hn : ahead.length ≤ 140737488355328) (hl : f.arg.length ≤ 140737488355328)
    (ha : (Sp.alone v).contains f.letter = bare) (hw : bare = false → (Sp.withs v).contains f.letter = true) :
    Calls Tryz.prog 154 #[.int .i64 v, .slice A ahead.length cap, flagV f] w fun e w' => e = .returned (str (Sp.flagOf v ahead f)) ∧ Below w.heap.size w w' := by
  have hor : ((Sp.alone v).contains f.letter || (Sp.withs v).contains f.letter) = true := by
    rw [ha]; cases bare
    · rw [hw rfl]; rfl
    · rfl
  have hend := flagEnd_is v ahead f hor
  have hdup : ahead.any (fun x => x.letter == f.letter) = true → Sp.flagOf v ahead f = Sp.twiceFlag := by
    intro h
    unfold Sp.flagOf
    rw [if_neg (by revert hor; cases (Sp.alone v).contains f.letter <;> cases (Sp.withs v).contains f.letter <;> simp), if_pos h]
  have hbeh := fun wx (hx : Glob wx) => behind_any v f wx hl hx
  generalize Sp.behind v f = beh at hend hbeh
  generalize Sp.flagOf v ahead f = R at hend hdup ⊢
  obtain ⟨L, a, H⟩ := f
  have h1 := fun wx => letters_any v wx
  have h2 := fun wx => idx_byte (Sp.alone v) L wx
  have h3 := fun wx => idx_byte (Sp.withs v) L wx
  dsimp only at ha hw hend hdup hA hl
  rw [ha] at hend
  rw [← contains_byte] at ha
  have hw' : bare = false → decide (Lib.indexByte (Sp.withs v) L < 0) = false := by
    intro hb
    have := hw hb
    rw [← contains_byte] at this
    have := of_decide_eq_true this
    simp; omega
  generalize Lib.indexByte (Sp.alone v) L = ia at *
  generalize Lib.indexByte (Sp.withs v) L = iw at *
  have H1 := Lib.hid h1
  have H2 := Lib.hid h2
  have H3 := Lib.hid h3
  have HA := Lib.hid hA
  have HE := Lib.hid hend
  have HD := Lib.hid hdup
  have HB := Lib.hid hbeh
  have HG := Lib.hid hg
  clear h1 h2 h3 hA hend hdup hbeh hg hw hor
  cases bare with
  | false =>
    have hiw := hw' rfl
    clear hw'
    go_enter Tryz.func154, Tryz.ntmps154
    go_wp2_with fail
    refine (H1.out _).mono ?_
    rintro e w1 ⟨rfl, rfl⟩
    go_wp2_with fail
    refine (H2.out _).mono ?_
    rintro e w1 ⟨rfl, rfl⟩
    go_wp2_with fail
    refine (H3.out _).mono ?_
    rintro e w1 ⟨rfl, rfl⟩
    go_wp2
    have c0 : (w.alloc (.cells #[.int .u8 L.toNat, str a, .bool H] 94)).cell? ⟨w.heap.size, 0, none⟩ = some (.int .u8 L.toNat) := by simp
    have c1 : (w.alloc (.cells #[.int .u8 L.toNat, str a, .bool H] 94)).cell? ⟨w.heap.size, 1, none⟩ = some (str a) := by simp
    have c2 : (w.alloc (.cells #[.int .u8 L.toNat, str a, .bool H] 94)).cell? ⟨w.heap.size, 2, none⟩ = some (.bool H) := by simp
    have hb0 : Below w.heap.size w (w.alloc (.cells #[.int .u8 L.toNat, str a, .bool H] 94)) := (Below.refl _ _).alloc (Nat.le_refl _) _
    have hs0 : w.heap.size < (w.alloc (.cells #[.int .u8 L.toNat, str a, .bool H] 94)).heap.size := by simp
    generalize (w.alloc (.cells #[.int .u8 L.toNat, str a, .bool H] 94)) = W0 at *
    have hA0 := HA.out.below hb0
    have HA0 := Lib.hid hA0
    clear hA0
    go_loopw [33] (fun i wr => ∃ k : Nat, k ≤ ahead.length ∧ i = .int .i64 k ∧ Below W0.heap.size W0 wr ∧ Hid (∀ (j : Nat) x, j < k → ahead[j]? = some x → x.letter ≠ L)) (fun i _ => ahead.length - (intOf i).toNat)
    case atStart => exact ⟨0, by omega, rfl, Below.refl _ _, fun j x h => absurd h (by omega)⟩
    case round =>
      obtain ⟨k, hk, rfl, hbr, hno⟩ := hrel
      by_cases hlt : k < ahead.length
      · obtain ⟨x, hx⟩ : ∃ x, ahead[k]? = some x := ⟨ahead[k], by simp [hlt]⟩
        obtain ⟨b, o, rfl, hb, x0, x1, x2⟩ := (HA0.out.below hbr).flag hx
        have Hx := Lib.hid hx
        clear hx
        have r0 := (hbr.cell (p := ⟨w.heap.size, 0, none⟩) hs0).trans c0
        have hlw : w.heap.size < wr.heap.size := by have := hbr.size; omega
        by_cases hsame : x.letter = L
        · have hs1 : ((x.letter.toNat : Int) == (L.toNat : Int)) = true := by rw [hsame]; simp
          have hR : R = Sp.twiceFlag := HD.out (List.any_eq_true.2 ⟨x, List.mem_of_getElem? Hx.out, by simp [hsame]⟩)
          have HR := Lib.hid hR
          clear hsame hR
          go_wp2
          go_ret
          exact ⟨by rw [HR.out]; rfl, hb0.trans (((hbr.alloc hbr.size _)).mono hb0.size)⟩
        · have hs1 : ((x.letter.toNat : Int) == (L.toNat : Int)) = false := u8_ne hsame
          go_wp2
          refine ⟨⟨k + 1, by omega, by go_num, hbr.alloc hbr.size _, ?_⟩, by simp [intOf]; omega⟩
          intro j y hj hy
          by_cases hjk : j < k
          · exact hno j y hjk hy
          · obtain rfl : j = k := by omega
            rw [Hx.out] at hy
            injection hy with hy
            rw [← hy]
            exact hsame
      · obtain rfl : k = ahead.length := by omega
        have hR := HE.out (by
          rw [List.any_eq_false]
          intro x hx
          obtain ⟨j, hj⟩ := List.mem_iff_getElem?.1 hx
          have := hno j x (by have := (List.getElem?_eq_some_iff.1 hj).1; omega) hj
          simpa using this)
        have HR := Lib.hid hR
        have r0 := (hbr.cell (p := ⟨w.heap.size, 0, none⟩) hs0).trans c0
        have r1 := (hbr.cell (p := ⟨w.heap.size, 1, none⟩) hs0).trans c1
        have r2 := (hbr.cell (p := ⟨w.heap.size, 2, none⟩) hs0).trans c2
        have hbw : Below w.heap.size w wr := hb0.trans (hbr.mono hb0.size)
        have hgr := HG.out.later hbw
        have HGR := Lib.hid hgr
        have HL := Lib.hid hl
        clear hR c0 c1 c2 hgr HD HE hno hl
        by_cases h79 : L = 79
        · subst h79
          rcases a with _ | ⟨c, t⟩
          · go_wp2
            go_ret
            exact ⟨by rw [HR.out]; rfl, hbw⟩
          · by_cases h32 : 32 < t.length + 1
            · go_wp2
              go_ret
              exact ⟨by rw [HR.out]; simp [flagEnd, h32, Sp.opaqueLong], hbw⟩
            · have h32' : t.length + 1 ≤ 32 := by omega
              cases H
              · go_wp2
                go_ret
                exact ⟨by rw [HR.out]; simp [flagEnd, Sp.badToken, h32], hbw⟩
              · cases beh
                · go_wp2_with (go_at_call 180; refine (HB.out _ HGR.out).mono ?_; rintro e w1 ⟨rfl, hb1⟩)
                  go_wp2
                  go_ret
                  exact ⟨by rw [HR.out]; simp [flagEnd, Sp.badToken, h32], hbw.trans (hb1.mono hbw.size)⟩
                · go_wp2_with (go_at_call 180; refine (HB.out _ HGR.out).mono ?_; rintro e w1 ⟨rfl, hb1⟩)
                  go_wp2
                  go_ret
                  exact ⟨by rw [HR.out]; simp [flagEnd, h32], hbw.trans (hb1.mono hbw.size)⟩
        · have t79 := u8_ne h79
          change ((L.toNat : Int) == 79) = false at t79
          rcases a with _ | ⟨c, t⟩
          · cases H
            · cases beh
              · go_wp2_with (go_at_call 180; refine (HB.out _ HGR.out).mono ?_; rintro e w1 ⟨rfl, hb1⟩)
                go_wp2
                go_ret
                exact ⟨by rw [HR.out]; simp [flagEnd, Sp.badToken, h79], hbw.trans (hb1.mono hbw.size)⟩
              · go_wp2_with (go_at_call 180; refine (HB.out _ HGR.out).mono ?_; rintro e w1 ⟨rfl, hb1⟩)
                go_wp2
                go_ret
                exact ⟨by rw [HR.out]; simp [flagEnd, h79], hbw.trans (hb1.mono hbw.size)⟩
            · go_wp2
              go_ret
              exact ⟨by rw [HR.out]; simp [flagEnd, Sp.badToken, h79], hbw⟩
          · cases H
            · go_wp2
              go_ret
              exact ⟨by rw [HR.out]; simp [flagEnd, Sp.badToken, h79], hbw⟩
            · cases beh
              · go_wp2_with (go_at_call 180; refine (HB.out _ HGR.out).mono ?_; rintro e w1 ⟨rfl, hb1⟩)
                go_wp2
                go_ret
                exact ⟨by rw [HR.out]; simp [flagEnd, Sp.badToken, h79], hbw.trans (hb1.mono hbw.size)⟩
              · go_wp2_with (go_at_call 180; refine (HB.out _ HGR.out).mono ?_; rintro e w1 ⟨rfl, hb1⟩)
                go_wp2
                go_ret
                exact ⟨by rw [HR.out]; simp [flagEnd, h79], hbw.trans (hb1.mono hbw.size)⟩
  | true =>
    clear hw' H3
    go_enter Tryz.func154, Tryz.ntmps154
    go_wp2_with fail
    refine (H1.out _).mono ?_
    rintro e w1 ⟨rfl, rfl⟩
    go_wp2_with fail
    refine (H2.out _).mono ?_
    rintro e w1 ⟨rfl, rfl⟩
    go_wp2
    have c0 : (w.alloc (.cells #[.int .u8 L.toNat, str a, .bool H] 94)).cell? ⟨w.heap.size, 0, none⟩ = some (.int .u8 L.toNat) := by simp
    have c1 : (w.alloc (.cells #[.int .u8 L.toNat, str a, .bool H] 94)).cell? ⟨w.heap.size, 1, none⟩ = some (str a) := by simp
    have c2 : (w.alloc (.cells #[.int .u8 L.toNat, str a, .bool H] 94)).cell? ⟨w.heap.size, 2, none⟩ = some (.bool H) := by simp
    have hb0 : Below w.heap.size w (w.alloc (.cells #[.int .u8 L.toNat, str a, .bool H] 94)) := (Below.refl _ _).alloc (Nat.le_refl _) _
    have hs0 : w.heap.size < (w.alloc (.cells #[.int .u8 L.toNat, str a, .bool H] 94)).heap.size := by simp
    generalize (w.alloc (.cells #[.int .u8 L.toNat, str a, .bool H] 94)) = W0 at *
    have hA0 := HA.out.below hb0
    have HA0 := Lib.hid hA0
    clear hA0
    go_loopw [33] (fun i wr => ∃ k : Nat, k ≤ ahead.length ∧ i = .int .i64 k ∧ Below W0.heap.size W0 wr ∧ Hid (∀ (j : Nat) x, j < k → ahead[j]? = some x → x.letter ≠ L)) (fun i _ => ahead.length - (intOf i).toNat)
    case atStart => exact ⟨0, by omega, rfl, Below.refl _ _, fun j x h => absurd h (by omega)⟩
    case round =>
      obtain ⟨k, hk, rfl, hbr, hno⟩ := hrel
      by_cases hlt : k < ahead.length
      · obtain ⟨x, hx⟩ : ∃ x, ahead[k]? = some x := ⟨ahead[k], by simp [hlt]⟩
        obtain ⟨b, o, rfl, hb, x0, x1, x2⟩ := (HA0.out.below hbr).flag hx
        have Hx := Lib.hid hx
        clear hx
        have r0 := (hbr.cell (p := ⟨w.heap.size, 0, none⟩) hs0).trans c0
        have hlw : w.heap.size < wr.heap.size := by have := hbr.size; omega
        by_cases hsame : x.letter = L
        · have hs1 : ((x.letter.toNat : Int) == (L.toNat : Int)) = true := by rw [hsame]; simp
          have hR : R = Sp.twiceFlag := HD.out (List.any_eq_true.2 ⟨x, List.mem_of_getElem? Hx.out, by simp [hsame]⟩)
          have HR := Lib.hid hR
          clear hsame hR
          go_wp2
          go_ret
          exact ⟨by rw [HR.out]; rfl, hb0.trans (((hbr.alloc hbr.size _)).mono hb0.size)⟩
        · have hs1 : ((x.letter.toNat : Int) == (L.toNat : Int)) = false := u8_ne hsame
          go_wp2
          refine ⟨⟨k + 1, by omega, by go_num, hbr.alloc hbr.size _, ?_⟩, by simp [intOf]; omega⟩
          intro j y hj hy
          by_cases hjk : j < k
          · exact hno j y hjk hy
          · obtain rfl : j = k := by omega
            rw [Hx.out] at hy
            injection hy with hy
            rw [← hy]
            exact hsame
      · obtain rfl : k = ahead.length := by omega
        have hR := HE.out (by
          rw [List.any_eq_false]
          intro x hx
          obtain ⟨j, hj⟩ := List.mem_iff_getElem?.1 hx
          have := hno j x (by have := (List.getElem?_eq_some_iff.1 hj).1; omega) hj
          simpa using this)
        have HR := Lib.hid hR
        have r0 := (hbr.cell (p := ⟨w.heap.size, 0, none⟩) hs0).trans c0
        have r1 := (hbr.cell (p := ⟨w.heap.size, 1, none⟩) hs0).trans c1
        have r2 := (hbr.cell (p := ⟨w.heap.size, 2, none⟩) hs0).trans c2
        have hbw : Below w.heap.size w wr := hb0.trans (hbr.mono hb0.size)
        have hgr := HG.out.later hbw
        have HGR := Lib.hid hgr
        have HL := Lib.hid hl
        clear hR c0 c1 c2 hgr HD HE hno hl
        by_cases h79 : L = 79
        · subst h79
          rcases a with _ | ⟨c, t⟩
          · go_wp2
            go_ret
            exact ⟨by rw [HR.out]; rfl, hbw⟩
          · by_cases h32 : 32 < t.length + 1
            · go_wp2
              go_ret
              exact ⟨by rw [HR.out]; simp [flagEnd, h32, Sp.opaqueLong], hbw⟩
            · have h32' : t.length + 1 ≤ 32 := by omega
              cases H
              · go_wp2
                go_ret
                exact ⟨by rw [HR.out]; simp [flagEnd, Sp.badToken, h32], hbw⟩
              · go_wp2
                go_ret
                exact ⟨by rw [HR.out]; simp [flagEnd, Sp.badToken, h32], hbw⟩
        · have t79 := u8_ne h79
          change ((L.toNat : Int) == 79) = false at t79
          rcases a with _ | ⟨c, t⟩
          · cases H
            · go_wp2
              go_ret
              exact ⟨by rw [HR.out]; simp [flagEnd, h79], hbw⟩
            · go_wp2
              go_ret
              exact ⟨by rw [HR.out]; simp [flagEnd, Sp.badToken, h79], hbw⟩
          · cases H
            · go_wp2
              go_ret
              exact ⟨by rw [HR.out]; simp [flagEnd, Sp.badToken, h79], hbw⟩
            · go_wp2
              go_ret
              exact ⟨by rw [HR.out]; simp [flagEnd, Sp.badToken, h79], hbw⟩
end Go.Proofs.YthgfjafnclklpaaGreatDoor
