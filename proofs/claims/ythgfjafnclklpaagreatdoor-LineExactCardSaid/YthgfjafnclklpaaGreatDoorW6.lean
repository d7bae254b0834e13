/- Walk of package words: Flags. -/
import Derived.Test.YthgfjafnclklpaaGreatDoorW5
import Derived.Deep.RegionWith
namespace Go.Proofs.YthgfjafnclklpaaGreatDoor
open Go.RowKit

theorem flag_any (v : Nat) (ahead : List Sp.FlagV) (f : Sp.FlagV) (A : Option Addr) (cap n : Nat) (w : World) (hg : Glob w)
    (hA : RowAt w A (flagsCells ahead)) (hn : ahead.length ≤ 140737488355328) (hl : f.arg.length ≤ 140737488355328) (he : n = ahead.length) :
    Calls Tryz.prog 154 #[.int .i64 v, .slice A n cap, flagV f] w fun e w' => e = .returned (str (Sp.flagOf v ahead f)) ∧ Below w.heap.size w w' := by
  subst he
  cases ha : (Sp.alone v).contains f.letter with
  | true => exact flag_rest v ahead f A cap w true hg hA hn hl ha (by intro h; cases h)
  | false =>
    cases hw : (Sp.withs v).contains f.letter with
    | true => exact flag_rest v ahead f A cap w false hg hA hn hl ha (fun _ => hw)
    | false =>
      have e : Sp.flagOf v ahead f = Sp.invalidFlag := by unfold Sp.flagOf; rw [ha, hw]; rfl
      rw [e]
      exact flag_invalid v f A ahead.length cap w ha hw

theorem flagsCells_take (l : List Sp.FlagV) (k : Nat) : flagsCells (l.take k) = (flagsCells l).take (k * 3) := by
  induction l generalizing k with
  | nil => simp [flagsCells]
  | cons f t ih =>
    cases k with
    | zero => simp [flagsCells]
    | succ k =>
      have e : flagsCells (f :: t) = flagCells f ++ flagsCells t := by simp [flagsCells]
      have e2 : flagsCells (f :: t.take k) = flagCells f ++ flagsCells (t.take k) := by simp [flagsCells]
      rw [List.take_succ_cons, e2, ih, e, List.take_append]
      have hl : (flagCells f).length = 3 := rfl
      rw [List.take_of_length_le (l := flagCells f) (by rw [hl]; omega), hl]
      have e3 : (k + 1) * 3 - 3 = k * 3 := by omega
      rw [e3]

theorem RowAt.take {w : World} {A : Option Addr} {xs : List Value} (h : RowAt w A xs) (k : Nat) : RowAt w A (xs.take k) := by
  rcases h with h | ⟨b, o, h1, h2, h3⟩
  · exact .inl (by rw [h]; simp)
  · exact .inr ⟨b, o, h1, h2, fun j u hu => h3 j u (by
      rw [List.getElem?_take] at hu
      split at hu
      · exact hu
      · cases hu)⟩

theorem flagsGo_step (v : Nat) (l : List Sp.FlagV) (k : Nat) (f : Sp.FlagV) (hf : l[k]? = some f) :
    Sp.flagsGo v (l.take k) (l.drop k) = if Sp.flagOf v (l.take k) f = [] then Sp.flagsGo v (l.take (k + 1)) (l.drop (k + 1)) else Sp.flagOf v (l.take k) f := by
  obtain ⟨hk, rfl⟩ := List.getElem?_eq_some_iff.1 hf
  rw [List.drop_eq_getElem_cons hk]
  conv => lhs; unfold Sp.flagsGo
  rw [List.take_succ_eq_append_getElem hk]

set_option maxHeartbeats 2000000 in
theorem below_box (w : World) (o : Obj) : Below w.heap.size w (w.alloc o).drew := ((Below.refl _ w).alloc (Nat.le_refl _) o).drew

set_option maxRecDepth 100000 in
theorem Flags_any (v : Nat) (l : List Sp.FlagV) (A : Option Addr) (cap : Nat) (w : World) (hg : Glob w)
    (hA : RowAt w A (flagsCells l)) (hc : l.length ≤ cap) (hn : l.length ≤ 140737488355328) (hl : ∀ f ∈ l, f.arg.length ≤ 140737488355328) :
    Calls Tryz.prog 133 #[.int .i64 v, .slice A l.length cap] w fun e w' => e = .returned (str (Sp.flagsOf v l)) ∧ Below w.heap.size w w' := by
  unfold Sp.flagsOf
  have h0 : Sp.flagsGo v [] l = Sp.flagsGo v (l.take 0) (l.drop 0) := by simp
  generalize Sp.flagsGo v [] l = R at h0 ⊢
  have HA := Lib.hid hA
  have HG := Lib.hid hg
  have HL := Lib.hid hl
  have H0 := Lib.hid h0
  clear hA hg hl h0
  go_enter Tryz.func133, Tryz.ntmps133
  go_wp2
  go_loopw [10] (fun i wr => ∃ k : Nat, k ≤ l.length ∧ i = .int .i64 k ∧ Below w.heap.size w wr ∧ Hid (R = Sp.flagsGo v (l.take k) (l.drop k))) (fun i _ => l.length - (intOf i).toNat)
  case atStart => exact ⟨0, by omega, rfl, Below.refl _ _, H0.out⟩
  case round =>
    obtain ⟨k, hk, rfl, hbr, hR⟩ := hrel
    by_cases hlt : k < l.length
    · obtain ⟨f, hf⟩ : ∃ f, l[k]? = some f := ⟨l[k], by simp [hlt]⟩
      have hrow := HA.out.below hbr
      obtain ⟨b, o, rfl, hb, x0, x1, x2⟩ := hrow.flag hf
      have hstep := flagsGo_step v l k f hf
      have hflag := fun (wx : World) (hx : Below wr.heap.size wr wx) => flag_any v (l.take k) f (some ⟨b, o, none⟩) cap k wx ((HG.out.later hbr).later hx) (by rw [flagsCells_take]; exact (hrow.below hx).take _) (by simp; omega) (HL.out f (List.mem_of_getElem? hf)) (by simp; omega)
      generalize Sp.flagOf v (l.take k) f = T at hstep hflag
      have HS := Lib.hid hstep
      have HF := Lib.hid hflag
      have HR := Lib.hid hrow
      clear hstep hflag hf hrow
      go_wp2
      go_region_with (go_at_call 154; refine (HF.out _ (by exact below_box _ _)).mono ?_; rintro e w1 ⟨rfl, hb1⟩)
      all_goals
        have hbw : Below w.heap.size w w1 := (hbr.trans ((below_box wr _).mono hbr.size)).trans (hb1.mono (by have := hbr.size; simp; omega))
        clear hb1
        cases T with
        | nil =>
          have hR2 := hR.out.trans (HS.out.trans (if_pos rfl))
          go_wp2
          exact ⟨⟨k + 1, by omega, by go_num, hbw, hR2⟩, by simp [intOf]; omega⟩
        | cons c t =>
          have hR2 := hR.out.trans (HS.out.trans (if_neg (by simp)))
          have HR2 := Lib.hid hR2
          clear hR2
          go_wp2
          go_ret
          exact ⟨by rw [HR2.out]; rfl, hbw⟩
    · obtain rfl : k = l.length := by omega
      have hRn : R = [] := by have := hR.out; rw [List.drop_length] at this; exact this
      have HRn := Lib.hid hRn
      clear hRn
      go_wp2
      go_ret
      exact ⟨by rw [HRn.out]; rfl, hbr⟩
end Go.Proofs.YthgfjafnclklpaaGreatDoor
