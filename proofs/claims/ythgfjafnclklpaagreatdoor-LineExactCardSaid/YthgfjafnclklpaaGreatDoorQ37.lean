/- Plain laws: a Feeder and the document's, side by side. No program in sight. Walk of the document's Kept: how many bytes are kept of the rest. Walks of the document's Feeder: New, Ended, Taken, Held. Walk of the document's Feeder: Feed. -/
import Derived.Test.YthgfjafnclklpaaGreatDoorAp
import Derived.Test.YthgfjafnclklpaaGreatDoorQ36
import Derived.Test.YthgfjafnclklpaaGreatDoorGl
import Derived.StillTailTactics
section
namespace Go.Proofs.YthgfjafnclklpaaGreatDoor
open Go.Lib Sp

/-- where a Feeder is, once all steps of l are told: behind a quit, or at a line's beginning with what is left of l behind it -/
theorem all_twin (lim : Nat) : ∀ (r : Nat) (l : Bs) {s : FeedV}, Fresh s → l.length < r →
    (∃ ts t, (allV lim r s.taken l).1 = ts ++ [t] ∧ t.cmd.verb = 18 ∧ (s.bytes lim l).mode = .over ∧ (s.bytes lim l).ended = true ∧ (s.bytes lim l).held = 0 ∧ (s.bytes lim l).out = s.out ++ (allV lim r s.taken l).1 ∧ t.to ≤ s.taken + l.length) ∨
    (∃ m s0, m ≤ l.length ∧ Fresh s0 ∧ s0.taken = s.taken + m ∧ s0.out = s.out ++ (allV lim r s.taken l).1 ∧ s.bytes lim l = s0.bytes lim (l.drop m) ∧ oneV lim (l.drop m) = none ∧
      (((allV lim r s.taken l).1 = [] ∧ m = 0) ∨ ∃ ts t, (allV lim r s.taken l).1 = ts ++ [t] ∧ t.to = s.taken + m ∧ t.cmd.verb ≠ 18))
  | 0, l, s, _, h => by omega
  | r + 1, l, s, hf, hr => by
    have h := one_goes lim hf l
    unfold allV
    cases ho : oneV lim l with
    | none => exact .inr ⟨0, s, Nat.zero_le _, hf, rfl, (List.append_nil _).symm, rfl, ho, .inl ⟨rfl, rfl⟩⟩
    | some x =>
      obtain ⟨t, n⟩ := x
      rw [ho] at h
      obtain ⟨h1, h2, h3⟩ := h
      have hby : s.bytes lim l = (s.bytes lim (l.take n)).bytes lim (l.drop n) := by
        conv => lhs; rw [← List.take_append_drop n l, bytes_append]
      dsimp only
      by_cases hv : t.cmd.verb = 18
      · rw [if_pos hv]
        obtain ⟨o1, o2, o3⟩ := h3.over hv
        refine .inl ⟨[], t.span s.taken (s.taken + n), rfl, hv, ?_⟩
        rw [hby, over_bytes lim _ o1]
        exact ⟨o1, o2, o3, h3.out, by show s.taken + n ≤ _; omega⟩
      · rw [if_neg hv]
        have hf1 := h3.fresh hv
        have hld : (l.drop n).length = l.length - n := List.length_drop
        have ih := all_twin lim r (l.drop n) hf1 (by omega)
        rw [h3.taken, h3.out] at ih
        rw [hby]
        rcases ih with ⟨ts, t', g1, g2, g3, g4, g5, g6, g7⟩ | ⟨m, s0, g1, g2, g3, g4, g5, g6, g7⟩
        · refine .inl ⟨t.span s.taken (s.taken + n) :: ts, t', by rw [g1]; rfl, g2, g3, g4, g5, by rw [g6]; simp, by omega⟩
        · refine .inr ⟨n + m, s0, by omega, g2, by omega, by rw [g4]; simp, by rw [g5, List.drop_drop], by rw [← List.drop_drop]; exact g6, .inr ?_⟩
          rcases g7 with ⟨g7, rfl⟩ | ⟨ts, t', g7, g8, g9⟩
          · exact ⟨[], t.span s.taken (s.taken + n), by rw [g7]; rfl, rfl, hv⟩
          · exact ⟨t.span s.taken (s.taken + n) :: ts, t', by rw [g7]; rfl, by omega, g9⟩

/-- a Feeder, and what the document's keeps: all bytes, where the last step ended, whether it was a quit -/
structure Twin (lim : Nat) (s : FeedV) (raw : Bs) (last : Nat) (quit : Bool) : Prop where
  out : s.out = []
  taken : s.taken = raw.length
  ended : s.ended = quit
  le : last ≤ raw.length
  over : quit = true → s.mode = .over ∧ s.held = 0
  on : quit = false → oneV lim (raw.drop last) = none ∧ ∃ s0, Fresh s0 ∧ s0.out = [] ∧ s0.taken = last ∧ s = s0.bytes lim (raw.drop last)
theorem Twin.new (lim : Nat) : Twin lim {} [] 0 false := ⟨rfl, rfl, rfl, Nat.le_refl _, fun h => (by cases h), fun _ => ⟨rfl, {}, Fresh.new, rfl, rfl, rfl⟩⟩
/-- how much is held -/
def Twin.heldV (lim : Nat) (raw : Bs) (last : Nat) (quit : Bool) : Nat := if quit then 0 else keptV lim (raw.drop last)
theorem Twin.held {lim : Nat} {s : FeedV} {raw : Bs} {last : Nat} {quit : Bool} (h : Twin lim s raw last quit) : s.held = Twin.heldV lim raw last quit := by
  unfold Twin.heldV
  cases hq : quit with
  | true => rw [if_pos rfl]; exact (h.over hq).2
  | false =>
    rw [if_neg (by decide)]
    obtain ⟨h1, s0, h2, _, _, h3⟩ := h.on hq
    have := one_goes lim h2 (raw.drop last)
    rw [h1] at this
    rw [h3]; exact this.2.2
/-- the document's steps of what is held and of a chunk -/
def Twin.steps (lim : Nat) (raw : Bs) (last : Nat) : List StepV := (allV lim ((raw.drop last).length + 1) 0 (raw.drop last)).1
def lastTo (d : Nat) (q : Nat) (ts : List StepV) : Nat := (ts.getLast?.map (·.to)).elim d (· + q)
def lastQuit (ts : List StepV) : Bool := (ts.getLast?.map fun t => decide (t.cmd.verb = 18)).getD false
theorem fresh_clear {s : FeedV} (h : Fresh s) : Fresh { s with out := [] } := ⟨h.mode, h.frm, h.held, h.ended, h.line, h.long, h.data⟩
theorem Twin.quit {lim : Nat} {s : FeedV} {raw : Bs} {last : Nat} (h : Twin lim s raw last true) (c : Bs) : s.told lim c = [] ∧ Twin lim (s.feed lim c) (raw ++ c) last true := by
  obtain ⟨h1, h2⟩ := h.over rfl
  have hb := over_bytes lim c h1
  refine ⟨by unfold FeedV.told; rw [hb]; exact h.out, ?_⟩
  unfold FeedV.feed
  rw [hb]
  exact ⟨rfl, by show s.taken + _ = _; rw [h.taken, List.length_append], h.ended, by have := h.le; rw [List.length_append]; omega, fun _ => ⟨h1, h2⟩, fun h => by cases h⟩
/-- a chunk is fed to both -/
theorem Twin.feed {lim : Nat} {s : FeedV} {raw : Bs} {last : Nat} (h : Twin lim s raw last false) (c : Bs) :
    s.told lim c = (Twin.steps lim (raw ++ c) last).map (fun t => StepV.shifted t last) ∧ Twin lim (s.feed lim c) (raw ++ c) (lastTo last last (Twin.steps lim (raw ++ c) last)) (lastQuit (Twin.steps lim (raw ++ c) last)) := by
  obtain ⟨h1, s0, hf, ho, ht, he⟩ := h.on rfl
  have hd : (raw ++ c).drop last = raw.drop last ++ c := List.drop_append_of_le_length h.le
  have hle := h.le
  obtain ⟨l, hl⟩ : ∃ l, l = (raw ++ c).drop last := ⟨_, rfl⟩
  have hlen : l.length = raw.length + c.length - last := by rw [hl, List.length_drop, List.length_append]
  have hby : s.bytes lim c = s0.bytes lim l := by rw [he, hl, hd, bytes_append]
  have hsh := allV_shift lim last (l.length + 1) 0 l
  rw [Nat.zero_add] at hsh
  have hst : Twin.steps lim (raw ++ c) last = (allV lim (l.length + 1) 0 l).1 := by unfold Twin.steps; rw [← hl]
  obtain ⟨P, hP⟩ : ∃ P, P = (allV lim (l.length + 1) 0 l).1 := ⟨_, rfl⟩
  rw [hst, ← hP]
  have h1s : (allV lim (l.length + 1) last l).1 = P.map (fun t => StepV.shifted t last) := by rw [hsh, hP]
  have ha := all_twin lim (l.length + 1) l hf (Nat.lt_succ_self _)
  rw [ht, ho, h1s] at ha
  simp only [List.nil_append] at ha
  have hgo := (all_goes lim (l.length + 1) l hf (Nat.lt_succ_self _)).1
  rw [ht, ho, h1s, List.nil_append] at hgo
  have htk : (s0.bytes lim l).taken = raw.length + c.length := by clear ha; have := (bytes_tells lim l s0).1; omega
  refine ⟨by unfold FeedV.told; rw [hby]; exact hgo, ?_⟩
  unfold FeedV.feed
  rw [hby]
  rcases ha with ⟨ts, t, g1, g2, g3, g4, g5, g6, g7⟩ | ⟨m, s1, g1, g2, g3, g4, g5, g6, g7⟩
  · obtain ⟨us, u, rfl, hu⟩ : ∃ us u, P = us ++ [u] ∧ StepV.shifted u last = t := by
      obtain ⟨us, vs, e1, e2, e3⟩ := List.map_eq_append_iff.1 g1
      match vs, e3 with
      | [u], e3 => exact ⟨us, u, e1, by simpa using e3⟩
    have hq : lastQuit (us ++ [u]) = true := by
      unfold lastQuit
      rw [List.getLast?_concat]
      have : u.cmd.verb = 18 := by rw [← hu] at g2; exact g2
      simp [this]
    have hto : lastTo last last (us ++ [u]) = t.to := by
      unfold lastTo
      rw [List.getLast?_concat, ← hu]; rfl
    rw [hq, hto]
    exact ⟨rfl, by rw [List.length_append]; exact htk, g4, by rw [List.length_append]; omega, fun _ => ⟨g3, g5⟩, fun h => by cases h⟩
  · have hone := one_goes lim (fresh_clear g2) (l.drop m)
    rw [g6] at hone
    have hpp := bytes_parts lim s1 (l.drop m)
    have hfin : ({ s0.bytes lim l with out := [] } : FeedV) = ({ s1 with out := [] } : FeedV).bytes lim (l.drop m) := by
      rw [g5, hpp]
      have := hone.1
      generalize ({ s1 with out := [] } : FeedV).bytes lim (l.drop m) = z at this ⊢
      cases z
      simp only at this ⊢
      simp [this]
    have hended : ({ s0.bytes lim l with out := [] } : FeedV).ended = false := by rw [hfin]; exact hone.2.1
    have hdr : ∀ k, k = last + m → (raw ++ c).drop k = l.drop m := fun k hk => by rw [hl, List.drop_drop, hk]
    have hmk : ∀ k q, k = last + m → q = false → Twin lim { s0.bytes lim l with out := [] } (raw ++ c) k q := fun k q hk hq => by
      subst hq
      exact ⟨rfl, by rw [List.length_append]; exact htk, hended, by rw [List.length_append]; omega, fun h => (by cases h), fun _ => ⟨by rw [hdr k hk]; exact g6, { s1 with out := [] }, fresh_clear g2, rfl, by show s1.taken = _; rw [g3, hk], by rw [hdr k hk]; exact hfin⟩⟩
    rcases g7 with ⟨g7, rfl⟩ | ⟨ts, t, g7, g8, g9⟩
    · have hPn : P = [] := List.map_eq_nil_iff.1 g7
      subst hPn
      exact hmk _ _ rfl rfl
    · obtain ⟨us, u, rfl, hu⟩ : ∃ us u, P = us ++ [u] ∧ StepV.shifted u last = t := by
        obtain ⟨us, vs, e1, e2, e3⟩ := List.map_eq_append_iff.1 g7
        match vs, e3 with
        | [u], e3 => exact ⟨us, u, e1, by simpa using e3⟩
      refine hmk _ _ ?_ ?_
      · unfold lastTo
        rw [List.getLast?_concat]
        have : u.to + last = t.to := by rw [← hu]; rfl
        show u.to + last = _
        omega
      · unfold lastQuit
        rw [List.getLast?_concat]
        have : u.cmd.verb ≠ 18 := by rw [← hu] at g9; exact g9
        simp [this]
end Go.Proofs.YthgfjafnclklpaaGreatDoor
end
section
namespace Go.Proofs.YthgfjafnclklpaaGreatDoor
attribute [local go_sem ↓] Go.wp_at_zero Go.wp_at_succ
open Go.RowKit Sp

/-- a line that was read: its length and its wrong's box -/
def KMid (w : World) (r : LineR) (bn wb : Value) (wx : World) : Prop :=
  bn = .int .i64 (lineN r) ∧ ∃ x0, wb = .pointer (some ⟨x0, 0, none⟩) ∧ wx.cell? ⟨x0, 0, none⟩ = some (.int .i64 (lineStep r).wrong.kind) ∧ Below w.heap.size w wx
theorem kMid_new {w w9 : World} {r : LineR} {k1 m1 : Option Addr} {k2 k3 m2 m3 : Nat} (hb : Below w.heap.size w w9) :
    KMid w r (.int .i64 (lineN r)) (.pointer (some ⟨w9.heap.size + 1, 0, none⟩))
      ((((w9.alloc (.cells (cmdArr {} nilRow nilRow nilRow) 38)).alloc (.cells (wrongArr {}) 59)).setCells w9.heap.size 0 (cmdList (lineStep r).cmd (.slice k1 k2 k3) nilRow (.slice m1 m2 m3))).setCells (w9.heap.size + 1) 0 (wrongList (lineStep r).wrong)) := by
  have hs1 : (w9.alloc (.cells (cmdArr {} nilRow nilRow nilRow) 38)).heap.size = w9.heap.size + 1 := by simp
  have hbx := Below.setCells (g := w9.heap.size + 1) (by omega : w9.heap.size ≤ w9.heap.size + 1) (wrongList (lineStep r).wrong) 0 (Below.setCells (Nat.le_refl _) (cmdList (lineStep r).cmd (.slice k1 k2 k3) nilRow (.slice m1 m2 m3)) 0 ((((Below.refl w9.heap.size w9).alloc (Nat.le_refl _) (.cells (cmdArr {} nilRow nilRow nilRow) 38)).alloc (by rw [hs1]; omega) (.cells (wrongArr {}) 59))))
  have b2 := Blk.new (w9.alloc (.cells (cmdArr {} nilRow nilRow nilRow) 38)) 59 (wrongArr {})
  rw [hs1] at b2
  have b3 : Blk _ _ _ _ := Blk.putWrong (Blk.farCells (g := w9.heap.size + 1) w9.heap.size (by omega) (cmdList (lineStep r).cmd (.slice k1 k2 k3) nilRow (.slice m1 m2 m3)) 0 b2) (lineStep r).wrong
  exact ⟨rfl, _, rfl, b3.cell 0, hb.trans (hbx.mono hb.size)⟩

theorem kept_stop (l : Bs) : ∃ e, e ≤ l.length ∧ (∀ (j : Nat) (b : UInt8), j < e → l[j]? = some b → b ≠ 10) ∧ ((e = l.length ∧ indexOf l 10 = none) ∨ (e < l.length ∧ l[e]? = some 10 ∧ indexOf l 10 = some e)) := by
  cases h : indexOf l 10 with
  | none => exact ⟨l.length, Nat.le_refl _, fun j b _ hb => indexOf_none h b (List.mem_of_getElem? hb), .inl ⟨rfl, rfl⟩⟩
  | some e =>
    obtain ⟨r, h1, h2, h3, h4⟩ := indexOf_some h
    have hlt : e < l.length := by
      have := congrArg List.length h1
      rw [List.length_append, h4, List.length_cons] at this
      omega
    refine ⟨e, by omega, fun j b hj hb => h2 b ?_, .inr ⟨hlt, ?_, rfl⟩⟩
    · have : (l.take e)[j]? = some b := by rw [List.getElem?_take, if_pos hj]; exact hb
      exact List.mem_of_getElem? this
    · rw [h1, List.getElem?_append_right (by omega), h4]; simp
/-- where the line is whole: its reading, and what stands behind its block -/
theorem kept_found {lim e : Nat} {l : Bs} (hi : indexOf l 10 = some e) (ho : oneV lim l = none) (r : LineR) (hr : r = lineOf (chop (l.take e))) :
    ((lineStep r).wrong.kind ≠ 0 ∧ keptV lim l = 0) ∨ ((lineStep r).wrong.kind = 0 ∧ 0 ≤ lineN r ∧ lineN r ≤ 2147483647 ∧ (((lim : Int) < lineN r ∧ keptV lim l = 0) ∨ (lineN r ≤ lim ∧ keptV lim l = if keepsBlock (l.drop (e + 1)) (lineN r).toNat = true then l.length else 0))) := by
  unfold oneV at ho
  unfold keptV
  rw [hi] at ho ⊢
  dsimp only at ho ⊢
  rw [← hr] at ho ⊢
  cases r with
  | bad x =>
    left
    have := (lineOf_bad hr.symm).1
    exact ⟨by show x.kind ≠ 0; omega, rfl⟩
  | ok c n =>
    right
    have hn := lineOf_ok hr.symm
    dsimp only at ho ⊢
    by_cases h0 : n < 0
    · rw [if_pos h0] at ho; cases ho
    · refine ⟨rfl, by show 0 ≤ n; omega, hn.2.1, ?_⟩
      by_cases h1 : (lim : Int) < n
      · left; rw [if_pos h1]; exact ⟨h1, rfl⟩
      · right; rw [if_neg h1]; exact ⟨by show n ≤ _; omega, rfl⟩

attribute [-go_sem] storeVar loadVar
attribute [local go_sem] loadVar_intY loadVar_u8Y run_store_cmd run_store_wrong run_store_step storeVar_int' storeVar_bool' storeVar_slice' storeVar_func' canPut_new canPut_setCell canPut_drew canPut_alloc canPut_setCells cell_setCells_far World.frozen?_setCells

set_option maxHeartbeats 8000000 in
set_option maxRecDepth 100000 in
theorem kept_any {w : World} {A : Option Addr} {cap : Nat} {l : Bs} (hrow : RowAt w A (bytesV l)) (hc : l.length ≤ cap) (hl : l.length ≤ 100000000) {lim : Nat} (hone : oneV lim l = none) :
    Calls Tryz.prog 119 #[.slice A l.length cap, .int .i64 lim] w fun e w' => e = .returned (.int .i64 (keptV lim l)) ∧ Below w.heap.size w w' := by
  obtain ⟨e, he, hne, hcase⟩ := kept_stop l
  generalize hR : (fun (e : Ending) (w' : World) => e = .returned (.int .i64 (keptV lim l)) ∧ Below w.heap.size w w') = R
  have HR := Lib.hid hR
  have HROW := Lib.hid hrow
  have HNE := Lib.hid hne
  have HCASE := Lib.hid hcase
  have HONE := Lib.hid hone
  clear hR hrow hne hcase hone
  go_enter Tryz.func119, Tryz.ntmps119
  go_upto_if 2 with fail
  go_loopw [5] (fun iv wr => ∃ k : Nat, k ≤ e ∧ iv = .int .i64 k ∧ w = wr) (fun iv _ => e - (intOf iv).toNat)
  case atStart => exact ⟨0, Nat.zero_le _, rfl, rfl⟩
  case round =>
    obtain ⟨k, hk, rfl, rfl⟩ := hrel
    by_cases hlt : k < e
    · have hk1 : (k : Int) < (l.length : Int) := by omega
      obtain ⟨b, hb⟩ : ∃ b, l[k]? = some b := ⟨l[k]'(by omega), List.getElem?_eq_getElem _⟩
      obtain ⟨g, o, hA, hcell⟩ := HROW.out.byte hb
      subst hA
      have hn10 : ((b.toNat : Int) != 10) = true := by rw [bne_iff_ne]; exact beq_eq_false_iff_ne.1 (byte_ne (c := 10) rfl (HNE.out k b hlt hb))
      have hme : e - ((k : Int) + 1).toNat < e - (k : Int).toNat := by omega
      have HME := Lib.hid hme
      clear hb hme
      go_wp2_with fail
      exact ⟨⟨k + 1, by omega, by go_num, trivial⟩, HME.out⟩
    · obtain rfl : k = e := by omega
      rcases HCASE.out with ⟨rfl, hi⟩ | ⟨hlt2, h10, hi⟩
      · obtain ⟨V, hV⟩ : ∃ V, V = keptV lim l := ⟨_, rfl⟩
        have hV2 : V = if keptLine l = true then l.length else 0 := by rw [hV]; unfold keptV; rw [hi]
        have HV := Lib.hid hV
        clear hV hlt
        by_cases h1 : 2049 < l.length
        · have g1 : (2049 : Int) < (l.length : Int) := by omega
          have hV0 : V = 0 := by
            rw [hV2, if_neg]; unfold keptLine
            simp only [Bool.or_eq_true, Bool.and_eq_true, decide_eq_true_eq]; omega
          clear hV2 hi
          go_wp2_with fail
          all_goals (rw [← HR.out]; exact ⟨by rw [← HV.out]; exact congrArg (fun z : Nat => Ending.returned (.int .i64 (z : Int))) hV0.symm, Below.refl _ _⟩)
        · by_cases h2 : l.length = 2049
          · obtain ⟨x, hx⟩ : ∃ x, l[2048]? = some x := ⟨l[2048]'(by omega), List.getElem?_eq_getElem _⟩
            have hgl : l.getLast? = some x := by rw [List.getLast?_eq_getElem?, h2]; exact hx
            obtain ⟨g, o, hA, hcell⟩ := HROW.out.byte hx
            subst hA
            by_cases h13 : x = 13
            · subst h13
              have hV0 : V = 2049 := by
                rw [hV2, if_pos, h2]; unfold keptLine
                simp [h2, hgl]
              clear hV2 hi hx hgl
              generalize l.length = n at *
              subst h2
              go_wp2_with fail
              all_goals (rw [← HR.out]; exact ⟨by rw [← HV.out]; exact congrArg (fun z : Nat => Ending.returned (.int .i64 (z : Int))) hV0.symm, Below.refl _ _⟩)
            · have hn13 : ((x.toNat : Int) != 13) = true := by rw [bne_iff_ne]; exact beq_eq_false_iff_ne.1 (byte_ne (c := 13) rfl h13)
              have hV0 : V = 0 := by
                rw [hV2, if_neg]; unfold keptLine
                simp [h2, hgl, h13]
              clear hV2 hi hx hgl
              generalize l.length = n at *
              subst h2
              go_wp2_with fail
              all_goals (rw [← HR.out]; exact ⟨by rw [← HV.out]; exact congrArg (fun z : Nat => Ending.returned (.int .i64 (z : Int))) hV0.symm, Below.refl _ _⟩)
          · have g1 : decide ((2049 : Int) < (l.length : Int)) = false := decide_eq_false (by omega)
            have g2 : ((l.length : Int) == 2049) = false := by rw [beq_eq_false_iff_ne]; omega
            have hV0 : V = l.length := by
              rw [hV2, if_pos]; unfold keptLine
              simp only [Bool.or_eq_true, Bool.and_eq_true, decide_eq_true_eq]; omega
            clear hV2 hi
            go_wp2_with fail
            all_goals (rw [← HR.out]; exact ⟨by rw [← HV.out]; exact congrArg (fun z : Nat => Ending.returned (.int .i64 (z : Int))) hV0.symm, Below.refl _ _⟩)
      · obtain ⟨g, o, hA, _⟩ := HROW.out.byte h10
        subst hA
        obtain ⟨T, hT⟩ : ∃ T, T = l.take k := ⟨_, rfl⟩
        have hTk : T.length = k := by rw [hT, List.length_take]; omega
        have hgw : g < w.heap.size := by
          rcases HROW.out with h0 | ⟨g', o', e1, e2, _⟩
          · have : l = [] := by simpa [bytesV] using h0
            rw [this] at hlt2; simp at hlt2
          · injection e1 with e1; injection e1 with e1; rw [e1]; exact e2
        have hcells : ∀ (j : Nat) (b : UInt8), l[j]? = some b → w.cell? ⟨g, o + j, none⟩ = some (.int .u8 b.toNat) := fun j b hb => by
          obtain ⟨g', o', e1, e2⟩ := HROW.out.byte hb
          injection e1 with e1; injection e1 with e1 e3
          rw [e1, e3]; exact e2
        have hTl : ∀ (j : Nat) (b : UInt8), T[j]? = some b → w.cell? ⟨g, o + j, none⟩ = some (.int .u8 b.toNat) := fun j b hb => hcells j b (by
          rw [hT, List.getElem?_take] at hb
          split at hb
          · exact hb
          · cases hb)
        obtain ⟨r, hr⟩ : ∃ r, r = lineOf (chop T) := ⟨_, rfl⟩
        have hkf := kept_found hi HONE.out r (by rw [hr, hT])
        have hlf : ∀ n : Nat, n = (chop T).length → Calls Tryz.prog 17 #[.slice (some ⟨g, o, none⟩) n cap] w _ := fun n hn => by
          rw [hn]
          refine refLine_flat ?_
          have h2 := HROW.out.take (chop T).length
          have e : chop T = l.take (chop T).length := by
            have h3 := (chop_take T).2
            have h4 : (chop T).length ≤ k := by have := chop_length T; omega
            conv => lhs; rw [h3]
            rw [hT, List.take_take]
            congr 1
            rw [← hT]; omega
          rw [e]
          simpa [bytesV] using h2
        rw [← hr] at hlf
        have HLF := Lib.hid hlf
        have HKF := Lib.hid hkf
        have HCELLS := Lib.hid hcells
        have HLAST := Lib.hid hTl
        have hke : ((k : Int) == (l.length : Int)) = false := by rw [beq_eq_false_iff_ne]; omega
        have hk1 : (k : Int) < (l.length : Int) := by omega
        have z10 := hcells k 10 h10
        have hkc : (k : Int) ≤ (cap : Int) := by omega
        clear hlf hkf hcells hTl hT hr hi h10 hlt
        go_upto_region 9 with fail
        obtain ⟨bz, hbz⟩ : ∃ bz, bz = decide (T.getLast? = some 13) := ⟨_, rfl⟩
        have HBZ := Lib.hid hbz
        clear hbz z10
        go_cut [61] (fun v wx => v = .bool bz ∧ wx = w)
        case first =>
          rcases Nat.eq_zero_or_pos k with h0 | h0
          · subst h0
            have hb0 : bz = false := by
              rw [HBZ.out, List.eq_nil_of_length_eq_zero hTk]; rfl
            subst hb0
            go_wp2_with fail
            go_meet
            exact ⟨rfl, rfl⟩
          · obtain ⟨x, hx⟩ : ∃ x, T[k - 1]? = some x := ⟨T[k - 1]'(by omega), List.getElem?_eq_getElem _⟩
            have hgl : T.getLast? = some x := by rw [List.getLast?_eq_getElem?, hTk]; exact hx
            obtain ⟨j, hj⟩ : ∃ j, k = j + 1 := ⟨k - 1, by omega⟩
            subst hj
            have hz : w.cell? ⟨g, o + j, none⟩ = some (.int .u8 x.toNat) := HLAST.out j x hx
            have hi0 : (0 : Int) < (j : Int) + 1 := by omega
            have hj1 : IntKind.i64.wrap ((j : Int) + 1 - 1) = (j : Int) := by rw [IntKind.wrap_i64]; omega
            have hj2 : (j : Int) < (j : Int) + 1 := by omega
            by_cases h13 : x = 13
            · subst h13
              have hb0 : bz = true := by rw [HBZ.out, hgl]; rfl
              subst hb0
              go_wp2_with fail
              go_meet
              exact ⟨rfl, rfl⟩
            · have hb0 : bz = false := by rw [HBZ.out, hgl]; exact decide_eq_false (fun e => h13 (Option.some.inj e))
              subst hb0
              have hne : ((x.toNat : Int) == 13) = false := byte_ne (c := 13) rfl h13
              go_wp2_with fail
              go_meet
              exact ⟨rfl, rfl⟩
        case rest =>
          obtain ⟨rfl, hwx⟩ := hcut
          replace hwx := hwx.symm
          subst hwx
          obtain ⟨n9, hn9⟩ : ∃ n9, n9 = (chop T).length := ⟨_, rfl⟩
          go_upto_if 61 with fail
          go_cut [6] (fun v wx => v = .slice (some ⟨g, o, none⟩) n9 cap ∧ wx = w)
          case first =>
            cases bz with
            | false =>
              have hn : n9 = k := by
                rw [hn9, ← hTk]; unfold chop; rw [if_neg (of_decide_eq_false HBZ.out.symm)]
              subst hn
              go_wp2_with fail
              go_meet
              exact ⟨rfl, rfl⟩
            | true =>
              have hlst : T.getLast? = some 13 := of_decide_eq_true HBZ.out.symm
              have hn : n9 + 1 = k := by
                have hpos : 0 < T.length := by
                  cases T with
                  | nil => cases hlst
                  | cons _ _ => exact Nat.succ_pos _
                rw [hn9]; unfold chop; rw [if_pos hlst, List.length_dropLast]; omega
              subst hn
              have hj1 : IntKind.i64.wrap ((n9 : Int) + 1 - 1) = (n9 : Int) := by rw [IntKind.wrap_i64]; omega
              have hj2 : (n9 : Int) ≤ (cap : Int) := by omega
              clear hlst hn9
              go_wp2_with fail
              go_meet
              exact ⟨rfl, rfl⟩
          case rest =>
            obtain ⟨rfl, hwx⟩ := hcut
            replace hwx := hwx.symm
            subst hwx
            have HN9 := Lib.hid hn9
            clear hn9
            go_upto_region 11 with fail
            go_cut [7, 8, 9] (fun _ bn wb wx => KMid w r bn wb wx)
            case first =>
              go_wp2_with (go_at_call 17; refine (HLF.out _ HN9.out).mono ?_; rintro e w9 ⟨k1, k2, k3, m1, m2, m3, rfl, hk', hm', hb⟩; have HB9 := Lib.hid hb; clear hk' hm' hb)
              go_meet
              exact kMid_new HB9.out
            case rest =>
              obtain ⟨rfl, x0, rfl, hkind, hbw⟩ := hcut
              obtain ⟨V, hV⟩ : ∃ V, V = keptV lim l := ⟨_, rfl⟩
              have HV := Lib.hid hV
              have hkf := HKF.out
              rw [← hV] at hkf
              have HBW := Lib.hid hbw
              clear hV hbw
              generalize (lineStep r).wrong.kind = kd at hkf hkind
              rcases hkf with ⟨h0, hV0⟩ | ⟨rfl, h0, h1, hrest⟩
              · have hne : ((kd : Int) != 0) = true := by rw [bne_iff_ne]; omega
                clear h0
                go_wp2_with fail
                all_goals (rw [← HR.out]; exact ⟨by rw [← HV.out]; exact congrArg (fun z : Nat => Ending.returned (.int .i64 (z : Int))) hV0.symm, HBW.out⟩)
              · obtain ⟨n, hn⟩ : ∃ n : Nat, lineN r = (n : Int) := ⟨(lineN r).toNat, by omega⟩
                rw [hn] at h0 h1 hrest ⊢
                have hn31 : n ≤ 2147483647 := by omega
                clear hn h0 h1
                rcases hrest with ⟨h2, hV0⟩ | ⟨h2, hV0⟩
                · go_wp2_with fail
                  all_goals (rw [← HR.out]; exact ⟨by rw [← HV.out]; exact congrArg (fun z : Nat => Ending.returned (.int .i64 (z : Int))) hV0.symm, HBW.out⟩)
                · have g2 : decide ((lim : Int) < (n : Int)) = false := decide_eq_false (by omega)
                  have g2' : decide (lim < n) = false := decide_eq_false (by omega)
                  obtain ⟨D, hD⟩ : ∃ D, D = l.drop (k + 1) := ⟨_, rfl⟩
                  have hDl : D.length = l.length - (k + 1) := by rw [hD, List.length_drop]
                  have hDc : ∀ (j : Nat) (b : UInt8), D[j]? = some b → wc.cell? ⟨g, o + (k + 1) + j, none⟩ = some (.int .u8 b.toNat) := fun j b hb => by
                    rw [hD, List.getElem?_drop] at hb
                    rw [Nat.add_assoc]
                    exact (HBW.out.cell (p := ⟨g, o + (k + 1 + j), none⟩) hgw).trans (HCELLS.out _ _ hb)
                  rw [← hD] at hV0
                  obtain ⟨m, hm⟩ : ∃ m, m = l.length - (k + 1) := ⟨_, rfl⟩
                  have hkw : IntKind.i64.wrap ((k : Int) + 1) = ((k + 1 : Nat) : Int) := by rw [IntKind.wrap_i64]; omega
                  have hkk : ((k + 1 : Nat) : Int) ≤ (l.length : Int) := by omega
                  have hlc : (l.length : Int) ≤ (cap : Int) := by omega
                  have hkk2 : (k : Int) + 1 ≤ (l.length : Int) := by omega
                  have hkk3 : k + 1 ≤ l.length := by omega
                  have hkw2 : IntKind.i64.wrap ((k : Int) + 1) = (k : Int) + 1 := by rw [IntKind.wrap_i64]; omega
                  have hkt : ((k : Int) + 1).toNat = k + 1 := by omega
                  have hmm : ((l.length : Int) - ((k + 1 : Nat) : Int)) = (m : Int) := by omega
                  have hDm : D.length = m := by omega
                  clear hD hDl h2
                  rw [show (n : Int).toNat = n from rfl] at hV0
                  go_upto_region 15 with fail
                  rw [← hm]
                  obtain ⟨B, hB⟩ : ∃ B, B = (if cap = k + 1 then some ({ block := g, off := o } : Addr) else some { block := g, off := o + (k + 1) }) := ⟨_, rfl⟩
                  rw [← hB]
                  have hB1 : n < m → B = some ⟨g, o + (k + 1), none⟩ := fun _ => by rw [hB, if_neg (by omega)]
                  have HDC := Lib.hid hDc
                  have HB1 := Lib.hid hB1
                  clear hm hmm hkw hkk hlc hDc hB hB1
                  by_cases hmn : m ≤ n
                  · have q1 : decide ((n : Int) < (m : Int)) = false := decide_eq_false (by omega)
                    have q2 : decide ((n : Int) + 1 < (m : Int)) = false := decide_eq_false (by omega)
                    have q1' : decide (n < m) = false := decide_eq_false (by omega)
                    have hV1 : V = l.length := by
                      rw [hV0, if_pos]; unfold keepsBlock
                      rw [List.getElem?_eq_none (by omega), List.getElem?_eq_none (by omega)]; rfl
                    clear hV0 hmn
                    go_wp2_with fail
                    all_goals (rw [← HR.out]; exact ⟨by rw [← HV.out]; exact congrArg (fun z : Nat => Ending.returned (.int .i64 (z : Int))) hV1.symm, HBW.out⟩)
                  · have q1 : (n : Int) < (m : Int) := by omega
                    obtain ⟨x, hx⟩ : ∃ x, D[n]? = some x := ⟨D[n]'(by omega), List.getElem?_eq_getElem _⟩
                    have hcx := HDC.out n x hx
                    obtain rfl := HB1.out (by omega)
                    by_cases h13 : x = 13
                    · subst h13
                      by_cases hmn1 : m ≤ n + 1
                      · have q2 : decide ((n : Int) + 1 < (m : Int)) = false := decide_eq_false (by omega)
                        have hV1 : V = l.length := by
                          rw [hV0, if_pos]; unfold keepsBlock
                          rw [hx, List.getElem?_eq_none (by omega)]; rfl
                        clear hV0 hmn hmn1 hx
                        go_wp2_with fail
                        all_goals (rw [← HR.out]; exact ⟨by rw [← HV.out]; exact congrArg (fun z : Nat => Ending.returned (.int .i64 (z : Int))) hV1.symm, HBW.out⟩)
                      · have q2 : (n : Int) + 1 < (m : Int) := by omega
                        obtain ⟨y, hy⟩ : ∃ y, D[n + 1]? = some y := ⟨D[n + 1]'(by omega), List.getElem?_eq_getElem _⟩
                        have hcy : wc.cell? ⟨g, o + (k + 1) + (n + 1), none⟩ = some (.int .u8 y.toNat) := HDC.out (n + 1) y hy
                        by_cases h10 : y = 10
                        · subst h10
                          have hV1 : V = l.length := by
                            rw [hV0, if_pos]; unfold keepsBlock
                            rw [hx, hy]; rfl
                          clear hV0 hmn hmn1 hx hy
                          go_wp2_with fail
                          all_goals (rw [← HR.out]; exact ⟨by rw [← HV.out]; exact congrArg (fun z : Nat => Ending.returned (.int .i64 (z : Int))) hV1.symm, HBW.out⟩)
                        · have hn10 : ((y.toNat : Int) != 10) = true := by rw [bne_iff_ne]; exact beq_eq_false_iff_ne.1 (byte_ne (c := 10) rfl h10)
                          have hV1 : V = 0 := by
                            rw [hV0, if_neg]; unfold keepsBlock
                            rw [hx, hy]; simp [h10]
                          clear hV0 hmn hmn1 hx hy
                          go_wp2_with fail
                          all_goals (rw [← HR.out]; exact ⟨by rw [← HV.out]; exact congrArg (fun z : Nat => Ending.returned (.int .i64 (z : Int))) hV1.symm, HBW.out⟩)
                    · have hn13 : ((x.toNat : Int) != 13) = true := by rw [bne_iff_ne]; exact beq_eq_false_iff_ne.1 (byte_ne (c := 13) rfl h13)
                      have hV1 : V = 0 := by
                        rw [hV0, if_neg]; unfold keepsBlock
                        rw [hx]; simp [h13]
                      clear hV0 hmn hx
                      go_wp2_with fail
                      all_goals (rw [← HR.out]; exact ⟨by rw [← HV.out]; exact congrArg (fun z : Nat => Ending.returned (.int .i64 (z : Int))) hV1.symm, HBW.out⟩)
end Go.Proofs.YthgfjafnclklpaaGreatDoor
end
section
namespace Go.Proofs.YthgfjafnclklpaaGreatDoor
attribute [local go_sem ↓] Go.wp_at_zero Go.wp_at_succ
open Go.RowKit Sp

/-- the document's Feeder in block wb -/
structure RefAt (w : World) (wb lim : Nat) (raw : Bs) (last : Nat) (quit : Bool) (rv : Value) : Prop where
  blk : Blk w wb 122 #[.int .i64 lim, rv, .int .i64 last, .bool quit]
  raw : w.ownsRow 0 5 1 rv raw.length (bytesV raw)
  ne : ∀ k ∈ rowBlock rv, k ≠ wb
section
variable {w w' : World} {wb lim last : Nat} {raw : Bs} {quit : Bool} {rv : Value}
theorem RefAt.lt (h : RefAt w wb lim raw last quit rv) : ∀ k ∈ wb :: rowBlock rv, k < w.heap.size := fun k hk => by
  rcases List.mem_cons.1 hk with rfl | hk
  · exact h.blk.lt
  · exact own_lt h.raw k hk
theorem RefAt.same (h : RefAt w wb lim raw last quit rv) (hs : ∀ k ∈ wb :: rowBlock rv, w'.heap[k]? = w.heap[k]?) : RefAt w' wb lim raw last quit rv :=
  ⟨h.blk.same (hs wb (List.mem_cons_self ..)), own_same h.raw fun k hk => hs k (List.mem_cons_of_mem _ hk), h.ne⟩
theorem RefAt.later (h : RefAt w wb lim raw last quit rv) (hb : Below w.heap.size w w') : RefAt w' wb lim raw last quit rv := h.same fun k hk => hb.block k (h.lt k hk)

theorem refNew_any (w : World) (limit : Int) : Calls Tryz.prog 32 #[.int .i64 limit] w fun e w' =>
    e = .returned (.pointer (some ⟨w.heap.size, 0, none⟩)) ∧ RefAt w' w.heap.size limit.toNat [] 0 false nilRow ∧ Below w.heap.size w w' := by
  have hfin : ∀ z : Int, z = (limit.toNat : Int) → RefAt (w.alloc (.cells #[.int .i64 z, nilRow, .int .i64 0, .bool false] 122)) w.heap.size limit.toNat [] 0 false nilRow := fun z hz => by
    subst hz
    exact ⟨Blk.new w _ _, World.ownsRow_nil _ _ _ _, fun k hk => by cases hk⟩
  have HF := Lib.hid hfin
  clear hfin
  by_cases h : limit < 0
  · have h1 : limit.toNat = 0 := by omega
    go_enter Tryz.func32, Tryz.ntmps32
    go_wp2_with fail
    go_ret
    exact ⟨rfl, HF.out 0 (by omega), (Below.refl _ _).alloc (Nat.le_refl _) _⟩
  · have h1 : decide (limit < 0) = false := decide_eq_false h
    go_enter Tryz.func32, Tryz.ntmps32
    go_wp2_with fail
    go_ret
    exact ⟨rfl, HF.out limit (by omega), (Below.refl _ _).alloc (Nat.le_refl _) _⟩
theorem refEnded_any (h : RefAt w wb lim raw last quit rv) : Calls Tryz.prog 74 #[.pointer (some ⟨wb, 0, none⟩)] w fun e w' => e = .returned (.bool quit) ∧ w' = w := by
  have x3 : w.cell? ⟨wb, 3, none⟩ = some (.bool quit) := h.blk.cell 3
  clear h
  go_enter Tryz.func74, Tryz.ntmps74
  go_wp2
  go_ret
  exact ⟨rfl, rfl⟩
theorem refTaken_any (h : RefAt w wb lim raw last quit rv) : Calls Tryz.prog 76 #[.pointer (some ⟨wb, 0, none⟩)] w fun e w' => e = .returned (.int .i64 raw.length) ∧ w' = w := by
  obtain ⟨p, c, rfl⟩ := own_form h.raw
  have x1 : w.cell? ⟨wb, 1, none⟩ = some (.slice p raw.length c) := h.blk.cell 1
  clear h
  go_enter Tryz.func76, Tryz.ntmps76
  go_wp2
  go_ret
  exact ⟨rfl, rfl⟩
/-- the address of what lies behind the first k of a row, as the model tells it -/
abbrev behindA (p : Option Addr) (c k : Nat) : Option Addr := if c = k then p else Option.map (fun x => x.add k) p
/-- the bytes behind the last step -/
theorem RefAt.rest (h : RefAt w wb lim raw last quit rv) {p : Option Addr} {c : Nat} (hrv : rv = .slice p raw.length c) : raw.length ≤ c ∧ RowAt w (behindA p c last) (bytesV (raw.drop last)) := by
  subst hrv
  have hr := RowAt.of_own h.raw
  rcases h.raw.2 with ⟨h1, h2⟩ | ⟨g, cap, cur, h1, _, _, h2, _⟩
  · have hz := List.eq_nil_of_length_eq_zero h2
    injection h1 with h1 _ h3
    exact ⟨by omega, .inl (by rw [hz]; simp [bytesV])⟩
  · injection h1 with h1 _ h3
    subst h1 h3
    refine ⟨h2, ?_⟩
    unfold behindA
    split
    · exact .inl (by rw [List.drop_eq_nil_of_le (by omega)]; rfl)
    · have := hr.stretch last (raw.length - last)
      have e2 : (raw.drop last).take (raw.length - last) = raw.drop last := List.take_of_length_le (by rw [List.length_drop]; omega)
      rw [← bytesV_stretch, e2] at this
      have e3 : (⟨g, 0, none⟩ : Addr).add last = ⟨g, 0 + last, none⟩ := by
        unfold Addr.add
        split
        · rename_i h0; rw [h0]
        · rfl
      show RowAt w (some ((⟨g, 0, none⟩ : Addr).add last)) _
      rw [e3]; exact this
set_option maxHeartbeats 2000000 in
set_option maxRecDepth 100000 in
theorem refHeld_any (h : RefAt w wb lim raw last quit rv) (hl : last ≤ raw.length) (hlen : raw.length ≤ 100000000) (hone : quit = false → oneV lim (raw.drop last) = none) :
    Calls Tryz.prog 72 #[.pointer (some ⟨wb, 0, none⟩)] w fun e w' => e = .returned (.int .i64 (Twin.heldV lim raw last quit)) ∧ Below w.heap.size w w' := by
  have x3 : w.cell? ⟨wb, 3, none⟩ = some (.bool quit) := h.blk.cell 3
  cases quit with
  | true =>
    clear h hone
    go_enter Tryz.func72, Tryz.ntmps72
    go_wp2
    go_ret
    exact ⟨rfl, Below.refl _ _⟩
  | false =>
    obtain ⟨p, c, hrv⟩ := own_form h.raw
    obtain ⟨hc, hrest⟩ := h.rest hrv
    subst hrv
    have x0 : w.cell? ⟨wb, 0, none⟩ = some (.int .i64 lim) := h.blk.cell 0
    have x1 : w.cell? ⟨wb, 1, none⟩ = some (.slice p raw.length c) := h.blk.cell 1
    have x2 : w.cell? ⟨wb, 2, none⟩ = some (.int .i64 last) := h.blk.cell 2
    have hlc : (last : Int) ≤ (raw.length : Int) := by omega
    have hcc : (raw.length : Int) ≤ (c : Int) := by omega
    have hk : ∀ W : World, Below w.heap.size w W → Calls Tryz.prog 119 #[.slice (behindA p c last) (raw.length - last) (c - last), .int .i64 lim] W fun e w' => e = .returned (.int .i64 (Twin.heldV lim raw last false)) ∧ Below W.heap.size W w' := fun W hW => by
      have := kept_any (cap := c - last) (hrest.below hW) (by rw [List.length_drop]; omega) (by rw [List.length_drop]; omega) (hone rfl)
      rw [List.length_drop] at this
      exact this
    have HK := Lib.hid hk
    clear h hone hk hrest hlen hl
    go_enter Tryz.func72, Tryz.ntmps72
    go_upto_region 3 with fail
    go_still_tail 13, (by kernel_rfl)
    change wpList _ _ _ _ _ w.drew
    go_wp2_with (go_at_call 119; refine (HK.out _ (Below.refl _ _).drew).mono ?_; rintro e w2 ⟨rfl, hb2⟩)
    all_goals go_ret
    all_goals exact ⟨rfl, (Below.refl _ _).drew.trans hb2⟩
end
end Go.Proofs.YthgfjafnclklpaaGreatDoor
end
section
namespace Go.Proofs.YthgfjafnclklpaaGreatDoor
attribute [local go_sem ↓] Go.wp_at_zero Go.wp_at_succ
open Go.RowKit Sp

/-- append of a row onto an owned row; where it lies then -/
theorem wpList_append_in2 {P : Program} {w : World} {ops : Array Oper} {rest : List Oper} {o : Oper} {a : Act} {Q : Exit → Act → World → Prop} (hgd : o.guard = none) (s x : Operand) (t : TypeId)
    (ho : o.op = .call { callee := .builtin .append, args := #[s, x], argTypes := #[t, t] })
    (base : Nat) (e : TypeId) (i : TypeInfo) (z : Value) (size bytes : Nat) (ht : P.underlying t = some (.slice e)) (hi : P.info? e = some i) (hz : i.zero = some z)
    (hsize : i.size = size) (hby : i.bytes = bytes) (hzs : z.cells.size = size) (hsz : 0 < size)
    (v : Value) (n : Nat) (xs : List Value) (hs : a.eval s = v) (hown : w.ownsRow base e size v n xs)
    (A : Option Addr) (m c : Nat) (news : List Value) (hx : a.eval x = .slice A m c) (hrow : RowAt w A news) (hA : A = none → c = 0) (hl : news.length = m * size) (h1 : ∀ u ∈ news, u.oneCell' = true)
    (h63 : n + m ≤ maxLen) (hbytes : (n + m) * bytes ≤ 140737488355328) (hbase : base ≤ w.heap.size)
    (h : ∀ v' w', w'.ownsRow base e size v' (n + m) (xs ++ news) → w.grownBy w' v.ownBlock → (v'.ownBlock = v.ownBlock ∨ v'.ownBlock = some w.heap.size) → wpList P ops Q rest (a.put o.dst v') w') :
    wpList P ops Q (o :: rest) a w := by
  cases A with
  | none =>
    obtain rfl := hA rfl
    obtain rfl : news = [] := hrow.elim id (fun ⟨_, _, h, _⟩ => by cases h)
    obtain rfl : m = 0 := by
      rcases Nat.eq_zero_or_pos m with h0 | h0
      · exact h0
      · have := Nat.mul_pos h0 hsz; simp at hl; omega
    refine wpList_append_own_none hgd s x t ho base e i size ht hi v n xs hs hown hx ?_
    exact h v w (by rw [Nat.add_zero, List.append_nil]; exact hown) ⟨rfl, rfl, rfl, Nat.le_refl _, fun _ _ _ => rfl⟩ (.inl rfl)
  | some ad =>
    refine wpList_append_own_at w hgd s x t ho base e i z size bytes ht hi hz hsize hby hzs hsz v n xs hs hown ad m c news hx hl hrow.cells h1 h63 hbytes hbase ?_
    intro v' w' g1 g2 _ g4
    exact h v' w' g1 g2 g4
theorem RefAt.more {w w2 : World} {wb lim last : Nat} {raw l : Bs} {quit : Bool} {rv v' : Value} (h : RefAt w wb lim raw last quit rv) (hg : w.grownBy w2 rv.ownBlock) (ho : w2.ownsRow 0 5 1 v' (raw.length + l.length) (bytesV raw ++ bytesV l)) (hv : v'.ownBlock = rv.ownBlock ∨ v'.ownBlock = some w.heap.size) :
    RefAt (w2.setCell ⟨wb, 1, none⟩ v') wb lim (raw ++ l) last quit v' ∧ (∀ k ∈ rowBlock v', k ∈ rowBlock rv ∨ w.heap.size ≤ k) ∧ OnlyIn (wb :: rowBlock rv) w (w2.setCell ⟨wb, 1, none⟩ v') := by
  have hn : ∀ k ∈ rowBlock v', k ∈ rowBlock rv ∨ w.heap.size ≤ k := fun k hk => by
    rcases hv with e | e
    · left; rw [mem_rowBlock] at hk ⊢; rw [← e]; exact hk
    · right; rw [mem_rowBlock, e] at hk; injection hk with hk; omega
  have hne : ∀ k ∈ rowBlock v', k ≠ wb := fun k hk => by
    rcases hn k hk with h1 | h1
    · exact h.ne k h1
    · have := h.blk.lt; omega
  have hb2 : Blk w2 wb 122 _ := h.blk.grown hg (fun e => h.ne wb (mem_rowBlock.2 e.symm) rfl)
  refine ⟨⟨?_, ?_, hne⟩, hn, ?_⟩
  · have := hb2.put 1 v'
    exact this
  · rw [List.length_append, bytesV_append]
    exact own_same ho fun k hk => Below.heap_setCell w2 ⟨wb, 1, none⟩ v' k (hne k hk)
  · exact (((OnlyIn.refl (wb :: rowBlock rv) w).trans (OnlyIn.grown hg) fun k hk => .inl (List.mem_cons_of_mem _ hk))).setCell (.inl (List.mem_cons_self ..)) 1 v'

/-- what the document's Feed tells -/
def Twin.told (lim : Nat) (raw : Bs) (last : Nat) (quit : Bool) (l : Bs) : List StepV := if quit = true then [] else (Twin.steps lim (raw ++ l) last).map fun t => StepV.shifted t last
def Twin.last2 (lim : Nat) (raw : Bs) (last : Nat) (quit : Bool) (l : Bs) : Nat := if quit = true then last else lastTo last last (Twin.steps lim (raw ++ l) last)
def Twin.quit2 (lim : Nat) (raw : Bs) (last : Nat) (quit : Bool) (l : Bs) : Bool := if quit = true then true else lastQuit (Twin.steps lim (raw ++ l) last)
theorem Twin.fed {lim : Nat} {s : FeedV} {raw : Bs} {last : Nat} {quit : Bool} (h : Twin lim s raw last quit) (c : Bs) : s.told lim c = Twin.told lim raw last quit c ∧ Twin lim (s.feed lim c) (raw ++ c) (Twin.last2 lim raw last quit c) (Twin.quit2 lim raw last quit c) := by
  cases quit with
  | true => exact h.quit c
  | false => exact h.feed c
structure RefFed (w : World) (wb lim : Nat) (raw : Bs) (last : Nat) (quit : Bool) (rv : Value) (l : Bs) (e : Ending) (w' : World) : Prop where
  ok : ∃ B c tcs bl rv', e = .returned (.slice B (Twin.told lim raw last quit l).length c) ∧ w'.ownsRow w.heap.size 99 16 (.slice B (Twin.told lim raw last quit l).length c) (Twin.told lim raw last quit l).length tcs ∧ StepsMem w' (Twin.told lim raw last quit l) tcs bl ∧
    RefAt w' wb lim (raw ++ l) (Twin.last2 lim raw last quit l) (Twin.quit2 lim raw last quit l) rv' ∧ (∀ k ∈ rowBlock rv', k ∈ rowBlock rv ∨ w.heap.size ≤ k) ∧ OnlyIn (wb :: rowBlock rv) w w'

/-- the first i steps have their places in all bytes -/
def mixV (d : Nat) (P : List StepV) (i : Nat) : List StepV := (P.take i).map (fun t => StepV.shifted t d) ++ P.drop i
theorem mixV_at {d : Nat} {P : List StepV} {i : Nat} {t : StepV} (h : P[i]? = some t) : (mixV d P i)[i]? = some t ∧ mixV d P (i + 1) = (mixV d P i).set i (t.span (t.frm + d) (t.to + d)) := by
  obtain ⟨h1, h2⟩ := List.getElem?_eq_some_iff.1 h
  have hl : ((P.take i).map (fun t => StepV.shifted t d)).length = i := by simp; omega
  unfold mixV
  constructor
  · rw [List.getElem?_append_right (by omega), hl, Nat.sub_self, List.getElem?_drop, Nat.add_zero]; exact h
  · rw [List.set_append_right _ _ (by omega), hl, Nat.sub_self, List.drop_eq_getElem_cons h1, h2, List.set_cons_zero, List.take_add_one, h, List.map_append, List.append_assoc]
    rfl
theorem lieV_in : ∀ {ts : List StepV} {a b : Nat}, lieV a ts b → ∀ t ∈ ts, t.frm ≤ b ∧ t.to ≤ b
  | [], _, _, _, t, h => by cases h
  | t0 :: ts, a, b, ⟨h1, h2, h3⟩, t, h => by
    have := lieV_le h3
    rcases List.mem_cons.1 h with rfl | h
    · omega
    · exact lieV_in h3 t h
theorem StepsMem.spanAt {w : World} : ∀ {ts : List StepV} {cs : List Value} {bl : List Nat}, StepsMem w ts cs bl → ∀ {i : Nat} {t : StepV}, ts[i]? = some t → ∀ a b : Nat,
    StepsMem w (ts.set i (t.span a b)) ((cs.set (i * 16 + 14) (.int .i64 a)).set (i * 16 + 15) (.int .i64 b)) bl ∧ cs[i * 16 + 0]? = some (.int .i64 t.cmd.verb) ∧ cs[i * 16 + 14]? = some (.int .i64 t.frm) ∧ cs[i * 16 + 15]? = some (.int .i64 t.to)
  | [], _, _, _, i, t, h, _, _ => by simp at h
  | t0 :: ts, cs, bl, ⟨kv, dv, mv, cs', bl', h1, h2, h3, h4⟩, 0, t, h, a, b => by
    have : t0 = t := by simpa using h
    subst this
    subst h1
    refine ⟨⟨kv, dv, mv, cs', bl', ?_, h2, h3, h4⟩, ?_, ?_, ?_⟩
    · simp [stepCells, cmdCells, wrongCells, StepV.span]
    · simp [stepCells, cmdCells]
    · simp [stepCells, cmdCells, wrongCells]
    · simp [stepCells, cmdCells, wrongCells]
  | t0 :: ts, cs, bl, ⟨kv, dv, mv, cs', bl', h1, h2, h3, h4⟩, i + 1, t, h, a, b => by
    have hi : ts[i]? = some t := by simpa using h
    obtain ⟨g1, g2, g3, g4⟩ := StepsMem.spanAt h4 hi a b
    subst h1
    have hl : (stepCells t0 kv dv mv).length = 16 := rfl
    have e : ∀ j, (stepCells t0 kv dv mv ++ cs')[(i + 1) * 16 + j]? = cs'[i * 16 + j]? := fun j => by
      rw [List.getElem?_append_right (by omega), hl]; congr 1; omega
    refine ⟨⟨kv, dv, mv, _, bl', ?_, h2, h3, g1⟩, ?_, ?_, ?_⟩
    · rw [List.set_append_right _ _ (by omega), List.set_append_right _ _ (by omega), hl]
      congr 3 <;> omega
    · rw [e]; exact g2
    · rw [e]; exact g3
    · rw [e]; exact g4
theorem lastTo_snoc (d q : Nat) (ts : List StepV) (t : StepV) : lastTo d q (ts ++ [t]) = t.to + q := by
  unfold lastTo; rw [List.getLast?_concat]; rfl
theorem lastQuit_snoc (ts : List StepV) (t : StepV) : lastQuit (ts ++ [t]) = decide (t.cmd.verb = 18) := by
  unfold lastQuit; rw [List.getLast?_concat]; rfl
theorem info_u8E : (Tryz.prog.info? 5).map (fun i => (i.zero, i.size, i.bytes)) = some (some (.int .u8 0), 1, 1) := by kernel_rfl

theorem CmdMem.noType {W : World} {c : CmdV} {kv dv mv : Value} (h : CmdMem W c kv dv mv) {g : Nat} {ty : TypeId} {cs : Array Value} (hb : Blk W g ty cs) (h1 : 9 ≠ ty) (h2 : 5 ≠ ty) (h3 : 94 ≠ ty) : ∀ k ∈ cmdBlocks kv dv mv, k ≠ g := by
  intro k hk e
  subst e
  simp only [cmdBlocks, List.mem_append, mem_rowBlock] at hk
  rcases hk with hk | hk | hk
  · exact own_apart h.keys hb h1 hk
  · exact own_apart h.data hb h2 hk
  · exact own_apart h.metas hb h3 hk
theorem StepsMem.noType {w : World} {g : Nat} {ty : TypeId} {arr : Array Value} (hb : Blk w g ty arr) (h1 : 9 ≠ ty) (h2 : 5 ≠ ty) (h3 : 94 ≠ ty) : ∀ {ts : List StepV} {cs : List Value} {bl : List Nat}, StepsMem w ts cs bl → ∀ k ∈ bl, k ≠ g
  | [], _, _, ⟨_, h⟩, k, hk => by simp [h] at hk
  | _ :: _, _, _, ⟨kv, dv, mv, cs', bl', g1, g2, g3, g4⟩, k, hk => by
    subst g2
    rcases List.mem_append.1 hk with hk | hk
    · exact g3.noType hb h1 h2 h3 k hk
    · exact StepsMem.noType hb h1 h2 h3 g4 k hk
theorem allV_count (lim : Nat) : ∀ (r a : Nat) (l : Bs), (allV lim r a l).1.length ≤ r
  | 0, _, _ => by simp [allV]
  | r + 1, a, l => by
    unfold allV
    split
    · exact Nat.zero_le _
    · rename_i t0 n ho
      split
      · simp
      · simpa using allV_count lim r (a + n) (l.drop n)
section
variable {w w2 W : World} {wb lim last : Nat} {raw l : Bs} {rv v' : Value}
theorem RefFed.over (h : RefAt W wb lim (raw ++ l) last true v') (hn : ∀ k ∈ rowBlock v', k ∈ rowBlock rv ∨ w.heap.size ≤ k) (ho : OnlyIn (wb :: rowBlock rv) w W) : RefFed w wb lim raw last true rv l (.returned (.slice none 0 0)) W :=
  ⟨none, 0, [], [], v', rfl, World.ownsRow_nil _ _ _ _, ⟨rfl, rfl⟩, h, hn, ho⟩
/-- where the loop of Feed stands: the first i of its steps have their places in all bytes -/
structure RefMid (W : World) (wb lim : Nat) (raw : Bs) (last : Nat) (P : List StepV) (B : Option Addr) (c : Nat) (bl : List Nat) (v' : Value) (i : Nat) (wx : World) : Prop where
  own : ∃ tcs, wx.ownsRow W.heap.size 99 16 (.slice B P.length c) P.length tcs ∧ StepsMem wx (mixV last P i) tcs bl
  ref : RefAt wx wb lim raw (lastTo last last (P.take i)) (lastQuit (P.take i)) v'
  only : OnlyIn (wb :: rowBlock v') W wx
theorem RefFed.fin {P : List StepV} (hP : P = Twin.steps lim (raw ++ l) last) {B : Option Addr} {c : Nat} {bl : List Nat} {wx : World} (h : RefMid W wb lim (raw ++ l) last P B c bl v' P.length wx) (hW : w.heap.size ≤ W.heap.size) (hn : ∀ k ∈ rowBlock v', k ∈ rowBlock rv ∨ w.heap.size ≤ k) (ho : OnlyIn (wb :: rowBlock rv) w W) :
    RefFed w wb lim raw last false rv l (.returned (.slice B P.length c)) wx := by
  obtain ⟨tcs, h1, h2⟩ := h.own
  have h3 := h.ref
  rw [List.take_length] at h3
  have e : Twin.told lim raw last false l = P.map fun t => StepV.shifted t last := by unfold Twin.told; rw [hP]; rfl
  have e2 : mixV last P P.length = P.map fun t => StepV.shifted t last := by unfold mixV; rw [List.take_length, List.drop_length, List.append_nil]
  have e3 : Twin.last2 lim raw last false l = lastTo last last P := by unfold Twin.last2; rw [hP]; rfl
  have e4 : Twin.quit2 lim raw last false l = lastQuit P := by unfold Twin.quit2; rw [hP]; rfl
  rw [e2] at h2
  refine ⟨B, c, tcs, bl, v', ?_, ?_, ?_, ?_, hn, ?_⟩
  · rw [e, List.length_map]
  · rw [e, List.length_map]; exact World.ownsRow.mono h1 hW
  · rw [e]; exact h2
  · rw [e3, e4]; exact h3
  · refine ho.trans h.only fun k hk => ?_
    rcases List.mem_cons.1 hk with rfl | hk
    · exact .inl (List.mem_cons_self ..)
    · exact (hn k hk).imp (List.mem_cons_of_mem _) id
theorem RefMid.start {P : List StepV} {B : Option Addr} {c : Nat} {tcs : List Value} {bl : List Nat} {wx : World} (h : RefAt W wb lim raw last false v') (hb : Below W.heap.size W wx) (h1 : wx.ownsRow W.heap.size 99 16 (.slice B P.length c) P.length tcs) (h2 : StepsMem wx P tcs bl) : RefMid W wb lim raw last P B c bl v' 0 wx :=
  ⟨⟨tcs, h1, h2⟩, h.later hb, OnlyIn.of hb _⟩
/-- what a round reads -/
structure RefCells (wx : World) (wb g i last : Nat) (t : StepV) (u2 u3 : Value) : Prop where
  ne : g ≠ wb
  frm : wx.cell? ⟨g, i * 16 + 14, none⟩ = some (.int .i64 t.frm)
  till : wx.cell? ⟨g, i * 16 + 15, none⟩ = some (.int .i64 t.to)
  verb : wx.cell? ⟨g, i * 16, none⟩ = some (.int .i64 t.cmd.verb)
  frz : ∀ j, wx.frozen? ⟨g, j, none⟩ = false
  c2 : wx.cell? ⟨wb, 2, none⟩ = some u2
  c3 : wx.cell? ⟨wb, 3, none⟩ = some u3
  f2 : wx.frozen? ⟨wb, 2, none⟩ = false
  f3 : wx.frozen? ⟨wb, 3, none⟩ = false
theorem RefMid.cells {P : List StepV} {B : Option Addr} {c i : Nat} {bl : List Nat} {wx : World} (h : RefMid W wb lim raw last P B c bl v' i wx) {t : StepV} (ht : P[i]? = some t) (hwb : wb < W.heap.size) : ∃ g u2 u3, B = some ⟨g, 0, none⟩ ∧ RefCells wx wb g i last t u2 u3 := by
  obtain ⟨tcs, h1, h2⟩ := h.own
  have hi := (List.getElem?_eq_some_iff.1 ht).1
  obtain ⟨g, cap, e, hlt, _⟩ := World.ownsRow.form h1 (by omega)
  injection e with e1 _ e2
  subst e1 e2
  have hge := own_ge h1 g (mem_rowBlock.2 rfl)
  obtain ⟨_, g2, g3, g4⟩ := h2.spanAt (mixV_at ht).1 0 0
  refine ⟨g, _, _, rfl, ⟨by omega, ?_, ?_, ?_, fun j => h1.frozenAt j, h.ref.blk.cell 2, h.ref.blk.cell 3, h.ref.blk.frozen 2, h.ref.blk.frozen 3⟩⟩
  · rw [h1.cellAt _ (by omega)]; exact g3
  · rw [h1.cellAt _ (by omega)]; exact g4
  · rw [h1.cellAt _ (by omega)]; exact g2
theorem RefMid.on {P : List StepV} {c i g : Nat} {bl : List Nat} {wx : World} (h : RefMid W wb lim raw last P (some ⟨g, 0, none⟩) c bl v' i wx) {t : StepV} (ht : P[i]? = some t) (hwb : wb < W.heap.size) :
    RefMid W wb lim raw last P (some ⟨g, 0, none⟩) c bl v' (i + 1) ((((wx.setCell ⟨g, i * 16 + 14, none⟩ (.int .i64 ((t.frm : Int) + (last : Int)))).setCell ⟨g, i * 16 + 15, none⟩ (.int .i64 ((t.to : Int) + (last : Int)))).setCell ⟨wb, 2, none⟩ (.int .i64 ((t.to : Int) + (last : Int)))).setCell ⟨wb, 3, none⟩ (.bool (decide (t.cmd.verb = 18)))) := by
  rw [show (t.frm : Int) + (last : Int) = ((t.frm + last : Nat) : Int) from (Int.natCast_add _ _).symm, show (t.to : Int) + (last : Int) = ((t.to + last : Nat) : Int) from (Int.natCast_add _ _).symm]
  obtain ⟨tcs, h1, h2⟩ := h.own
  have hge := own_ge h1 g (mem_rowBlock.2 rfl)
  obtain ⟨e1, e2⟩ := mixV_at (d := last) ht
  obtain ⟨g1, _, _, _⟩ := h2.spanAt e1 (t.frm + last) (t.to + last)
  have hblk : ∃ cur, Blk wx g 99 cur := by
    rcases h1.2 with ⟨e0, _⟩ | ⟨g', cap, cur, e0, _, hg, _⟩
    · cases e0
    · injection e0 with e0; injection e0 with e0; injection e0 with e0
      subst e0
      exact ⟨cur, hg⟩
  obtain ⟨cur, hblk⟩ := hblk
  have hgw : g ≠ wb := by omega
  have hbg : ∀ k ∈ bl, k ≠ g := h2.noType hblk (by decide) (by decide) (by decide)
  have hbw : ∀ k ∈ bl, k ≠ wb := h2.noType h.ref.blk (by decide) (by decide) (by decide)
  have hrg : ∀ k ∈ rowBlock v', k ≠ g := fun k hk e => own_apart h.ref.raw hblk (by decide) (by rw [← e]; exact mem_rowBlock.1 hk)
  obtain ⟨p1, _⟩ := h1.stored (i * 16 + 14) (.int .i64 ((t.frm + last : Nat) : Int))
  obtain ⟨p2, _⟩ := p1.stored (i * 16 + 15) (.int .i64 ((t.to + last : Nat) : Int))
  have hk : ∀ (W : World) (b : Nat) (j : Nat) (u : Value) (k : Nat), k ≠ b → (W.setCell ⟨b, j, none⟩ u).heap[k]? = W.heap[k]? := fun W b j u k hn => Below.heap_setCell W ⟨b, j, none⟩ u k hn
  have hsame : ∀ k, k ≠ g → k ≠ wb → ((((wx.setCell ⟨g, i * 16 + 14, none⟩ (.int .i64 ((t.frm + last : Nat) : Int))).setCell ⟨g, i * 16 + 15, none⟩ (.int .i64 ((t.to + last : Nat) : Int))).setCell ⟨wb, 2, none⟩ (.int .i64 ((t.to + last : Nat) : Int))).setCell ⟨wb, 3, none⟩ (.bool (decide (t.cmd.verb = 18)))).heap[k]? = wx.heap[k]? := fun k h1 h2 => by
    rw [hk _ _ _ _ _ h2, hk _ _ _ _ _ h2, hk _ _ _ _ _ h1, hk _ _ _ _ _ h1]
  have htk : P.take (i + 1) = P.take i ++ [t] := by rw [List.take_add_one, ht]; rfl
  refine ⟨⟨_, own_same (own_same p2 (w' := (((wx.setCell ⟨g, i * 16 + 14, none⟩ (.int .i64 ((t.frm + last : Nat) : Int))).setCell ⟨g, i * 16 + 15, none⟩ (.int .i64 ((t.to + last : Nat) : Int))).setCell ⟨wb, 2, none⟩ (.int .i64 ((t.to + last : Nat) : Int)))) fun k hk2 => ?_) fun k hk2 => ?_, ?_⟩, ⟨?_, own_same h.ref.raw fun k hk2 => hsame k (hrg k hk2) (h.ref.ne k hk2), h.ref.ne⟩, ?_⟩
  · exact hk _ _ _ _ _ (fun e => hgw (by have h9 : some g = some k := mem_rowBlock.1 hk2; injection h9 with h9; exact h9.trans e))
  · exact hk _ _ _ _ _ (fun e => hgw (by have h9 : some g = some k := mem_rowBlock.1 hk2; injection h9 with h9; exact h9.trans e))
  · rw [e2]
    exact g1.same fun k hk2 => hsame k (hbg k hk2) (hbw k hk2)
  · have hb0 : Blk ((wx.setCell ⟨g, i * 16 + 14, none⟩ (.int .i64 ((t.frm + last : Nat) : Int))).setCell ⟨g, i * 16 + 15, none⟩ (.int .i64 ((t.to + last : Nat) : Int))) wb _ _ := h.ref.blk.same (by rw [hk _ _ _ _ _ (Ne.symm hgw), hk _ _ _ _ _ (Ne.symm hgw)])
    have := (hb0.put 2 (.int .i64 ((t.to + last : Nat) : Int))).put 3 (.bool (decide (t.cmd.verb = 18)))
    rw [htk, lastTo_snoc, lastQuit_snoc]
    exact this
  · exact (((h.only.setCell (.inr hge) _ _).setCell (.inr hge) _ _).setCell (.inl (List.mem_cons_self ..)) _ _).setCell (.inl (List.mem_cons_self ..)) _ _
end
attribute [-go_sem] storeVar
attribute [local go_sem] storeVar_int' storeVar_bool' storeVar_slice'
set_option maxHeartbeats 4000000 in
set_option maxRecDepth 100000 in
theorem refFeed_any {w : World} {wb lim last : Nat} {raw : Bs} {quit : Bool} {rv : Value} {A : Option Addr} {cap : Nat} {l : Bs} (h : RefAt w wb lim raw last quit rv) (hrow : RowAt w A (bytesV l)) (hA : A = none → cap = 0) (hlast : last ≤ raw.length) (hlen : raw.length + l.length ≤ 100000) (hlim : (lim : Int) ≤ 9223372036854775807) :
    Calls Tryz.prog 37 #[.pointer (some ⟨wb, 0, none⟩), .slice A l.length cap] w (RefFed w wb lim raw last quit rv l) := by
  generalize hR : RefFed w wb lim raw last quit rv l = R
  obtain ⟨p, c, hrv⟩ := own_form h.raw
  subst hrv
  obtain ⟨i0, hi, hz0, hz1, hz2⟩ := info_parts info_u8E
  have x1 : w.cell? ⟨wb, 1, none⟩ = some (.slice p raw.length c) := h.blk.cell 1
  have hl1 : (bytesV l).length = l.length * 1 := by rw [bytesV_length, Nat.mul_one]
  have hb1 : ∀ u ∈ bytesV l, u.oneCell' = true := fun u hu => by obtain ⟨b, _, rfl⟩ := List.mem_map.1 hu; rfl
  have hraw := h.raw
  have HR := Lib.hid hR
  have HH := Lib.hid h
  have HRAW := Lib.hid hraw
  have HROW := Lib.hid hrow
  have HA := Lib.hid hA
  have HL1 := Lib.hid hl1
  have HB1 := Lib.hid hb1
  obtain ⟨raw2, hraw2⟩ : ∃ raw2, raw2 = raw ++ l := ⟨_, rfl⟩
  have hl2 : raw2.length = raw.length + l.length := by rw [hraw2, List.length_append]
  have hwb := h.blk.lt
  have HRW := Lib.hid hraw2
  have HL2 := Lib.hid hl2
  clear hR h hraw hrow hA hl1 hb1 hraw2 hl2
  go_enter Tryz.func37, Tryz.ntmps37
  go_upto_region 2 with (at_builtin; refine wpList_append_in2 rfl (.tmp 13) (.tmp 14) 35 rfl 0 5 i0 _ 1 1 Tryz.underlying35 hi hz0 hz1 hz2 rfl (by decide) (.slice p raw.length c) raw.length (bytesV raw) rfl HRAW.out A l.length cap (bytesV l) rfl HROW.out HA.out HL1.out HB1.out ?_ ?_ ?_ ?_; (unfold maxLen; omega); omega; omega; intro v2 w2 hown2 hg2 hv2; have hm := HH.out.more hg2 hown2 hv2; have hb2 := HH.out.blk.grown hg2 (fun e => HH.out.ne wb (mem_rowBlock.2 e.symm) rfl); have q1 : w2.cell? ⟨wb, 1, none⟩ = some (.slice p raw.length c) := hb2.cell 1; have q1f := hb2.frozen 1; rw [← HL2.out] at hown2; rw [← HRW.out] at hm; have hsz2 := hg2.size; obtain ⟨p2, c2, hv2'⟩ := own_form hown2; subst hv2'; have HM := Lib.hid hm; clear hm hb2 hown2 hg2 hv2)
  obtain ⟨W1, hW1⟩ : ∃ W1, W1 = w2.setCell ⟨wb, 1, none⟩ (.slice p2 raw2.length c2) := ⟨_, rfl⟩
  have hm1 := HM.out
  rw [← hW1] at hm1
  rw [← hW1]
  have hs1 : w.heap.size ≤ W1.heap.size := by rw [hW1]; simpa [World.setCell] using hsz2
  clear q1 q1f HM hW1 hsz2 x1
  obtain ⟨hra, hrn, hro⟩ := hm1
  have hwb1 := hra.blk.lt
  have HRA := Lib.hid hra
  have HRN := Lib.hid hrn
  have HRO := Lib.hid hro
  have z3 : W1.cell? ⟨wb, 3, none⟩ = some (.bool quit) := hra.blk.cell 3
  cases quit with
  | true =>
    have hfin := RefFed.over (l := l) (by rw [← HRW.out]; exact hra) hrn hro
    rw [HR.out] at hfin
    have HF := Lib.hid hfin
    clear hfin hra hrn hro
    go_wp2_with fail
    exact HF.out
  | false =>
    obtain ⟨hc2, hrest⟩ := hra.rest rfl
    have z0 : W1.cell? ⟨wb, 0, none⟩ = some (.int .i64 lim) := hra.blk.cell 0
    have z1 : W1.cell? ⟨wb, 1, none⟩ = some (.slice p2 raw2.length c2) := hra.blk.cell 1
    have z2 : W1.cell? ⟨wb, 2, none⟩ = some (.int .i64 last) := hra.blk.cell 2
    have hl2 := HL2.out
    have hlc : (last : Int) ≤ (raw2.length : Int) := by omega
    have hcc : (raw2.length : Int) ≤ (c2 : Int) := by omega
    have hll : ((raw2.drop last).length) = raw2.length - last := List.length_drop
    have hall : ∀ (W : World) (n : Nat), Below W1.heap.size W1 W → n = (raw2.drop last).length → Calls Tryz.prog 26 #[.slice (behindA p2 c2 last) n (c2 - last), .int .i64 lim] W (AllPost W (allV lim ((raw2.drop last).length + 1) 0 (raw2.drop last))) := fun W n hW hn => by
      subst hn
      have := refAll_any (cap := c2 - last) (hrest.below hW) (by omega) (by omega) (limit := (lim : Int)) hlim
      rwa [Int.toNat_natCast] at this
    obtain ⟨X, hX⟩ : ∃ X, X = allV lim ((raw2.drop last).length + 1) 0 (raw2.drop last) := ⟨_, rfl⟩
    rw [← hX] at hall
    have hP : X.1 = Twin.steps lim (raw ++ l) last := by rw [hX, HRW.out]; rfl
    obtain ⟨b, hlie, hbl, _⟩ := allV_lies lim ((raw2.drop last).length + 1) 0 (raw2.drop last) (Nat.lt_succ_self _)
    rw [← hX] at hlie
    have hcount := allV_count lim ((raw2.drop last).length + 1) 0 (raw2.drop last)
    rw [← hX] at hcount
    have hX1 : X.1.length ≤ 100001 := by omega
    clear hcount
    have hin := lieV_in hlie
    have hsl := fun W : World => run_slice_from W p2 raw2.length c2 last (by omega)
    obtain ⟨D, hD⟩ : ∃ D, D = cutAddr p2 last c2 := ⟨_, rfl⟩
    rw [← hD] at hsl
    have hk := hall W1.drew (raw2.length - last) (Below.refl _ _).drew hll.symm
    rw [show behindA p2 c2 last = D from hD.symm] at hk
    have HK := Lib.hid hk
    have HP := Lib.hid hP
    have HIN := Lib.hid hin
    have hb100 : b ≤ 100000 := by omega
    clear hra hrn hro hall hX hP hlie hin hk hrest hll hbl hl2 hD
    go_upto_region 4 with fail
    go_region_held3 (fun w' => w'.cell? ⟨wb, 0, none⟩ = some (.int .i64 lim) ∧ w'.cell? ⟨wb, 1, none⟩ = some (.slice p2 raw2.length c2) ∧ w'.cell? ⟨wb, 2, none⟩ = some (.int .i64 last)) (first | with_reducible exact ⟨z0, z1, z2⟩ | go_keep) ((go_at_call 26; refine HK.out.mono ?_; rintro e w3 ⟨B, cB, tcs, bl, rfl, hown3, hst3, _, _, hb3⟩; have hb13 : Below W1.heap.size W1 w3 := (Below.refl _ _).drew.trans hb3; have z0 : w3.cell? ⟨wb, 0, none⟩ = some (.int .i64 lim) := (HRA.out.later hb13).blk.cell 0; have z1 : w3.cell? ⟨wb, 1, none⟩ = some (.slice p2 raw2.length c2) := (HRA.out.later hb13).blk.cell 1; have z2 : w3.cell? ⟨wb, 2, none⟩ = some (.int .i64 last) := (HRA.out.later hb13).blk.cell 2; have hst := RefMid.start HRA.out hb13 hown3 hst3; have HST := Lib.hid hst; clear hown3 hst3 hb3 hb13 hst))
    go_wp2_with fail
    go_loopw [8] (fun iv wx => ∃ i : Nat, i ≤ X.1.length ∧ iv = .int .i64 i ∧ RefMid W1 wb lim raw2 last X.1 B cB bl (.slice p2 raw2.length c2) i wx) (fun iv _ => X.1.length - (intOf iv).toNat)
    case atStart => exact ⟨0, Nat.zero_le _, rfl, HST.out⟩
    case round =>
      obtain ⟨i, hi, rfl, hm⟩ := hrel
      by_cases hlt : i < X.1.length
      · obtain ⟨t, ht⟩ : ∃ t, X.1[i]? = some t := ⟨X.1[i], by simp [hlt]⟩
        obtain ⟨g, u2, u3, hB, hc⟩ := hm.cells ht hwb1
        subst hB
        have hto := HIN.out t (List.mem_of_getElem? ht)
        have hon := hm.on ht hwb1
        obtain ⟨hne, y14, y15, y0, yf, e2, e3, f2, f3⟩ := hc
        have hi1 : (i : Int) < (X.1.length : Int) := by omega
        have HON := Lib.hid hon
        clear hm hon ht
        obtain ⟨vb, hvb⟩ : ∃ vb : Nat, vb = t.cmd.verb := ⟨_, rfl⟩
        rw [← hvb] at y0
        have HVB := Lib.hid hvb
        clear hvb
        by_cases hq : vb = 18
        · have hq2 : ((vb : Int) == 18) = true := by rw [hq]; rfl
          have HQ := Lib.hid hq
          clear hq
          go_wp2_with fail
          have hd : decide (t.cmd.verb = 18) = true := decide_eq_true (HVB.out.symm.trans HQ.out)
          have hf := HON.out
          rw [hd] at hf
          exact ⟨⟨i + 1, by omega, by go_num, hf⟩, by show X.1.length - ((i : Int) + 1).toNat < X.1.length - (i : Int).toNat; omega⟩
        · have hq2 : ((vb : Int) == 18) = false := by simp; omega
          have HQ := Lib.hid hq
          clear hq
          go_wp2_with fail
          have hd : decide (t.cmd.verb = 18) = false := decide_eq_false (fun e => HQ.out (HVB.out.trans e))
          have hf := HON.out
          rw [hd] at hf
          exact ⟨⟨i + 1, by omega, by go_num, hf⟩, by show X.1.length - ((i : Int) + 1).toNat < X.1.length - (i : Int).toNat; omega⟩
      · have hi1 : decide ((i : Int) < (X.1.length : Int)) = false := decide_eq_false (by omega)
        have hi2 : decide (i < X.1.length) = false := decide_eq_false (by omega)
        obtain rfl : i = X.1.length := by omega
        have hfin := RefFed.fin HP.out (by rw [← HRW.out]; exact hm) hs1 HRN.out HRO.out
        rw [HR.out] at hfin
        have HF := Lib.hid hfin
        clear hm hfin
        go_wp2_with fail
        exact HF.out
end Go.Proofs.YthgfjafnclklpaaGreatDoor
end
