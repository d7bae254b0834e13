/- append(x, make([]T, n)...): the room behind is filled with zeros. The Loan: lists that are handed in, with spare room behind them. Printed by gen/genLo.py. The Loan's Back: all is as it was; then it is written over. The Loan's Command: a command whose keys and data are lent. -/
import Derived.Test.YthgfjafnclklpaaGreatDoorBk
import Derived.Test.YthgfjafnclklpaaGreatDoorQ39
import Derived.Test.YthgfjafnclklpaaGreatDoorOc
section
namespace Go.Proofs.YthgfjafnclklpaaGreatDoor
open Go.RowKit

theorem zeroCells_at {z : Array Value} {m k c : Nat} (hk : k < m) (hc : c < z.size) : (Builtin.zeroCells z m).toList[k * z.size + c]? = z.toList[c]? := by
  have hlt : k * z.size + c < m * z.size := (mul_add_cmp hc).2 hk
  unfold Builtin.zeroCells
  rw [Array.getElem?_toList, Array.getElem?_map, Array.getElem?_range, Array.getElem?_toList]
  simp only [hlt, if_true, Option.map_some]
  rw [show (k * z.size + c) % z.size = c by rw [Nat.add_comm, Nat.add_mul_mod_self_right]; exact Nat.mod_eq_of_lt hc]
  rw [Array.getElem?_eq_getElem hc]
  simp [hc]

section
variable {P : Program} {w : World}
theorem run_append_zeros_room {t tx ty e : TypeId} {i : TypeInfo} {z : Value} (ht : P.underlying t = some (.slice e)) (htx : P.underlying tx = some (.int .i64)) (hi : P.info? e = some i) (hz : i.zero = some z) {b sLen sCap m : Nat}
    (hm : m * i.bytes ≤ 281474976710656) (hm2 : m ≤ 4611686018427387904) (hm0 : 0 < m * i.size)
    (hroom : sLen + m ≤ sCap) (hc : ∀ j, j < (Builtin.zeroCells z.cells m).toList.length → (w.cell? ⟨b, sLen * i.size + j, none⟩).isSome = true) (hf : ∀ j, j < (Builtin.zeroCells z.cells m).toList.length → w.frozen? ⟨b, sLen * i.size + j, none⟩ = false) (h1 : ∀ u ∈ (Builtin.zeroCells z.cells m).toList, u.oneCell' = true) :
    (Builtin.append_ #[t, tx] ty #[.slice (some ⟨b, 0, none⟩) sLen sCap, .int .i64 m]).run P w = .ok (.slice (some ⟨b, 0, none⟩) (sLen + m) sCap) (w.setCells b (sLen * i.size) (Builtin.zeroCells z.cells m).toList) := by
  have hst := run_storeCells_cells (P := P) b (sLen * i.size) (Builtin.zeroCells z.cells m).toList 0 w (by simpa using hc) (by simpa using hf) h1
  simp only [Nat.add_zero] at hst
  have hw : IntKind.i64.wrap (m : Int) = m := IntWalk.i64_in _ (by omega)
  have hb : ¬ (281474976710656 < (m : Int) * (i.bytes : Int)) := by
    rw [← Int.natCast_mul]; omega
  have h0 : m * i.size ≠ 0 := by omega
  have hn : ¬ ((m : Int) < 0) := by omega
  simp [Builtin.append_, run_underlying ht, run_underlying htx, sizeOf, typeInfo, zeroValue, hi, hz, asInt, asIntOf, hw, hb, hn, h0, hroom, Addr.add_lit, hst]
theorem run_append_zeros_grow {t tx ty e : TypeId} {i : TypeInfo} {z : Value} (ht : P.underlying t = some (.slice e)) (htx : P.underlying tx = some (.int .i64)) (hi : P.info? e = some i) (hz : i.zero = some z) {base : Option Addr} {sLen sCap m : Nat} {olds : List Value}
    (hold : (Builtin.firstCells i.size sLen (.slice base sLen sCap)).run P w.drew = .ok olds.toArray w.drew)
    (hm : m * i.bytes ≤ 281474976710656) (hm2 : m ≤ 4611686018427387904) (hm0 : 0 < m * i.size)
    (hg : sCap < sLen + m) (h63 : ((sLen + m : Nat) : Int) ≤ 9223372036854775807) (hfit : Builtin.nextslicecap (sLen + m) sCap * i.bytes ≤ 281474976710656) :
    (Builtin.append_ #[t, tx] ty #[.slice base sLen sCap, .int .i64 m]).run P w =
      .ok (.slice (some ⟨w.heap.size, 0, none⟩) (sLen + m) (grownCap w (sLen + m) sCap e))
        (w.drew.alloc (.cells ((olds ++ (Builtin.zeroCells z.cells m).toList).toArray ++ Builtin.zeroCells z.cells (grownCap w (sLen + m) sCap e - (sLen + m))) e)) := by
  have hnr : ¬ (sLen + m ≤ sCap) := by omega
  have h63' : ¬ (9223372036854775807 < ((sLen : Int) + (m : Int))) := by omega
  have h48' : ¬ (281474976710656 < Builtin.nextslicecap (sLen + m) sCap * i.bytes) := by omega
  have hw : IntKind.i64.wrap (m : Int) = m := IntWalk.i64_in _ (by omega)
  have hb : ¬ (281474976710656 < (m : Int) * (i.bytes : Int)) := by
    rw [← Int.natCast_mul]; omega
  have h0 : m * i.size ≠ 0 := by omega
  have hn : ¬ ((m : Int) < 0) := by omega
  have hmx : max (m : Int) 0 = m := by omega
  simp [Builtin.append_, run_underlying ht, run_underlying htx, sizeOf, typeInfo, zeroValue, hi, hz, asInt, asIntOf, hw, hb, hn, hmx, h0, hnr, h63', h48', Question.forced, hold, newRow, grownCap]
  congr 2
  apply Array.ext'
  simp [List.append_assoc]
end

section
variable {w : World} {f : Nat → Lab} {l : Lab} {sz n m : Nat} {F : Nat → List Value} {v : Value}
/-- zeros are appended onto a lot -/
theorem Lot.appendz {P : Program} {bytes : Nat} {t tx ty e : TypeId} {i : TypeInfo} {z : Value} (ht : P.underlying t = some (.slice e)) (hi : P.info? e = some i) (hz : i.zero = some z) (hsz : i.size = sz) (hby : i.bytes = bytes) (hzs : z.cells.size = sz)
    (hF : ∀ k, (F k).length = sz) (h : Lot w sz v n n F) (hl : LabV f v l) (htx : P.underlying tx = some (.int .i64)) (hz0 : 0 < sz) (hz1 : ∀ u ∈ (Builtin.zeroCells z.cells m).toList, u.oneCell' = true) (hFz : ∀ k, k < m → F (n + k) = z.cells.toList)
    (hm : 0 < m) (hm3 : m ≤ 4611686018427387904) (h63 : n + m ≤ maxLen) (h47 : (n + m) * bytes ≤ 140737488355328) :
    ∃ g cap w', (Builtin.append_ #[t, tx] ty #[v, .int .i64 m]).run P w = .ok (.slice (some ⟨g, 0, none⟩) (n + m) cap) w' ∧ Lot w' sz (.slice (some ⟨g, 0, none⟩) (n + m) cap) (n + m) (n + m) F ∧
      relab f w l g = l ∧ Wrote f (relab f w l) l sz F w w' := by
  subst hsz hby
  obtain ⟨news, hnews⟩ : ∃ news, news = (Builtin.zeroCells z.cells m).toList := ⟨_, rfl⟩
  have hnl : news.length = m * i.size := by rw [hnews, Array.length_toList, size_zeroCells, hzs]
  have hn : ∀ k, k < m → ∀ c, c < i.size → news[k * i.size + c]? = (F (n + k))[c]? := fun k hk c hc => by
    rw [hFz k hk, hnews, ← hzs]
    exact zeroCells_at hk (by rw [hzs]; exact hc)
  have hmm : m * i.bytes ≤ 281474976710656 := by have := Nat.mul_le_mul_right i.bytes (Nat.le_add_left m n); omega
  have hmz : 0 < m * i.size := Nat.mul_pos hm hz0
  rw [← hnews] at hz1
  have hroom : ∀ g cap, LotAt w i.size g n cap n F → f g = l → v = .slice (some ⟨g, 0, none⟩) n cap → n + m ≤ cap →
      ∃ g cap w', (Builtin.append_ #[t, tx] ty #[v, .int .i64 m]).run P w = .ok (.slice (some ⟨g, 0, none⟩) (n + m) cap) w' ∧ Lot w' i.size (.slice (some ⟨g, 0, none⟩) (n + m) cap) (n + m) (n + m) F ∧
      relab f w l g = l ∧ Wrote f (relab f w l) l i.size F w w' := by
    intro g cap ha hg hv hr
    subst hv
    have hle : (n + m) * i.size ≤ cap * i.size := Nat.mul_le_mul_right _ hr
    rw [Nat.add_mul] at hle
    have hrun := run_append_zeros_room (P := P) (w := w) (t := t) (tx := tx) (ty := ty) ht htx hi hz (b := g) (sLen := n) (sCap := cap) hmm hm3 hmz hr (fun j hj => by rw [← hnews, hnl] at hj; exact (ha.there _ (by omega)).1) (fun j hj => by rw [← hnews, hnl] at hj; exact (ha.there _ (by omega)).2) (by rw [← hnews]; exact hz1)
    rw [← hnews] at hrun
    have hw : Wrote f f l i.size F w (w.setCells g (n * i.size) news) := Wrote.setCells hg hnl hn (fun j hj => (ha.there _ (by omega)).1)
    have hw2 : Wrote f (relab f w l) l i.size F w (w.setCells g (n * i.size) news) :=
      ⟨⟨hw.only.os, hw.only.tape, hw.only.output, hw.only.size, hw.only.block, fun k hk => relab_old hk, fun k h1 _ => relab_new h1⟩, hw.there, hw.frozen, hw.conf⟩
    refine ⟨g, cap, _, hrun, .inr ⟨g, cap, rfl, Nat.le_refl _, hr, ha.small, Nat.lt_of_lt_of_le ha.lt hw.only.size, fun j hj => ⟨hw.there g j (ha.there j hj).1, by rw [hw.frozen g j ha.lt]; exact (ha.there j hj).2⟩, fun k hk c u hu => ?_⟩, by rw [relab_old ha.lt]; exact hg, hw2⟩
    have hc : c < i.size := by rw [← hF k]; exact (List.getElem?_eq_some_iff.1 hu).1
    by_cases hkn : k < n
    · exact hw.conf g k c u hc hu (ha.cells k hkn c u hu)
    · obtain ⟨d, rfl⟩ : ∃ d, k = n + d := ⟨k - n, by omega⟩
      have hlt : d * i.size + c < m * i.size := (mul_add_cmp hc).2 (by omega)
      have hh := World.cell?_setCells_in g news (n * i.size) w (fun j hj => by rw [hnl] at hj; exact (ha.there _ (by omega)).1) (d * i.size + c) (by rw [hnl]; exact hlt)
      have hx : news[d * i.size + c]? = some u := (hn d (by omega) c hc).trans hu
      rw [show (n + d) * i.size + c = n * i.size + (d * i.size + c) by rw [Nat.add_mul]; omega, hh]
      rw [List.getElem?_eq_some_iff] at hx
      obtain ⟨_, hx⟩ := hx
      rw [hx]
  have hgrow : ∀ (A : Option Addr) (cap : Nat) (olds : List Value), v = .slice A n cap → cap < n + m → (Builtin.firstCells i.size n (.slice A n cap)).run P w.drew = .ok olds.toArray w.drew → olds.length = n * i.size →
      (∀ k, k < n → ∀ c, c < i.size → olds[k * i.size + c]? = (F k)[c]?) →
      ∃ g cap w', (Builtin.append_ #[t, tx] ty #[v, .int .i64 m]).run P w = .ok (.slice (some ⟨g, 0, none⟩) (n + m) cap) w' ∧ Lot w' i.size (.slice (some ⟨g, 0, none⟩) (n + m) cap) (n + m) (n + m) F ∧
      relab f w l g = l ∧ Wrote f (relab f w l) l i.size F w w' := by
    intro A cap olds hv hlt hold hol hoc
    subst hv
    have hgf := growslice_fits (need := n + m) (old := cap) (bytes := i.bytes) (by omega) h47
    have hrun := run_append_zeros_grow (P := P) (w := w) (t := t) (tx := tx) (ty := ty) ht htx hi hz hold hmm hm3 hmz hlt (by unfold maxLen at h63; omega) hgf
    rw [← hnews] at hrun
    have hge := grownCap_ge w (n + m) cap e
    have hcm : grownCap w (n + m) cap e ≤ maxLen := grownCap_le_maxLen w (n + m) cap _ h63
    generalize grownCap w (n + m) cap e = cp at hrun hge hcm
    have hh := heap_alloc_new w.drew (.cells ((olds ++ news).toArray ++ Builtin.zeroCells z.cells (cp - (n + m))) e)
    change (World.alloc _ _).heap[w.heap.size]? = _ at hh
    have hsz2 : ((olds ++ news).toArray ++ Builtin.zeroCells z.cells (cp - (n + m))).size = cp * i.size := by
      have e1 : (olds ++ news).toArray.size = (n + m) * i.size := by simp [hol, hnl, Nat.add_mul]
      rw [Array.size_append, e1, size_zeroCells, hzs, ← Nat.add_mul]
      congr 1
      omega
    have hbel : Below w.heap.size w (w.drew.alloc (.cells ((olds ++ news).toArray ++ Builtin.zeroCells z.cells (cp - (n + m))) e)) := ((Below.refl w.heap.size w).drew).alloc (Nat.le_refl _) _
    refine ⟨w.heap.size, cp, _, hrun, .inr ⟨w.heap.size, cp, rfl, Nat.le_refl _, hge, hcm, by simp, fun j hj => ⟨?_, ?_⟩, fun k hk c u hu => ?_⟩, relab_new (Nat.le_refl _), Wrote.of_below hbel f l _ F⟩
    · unfold World.cell?
      rw [hh]
      simp only [Option.isSome_none, Bool.false_eq_true, if_false]
      rw [Array.getElem?_eq_getElem (by rw [hsz2]; exact hj)]
      rfl
    · unfold World.frozen?
      rw [hh]
      simp
    · have hc : c < i.size := by rw [← hF k]; exact (List.getElem?_eq_some_iff.1 hu).1
      have h3 : (olds ++ news)[k * i.size + c]? = some u := by
        by_cases hkn : k < n
        · rw [List.getElem?_append_left (by rw [hol]; exact (mul_add_cmp hc).2 hkn), hoc k hkn c hc]; exact hu
        · obtain ⟨d, rfl⟩ : ∃ d, k = n + d := ⟨k - n, by omega⟩
          rw [List.getElem?_append_right (by rw [hol, Nat.add_mul]; omega), hol, show (n + d) * i.size + c - n * i.size = d * i.size + c by rw [Nat.add_mul]; omega, hn d (by omega) c hc]
          exact hu
      unfold World.cell?
      rw [hh]
      simp only [Option.isSome_none, Bool.false_eq_true, if_false]
      rw [Array.getElem?_append_left (by have := (List.getElem?_eq_some_iff.1 h3).1; simpa using this)]
      simpa using h3
  rcases h with ⟨hv, hn0, _⟩ | ⟨g, cap, hv, _, ha⟩
  · subst hn0
    exact hgrow none 0 [] hv (by omega) (run_firstCells_none w.drew i.size 0 0 0) (by simp) (fun k hk => by omega)
  · by_cases hr : n + m ≤ cap
    · exact hroom g cap ha (hl g (by rw [hv]; rfl)) hv hr
    · have hlen : ∀ a ∈ List.range n, (F a).length = i.size := fun a _ => hF a
      refine hgrow (some ⟨g, 0, none⟩) cap ((List.range n).flatMap F) hv (by omega) (run_firstCells_some w.drew i.size n ⟨g, 0, none⟩ n cap _ ?_ (fun j u hu => ?_)) ?_ (fun k hk c hc => ?_)
      · rw [fm_len hlen, List.length_range]
      · obtain ⟨k, a, c, hk, hc, rfl, hcs⟩ := fm_at hlen hu
        have hkl : k < n := by have := (List.getElem?_eq_some_iff.1 hk).1; simpa using this
        have : a = k ∧ k < n := by
          rw [List.getElem?_range hkl] at hk
          injection hk with hk
          exact ⟨hk.symm, hkl⟩
        obtain ⟨rfl, hkn⟩ := this
        rw [Addr.add_mid, Nat.zero_add]
        exact ha.cells a hkn c u hc
      · rw [fm_len hlen, List.length_range]
      · exact fm_get hlen (by rw [List.getElem?_range hk]) hc

end
section
variable {w : World} {P : Program} {Q : Exit → Act → World → Prop} {a : Act} {o : Oper}
theorem wp_append_lotz {K : Act → World → Prop} (s x : Operand) (t tx : TypeId) (ho : o.op = .call { callee := .builtin .append, args := #[s, x], argTypes := #[t, tx] })
    (f : Nat → Lab) (l : Lab) (F : Nat → List Value) (e : TypeId) (i : TypeInfo) (z : Value) (sz bytes : Nat) (ht : P.underlying t = some (.slice e)) (hi : P.info? e = some i) (hz : i.zero = some z) (hsz : i.size = sz) (hby : i.bytes = bytes) (hzs : z.cells.size = sz)
    (hF : ∀ k, (F k).length = sz) (v : Value) (n : Nat) (hs : a.eval s = v) (h : Lot w sz v n n F) (hl : LabV f v l) (m : Nat) (hx : a.eval x = .int .i64 m) (htx : P.underlying tx = some (.int .i64)) (hz0 : 0 < sz) (hz1 : ∀ u ∈ (Builtin.zeroCells z.cells m).toList, u.oneCell' = true) (hFz : ∀ k, k < m → F (n + k) = z.cells.toList)
    (hm : 0 < m) (hm3 : m ≤ 4611686018427387904) (h63 : n + m ≤ maxLen) (h47 : (n + m) * bytes ≤ 140737488355328)
    (hK : ∀ g cap w', Lot w' sz (.slice (some ⟨g, 0, none⟩) (n + m) cap) (n + m) (n + m) F → relab f w l g = l → Wrote f (relab f w l) l sz F w w' → K (a.put o.dst (.slice (some ⟨g, 0, none⟩) (n + m) cap)) w') : o.wp P a w K Q := by
  obtain ⟨g, cap, w', hr, h2, h3, h4⟩ := Lot.appendz (P := P) (ty := o.type) (tx := tx) ht hi hz hsz hby hzs hF h hl htx hz0 hz1 hFz hm hm3 h63 h47
  unfold Oper.wp execOp
  simp only [ho, resolve, invoke, builtin, Sem.run_bind, Sem.run_pure, Result.andThen_ok, List.map_toArray, List.map_cons, List.map_nil, hs, hx, hr]
  exact hK _ _ _ h2 h3 h4
theorem wpList_append_lotz {ops : Array Oper} {rest : List Oper} (hgd : o.guard = none) (s x : Operand) (t tx : TypeId) (ho : o.op = .call { callee := .builtin .append, args := #[s, x], argTypes := #[t, tx] })
    (f : Nat → Lab) (l : Lab) (F : Nat → List Value) (e : TypeId) (i : TypeInfo) (z : Value) (sz bytes : Nat) (ht : P.underlying t = some (.slice e)) (hi : P.info? e = some i) (hz : i.zero = some z) (hsz : i.size = sz) (hby : i.bytes = bytes) (hzs : z.cells.size = sz)
    (hF : ∀ k, (F k).length = sz) (v : Value) (n : Nat) (hs : a.eval s = v) (h : Lot w sz v n n F) (hl : LabV f v l) (m : Nat) (hx : a.eval x = .int .i64 m) (htx : P.underlying tx = some (.int .i64)) (hz0 : 0 < sz) (hz1 : ∀ u ∈ (Builtin.zeroCells z.cells m).toList, u.oneCell' = true) (hFz : ∀ k, k < m → F (n + k) = z.cells.toList)
    (hm : 0 < m) (hm3 : m ≤ 4611686018427387904) (h63 : n + m ≤ maxLen) (h47 : (n + m) * bytes ≤ 140737488355328)
    (hK : ∀ g cap w', Lot w' sz (.slice (some ⟨g, 0, none⟩) (n + m) cap) (n + m) (n + m) F → relab f w l g = l → Wrote f (relab f w l) l sz F w w' → wpList P ops Q rest (a.put o.dst (.slice (some ⟨g, 0, none⟩) (n + m) cap)) w') : wpList P ops Q (o :: rest) a w :=
  wpList_plain hgd fun _ hk => wp_append_lotz s x t tx ho f l F e i z sz bytes ht hi hz hsz hby hzs hF v n hs h hl m hx htx hz0 hz1 hFz hm hm3 h63 h47 fun g cap w' h2 h3 h4 => hk _ _ (hK g cap w' h2 h3 h4)
end
end Go.Proofs.YthgfjafnclklpaaGreatDoor
end
section
namespace Go.Proofs.YthgfjafnclklpaaGreatDoor
attribute [local go_sem ↓] Go.wp_at_zero Go.wp_at_succ
open Go.RowKit

theorem Lot.part {w : World} {sz n m m' : Nat} {v : Value} {F G : Nat → List Value} (h : Lot w sz v n m F) (hm : m' ≤ m) (hG : ∀ k, k < m' → G k = F k) : Lot w sz v n m' G := by
  rcases h with ⟨h1, h2, h3⟩ | ⟨g, cap, rfl, hmn, h⟩
  · exact .inl ⟨h1, h2, by omega⟩
  · exact .inr ⟨g, cap, rfl, by omega, h.room, h.small, h.lt, h.there, fun k hk c u hu => h.cells k (by omega) c u (by rw [← hG k hk]; exact hu)⟩
theorem Lot.len {w : World} {sz n m : Nat} {v : Value} {F : Nat → List Value} (h : Lot w sz v n n F) (e : n = m) : Lot w sz v m m F := by subst e; exact h
theorem Lot.toAt {w : World} {sz g n cap m : Nat} {F : Nat → List Value} (h : Lot w sz (.slice (some ⟨g, 0, none⟩) n cap) n m F) : m ≤ n ∧ LotAt w sz g n cap m F := by
  rcases h with ⟨h1, _⟩ | ⟨g', cap', h1, hmn, h⟩
  · cases h1
  · injection h1 with h1 _ h3; injection h1 with h1; injection h1 with h1; subst h1 h3
    exact ⟨hmn, h⟩
theorem LotAt.toLot {w : World} {sz g n cap m : Nat} {F : Nat → List Value} (h : LotAt w sz g n cap m F) (hm : m ≤ n) : Lot w sz (.slice (some ⟨g, 0, none⟩) n cap) n m F := .inr ⟨g, cap, rfl, hm, h⟩

/-- the Loan in block lg -/
structure LoanAt (w : World) (f : Nat → Lab) (lg : Nat) (l0 l1 l2 l3 : Value) (vs ws us xs : List Value) (bs : List Sp.Bs) (ts : List (List Sp.Bs)) : Prop where
  blk : Blk w lg 43 #[l0, l1, l2, l3]
  self : f lg = (30, 0)
  row0 : RowL w f (31, 0) l0 vs
  row1 : RowL w f (31, 1) l1 ws
  row2 : RowL w f (32, 0) l2 us
  row3 : RowL w f (32, 1) l3 xs
  len0 : vs.length = bs.length
  len1 : ws.length = bs.length
  len2 : us.length = ts.length
  len3 : xs.length = ts.length
  lots0 : LotsAt w f 33 1 vs (sizeB bs) (sizeB bs) (keptB bs)
  lots1 : LotsAt w f 34 1 ws (sizeB bs) (sizeB bs) (keptB bs)
  lots2 : LotsAt w f 35 1 us (sizeT ts) (sizeT ts) (keptT ts)
  lots3 : LotsAt w f 36 1 xs (sizeT ts) (sizeT ts) (keptT ts)
  few : bs.length ≤ 1000 ∧ ts.length ≤ 1000
  big : (∀ b ∈ bs, b.length ≤ 70368744177664) ∧ ∀ t ∈ ts, t.length ≤ 1000000000
theorem LoanAt.new (w : World) (f : Nat → Lab) (hf : f w.heap.size = (30, 0)) : LoanAt (w.alloc (.cells #[nilRow, nilRow, nilRow, nilRow] 43)) f w.heap.size nilRow nilRow nilRow nilRow [] [] [] [] [] [] :=
  ⟨Blk.new w _ _, hf, RowL.nil _ _ _, RowL.nil _ _ _, RowL.nil _ _ _, RowL.nil _ _ _, rfl, rfl, rfl, rfl, LotsAt.nil _ _ _ _ _ _ _, LotsAt.nil _ _ _ _ _ _ _, LotsAt.nil _ _ _ _ _ _ _, LotsAt.nil _ _ _ _ _ _ _, ⟨by decide, by decide⟩, ⟨by simp, by simp⟩⟩
theorem LoanAt.later {w w1 : World} {f f1 : Nat → Lab} {lg : Nat} {l0 l1 l2 l3 : Value} {vs ws us xs : List Value} {bs : List Sp.Bs} {ts : List (List Sp.Bs)} (h : LoanAt w f lg l0 l1 l2 l3 vs ws us xs bs ts) (hb : Below w.heap.size w w1) (hf : ∀ k, k < w.heap.size → f1 k = f k) : LoanAt w1 f1 lg l0 l1 l2 l3 vs ws us xs bs ts := by
  have ho : OnlyL f f1 (fun _ => True) w w1 := OnlyL.of_new hb hf (fun _ _ _ => trivial)
  have hR : ∀ {l v zs}, RowL w f l v zs → RowL w1 f1 l v zs := fun hr => ⟨hr.lot.later hb, hr.lab.on ho hr.lot.lt⟩
  have hL : ∀ {kd sz zs ns ms} {F : Nat → Nat → List Value}, LotsAt w f kd sz zs ns ms F → LotsAt w1 f1 kd sz zs ns ms F := fun hl i u hu => by
    obtain ⟨g1, g2⟩ := hl i u hu
    exact ⟨g1.later hb, g2.on ho g1.lt⟩
  exact { h with
    blk := h.blk.later hb
    self := by rw [hf lg h.blk.lt]; exact h.self
    row0 := hR h.row0
    row1 := hR h.row1
    row2 := hR h.row2
    row3 := hR h.row3
    lots0 := hL h.lots0
    lots1 := hL h.lots1
    lots2 := hL h.lots2
    lots3 := hL h.lots3 }

attribute [-go_sem] storeVar loadVar
theorem storeVar_strR (t : TypeId) (a : Addr) (s : ByteArray) : type_of% (storeVar.eq_1 t a (.string s)) := storeVar.eq_1 t a (.string s)
attribute [local go_sem] storeVar_intR storeVar_sliceR storeVar_strR loadVar_intR loadVar_rowR loadVar_rowsR loadVar_textsR loadVar_textssR
def markBL : Sp.Bs := List.replicate 40 165
def markTL : List Sp.Bs := List.replicate 40 [109, 97, 114, 107]
theorem padB_low (l : Sp.Bs) (m : Sp.Bs) {k : Nat} (h : k < l.length) : byteF (l ++ m) k = byteF l k := by unfold byteF; rw [List.getD_eq_getElem?_getD, List.getD_eq_getElem?_getD, List.getElem?_append_left h]
theorem padB_rep (l : Sp.Bs) (x : UInt8) {k : Nat} (h : l.length ≤ k) (h2 : k < l.length + 40) : byteF (l ++ List.replicate 40 x) k = [.int .u8 x.toNat] := by
  unfold byteF; rw [List.getD_eq_getElem?_getD, List.getElem?_append_right h, List.getElem?_replicate, if_pos (by omega)]; rfl
theorem src_rowB {w : World} {A : Option Addr} {c : Nat} {l : Sp.Bs} (hr : RowAt w A (bytesV l)) (hA : A = none → c = 0) : Src Tryz.prog 1 35 (.slice A l.length c) l.length (bytesV l) w := src_row hr hA
theorem newsB (l : Sp.Bs) : ∀ k, k < l.length → ∀ c, c < 1 → (bytesV l)[k * 1 + c]? = (byteF l (0 + k))[c]? := fun k hk c hc => by
  obtain rfl : c = 0 := by omega
  rw [Nat.mul_one, Nat.add_zero, Nat.zero_add]
  simp [bytesV, byteF, List.getD_eq_getElem?_getD, List.getElem?_eq_getElem hk]
theorem zeros_one {z : Value} (h : z.cells = #[z]) (h1 : z.oneCell' = true) (m : Nat) : ∀ u ∈ (Builtin.zeroCells z.cells m).toList, u.oneCell' = true := fun u hu => by
  rw [h] at hu
  unfold Builtin.zeroCells at hu
  rw [Array.toList_map] at hu
  obtain ⟨j, _, rfl⟩ := List.mem_map.1 hu
  have : j % 1 = 0 := Nat.mod_one j
  simp [this, h1]

/-- what changes while a list is lent -/
def OnLB (k : Nat) (l : Lab) : Prop := l = (30, 0) ∨ l = (31, 0) ∨ l = (31, 1) ∨ l = (33, k) ∨ l = (34, k)
theorem onLB_not {k a b : Nat} (h1 : a ≠ 30) (h2 : a ≠ 31) (h3 : a = 33 → b ≠ k) (h4 : a = 34 → b ≠ k) : ¬ OnLB k (a, b) := by
  rintro (h | h | h | h | h)
  · exact h1 (congrArg Prod.fst h)
  · exact h2 (congrArg Prod.fst h)
  · exact h2 (congrArg Prod.fst h)
  · exact h3 (congrArg Prod.fst h) (congrArg Prod.snd h)
  · exact h4 (congrArg Prod.fst h) (congrArg Prod.snd h)
theorem onLB_no {k a b : Nat} (h1 : a ≠ 30) (h2 : a ≠ 31) (h3 : a ≠ 33) (h4 : a ≠ 34) : ¬ OnLB k (a, b) := onLB_not h1 h2 (fun e => absurd e h3) (fun e => absurd e h4)

theorem LoanAt.onB {w w1 : World} {f f1 : Nat → Lab} {lg : Nat} {l0 l1 l2 l3 a b v x : Value} {vs ws us xs : List Value} {bs : List Sp.Bs} {ts : List (List Sp.Bs)} {l : Sp.Bs}
    (h : LoanAt w f lg l0 l1 l2 l3 vs ws us xs bs ts) (hlen : l.length ≤ 70368744177664) (hfew : bs.length < 1000) (ho : OnlyL f f1 (OnLB bs.length) w w1)
    (hblk : Blk w1 lg 43 #[a, b, l2, l3]) (hr0 : RowL w1 f1 (31, 0) a (vs ++ [v])) (hr1 : RowL w1 f1 (31, 1) b (ws ++ [x])) (hv : LotB w1 v l) (hvl : LabV f1 v (33, bs.length)) (hx : LotB w1 x l) (hxl : LabV f1 x (34, bs.length)) :
    LoanAt w1 f1 lg a b l2 l3 (vs ++ [v]) (ws ++ [x]) us xs (bs ++ [l]) ts :=
  { blk := hblk
    self := by rw [ho.lab lg h.blk.lt]; exact h.self
    row0 := hr0
    row1 := hr1
    row2 := h.row2.apart ho (onLB_no (by decide) (by decide) (by decide) (by decide))
    row3 := h.row3.apart ho (onLB_no (by decide) (by decide) (by decide) (by decide))
    len0 := by rw [List.length_append, List.length_append, h.len0]; rfl
    len1 := by rw [List.length_append, List.length_append, h.len1]; rfl
    len2 := h.len2
    len3 := h.len3
    lots0 := (h.lots0.apart' ho (fun i hi => onLB_not (by decide) (by decide) (fun _ => by rw [h.len0] at hi; omega) (fun e => absurd e (by decide)))).takeB h.len0 hv hvl
    lots1 := (h.lots1.apart' ho (fun i hi => onLB_not (by decide) (by decide) (fun e => absurd e (by decide)) (fun _ => by rw [h.len1] at hi; omega))).takeB h.len1 hx hxl
    lots2 := h.lots2.apart ho (fun i => onLB_no (by decide) (by decide) (by decide) (by decide))
    lots3 := h.lots3.apart ho (fun i => onLB_no (by decide) (by decide) (by decide) (by decide))
    few := ⟨by rw [List.length_append, List.length_singleton]; omega, h.few.2⟩
    big := ⟨fun b hb => by
      rcases List.mem_append.1 hb with hb | hb
      · exact h.big.1 b hb
      · rw [List.mem_singleton.1 hb]; exact hlen, h.big.2⟩ }

set_option maxHeartbeats 8000000 in
set_option maxRecDepth 100000 in
theorem loanB_any {w : World} {f : Nat → Lab} {lg : Nat} {l0 l1 l2 l3 : Value} {vs ws us xs : List Value} {bs : List Sp.Bs} {ts : List (List Sp.Bs)} {A : Option Addr} {c : Nat} {l : Sp.Bs}
    (h : LoanAt w f lg l0 l1 l2 l3 vs ws us xs bs ts) (hrow : RowAt w A (bytesV l)) (hA : A = none → c = 0) (hlen : l.length ≤ 70368744177600) (hfew : bs.length < 1000) :
    Calls Tryz.prog 36 #[.pointer (some ⟨lg, 0, none⟩), .slice A l.length c] w fun e w' => ∃ g cp f1 l0' l1' v x, e = .returned (.slice (some ⟨g, 0, none⟩) l.length cp) ∧ l.length ≤ cp ∧ cp ≤ maxLen ∧ OnlyL f f1 (OnLB bs.length) w w' ∧ LoanAt w' f1 lg l0' l1' l2 l3 (vs ++ [v]) (ws ++ [x]) us xs (bs ++ [l ++ markBL]) ts ∧
      LotB w' (.slice (some ⟨g, 0, none⟩) (l.length + 40) cp) (l ++ markBL) ∧ f1 g = (33, bs.length) := by
  obtain ⟨P0, cp0, hP0⟩ := h.row0.form
  obtain ⟨P1, cp1, hP1⟩ := h.row1.form
  subst hP0 hP1
  have hn0 : vs.length ≤ 1000 := by rw [h.len0]; omega
  have hn1 : ws.length ≤ 1000 := by rw [h.len1]; omega
  obtain ⟨K, hK⟩ : ∃ K, K = bs.length := ⟨_, rfl⟩
  rw [← hK]
  have hw0 : Wrote f (relab f w (33, K)) (33, K) 1 (byteF (l ++ List.replicate 40 (0 : UInt8))) w (w.alloc (.cells #[] 5)) := Wrote.of_below ((Below.refl _ _).alloc (Nat.le_refl _) _) f _ 1 _
  have hle : Lot (w.alloc (.cells #[] 5)) 1 (.slice (some ⟨w.heap.size, 0, none⟩) 0 0) 0 0 (byteF (l ++ List.replicate 40 (0 : UInt8))) := Lot.empty (by simp)
  have hlel : LabV (relab f w (33, K)) (.slice (some ⟨w.heap.size, 0, none⟩) 0 0) (33, K) := LabV.of_eq (relab_new (Nat.le_refl _))
  have hsrc : Src Tryz.prog 1 35 (.slice A l.length c) l.length (bytesV l) (w.alloc (.cells #[] 5)) := src_rowB (hrow.below ((Below.refl _ _).alloc (Nat.le_refl _) _)) hA
  have hnews : ∀ k, k < l.length → ∀ c, c < 1 → (bytesV l)[k * 1 + c]? = (byteF (l ++ List.replicate 40 (0 : UInt8)) (0 + k))[c]? := fun k hk c hc => by
    rw [padB_low l _ (by omega)]; exact newsB l k hk c hc
  have H := Lib.hid h
  have HW0 := Lib.hid hw0
  have HLE := Lib.hid hle
  have HLEL := Lib.hid hlel
  have HSRC := Lib.hid hsrc
  have HNEWS := Lib.hid hnews
  have HK := Lib.hid hK
  clear h hw0 hle hlel hsrc hnews hrow hK
  obtain ⟨i0, hi0, hz0, hz1, hz2⟩ := info_parts info_u8R
  obtain ⟨j0, hj0, hy0, hy1, hy2⟩ := info_parts info_rowR
  go_enter Tryz.func36, Tryz.ntmps36
  go_upto_region 2 with (first
    | (at_builtin; refine wpList_append_lotv rfl (.tmp 7) (.tmp 8) 35 35 rfl (relab f w (33, K)) (33, K) (byteF (l ++ List.replicate 40 (0 : UInt8))) 5 i0 _ 1 1 Tryz.underlying35 hi0 hz0 hz1 hz2 rfl (byteF_length _) (.slice (some ⟨w.heap.size, 0, none⟩) 0 0) 0 rfl HLE.out HLEL.out (.slice A l.length c) l.length _ rfl HSRC.out HNEWS.out ?_ ?_ ?_; (unfold maxLen; omega); omega; intro v1 w1 hl1 hb1 hw1; rw [Nat.zero_add] at hl1; obtain ⟨A1, c1, rfl⟩ := hl1.form; have HL1 := Lib.hid hl1; have HB1 := Lib.hid hb1; have HW1 := Lib.hid (HW0.out.trans hw1); clear hl1 hb1 hw1)
    | (at_builtin; refine wpList_append_lotz rfl (.tmp 9) (.const (.int .i64 40)) 35 3 rfl _ (33, K) (byteF (l ++ List.replicate 40 (0 : UInt8))) 5 i0 _ 1 1 Tryz.underlying35 hi0 hz0 hz1 hz2 rfl (byteF_length _) (.slice A1 l.length c1) l.length rfl HL1.out HB1.out 40 rfl Tryz.underlying3 (by decide) (zeros_one rfl rfl 40) (fun k hk => padB_rep l (0 : UInt8) (by omega) (by omega)) (by decide) (by decide) ?_ ?_ ?_; (unfold maxLen; omega); omega; intro g2 c2 w2 hl2 hb2 hw2; have HL2 := Lib.hid hl2; have HB2 := Lib.hid hb2; have HW2 := Lib.hid (HW1.out.trans hw2); clear hl2 hb2 hw2))
  obtain ⟨f2, hf2⟩ : ∃ f2, f2 = relab (relab (relab f w (33, K)) (w.alloc (.cells #[] 5)) (33, K)) w1 (33, K) := ⟨_, rfl⟩
  rw [← hf2] at HW2 HB2
  have hat : LotAt w2 1 g2 (l.length + 40) c2 l.length (byteF (l ++ markBL)) := (Lot.toAt (HL2.out.part (m' := l.length) (G := byteF (l ++ markBL)) (by omega) (fun k hk => by rw [padB_low l _ hk, padB_low l _ hk]))).2
  have ho2 := HW2.out.only
  have HAT := Lib.hid hat
  have HCAP := Lib.hid (⟨hat.room, hat.small⟩ : l.length + 40 ≤ c2 ∧ c2 ≤ maxLen)
  have HO2 := Lib.hid ho2
  clear hf2 hat ho2
  go_wp2_with fail
  go_loopw [6] (fun iv wr => ∃ k : Nat, l.length ≤ k ∧ k ≤ l.length + 40 ∧ iv = .int .i64 k ∧ LotAt wr 1 g2 (l.length + 40) c2 k (byteF (l ++ markBL)) ∧ OnlyL f f2 (· = (33, K)) w wr) (fun iv _ => l.length + 40 - (intOf iv).toNat)
  case atStart => exact ⟨l.length, Nat.le_refl _, by omega, rfl, HAT.out, HO2.out⟩
  case round =>
    obtain ⟨k, hk1, hk2, rfl, hat, ho⟩ := hrel
    by_cases hlt : k < l.length + 40
    · have hi1 : (k : Int) < (l.length : Int) + 40 := by omega
      have hth := hat.there k (by have := hat.room; omega)
      obtain ⟨uo, hth1⟩ := Option.isSome_iff_exists.1 hth.1
      have hth2 := hth.2
      obtain ⟨hp, hw⟩ := hat.put (f := f2) (l := (33, K)) (news := [.int .u8 165]) (byteF_length _) (by have := hat.room; omega) (padB_rep l 165 hk1 hlt).symm HB2.out
      rw [Nat.mul_one] at hp hw
      have HP := Lib.hid hp
      have HO := Lib.hid (ho.trans hw.only)
      clear hat ho hth hp hw hlt
      go_wp2_with fail
      exact ⟨⟨k + 1, by omega, by omega, by go_num, HP.out, HO.out⟩, by show l.length + 40 - ((k : Int) + 1).toNat < l.length + 40 - (k : Int).toNat; omega⟩
    · obtain rfl : k = l.length + 40 := by omega
      have hi1 : decide (((l.length : Int) + 40) < (l.length : Int) + 40) = false := decide_eq_false (by omega)
      have hll : (l ++ markBL).length = l.length + 40 := by rw [List.length_append]; rfl
      have hlot : LotB wr (.slice (some ⟨g2, 0, none⟩) (l.length + 40) c2) (l ++ markBL) := by
        show Lot wr 1 _ (l ++ markBL).length (l ++ markBL).length _
        rw [hll]; exact hat.toLot (Nat.le_refl _)
      clear hlt
      have hblk := H.out.blk.same (ho.block lg H.out.blk.lt (by rw [H.out.self]; exact lab_ne (by decide)))
      have hself := (ho.lab lg H.out.blk.lt).trans H.out.self
      have hrow0 := H.out.row0.apart ho (lab_ne (by decide))
      have hrow1 := H.out.row1.apart ho (lab_ne (by decide))
      have hlv : LabV f2 (.slice (some ⟨g2, 0, none⟩) (l.length + 40) c2) (33, K) := LabV.of_eq HB2.out
      have hw1 : Wrote f2 (relab f2 wr (31, 0)) (31, 0) 1 (rowF (vs ++ [.slice (some ⟨g2, 0, none⟩) (l.length + 40) c2])) wr (wr.alloc (.cells #[.slice (some ⟨g2, 0, none⟩) (l.length + 40) c2] 35)) := Wrote.of_below ((Below.refl _ _).alloc (Nat.le_refl _) _) f2 _ 1 _
      have hr1 := (hrow0.more (.slice (some ⟨g2, 0, none⟩) (l.length + 40) c2)).conf (rowF_length _) hw1
      have hr2 : LabV (relab f2 wr (31, 0)) (.slice P0 vs.length cp0) (31, 0) := hrow0.lab.on hw1.only hrow0.lot.lt
      have y0 : wr.cell? ⟨lg, 0, none⟩ = some (.slice P0 vs.length cp0) := hblk.cell 0
      have hblkF := hblk.frozen 0
      have hLold := H.out
      have HBLK := Lib.hid hblk
      have HSELF := Lib.hid hself
      have HROW1 := Lib.hid hrow1
      have HLV := Lib.hid hlv
      have HW1' := Lib.hid hw1
      have HR1 := Lib.hid hr1
      have HR2 := Lib.hid hr2
      have HO := Lib.hid ho
      have HLOT := Lib.hid hlot
      have HLL := Lib.hid hll
      clear hblk hself hrow0 hrow1 hlv hw1 hr1 hr2 ho hlot hat hLold hll hblkF
      go_upto_region 6 with fail
      go_upto_region 7 with (at_builtin; refine wpList_append_lot rfl (.tmp 26) (.tmp 28) 24 24 rfl (relab f2 wr (31, 0)) (31, 0) (rowF (vs ++ [.slice (some ⟨g2, 0, none⟩) (l.length + 40) c2])) 35 j0 _ 1 24 Tryz.underlying24 hj0 hy0 hy1 hy2 rfl (rowF_length _) (.slice P0 vs.length cp0) vs.length rfl HR1.out HR2.out _ 1 _ rfl (src_oneR wr Tryz.underlying24 (.slice (some ⟨g2, 0, none⟩) (l.length + 40) c2) rfl _) (news_oneR (rowF_last vs _)) (by decide) ?_ ?_ ?_; (unfold maxLen; omega); omega; intro g3 c3 w3 hl5 hb5 hw5; have ho5 := HW1'.out.only.trans hw5.only; have hrl := RowL.of_append hl5 hb5; have hblk5 := HBLK.out.same (ho5.block lg HBLK.out.lt (fun e => lab_ne (by decide) (HSELF.out.symm.trans e))); have x0 : w3.cell? ⟨lg, 0, none⟩ = some (.slice P0 vs.length cp0) := hblk5.cell 0; have x0f := hblk5.frozen 0; have HO5 := Lib.hid ho5; have HRL := Lib.hid hrl; have HB5 := Lib.hid hblk5; clear hl5 hb5 hw5 ho5 hrl hblk5)
      obtain ⟨f3, hf3⟩ : ∃ f3, f3 = relab (relab f2 wr (31, 0)) (wr.alloc (.cells #[.slice (some ⟨g2, 0, none⟩) (l.length + 40) c2] 35)) (31, 0) := ⟨_, rfl⟩
      rw [← hf3] at HO5 HRL
      obtain ⟨W2, hW2⟩ : ∃ W2, W2 = w3.setCell ⟨lg, 0, none⟩ (.slice (some ⟨g3, 0, none⟩) (vs.length + 1) c3) := ⟨_, rfl⟩
      have hself3 : f3 lg = (30, 0) := by rw [HO5.out.lab lg HBLK.out.lt]; exact HSELF.out
      have hput : OnlyL f3 f3 (· = (30, 0)) w3 W2 := by rw [hW2]; exact OnlyL.of_put f3 w3 _ _ hself3
      have hblk2 : Blk W2 lg 43 #[.slice (some ⟨g3, 0, none⟩) (vs.length + 1) c3, .slice P1 ws.length cp1, l2, l3] := by
        rw [hW2]
        have := HB5.out.put 0 (.slice (some ⟨g3, 0, none⟩) (vs.length + 1) c3)
        exact this
      have hrow0 := HRL.out.apart hput (lab_ne (by decide))
      have hrow1 := (HROW1.out.apart HO5.out (lab_ne2 (by decide))).apart hput (lab_ne (by decide))
      have hl2 := HLOT.out.apart HO5.out HLV.out (lab_ne (by decide))
      have hlv2 := HLV.out.on HO5.out HLOT.out.lt
      have hl3 := hl2.apart hput hlv2 (lab_ne (by decide))
      have hlv3 := hlv2.on hput hl2.lt
      have hoAll : OnlyL f f3 (OnLB K) w W2 := ((HO.out.mono fun l hl => by subst hl; exact .inr (.inr (.inr (.inl rfl)))).trans (HO5.out.mono fun l hl => by subst hl; exact .inr (.inl rfl))).trans (hput.mono fun l hl => by subst hl; exact .inl rfl)
      have hwe : Wrote f3 (relab f3 W2 (34, K)) (34, K) 1 (byteF (l ++ markBL)) W2 (W2.alloc (.cells #[] 5)) := Wrote.of_below ((Below.refl _ _).alloc (Nat.le_refl _) _) f3 _ 1 _
      have hle : Lot (W2.alloc (.cells #[] 5)) 1 (.slice (some ⟨W2.heap.size, 0, none⟩) 0 0) 0 0 (byteF (l ++ markBL)) := Lot.empty (by simp)
      have hlel : LabV (relab f3 W2 (34, K)) (.slice (some ⟨W2.heap.size, 0, none⟩) 0 0) (34, K) := LabV.of_eq (relab_new (Nat.le_refl _))
      have hsrc : Src Tryz.prog 1 35 (.slice (some ⟨g2, 0, none⟩) (l.length + 40) c2) (l ++ markBL).length ((List.range (l ++ markBL).length).flatMap (byteF (l ++ markBL))) (W2.alloc (.cells #[] 5)).drew := (hl3.later ((Below.refl _ _).alloc (Nat.le_refl _) _)).drew.src Tryz.underlying35 (byteF_length _) (byteF_one _)
      have hnews : ∀ k, k < (l ++ markBL).length → ∀ c, c < 1 → ((List.range (l ++ markBL).length).flatMap (byteF (l ++ markBL)))[k * 1 + c]? = (byteF (l ++ markBL) (0 + k))[c]? := fun k hk c hc => by rw [Nat.zero_add]; exact src_news (byteF_length _) hk hc
      have z1 : W2.cell? ⟨lg, 1, none⟩ = some (.slice P1 ws.length cp1) := hblk2.cell 1
      have hm40 : (l ++ markBL).length ≤ 70368744177600 + 40 := by rw [HLL.out]; omega
      have hlt2 := hblk2.lt
      have HROW0 := Lib.hid hrow0
      have HROW1' := Lib.hid hrow1
      have HALL := Lib.hid hoAll
      have HWE := Lib.hid hwe
      have HLE2 := Lib.hid hle.drew
      have HLEL2 := Lib.hid hlel
      have HSRC2 := Lib.hid hsrc
      have HNEWS2 := Lib.hid hnews
      have HBLK2 := Lib.hid hblk2
      have HSELF3 := Lib.hid hself3
      have HL3 := Lib.hid hl3
      have HLV3 := Lib.hid hlv3
      obtain ⟨M, hM⟩ : ∃ M, M = (l ++ markBL).length := ⟨_, rfl⟩
      rw [← hM] at HSRC2 HNEWS2 hm40
      have HM := Lib.hid hM
      rw [← hW2]
      clear hf3 hW2 hself3 hput hblk2 hrow0 hrow1 hl2 hlv2 hl3 hlv3 hoAll hwe hle hlel hsrc hnews x0 x0f y0 hM
      go_wp2_with fail
      go_region_law (first
          | (refine step_append_lotv rfl (.tmp 37) (.tmp 38) 35 35 rfl (relab f3 W2 (34, K)) (34, K) (byteF (l ++ markBL)) 5 i0 _ 1 1 Tryz.underlying35 hi0 hz0 hz1 hz2 rfl (byteF_length _) (.slice (some ⟨W2.heap.size, 0, none⟩) 0 0) 0 rfl HLE2.out HLEL2.out (.slice (some ⟨g2, 0, none⟩) (l.length + 40) c2) M _ rfl HSRC2.out HNEWS2.out ?_ ?_ ?_; (unfold maxLen; omega); omega; intro v4 w4 hl4 hb4 hw4; rw [Nat.zero_add] at hl4; obtain ⟨A4, c4, rfl⟩ := hl4.form; have hw4' := HWE.out.trans hw4.undrew; have hr4 := HROW1'.out.apart hw4'.only (lab_ne (by decide)); have hblk4 := HBLK2.out.same (hw4'.only.block lg HBLK2.out.lt (fun e => lab_ne (by decide) (HSELF3.out.symm.trans e))); have hself4 := (hw4'.only.lab lg HBLK2.out.lt).trans HSELF3.out; have z1 : w4.cell? ⟨lg, 1, none⟩ = some (.slice P1 ws.length cp1) := hblk4.cell 1; have z1a := cell_alloc z1 (.cells #[.slice A4 M c4] 35); have hw5 : Wrote _ (relab (relab (relab f3 W2 (34, K)) (W2.alloc (.cells #[] 5)).drew (34, K)) w4 (31, 1)) (31, 1) 1 (rowF (ws ++ [.slice A4 M c4])) w4 (w4.alloc (.cells #[.slice A4 M c4] 35)) := Wrote.of_below ((Below.refl _ _).alloc (Nat.le_refl _) _) _ (31, 1) 1 _; have hr5 := (hr4.more (.slice A4 M c4)).conf (rowF_length _) hw5; have hr6 := hr4.lab.on hw5.only hr4.lot.lt; have HW5 := Lib.hid hw5; have HR5 := Lib.hid hr5; have HR6 := Lib.hid hr6; have HW4 := Lib.hid hw4'; have HL4 := Lib.hid hl4; have HB4 := Lib.hid hb4; have HBLK4 := Lib.hid hblk4; have HSELF4 := Lib.hid hself4; clear hl4 hb4 hw4 hw4' hr4 hblk4 hself4 hw5 hr5 hr6)
          | (refine step_append_lot rfl (.tmp 36) (.tmp 40) 24 24 rfl _ (31, 1) (rowF (ws ++ [.slice A4 M c4])) 35 j0 _ 1 24 Tryz.underlying24 hj0 hy0 hy1 hy2 rfl (rowF_length _) (.slice P1 ws.length cp1) ws.length rfl HR5.out HR6.out _ 1 _ rfl (src_oneR w4 Tryz.underlying24 (.slice A4 M c4) rfl _) (news_oneR (rowF_last ws _)) (by decide) ?_ ?_ ?_; (unfold maxLen; omega); omega; intro g7 c7 w7 hl7 hb7 hw7; have ho7 := HW5.out.only.trans hw7.only; have hrl := RowL.of_append hl7 hb7; have hblk7 := HBLK4.out.same (ho7.block lg HBLK4.out.lt (fun e => lab_ne (by decide) (HSELF4.out.symm.trans e))); have z1 : w7.cell? ⟨lg, 1, none⟩ = some (.slice P1 ws.length cp1) := hblk7.cell 1; have z1f := hblk7.frozen 1; have HO7 := Lib.hid ho7; have HRL7 := Lib.hid hrl; have HBLK7 := Lib.hid hblk7; clear hl7 hb7 hw7 ho7 hrl hblk7))
      all_goals
        have hc2 : (l.length : Int) ≤ (c2 : Int) := by have := HCAP.out.1; omega
        go_wp2_with fail
        go_ret
        have hself7 := (HO7.out.lab lg HBLK4.out.lt).trans HSELF4.out
        have hp8 := OnlyL.of_put (P := (· = ((30, 0) : Lab))) _ w7 ⟨lg, 1, none⟩ (.slice (some ⟨g7, 0, none⟩) (ws.length + 1) c7) hself7
        have hblk8 := HBLK7.out.put 1 (.slice (some ⟨g7, 0, none⟩) (ws.length + 1) c7)
        have ho8 := ((HALL.out.trans (HW4.out.only.mono (Q := OnLB K) fun l hl => by subst hl; exact .inr (.inr (.inr (.inr rfl))))).trans (HO7.out.mono (Q := OnLB K) fun l hl => by subst hl; exact .inr (.inr (.inl rfl)))).trans (hp8.mono (Q := OnLB K) fun l hl => by subst hl; exact .inl rfl)
        have hx7 := HL4.out.apart HO7.out HB4.out (lab_ne (by decide))
        have hxl7 := HB4.out.on HO7.out HL4.out.lt
        have hx8 := hx7.apart hp8 hxl7 (lab_ne (by decide))
        have hxl8 := hxl7.on hp8 hx7.lt
        have hv4 := HL3.out.apart HW4.out.only HLV3.out (lab_ne (by decide))
        have hvl4 := HLV3.out.on HW4.out.only HL3.out.lt
        have hv7 := hv4.apart HO7.out hvl4 (lab_ne (by decide))
        have hvl7 := hvl4.on HO7.out hv4.lt
        have hv8 := hv7.apart hp8 hvl7 (lab_ne (by decide))
        have hvl8 := hvl7.on hp8 hv7.lt
        have hr0 := ((HROW0.out.apart HW4.out.only (lab_ne (by decide))).apart HO7.out (lab_ne2 (by decide))).apart hp8 (lab_ne (by decide))
        have hr1 := HRL7.out.apart hp8 (lab_ne (by decide))
        have hxx := hx8.len HM.out
        have hkk := HK.out
        subst hkk
        have hla := H.out.onB (by rw [HLL.out]; omega) hfew ho8 hblk8 hr0 hr1 hv8 hvl8 hxx hxl8
        exact ⟨g2, c2, _, _, _, _, _, rfl, by omega, HCAP.out.2, ho8, hla, hv8, hvl8 g2 rfl⟩

/-- what changes while a list is lent -/
def OnLT (k : Nat) (l : Lab) : Prop := l = (30, 0) ∨ l = (32, 0) ∨ l = (32, 1) ∨ l = (35, k) ∨ l = (36, k)
theorem onLT_not {k a b : Nat} (h1 : a ≠ 30) (h2 : a ≠ 32) (h3 : a = 35 → b ≠ k) (h4 : a = 36 → b ≠ k) : ¬ OnLT k (a, b) := by
  rintro (h | h | h | h | h)
  · exact h1 (congrArg Prod.fst h)
  · exact h2 (congrArg Prod.fst h)
  · exact h2 (congrArg Prod.fst h)
  · exact h3 (congrArg Prod.fst h) (congrArg Prod.snd h)
  · exact h4 (congrArg Prod.fst h) (congrArg Prod.snd h)
theorem onLT_no {k a b : Nat} (h1 : a ≠ 30) (h2 : a ≠ 32) (h3 : a ≠ 35) (h4 : a ≠ 36) : ¬ OnLT k (a, b) := onLT_not h1 h2 (fun e => absurd e h3) (fun e => absurd e h4)

theorem LoanAt.onT {w w1 : World} {f f1 : Nat → Lab} {lg : Nat} {l0 l1 l2 l3 a b v x : Value} {vs ws us xs : List Value} {bs : List Sp.Bs} {ts : List (List Sp.Bs)} {l : List Sp.Bs}
    (h : LoanAt w f lg l0 l1 l2 l3 vs ws us xs bs ts) (hlen : l.length ≤ 1000000000) (hfew : ts.length < 1000) (ho : OnlyL f f1 (OnLT ts.length) w w1)
    (hblk : Blk w1 lg 43 #[l0, l1, a, b]) (hr0 : RowL w1 f1 (32, 0) a (us ++ [v])) (hr1 : RowL w1 f1 (32, 1) b (xs ++ [x])) (hv : LotT w1 v l) (hvl : LabV f1 v (35, ts.length)) (hx : LotT w1 x l) (hxl : LabV f1 x (36, ts.length)) :
    LoanAt w1 f1 lg l0 l1 a b vs ws (us ++ [v]) (xs ++ [x]) bs (ts ++ [l]) :=
  { blk := hblk
    self := by rw [ho.lab lg h.blk.lt]; exact h.self
    row0 := h.row0.apart ho (onLT_no (by decide) (by decide) (by decide) (by decide))
    row1 := h.row1.apart ho (onLT_no (by decide) (by decide) (by decide) (by decide))
    row2 := hr0
    row3 := hr1
    len0 := h.len0
    len1 := h.len1
    len2 := by rw [List.length_append, List.length_append, h.len2]; rfl
    len3 := by rw [List.length_append, List.length_append, h.len3]; rfl
    lots0 := h.lots0.apart ho (fun i => onLT_no (by decide) (by decide) (by decide) (by decide))
    lots1 := h.lots1.apart ho (fun i => onLT_no (by decide) (by decide) (by decide) (by decide))
    lots2 := (h.lots2.apart' ho (fun i hi => onLT_not (by decide) (by decide) (fun _ => by rw [h.len2] at hi; omega) (fun e => absurd e (by decide)))).takeT h.len2 hv hvl
    lots3 := (h.lots3.apart' ho (fun i hi => onLT_not (by decide) (by decide) (fun e => absurd e (by decide)) (fun _ => by rw [h.len3] at hi; omega))).takeT h.len3 hx hxl
    few := ⟨h.few.1, by rw [List.length_append, List.length_singleton]; omega⟩
    big := ⟨h.big.1, fun b hb => by
      rcases List.mem_append.1 hb with hb | hb
      · exact h.big.2 b hb
      · rw [List.mem_singleton.1 hb]; exact hlen⟩ }

end Go.Proofs.YthgfjafnclklpaaGreatDoor
end
section
namespace Go.Proofs.YthgfjafnclklpaaGreatDoor
attribute [local go_sem ↓] Go.wp_at_zero Go.wp_at_succ
open Go.RowKit

def overB : List Value := [.int .u8 90]
def overT : List Value := [str [111, 118, 101, 114]]
/-- all labels of a Loan's -/
def OnLoan (l : Lab) : Prop := 30 ≤ l.1 ∧ l.1 ≤ 36
theorem onLoan_of {a i : Nat} (h : (decide (30 ≤ a) && decide (a ≤ 36)) = true) : OnLoan (a, i) := by
  rw [Bool.and_eq_true, decide_eq_true_eq, decide_eq_true_eq] at h
  exact h
structure LoanFlat (w : World) (f : Nat → Lab) (lg : Nat) (l0 l1 l2 l3 : Value) (vs us : List Value) (ns ms : Nat → Nat) : Prop where
  blk : Blk w lg 43 #[l0, l1, l2, l3]
  self : f lg = (30, 0)
  row0 : RowL w f (31, 0) l0 vs
  row2 : RowL w f (32, 0) l2 us
  lots0 : LotsAt w f 33 1 vs ns (fun _ => 0) (fun _ _ => overB)
  lots2 : LotsAt w f 35 1 us ms (fun _ => 0) (fun _ _ => overT)
section
variable {w w1 : World} {f f1 : Nat → Lab} {lg : Nat} {l0 l1 l2 l3 : Value} {vs us : List Value} {ns ms : Nat → Nat} {i : Nat}
theorem LoanFlat.onB (h : LoanFlat w f lg l0 l1 l2 l3 vs us ns ms) (hw : Wrote f f1 (33, i) 1 (fun _ => overB) w w1) : LoanFlat w1 f1 lg l0 l1 l2 l3 vs us ns ms :=
  ⟨h.blk.same (hw.only.block lg h.blk.lt (fun e => lab_ne (by decide) (h.self.symm.trans e))), (hw.only.lab lg h.blk.lt).trans h.self, h.row0.apart hw.only (lab_ne (by decide)), h.row2.apart hw.only (lab_ne (by decide)), h.lots0.conf (fun _ _ => rfl) hw, h.lots2.apart hw.only (fun j => lab_ne (by decide))⟩
theorem LoanFlat.onT (h : LoanFlat w f lg l0 l1 l2 l3 vs us ns ms) (hw : Wrote f f1 (35, i) 1 (fun _ => overT) w w1) : LoanFlat w1 f1 lg l0 l1 l2 l3 vs us ns ms :=
  ⟨h.blk.same (hw.only.block lg h.blk.lt (fun e => lab_ne (by decide) (h.self.symm.trans e))), (hw.only.lab lg h.blk.lt).trans h.self, h.row0.apart hw.only (lab_ne (by decide)), h.row2.apart hw.only (lab_ne (by decide)), h.lots0.apart hw.only (fun j => lab_ne (by decide)), h.lots2.conf (fun _ _ => rfl) hw⟩
theorem Lot.poke {sz n : Nat} {A : Option Addr} {c k : Nat} {F : Nat → List Value} {l : Lab} (hF : ∀ k, (F k).length = sz) (h : Lot w sz (.slice A n c) n 0 F) (hl : LabV f (.slice A n c) l) (hk : k < n) (hsz : sz = 1) :
    ∃ g, A = some ⟨g, 0, none⟩ ∧ (∃ u, w.cell? ⟨g, k, none⟩ = some u) ∧ w.frozen? ⟨g, k, none⟩ = false ∧ Wrote f f l sz F w (w.setCells g k (F k)) := by
  subst hsz
  rcases h with ⟨_, h0, _⟩ | ⟨g, cap, he, _, ha⟩
  · omega
  · injection he with e1 _ e3
    subst e1 e3
    have hrm := ha.room
    have hth := ha.there k (by omega)
    refine ⟨g, rfl, Option.isSome_iff_exists.1 hth.1, hth.2, ?_⟩
    have := Wrote.setCells (f := f) (w := w) (g := g) (a := k) (m := 1) (F := F) (news := F k) (l := l) (sz := 1) (hl g rfl) (by rw [hF]) (fun i hi c hc => by
      have h0 : i = 0 := by omega
      subst h0
      have h1 : c = 0 := by omega
      subst h1
      rfl) (fun j hj => by
      have h0 : j = 0 := by omega
      subst h0
      rw [Nat.mul_one, Nat.add_zero]; exact hth.1)
    rwa [Nat.mul_one] at this
end

theorem LoanAt.flat {w : World} {f : Nat → Lab} {lg : Nat} {l0 l1 l2 l3 : Value} {vs ws us xs : List Value} {bs : List Sp.Bs} {ts : List (List Sp.Bs)} (h : LoanAt w f lg l0 l1 l2 l3 vs ws us xs bs ts) : LoanFlat w f lg l0 l1 l2 l3 vs us (sizeB bs) (sizeT ts) :=
  ⟨h.blk, h.self, h.row0, h.row2, fun i u hu => ⟨(h.lots0 i u hu).1.blank _, (h.lots0 i u hu).2⟩, fun i u hu => ⟨(h.lots2 i u hu).1.blank _, (h.lots2 i u hu).2⟩⟩

attribute [-go_sem] storeVar loadVar
attribute [local go_sem] storeVar_intR storeVar_sliceR storeVar_strR loadVar_intR loadVar_rowR loadVar_rowsR loadVar_textsR loadVar_textssR

set_option maxHeartbeats 8000000 in
set_option maxRecDepth 100000 in
theorem back_any {w : World} {f : Nat → Lab} {lg : Nat} {l0 l1 l2 l3 : Value} {vs ws us xs : List Value} {bs : List Sp.Bs} {ts : List (List Sp.Bs)} (h : LoanAt w f lg l0 l1 l2 l3 vs ws us xs bs ts) :
    Calls Tryz.prog 13 #[.pointer (some ⟨lg, 0, none⟩)] w fun e w' => e = .returned (.bool true) ∧ ∃ f', OnlyL f f' OnLoan w w' ∧ Blk w' lg 43 #[nilRow, nilRow, nilRow, nilRow] := by
  generalize hR : (fun (e : Ending) (w' : World) => e = .returned (.bool true) ∧ ∃ f', OnlyL f f' OnLoan w w' ∧ Blk w' lg 43 #[nilRow, nilRow, nilRow, nilRow]) = R
  obtain ⟨B0, cb0, hB0⟩ := h.row0.form
  obtain ⟨B1, cb1, hB1⟩ := h.row1.form
  obtain ⟨T0, ct0, hT0⟩ := h.row2.form
  obtain ⟨T1, ct1, hT1⟩ := h.row3.form
  subst hB0 hB1 hT0 hT1
  have hvs : vs.length ≤ 1000 := by rw [h.len0]; exact h.few.1
  have hus : us.length ≤ 1000 := by rw [h.len2]; exact h.few.2
  have HR := Lib.hid hR
  have H := Lib.hid h
  clear hR h
  go_enter Tryz.func13, Tryz.ntmps13
  go_wp2_with fail
  go_loopw [3] (fun iv wr => ∃ i : Nat, i ≤ vs.length ∧ iv = .int .i64 i ∧ Below w.heap.size w wr) (fun iv _ => vs.length - (intOf iv).toNat)
  case atStart => exact ⟨0, Nat.zero_le _, rfl, Below.refl _ _⟩
  case round =>
    obtain ⟨i, hi, rfl, hb⟩ := hrel
    have hbk := H.out.later hb (fun _ _ => rfl)
    have z0 : wr.cell? ⟨lg, 0, none⟩ = some (.slice B0 vs.length cb0) := hbk.blk.cell 0
    have z1 : wr.cell? ⟨lg, 1, none⟩ = some (.slice B1 ws.length cb1) := hbk.blk.cell 1
    by_cases hlt : i < vs.length
    · have hw1 : ws.length = vs.length := by rw [H.out.len1, H.out.len0]
      obtain ⟨u, hu⟩ : ∃ u, vs[i]? = some u := ⟨vs[i], List.getElem?_eq_getElem hlt⟩
      obtain ⟨x, hx⟩ : ∃ x, ws[i]? = some x := ⟨ws[i]'(by omega), List.getElem?_eq_getElem _⟩
      obtain ⟨g0, c0, e0, y0, _⟩ := hbk.row0.at hu
      obtain ⟨g1, c1, e1, y1, _⟩ := hbk.row1.at hx
      injection e0 with e0 e2 e3
      subst e0 e3
      injection e1 with e1 e4 e5
      subst e1 e5
      have hlu := (hbk.lots0 i u hu).1
      have hlx := (hbk.lots1 i x hx).1
      obtain ⟨U, cu, rfl⟩ := hlu.form
      obtain ⟨X, cx, rfl⟩ := hlx.form
      have hru : RowAt wr U (bytesV (bs.getD i [])) := LotB.row hlu
      have hrx : RowAt wr X (bytesV (bs.getD i [])) := LotB.row hlx
      have hcu : ∀ W : World, Below wr.heap.size wr W → (convert 35 9 (.slice U (sizeB bs i) cu)).run Tryz.prog W = .ok (str (bs.getD i [])) W := fun W hW => run_bytes_str (cap := cu) (hru.below hW)
      have hcx : ∀ W : World, Below wr.heap.size wr W → (convert 35 9 (.slice X (sizeB bs i) cx)).run Tryz.prog W = .ok (str (bs.getD i [])) W := fun W hW => run_bytes_str (cap := cx) (hrx.below hW)
      obtain ⟨l, hl⟩ : ∃ l, l = bs.getD i [] := ⟨_, rfl⟩
      obtain ⟨k, hk⟩ : ∃ k, k = sizeB bs i := ⟨_, rfl⟩
      rw [← hl, ← hk] at hcu hcx
      rw [← hk] at y0 y1
      have hd1 := hcu wr.drew ((Below.refl _ _).drew)
      have hd2 := hcx wr.drew ((Below.refl _ _).drew)
      have hi1 : (i : Int) < (vs.length : Int) := by omega
      have hi2 : (i : Int) < (ws.length : Int) := by omega
      have hll : (l == l) = true := by simp
      have HB := Lib.hid hb
      clear hb hbk hu hx hlu hlx hru hrx hl hk hcu hcx e2 e4 hlt hw1
      go_wp2_with fail
      go_region_law (fail)
      all_goals
        go_wp2_with fail
        exact ⟨⟨i + 1, by omega, by go_num, HB.out.drew⟩, by show vs.length - ((i : Int) + 1).toNat < vs.length - (i : Int).toNat; omega⟩
    · have hi1 : decide (i < vs.length) = false := decide_eq_false (by omega)
      have HB := Lib.hid hb
      clear hbk hb hlt
      go_wp2_with fail
      go_loopw [4] (fun iv wx => ∃ i : Nat, i ≤ us.length ∧ iv = .int .i64 i ∧ Below w.heap.size w wx) (fun iv _ => us.length - (intOf iv).toNat)
      case atStart => exact ⟨0, Nat.zero_le _, rfl, HB.out⟩
      case round =>
        obtain ⟨i, hi, rfl, hb⟩ := hrel
        have hbk := H.out.later hb (fun _ _ => rfl)
        have z2 : wr.cell? ⟨lg, 2, none⟩ = some (.slice T0 us.length ct0) := hbk.blk.cell 2
        have z3 : wr.cell? ⟨lg, 3, none⟩ = some (.slice T1 xs.length ct1) := hbk.blk.cell 3
        by_cases hlt : i < us.length
        · have hw1 : xs.length = us.length := by rw [H.out.len2, H.out.len3]
          obtain ⟨u, hu⟩ : ∃ u, us[i]? = some u := ⟨us[i], List.getElem?_eq_getElem hlt⟩
          obtain ⟨x, hx⟩ : ∃ x, xs[i]? = some x := ⟨xs[i]'(by omega), List.getElem?_eq_getElem _⟩
          obtain ⟨g0, c0, e0, y0, _⟩ := hbk.row2.at hu
          obtain ⟨g1, c1, e1, y1, _⟩ := hbk.row3.at hx
          injection e0 with e0 e2 e3
          subst e0 e3
          injection e1 with e1 e4 e5
          subst e1 e5
          have hlu := (hbk.lots2 i u hu).1
          have hlx := (hbk.lots3 i x hx).1
          obtain ⟨U, cu, rfl⟩ := hlu.form
          obtain ⟨X, cx, rfl⟩ := hlx.form
          have hru : RowAt wr U ((ts.getD i []).map str) := LotT.row hlu
          have hrx : RowAt wr X ((ts.getD i []).map str) := LotT.row hlx
          have hbig : (ts.getD i []).length ≤ 1000000000 := by
            rw [List.getD_eq_getElem?_getD, List.getElem?_eq_getElem (by rw [← H.out.len2]; exact hlt)]
            exact H.out.big.2 _ (List.getElem_mem _)
          have hca : ∀ W : World, Below wr.heap.size wr W → Calls Tryz.prog 48 #[.slice U (sizeT ts i) cu, .slice X (sizeT ts i) cx] W fun e w' => e = .returned (.bool true) ∧ Below W.heap.size W w' := fun W hW => texts_same (l := ts.getD i []) hbig (hru.below hW) (hrx.below hW)
          obtain ⟨k, hk⟩ : ∃ k, k = sizeT ts i := ⟨_, rfl⟩
          rw [← hk] at hca y0 y1
          have hi1 : (i : Int) < (us.length : Int) := by omega
          have hi2 : (i : Int) < (xs.length : Int) := by omega
          have HB := Lib.hid hb
          have HCA := Lib.hid hca
          clear hb hbk hu hx hlu hlx hru hrx hk hca e2 e4 hlt hw1 hbig
          go_wp2_with fail
          go_region_held3 (fun w' => w'.cell? ⟨lg, 2, none⟩ = some (.slice (some ⟨g0, 0, none⟩) us.length ct0) ∧ w'.cell? ⟨lg, 3, none⟩ = some (.slice (some ⟨g1, 0, none⟩) xs.length ct1) ∧ w'.cell? ⟨g0, i, none⟩ = some (.slice U k cu) ∧ w'.cell? ⟨g1, i, none⟩ = some (.slice X k cx)) (first | exact ⟨z2, z3, y0, y1⟩ | go_keep) ((go_at_call 48; refine (HCA.out _ ((Below.refl _ _).drew)).mono ?_; rintro e w2 ⟨rfl, hb2⟩; have hb3 := ((Below.refl wr.heap.size wr).drew).trans hb2; have z2 := (hb3.cell (p := ⟨lg, 2, none⟩) (World.block_lt_of_cell? wr _ z2)).trans z2; have z3 := (hb3.cell (p := ⟨lg, 3, none⟩) (World.block_lt_of_cell? wr _ z3)).trans z3; have y0 := (hb3.cell (p := ⟨g0, i, none⟩) (World.block_lt_of_cell? wr _ y0)).trans y0; have y1 := (hb3.cell (p := ⟨g1, i, none⟩) (World.block_lt_of_cell? wr _ y1)).trans y1; have HB3 := Lib.hid hb3; clear hb2 hb3))
          go_wp2_with fail
          exact ⟨⟨i + 1, by omega, by go_num, HB.out.trans (HB3.out.mono HB.out.size)⟩, by show us.length - ((i : Int) + 1).toNat < us.length - (i : Int).toNat; omega⟩
        · have hi1 : decide (i < us.length) = false := decide_eq_false (by omega)
          obtain ⟨ns, hns⟩ : ∃ ns, ns = sizeB bs := ⟨_, rfl⟩
          obtain ⟨ms, hms⟩ : ∃ ms, ms = sizeT ts := ⟨_, rfl⟩
          have hflat := hbk.flat
          rw [← hns, ← hms] at hflat
          have hnb : ∀ i, ns i ≤ 70368744177664 := fun i => by
            rw [hns]; unfold sizeB; rw [List.getD_eq_getElem?_getD]
            cases hx : bs[i]? with
            | none => exact Nat.zero_le _
            | some b => exact H.out.big.1 b (List.mem_of_getElem? hx)
          have hmb : ∀ i, ms i ≤ 1000000000 := fun i => by
            rw [hms]; unfold sizeT; rw [List.getD_eq_getElem?_getD]
            cases hx : ts[i]? with
            | none => exact Nat.zero_le _
            | some b => exact H.out.big.2 b (List.mem_of_getElem? hx)
          obtain ⟨f1, hf1⟩ : ∃ f1, f1 = relab f w (30, 0) := ⟨_, rfl⟩
          have hflat1 : LoanFlat wr f1 lg (.slice B0 vs.length cb0) (.slice B1 ws.length cb1) (.slice T0 us.length ct0) (.slice T1 xs.length ct1) vs us ns ms := by
            have := (H.out.later hb (f1 := f1) (fun k hk => by rw [hf1]; exact relab_old hk)).flat
            rw [← hns, ← hms] at this
            exact this
          have honl : OnlyL f f1 OnLoan w wr := by rw [hf1]; exact OnlyL.of_below hb f (30, 0) ⟨by decide, by decide⟩
          have HF := Lib.hid hflat1
          have HO := Lib.hid honl
          have HNB := Lib.hid hnb
          have HMB := Lib.hid hmb
          clear hbk hb hlt hns hms hflat hf1 hflat1 honl hnb hmb
          go_wp2_with fail
          go_loopw [5, 6] (fun iv _ wx => ∃ i : Nat, i ≤ vs.length ∧ iv = .int .i64 i ∧ LoanFlat wx f1 lg (.slice B0 vs.length cb0) (.slice B1 ws.length cb1) (.slice T0 us.length ct0) (.slice T1 xs.length ct1) vs us ns ms ∧ OnlyL f f1 OnLoan w wx) (fun iv _ _ => vs.length - (intOf iv).toNat)
          case atStart => exact ⟨0, Nat.zero_le _, rfl, HF.out, HO.out⟩
          case round =>
            obtain ⟨i, hi, rfl, hf, ho⟩ := hrel
            have z0 : wr.cell? ⟨lg, 0, none⟩ = some (.slice B0 vs.length cb0) := hf.blk.cell 0
            by_cases hlt : i < vs.length
            · obtain ⟨u, hu⟩ : ∃ u, vs[i]? = some u := ⟨vs[i], List.getElem?_eq_getElem hlt⟩
              obtain ⟨g0, c0, e0, y0, _⟩ := hf.row0.at hu
              injection e0 with e0 e2 e3
              subst e0 e3
              obtain ⟨U, cu, rfl⟩ := (hf.lots0 i u hu).1.form
              have hi1 : (i : Int) < (vs.length : Int) := by omega
              have hni := HNB.out i
              have HFF := Lib.hid hf
              have HOO := Lib.hid ho
              have HU := Lib.hid hu
              clear hf ho hu hlt e2
              go_wp2_with fail
              go_loopw [6] (fun kv wx => ∃ k : Nat, k ≤ ns i ∧ kv = .int .i64 k ∧ LoanFlat wx f1 lg (.slice (some ⟨g0, 0, none⟩) vs.length cb0) (.slice B1 ws.length cb1) (.slice T0 us.length ct0) (.slice T1 xs.length ct1) vs us ns ms ∧ OnlyL f f1 OnLoan w wx) (fun kv _ => ns i - (intOf kv).toNat)
              case atStart => exact ⟨0, Nat.zero_le _, rfl, HFF.out, HOO.out⟩
              case round =>
                obtain ⟨k, hk, rfl, hf, ho⟩ := hrel
                have x0 : wr.cell? ⟨lg, 0, none⟩ = some (.slice (some ⟨g0, 0, none⟩) vs.length cb0) := hf.blk.cell 0
                obtain ⟨g0', c0', e0, x1, _⟩ := hf.row0.at HU.out
                injection e0 with e0 e2 e3
                injection e0 with e0; injection e0 with e0
                subst e0 e3
                by_cases hlk : k < ns i
                · obtain ⟨hla, hlb⟩ := hf.lots0 i _ HU.out
                  dsimp only at hla hlb
                  obtain ⟨g, rfl, ⟨uo, hth1⟩, hth2, hw⟩ := Lot.poke (F := fun _ => overB) (fun _ => rfl) hla hlb hlk rfl
                  have hk1 : (k : Int) < (ns i : Int) := by omega
                  have HF2 := Lib.hid (hf.onB hw)
                  have HO2 := Lib.hid (ho.trans (hw.only.mono (Q := OnLoan) fun l hl => by subst hl; exact onLoan_of (by decide)))
                  clear hf ho hla hlb hw hlk e2
                  go_wp2_with fail
                  exact ⟨⟨k + 1, by omega, by go_num, HF2.out, HO2.out⟩, by show ns i - ((k : Int) + 1).toNat < ns i - (k : Int).toNat; omega⟩
                · have hk1 : decide (k < ns i) = false := decide_eq_false (by omega)
                  have HF2 := Lib.hid hf
                  have HO2 := Lib.hid ho
                  clear hf ho hlk e2
                  go_wp2_with fail
                  exact ⟨⟨i + 1, by omega, by go_num, HF2.out, HO2.out⟩, by show vs.length - ((i : Int) + 1).toNat < vs.length - (i : Int).toNat; omega⟩
            · have hi1 : decide (i < vs.length) = false := decide_eq_false (by omega)
              have HFF := Lib.hid hf
              have HOO := Lib.hid ho
              clear hf ho hlt
              go_wp2_with fail
              go_loopw [7, 8] (fun iv _ wx => ∃ i : Nat, i ≤ us.length ∧ iv = .int .i64 i ∧ LoanFlat wx f1 lg (.slice B0 vs.length cb0) (.slice B1 ws.length cb1) (.slice T0 us.length ct0) (.slice T1 xs.length ct1) vs us ns ms ∧ OnlyL f f1 OnLoan w wx) (fun iv _ _ => us.length - (intOf iv).toNat)
              case atStart => exact ⟨0, Nat.zero_le _, rfl, HFF.out, HOO.out⟩
              case round =>
                obtain ⟨i, hi, rfl, hf, ho⟩ := hrel
                have z2 : wr.cell? ⟨lg, 2, none⟩ = some (.slice T0 us.length ct0) := hf.blk.cell 2
                by_cases hlt : i < us.length
                · obtain ⟨u, hu⟩ : ∃ u, us[i]? = some u := ⟨us[i], List.getElem?_eq_getElem hlt⟩
                  obtain ⟨g0, c0, e0, y0, _⟩ := hf.row2.at hu
                  injection e0 with e0 e2 e3
                  subst e0 e3
                  obtain ⟨U, cu, rfl⟩ := (hf.lots2 i u hu).1.form
                  have hi1 : (i : Int) < (us.length : Int) := by omega
                  have hni := HMB.out i
                  have HFF := Lib.hid hf
                  have HOO := Lib.hid ho
                  have HU := Lib.hid hu
                  clear hf ho hu hlt e2
                  go_wp2_with fail
                  go_loopw [8] (fun kv wx => ∃ k : Nat, k ≤ ms i ∧ kv = .int .i64 k ∧ LoanFlat wx f1 lg (.slice B0 vs.length cb0) (.slice B1 ws.length cb1) (.slice (some ⟨g0, 0, none⟩) us.length ct0) (.slice T1 xs.length ct1) vs us ns ms ∧ OnlyL f f1 OnLoan w wx) (fun kv _ => ms i - (intOf kv).toNat)
                  case atStart => exact ⟨0, Nat.zero_le _, rfl, HFF.out, HOO.out⟩
                  case round =>
                    obtain ⟨k, hk, rfl, hf, ho⟩ := hrel
                    have x0 : wr.cell? ⟨lg, 2, none⟩ = some (.slice (some ⟨g0, 0, none⟩) us.length ct0) := hf.blk.cell 2
                    obtain ⟨g0', c0', e0, x1, _⟩ := hf.row2.at HU.out
                    injection e0 with e0 e2 e3
                    injection e0 with e0; injection e0 with e0
                    subst e0 e3
                    by_cases hlk : k < ms i
                    · obtain ⟨hla, hlb⟩ := hf.lots2 i _ HU.out
                      dsimp only at hla hlb
                      obtain ⟨g, rfl, ⟨uo, hth1⟩, hth2, hw⟩ := Lot.poke (F := fun _ => overT) (fun _ => rfl) hla hlb hlk rfl
                      have hk1 : (k : Int) < (ms i : Int) := by omega
                      have HF2 := Lib.hid (hf.onT hw)
                      have HO2 := Lib.hid (ho.trans (hw.only.mono (Q := OnLoan) fun l hl => by subst hl; exact onLoan_of (by decide)))
                      clear hf ho hla hlb hw hlk e2
                      go_wp2_with fail
                      exact ⟨⟨k + 1, by omega, by go_num, HF2.out, HO2.out⟩, by show ms i - ((k : Int) + 1).toNat < ms i - (k : Int).toNat; omega⟩
                    · have hk1 : decide (k < ms i) = false := decide_eq_false (by omega)
                      have HF2 := Lib.hid hf
                      have HO2 := Lib.hid ho
                      clear hf ho hlk e2
                      go_wp2_with fail
                      exact ⟨⟨i + 1, by omega, by go_num, HF2.out, HO2.out⟩, by show us.length - ((i : Int) + 1).toNat < us.length - (i : Int).toNat; omega⟩
                · have hi1 : decide (i < us.length) = false := decide_eq_false (by omega)
                  have q0 : (wr.cell? ⟨lg, 0, none⟩).isSome = true := by rw [hf.blk.cell 0]; rfl
                  have y0 : wr.cell? ⟨lg, 0, none⟩ = some (.slice B0 vs.length cb0) := hf.blk.cell 0
                  have y1 : wr.cell? ⟨lg, 1, none⟩ = some (.slice B1 ws.length cb1) := hf.blk.cell 1
                  have y3 : wr.cell? ⟨lg, 3, none⟩ = some (.slice T1 xs.length ct1) := hf.blk.cell 3
                  have x0 := hf.blk.frozen 0
                  have x1 := hf.blk.frozen 1
                  have x2 := hf.blk.frozen 2
                  have x3 := hf.blk.frozen 3
                  have HFF := Lib.hid hf
                  have HOO := Lib.hid ho
                  clear hf ho hlt q0
                  go_wp2_with fail
                  rw [← HR.out]
                  have hs := HFF.out.self
                  have o1 := OnlyL.of_put (P := OnLoan) f1 wr ⟨lg, 0, none⟩ nilRow (by show OnLoan (f1 lg); rw [hs]; exact ⟨by decide, by decide⟩)
                  have o2 := OnlyL.of_put (P := OnLoan) f1 (wr.setCell ⟨lg, 0, none⟩ nilRow) ⟨lg, 1, none⟩ nilRow (by show OnLoan (f1 lg); rw [hs]; exact ⟨by decide, by decide⟩)
                  have o3 := OnlyL.of_put (P := OnLoan) f1 ((wr.setCell ⟨lg, 0, none⟩ nilRow).setCell ⟨lg, 1, none⟩ nilRow) ⟨lg, 2, none⟩ nilRow (by show OnLoan (f1 lg); rw [hs]; exact ⟨by decide, by decide⟩)
                  have o4 := OnlyL.of_put (P := OnLoan) f1 (((wr.setCell ⟨lg, 0, none⟩ nilRow).setCell ⟨lg, 1, none⟩ nilRow).setCell ⟨lg, 2, none⟩ nilRow) ⟨lg, 3, none⟩ nilRow (by show OnLoan (f1 lg); rw [hs]; exact ⟨by decide, by decide⟩)
                  exact ⟨rfl, f1, (((HOO.out.trans o1).trans o2).trans o3).trans o4, (((HFF.out.blk.put 0 nilRow).put 1 nilRow).put 2 nilRow).put 3 nilRow⟩
end Go.Proofs.YthgfjafnclklpaaGreatDoor
end
section
namespace Go.Proofs.YthgfjafnclklpaaGreatDoor
attribute [local go_sem ↓] Go.wp_at_zero Go.wp_at_succ
open Go.RowKit

theorem LoanAt.apart {w w1 : World} {f f1 : Nat → Lab} {P : Lab → Prop} {lg : Nat} {l0 l1 l2 l3 : Value} {vs ws us xs : List Value} {bs : List Sp.Bs} {ts : List (List Sp.Bs)} (h : LoanAt w f lg l0 l1 l2 l3 vs ws us xs bs ts) (ho : OnlyL f f1 P w w1) (h0 : ¬ P (30, 0)) (hn : ∀ i, ¬ P (31, i) ∧ ¬ P (32, i) ∧ ¬ P (33, i) ∧ ¬ P (34, i) ∧ ¬ P (35, i) ∧ ¬ P (36, i)) : LoanAt w1 f1 lg l0 l1 l2 l3 vs ws us xs bs ts :=
  { h with
    blk := h.blk.same (ho.block lg h.blk.lt (by rw [h.self]; exact h0))
    self := by rw [ho.lab lg h.blk.lt]; exact h.self
    row0 := h.row0.apart ho (hn 0).1
    row1 := h.row1.apart ho (hn 1).1
    row2 := h.row2.apart ho (hn 0).2.1
    row3 := h.row3.apart ho (hn 1).2.1
    lots0 := h.lots0.apart ho (fun i => (hn i).2.2.1)
    lots1 := h.lots1.apart ho (fun i => (hn i).2.2.2.1)
    lots2 := h.lots2.apart ho (fun i => (hn i).2.2.2.2.1)
    lots3 := h.lots3.apart ho (fun i => (hn i).2.2.2.2.2) }
theorem LoanAt.box {w w1 : World} {f f1 : Nat → Lab} {lg k : Nat} {l0 l1 l2 l3 : Value} {vs ws us xs : List Value} {bs : List Sp.Bs} {ts : List (List Sp.Bs)} (h : LoanAt w f lg l0 l1 l2 l3 vs ws us xs bs ts) (ho : OnlyL f f1 (· = (30, k)) w w1) (hk : k ≠ 0) : LoanAt w1 f1 lg l0 l1 l2 l3 vs ws us xs bs ts :=
  h.apart ho (fun e => hk (congrArg Prod.snd e).symm) (fun i => ⟨lab_ne (by decide), lab_ne (by decide), lab_ne (by decide), lab_ne (by decide), lab_ne (by decide), lab_ne (by decide)⟩)
theorem RowAt.front {w : World} {A : Option Addr} {xs ys : List Value} (h : RowAt w A (xs ++ ys)) : RowAt w A xs := by
  rcases h with h | ⟨g, o, h1, h2, h3⟩
  · exact .inl (List.append_eq_nil_iff.1 h).1
  · exact .inr ⟨g, o, h1, h2, fun j u hu => h3 j u (by rw [List.getElem?_append_left (List.getElem?_eq_some_iff.1 hu).1]; exact hu)⟩
/-- a command whose keys and data lie in new rows -/
def CmdX.lent (x : CmdX) (g1 c1 g2 c2 : Nat) : CmdX := { x with K := some ⟨g1, 0, none⟩, kc := c1, D := some ⟨g2, 0, none⟩, dc := c2 }
theorem CmdGood.lent {w w' : World} {x : CmdX} (h : CmdGood w x) {g1 c1 g2 c2 : Nat} (hb : Below w.heap.size w w') (hk : LotT w' (.slice (some ⟨g1, 0, none⟩) (x.c.keys.length + 40) c1) (x.c.keys ++ markTL)) (hd : LotB w' (.slice (some ⟨g2, 0, none⟩) (x.c.data.length + 40) c2) (x.c.data ++ markBL))
    (h1 : x.c.keys.length ≤ c1 ∧ c1 ≤ maxLen) (h2 : x.c.data.length ≤ c2 ∧ c2 ≤ maxLen) : CmdGood w' (x.lent g1 c1 g2 c2) := by
  have hrk : RowAt w' (some ⟨g1, 0, none⟩) (x.c.keys.map str) := by
    have := LotT.row hk
    rw [List.map_append] at this
    exact this.front
  have hrd : RowAt w' (some ⟨g2, 0, none⟩) (bytesV x.c.data) := by
    have := LotB.row hd
    rw [bytesV_append] at this
    exact this.front
  have hb2 := h.below hb
  exact { hb2 with
    mem := ⟨hrk, hrd, hb2.mem.metas, fun e => (by cases e), fun e => (by cases e)⟩
    kc := h1.1
    dc := h2.1
    caps := ⟨by unfold maxLen at h1; exact h1.2, by unfold maxLen at h2; exact h2.2, hb2.caps.2.2⟩ }

attribute [-go_sem] storeVar loadVar
attribute [local go_sem] storeVar_intR storeVar_sliceR storeVar_strR loadVar_intR loadVar_rowR loadVar_rowsR loadVar_textsR loadVar_textssR run_store_cmd canPut_setCell canPut_drew canPut_alloc canPut_setCells

end Go.Proofs.YthgfjafnclklpaaGreatDoor
end
