/- Walks of the statements' small and kept. -/
import Derived.Test.YtnbeeehfapjpdaaGreatDoorU7
namespace Go.Proofs.YtnbeeehfapjpdaaGreatDoor
attribute [local go_sem ↓] Go.wp_at_zero Go.wp_at_succ
open Go.RowKit

theorem tells_any (v : Int) (w : World) : Calls Tryz.prog 69 #[.int .i64 v] w fun e w' => e = .returned (.bool (Sp.tokensV v)) ∧ w = w' := by
  by_cases h2 : v = 2
  · subst h2
    go_enter Tryz.func69, Tryz.ntmps69
    go_wp2
    go_ret
    exact ⟨rfl, rfl⟩
  by_cases h4 : v = 4
  · subst h4
    go_enter Tryz.func69, Tryz.ntmps69
    go_wp2
    go_ret
    exact ⟨rfl, rfl⟩
  have g2 : (v == 2) = false := by simpa using h2
  have g4 : (v == 4) = false := by simpa using h4
  have e : Sp.tokensV v = false := by unfold Sp.tokensV; rw [decide_eq_false_iff_not]; omega
  rw [e]
  clear e h2 h4
  go_enter Tryz.func69, Tryz.ntmps69
  go_wp2
  go_ret
  exact ⟨rfl, rfl⟩
theorem entSize_snoc (l : List Sp.EntryV) (e : Sp.EntryV) : Sp.entSize (l ++ [e]) = Sp.entSize l + (e.key.length + e.value.length + 1) := by unfold Sp.entSize; simp
theorem entSize_take (l : List Sp.EntryV) (i : Nat) : Sp.entSize (l.take i) ≤ Sp.entSize l := by
  have : Sp.entSize l = Sp.entSize (l.take i) + Sp.entSize (l.drop i) := by
    unfold Sp.entSize
    rw [← List.sum_append, ← List.map_append, List.take_append_drop]
  omega
theorem take_next {α : Type} {l : List α} {i : Nat} {a : α} (h : l[i]? = some a) : l.take (i + 1) = l.take i ++ [a] := by
  rw [List.take_add_one, h]; rfl
set_option maxHeartbeats 4000000 in
set_option maxRecDepth 100000 in
theorem small_any {w : World} {x : AnsX} (hx : AnsGood w x) :
    Calls Tryz.prog 10 #[x.val] w fun e w' => e = .returned (.bool true) ∧ Below w.heap.size w w' := by
  generalize hR : (fun (e : Ending) (w' : World) => e = .returned (.bool true) ∧ Below w.heap.size w w') = R
  have hsz := hx.size
  have hents := hx.mem.ents
  have hfew := hx.mem.few.1
  obtain ⟨k1, E1, ec1, xs1, n1, t1, S1, sc1, st1⟩ := x
  have hle : ∀ i, Sp.entSize ((xs1.map (·.e)).take i) ≤ 1048576 := fun i => by
    have h1 := entSize_take (xs1.map (·.e)) i
    have h2 : Sp.entSize (xs1.map (·.e)) + Sp.statSize st1 + t1.length ≤ 1048576 := hsz
    omega
  simp only at hents hfew
  show Calls Tryz.prog 10 #[.agg #[.int .i64 k1, .slice E1 xs1.length ec1, .int .u64 n1, str t1, .slice S1 st1.length sc1]] w R
  have hal : Below w.heap.size w (w.alloc (.cells #[.int .i64 k1, .slice E1 xs1.length ec1, .int .u64 n1, str t1, .slice S1 st1.length sc1] 36)) := (Below.refl _ _).alloc (Nat.le_refl _) _
  have hax := Blk.new w 36 #[.int .i64 k1, .slice E1 xs1.length ec1, .int .u64 n1, str t1, .slice S1 st1.length sc1]
  have hin := hents.below hal
  obtain ⟨W1, hW1⟩ : ∃ W1, W1 = w.alloc (.cells #[.int .i64 k1, .slice E1 xs1.length ec1, .int .u64 n1, str t1, .slice S1 st1.length sc1] 36) := ⟨_, rfl⟩
  rw [← hW1] at hal hax hin
  obtain ⟨ax, hae⟩ : ∃ ax, ax = w.heap.size := ⟨_, rfl⟩
  rw [← hae] at hax
  have p1 := hax.cell 1
  simp only [List.getElem?_toArray, List.getElem?_cons_zero, List.getElem?_cons_succ] at p1
  have HR := Lib.hid hR
  have HIN := Lib.hid hin
  have HAL := Lib.hid hal
  have HW1 := Lib.hid hW1
  have HAE := Lib.hid hae
  have HLE := Lib.hid hle
  clear hR hx hin hents hax hal hW1 hae hle hsz
  go_enter Tryz.func10, Tryz.ntmps10
  go_upto_region 1 with fail
  rw [← HW1.out, ← HAE.out]
  go_wp2_with fail
  go_loop [3, 4] (fun nv iv => ∃ i n : Nat, i ≤ xs1.length ∧ nv = .int .i64 n ∧ iv = .int .i64 i ∧ n ≤ Sp.entSize ((xs1.map (·.e)).take i)) (fun _ iv => xs1.length - (intOf iv).toNat)
  case atStart => exact ⟨0, 0, Nat.zero_le _, rfl, rfl, Nat.zero_le _⟩
  case round =>
    obtain ⟨i, n, hi, rfl, rfl, hn⟩ := hrel
    have hn1 := HLE.out i
    by_cases hlt : i < xs1.length
    · obtain ⟨a, ha⟩ : ∃ a, xs1[i]? = some a := ⟨xs1[i], by simp [hlt]⟩
      obtain ⟨g, o, hEe, hgl, ycell⟩ := HIN.out.cell ha
      subst hEe
      have z1 := ycell 1 _ rfl
      have hnx : (xs1.map (·.e)).take (i + 1) = (xs1.map (·.e)).take i ++ [a.e] := take_next (by rw [List.getElem?_map, ha]; rfl)
      have hn2 := HLE.out (i + 1)
      rw [hnx, entSize_snoc] at hn2
      have hsn := entSize_snoc ((xs1.map (·.e)).take i) a.e
      obtain ⟨m, hm⟩ : ∃ m, m = a.e.value.length := ⟨_, rfl⟩
      rw [← hm] at z1 hn2 hsn
      have hfit : n + m ≤ 1048576 := by omega
      have hgt : ¬ (2097152 < (n : Int) + (m : Int)) := by omega
      have hgt2 : decide ((2097152 : Int) < (n : Int) + (m : Int)) = false := decide_eq_false hgt
      have hlt1 : (i : Int) < (xs1.length : Int) := by omega
      have HN := Lib.hid (show n + m ≤ Sp.entSize ((xs1.map (·.e)).take (i + 1)) by rw [hnx, hsn]; omega)
      clear ycell hn hn1 hn2 hsn hnx ha hm
      go_wp2_with fail
      exact ⟨⟨i + 1, n + m, by omega, by go_num, by go_num, HN.out⟩, by show xs1.length - ((i : Int) + 1).toNat < xs1.length - (i : Int).toNat; omega⟩
    · have hlt1 : decide ((i : Int) < (xs1.length : Int)) = false := decide_eq_false (by omega)
      have hlt2 : decide (i < xs1.length) = false := decide_eq_false hlt
      clear hlt
      go_wp2_with fail
      rw [← HR.out]
      exact ⟨rfl, HAL.out⟩

theorem kept_results {W : World} {b : Nat} {cs : Array Value} {c0 c1 c2 c3 c4 : Value} (h : Blk W b 36 cs) (tm : Array Value) (t4 : tm[4]?.getD undef = .pointer (some ⟨b, 0, none⟩))
    (e0 : cs[0]? = some c0) (e1 : cs[1]? = some c1) (e2 : cs[2]? = some c2) (e3 : cs[3]? = some c3) (e4 : cs[4]? = some c4) : (results Tryz.f31 tm).run Tryz.prog W = .ok (.agg #[c0, c1, c2, c3, c4]) W := by
  have z0 := (h.cell 0).trans e0
  have z1 := (h.cell 1).trans e1
  have z2 := (h.cell 2).trans e2
  have z3 := (h.cell 3).trans e3
  have z4 := (h.cell 4).trans e4
  clear h
  simp [results, Tryz.results31, go_sem, t4, z0, z1, z2, z3, z4]
theorem row_put {w : World} {A : Option Addr} {xs : List Value} {p : Addr} {u : Value} (h : RowAt w A xs) (hp : ∀ a, A = some a → a.block ≠ p.block) : RowAt (w.setCell p u) A xs := by
  rcases h with h | ⟨b, o, h1, h2, h3⟩
  · exact .inl h
  · exact .inr ⟨b, o, h1, by simpa [World.setCell] using h2, fun j v hv => (World.cell?_of_block (Below.heap_setCell w p u b (hp _ h1))).trans (h3 j v hv)⟩
theorem cells_new2 (w : World) (o1 o2 : Obj) (us : List Value) (t : TypeId) : ∀ j v, us[j]? = some v → (((w.alloc o1).alloc o2).alloc (.cells us.toArray t)).cell? ((⟨w.heap.size + 1 + 1, 0, none⟩ : Addr).add j) = some v := fun j v hj => by
  have h := cells_new ((w.alloc o1).alloc o2) us t j v hj
  rw [show ((w.alloc o1).alloc o2).heap.size = w.heap.size + 1 + 1 by simp] at h
  exact h
/-- an entry, as far as it is told -/
def keptX (v k : Int) (y : EntX) : EntX := ⟨{ key := if k = 9 then y.e.key else [], value := y.e.value, flags := if k = 9 then y.e.flags else 0, token := if Sp.tokensV v then y.e.token else 0 }, y.B, y.c⟩
theorem kept_v (v : Int) (x : AnsX) (E : Option Addr) (ec : Nat) : ({ x with E := E, ec := ec, xs := x.xs.map (keptX v x.kind) } : AnsX).v = Sp.keptR v x.v := by
  unfold AnsX.v Sp.keptR
  simp only [List.map_map]
  congr 1
set_option maxHeartbeats 8000000 in
set_option maxRecDepth 100000 in
theorem kept_any {w : World} (v : Int) (K : Option Addr) (kn kc : Nat) (fl ex tk dl : Int) (D : Option Addr) (dn dc : Nat) (nr lg : Bool) (M : Option Addr) (mn mc : Nat) (what : Sp.Bs) {x : AnsX} (hx : AnsGood w x) :
    Calls Tryz.prog 31 #[cmdA v K kn kc fl ex tk dl D dn dc nr lg M mn mc what, x.val] w fun e w' => Below w.heap.size w w' ∧ ∃ y : AnsX, y.v = Sp.keptR v x.v ∧ e = .returned y.val ∧ AnsRd w' y := by
  obtain ⟨post, hpost⟩ : ∃ post : Ending → World → Prop, post = fun e w' => Below w.heap.size w w' ∧ ∃ (E : Option Addr) (ec : Nat), e = .returned ({ x with E := E, ec := ec, xs := x.xs.map (keptX v x.kind) } : AnsX).val ∧ RowAt w' E ((x.xs.map (keptX v x.kind)).flatMap EntX.cells) := ⟨_, rfl⟩
  have hmain : Calls Tryz.prog 31 #[cmdA v K kn kc fl ex tk dl D dn dc nr lg M mn mc what, x.val] w post := by
    have hents := hx.mem.ents
    have hfew := hx.mem.few.1
    obtain ⟨k1, E1, ec1, xs1, n1, t1, S1, sc1, st1⟩ := x
    simp only at hents hfew
    show Calls Tryz.prog 31 #[.agg #[.int .i64 v, .slice K kn kc, .int .u64 fl, .int .i64 ex, .int .u64 tk, .int .u64 dl, .slice D dn dc, .bool nr, .bool lg, .slice M mn mc, str what], .agg #[.int .i64 k1, .slice E1 xs1.length ec1, .int .u64 n1, str t1, .slice S1 st1.length sc1]] w post
    have hal : Below w.heap.size w (((w.alloc (.cells #[.int .i64 v, .slice K kn kc, .int .u64 fl, .int .i64 ex, .int .u64 tk, .int .u64 dl, .slice D dn dc, .bool nr, .bool lg, .slice M mn mc, str what] 32)).alloc (.cells #[.int .i64 k1, .slice E1 xs1.length ec1, .int .u64 n1, str t1, .slice S1 st1.length sc1] 36)).alloc (.cells #[.int .i64 0, .slice none 0 0, .int .u64 0, .string ⟨#[]⟩, .slice none 0 0] 36)) := (((Below.refl _ _).alloc (Nat.le_refl _) _).alloc (by simp) _).alloc (by simp; omega) _
    have hcx : Blk (((w.alloc (.cells #[.int .i64 v, .slice K kn kc, .int .u64 fl, .int .i64 ex, .int .u64 tk, .int .u64 dl, .slice D dn dc, .bool nr, .bool lg, .slice M mn mc, str what] 32)).alloc (.cells #[.int .i64 k1, .slice E1 xs1.length ec1, .int .u64 n1, str t1, .slice S1 st1.length sc1] 36)).alloc (.cells #[.int .i64 0, .slice none 0 0, .int .u64 0, .string ⟨#[]⟩, .slice none 0 0] 36)) w.heap.size 32 #[.int .i64 v, .slice K kn kc, .int .u64 fl, .int .i64 ex, .int .u64 tk, .int .u64 dl, .slice D dn dc, .bool nr, .bool lg, .slice M mn mc, str what] := ((Blk.new w _ _).alloc _).alloc _
    have hax : Blk (((w.alloc (.cells #[.int .i64 v, .slice K kn kc, .int .u64 fl, .int .i64 ex, .int .u64 tk, .int .u64 dl, .slice D dn dc, .bool nr, .bool lg, .slice M mn mc, str what] 32)).alloc (.cells #[.int .i64 k1, .slice E1 xs1.length ec1, .int .u64 n1, str t1, .slice S1 st1.length sc1] 36)).alloc (.cells #[.int .i64 0, .slice none 0 0, .int .u64 0, .string ⟨#[]⟩, .slice none 0 0] 36)) (w.heap.size + 1) 36 #[.int .i64 k1, .slice E1 xs1.length ec1, .int .u64 n1, str t1, .slice S1 st1.length sc1] := by
      have h := Blk.new (w.alloc (.cells #[.int .i64 v, .slice K kn kc, .int .u64 fl, .int .i64 ex, .int .u64 tk, .int .u64 dl, .slice D dn dc, .bool nr, .bool lg, .slice M mn mc, str what] 32)) 36 #[.int .i64 k1, .slice E1 xs1.length ec1, .int .u64 n1, str t1, .slice S1 st1.length sc1]
      rw [show (w.alloc (.cells #[.int .i64 v, .slice K kn kc, .int .u64 fl, .int .i64 ex, .int .u64 tk, .int .u64 dl, .slice D dn dc, .bool nr, .bool lg, .slice M mn mc, str what] 32)).heap.size = w.heap.size + 1 by simp] at h
      exact h.alloc _
    have hzx : Blk (((w.alloc (.cells #[.int .i64 v, .slice K kn kc, .int .u64 fl, .int .i64 ex, .int .u64 tk, .int .u64 dl, .slice D dn dc, .bool nr, .bool lg, .slice M mn mc, str what] 32)).alloc (.cells #[.int .i64 k1, .slice E1 xs1.length ec1, .int .u64 n1, str t1, .slice S1 st1.length sc1] 36)).alloc (.cells #[.int .i64 0, .slice none 0 0, .int .u64 0, .string ⟨#[]⟩, .slice none 0 0] 36)) (w.heap.size + 1 + 1) 36 #[.int .i64 0, .slice none 0 0, .int .u64 0, .string ⟨#[]⟩, .slice none 0 0] := by
      have h := Blk.new ((w.alloc (.cells #[.int .i64 v, .slice K kn kc, .int .u64 fl, .int .i64 ex, .int .u64 tk, .int .u64 dl, .slice D dn dc, .bool nr, .bool lg, .slice M mn mc, str what] 32)).alloc (.cells #[.int .i64 k1, .slice E1 xs1.length ec1, .int .u64 n1, str t1, .slice S1 st1.length sc1] 36)) 36 #[.int .i64 0, .slice none 0 0, .int .u64 0, .string ⟨#[]⟩, .slice none 0 0]
      rw [show ((w.alloc (.cells #[.int .i64 v, .slice K kn kc, .int .u64 fl, .int .i64 ex, .int .u64 tk, .int .u64 dl, .slice D dn dc, .bool nr, .bool lg, .slice M mn mc, str what] 32)).alloc (.cells #[.int .i64 k1, .slice E1 xs1.length ec1, .int .u64 n1, str t1, .slice S1 st1.length sc1] 36)).heap.size = w.heap.size + 1 + 1 by simp] at h
      exact h
    have hin := hents.below hal
    obtain ⟨W1, hW1⟩ : ∃ W1, W1 = (((w.alloc (.cells #[.int .i64 v, .slice K kn kc, .int .u64 fl, .int .i64 ex, .int .u64 tk, .int .u64 dl, .slice D dn dc, .bool nr, .bool lg, .slice M mn mc, str what] 32)).alloc (.cells #[.int .i64 k1, .slice E1 xs1.length ec1, .int .u64 n1, str t1, .slice S1 st1.length sc1] 36)).alloc (.cells #[.int .i64 0, .slice none 0 0, .int .u64 0, .string ⟨#[]⟩, .slice none 0 0] 36)) := ⟨_, rfl⟩
    rw [← hW1] at hal hcx hax hzx hin
    have hsz1 : W1.heap.size = w.heap.size + 1 + 1 + 1 := by rw [hW1]; simp
    obtain ⟨cx, hce⟩ : ∃ cx, cx = w.heap.size := ⟨_, rfl⟩
    obtain ⟨ax, hae⟩ : ∃ ax, ax = w.heap.size + 1 := ⟨_, rfl⟩
    obtain ⟨zx, hze⟩ : ∃ zx, zx = w.heap.size + 1 + 1 := ⟨_, rfl⟩
    rw [← hce] at hcx
    rw [← hae] at hax
    rw [← hze] at hzx
    have htl := fun W : World => tells_any v W
    obtain ⟨i0, hi0, hz0, hz1, hz2⟩ := info_parts info_ent
    have HP := Lib.hid hpost
    have HIN := Lib.hid hin
    have HAL := Lib.hid hal
    have HCX := Lib.hid hcx
    have HAX := Lib.hid hax
    have HZX := Lib.hid hzx
    have HW1 := Lib.hid hW1
    have HCE := Lib.hid hce
    have HAE := Lib.hid hae
    have HZE := Lib.hid hze
    have HSZ := Lib.hid hsz1
    have HTL := Lib.hid htl
    clear hpost hx hin hents hal hcx hax hzx hW1 hce hae hze hsz1 htl
    go_enter Tryz.func31, Tryz.ntmps31
    go_upto_region 1 with fail
    rw [← HW1.out, ← HZE.out, ← HAE.out, ← HCE.out]
    go_wp2_with fail
    go_loopw [5, 6] (fun lv iv wr => ∃ (i : Nat) (T : Option Addr) (tc : Nat), i ≤ xs1.length ∧ lv = .slice T i tc ∧ iv = .int .i64 i ∧ wr.ownsRow W1.heap.size 86 9 (.slice T i tc) i (((xs1.take i).map (keptX v k1)).flatMap EntX.cells) ∧ Below W1.heap.size W1 wr) (fun _ iv _ => xs1.length - (intOf iv).toNat)
    case atStart => exact ⟨0, none, 0, Nat.zero_le _, rfl, rfl, World.ownsRow_nil W1 _ _ 9, Below.refl _ _⟩
    case round =>
      obtain ⟨i, T, tc, hi, rfl, rfl, hown, hb⟩ := hrel
      have hax2 := HAX.out.later hb
      have hcx2 := HCX.out.later hb
      have p0 := hax2.cell 0
      have p1 := hax2.cell 1
      have p2 := hax2.cell 2
      have p3 := hax2.cell 3
      have p4 := hax2.cell 4
      have c0 := hcx2.cell 0
      simp only [List.getElem?_toArray, List.getElem?_cons_zero, List.getElem?_cons_succ] at p0 p1 p2 p3 p4 c0
      have hax2lt := hax2.lt
      have hcx2lt := hcx2.lt
      by_cases hlt : i < xs1.length
      · obtain ⟨a, ha⟩ : ∃ a, xs1[i]? = some a := ⟨xs1[i], by simp [hlt]⟩
        have hinb := HIN.out.below hb
        obtain ⟨g, o, hEe, hgl, ycell⟩ := hinb.cell ha
        subst hEe
        have hnx : (xs1.take (i + 1)).map (keptX v k1) = (xs1.take i).map (keptX v k1) ++ [keptX v k1 a] := by rw [take_next ha, List.map_append, List.map_singleton]
        obtain ⟨⟨ky, vl, fl1, ex1, tk1, tc1, s1, s2, s3⟩, aB, ac⟩ := a
        have z0 : wr.cell? ⟨g, o + i * 9, none⟩ = some (str ky) := ycell 0 _ rfl
        have z1 := ycell 1 _ rfl
        have z2 := ycell 2 _ rfl
        have z3 := ycell 3 _ rfl
        have z4 := ycell 4 _ rfl
        have z5 := ycell 5 _ rfl
        have z6 := ycell 6 _ rfl
        have z7 := ycell 7 _ rfl
        have z8 := ycell 8 _ rfl
        have hlt1 : (i : Int) < (xs1.length : Int) := by omega
        have hsb := hb.size
        have HOWN := Lib.hid hown
        have HB := Lib.hid hb
        have HNX := Lib.hid hnx
        clear hown hb hnx ha ycell hax2 hcx2 hinb
        have hal1 := hax2lt
        have hcl1 := hcx2lt
        rcases Decidable.em (k1 = 9) with hk9 | hk9 <;> rcases Bool.eq_false_or_eq_true (Sp.tokensV v) with ht9 | ht9
        · have g9 : (k1 == 9) = true := by rw [hk9]; rfl
          have htv : Sp.tokensV v = true := by exact ht9
          have htl := fun W : World => (by have h := HTL.out W; rw [htv] at h; exact h : Calls Tryz.prog 69 #[.int .i64 v] W fun e w' => e = .returned (.bool true) ∧ W = w')
          have hX : (keptX v k1 ⟨⟨ky, vl, fl1, ex1, tk1, tc1, s1, s2, s3⟩, aB, ac⟩).cells = [str ky, .slice aB vl.length ac, .int .u64 fl1, .int .i64 0, .int .u64 tk1, .int .i64 0, .bool false, .bool false, .bool false] := by
            unfold keptX EntX.cells
            simp only [htv, hk9, if_pos]
            all_goals rfl
          have HTV := Lib.hid htl
          have HX := Lib.hid hX
          clear htl htv hX hk9 ht9
          go_wp2_with (first
            | (go_at_call 69; refine (HTV.out _).mono ?_; rintro e w2 ⟨rfl, rfl⟩)
            | (at_builtin; refine wpList_append_put rfl (.tmp 39) (.tmp 41) _ rfl W1.heap.size 86 i0 _ 9 80 Tryz.underlying33 hi0 hz0 hz1 hz2 rfl (by decide) (.slice T i tc) i (((xs1.take i).map (keptX v k1)).flatMap EntX.cells) rfl (own_later HOWN.out ((((Below.refl _ _).alloc (Nat.le_refl _) _).alloc (by simp) _).alloc (by simp; omega) _)) _ 1 1 [str ky, .slice aB vl.length ac, .int .u64 fl1, .int .i64 0, .int .u64 tk1, .int .i64 0, .bool false, .bool false, .bool false] rfl rfl (cells_new2 wr _ _ [str ky, .slice aB vl.length ac, .int .u64 fl1, .int .i64 0, .int .u64 tk1, .int .i64 0, .bool false, .bool false, .bool false] _) ?_ ?_ ?_ ?_ ?_ ?_; (intro u hu; simp only [List.mem_cons, List.not_mem_nil, or_false] at hu; rcases hu with rfl | rfl | rfl | rfl | rfl | rfl | rfl | rfl | rfl <;> rfl); decide; (unfold maxLen; omega); omega; (simp; omega); intro g3 c3 w3 hown3 hg3 _; have HOWN3 := Lib.hid hown3; have HG3 := Lib.hid hg3; clear hown3 hg3))
          have hb3 : Below W1.heap.size W1 w3 := ((((HB.out.alloc hsb _).alloc (by simp; omega) _).alloc (by simp; omega) _)).grown HG3.out (by simp; omega) (fun k hk => (HOWN.out.lt k hk).1)
          refine ⟨⟨i + 1, _, _, by omega, by go_num, by go_num, ?_, hb3⟩, by show xs1.length - ((i : Int) + 1).toNat < xs1.length - (i : Int).toNat; omega⟩
          rw [HNX.out, List.flatMap_append, List.flatMap_singleton, HX.out]
          exact HOWN3.out
        · have g9 : (k1 == 9) = true := by rw [hk9]; rfl
          have htv : Sp.tokensV v = false := by exact ht9
          have htl := fun W : World => (by have h := HTL.out W; rw [htv] at h; exact h : Calls Tryz.prog 69 #[.int .i64 v] W fun e w' => e = .returned (.bool false) ∧ W = w')
          have hX : (keptX v k1 ⟨⟨ky, vl, fl1, ex1, tk1, tc1, s1, s2, s3⟩, aB, ac⟩).cells = [str ky, .slice aB vl.length ac, .int .u64 fl1, .int .i64 0, .int .u64 0, .int .i64 0, .bool false, .bool false, .bool false] := by
            unfold keptX EntX.cells
            simp only [htv, hk9, if_pos]
            all_goals rfl
          have HTV := Lib.hid htl
          have HX := Lib.hid hX
          clear htl htv hX hk9 ht9
          go_wp2_with (first
            | (go_at_call 69; refine (HTV.out _).mono ?_; rintro e w2 ⟨rfl, rfl⟩)
            | (at_builtin; refine wpList_append_put rfl (.tmp 39) (.tmp 41) _ rfl W1.heap.size 86 i0 _ 9 80 Tryz.underlying33 hi0 hz0 hz1 hz2 rfl (by decide) (.slice T i tc) i (((xs1.take i).map (keptX v k1)).flatMap EntX.cells) rfl (own_later HOWN.out ((((Below.refl _ _).alloc (Nat.le_refl _) _).alloc (by simp) _).alloc (by simp; omega) _)) _ 1 1 [str ky, .slice aB vl.length ac, .int .u64 fl1, .int .i64 0, .int .u64 0, .int .i64 0, .bool false, .bool false, .bool false] rfl rfl (cells_new2 wr _ _ [str ky, .slice aB vl.length ac, .int .u64 fl1, .int .i64 0, .int .u64 0, .int .i64 0, .bool false, .bool false, .bool false] _) ?_ ?_ ?_ ?_ ?_ ?_; (intro u hu; simp only [List.mem_cons, List.not_mem_nil, or_false] at hu; rcases hu with rfl | rfl | rfl | rfl | rfl | rfl | rfl | rfl | rfl <;> rfl); decide; (unfold maxLen; omega); omega; (simp; omega); intro g3 c3 w3 hown3 hg3 _; have HOWN3 := Lib.hid hown3; have HG3 := Lib.hid hg3; clear hown3 hg3))
          have hb3 : Below W1.heap.size W1 w3 := ((((HB.out.alloc hsb _).alloc (by simp; omega) _).alloc (by simp; omega) _)).grown HG3.out (by simp; omega) (fun k hk => (HOWN.out.lt k hk).1)
          refine ⟨⟨i + 1, _, _, by omega, by go_num, by go_num, ?_, hb3⟩, by show xs1.length - ((i : Int) + 1).toNat < xs1.length - (i : Int).toNat; omega⟩
          rw [HNX.out, List.flatMap_append, List.flatMap_singleton, HX.out]
          exact HOWN3.out
        · have g9 : (k1 == 9) = false := by simpa using hk9
          have htv : Sp.tokensV v = true := by exact ht9
          have htl := fun W : World => (by have h := HTL.out W; rw [htv] at h; exact h : Calls Tryz.prog 69 #[.int .i64 v] W fun e w' => e = .returned (.bool true) ∧ W = w')
          have hX : (keptX v k1 ⟨⟨ky, vl, fl1, ex1, tk1, tc1, s1, s2, s3⟩, aB, ac⟩).cells = [str [], .slice aB vl.length ac, .int .u64 0, .int .i64 0, .int .u64 tk1, .int .i64 0, .bool false, .bool false, .bool false] := by
            unfold keptX EntX.cells
            simp only [htv, if_neg hk9]
            all_goals rfl
          have HTV := Lib.hid htl
          have HX := Lib.hid hX
          clear htl htv hX hk9 ht9
          go_wp2_with (first
            | (go_at_call 69; refine (HTV.out _).mono ?_; rintro e w2 ⟨rfl, rfl⟩)
            | (at_builtin; refine wpList_append_put rfl (.tmp 39) (.tmp 41) _ rfl W1.heap.size 86 i0 _ 9 80 Tryz.underlying33 hi0 hz0 hz1 hz2 rfl (by decide) (.slice T i tc) i (((xs1.take i).map (keptX v k1)).flatMap EntX.cells) rfl (own_later HOWN.out ((((Below.refl _ _).alloc (Nat.le_refl _) _).alloc (by simp) _).alloc (by simp; omega) _)) _ 1 1 [str [], .slice aB vl.length ac, .int .u64 0, .int .i64 0, .int .u64 tk1, .int .i64 0, .bool false, .bool false, .bool false] rfl rfl (cells_new2 wr _ _ [str [], .slice aB vl.length ac, .int .u64 0, .int .i64 0, .int .u64 tk1, .int .i64 0, .bool false, .bool false, .bool false] _) ?_ ?_ ?_ ?_ ?_ ?_; (intro u hu; simp only [List.mem_cons, List.not_mem_nil, or_false] at hu; rcases hu with rfl | rfl | rfl | rfl | rfl | rfl | rfl | rfl | rfl <;> rfl); decide; (unfold maxLen; omega); omega; (simp; omega); intro g3 c3 w3 hown3 hg3 _; have HOWN3 := Lib.hid hown3; have HG3 := Lib.hid hg3; clear hown3 hg3))
          have hb3 : Below W1.heap.size W1 w3 := ((((HB.out.alloc hsb _).alloc (by simp; omega) _).alloc (by simp; omega) _)).grown HG3.out (by simp; omega) (fun k hk => (HOWN.out.lt k hk).1)
          refine ⟨⟨i + 1, _, _, by omega, by go_num, by go_num, ?_, hb3⟩, by show xs1.length - ((i : Int) + 1).toNat < xs1.length - (i : Int).toNat; omega⟩
          rw [HNX.out, List.flatMap_append, List.flatMap_singleton, HX.out]
          exact HOWN3.out
        · have g9 : (k1 == 9) = false := by simpa using hk9
          have htv : Sp.tokensV v = false := by exact ht9
          have htl := fun W : World => (by have h := HTL.out W; rw [htv] at h; exact h : Calls Tryz.prog 69 #[.int .i64 v] W fun e w' => e = .returned (.bool false) ∧ W = w')
          have hX : (keptX v k1 ⟨⟨ky, vl, fl1, ex1, tk1, tc1, s1, s2, s3⟩, aB, ac⟩).cells = [str [], .slice aB vl.length ac, .int .u64 0, .int .i64 0, .int .u64 0, .int .i64 0, .bool false, .bool false, .bool false] := by
            unfold keptX EntX.cells
            simp only [htv, if_neg hk9]
            all_goals rfl
          have HTV := Lib.hid htl
          have HX := Lib.hid hX
          clear htl htv hX hk9 ht9
          go_wp2_with (first
            | (go_at_call 69; refine (HTV.out _).mono ?_; rintro e w2 ⟨rfl, rfl⟩)
            | (at_builtin; refine wpList_append_put rfl (.tmp 39) (.tmp 41) _ rfl W1.heap.size 86 i0 _ 9 80 Tryz.underlying33 hi0 hz0 hz1 hz2 rfl (by decide) (.slice T i tc) i (((xs1.take i).map (keptX v k1)).flatMap EntX.cells) rfl (own_later HOWN.out ((((Below.refl _ _).alloc (Nat.le_refl _) _).alloc (by simp) _).alloc (by simp; omega) _)) _ 1 1 [str [], .slice aB vl.length ac, .int .u64 0, .int .i64 0, .int .u64 0, .int .i64 0, .bool false, .bool false, .bool false] rfl rfl (cells_new2 wr _ _ [str [], .slice aB vl.length ac, .int .u64 0, .int .i64 0, .int .u64 0, .int .i64 0, .bool false, .bool false, .bool false] _) ?_ ?_ ?_ ?_ ?_ ?_; (intro u hu; simp only [List.mem_cons, List.not_mem_nil, or_false] at hu; rcases hu with rfl | rfl | rfl | rfl | rfl | rfl | rfl | rfl | rfl <;> rfl); decide; (unfold maxLen; omega); omega; (simp; omega); intro g3 c3 w3 hown3 hg3 _; have HOWN3 := Lib.hid hown3; have HG3 := Lib.hid hg3; clear hown3 hg3))
          have hb3 : Below W1.heap.size W1 w3 := ((((HB.out.alloc hsb _).alloc (by simp; omega) _).alloc (by simp; omega) _)).grown HG3.out (by simp; omega) (fun k hk => (HOWN.out.lt k hk).1)
          refine ⟨⟨i + 1, _, _, by omega, by go_num, by go_num, ?_, hb3⟩, by show xs1.length - ((i : Int) + 1).toNat < xs1.length - (i : Int).toNat; omega⟩
          rw [HNX.out, List.flatMap_append, List.flatMap_singleton, HX.out]
          exact HOWN3.out
      · have hlt1 : decide ((i : Int) < (xs1.length : Int)) = false := decide_eq_false (by omega)
        have hlt2 : decide (i < xs1.length) = false := decide_eq_false hlt
        obtain rfl : i = xs1.length := by omega
        have hfz := hax2.frozen 1
        have hzx2 := HZX.out.later hb
        have y0 := hzx2.cell 0
        have y1 := hzx2.cell 1
        have y2 := hzx2.cell 2
        have y3 := hzx2.cell 3
        have y4 := hzx2.cell 4
        simp only [List.getElem?_toArray, List.getElem?_cons_zero, List.getElem?_cons_succ] at y0 y1 y2 y3 y4
        have y0f := hzx2.frozen 0
        have y1f := hzx2.frozen 1
        have y2f := hzx2.frozen 2
        have y3f := hzx2.frozen 3
        have y4f := hzx2.frozen 4
        have HZX2 := Lib.hid hzx2
        have HAX2 := Lib.hid hax2
        have hne : ax ≠ zx := by rw [HAE.out, HZE.out]; omega
        have hne2 : zx ≠ ax := Ne.symm hne
        have HOWN := Lib.hid hown
        have HB := Lib.hid hb
        clear hlt hown hb hax2 hcx2 hzx2
        go_wp2_with fail
        have hzb : Blk (wr.setCell ⟨ax, 1, none⟩ (.slice T xs1.length tc)) zx 36 #[.int .i64 0, .slice none 0 0, .int .u64 0, .string ⟨#[]⟩, .slice none 0 0] := HZX2.out.same (Below.heap_setCell wr _ _ zx hne2)
        have hzp := ((((hzb.put 0 (.int .i64 k1)).put 1 (.slice T xs1.length tc)).put 2 (.int .u64 n1)).put 3 (str t1)).put 4 (.slice S1 st1.length sc1)
        refine bodyPost_ret (kept_results (c0 := .int .i64 k1) (c1 := .slice T xs1.length tc) (c2 := .int .u64 n1) (c3 := str t1) (c4 := .slice S1 st1.length sc1) hzp _ rfl rfl rfl rfl rfl rfl) rfl ?_
        rw [HP.out]
        have hbz : Below w.heap.size w wr := HAL.out.trans (HB.out.mono HAL.out.size)
        have hax9 : w.heap.size ≤ ax := by rw [HAE.out]; omega
        have hzx9 : w.heap.size ≤ zx := by rw [HZE.out]; omega
        have hb9 := (((((hbz.setCell (p := ⟨ax, 1, none⟩) hax9 (.slice T xs1.length tc)).setCell (p := ⟨zx, 0, none⟩) hzx9 (.int .i64 k1)).setCell (p := ⟨zx, 1, none⟩) hzx9 (.slice T xs1.length tc)).setCell (p := ⟨zx, 2, none⟩) hzx9 (.int .u64 n1)).setCell (p := ⟨zx, 3, none⟩) hzx9 (str t1)).setCell (p := ⟨zx, 4, none⟩) hzx9 (.slice S1 st1.length sc1)
        refine ⟨hb9, T, tc, by simp [AnsX.val, AnsX.cells], ?_⟩
        have hrow := RowAt.of_own HOWN.out
        rw [List.take_length] at hrow
        have hgT : ∀ a, T = some a → a.block ≠ ax ∧ a.block ≠ zx := fun a ha => by
          have h1 := own_ge HOWN.out a.block (by rw [ha]; simp [rowBlock, Value.ownBlock])
          have h2 := HSZ.out
          rw [HAE.out, HZE.out]; omega
        refine row_put (row_put (row_put (row_put (row_put (row_put hrow ?_) ?_) ?_) ?_) ?_) ?_ <;> intro a ha <;> first | exact (hgT a ha).1 | exact (hgT a ha).2
  refine hmain.mono fun e w' hh => ?_
  rw [hpost] at hh
  obtain ⟨hb, E, ec, he, hr⟩ := hh
  refine ⟨hb, _, kept_v v x E ec, he, ⟨hr, fun y hy => ?_, hx.mem.stats.below hb, ?_⟩⟩
  · obtain ⟨z, hz, rfl⟩ := List.mem_map.1 hy
    exact (hx.mem.ents.each z hz).1.below hb
  · have := hx.mem.few
    simp only [List.length_map]
    omega
end Go.Proofs.YtnbeeehfapjpdaaGreatDoor
