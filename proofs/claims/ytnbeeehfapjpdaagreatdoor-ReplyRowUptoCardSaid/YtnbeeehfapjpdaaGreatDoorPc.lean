/- Walk of the reference's helper Copy. Arguments opened: a slice of bytes, of ints; what a law leaves behind reads as before. Arguments opened: slices of whatever elements, texts, flags. -/
import Derived.Test.YtnbeeehfapjpdaaGreatDoorQW3
import Derived.Test.YtnbeeehfapjpdaaGreatDoorFm
import Derived.Laws.AppendOwnNone
import Derived.Laws.MakeOwn
import Derived.Deep.MidRow
import Derived.Deep.Onto
import Derived.Deep.RegionHeld3
import Derived.Deep.DrawnRows
import Derived.Carry
import Derived.ProofKit
import Derived.OpenShut
import Derived.ChangeSlices
import Derived.Lib.SmallJoins
import Derived.Deep.Slices
import Derived.SizedLaws
section
namespace Go.Proofs.YtnbeeehfapjpdaaGreatDoor
attribute [local go_sem ↓] Go.wp_at_zero Go.wp_at_succ
open Go.RowKit

theorem info_u8 : (Tryz.prog.info? 5).map (fun i => (i.zero, i.size, i.bytes)) = some (some (.int .u8 0), 1, 1) := by kernel_rfl

/-- a row's cells at its address -/
theorem RowAt.cells {w : World} {ad : Addr} {xs : List Value} (h : RowAt w (some ad) xs) : ∀ j u, xs[j]? = some u → w.cell? (ad.add j) = some u := by
  intro j u hu
  rcases h with h | ⟨b, o, h1, _, h3⟩
  · rw [h] at hu; simp at hu
  · injection h1 with h1; subst h1
    rw [Addr.add_mid]; exact h3 j u hu

theorem bytesV_one (l : Sp.Bs) : ∀ u ∈ bytesV l, u.oneCell' = true := by
  intro u hu
  simp [bytesV] at hu
  obtain ⟨b, _, rfl⟩ := hu
  rfl

/-- a stretch of a row -/
theorem RowAt.stretch {w : World} {b o : Nat} {xs : List Value} (h : RowAt w (some ⟨b, o, none⟩) xs) (i j : Nat) : RowAt w (some ⟨b, o + i, none⟩) ((xs.drop i).take j) := by
  rcases h with h | ⟨b', o', h1, h2, h3⟩
  · left; simp [h]
  · injection h1 with h1; injection h1 with e1 e2
    subst e1; subst e2
    refine .inr ⟨b, o + i, rfl, h2, fun n u hu => ?_⟩
    rw [List.getElem?_take] at hu
    split at hu
    · rw [List.getElem?_drop] at hu
      rw [Nat.add_assoc]; exact h3 _ _ hu
    · cases hu
theorem RowAt.none_nil {w : World} {l : Sp.Bs} (h : RowAt w none (bytesV l)) : l = [] := by
  rcases h with h | ⟨b, o, h1, _⟩
  · simpa [bytesV] using h
  · cases h1

/-- where a slice's rest lies -/
def cutAddr (A : Option Addr) (a cap : Nat) : Option Addr := if cap = a then A else A.map (fun x => x.add a)

theorem run_slice_from (W : World) (A : Option Addr) (n cap a : Nat) (h : a ≤ n) :
    (Instr.slice 29 (.slice A n cap) (some (.int .i64 a)) none none).run Tryz.prog W = .ok (.slice (cutAddr A a cap) (n - a) (cap - a)) W := by
  obtain ⟨i0, hi, _, hz1, _⟩ := info_parts info_u8
  have he : Tryz.prog.elem 29 = 5 := by kernel_rfl
  have hu : Tryz.prog.underlying 29 = some (.slice (Tryz.prog.elem 29)) := by kernel_rfl
  rw [run_slice_l (P := Tryz.prog) W 29 A n cap hu .i64 (a : Int) (by omega) (by omega), he]
  have hs : (sizeOf 5).run Tryz.prog W = .ok 1 W := by simp [sizeOf, typeInfo, hi, hz1]
  rw [hs]
  simp [Result.andThen, sliced, cutAddr]

theorem RowAt.cut {w : World} {A : Option Addr} {xs : List Value} (h : RowAt w A xs) {a cap : Nat} (hc : xs.length ≤ cap) : RowAt w (cutAddr A a cap) (xs.drop a) := by
  unfold cutAddr
  split
  · rename_i e
    left
    rw [List.drop_eq_nil_iff]; omega
  · rcases h with h | ⟨b, o, h1, h2, h3⟩
    · left; simp [h]
    · subst h1
      have := RowAt.stretch (.inr ⟨b, o, rfl, h2, h3⟩) a xs.length
      rw [List.take_of_length_le (by rw [List.length_drop]; omega)] at this
      rw [Option.map_some, Addr.add_mid]
      exact this

theorem bytesV_drop (l : Sp.Bs) (i : Nat) : bytesV (l.drop i) = (bytesV l).drop i := by simp [bytesV]

set_option maxHeartbeats 4000000 in
set_option maxRecDepth 100000 in
/-- Copy: the same bytes in new memory -/
theorem copy_any {w : World} {A : Option Addr} {cap : Nat} {l : Sp.Bs} (hn : l.length ≤ 1000000000) (hrow : RowAt w A (bytesV l)) (hA : A = none → cap = 0) :
    Calls Tryz.prog 30 #[.slice A l.length cap] w fun e w' => ∃ g c, e = .returned (.slice (some ⟨g, 0, none⟩) l.length c) ∧ w'.ownsRow w.heap.size 5 1 (.slice (some ⟨g, 0, none⟩) l.length c) l.length (bytesV l) ∧ Below w.heap.size w w' := by
  obtain ⟨i0, hi, hz0, hz1, hz2⟩ := info_parts info_u8
  have hmk := run_make (P := Tryz.prog) w 29 5 i0 (.int .u8 0) Tryz.underlying29 hi hz0 .i64 .i64 0 (l.length : Int) (by decide) (by omega) (by rw [hz2]; omega) (by omega)
  have hown : (w.alloc (.cells (madeCells #[.int .u8 0] l.length) 5)).ownsRow w.heap.size 5 1 (.slice (some ⟨w.heap.size, 0, none⟩) 0 l.length) 0 [] := by
    refine ⟨rfl, .inr ⟨w.heap.size, l.length, madeCells #[.int .u8 0] l.length, rfl, Nat.le_refl _, heap_alloc_new w _, Nat.zero_le _, by unfold maxLen; omega, by rw [size_madeCells, Nat.mul_one], by simp⟩⟩
  have hb : Below w.heap.size w (w.alloc (.cells (madeCells #[.int .u8 0] l.length) 5)) := (Below.refl _ _).alloc (Nat.le_refl _) _
  have hrow2 := hrow.below hb
  rw [hz1, Int.toNat_natCast, Nat.mul_one] at hmk
  change _ = Result.ok (Value.slice (some ⟨w.heap.size, 0, none⟩) 0 l.length) (w.alloc (.cells (madeCells #[.int .u8 0] l.length) 5)) at hmk
  have hsz : (w.alloc (.cells (madeCells #[.int .u8 0] l.length) 5)).heap.size = w.heap.size + 1 := by simp
  generalize w.alloc (.cells (madeCells #[.int .u8 0] l.length) 5) = w1 at hmk hown hb hrow2 hsz
  have hone := bytesV_one l
  have hlen := bytesV_length l
  have HO := Lib.hid hown
  have HB := Lib.hid hb
  have HR := Lib.hid hrow2
  have HN := Lib.hid hone
  have HL := Lib.hid hlen
  clear hown hb hrow hrow2 hone hlen
  go_enter Tryz.func30, Tryz.ntmps30
  cases A with
  | none =>
    obtain rfl := hA rfl
    obtain rfl := HR.out.none_nil
    have hmk0 : (Instr.makeSlice 29 (.int .i64 0) (.int .i64 0)).run Tryz.prog w = Result.ok (Value.slice (some ⟨w.heap.size, 0, none⟩) 0 0) w1 := hmk
    clear hmk
    go_wp2_with (at_builtin; refine wpList_append_own_none rfl (.tmp 7) (.tmp 8) _ rfl w.heap.size 5 i0 1 Tryz.underlying29 hi _ 0 [] rfl HO.out rfl ?_)
    go_ret
    exact ⟨_, _, rfl, HO.out, HB.out⟩
  | some ad =>
    go_wp2_with (at_builtin; refine wpList_append_own_at w1 rfl (.tmp 7) (.tmp 8) _ rfl w.heap.size 5 i0 _ 1 1 Tryz.underlying29 hi hz0 hz1 hz2 rfl (by decide) (.slice (some ⟨w.heap.size, 0, none⟩) 0 l.length) 0 [] rfl HO.out ad l.length cap (bytesV l) rfl ?_ ?_ ?_ ?_ ?_ ?_ ?_; (rw [HL.out]; omega); exact HR.out.cells; exact HN.out; (unfold maxLen; omega); omega; omega; intro v' w2 hown2 hg2 hnil hat2; have Hown := Lib.hid hown2; have Hg := Lib.hid hg2; have Hnil := Lib.hid hnil; clear hown2 hg2 hnil hat2)
    obtain ⟨g, c, rfl⟩ : ∃ g c, v' = .slice (some ⟨g, 0, none⟩) l.length c := by
      have h := Hown.out
      rw [Nat.zero_add] at h
      rcases h.2 with ⟨h1, _⟩ | ⟨g, c, cur, h1, _⟩
      · have := (Hnil.out.1 h1).1
        injection this with h2
        cases h2
      · exact ⟨g, c, h1⟩
    have hfin : w2.ownsRow w.heap.size 5 1 (.slice (some ⟨g, 0, none⟩) l.length c) l.length (bytesV l) := by
      have h := Hown.out
      rwa [Nat.zero_add, List.nil_append] at h
    have hb2 : Below w.heap.size w w2 := HB.out.grown Hg.out (by omega) (fun k hk => by simp [Value.ownBlock] at hk; omega)
    have HF := Lib.hid hfin
    have HB2 := Lib.hid hb2
    clear hfin hb2 Hown Hg Hnil
    go_ret
    exact ⟨_, _, rfl, HF.out, HB2.out⟩
end Go.Proofs.YtnbeeehfapjpdaaGreatDoor
end
section
namespace Go.Proofs.YtnbeeehfapjpdaaGreatDoor
open Go.ChangeShapes Go.WideShapes Go.ChangeAt Go.RowKit

section
variable {H : Type} {enc : TypeId × Value → H} {w : World} {spare : Nat → Bool} {held : Bool}

theorem rowAt_of_cells {a : Addr} {k : IntKind} {zs : List Int} (h : ∀ i, i < zs.length → w.cell? (a.add i) = some (.int k (zs.getD i 0))) (len : Nat) : RowAt w (some a) ((zs.take len).map (Value.int k)) := by
  cases hz : zs.take len with
  | nil => exact .inl rfl
  | cons z t =>
    rw [← hz]
    have hlen : 0 < zs.length := by
      rcases Nat.eq_zero_or_pos zs.length with h0 | h0
      · rw [List.eq_nil_of_length_eq_zero h0] at hz; simp at hz
      · exact h0
    have h0 := h 0 hlen
    rw [show a.add 0 = a from by simp [Addr.add]] at h0
    obtain ⟨b, o, sp⟩ := a
    cases sp with
    | some x => simp [World.cell?] at h0; split at h0 <;> cases h0
    | none =>
      refine .inr ⟨b, o, rfl, ?_, fun j u hu => ?_⟩
      · rcases Nat.lt_or_ge b w.heap.size with hb | hb
        · exact hb
        · simp [World.cell?, Array.getElem?_eq_none hb] at h0
      · rw [List.getElem?_map, List.getElem?_take] at hu
        split at hu
        · cases hj : zs[j]? with
          | none => rw [hj] at hu; cases hu
          | some n =>
            rw [hj] at hu
            have hjl : j < zs.length := (List.getElem?_eq_some_iff.1 hj).1
            have := h j hjl
            rw [Addr.add_mid] at this
            rw [this]
            rw [Option.map_some] at hu
            rw [List.getD_eq_getElem?_getD, hj, Option.getD_some]
            exact hu
        · cases hu

/-- a slice of ints that came in -/
theorem open_introw {t e : TypeId} {n : Nat} {v : Value} {y : DataW H × List MemPlace} (ht : Tryz.prog.underlying t = some (.slice e)) (he : Tryz.prog.underlying e = some (.int .i64)) (hc : Tryz.prog.cellsOf e = 1)
    (h : DataW.trod enc Tryz.prog w 0 spare held n t [v] = some y) : ∃ A cap l, v = .slice A (l : List Int).length cap ∧ RowAt w A (l.map (Value.int .i64)) ∧ l.length ≤ cap ∧ cap ≤ 9223372036854775807 ∧ (A = none → cap = 0) ∧ ∀ x ∈ l, -9223372036854775808 ≤ x ∧ x ≤ 9223372036854775807 := by
  rcases open_ints ht he hc h with ⟨h1, _⟩ | ⟨a, len, cap, zs, h1, _, hlc, hcm, hzl, _, hcell, hwf⟩
  · injection h1 with h1
    exact ⟨none, 0, [], h1, .inl rfl, Nat.le_refl _, by decide, fun _ => rfl, fun x hx => by cases hx⟩
  · injection h1 with h1
    have hlz : len ≤ zs.length := by rw [hzl]; split <;> omega
    refine ⟨some a, cap, zs.take len, ?_, rowAt_of_cells hcell len, ?_, ?_, fun h => (by cases h), fun x hx => ?_⟩
    · rw [h1, List.length_take, Nat.min_eq_left hlz]
    · rw [List.length_take]; omega
    · unfold maxLen at hcm; exact hcm
    · exact bounds_i64 (hwf x (List.mem_of_mem_take hx))

/-- a slice of bytes that came in -/
theorem open_byterow {t e : TypeId} {n : Nat} {v : Value} {y : DataW H × List MemPlace} (ht : Tryz.prog.underlying t = some (.slice e)) (he : Tryz.prog.underlying e = some (.int .u8)) (hc : Tryz.prog.cellsOf e = 1)
    (h : DataW.trod enc Tryz.prog w 0 spare held n t [v] = some y) : ∃ A cap l, v = .slice A (l : Sp.Bs).length cap ∧ RowAt w A (bytesV l) ∧ l.length ≤ cap ∧ cap ≤ 9223372036854775807 ∧ (A = none → cap = 0) := by
  rcases open_ints ht he hc h with ⟨h1, _⟩ | ⟨a, len, cap, zs, h1, _, hlc, hcm, hzl, _, hcell, hwf⟩
  · injection h1 with h1
    exact ⟨none, 0, [], h1, .inl rfl, Nat.le_refl _, by decide, fun _ => rfl⟩
  · injection h1 with h1
    have hlz : len ≤ zs.length := by rw [hzl]; split <;> omega
    have hb : bytesV ((zs.take len).map fun n => UInt8.ofNat n.toNat) = (zs.take len).map (Value.int .u8) := by
      unfold bytesV
      rw [List.map_map]
      refine List.map_congr_left fun x hx => ?_
      have hbd := bounds_u8 (hwf x (List.mem_of_mem_take hx))
      show Value.int .u8 ((UInt8.ofNat x.toNat).toNat : Int) = Value.int .u8 x
      rw [UInt8.toNat_ofNat', Nat.mod_eq_of_lt (by have : (2 : Nat) ^ 8 = 256 := rfl; omega), Int.toNat_of_nonneg hbd.1]
    refine ⟨some a, cap, (zs.take len).map fun n => UInt8.ofNat n.toNat, ?_, ?_, ?_, ?_, fun h => (by cases h)⟩
    · rw [h1, List.length_map, List.length_take, Nat.min_eq_left hlz]
    · rw [hb]; exact rowAt_of_cells hcell len
    · rw [List.length_map, List.length_take]; omega
    · unfold maxLen at hcm; exact hcm
end

theorem laid_out : laidOutB Tryz.prog = true := by kernel_rfl

/-- the arguments read behind the call as before -/
theorem args_stay {H : Type} {enc : TypeId × Value → H} {W W' : World} (hb : Below W.heap.size W W') : ∀ {ts : List TypeId} {vs : List Value} {ds : List (DataW H)} {ps : List MemPlace}, (∀ t ∈ ts, Tryz.prog.readableRec t = true ∧ t < Tryz.prog.types.size) →
    DataW.TrodAll enc Tryz.prog W 0 (fun _ => true) true ts vs ds ps → (∀ x ∈ ps, x.block < W.heap.size) → DataW.TrodAll enc Tryz.prog W' 0 (fun b => decide (b < W.heap.size)) true ts vs ds ps
  | [], [], [], _, _, h, _ => h
  | t :: _, _ :: _, _ :: _, _, ht, ⟨p, q, h1, h2, e⟩, hp => by
    subst e
    exact ⟨p, q, Below.trod laid_out (ht t (by simp)).1 (ht t (by simp)).2 h1 hb (fun x hx => hp x (by simp [hx])), args_stay hb (fun t ht' => ht t (by simp [ht'])) h2 (fun x hx => hp x (by simp [hx])), rfl⟩

/-- what a law must leave behind -/
theorem law_post {H : Type} {enc : TypeId × Value → H} {f : Func} {s : ChangeSpec} {W W' : World} {args : Array Value} {ds gs : List (DataW H)} {before : List MemPlace} (hW : DataW.Whole enc Tryz.prog f.params.toList s.vars false W args.toList ds gs before)
    (hv : s.vars = []) (hr : f.resultTypes = #[4]) (hfn : s.fn H ds = { results := [.lit (.bool true)], args := ds }) (ht : ∀ t ∈ f.params.toList, Tryz.prog.readableRec t = true ∧ t < Tryz.prog.types.size) (hb : Below W.heap.size W W') :
    s.post enc Tryz.prog f false true false false W args (.bool true) W' := by
  have hW' := hW
  have hlt := hW.lt
  obtain ⟨p, q, hA, hV, rfl, _, _⟩ := hW
  rw [hv] at hV
  obtain ⟨rfl, rfl⟩ := trodVars_none hV
  simp only [List.append_nil] at hW' hlt
  have hfn' : s.fn H (ds ++ []) = { results := [.lit (.bool true)], args := ds } := by rw [List.append_nil]; exact hfn
  refine ⟨ds, [], p, [], p, [], hW', ?_, ?_, ?_, hb.frame _, fun h => by cases h⟩
  · rw [hr, hfn']
    exact trodAll_mk1 (shut_bool Tryz.underlying4 _)
  · rw [hfn']
    exact args_stay hb ht hA hlt
  · rw [hv, hfn']
    exact rfl
end Go.Proofs.YtnbeeehfapjpdaaGreatDoor
end
section
namespace Go.Proofs.YtnbeeehfapjpdaaGreatDoor
open Go.ChangeShapes Go.WideShapes Go.ChangeAt Go.RowKit

section
variable {H : Type} {enc : TypeId × Value → H} {w : World} {held : Bool}

theorem list_of {α : Type} {p : Nat → α → Prop} : ∀ {n : Nat}, (∀ i, i < n → ∃ x, p i x) → ∃ l : List α, l.length = n ∧ ∀ i x, l[i]? = some x → p i x
  | 0, _ => ⟨[], rfl, fun i x h => by simp at h⟩
  | n + 1, h => by
    obtain ⟨l, h1, h2⟩ := list_of (p := p) (n := n) (fun i hi => h i (by omega))
    obtain ⟨x, hx⟩ := h n (Nat.lt_succ_self n)
    refine ⟨l ++ [x], by simp [h1], fun i y hy => ?_⟩
    rcases Nat.lt_or_ge i l.length with hl | hl
    · rw [List.getElem?_append_left hl] at hy; exact h2 i y hy
    · rw [List.getElem?_append_right hl] at hy
      rcases Nat.eq_or_lt_of_le hl with e | e
      · have : i - l.length = 0 := by omega
        rw [this] at hy; simp at hy; subst hy; rw [← e, h1]; exact hx
      · rw [List.getElem?_eq_none (by simp; omega)] at hy; cases hy

theorem flatMap_at {α β : Type} {f : α → List β} {k : Nat} : ∀ {l : List α}, (∀ a ∈ l, (f a).length = k) → ∀ {j : Nat} {u : β}, (l.flatMap f)[j]? = some u → ∃ i a r, l[i]? = some a ∧ (f a)[r]? = some u ∧ j = i * k + r ∧ r < k
  | [], _, j, u, h => by simp at h
  | a :: t, hf, j, u, h => by
    rw [List.flatMap_cons] at h
    have ha := hf a (by simp)
    rcases Nat.lt_or_ge j k with hj | hj
    · rw [List.getElem?_append_left (by omega)] at h
      exact ⟨0, a, j, rfl, h, by simp, hj⟩
    · rw [List.getElem?_append_right (by omega), ha] at h
      obtain ⟨i, b, r, h1, h2, h3, h4⟩ := flatMap_at (fun x hx => hf x (by simp [hx])) h
      exact ⟨i + 1, b, r, by simpa using h1, h2, by rw [Nat.succ_mul]; omega, h4⟩

theorem flatMap_get {α β : Type} {f : α → List β} {k : Nat} : ∀ {l : List α}, (∀ a ∈ l, (f a).length = k) → ∀ {i : Nat} {a : α}, l[i]? = some a → ∀ {r : Nat}, r < k → (l.flatMap f)[i * k + r]? = (f a)[r]?
  | [], _, i, a, h, _, _ => by simp at h
  | x :: t, hf, 0, a, h, r, hr => by
    simp at h; subst h
    rw [List.flatMap_cons, Nat.zero_mul, Nat.zero_add, List.getElem?_append_left (by rw [hf x (by simp)]; exact hr)]
  | x :: t, hf, i + 1, a, h, r, hr => by
    have hx := hf x (by simp)
    rw [List.flatMap_cons, List.getElem?_append_right (by rw [hx, Nat.succ_mul]; omega), hx, show (i + 1) * k + r - k = i * k + r by rw [Nat.succ_mul]; omega]
    exact flatMap_get (fun a ha => hf a (by simp [ha])) (by simpa using h) hr

theorem open_list {α : Type} (cells : α → List Value) (Q : α → DataW H → Prop) {k : Nat} (hk0 : 0 < k) (hlen : ∀ a, (cells a).length = k) {t e : TypeId} {n : Nat} {v : Value} {y : DataW H × List MemPlace}
    (ht : Tryz.prog.underlying t = some (.slice e)) (hk : Tryz.prog.cellsOf e = k)
    (conv : ∀ (n : Nat) (cs : List Value) (x : DataW H × List MemPlace), DataW.trod enc Tryz.prog w 0 (fun _ => true) held n e cs = some x → cs.length = k → ∃ a, cs = cells a ∧ Q a x.1)
    (h : DataW.trod enc Tryz.prog w 0 (fun _ => true) held n t [v] = some y) :
    ∃ (A : Option Addr) (cap : Nat) (l : List α), v = .slice A l.length cap ∧ RowAt w A (l.flatMap cells) ∧ l.length ≤ cap ∧ cap ≤ 9223372036854775807 ∧ (A = none → cap = 0) ∧
      ((l = [] ∧ y.1 = .nil) ∨ ∃ es sp : List (DataW H), y.1 = .slice es sp ∧ es.length = l.length ∧ es.length + sp.length = cap ∧ ∀ (i : Nat) (a : α), l[i]? = some a → ∃ d : DataW H, es[i]? = some d ∧ Q a d) := by
  rcases Deep.open_slice ht h with ⟨h1, h2⟩ | ⟨a, len, cap, m, n', D, Pl, h1, _, hlc, hcm, hm, hx, hel⟩
  · injection h1 with h1
    exact ⟨none, 0, [], h1, .inl rfl, Nat.le_refl _, by decide, fun _ => rfl, .inl ⟨rfl, by rw [h2]⟩⟩
  · injection h1 with h1
    rw [if_pos rfl] at hm
    subst hm
    rw [hk] at hel
    obtain ⟨l, hl, hp⟩ := list_of (p := fun i (b : α) => (∀ r u, (cells b)[r]? = some u → w.cell? ((a.add (i * k)).add r) = some u) ∧ Q b (D i)) (n := len) (fun i hi => by
      obtain ⟨cs', h2, h3⟩ := hel i (by omega)
      obtain ⟨_, h4, h5⟩ := World.cells?_some h2
      obtain ⟨b, rfl, hq⟩ := conv _ _ _ h3 h4
      exact ⟨b, fun r u hu => by
        rw [h5 r (by rw [← h4]; exact (List.getElem?_eq_some_iff.1 hu).1)]; exact hu, hq⟩)
    have hrow : RowAt w (some a) (l.flatMap cells) := by
      cases l with
      | nil => exact .inl rfl
      | cons b0 t0 =>
        obtain ⟨u0, hu0⟩ : ∃ u0, (cells b0)[0]? = some u0 := ⟨_, List.getElem?_eq_getElem (by rw [hlen]; exact hk0)⟩
        have h0 := (hp 0 b0 rfl).1 0 u0 hu0
        obtain ⟨b, o, sp⟩ := a
        cases sp with
        | some x =>
          exfalso
          simp [Addr.add, World.cell?] at h0
          split at h0 <;> cases h0
        | none =>
          refine .inr ⟨b, o, rfl, ?_, fun j u hu => ?_⟩
          · rw [Addr.add_mid, Addr.add_mid] at h0
            exact World.block_lt_of_cell? w _ h0
          · obtain ⟨i, c, r, g1, g2, g3, _⟩ := flatMap_at (k := k) (fun c _ => hlen c) hu
            have := (hp i c g1).1 r u g2
            rw [Addr.add_mid, Addr.add_mid] at this
            rw [g3, ← Nat.add_assoc]
            exact this
    refine ⟨some a, m, l, by rw [hl]; exact h1, hrow, by omega, by unfold maxLen at hcm; exact hcm, fun h => (by cases h), .inr ⟨_, _, by rw [hx], by simp [hl], by simp; omega, fun i c hc => ?_⟩⟩
    have hi : i < len := by rw [← hl]; exact (List.getElem?_eq_some_iff.1 hc).1
    exact ⟨D i, by simp [hi], (hp i c hc).2⟩

theorem str_back (s : ByteArray) : Value.string s = str s.data.toList := by cases s; simp [str]

set_option maxRecDepth 100000 in
/-- a flag that came in -/
theorem open_flag {n : Nat} {cs : List Value} {x : DataW H × List MemPlace} (h : DataW.trod enc Tryz.prog w 0 (fun _ => true) held n 225 cs = some x) (hl : cs.length = 3) :
    ∃ f : Sp.FlagV, cs = flagCells f ∧ ∃ d0 d2, x.1 = .agg [d0, .lit (.string f.arg), d2] := by
  obtain ⟨y0, y1, y2, n', rfl, _, h0, h1, h2⟩ := Deep.trod_struct3 Tryz.underlying225 h
  match cs, hl with
  | [c0, c1, c2], _ =>
    have e0 : Tryz.prog.cellsOf 5 = 1 := by kernel_rfl
    have e1 : Tryz.prog.cellsOf 9 = 1 := by kernel_rfl
    have e2 : Tryz.prog.cellsOf 4 = 1 := by kernel_rfl
    simp only [e0, e1, e2, List.drop_zero, List.drop_succ_cons, List.take_succ_cons, List.take_zero] at h0 h1 h2
    obtain ⟨z, g0, _, hw⟩ := DataW.trod_int Tryz.underlying5 h0
    obtain ⟨s, g1, k1, _⟩ := DataW.trod_string Tryz.underlying9 h1
    obtain ⟨b, g2, _⟩ := DataW.trod_bool Tryz.underlying4 h2
    injection g0 with g0
    injection g1 with g1
    injection g2 with g2
    subst g0; subst g1; subst g2
    have hbd := bounds_u8 hw
    refine ⟨⟨UInt8.ofNat z.toNat, s.data.toList, b⟩, ?_, y0.1, y2.1, by rw [k1]⟩
    have hz : ((UInt8.ofNat z.toNat).toNat : Int) = z := by
      rw [UInt8.toNat_ofNat', Nat.mod_eq_of_lt (by have : (2 : Nat) ^ 8 = 256 := rfl; omega), Int.toNat_of_nonneg hbd.1]
    show [Value.int .u8 z, .string s, .bool b] = [Value.int .u8 ((UInt8.ofNat z.toNat).toNat : Int), str s.data.toList, .bool b]
    rw [hz, ← str_back]

/-- flags that came in -/
theorem open_flags {n : Nat} {v : Value} {y : DataW H × List MemPlace} (h : DataW.trod enc Tryz.prog w 0 (fun _ => true) held n 30 [v] = some y) :
    ∃ (A : Option Addr) (cap : Nat) (l : List Sp.FlagV), v = .slice A l.length cap ∧ RowAt w A (flagsCells l) ∧ l.length ≤ cap ∧ cap ≤ 9223372036854775807 ∧ (A = none → cap = 0) ∧
      ((l = [] ∧ y.1 = .nil) ∨ ∃ es sp : List (DataW H), y.1 = .slice es sp ∧ es.length = l.length ∧ es.length + sp.length = cap ∧ ∀ (i : Nat) (f : Sp.FlagV), l[i]? = some f → ∃ d : DataW H, es[i]? = some d ∧ ∃ d0 d2 : DataW H, d = .agg [d0, .lit (.string (Sp.FlagV.arg f)), d2]) :=
  open_list flagCells (fun f d => ∃ d0 d2 : DataW H, d = .agg [d0, .lit (.string f.arg), d2]) (by decide) (fun _ => rfl) Tryz.underlying30 (by kernel_rfl) (fun _ _ _ h hl => open_flag h hl) h

/-- texts that came in -/
theorem open_texts {n : Nat} {v : Value} {y : DataW H × List MemPlace} (h : DataW.trod enc Tryz.prog w 0 (fun _ => true) held n 27 [v] = some y) :
    ∃ (A : Option Addr) (cap : Nat) (l : List Sp.Bs), v = .slice A l.length cap ∧ RowAt w A (l.map str) ∧ l.length ≤ cap ∧ cap ≤ 9223372036854775807 ∧ (A = none → cap = 0) ∧
      ((l = [] ∧ y.1 = .nil) ∨ ∃ es sp : List (DataW H), y.1 = .slice es sp ∧ es.length = l.length ∧ es.length + sp.length = cap ∧ ∀ (i : Nat) (x : Sp.Bs), l[i]? = some x → ∃ d : DataW H, es[i]? = some d ∧ d = .lit (.string x)) := by
  obtain ⟨A, cap, l, h1, h2, h3⟩ := open_list (fun x : Sp.Bs => [str x]) (fun x d => d = .lit (.string x)) (by decide) (fun _ => rfl) Tryz.underlying27 (by kernel_rfl) (fun _ _ x h hl => by
    obtain ⟨s, rfl, k1, _⟩ := DataW.trod_string Tryz.underlying9 h
    exact ⟨s.data.toList, by rw [str_back], by rw [k1]⟩) h
  exact ⟨A, cap, l, h1, by rw [List.map_eq_flatMap]; exact h2, h3⟩

/-! what the reach bounds -/
end
end Go.Proofs.YtnbeeehfapjpdaaGreatDoor
end
