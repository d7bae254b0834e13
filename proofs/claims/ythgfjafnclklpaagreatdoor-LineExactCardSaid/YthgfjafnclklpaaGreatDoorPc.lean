/- Walk of the reference's helper Copy. Arguments opened: a slice of bytes, of ints; what a law leaves behind reads as before. Arguments opened: slices of whatever elements, texts, flags. -/
import Derived.Test.YthgfjafnclklpaaGreatDoorW9
import Derived.Test.YthgfjafnclklpaaGreatDoorFm
import Derived.Laws.AppendOwnNone
import Derived.Laws.MakeOwn
import Derived.Deep.MidRow
import Derived.Deep.Onto
import Derived.Deep.RegionHeld3
import Derived.Deep.DrawnRows
import Derived.Carry
import Derived.ProofKit
import Derived.OpenShut
import Derived.ChangeSlices
import Derived.Lib.SmallJoins
import Derived.Deep.Slices
import Derived.SizedLaws
section
namespace Go.Proofs.YthgfjafnclklpaaGreatDoor
attribute [local go_sem ↓] Go.wp_at_zero Go.wp_at_succ
open Go.RowKit

theorem info_u8 : (Tryz.prog.info? 5).map (fun i => (i.zero, i.size, i.bytes)) = some (some (.int .u8 0), 1, 1) := by kernel_rfl

/-- a row's cells at its address -/
theorem RowAt.cells {w : World} {ad : Addr} {xs : List Value} (h : RowAt w (some ad) xs) : ∀ j u, xs[j]? = some u → w.cell? (ad.add j) = some u := by
  intro j u hu
  rcases h with h | ⟨b, o, h1, _, h3⟩
  · rw [h] at hu; simp at hu
  · injection h1 with h1; subst h1
    rw [Addr.add_mid]; exact h3 j u hu

theorem bytesV_one (l : Sp.Bs) : ∀ u ∈ bytesV l, u.oneCell' = true := by
  intro u hu
  simp [bytesV] at hu
  obtain ⟨b, _, rfl⟩ := hu
  rfl

/-- a stretch of a row -/
theorem RowAt.stretch {w : World} {b o : Nat} {xs : List Value} (h : RowAt w (some ⟨b, o, none⟩) xs) (i j : Nat) : RowAt w (some ⟨b, o + i, none⟩) ((xs.drop i).take j) := by
  rcases h with h | ⟨b', o', h1, h2, h3⟩
  · left; simp [h]
  · injection h1 with h1; injection h1 with e1 e2
    subst e1; subst e2
    refine .inr ⟨b, o + i, rfl, h2, fun n u hu => ?_⟩
    rw [List.getElem?_take] at hu
    split at hu
    · rw [List.getElem?_drop] at hu
      rw [Nat.add_assoc]; exact h3 _ _ hu
    · cases hu
theorem bytesV_stretch (l : Sp.Bs) (i j : Nat) : bytesV ((l.drop i).take j) = ((bytesV l).drop i).take j := by simp [bytesV]

theorem RowAt.none_nil {w : World} {l : Sp.Bs} (h : RowAt w none (bytesV l)) : l = [] := by
  rcases h with h | ⟨b, o, h1, _⟩
  · simpa [bytesV] using h
  · cases h1

/-- where a slice's rest lies -/
def cutAddr (A : Option Addr) (a cap : Nat) : Option Addr := if cap = a then A else A.map (fun x => x.add a)

theorem run_slice_from (W : World) (A : Option Addr) (n cap a : Nat) (h : a ≤ n) :
    (Instr.slice 35 (.slice A n cap) (some (.int .i64 a)) none none).run Tryz.prog W = .ok (.slice (cutAddr A a cap) (n - a) (cap - a)) W := by
  obtain ⟨i0, hi, _, hz1, _⟩ := info_parts info_u8
  have he : Tryz.prog.elem 35 = 5 := by kernel_rfl
  have hu : Tryz.prog.underlying 35 = some (.slice (Tryz.prog.elem 35)) := by kernel_rfl
  rw [run_slice_l (P := Tryz.prog) W 35 A n cap hu .i64 (a : Int) (by omega) (by omega), he]
  have hs : (sizeOf 5).run Tryz.prog W = .ok 1 W := by simp [sizeOf, typeInfo, hi, hz1]
  rw [hs]
  simp [Result.andThen, sliced, cutAddr]

theorem RowAt.cut {w : World} {A : Option Addr} {xs : List Value} (h : RowAt w A xs) {a cap : Nat} (hc : xs.length ≤ cap) : RowAt w (cutAddr A a cap) (xs.drop a) := by
  unfold cutAddr
  split
  · rename_i e
    left
    rw [List.drop_eq_nil_iff]; omega
  · rcases h with h | ⟨b, o, h1, h2, h3⟩
    · left; simp [h]
    · subst h1
      have := RowAt.stretch (.inr ⟨b, o, rfl, h2, h3⟩) a xs.length
      rw [List.take_of_length_le (by rw [List.length_drop]; omega)] at this
      rw [Option.map_some, Addr.add_mid]
      exact this

set_option maxHeartbeats 4000000 in
set_option maxRecDepth 100000 in
/-- Copy: the same bytes in new memory -/
theorem copy_any {w : World} {A : Option Addr} {cap : Nat} {l : Sp.Bs} (hn : l.length ≤ 100000000) (hrow : RowAt w A (bytesV l)) (hA : A = none → cap = 0) :
    Calls Tryz.prog 113 #[.slice A l.length cap] w fun e w' => ∃ g c, e = .returned (.slice (some ⟨g, 0, none⟩) l.length c) ∧ w'.ownsRow w.heap.size 5 1 (.slice (some ⟨g, 0, none⟩) l.length c) l.length (bytesV l) ∧ Below w.heap.size w w' := by
  obtain ⟨i0, hi, hz0, hz1, hz2⟩ := info_parts info_u8
  have hmk := run_make (P := Tryz.prog) w 35 5 i0 (.int .u8 0) Tryz.underlying35 hi hz0 .i64 .i64 0 (l.length : Int) (by decide) (by omega) (by rw [hz2]; omega) (by omega)
  have hown : (w.alloc (.cells (madeCells #[.int .u8 0] l.length) 5)).ownsRow w.heap.size 5 1 (.slice (some ⟨w.heap.size, 0, none⟩) 0 l.length) 0 [] := by
    refine ⟨rfl, .inr ⟨w.heap.size, l.length, madeCells #[.int .u8 0] l.length, rfl, Nat.le_refl _, heap_alloc_new w _, Nat.zero_le _, by unfold maxLen; omega, by rw [size_madeCells, Nat.mul_one], by simp⟩⟩
  have hb : Below w.heap.size w (w.alloc (.cells (madeCells #[.int .u8 0] l.length) 5)) := (Below.refl _ _).alloc (Nat.le_refl _) _
  have hrow2 := hrow.below hb
  rw [hz1, Int.toNat_natCast, Nat.mul_one] at hmk
  change _ = Result.ok (Value.slice (some ⟨w.heap.size, 0, none⟩) 0 l.length) (w.alloc (.cells (madeCells #[.int .u8 0] l.length) 5)) at hmk
  have hsz : (w.alloc (.cells (madeCells #[.int .u8 0] l.length) 5)).heap.size = w.heap.size + 1 := by simp
  generalize w.alloc (.cells (madeCells #[.int .u8 0] l.length) 5) = w1 at hmk hown hb hrow2 hsz
  have hone := bytesV_one l
  have hlen := bytesV_length l
  have HO := Lib.hid hown
  have HB := Lib.hid hb
  have HR := Lib.hid hrow2
  have HN := Lib.hid hone
  have HL := Lib.hid hlen
  clear hown hb hrow hrow2 hone hlen
  go_enter Tryz.func113, Tryz.ntmps113
  cases A with
  | none =>
    obtain rfl := hA rfl
    obtain rfl := HR.out.none_nil
    have hmk0 : (Instr.makeSlice 35 (.int .i64 0) (.int .i64 0)).run Tryz.prog w = Result.ok (Value.slice (some ⟨w.heap.size, 0, none⟩) 0 0) w1 := hmk
    clear hmk
    go_wp2_with (at_builtin; refine wpList_append_own_none rfl (.tmp 7) (.tmp 8) _ rfl w.heap.size 5 i0 1 Tryz.underlying35 hi _ 0 [] rfl HO.out rfl ?_)
    go_ret
    exact ⟨_, _, rfl, HO.out, HB.out⟩
  | some ad =>
    go_wp2_with (at_builtin; refine wpList_append_own_at w1 rfl (.tmp 7) (.tmp 8) _ rfl w.heap.size 5 i0 _ 1 1 Tryz.underlying35 hi hz0 hz1 hz2 rfl (by decide) (.slice (some ⟨w.heap.size, 0, none⟩) 0 l.length) 0 [] rfl HO.out ad l.length cap (bytesV l) rfl ?_ ?_ ?_ ?_ ?_ ?_ ?_; (rw [HL.out]; omega); exact HR.out.cells; exact HN.out; (unfold maxLen; omega); omega; omega; intro v' w2 hown2 hg2 hnil hat2; have Hown := Lib.hid hown2; have Hg := Lib.hid hg2; have Hnil := Lib.hid hnil; clear hown2 hg2 hnil hat2)
    obtain ⟨g, c, rfl⟩ : ∃ g c, v' = .slice (some ⟨g, 0, none⟩) l.length c := by
      have h := Hown.out
      rw [Nat.zero_add] at h
      rcases h.2 with ⟨h1, _⟩ | ⟨g, c, cur, h1, _⟩
      · have := (Hnil.out.1 h1).1
        injection this with h2
        cases h2
      · exact ⟨g, c, h1⟩
    have hfin : w2.ownsRow w.heap.size 5 1 (.slice (some ⟨g, 0, none⟩) l.length c) l.length (bytesV l) := by
      have h := Hown.out
      rwa [Nat.zero_add, List.nil_append] at h
    have hb2 : Below w.heap.size w w2 := HB.out.grown Hg.out (by omega) (fun k hk => by simp [Value.ownBlock] at hk; omega)
    have HF := Lib.hid hfin
    have HB2 := Lib.hid hb2
    clear hfin hb2 Hown Hg Hnil
    go_ret
    exact ⟨_, _, rfl, HF.out, HB2.out⟩
end Go.Proofs.YthgfjafnclklpaaGreatDoor
end
section
namespace Go.Proofs.YthgfjafnclklpaaGreatDoor
open Go.ChangeShapes Go.WideShapes Go.ChangeAt Go.RowKit

section
variable {H : Type} {enc : TypeId × Value → H} {w : World} {spare : Nat → Bool} {held : Bool}

end

theorem laid_out : laidOutB Tryz.prog = true := by kernel_rfl

/-- the arguments read behind the call as before -/
theorem args_stay {H : Type} {enc : TypeId × Value → H} {W W' : World} (hb : Below W.heap.size W W') : ∀ {ts : List TypeId} {vs : List Value} {ds : List (DataW H)} {ps : List MemPlace}, (∀ t ∈ ts, Tryz.prog.readableRec t = true ∧ t < Tryz.prog.types.size) →
    DataW.TrodAll enc Tryz.prog W 0 (fun _ => true) true ts vs ds ps → (∀ x ∈ ps, x.block < W.heap.size) → DataW.TrodAll enc Tryz.prog W' 0 (fun b => decide (b < W.heap.size)) true ts vs ds ps
  | [], [], [], _, _, h, _ => h
  | t :: _, _ :: _, _ :: _, _, ht, ⟨p, q, h1, h2, e⟩, hp => by
    subst e
    exact ⟨p, q, Below.trod laid_out (ht t (by simp)).1 (ht t (by simp)).2 h1 hb (fun x hx => hp x (by simp [hx])), args_stay hb (fun t ht' => ht t (by simp [ht'])) h2 (fun x hx => hp x (by simp [hx])), rfl⟩

/-- what a law must leave behind -/
theorem law_post {H : Type} {enc : TypeId × Value → H} {f : Func} {s : ChangeSpec} {W W' : World} {args : Array Value} {ds gs : List (DataW H)} {before : List MemPlace} (hW : DataW.Whole enc Tryz.prog f.params.toList s.vars false W args.toList ds gs before)
    (hv : s.vars = []) (hr : f.resultTypes = #[4]) (hfn : s.fn H ds = { results := [.lit (.bool true)], args := ds }) (ht : ∀ t ∈ f.params.toList, Tryz.prog.readableRec t = true ∧ t < Tryz.prog.types.size) (hb : Below W.heap.size W W') :
    s.post enc Tryz.prog f false true false false W args (.bool true) W' := by
  have hW' := hW
  have hlt := hW.lt
  obtain ⟨p, q, hA, hV, rfl, _, _⟩ := hW
  rw [hv] at hV
  obtain ⟨rfl, rfl⟩ := trodVars_none hV
  simp only [List.append_nil] at hW' hlt
  have hfn' : s.fn H (ds ++ []) = { results := [.lit (.bool true)], args := ds } := by rw [List.append_nil]; exact hfn
  refine ⟨ds, [], p, [], p, [], hW', ?_, ?_, ?_, hb.frame _, fun h => by cases h⟩
  · rw [hr, hfn']
    exact trodAll_mk1 (shut_bool Tryz.underlying4 _)
  · rw [hfn']
    exact args_stay hb ht hA hlt
  · rw [hv, hfn']
    exact rfl
end Go.Proofs.YthgfjafnclklpaaGreatDoor
end
section
namespace Go.Proofs.YthgfjafnclklpaaGreatDoor
open Go.ChangeShapes Go.WideShapes Go.ChangeAt Go.RowKit

section
variable {H : Type} {enc : TypeId × Value → H} {w : World} {held : Bool}

theorem list_of {α : Type} {p : Nat → α → Prop} : ∀ {n : Nat}, (∀ i, i < n → ∃ x, p i x) → ∃ l : List α, l.length = n ∧ ∀ i x, l[i]? = some x → p i x
  | 0, _ => ⟨[], rfl, fun i x h => by simp at h⟩
  | n + 1, h => by
    obtain ⟨l, h1, h2⟩ := list_of (p := p) (n := n) (fun i hi => h i (by omega))
    obtain ⟨x, hx⟩ := h n (Nat.lt_succ_self n)
    refine ⟨l ++ [x], by simp [h1], fun i y hy => ?_⟩
    rcases Nat.lt_or_ge i l.length with hl | hl
    · rw [List.getElem?_append_left hl] at hy; exact h2 i y hy
    · rw [List.getElem?_append_right hl] at hy
      rcases Nat.eq_or_lt_of_le hl with e | e
      · have : i - l.length = 0 := by omega
        rw [this] at hy; simp at hy; subst hy; rw [← e, h1]; exact hx
      · rw [List.getElem?_eq_none (by simp; omega)] at hy; cases hy

theorem flatMap_at {α β : Type} {f : α → List β} {k : Nat} : ∀ {l : List α}, (∀ a ∈ l, (f a).length = k) → ∀ {j : Nat} {u : β}, (l.flatMap f)[j]? = some u → ∃ i a r, l[i]? = some a ∧ (f a)[r]? = some u ∧ j = i * k + r ∧ r < k
  | [], _, j, u, h => by simp at h
  | a :: t, hf, j, u, h => by
    rw [List.flatMap_cons] at h
    have ha := hf a (by simp)
    rcases Nat.lt_or_ge j k with hj | hj
    · rw [List.getElem?_append_left (by omega)] at h
      exact ⟨0, a, j, rfl, h, by simp, hj⟩
    · rw [List.getElem?_append_right (by omega), ha] at h
      obtain ⟨i, b, r, h1, h2, h3, h4⟩ := flatMap_at (fun x hx => hf x (by simp [hx])) h
      exact ⟨i + 1, b, r, by simpa using h1, h2, by rw [Nat.succ_mul]; omega, h4⟩

theorem flatMap_get {α β : Type} {f : α → List β} {k : Nat} : ∀ {l : List α}, (∀ a ∈ l, (f a).length = k) → ∀ {i : Nat} {a : α}, l[i]? = some a → ∀ {r : Nat}, r < k → (l.flatMap f)[i * k + r]? = (f a)[r]?
  | [], _, i, a, h, _, _ => by simp at h
  | x :: t, hf, 0, a, h, r, hr => by
    simp at h; subst h
    rw [List.flatMap_cons, Nat.zero_mul, Nat.zero_add, List.getElem?_append_left (by rw [hf x (by simp)]; exact hr)]
  | x :: t, hf, i + 1, a, h, r, hr => by
    have hx := hf x (by simp)
    rw [List.flatMap_cons, List.getElem?_append_right (by rw [hx, Nat.succ_mul]; omega), hx, show (i + 1) * k + r - k = i * k + r by rw [Nat.succ_mul]; omega]
    exact flatMap_get (fun a ha => hf a (by simp [ha])) (by simpa using h) hr

theorem open_list {α : Type} (cells : α → List Value) (Q : α → DataW H → Prop) {k : Nat} (hk0 : 0 < k) (hlen : ∀ a, (cells a).length = k) {t e : TypeId} {n : Nat} {v : Value} {y : DataW H × List MemPlace}
    (ht : Tryz.prog.underlying t = some (.slice e)) (hk : Tryz.prog.cellsOf e = k)
    (conv : ∀ (n : Nat) (cs : List Value) (x : DataW H × List MemPlace), DataW.trod enc Tryz.prog w 0 (fun _ => true) held n e cs = some x → cs.length = k → ∃ a, cs = cells a ∧ Q a x.1)
    (h : DataW.trod enc Tryz.prog w 0 (fun _ => true) held n t [v] = some y) :
    ∃ (A : Option Addr) (cap : Nat) (l : List α), v = .slice A l.length cap ∧ RowAt w A (l.flatMap cells) ∧ l.length ≤ cap ∧ cap ≤ 9223372036854775807 ∧ (A = none → cap = 0) ∧
      ((l = [] ∧ y.1 = .nil) ∨ ∃ es sp : List (DataW H), y.1 = .slice es sp ∧ es.length = l.length ∧ es.length + sp.length = cap ∧ ∀ (i : Nat) (a : α), l[i]? = some a → ∃ d : DataW H, es[i]? = some d ∧ Q a d) := by
  rcases Deep.open_slice ht h with ⟨h1, h2⟩ | ⟨a, len, cap, m, n', D, Pl, h1, _, hlc, hcm, hm, hx, hel⟩
  · injection h1 with h1
    exact ⟨none, 0, [], h1, .inl rfl, Nat.le_refl _, by decide, fun _ => rfl, .inl ⟨rfl, by rw [h2]⟩⟩
  · injection h1 with h1
    rw [if_pos rfl] at hm
    subst hm
    rw [hk] at hel
    obtain ⟨l, hl, hp⟩ := list_of (p := fun i (b : α) => (∀ r u, (cells b)[r]? = some u → w.cell? ((a.add (i * k)).add r) = some u) ∧ Q b (D i)) (n := len) (fun i hi => by
      obtain ⟨cs', h2, h3⟩ := hel i (by omega)
      obtain ⟨_, h4, h5⟩ := World.cells?_some h2
      obtain ⟨b, rfl, hq⟩ := conv _ _ _ h3 h4
      exact ⟨b, fun r u hu => by
        rw [h5 r (by rw [← h4]; exact (List.getElem?_eq_some_iff.1 hu).1)]; exact hu, hq⟩)
    have hrow : RowAt w (some a) (l.flatMap cells) := by
      cases l with
      | nil => exact .inl rfl
      | cons b0 t0 =>
        obtain ⟨u0, hu0⟩ : ∃ u0, (cells b0)[0]? = some u0 := ⟨_, List.getElem?_eq_getElem (by rw [hlen]; exact hk0)⟩
        have h0 := (hp 0 b0 rfl).1 0 u0 hu0
        obtain ⟨b, o, sp⟩ := a
        cases sp with
        | some x =>
          exfalso
          simp [Addr.add, World.cell?] at h0
          split at h0 <;> cases h0
        | none =>
          refine .inr ⟨b, o, rfl, ?_, fun j u hu => ?_⟩
          · rw [Addr.add_mid, Addr.add_mid] at h0
            exact World.block_lt_of_cell? w _ h0
          · obtain ⟨i, c, r, g1, g2, g3, _⟩ := flatMap_at (k := k) (fun c _ => hlen c) hu
            have := (hp i c g1).1 r u g2
            rw [Addr.add_mid, Addr.add_mid] at this
            rw [g3, ← Nat.add_assoc]
            exact this
    refine ⟨some a, m, l, by rw [hl]; exact h1, hrow, by omega, by unfold maxLen at hcm; exact hcm, fun h => (by cases h), .inr ⟨_, _, by rw [hx], by simp [hl], by simp; omega, fun i c hc => ?_⟩⟩
    have hi : i < len := by rw [← hl]; exact (List.getElem?_eq_some_iff.1 hc).1
    exact ⟨D i, by simp [hi], (hp i c hc).2⟩

/-! what the reach bounds -/
end
end Go.Proofs.YthgfjafnclklpaaGreatDoor
end
