/- Lots: lists that were handed out, which are written full and grown; frames told by labels of blocks. The Book: what it holds; a list of bytes taken in. -/
import Derived.Test.YtnbeeehfapjpdaaGreatDoorMem
import Derived.Deep.AppendSrc
import Derived.Deep.Upon
import Derived.Deep.MidRow
import Derived.Test.YtnbeeehfapjpdaaGreatDoorFm
import Derived.Lib.Hide
import Derived.Deep.DrawnRows
import Derived.Deep.QuietTactic
import Derived.BigQuiet
import Derived.StillTailTactics
import Derived.Deep.RegionHeld3
import Derived.Deep.RegionLaw
import Derived.Deep.CutBlock
import Derived.Deep.CutRange
import Derived.Deep.DeepCutAuto
section
namespace Go.Proofs.YtnbeeehfapjpdaaGreatDoor
open Go.RowKit

theorem tape_putCells (b : Nat) : ∀ (vs : List Value) (o : Nat) (w : World), (w.setCells b o vs).tape = w.tape
  | [], _, _ => rfl
  | _ :: vs, o, _ => (tape_putCells b vs (o + 1) _).trans rfl
theorem size_putCells (b : Nat) : ∀ (vs : List Value) (o : Nat) (w : World), (w.setCells b o vs).heap.size = w.heap.size
  | [], _, _ => rfl
  | _ :: vs, o, w => (size_putCells b vs (o + 1) _).trans (by simp [World.setCell])
theorem below_putCells_size (g : Nat) (vs : List Value) (o : Nat) (w : World) : w.heap.size ≤ (w.setCells g o vs).heap.size := Nat.le_of_eq (size_putCells g vs o w).symm
theorem fm_at {α β : Type} {f : α → List β} {k : Nat} : ∀ {l : List α}, (∀ a ∈ l, (f a).length = k) → ∀ {j : Nat} {u : β}, (l.flatMap f)[j]? = some u → ∃ i a r, l[i]? = some a ∧ (f a)[r]? = some u ∧ j = i * k + r ∧ r < k
  | [], _, j, u, h => by simp at h
  | a :: t, hf, j, u, h => by
    rw [List.flatMap_cons] at h
    have ha := hf a (by simp)
    rcases Nat.lt_or_ge j k with hj | hj
    · rw [List.getElem?_append_left (by omega)] at h
      exact ⟨0, a, j, rfl, h, by simp, hj⟩
    · rw [List.getElem?_append_right (by omega), ha] at h
      obtain ⟨i, b, r, h1, h2, h3, h4⟩ := fm_at (fun x hx => hf x (by simp [hx])) h
      exact ⟨i + 1, b, r, by simpa using h1, h2, by rw [Nat.succ_mul]; omega, h4⟩
theorem fm_get {α β : Type} {f : α → List β} {k : Nat} : ∀ {l : List α}, (∀ a ∈ l, (f a).length = k) → ∀ {i : Nat} {a : α}, l[i]? = some a → ∀ {r : Nat}, r < k → (l.flatMap f)[i * k + r]? = (f a)[r]?
  | [], _, i, a, h, _, _ => by simp at h
  | x :: t, hf, 0, a, h, r, hr => by
    simp at h; subst h
    rw [List.flatMap_cons, Nat.zero_mul, Nat.zero_add, List.getElem?_append_left (by rw [hf x (by simp)]; exact hr)]
  | x :: t, hf, i + 1, a, h, r, hr => by
    have hx := hf x (by simp)
    rw [List.flatMap_cons, List.getElem?_append_right (by rw [hx, Nat.succ_mul]; omega), hx, show (i + 1) * k + r - k = i * k + r by rw [Nat.succ_mul]; omega]
    exact fm_get (fun a ha => hf a (by simp [ha])) (by simpa using h) hr

/-- the label of a block: a kind, and a number -/
abbrev Lab := Nat × Nat
theorem lab_ne {a b i j : Nat} (h : a ≠ b) : ((a, i) : Lab) ≠ (b, j) := fun e => h (congrArg Prod.fst e)
theorem lab_ne2 {a i j : Nat} (h : i ≠ j) : ((a, i) : Lab) ≠ (a, j) := fun e => h (congrArg Prod.snd e)
def relab (f : Nat → Lab) (w : World) (l : Lab) : Nat → Lab := fun k => if k < w.heap.size then f k else l
def LabV (f : Nat → Lab) (v : Value) (l : Lab) : Prop := ∀ g, v.ownBlock = some g → f g = l
theorem relab_old {f : Nat → Lab} {w : World} {l : Lab} {k : Nat} (h : k < w.heap.size) : relab f w l k = f k := if_pos h
theorem relab_new {f : Nat → Lab} {w : World} {l : Lab} {k : Nat} (h : w.heap.size ≤ k) : relab f w l k = l := if_neg (by omega)

/-- n elements of sz cells, of which the first m are those of F; all of the room can be read and written -/
structure LotAt (w : World) (sz g n cap m : Nat) (F : Nat → List Value) : Prop where
  room : n ≤ cap
  small : cap ≤ maxLen
  lt : g < w.heap.size
  there : ∀ j, j < cap * sz → (w.cell? ⟨g, j, none⟩).isSome = true ∧ w.frozen? ⟨g, j, none⟩ = false
  cells : ∀ k, k < m → ∀ (c : Nat) (u : Value), (F k)[c]? = some u → w.cell? ⟨g, k * sz + c, none⟩ = some u
def Lot (w : World) (sz : Nat) (v : Value) (n m : Nat) (F : Nat → List Value) : Prop :=
  (v = .slice none 0 0 ∧ n = 0 ∧ m = 0) ∨ ∃ g cap, v = .slice (some ⟨g, 0, none⟩) n cap ∧ m ≤ n ∧ LotAt w sz g n cap m F

/-- only blocks whose label meets P have changed; new ones have such a label -/
structure OnlyL (f f' : Nat → Lab) (P : Lab → Prop) (w w' : World) : Prop where
  os : w'.os = w.os
  tape : w'.tape = w.tape
  output : w'.output = w.output
  size : w.heap.size ≤ w'.heap.size
  block : ∀ k, k < w.heap.size → ¬ P (f k) → w'.heap[k]? = w.heap[k]?
  lab : ∀ k, k < w.heap.size → f' k = f k
  fresh : ∀ k, w.heap.size ≤ k → k < w'.heap.size → P (f' k)

/-- only blocks of label l have changed, and where a cell was F's it is so still -/
structure Wrote (f f' : Nat → Lab) (l : Lab) (sz : Nat) (F : Nat → List Value) (w w' : World) : Prop where
  only : OnlyL f f' (· = l) w w'
  there : ∀ g j, (w.cell? ⟨g, j, none⟩).isSome = true → (w'.cell? ⟨g, j, none⟩).isSome = true
  frozen : ∀ g j, g < w.heap.size → w'.frozen? ⟨g, j, none⟩ = w.frozen? ⟨g, j, none⟩
  conf : ∀ g k (c : Nat) (u : Value), c < sz → (F k)[c]? = some u → w.cell? ⟨g, k * sz + c, none⟩ = some u → w'.cell? ⟨g, k * sz + c, none⟩ = some u

section
variable {w w1 w2 : World} {f f1 f2 : Nat → Lab} {l : Lab} {P Q : Lab → Prop} {sz n m : Nat} {F : Nat → List Value} {v : Value}

theorem OnlyL.refl (f : Nat → Lab) (P : Lab → Prop) (w : World) : OnlyL f f P w w := ⟨rfl, rfl, rfl, Nat.le_refl _, fun _ _ _ => rfl, fun _ _ => rfl, fun k h1 h2 => by omega⟩
theorem OnlyL.trans (h : OnlyL f f1 P w w1) (k : OnlyL f1 f2 P w1 w2) : OnlyL f f2 P w w2 :=
  ⟨k.os.trans h.os, k.tape.trans h.tape, k.output.trans h.output, Nat.le_trans h.size k.size,
    fun i hi hn => (k.block i (Nat.lt_of_lt_of_le hi h.size) (by rw [h.lab i hi]; exact hn)).trans (h.block i hi hn),
    fun i hi => (k.lab i (Nat.lt_of_lt_of_le hi h.size)).trans (h.lab i hi),
    fun i h1 h2 => by
      by_cases hi : i < w1.heap.size
      · rw [k.lab i hi]; exact h.fresh i h1 hi
      · exact k.fresh i (by omega) h2⟩
theorem OnlyL.mono (h : OnlyL f f1 P w w1) (hP : ∀ l, P l → Q l) : OnlyL f f1 Q w w1 :=
  ⟨h.os, h.tape, h.output, h.size, fun i hi hn => h.block i hi (fun hp => hn (hP _ hp)), h.lab, fun i h1 h2 => hP _ (h.fresh i h1 h2)⟩
theorem OnlyL.of_below (h : Below w.heap.size w w1) (f : Nat → Lab) (l : Lab) (hl : P l) : OnlyL f (relab f w l) P w w1 :=
  ⟨h.os, h.tape, h.output, h.size, fun i hi _ => h.block i hi, fun i hi => relab_old hi, fun i h1 _ => by rw [relab_new h1]; exact hl⟩
theorem OnlyL.of_put (f : Nat → Lab) (w : World) (p : Addr) (u : Value) (hp : P (f p.block)) : OnlyL f f P w (w.setCell p u) :=
  ⟨rfl, rfl, rfl, by simp [World.setCell], fun i _ hn => Below.heap_setCell w p u i (fun e => hn (by rw [e]; exact hp)), fun _ _ => rfl, fun i h1 h2 => by simp [World.setCell] at h2; omega⟩
/-- nothing that lay there has been changed, where no label meets P -/
theorem OnlyL.below (h : OnlyL f f1 P w w1) {B : Nat} (hB : B ≤ w.heap.size) (hf : ∀ k, k < B → ¬ P (f k)) : Below B w w1 :=
  ⟨h.os, h.tape, h.output, h.size, fun k hk => h.block k (Nat.lt_of_lt_of_le hk hB) (hf k hk)⟩

theorem Wrote.refl (f : Nat → Lab) (l : Lab) (sz : Nat) (F : Nat → List Value) (w : World) : Wrote f f l sz F w w :=
  ⟨OnlyL.refl _ _ _, fun _ _ h => h, fun _ _ _ => rfl, fun _ _ _ _ _ _ h => h⟩
theorem Wrote.trans (h : Wrote f f1 l sz F w w1) (k : Wrote f1 f2 l sz F w1 w2) : Wrote f f2 l sz F w w2 :=
  ⟨h.only.trans k.only, fun g j hs => k.there g j (h.there g j hs), fun g j hg => (k.frozen g j (Nat.lt_of_lt_of_le hg h.only.size)).trans (h.frozen g j hg),
    fun g a c u hc hf hw => k.conf g a c u hc hf (h.conf g a c u hc hf hw)⟩
theorem Wrote.of_below (h : Below w.heap.size w w1) (f : Nat → Lab) (l : Lab) (sz : Nat) (F : Nat → List Value) : Wrote f (relab f w l) l sz F w w1 := by
  have hc : ∀ g j, g < w.heap.size → w1.cell? ⟨g, j, none⟩ = w.cell? ⟨g, j, none⟩ := fun g j hg => World.cell?_of_block (h.block g hg)
  refine ⟨OnlyL.of_below h f l rfl, fun g j hs => ?_, fun g j hg => World.frozen?_of_block (h.block g hg), fun g a c u _ _ hw => ?_⟩
  · obtain ⟨u, hu⟩ := Option.isSome_iff_exists.1 hs
    rw [hc g j (World.block_lt_of_cell? w _ hu)]; exact hs
  · rw [hc g _ (World.block_lt_of_cell? w _ hw)]; exact hw

theorem Lot.form (h : Lot w sz v n m F) : ∃ A cap, v = .slice A n cap := by
  rcases h with ⟨rfl, rfl, _⟩ | ⟨g, cap, rfl, _, _⟩
  · exact ⟨_, _, rfl⟩
  · exact ⟨_, _, rfl⟩
theorem Lot.lt (h : Lot w sz v n m F) : ∀ g, v.ownBlock = some g → g < w.heap.size := by
  rcases h with ⟨rfl, _⟩ | ⟨g, cap, rfl, _, h⟩
  · intro g hg; cases hg
  · intro g' hg
    have : g = g' := by simpa [Value.ownBlock] using hg
    rw [← this]; exact h.lt
theorem Lot.same (h : Lot w sz v n m F) (hb : ∀ g, v.ownBlock = some g → w1.heap[g]? = w.heap[g]?) (hs : w.heap.size ≤ w1.heap.size) : Lot w1 sz v n m F := by
  rcases h with h0 | ⟨g, cap, rfl, hmn, h⟩
  · exact .inl h0
  · have hh := hb g rfl
    refine .inr ⟨g, cap, rfl, hmn, h.room, h.small, Nat.lt_of_lt_of_le h.lt hs, fun j hj => ?_, fun k hk c u hu => ?_⟩
    · rw [World.cell?_of_block hh, World.frozen?_of_block hh]; exact h.there j hj
    · rw [World.cell?_of_block hh]; exact h.cells k hk c u hu
theorem Lot.later (h : Lot w sz v n m F) (hb : Below w.heap.size w w1) : Lot w1 sz v n m F := h.same (fun g hg => hb.block g (h.lt g hg)) hb.size
theorem Lot.apart (h : Lot w sz v n m F) (ho : OnlyL f f1 P w w1) (hl : LabV f v l) (hn : ¬ P l) : Lot w1 sz v n m F :=
  h.same (fun g hg => ho.block g (h.lt g hg) (by rw [hl g hg]; exact hn)) ho.size
theorem LabV.on (hl : LabV f v l) (ho : OnlyL f f1 P w w1) (hlt : ∀ g, v.ownBlock = some g → g < w.heap.size) : LabV f1 v l := fun g hg => (ho.lab g (hlt g hg)).trans (hl g hg)
theorem Lot.conf (h : Lot w sz v n m F) (hF : ∀ k, (F k).length = sz) (hw : Wrote f f1 l sz F w w1) : Lot w1 sz v n m F := by
  rcases h with h0 | ⟨g, cap, rfl, hmn, h⟩
  · exact .inl h0
  · refine .inr ⟨g, cap, rfl, hmn, h.room, h.small, Nat.lt_of_lt_of_le h.lt hw.only.size, fun j hj => ?_, fun k hk c u hu => ?_⟩
    · rw [hw.frozen g j h.lt]; exact ⟨hw.there g j (h.there j hj).1, (h.there j hj).2⟩
    · exact hw.conf g k c u (by rw [← hF k]; exact (List.getElem?_eq_some_iff.1 hu).1) hu (h.cells k hk c u hu)
theorem Lot.blank (h : Lot w sz v n m F) (G : Nat → List Value) : Lot w sz v n 0 G := by
  rcases h with ⟨h1, h2, _⟩ | ⟨g, cap, rfl, hmn, h⟩
  · exact .inl ⟨h1, h2, rfl⟩
  · exact .inr ⟨g, cap, rfl, Nat.zero_le _, h.room, h.small, h.lt, h.there, fun k hk => by omega⟩

theorem fm_len {α β : Type} {f : α → List β} {k : Nat} : ∀ {l : List α}, (∀ a ∈ l, (f a).length = k) → (l.flatMap f).length = l.length * k
  | [], _ => by simp
  | a :: t, h => by
    rw [List.flatMap_cons, List.length_append, fm_len (fun x hx => h x (List.mem_cons_of_mem _ hx)), h a (List.mem_cons_self ..), List.length_cons, Nat.add_mul, Nat.one_mul, Nat.add_comm]
theorem mul_add_cmp {sz k a c : Nat} (hc : c < sz) : (k * sz + c < a * sz ↔ k < a) := by
  constructor
  · intro h
    rcases Nat.lt_or_ge k a with h1 | h1
    · exact h1
    · have := Nat.mul_le_mul_right sz h1; omega
  · intro h
    have := Nat.mul_le_mul_right sz (show k + 1 ≤ a from h)
    rw [Nat.add_mul, Nat.one_mul] at this
    omega

/-- cells stored into a block, element by element F's -/
theorem Wrote.setCells {g a m : Nat} {news : List Value} (hl : f g = l) (hlen : news.length = m * sz)
    (hn : ∀ k, k < m → ∀ c, c < sz → news[k * sz + c]? = (F (a + k))[c]?) (ht : ∀ j, j < m * sz → (w.cell? ⟨g, a * sz + j, none⟩).isSome = true) :
    Wrote f f l sz F w (w.setCells g (a * sz) news) := by
  refine ⟨⟨World.os_setCells w g _ _, tape_putCells g _ _ _, World.output_setCells w g _ _, below_putCells_size g _ _ _, fun i hi hnl => World.heap_setCells_other w g _ _ hi (fun e => hnl (by rw [e]; exact hl)), fun _ _ => rfl, fun i h1 h2 => ?_⟩, fun g' j hs => World.isSome_setCells g _ _ _ _ hs, fun g' j _ => World.frozen?_setCells g _ _ _ _, fun g' k c u hc hu hw => ?_⟩
  · rw [size_putCells] at h2; omega
  · by_cases hg : g' = g
    · subst hg
      by_cases hin : a ≤ k ∧ k < a + m
      · obtain ⟨d, rfl⟩ : ∃ d, k = a + d := ⟨k - a, by omega⟩
        have hd : d < m := by omega
        have hlt : d * sz + c < m * sz := (mul_add_cmp hc).2 hd
        have hh := World.cell?_setCells_in g' news (a * sz) w (fun j hj => ht j (by omega)) (d * sz + c) (by omega)
        have hx : news[d * sz + c]? = some u := (hn d hd c hc).trans hu
        rw [show (a + d) * sz + c = a * sz + (d * sz + c) by rw [Nat.add_mul]; omega, hh]
        rw [List.getElem?_eq_some_iff] at hx
        obtain ⟨_, hx⟩ := hx
        rw [hx]
      · rw [World.cell?_setCells_out g' news (a * sz) w ⟨g', k * sz + c, none⟩ (fun _ _ => ?_)]
        · exact hw
        · by_cases hk : k < a
          · exact .inl ((mul_add_cmp hc).2 hk)
          · right
            have h1 : ¬ (k * sz + c < (a + m) * sz) := fun h => by have := (mul_add_cmp hc).1 h; omega
            rw [Nat.add_mul] at h1
            show a * sz + news.length ≤ k * sz + c
            omega
    · rw [World.cell?_setCells_out g news (a * sz) w ⟨g', k * sz + c, none⟩ (fun h _ => absurd h hg)]
      exact hw

/-- an element of the room is stored -/
theorem LotAt.put {g cap k : Nat} {news : List Value} (hF : ∀ k, (F k).length = sz) (h : LotAt w sz g n cap k F) (hk : k < cap) (hn : news = F k) (hl : f g = l) :
    LotAt (w.setCells g (k * sz) news) sz g n cap (k + 1) F ∧ Wrote f f l sz F w (w.setCells g (k * sz) news) := by
  subst hn
  have hle : (k + 1) * sz ≤ cap * sz := Nat.mul_le_mul_right _ hk
  rw [Nat.add_mul, Nat.one_mul] at hle
  have ht : ∀ j, j < 1 * sz → (w.cell? ⟨g, k * sz + j, none⟩).isSome = true := fun j hj => (h.there _ (by omega)).1
  have hw : Wrote f f l sz F w (w.setCells g (k * sz) (F k)) := Wrote.setCells (m := 1) hl (by rw [hF, Nat.one_mul]) (fun i hi c hc => (by have h0 : i = 0 := (by omega); subst h0; simp)) ht
  refine ⟨⟨h.room, h.small, Nat.lt_of_lt_of_le h.lt hw.only.size, fun j hj => ⟨hw.there g j (h.there j hj).1, by rw [hw.frozen g j h.lt]; exact (h.there j hj).2⟩, fun i hi c u hu => ?_⟩, hw⟩
  have hc : c < sz := by rw [← hF i]; exact (List.getElem?_eq_some_iff.1 hu).1
  by_cases hik : i = k
  · subst hik
    have hh := World.cell?_setCells_in g (F i) (i * sz) w (fun j hj => by rw [hF] at hj; exact ht j (by omega)) c (by rw [hF]; exact hc)
    rw [hh]
    rw [List.getElem?_eq_some_iff] at hu
    obtain ⟨_, hu⟩ := hu
    rw [hu]
  · exact hw.conf g i c u hc hu (h.cells i (by omega) c u hu)

/-- elements are appended onto a lot -/
theorem Lot.append {P : Program} {bytes : Nat} {t tx ty e : TypeId} {i : TypeInfo} {z : Value} (ht : P.underlying t = some (.slice e)) (hi : P.info? e = some i) (hz : i.zero = some z) (hsz : i.size = sz) (hby : i.bytes = bytes) (hzs : z.cells.size = sz)
    (hF : ∀ k, (F k).length = sz) (h : Lot w sz v n n F) (hl : LabV f v l) {x : Value} {news : List Value} (hs : Src P sz tx x m news w) (hn : ∀ k, k < m → ∀ c, c < sz → news[k * sz + c]? = (F (n + k))[c]?)
    (hm : 0 < m) (h63 : n + m ≤ maxLen) (h47 : (n + m) * bytes ≤ 140737488355328) :
    ∃ g cap w', (Builtin.append_ #[t, tx] ty #[v, x]).run P w = .ok (.slice (some ⟨g, 0, none⟩) (n + m) cap) w' ∧ Lot w' sz (.slice (some ⟨g, 0, none⟩) (n + m) cap) (n + m) (n + m) F ∧
      relab f w l g = l ∧ Wrote f (relab f w l) l sz F w w' := by
  subst hsz hby
  have hroom : ∀ g cap, LotAt w i.size g n cap n F → f g = l → v = .slice (some ⟨g, 0, none⟩) n cap → n + m ≤ cap →
      ∃ g cap w', (Builtin.append_ #[t, tx] ty #[v, x]).run P w = .ok (.slice (some ⟨g, 0, none⟩) (n + m) cap) w' ∧ Lot w' i.size (.slice (some ⟨g, 0, none⟩) (n + m) cap) (n + m) (n + m) F ∧
      relab f w l g = l ∧ Wrote f (relab f w l) l i.size F w w' := by
    intro g cap ha hg hv hr
    subst hv
    have hle : (n + m) * i.size ≤ cap * i.size := Nat.mul_le_mul_right _ hr
    rw [Nat.add_mul] at hle
    have hrun := run_append_room_src (P := P) w t tx ty e i ht hi g 0 n cap x m news hs hr (fun j hj => by rw [hs.newsLen] at hj; rw [Nat.zero_add]; exact (ha.there _ (by omega)).1) (fun j hj => by rw [hs.newsLen] at hj; rw [Nat.zero_add]; exact (ha.there _ (by omega)).2)
    rw [Nat.zero_add] at hrun
    have hw : Wrote f f l i.size F w (w.setCells g (n * i.size) news) := Wrote.setCells hg hs.newsLen hn (fun j hj => (ha.there _ (by omega)).1)
    have hw2 : Wrote f (relab f w l) l i.size F w (w.setCells g (n * i.size) news) :=
      ⟨⟨hw.only.os, hw.only.tape, hw.only.output, hw.only.size, hw.only.block, fun k hk => relab_old hk, fun k h1 _ => relab_new h1⟩, hw.there, hw.frozen, hw.conf⟩
    refine ⟨g, cap, _, hrun, .inr ⟨g, cap, rfl, Nat.le_refl _, hr, ha.small, Nat.lt_of_lt_of_le ha.lt hw.only.size, fun j hj => ⟨hw.there g j (ha.there j hj).1, by rw [hw.frozen g j ha.lt]; exact (ha.there j hj).2⟩, fun k hk c u hu => ?_⟩, by rw [relab_old ha.lt]; exact hg, hw2⟩
    have hc : c < i.size := by rw [← hF k]; exact (List.getElem?_eq_some_iff.1 hu).1
    by_cases hkn : k < n
    · exact hw.conf g k c u hc hu (ha.cells k hkn c u hu)
    · obtain ⟨d, rfl⟩ : ∃ d, k = n + d := ⟨k - n, by omega⟩
      have hlt : d * i.size + c < m * i.size := (mul_add_cmp hc).2 (by omega)
      have hh := World.cell?_setCells_in g news (n * i.size) w (fun j hj => by rw [hs.newsLen] at hj; exact (ha.there _ (by omega)).1) (d * i.size + c) (by rw [hs.newsLen]; exact hlt)
      have hx : news[d * i.size + c]? = some u := (hn d (by omega) c hc).trans hu
      rw [show (n + d) * i.size + c = n * i.size + (d * i.size + c) by rw [Nat.add_mul]; omega, hh]
      rw [List.getElem?_eq_some_iff] at hx
      obtain ⟨_, hx⟩ := hx
      rw [hx]
  have hgrow : ∀ (A : Option Addr) (cap : Nat) (olds : List Value), v = .slice A n cap → cap < n + m → (Builtin.firstCells i.size n (.slice A n cap)).run P w.drew = .ok olds.toArray w.drew → olds.length = n * i.size →
      (∀ k, k < n → ∀ c, c < i.size → olds[k * i.size + c]? = (F k)[c]?) →
      ∃ g cap w', (Builtin.append_ #[t, tx] ty #[v, x]).run P w = .ok (.slice (some ⟨g, 0, none⟩) (n + m) cap) w' ∧ Lot w' i.size (.slice (some ⟨g, 0, none⟩) (n + m) cap) (n + m) (n + m) F ∧
      relab f w l g = l ∧ Wrote f (relab f w l) l i.size F w w' := by
    intro A cap olds hv hlt hold hol hoc
    subst hv
    have hgf := growslice_fits (need := n + m) (old := cap) (bytes := i.bytes) (by omega) h47
    have hrun := run_append_grow_src (P := P) w t tx ty e i z ht hi hz A n cap olds hold x m news hs hlt (by unfold maxLen at h63; omega) hgf
    have hge := grownCap_ge w (n + m) cap e
    have hcm : grownCap w (n + m) cap e ≤ maxLen := grownCap_le_maxLen w (n + m) cap _ h63
    generalize grownCap w (n + m) cap e = cp at hrun hge hcm
    have hh := heap_alloc_new w.drew (.cells ((olds ++ news).toArray ++ Builtin.zeroCells z.cells (cp - (n + m))) e)
    change (World.alloc _ _).heap[w.heap.size]? = _ at hh
    have hsz2 : ((olds ++ news).toArray ++ Builtin.zeroCells z.cells (cp - (n + m))).size = cp * i.size := by
      have e1 : (olds ++ news).toArray.size = (n + m) * i.size := by simp [hol, hs.newsLen, Nat.add_mul]
      rw [Array.size_append, e1, size_zeroCells, hzs, ← Nat.add_mul]
      congr 1
      omega
    have hbel : Below w.heap.size w (w.drew.alloc (.cells ((olds ++ news).toArray ++ Builtin.zeroCells z.cells (cp - (n + m))) e)) := ((Below.refl w.heap.size w).drew).alloc (Nat.le_refl _) _
    refine ⟨w.heap.size, cp, _, hrun, .inr ⟨w.heap.size, cp, rfl, Nat.le_refl _, hge, hcm, by simp, fun j hj => ⟨?_, ?_⟩, fun k hk c u hu => ?_⟩, relab_new (Nat.le_refl _), Wrote.of_below hbel f l _ F⟩
    · unfold World.cell?
      rw [hh]
      simp only [Option.isSome_none, Bool.false_eq_true, if_false]
      rw [Array.getElem?_eq_getElem (by rw [hsz2]; exact hj)]
      rfl
    · unfold World.frozen?
      rw [hh]
      simp
    · have hc : c < i.size := by rw [← hF k]; exact (List.getElem?_eq_some_iff.1 hu).1
      have h3 : (olds ++ news)[k * i.size + c]? = some u := by
        by_cases hkn : k < n
        · rw [List.getElem?_append_left (by rw [hol]; exact (mul_add_cmp hc).2 hkn), hoc k hkn c hc]; exact hu
        · obtain ⟨d, rfl⟩ : ∃ d, k = n + d := ⟨k - n, by omega⟩
          rw [List.getElem?_append_right (by rw [hol, Nat.add_mul]; omega), hol, show (n + d) * i.size + c - n * i.size = d * i.size + c by rw [Nat.add_mul]; omega, hn d (by omega) c hc]
          exact hu
      unfold World.cell?
      rw [hh]
      simp only [Option.isSome_none, Bool.false_eq_true, if_false]
      rw [Array.getElem?_append_left (by have := (List.getElem?_eq_some_iff.1 h3).1; simpa using this)]
      simpa using h3
  rcases h with ⟨hv, hn0, _⟩ | ⟨g, cap, hv, _, ha⟩
  · subst hn0
    exact hgrow none 0 [] hv (by omega) (run_firstCells_none w.drew i.size 0 0 0) (by simp) (fun k hk => by omega)
  · by_cases hr : n + m ≤ cap
    · exact hroom g cap ha (hl g (by rw [hv]; rfl)) hv hr
    · have hlen : ∀ a ∈ List.range n, (F a).length = i.size := fun a _ => hF a
      refine hgrow (some ⟨g, 0, none⟩) cap ((List.range n).flatMap F) hv (by omega) (run_firstCells_some w.drew i.size n ⟨g, 0, none⟩ n cap _ ?_ (fun j u hu => ?_)) ?_ (fun k hk c hc => ?_)
      · rw [fm_len hlen, List.length_range]
      · obtain ⟨k, a, c, hk, hc, rfl, hcs⟩ := fm_at hlen hu
        have hkl : k < n := by have := (List.getElem?_eq_some_iff.1 hk).1; simpa using this
        have : a = k ∧ k < n := by
          rw [List.getElem?_range hkl] at hk
          injection hk with hk
          exact ⟨hk.symm, hkl⟩
        obtain ⟨rfl, hkn⟩ := this
        rw [Addr.add_mid, Nat.zero_add]
        exact ha.cells a hkn c u hc
      · rw [fm_len hlen, List.length_range]
      · exact fm_get hlen (by rw [List.getElem?_range hk]) hc
end

section
variable {w : World} {f : Nat → Lab} {l : Lab} {sz n : Nat} {F G : Nat → List Value} {v : Value}
theorem Lot.congr (h : Lot w sz v n n F) (hG : ∀ k, k < n → G k = F k) : Lot w sz v n n G := by
  rcases h with h0 | ⟨g, cap, rfl, hmn, h⟩
  · exact .inl h0
  · exact .inr ⟨g, cap, rfl, hmn, h.room, h.small, h.lt, h.there, fun k hk c u hu => h.cells k hk c u (by rw [← hG k hk]; exact hu)⟩

section
variable {P : Program} {Q : Exit → Act → World → Prop} {a : Act} {o : Oper}
theorem wp_append_lot {K : Act → World → Prop} (s x : Operand) (t tx : TypeId) (ho : o.op = .call { callee := .builtin .append, args := #[s, x], argTypes := #[t, tx] })
    (f : Nat → Lab) (l : Lab) (F : Nat → List Value) (e : TypeId) (i : TypeInfo) (z : Value) (sz bytes : Nat) (ht : P.underlying t = some (.slice e)) (hi : P.info? e = some i) (hz : i.zero = some z) (hsz : i.size = sz) (hby : i.bytes = bytes) (hzs : z.cells.size = sz)
    (hF : ∀ k, (F k).length = sz) (v : Value) (n : Nat) (hs : a.eval s = v) (h : Lot w sz v n n F) (hl : LabV f v l) (xv : Value) (m : Nat) (news : List Value) (hx : a.eval x = xv) (hsrc : Src P sz tx xv m news w)
    (hn : ∀ k, k < m → ∀ c, c < sz → news[k * sz + c]? = (F (n + k))[c]?) (hm : 0 < m) (h63 : n + m ≤ maxLen) (h47 : (n + m) * bytes ≤ 140737488355328)
    (hK : ∀ g cap w', Lot w' sz (.slice (some ⟨g, 0, none⟩) (n + m) cap) (n + m) (n + m) F → relab f w l g = l → Wrote f (relab f w l) l sz F w w' → K (a.put o.dst (.slice (some ⟨g, 0, none⟩) (n + m) cap)) w') : o.wp P a w K Q := by
  obtain ⟨g, cap, w', hr, h2, h3, h4⟩ := Lot.append (P := P) (ty := o.type) (tx := tx) ht hi hz hsz hby hzs hF h hl hsrc hn hm h63 h47
  unfold Oper.wp execOp
  simp only [ho, resolve, invoke, builtin, Sem.run_bind, Sem.run_pure, Result.andThen_ok, List.map_toArray, List.map_cons, List.map_nil, hs, hx, hr]
  exact hK _ _ _ h2 h3 h4
theorem wpList_append_lot {ops : Array Oper} {rest : List Oper} (hgd : o.guard = none) (s x : Operand) (t tx : TypeId) (ho : o.op = .call { callee := .builtin .append, args := #[s, x], argTypes := #[t, tx] })
    (f : Nat → Lab) (l : Lab) (F : Nat → List Value) (e : TypeId) (i : TypeInfo) (z : Value) (sz bytes : Nat) (ht : P.underlying t = some (.slice e)) (hi : P.info? e = some i) (hz : i.zero = some z) (hsz : i.size = sz) (hby : i.bytes = bytes) (hzs : z.cells.size = sz)
    (hF : ∀ k, (F k).length = sz) (v : Value) (n : Nat) (hs : a.eval s = v) (h : Lot w sz v n n F) (hl : LabV f v l) (xv : Value) (m : Nat) (news : List Value) (hx : a.eval x = xv) (hsrc : Src P sz tx xv m news w)
    (hn : ∀ k, k < m → ∀ c, c < sz → news[k * sz + c]? = (F (n + k))[c]?) (hm : 0 < m) (h63 : n + m ≤ maxLen) (h47 : (n + m) * bytes ≤ 140737488355328)
    (hK : ∀ g cap w', Lot w' sz (.slice (some ⟨g, 0, none⟩) (n + m) cap) (n + m) (n + m) F → relab f w l g = l → Wrote f (relab f w l) l sz F w w' → wpList P ops Q rest (a.put o.dst (.slice (some ⟨g, 0, none⟩) (n + m) cap)) w') : wpList P ops Q (o :: rest) a w :=
  wpList_plain hgd fun _ hk => wp_append_lot s x t tx ho f l F e i z sz bytes ht hi hz hsz hby hzs hF v n hs h hl xv m news hx hsrc hn hm h63 h47 fun g cap w' h2 h3 h4 => hk _ _ (hK g cap w' h2 h3 h4)
theorem step_append_lot {ops : Array Oper} {K : Act → World → Prop} {E : Prop} (hgd : o.guard = none) (s x : Operand) (t tx : TypeId) (ho : o.op = .call { callee := .builtin .append, args := #[s, x], argTypes := #[t, tx] })
    (f : Nat → Lab) (l : Lab) (F : Nat → List Value) (e : TypeId) (i : TypeInfo) (z : Value) (sz bytes : Nat) (ht : P.underlying t = some (.slice e)) (hi : P.info? e = some i) (hz : i.zero = some z) (hsz : i.size = sz) (hby : i.bytes = bytes) (hzs : z.cells.size = sz)
    (hF : ∀ k, (F k).length = sz) (v : Value) (n : Nat) (hs : a.eval s = v) (h : Lot w sz v n n F) (hl : LabV f v l) (xv : Value) (m : Nat) (news : List Value) (hx : a.eval x = xv) (hsrc : Src P sz tx xv m news w)
    (hn : ∀ k, k < m → ∀ c, c < sz → news[k * sz + c]? = (F (n + k))[c]?) (hm : 0 < m) (h63 : n + m ≤ maxLen) (h47 : (n + m) * bytes ≤ 140737488355328)
    (hK : ∀ g cap w', Lot w' sz (.slice (some ⟨g, 0, none⟩) (n + m) cap) (n + m) (n + m) F → relab f w l g = l → Wrote f (relab f w l) l sz F w w' → K (a.put o.dst (.slice (some ⟨g, 0, none⟩) (n + m) cap)) w') :
    if Region.wanted o (yielded ops a.tmps) = true then Oper.wp P o a w K Q else E := by
  have hw : Region.wanted o (yielded ops a.tmps) = true := by simp [Region.wanted, hgd]
  rw [if_pos hw]
  exact wp_append_lot s x t tx ho f l F e i z sz bytes ht hi hz hsz hby hzs hF v n hs h hl xv m news hx hsrc hn hm h63 h47 hK
end
end

theorem OnlyL.undrew {f f1 : Nat → Lab} {P : Lab → Prop} {w w1 : World} (h : OnlyL f f1 P w.drew w1) : OnlyL f f1 P w w1 := ⟨h.os, h.tape, h.output, h.size, h.block, h.lab, h.fresh⟩
theorem Wrote.undrew {f f1 : Nat → Lab} {l : Lab} {sz : Nat} {F : Nat → List Value} {w w1 : World} (h : Wrote f f1 l sz F w.drew w1) : Wrote f f1 l sz F w w1 := ⟨h.only.undrew, h.there, h.frozen, h.conf⟩
theorem Lot.drew {w : World} {sz n m : Nat} {v : Value} {F : Nat → List Value} (h : Lot w sz v n m F) : Lot w.drew sz v n m F := by
  rcases h with h0 | ⟨g, cap, rfl, hmn, h⟩
  · exact .inl h0
  · exact .inr ⟨g, cap, rfl, hmn, h.room, h.small, h.lt, h.there, h.cells⟩
theorem OnlyL.cell {f f1 : Nat → Lab} {P : Lab → Prop} {w w1 : World} (h : OnlyL f f1 P w w1) {g j : Nat} {u : Value} (hc : w.cell? ⟨g, j, none⟩ = some u) (hn : ¬ P (f g)) : w1.cell? ⟨g, j, none⟩ = some u :=
  (World.cell?_of_block (a := ⟨g, j, none⟩) (h.block g (World.block_lt_of_cell? w _ hc) hn)).trans hc
theorem cell_alloc {w : World} {p : Addr} {u : Value} (h : w.cell? p = some u) (o : Obj) : (w.alloc o).cell? p = some u :=
  (World.cell?_of_block (Below.heap_alloc w o p.block (World.block_lt_of_cell? w p h))).trans h
section
variable {w : World} {P : Program} {Q : Exit → Act → World → Prop} {a : Act} {o : Oper}
end
theorem Lot.empty {w : World} {sz g : Nat} {F : Nat → List Value} (h : g < w.heap.size) : Lot w sz (.slice (some ⟨g, 0, none⟩) 0 0) 0 0 F :=
  .inr ⟨g, 0, rfl, Nat.le_refl _, Nat.le_refl _, Nat.zero_le _, h, fun j hj => by rw [Nat.zero_mul] at hj; omega, fun k hk => by omega⟩

/-- the elements of a row of lists -/
def rowF (vs : List Value) (k : Nat) : List Value := [vs.getD k undef]
theorem rowF_length (vs : List Value) (k : Nat) : (rowF vs k).length = 1 := rfl
/-- a row of lists -/
structure RowL (w : World) (f : Nat → Lab) (l : Lab) (v : Value) (vs : List Value) : Prop where
  lot : Lot w 1 v vs.length vs.length (rowF vs)
  lab : LabV f v l
/-- its lists -/
def LotsAt (w : World) (f : Nat → Lab) (kd sz : Nat) (vs : List Value) (ns ms : Nat → Nat) (F : Nat → Nat → List Value) : Prop :=
  ∀ i u, vs[i]? = some u → Lot w sz u (ns i) (ms i) (F i) ∧ LabV f u (kd, i)

section
variable {w w1 : World} {f f1 : Nat → Lab} {P : Lab → Prop} {l : Lab} {v : Value} {vs : List Value} {kd sz n m : Nat} {ns ms : Nat → Nat} {F : Nat → Nat → List Value} {F' : Nat → List Value}
theorem RowL.nil (w : World) (f : Nat → Lab) (l : Lab) : RowL w f l (.slice none 0 0) [] := ⟨.inl ⟨rfl, rfl, rfl⟩, fun g hg => by cases hg⟩
theorem RowL.of_append {g c : Nat} {u : Value} (h : Lot w 1 (.slice (some ⟨g, 0, none⟩) (vs.length + 1) c) (vs.length + 1) (vs.length + 1) (rowF (vs ++ [u]))) (hl : f g = l) : RowL w f l (.slice (some ⟨g, 0, none⟩) (vs.length + 1) c) (vs ++ [u]) :=
  ⟨by rw [List.length_append]; exact h, fun g' hg => by injection hg with hg; rw [← hg]; exact hl⟩
theorem LabV.of_eq {g n c : Nat} (h : f g = l) : LabV f (.slice (some ⟨g, 0, none⟩) n c) l := fun g' hg => by injection hg with hg; rw [← hg]; exact h
theorem RowL.more (h : RowL w f l v vs) (u : Value) : Lot w 1 v vs.length vs.length (rowF (vs ++ [u])) :=
  h.lot.congr (fun j hj => by unfold rowF; rw [List.getD_eq_getElem?_getD, List.getD_eq_getElem?_getD, List.getElem?_append_left hj])
theorem rowF_last (vs : List Value) (u : Value) : rowF (vs ++ [u]) vs.length = [u] := by unfold rowF; rw [List.getD_eq_getElem?_getD, List.getElem?_append_right (Nat.le_refl _), Nat.sub_self]; rfl
theorem RowL.apart (h : RowL w f l v vs) (ho : OnlyL f f1 P w w1) (hn : ¬ P l) : RowL w1 f1 l v vs := ⟨h.lot.apart ho h.lab hn, h.lab.on ho h.lot.lt⟩
theorem RowL.at (h : RowL w f l v vs) {i : Nat} {u : Value} (hu : vs[i]? = some u) : ∃ g cap, v = .slice (some ⟨g, 0, none⟩) vs.length cap ∧ w.cell? ⟨g, i, none⟩ = some u ∧ f g = l := by
  have hi := (List.getElem?_eq_some_iff.1 hu).1
  rcases h.lot with ⟨_, h0, _⟩ | ⟨g, cap, hv, _, ha⟩
  · omega
  · refine ⟨g, cap, hv, ?_, h.lab g (by rw [hv]; rfl)⟩
    have := ha.cells i hi 0 u (by unfold rowF; rw [List.getD_eq_getElem?_getD, hu]; rfl)
    rwa [Nat.mul_one, Nat.add_zero] at this
theorem RowL.form (h : RowL w f l v vs) : ∃ A c, v = .slice A vs.length c := h.lot.form
theorem Lot.at (h : Lot w sz v n m F') {k c : Nat} {u : Value} (hk : k < m) (hu : (F' k)[c]? = some u) : ∃ g cap, v = .slice (some ⟨g, 0, none⟩) n cap ∧ w.cell? ⟨g, k * sz + c, none⟩ = some u := by
  rcases h with ⟨_, _, h0⟩ | ⟨g, cap, hv, _, ha⟩
  · omega
  · exact ⟨g, cap, hv, ha.cells k hk c u hu⟩
theorem LotsAt.apart (h : LotsAt w f kd sz vs ns ms F) (ho : OnlyL f f1 P w w1) (hn : ∀ i, ¬ P (kd, i)) : LotsAt w1 f1 kd sz vs ns ms F := fun i u hu => by
  obtain ⟨h1, h2⟩ := h i u hu
  exact ⟨h1.apart ho h2 (hn i), h2.on ho h1.lt⟩
theorem LotsAt.nil (w : World) (f : Nat → Lab) (kd sz : Nat) (ns ms : Nat → Nat) (F : Nat → Nat → List Value) : LotsAt w f kd sz [] ns ms F := fun i u hu => by simp at hu
theorem LotsAt.conf {i : Nat} (h : LotsAt w f kd sz vs ns ms F) (hF : ∀ i k, (F i k).length = sz) (hw : Wrote f f1 (kd, i) sz (F i) w w1) : LotsAt w1 f1 kd sz vs ns ms F := fun j u hu => by
  obtain ⟨h1, h2⟩ := h j u hu
  refine ⟨?_, h2.on hw.only h1.lt⟩
  by_cases hj : j = i
  · subst hj; exact h1.conf (hF j) hw
  · exact h1.apart hw.only h2 (fun e => hj (by injection e))
theorem LotsAt.snoc (h : LotsAt w f kd sz vs ns ns F) {u : Value} (h1 : Lot w sz u (ns vs.length) (ns vs.length) (F vs.length)) (h2 : LabV f u (kd, vs.length)) : LotsAt w f kd sz (vs ++ [u]) ns ns F := fun j x hx => by
  rcases Nat.lt_or_ge j vs.length with hj | hj
  · rw [List.getElem?_append_left hj] at hx; exact h j x hx
  · rw [List.getElem?_append_right hj] at hx
    have hj0 : j - vs.length = 0 := by
      have := (List.getElem?_eq_some_iff.1 hx).1
      simp at this; omega
    rw [hj0] at hx
    have hxu : u = x := by simpa using hx
    subst hxu
    have : j = vs.length := by omega
    subst this
    exact ⟨h1, h2⟩
end

/-- the lists of a kind, and its rows -/
def OnK (kd : Nat) (l : Lab) : Prop := l = (1, 0) ∨ l.1 = kd ∨ l.1 = 10 + kd

/-- the lists ahead of i are full, and of list i so many places -/
structure Fill (w : World) (f : Nat → Lab) (tb : TypeId) (bk : Nat) (arr : Array Value) (kd sz : Nat) (F : Nat → Nat → List Value) (b0 : Value) (vs : List Value) (ns : Nat → Nat) (i k : Nat) (wr : World) : Prop where
  blk : Blk wr bk tb arr
  row : RowL wr f (10 + kd, 0) b0 vs
  lots : LotsAt wr f kd sz vs ns (fun j => if j < i then ns j else if j = i then k else 0) F
  only : OnlyL f f (OnK kd) w wr

section
variable {w wr : World} {f : Nat → Lab} {tb : TypeId} {bk : Nat} {arr : Array Value} {kd sz : Nat} {F : Nat → Nat → List Value} {b0 : Value} {vs : List Value} {ns : Nat → Nat} {i k : Nat}
theorem Fill.next (h : Fill w f tb bk arr kd sz F b0 vs ns i (ns i) wr) : Fill w f tb bk arr kd sz F b0 vs ns (i + 1) 0 wr :=
  ⟨h.blk, h.row, by
    have := h.lots
    intro j u hu
    obtain ⟨h1, h2⟩ := this j u hu
    refine ⟨?_, h2⟩
    have e : (if j < i then ns j else if j = i then ns i else 0) = (if j < i + 1 then ns j else if j = i + 1 then 0 else 0) := by
      by_cases hj : j < i
      · rw [if_pos hj, if_pos (by omega)]
      · by_cases hji : j = i
        · subst hji; rw [if_neg hj, if_pos rfl, if_pos (by omega)]
        · rw [if_neg hj, if_neg hji, if_neg (by omega)]; split <;> rfl
    dsimp only
    rw [← e]; exact h1, h.only⟩
theorem Fill.put (h : Fill w f tb bk arr kd sz F b0 vs ns i k wr) (hF : ∀ i k, (F i k).length = sz) (hs : f bk = (1, 0)) (hkd : kd ≠ 1) {g cap : Nat} (hu : vs[i]? = some (.slice (some ⟨g, 0, none⟩) (ns i) cap)) (hk : k < ns i) {news : List Value} (hn : news = F i k) :
    Fill w f tb bk arr kd sz F b0 vs ns i (k + 1) (wr.setCells g (k * sz) news) := by
  obtain ⟨h1, h2⟩ := h.lots i _ hu
  have hgl := h2 g rfl
  dsimp only at h1
  rw [if_neg (Nat.lt_irrefl i), if_pos rfl] at h1
  rcases h1 with ⟨h0, _⟩ | ⟨g', cap', he, hkn, ha⟩
  · cases h0
  · injection he with he1 _ he3; injection he1 with he1; injection he1 with he1; subst he1; subst he3
    have hrm := ha.room
    obtain ⟨hp, hw⟩ := ha.put (f := f) (l := (kd, i)) (news := news) (hF i) (by omega) hn hgl
    have ho := hw.only
    have hbk : bk ≠ g := fun e => by rw [e, hgl] at hs; injection hs with hs; exact hkd hs
    refine ⟨?_, h.row.apart ho (fun e => by injection e with e _; omega), fun j u hj => ?_, h.only.trans (ho.mono fun l hl => by subst hl; exact .inr (.inl rfl))⟩
    · exact h.blk.same (World.heap_setCells_other wr g _ _ h.blk.lt hbk)
    · by_cases hji : j = i
      · subst hji
        rw [hu] at hj; injection hj with hj; subst hj
        dsimp only
        rw [if_neg (Nat.lt_irrefl j), if_pos rfl]
        exact ⟨.inr ⟨g, cap, rfl, by omega, hp⟩, h2⟩
      · obtain ⟨h3, h4⟩ := h.lots j u hj
        have : (if j < i then ns j else if j = i then k + 1 else 0) = (if j < i then ns j else if j = i then k else 0) := by rw [if_neg hji, if_neg hji]
        dsimp only
        rw [this]
        exact ⟨h3.apart ho h4 (fun e => hji (by injection e)), h4⟩
end

/-- lists that are full, what was grown out of them one place at a time, and by many -/
structure Shut (w : World) (f : Nat → Lab) (tb : TypeId) (bk : Nat) (arr : Array Value) (kd sz j0 j1 j2 : Nat) (F : Nat → Nat → List Value) (b0 : Value) (vs : List Value) (ns : Nat → Nat) (arr' : Array Value) (b1 : Value) (os : List Value) (b2 : Value) (ms : List Value) (f1 : Nat → Lab) (wr : World) : Prop where
  blk : Blk wr bk tb arr'
  self : f1 bk = (1, 0)
  row : RowL wr f1 (10 + kd, 0) b0 vs
  lots : LotsAt wr f1 kd sz vs ns ns F
  one : RowL wr f1 (10 + kd, 2) b1 os
  ones : LotsAt wr f1 kd sz os (fun j => ns j + 16) (fun j => ns j + 16) F
  many : RowL wr f1 (10 + kd, 3) b2 ms
  manys : LotsAt wr f1 kd sz ms (fun j => ns j + 700) (fun j => ns j + 700) F
  only : OnlyL f f1 (OnK kd) w wr
  a0 : arr'[j0]? = some b0
  a1 : arr'[j1]? = some b1
  a2 : arr'[j2]? = some b2
  asz : arr'.size = arr.size
  ars : ∀ j, j ≠ j1 → j ≠ j2 → arr'[j]? = arr[j]?

section
variable {w wr w2 : World} {f f1 f2 : Nat → Lab} {tb : TypeId} {bk : Nat} {arr arr' : Array Value} {kd sz j0 j1 j2 : Nat} {F : Nat → Nat → List Value} {b0 b1 b2 : Value} {vs os ms : List Value} {ns : Nat → Nat}
theorem Shut.lt (h : Shut w f tb bk arr kd sz j0 j1 j2 F b0 vs ns arr' b1 os b2 ms f1 wr) : bk < wr.heap.size := h.blk.lt
theorem Shut.lot (h : Shut w f tb bk arr kd sz j0 j1 j2 F b0 vs ns arr' b1 os b2 ms f1 wr) (hF : ∀ i k, (F i k).length = sz) (hkd : kd ≠ 1) {i : Nat} (hw : Wrote f1 f2 (kd, i) sz (F i) wr w2) : Shut w f tb bk arr kd sz j0 j1 j2 F b0 vs ns arr' b1 os b2 ms f2 w2 :=
  ⟨h.blk.same (hw.only.block bk h.lt (by rw [h.self]; exact fun e => hkd (by injection e with e _; exact e.symm))), by rw [hw.only.lab bk h.lt]; exact h.self, h.row.apart hw.only (fun e => by injection e with e _; omega), h.lots.conf hF hw,
    h.one.apart hw.only (fun e => by injection e with e _; omega), h.ones.conf hF hw, h.many.apart hw.only (fun e => by injection e with e _; omega), h.manys.conf hF hw, h.only.trans (hw.only.mono fun l hl => by subst hl; exact .inr (.inl rfl)), h.a0, h.a1, h.a2, h.asz, h.ars⟩
end
end Go.Proofs.YtnbeeehfapjpdaaGreatDoor
end
section
namespace Go.Proofs.YtnbeeehfapjpdaaGreatDoor
attribute [local go_sem ↓] Go.wp_at_zero Go.wp_at_succ
open Go.RowKit

/-- the elements of bytes, of texts -/
def byteF (l : Sp.Bs) (k : Nat) : List Value := [.int .u8 (l.getD k 0).toNat]
def textF (l : List Sp.Bs) (k : Nat) : List Value := [str (l.getD k [])]
theorem byteF_length (l : Sp.Bs) (k : Nat) : (byteF l k).length = 1 := rfl
abbrev LotB (w : World) (v : Value) (l : Sp.Bs) : Prop := Lot w 1 v l.length l.length (byteF l)
abbrev LotT (w : World) (v : Value) (l : List Sp.Bs) : Prop := Lot w 1 v l.length l.length (textF l)
theorem LotB.row {w : World} {A : Option Addr} {n c : Nat} {l : Sp.Bs} (h : LotB w (.slice A n c) l) : RowAt w A (bytesV l) := by
  rcases h with ⟨h1, h2, _⟩ | ⟨g, cap, h1, _, ha⟩
  · injection h1 with h1 _ _
    subst h1
    left
    rw [List.eq_nil_of_length_eq_zero h2]; rfl
  · injection h1 with h1 _ _
    subst h1
    refine .inr ⟨g, 0, rfl, ha.lt, fun j u hu => ?_⟩
    have hj : j < l.length := by have := (List.getElem?_eq_some_iff.1 hu).1; simpa [bytesV] using this
    have := ha.cells j hj 0 (.int .u8 (l.getD j 0).toNat) rfl
    rw [Nat.mul_one, Nat.add_zero] at this
    rw [Nat.zero_add, this]
    rw [← hu]
    simp [bytesV, List.getD_eq_getElem?_getD, List.getElem?_eq_getElem hj]
theorem LotT.row {w : World} {A : Option Addr} {n c : Nat} {l : List Sp.Bs} (h : LotT w (.slice A n c) l) : RowAt w A (l.map str) := by
  rcases h with ⟨h1, h2, _⟩ | ⟨g, cap, h1, _, ha⟩
  · injection h1 with h1 _ _
    subst h1
    left
    rw [List.eq_nil_of_length_eq_zero h2]; rfl
  · injection h1 with h1 _ _
    subst h1
    refine .inr ⟨g, 0, rfl, ha.lt, fun j u hu => ?_⟩
    have hj : j < l.length := by have := (List.getElem?_eq_some_iff.1 hu).1; simpa using this
    have := ha.cells j hj 0 (str (l.getD j [])) rfl
    rw [Nat.mul_one, Nat.add_zero] at this
    rw [Nat.zero_add, this]
    rw [← hu]
    simp [List.getD_eq_getElem?_getD, List.getElem?_eq_getElem hj]

/-- what the i-th kept list holds -/
def keptB (bs : List Sp.Bs) (i : Nat) : Nat → List Value := byteF (bs.getD i [])
def keptT (ts : List (List Sp.Bs)) (i : Nat) : Nat → List Value := textF (ts.getD i [])
def sizeB (bs : List Sp.Bs) (i : Nat) : Nat := (bs.getD i []).length
def sizeT (ts : List (List Sp.Bs)) (i : Nat) : Nat := (ts.getD i []).length
def sizeS (ls : List Nat) (i : Nat) : Nat := ls.getD i 0

def bookArr (b0 b1 t0 t1 s0 : Value) (n : Int) : Array Value :=
  #[b0, b1, nilRow, nilRow, nilRow, nilRow, nilRow, nilRow, t0, t1, nilRow, nilRow, nilRow, nilRow, nilRow, nilRow, nilRow, nilRow, nilRow, nilRow, nilRow, nilRow, s0, nilRow, nilRow, nilRow, .int .i64 n]

section
variable {w w1 : World} {f f1 : Nat → Lab} {P : Lab → Prop} {bk : Nat} {b0 b1 t0 t1 s0 : Value} {n : Int} {vs ws us xs ss : List Value} {bs : List Sp.Bs} {ts : List (List Sp.Bs)} {ls : List Nat}
/-- no label of the Book's -/
def NotBook (P : Lab → Prop) : Prop := ¬ P (1, 0) ∧ (∀ i, ¬ P (12, i) ∧ ¬ P (13, i) ∧ ¬ P (14, i)) ∧ ∀ i, ¬ P (2, i) ∧ ¬ P (22, i) ∧ ¬ P (3, i) ∧ ¬ P (23, i) ∧ ¬ P (4, i)
/-- what makes new memory alone leaves the Book as it was, whatever the new blocks' labels -/
theorem OnlyL.of_new (h : Below w.heap.size w w1) (hf : ∀ k, k < w.heap.size → f1 k = f k) (hP : ∀ k, w.heap.size ≤ k → k < w1.heap.size → P (f1 k)) : OnlyL f f1 P w w1 :=
  ⟨h.os, h.tape, h.output, h.size, fun k hk _ => h.block k hk, hf, hP⟩
end

theorem LotsAt.apart' {w w1 : World} {f f1 : Nat → Lab} {P : Lab → Prop} {vs : List Value} {kd sz : Nat} {ns ms : Nat → Nat} {F : Nat → Nat → List Value} (h : LotsAt w f kd sz vs ns ms F) (ho : OnlyL f f1 P w w1) (hn : ∀ i, i < vs.length → ¬ P (kd, i)) : LotsAt w1 f1 kd sz vs ns ms F := fun i u hu => by
  obtain ⟨h1, h2⟩ := h i u hu
  exact ⟨h1.apart ho h2 (hn i (List.getElem?_eq_some_iff.1 hu).1), h2.on ho h1.lt⟩
theorem LotsAt.eq {w : World} {f : Nat → Lab} {vs : List Value} {kd sz : Nat} {ns ms ns' ms' : Nat → Nat} {F F' : Nat → Nat → List Value} (h : LotsAt w f kd sz vs ns ms F) (hn : ∀ i, i < vs.length → ns' i = ns i ∧ ms' i = ms i ∧ F' i = F i) : LotsAt w f kd sz vs ns' ms' F' := fun i u hu => by
  obtain ⟨h1, h2⟩ := h i u hu
  obtain ⟨e1, e2, e3⟩ := hn i (List.getElem?_eq_some_iff.1 hu).1
  exact ⟨by rw [e1, e2, e3]; exact h1, h2⟩
theorem getD_snoc_old {α : Type} (l : List α) (x d : α) {i : Nat} (h : i < l.length) : (l ++ [x]).getD i d = l.getD i d := by
  rw [List.getD_eq_getElem?_getD, List.getD_eq_getElem?_getD, List.getElem?_append_left h]
theorem getD_snoc_new {α : Type} (l : List α) (x d : α) : (l ++ [x]).getD l.length d = x := by
  rw [List.getD_eq_getElem?_getD, List.getElem?_append_right (Nat.le_refl _), Nat.sub_self]; rfl
theorem LotsAt.takeB {w : World} {f : Nat → Lab} {vs : List Value} {kd : Nat} {bs : List Sp.Bs} {l : Sp.Bs} {v : Value} (h : LotsAt w f kd 1 vs (sizeB bs) (sizeB bs) (keptB bs)) (hl : vs.length = bs.length) (h1 : LotB w v l) (h2 : LabV f v (kd, bs.length)) :
    LotsAt w f kd 1 (vs ++ [v]) (sizeB (bs ++ [l])) (sizeB (bs ++ [l])) (keptB (bs ++ [l])) := by
  refine LotsAt.snoc (h.eq fun i hi => ?_) ?_ (by rw [hl]; exact h2)
  · rw [hl] at hi
    exact ⟨by unfold sizeB; rw [getD_snoc_old _ _ _ hi], by unfold sizeB; rw [getD_snoc_old _ _ _ hi], by unfold keptB; rw [getD_snoc_old _ _ _ hi]⟩
  · rw [hl]
    have e1 : sizeB (bs ++ [l]) bs.length = l.length := by unfold sizeB; rw [getD_snoc_new]
    have e2 : keptB (bs ++ [l]) bs.length = byteF l := by unfold keptB; rw [getD_snoc_new]
    rw [e1, e2]; exact h1
/-- what changes while a list of bytes is taken in: the Book, two rows, and the copy -/
def OnB1 (k : Nat) (l : Lab) : Prop := l = (1, 0) ∨ l = (12, 0) ∨ l = (12, 1) ∨ l = (22, k)
theorem onB1_not {k : Nat} {a b : Nat} (h1 : a ≠ 1) (h2 : a ≠ 12) (h3 : a = 22 → b ≠ k) : ¬ OnB1 k (a, b) := by
  rintro (h | h | h | h)
  · exact h1 (congrArg Prod.fst h)
  · exact h2 (congrArg Prod.fst h)
  · exact h2 (congrArg Prod.fst h)
  · exact h3 (congrArg Prod.fst h) (congrArg Prod.snd h)
theorem onB1_no {k : Nat} {a b : Nat} (h1 : a ≠ 1) (h2 : a ≠ 12) (h3 : a ≠ 22) : ¬ OnB1 k (a, b) := onB1_not h1 h2 (fun e => absurd e h3)
attribute [-go_sem] storeVar loadVar
theorem storeVar_intR (t : TypeId) (a : Addr) (k : IntKind) (n : Int) : type_of% (storeVar.eq_1 t a (.int k n)) := storeVar.eq_1 t a (.int k n)
theorem storeVar_sliceR (t : TypeId) (a : Addr) (p : Option Addr) (n c : Nat) : type_of% (storeVar.eq_1 t a (.slice p n c)) := storeVar.eq_1 t a (.slice p n c)
theorem loadVar_intR (a : Addr) : type_of% (loadVar.eq_1 3 a) := loadVar.eq_1 3 a
theorem loadVar_rowR (a : Addr) : type_of% (loadVar.eq_1 29 a) := loadVar.eq_1 29 a
theorem loadVar_rowsR (a : Addr) : type_of% (loadVar.eq_1 24 a) := loadVar.eq_1 24 a
theorem loadVar_textsR (a : Addr) : type_of% (loadVar.eq_1 27 a) := loadVar.eq_1 27 a
theorem loadVar_textssR (a : Addr) : type_of% (loadVar.eq_1 43 a) := loadVar.eq_1 43 a
attribute [local go_sem] storeVar_intR storeVar_sliceR loadVar_intR loadVar_rowR loadVar_rowsR loadVar_textsR loadVar_textssR
theorem info_u8R : (Tryz.prog.info? 5).map (fun i => (i.zero, i.size, i.bytes)) = some (some (.int .u8 0), 1, 1) := by kernel_rfl
theorem info_rowR : (Tryz.prog.info? 29).map (fun i => (i.zero, i.size, i.bytes)) = some (some (.slice none 0 0), 1, 24) := by kernel_rfl
theorem src_oneR (w : World) {tx e : TypeId} (ht : Tryz.prog.underlying tx = some (.slice e)) (u : Value) (h1 : u.oneCell' = true) (t : TypeId) : Src Tryz.prog 1 tx (.slice (some ⟨w.heap.size, 0, none⟩) 1 1) 1 [u] (w.alloc (.cells #[u] t)) :=
  Src.ofSlice _ ht _ 1 1 [u] rfl (cells_one w u t) (fun x hx => by rw [List.mem_singleton.1 hx]; exact h1)
theorem news_oneR {u : Value} {F : Nat → List Value} {n : Nat} (h : F n = [u]) : ∀ k, k < 1 → ∀ c, c < 1 → [u][k * 1 + c]? = (F (n + k))[c]? := fun k hk c hc => by
  obtain rfl : k = 0 := by omega
  obtain rfl : c = 0 := by omega
  show [u][0]? = (F n)[0]?
  rw [h]

end Go.Proofs.YtnbeeehfapjpdaaGreatDoor
end
