/- Held: lists of bytes that were told, and their copies. Held.Own: each list still holds what it was told with; then each is written full, and grown. Held.Add: one more list, and its copy. -/
import Derived.Test.YtnbeeehfapjpdaaGreatDoorQBk
import Derived.Test.YtnbeeehfapjpdaaGreatDoorQMp
import Derived.Test.YtnbeeehfapjpdaaGreatDoorPc
import Derived.Test.YtnbeeehfapjpdaaGreatDoorQKw
section
namespace Go.Proofs.YtnbeeehfapjpdaaGreatDoor
attribute [local go_sem ↓] Go.wp_at_zero Go.wp_at_succ
open Go.RowKit

def heldArr (g wv : Value) (n : Int) : Array Value := #[g, wv, .int .i64 n]
/-- what changes while lists are held -/
def OnH (l : Lab) : Prop := l = (1, 0) ∨ l.1 = 12 ∨ l.1 = 2 ∨ l.1 = 22
theorem onH_no {a b : Nat} (h1 : a ≠ 1) (h2 : a ≠ 12) (h3 : a ≠ 2) (h4 : a ≠ 22) : ¬ OnH (a, b) := by
  rintro (h | h | h | h)
  · exact h1 (congrArg Prod.fst h)
  · exact h2 h
  · exact h3 h
  · exact h4 h
theorem onB1_onH {k : Nat} {l : Lab} (h : OnB1 k l) : OnH l := by
  rcases h with h | h | h | h
  · exact .inl h
  · rw [h]; exact .inr (.inl rfl)
  · rw [h]; exact .inr (.inl rfl)
  · rw [h]; exact .inr (.inr (.inr rfl))
/-- Held in block hk: its rows, and the lists that it keeps -/
structure HeldAt (w : World) (f : Nat → Lab) (hk : Nat) (g wv : Value) (n : Int) (vs ws : List Value) (bs : List Sp.Bs) : Prop where
  blk : Blk w hk 26 (heldArr g wv n)
  self : f hk = (1, 0)
  row0 : RowL w f (12, 0) g vs
  row1 : RowL w f (12, 1) wv ws
  len0 : vs.length = bs.length
  len1 : ws.length = bs.length
  lots0 : LotsAt w f 2 1 vs (sizeB bs) (sizeB bs) (keptB bs)
  lots1 : LotsAt w f 22 1 ws (sizeB bs) (sizeB bs) (keptB bs)
  n0 : 0 ≤ n
  n1 : n ≤ 4000000000
  few : bs.length ≤ 250
  big : ∀ b ∈ bs, b.length ≤ 1000000000

section
variable {w w1 : World} {f f1 : Nat → Lab} {P : Lab → Prop} {hk : Nat} {g wv : Value} {n : Int} {vs ws : List Value} {bs : List Sp.Bs}
theorem HeldAt.apart (h : HeldAt w f hk g wv n vs ws bs) (ho : OnlyL f f1 P w w1) (hn : ∀ l, P l → ¬ OnH l) : HeldAt w1 f1 hk g wv n vs ws bs :=
  { h with
    blk := h.blk.same (ho.block hk h.blk.lt (by rw [h.self]; exact fun hp => hn _ hp (.inl rfl)))
    self := by rw [ho.lab hk h.blk.lt]; exact h.self
    row0 := h.row0.apart ho (fun hp => hn _ hp (.inr (.inl rfl)))
    row1 := h.row1.apart ho (fun hp => hn _ hp (.inr (.inl rfl)))
    lots0 := h.lots0.apart ho (fun i hp => hn _ hp (.inr (.inr (.inl rfl))))
    lots1 := h.lots1.apart ho (fun i hp => hn _ hp (.inr (.inr (.inr rfl)))) }
theorem HeldAt.later (h : HeldAt w f hk g wv n vs ws bs) (hb : Below w.heap.size w w1) (hf : ∀ k, k < w.heap.size → f1 k = f k) : HeldAt w1 f1 hk g wv n vs ws bs := by
  have ho : OnlyL f f1 (fun _ => True) w w1 := OnlyL.of_new hb hf (fun _ _ _ => trivial)
  have ho2 : OnlyL f (fun k => if k < w.heap.size then f1 k else (0, 0)) (· = (0, 0)) w w1 := OnlyL.of_new hb (fun k hk => by rw [if_pos hk]; exact hf k hk) (fun k hk _ => by rw [if_neg (by omega)])
  have h2 := h.apart ho2 (fun l hl => by rw [hl]; exact onH_no (by decide) (by decide) (by decide) (by decide))
  have hR : ∀ {l v zs}, RowL w f l v zs → RowL w1 f1 l v zs := fun hr => ⟨hr.lot.later hb, hr.lab.on ho hr.lot.lt⟩
  have hL : ∀ {kd sz zs ns ms} {F : Nat → Nat → List Value}, LotsAt w f kd sz zs ns ms F → LotsAt w1 f1 kd sz zs ns ms F := fun hl i u hu => by
    obtain ⟨g1, g2⟩ := hl i u hu
    exact ⟨g1.later hb, g2.on ho g1.lt⟩
  exact { h with
    blk := h.blk.later hb
    self := by rw [hf hk h.blk.lt]; exact h.self
    row0 := hR h.row0
    row1 := hR h.row1
    lots0 := hL h.lots0
    lots1 := hL h.lots1 }
theorem HeldAt.new (w : World) (f : Nat → Lab) (hf : f w.heap.size = (1, 0)) : HeldAt (w.alloc (.cells (heldArr nilRow nilRow 0) 26)) f w.heap.size nilRow nilRow 0 [] [] [] :=
  ⟨Blk.new w _ _, hf, RowL.nil _ _ _, RowL.nil _ _ _, rfl, rfl, LotsAt.nil _ _ _ _ _ _ _, LotsAt.nil _ _ _ _ _ _ _, Int.le_refl _, by decide, by decide, by simp⟩
theorem HeldAt.onBytes {g' wv' v x : Value} {l : Sp.Bs} {hk : Nat}
    (h : HeldAt w f hk g wv n vs ws bs) (hl : LotB w v l) (hv : LabV f v (2, bs.length)) (hlen : l.length ≤ 1000000000) (hn : n < 2097152) (hf : bs.length < 250) (ho : OnlyL f f1 (OnB1 bs.length) w w1)
    (hblk : Blk w1 hk 26 (heldArr g' wv' (n + l.length + 140))) (hr0 : RowL w1 f1 (12, 0) g' (vs ++ [v])) (hr1 : RowL w1 f1 (12, 1) wv' (ws ++ [x])) (hx : LotB w1 x l) (hxl : LabV f1 x (22, bs.length)) :
    HeldAt w1 f1 hk g' wv' (n + l.length + 140) (vs ++ [v]) (ws ++ [x]) (bs ++ [l]) :=
  { blk := hblk
    self := by rw [ho.lab hk h.blk.lt]; exact h.self
    row0 := hr0
    row1 := hr1
    len0 := by rw [List.length_append, List.length_append, h.len0]; rfl
    len1 := by rw [List.length_append, List.length_append, h.len1]; rfl
    lots0 := (h.lots0.apart ho (fun i => onB1_no (by decide) (by decide) (by decide))).takeB h.len0 (hl.apart ho hv (onB1_no (by decide) (by decide) (by decide))) (hv.on ho hl.lt)
    lots1 := (h.lots1.apart' ho (fun i hi => onB1_not (by decide) (by decide) (fun _ => by rw [h.len1] at hi; omega))).takeB h.len1 hx hxl
    n0 := by have := h.n0; omega
    n1 := by omega
    few := by rw [List.length_append, List.length_singleton]; omega
    big := fun b hb => by
      rcases List.mem_append.1 hb with hb | hb
      · exact h.big b hb
      · rw [List.mem_singleton.1 hb]; exact hlen }
end

/-- the mark of list i at place k -/
def ownV (i k : Nat) : Int := if k % 2 = 0 then (i : Int) % 256 else ((i : Int) + k + 100) % 256
def markH (i k : Nat) : List Value := [.int .u8 (ownV i k)]
theorem markH_length (i k : Nat) : (markH i k).length = 1 := rfl
theorem own01_any (i k : Nat) (hi : i ≤ 1000) (hk : k ≤ 2000000000) (w : World) : Calls Tryz.prog 61 #[.int .i64 i, .int .i64 k] w fun e w' => e = .returned (.int .u8 (ownV i k)) ∧ w = w' := by
  unfold ownV
  by_cases h : k % 2 = 0
  · rw [if_pos h]
    have h1 : (k : Int) % 2 = 0 := by omega
    clear h
    go_enter Tryz.func61, Tryz.ntmps61
    go_wp2_with fail
    go_ret
    exact ⟨by simp, rfl⟩
  · rw [if_neg h]
    have h1 : (k : Int) % 2 = 1 := by omega
    clear h
    go_enter Tryz.func61, Tryz.ntmps61
    go_wp2_with fail
    go_ret
    exact ⟨by simp, rfl⟩
set_option maxHeartbeats 4000000 in
set_option maxRecDepth 100000 in
theorem marked_any {w : World} {A : Option Addr} {n c i : Nat} (hi : i ≤ 1000) (hn : n ≤ 1500000000) (h : Lot w 1 (.slice A n c) n n (markH i)) :
    Calls Tryz.prog 62 #[.slice A n c, .int .i64 i] w fun e w' => e = .returned (.bool true) ∧ Below w.heap.size w w' ∧ w'.heap.size = w.heap.size := by
  have H := Lib.hid h
  have HOWN := Lib.hid (fun (k : Nat) (hk : k ≤ 2000000000) (W : World) => own01_any i k hi hk W)
  clear h
  go_enter Tryz.func62, Tryz.ntmps62
  go_wp2_with fail
  go_loopw [5] (fun kv wr => ∃ k : Nat, k ≤ n ∧ kv = .int .i64 k ∧ Below w.heap.size w wr ∧ wr.heap.size = w.heap.size) (fun kv _ => n - (intOf kv).toNat)
  case atStart => exact ⟨0, Nat.zero_le _, rfl, Below.refl _ _, rfl⟩
  case round =>
    obtain ⟨k, hk, rfl, hb, hs⟩ := hrel
    by_cases hlk : k < n
    · have hk1 : (k : Int) < (n : Int) := by omega
      obtain ⟨g1, c1, e1, z1⟩ := (H.out.later hb).at (k := k) (c := 0) (u := .int .u8 (ownV i k)) hlk rfl
      rw [Nat.mul_one, Nat.add_zero] at z1
      injection e1 with e1 _ e3
      subst e1 e3
      have hk9 : k ≤ 2000000000 := by omega
      have HB := Lib.hid hb
      have HS := Lib.hid hs
      clear hb hs hlk
      have z1d : wr.drew.cell? ⟨g1, k, none⟩ = some (.int .u8 (ownV i k)) := z1
      go_wp2_with fail
      go_region_law (go_simp; go_at_call 61; refine (HOWN.out k hk9 _).mono ?_; rintro e w2 ⟨rfl, rfl⟩)
      all_goals
        go_wp2_with fail
        exact ⟨⟨k + 1, by omega, by go_num, below_drewN' HB.out _, HS.out⟩, by show n - ((k : Int) + 1).toNat < n - (k : Int).toNat; omega⟩
    · have hk1 : decide ((k : Int) < (n : Int)) = false := decide_eq_false (by omega)
      have hk2 : decide (k < n) = false := decide_eq_false hlk
      have HB := Lib.hid hb
      have HS := Lib.hid hs
      clear hb hs hlk
      go_wp2_with fail
      go_ret
      exact ⟨rfl, HB.out, HS.out⟩
end Go.Proofs.YtnbeeehfapjpdaaGreatDoor
end
section
namespace Go.Proofs.YtnbeeehfapjpdaaGreatDoor
attribute [local go_sem ↓] Go.wp_at_zero Go.wp_at_succ
open Go.RowKit

section
variable {w wr w2 : World} {f f1 f2 : Nat → Lab} {hk : Nat} {arr : Array Value} {g fv lv : Value} {vs fs ls : List Value} {ns : Nat → Nat} {P : Lab → Prop}
theorem OnlyL.drew (h : OnlyL f f1 P w wr) : OnlyL f f1 P w wr.drew := ⟨h.os, h.tape, h.output, h.size, h.block, h.lab, h.fresh⟩
theorem RowL.drew {l : Lab} {v : Value} (h : RowL wr f l v vs) : RowL wr.drew f l v vs := ⟨h.lot.drew, h.lab⟩
theorem LotsAt.drew {kd sz : Nat} {ms : Nat → Nat} {F : Nat → Nat → List Value} (h : LotsAt wr f kd sz vs ns ms F) : LotsAt wr.drew f kd sz vs ns ms F := fun i u hu => ⟨(h i u hu).1.drew, (h i u hu).2⟩
theorem cell_belowH {p : Addr} {u : Value} (h : w.cell? p = some u) (hb : Below w.heap.size w wr) : wr.cell? p = some u := by
  rw [hb.cell (World.block_lt_of_cell? w _ h)]; exact h
theorem RowL.later {l : Lab} {v : Value} (h : RowL w f l v vs) (hb : Below w.heap.size w wr) : RowL wr f l v vs := ⟨h.lot.later hb, h.lab⟩
theorem Fill.drew {tb : TypeId} {kd sz i k : Nat} {F : Nat → Nat → List Value} {b0 : Value} (h : Fill w f tb hk arr kd sz F b0 vs ns i k wr) : Fill w f tb hk arr kd sz F b0 vs ns i k wr.drew := ⟨h.blk.drew, h.row.drew, h.lots.drew, h.only.drew⟩

/-- lists that are full, what they were when one place was grown, and all -/
structure Grown (w : World) (f : Nat → Lab) (hk : Nat) (arr : Array Value) (g : Value) (vs : List Value) (ns : Nat → Nat) (fv : Value) (fs : List Value) (lv : Value) (ls : List Value) (f1 : Nat → Lab) (wr : World) : Prop where
  blk : Blk wr hk 26 arr
  self : f1 hk = (1, 0)
  row : RowL wr f1 (12, 0) g vs
  lots : LotsAt wr f1 2 1 vs ns ns markH
  one : RowL wr f1 (12, 2) fv fs
  ones : LotsAt wr f1 2 1 fs (fun j => ns j + 1) (fun j => ns j + 1) markH
  many : RowL wr f1 (12, 3) lv ls
  manys : LotsAt wr f1 2 1 ls (fun j => ns j + 70) (fun j => ns j + 70) markH
  only : OnlyL f f1 (OnK 2) w wr
theorem Grown.drew (h : Grown w f hk arr g vs ns fv fs lv ls f1 wr) : Grown w f hk arr g vs ns fv fs lv ls f1 wr.drew := ⟨h.blk.drew, h.self, h.row.drew, h.lots.drew, h.one.drew, h.ones.drew, h.many.drew, h.manys.drew, h.only.drew⟩
theorem Grown.lot (h : Grown w f hk arr g vs ns fv fs lv ls f1 wr) {i : Nat} (hw : Wrote f1 f2 (2, i) 1 (markH i) wr w2) : Grown w f hk arr g vs ns fv fs lv ls f2 w2 :=
  ⟨h.blk.same (hw.only.block hk h.blk.lt (by rw [h.self]; exact lab_ne (by decide))), by rw [hw.only.lab hk h.blk.lt]; exact h.self, h.row.apart hw.only (lab_ne (by decide)), h.lots.conf markH_length hw, h.one.apart hw.only (lab_ne (by decide)), h.ones.conf markH_length hw,
    h.many.apart hw.only (lab_ne (by decide)), h.manys.conf markH_length hw, h.only.trans (hw.only.mono fun l hl => by subst hl; exact .inr (.inl rfl))⟩
theorem Grown.first (h : Grown w f hk arr g vs ns fv fs lv ls f1 wr) (ho : OnlyL f1 f2 (· = (12, 2)) wr w2) {fv' u : Value} (hr : RowL w2 f2 (12, 2) fv' (fs ++ [u])) (hl : Lot wr 1 u (ns fs.length + 1) (ns fs.length + 1) (markH fs.length)) (hv : LabV f1 u (2, fs.length)) :
    Grown w f hk arr g vs ns fv' (fs ++ [u]) lv ls f2 w2 :=
  ⟨h.blk.same (ho.block hk h.blk.lt (by rw [h.self]; exact lab_ne (by decide))), by rw [ho.lab hk h.blk.lt]; exact h.self, h.row.apart ho (lab_ne2 (by decide)), h.lots.apart ho (fun _ => lab_ne (by decide)), hr,
    LotsAt.snoc (ns := fun j => ns j + 1) (h.ones.apart ho (fun _ => lab_ne (by decide))) (hl.apart ho hv (lab_ne (by decide))) (hv.on ho hl.lt), h.many.apart ho (lab_ne2 (by decide)), h.manys.apart ho (fun _ => lab_ne (by decide)), h.only.trans (ho.mono fun l hl => by subst hl; exact .inr (.inr rfl))⟩
theorem Grown.long (h : Grown w f hk arr g vs ns fv fs lv ls f1 wr) (ho : OnlyL f1 f2 (· = (12, 3)) wr w2) {lv' u : Value} (hr : RowL w2 f2 (12, 3) lv' (ls ++ [u])) (hl : Lot wr 1 u (ns ls.length + 70) (ns ls.length + 70) (markH ls.length)) (hv : LabV f1 u (2, ls.length)) :
    Grown w f hk arr g vs ns fv fs lv' (ls ++ [u]) f2 w2 :=
  ⟨h.blk.same (ho.block hk h.blk.lt (by rw [h.self]; exact lab_ne (by decide))), by rw [ho.lab hk h.blk.lt]; exact h.self, h.row.apart ho (lab_ne2 (by decide)), h.lots.apart ho (fun _ => lab_ne (by decide)), h.one.apart ho (lab_ne2 (by decide)), h.ones.apart ho (fun _ => lab_ne (by decide)), hr,
    LotsAt.snoc (ns := fun j => ns j + 70) (h.manys.apart ho (fun _ => lab_ne (by decide))) (hl.apart ho hv (lab_ne (by decide))) (hv.on ho hl.lt), h.only.trans (ho.mono fun l hl => by subst hl; exact .inr (.inr rfl))⟩
theorem Fill.grown (h : Fill w f 26 hk arr 2 1 markH g vs ns vs.length 0 wr) (hs : f hk = (1, 0)) : Grown w f hk arr g vs ns (.slice none 0 0) [] (.slice none 0 0) [] f wr :=
  ⟨h.blk, hs, h.row, fun i u hu => by
    obtain ⟨g1, g2⟩ := h.lots i u hu
    dsimp only at g1
    rw [if_pos (List.getElem?_eq_some_iff.1 hu).1] at g1
    exact ⟨g1, g2⟩, RowL.nil _ _ _, LotsAt.nil _ _ _ _ _ _ _, RowL.nil _ _ _, LotsAt.nil _ _ _ _ _ _ _, h.only⟩
/-- Held, before its lists are written full -/
theorem HeldAt.fill {wv : Value} {n : Int} {ws : List Value} {bs : List Sp.Bs} (h : HeldAt w f hk g wv n vs ws bs) : Fill w f 26 hk (heldArr g wv n) 2 1 markH g vs (sizeB bs) 0 0 w :=
  ⟨h.blk, h.row0, fun i u hu => ⟨by
    have := (h.lots0 i u hu).1.blank (markH i)
    have e : (if i < 0 then sizeB bs i else if i = 0 then 0 else 0) = 0 := by rw [if_neg (Nat.not_lt_zero i)]; split <;> rfl
    dsimp only
    rw [e]; exact this, (h.lots0 i u hu).2⟩, OnlyL.refl _ _ _⟩
end
theorem eq01_any {w : World} {A B : Option Addr} {ca cb : Nat} {l : Sp.Bs} (h1 : RowAt w A (bytesV l)) (h2 : RowAt w B (bytesV l)) :
    Calls Tryz.prog 18 #[.slice A l.length ca, .slice B l.length cb] w fun e w' => e = .returned (.bool true) ∧ w = w' := by
  have hc1 := run_bytes_str (cap := ca) h1
  have hc2 := run_bytes_str (cap := cb) h2
  have hq : (l == l) = true := by simp
  clear h1 h2
  go_enter Tryz.func18, Tryz.ntmps18
  go_wp2_with fail
  go_ret
  exact ⟨rfl, rfl⟩
attribute [-go_sem] storeVar loadVar
theorem storeVar_intH (t : TypeId) (a : Addr) (k : IntKind) (n : Int) : type_of% (storeVar.eq_1 t a (.int k n)) := storeVar.eq_1 t a (.int k n)
theorem storeVar_sliceH (t : TypeId) (a : Addr) (p : Option Addr) (n c : Nat) : type_of% (storeVar.eq_1 t a (.slice p n c)) := storeVar.eq_1 t a (.slice p n c)
theorem loadVar_intH (a : Addr) : type_of% (loadVar.eq_1 3 a) := loadVar.eq_1 3 a
theorem loadVar_rowH (a : Addr) : type_of% (loadVar.eq_1 29 a) := loadVar.eq_1 29 a
theorem loadVar_rowsH (a : Addr) : type_of% (loadVar.eq_1 24 a) := loadVar.eq_1 24 a
attribute [local go_sem] storeVar_intH storeVar_sliceH loadVar_intH loadVar_rowH loadVar_rowsH
set_option maxHeartbeats 8000000 in
set_option maxRecDepth 100000 in
theorem heldOwn_any {w : World} {f : Nat → Lab} {hk : Nat} {g wv : Value} {n : Int} {vs ws : List Value} {bs : List Sp.Bs} (h : HeldAt w f hk g wv n vs ws bs) :
    Calls Tryz.prog 22 #[.pointer (some ⟨hk, 0, none⟩)] w fun e w' => e = .returned (.bool true) ∧ ∃ f1, OnlyL f f1 OnH w w' ∧ HeldAt w' f1 hk nilRow nilRow 0 [] [] [] := by
  obtain ⟨A0, c0, hA0⟩ := h.row0.form
  obtain ⟨B0, d0, hB0⟩ := h.row1.form
  subst hA0
  subst hB0
  generalize hR : (fun (e : Ending) (w' : World) => e = .returned (.bool true) ∧ ∃ f1, OnlyL f f1 OnH w w' ∧ HeldAt w' f1 hk nilRow nilRow 0 [] [] []) = R
  have hN : vs.length ≤ 250 := by have := h.few; rw [h.len0]; omega
  have hws : ws.length = vs.length := by rw [h.len1, h.len0]
  have hns : ∀ i, sizeB bs i ≤ 1000000000 := fun i => by
    unfold sizeB
    rw [List.getD_eq_getElem?_getD]
    cases hi : bs[i]? with
    | none => exact Nat.zero_le _
    | some b => exact h.big b (List.mem_of_getElem? hi)
  have hself := h.self
  have y0 := h.blk.cell 0
  have y1 := h.blk.cell 1
  simp only [heldArr, List.getElem?_toArray, List.getElem?_cons_zero, List.getElem?_cons_succ] at y0 y1
  rw [hws] at y1
  have HR := Lib.hid hR
  have H := Lib.hid h
  have HNS := Lib.hid hns
  have HSELF := Lib.hid hself
  have HWS := Lib.hid hws
  clear hR h hns hself hws
  go_enter Tryz.func22, Tryz.ntmps22
  go_upto_block 0 with fail
  go_cut [] (fun wx => Below w.heap.size w wx ∧ wx.heap.size = w.heap.size)
  case first =>
    go_wp2_with fail
    go_loopw [4] (fun iv wr => ∃ i : Nat, i ≤ vs.length ∧ iv = .int .i64 i ∧ Below w.heap.size w wr ∧ wr.heap.size = w.heap.size) (fun iv _ => vs.length - (intOf iv).toNat)
    case atStart => exact ⟨0, Nat.zero_le _, rfl, Below.refl _ _, rfl⟩
    case round =>
      obtain ⟨i, hi, rfl, hb, hs⟩ := hrel
      by_cases hlt : i < vs.length
      · have hh := H.out.later hb (f1 := f) (fun _ _ => rfl)
        obtain ⟨u, hu⟩ : ∃ u, vs[i]? = some u := ⟨vs[i], List.getElem?_eq_getElem hlt⟩
        obtain ⟨v, hv⟩ : ∃ v, ws[i]? = some v := ⟨ws[i]'(by rw [HWS.out]; exact hlt), List.getElem?_eq_getElem _⟩
        obtain ⟨gr, cr, hb0, hcell, _⟩ := hh.row0.at hu
        obtain ⟨gx, cx, hbx, hcellx, _⟩ := hh.row1.at hv
        injection hb0 with e1 _ e3
        subst e1 e3
        injection hbx with e1 _ e3
        subst e1 e3
        obtain ⟨U, cu, rfl⟩ := (hh.lots0 i u hu).1.form
        obtain ⟨V, cv, rfl⟩ := (hh.lots1 i v hv).1.form
        obtain ⟨b, hbb⟩ : ∃ b, b = bs.getD i [] := ⟨_, rfl⟩
        have hl0 : LotB wr (.slice U (sizeB bs i) cu) b := by have := (hh.lots0 i _ hu).1; rw [hbb]; exact this
        have hl1 : LotB wr (.slice V (sizeB bs i) cv) b := by have := (hh.lots1 i _ hv).1; rw [hbb]; exact this
        have hsz : sizeB bs i = b.length := by rw [hbb]; rfl
        have hrow0 : RowAt wr.drew U (bytesV b) := hl0.row
        have hrow1 : RowAt wr.drew V (bytesV b) := hl1.row
        rw [hsz] at hcell hcellx
        have heq := eq01_any (w := wr.drew) (ca := cu) (cb := cv) hrow0 hrow1
        have x1 := hh.blk.cell 1
        simp only [heldArr, List.getElem?_toArray, List.getElem?_cons_zero, List.getElem?_cons_succ] at x1
        rw [HWS.out] at x1
        have hi1 : (i : Int) < (vs.length : Int) := by omega
        have HB := Lib.hid hb
        have HS := Lib.hid hs
        have HEQ := Lib.hid heq
        have x1d : wr.drew.cell? ⟨hk, 1, none⟩ = _ := x1
        have hcelld : wr.drew.cell? ⟨gr, i, none⟩ = _ := hcell
        have hcellxd : wr.drew.cell? ⟨gx, i, none⟩ = _ := hcellx
        clear hb hs hh hu hv hlt hl0 hl1 hrow0 hrow1 heq hsz hbb
        go_wp2_with fail
        go_region_law (go_simp; go_at_call 18; refine HEQ.out.mono ?_; rintro e w3 ⟨rfl, rfl⟩)
        all_goals
          go_wp2_with fail
          exact ⟨⟨i + 1, by omega, by go_num, below_drewN' HB.out _, HS.out⟩, by show vs.length - ((i : Int) + 1).toNat < vs.length - (i : Int).toNat; omega⟩
      · have hi1 : decide ((i : Int) < (vs.length : Int)) = false := decide_eq_false (by omega)
        have hi2 : decide (i < vs.length) = false := decide_eq_false hlt
        have HB := Lib.hid hb
        have HS := Lib.hid hs
        clear hb hs hlt
        go_wp2_with fail
        go_meet
        exact ⟨HB.out, HS.out⟩
  case rest =>
    obtain ⟨hb, hs⟩ := hcut
    have hh := H.out.later hb (f1 := f) (fun _ _ => rfl)
    have ho1 : OnlyL f f OnH w wc := OnlyL.of_new hb (fun _ _ => rfl) (fun k h1 h2 => by omega)
    have hfill := hh.fill
    obtain ⟨arr, harr⟩ : ∃ arr, arr = heldArr (.slice A0 vs.length c0) (.slice B0 ws.length d0) n := ⟨_, rfl⟩
    rw [← harr] at hfill
    obtain ⟨w0, hw0⟩ : ∃ w0, w0 = wc := ⟨_, rfl⟩
    rw [← hw0] at hfill ho1
    have HO1 := Lib.hid ho1
    have HFILL := Lib.hid hfill
    have HARR := Lib.hid harr
    have HNV := Lib.hid (fun (i k : Nat) (h1 : i ≤ 1000) (h2 : k ≤ 2000000000) (W : World) => own01_any i k h1 h2 W)
    obtain ⟨ns, hnse⟩ : ∃ ns, ns = sizeB bs := ⟨_, rfl⟩
    rw [← hnse] at HNS HFILL
    rw [← hw0]
    clear hb hs hh ho1 hfill harr hw0 hnse y0 y1
    go_upto_block 2 with fail
    go_cut [] (fun wx => Fill w0 f 26 hk arr 2 1 markH (.slice A0 vs.length c0) vs ns vs.length 0 wx)
    case first =>
      go_wp2_with fail
      go_loopw [7, 8] (fun iv _ wr => ∃ i : Nat, i ≤ vs.length ∧ iv = .int .i64 i ∧ Fill w0 f 26 hk arr 2 1 markH (.slice A0 vs.length c0) vs ns i 0 wr) (fun iv _ _ => vs.length - (intOf iv).toNat)
      case atStart => exact ⟨0, Nat.zero_le _, rfl, HFILL.out⟩
      case round =>
        obtain ⟨i, hi, rfl, hm⟩ := hrel
        by_cases hlt : i < vs.length
        · obtain ⟨u, hu⟩ : ∃ u, vs[i]? = some u := ⟨vs[i], List.getElem?_eq_getElem hlt⟩
          obtain ⟨gr, cr, hb0, hcell, hgr⟩ := hm.row.at hu
          injection hb0 with e1 _ e3
          subst e1 e3
          obtain ⟨U, cu, rfl⟩ := (hm.lots i u hu).1.form
          have hi1 : (i : Int) < (vs.length : Int) := by omega
          have hni := HNS.out i
          have HM := Lib.hid hm
          have HU := Lib.hid hu
          clear hm hu hlt
          go_wp2_with fail
          go_loopw [8] (fun kv wx => ∃ k : Nat, k ≤ ns i ∧ kv = .int .i64 k ∧ Fill w0 f 26 hk arr 2 1 markH (.slice (some ⟨gr, 0, none⟩) vs.length c0) vs ns i k wx) (fun kv _ => ns i - (intOf kv).toNat)
          case atStart => exact ⟨0, Nat.zero_le _, rfl, HM.out⟩
          case round =>
            obtain ⟨k, hk, rfl, hm⟩ := hrel
            obtain ⟨gr', cr', hb0', hcell', hgr'⟩ := hm.row.at HU.out
            injection hb0' with e1 _ e3
            injection e1 with e1; injection e1 with e1
            subst e1 e3
            by_cases hlk : k < ns i
            · have hmk := (hm.lots i _ HU.out).1
              obtain ⟨g, rfl, ⟨uo, hth1⟩, hth2⟩ : ∃ g, U = some ⟨g, 0, none⟩ ∧ (∃ uo, wr.cell? ⟨g, k, none⟩ = some uo) ∧ wr.frozen? ⟨g, k, none⟩ = false := by
                rcases hmk with ⟨_, h0, _⟩ | ⟨g, cap, he, _, ha⟩
                · omega
                · injection he with he1 _ he3
                  have := ha.room
                  exact ⟨g, he1, Option.isSome_iff_exists.1 (ha.there k (by omega)).1, (ha.there k (by omega)).2⟩
              have hk1 : (k : Int) < (ns i : Int) := by omega
              have hput := hm.drew.put markH_length HSELF.out (by decide) HU.out hlk (news := [.int .u8 (ownV i k)]) rfl
              rw [Nat.mul_one] at hput
              have hcelld : wr.drew.cell? ⟨gr, i, none⟩ = _ := hcell'
              have hth1d : wr.drew.cell? ⟨g, k, none⟩ = _ := hth1
              have hth2d : wr.drew.frozen? ⟨g, k, none⟩ = _ := hth2
              have hi9 : i ≤ 1000 := by omega
              have hk9 : k ≤ 2000000000 := by omega
              have HP := Lib.hid hput
              clear hm hput hmk hlk
              go_wp2_with fail
              go_region_law (go_simp; go_at_call 61; refine (HNV.out i k hi9 hk9 _).mono ?_; rintro e w3 ⟨rfl, rfl⟩)
              all_goals
                go_wp2_with fail
                exact ⟨⟨k + 1, by omega, by go_num, HP.out⟩, by show ns i - ((k : Int) + 1).toNat < ns i - (k : Int).toNat; omega⟩
            · have hk1 : decide ((k : Int) < (ns i : Int)) = false := decide_eq_false (by omega)
              obtain rfl : k = ns i := by omega
              have HN := Lib.hid hm.next
              clear hm hlk
              go_wp2_with fail
              exact ⟨⟨i + 1, by omega, by go_num, HN.out⟩, by show vs.length - ((i : Int) + 1).toNat < vs.length - (i : Int).toNat; omega⟩
        · have hi1 : decide ((i : Int) < (vs.length : Int)) = false := decide_eq_false (by omega)
          obtain rfl : i = vs.length := by omega
          have HM := Lib.hid hm
          clear hm hlt
          go_wp2_with fail
          go_meet
          exact HM.out
    case rest =>
      have hgw := hcut.grown HSELF.out
      have HM := Lib.hid hgw
      clear hcut hgw HFILL
      go_upto_block 6 with fail
      go_cut [5, 6] (fun fv lv wx => ∃ (f1 : Nat → Lab) (fs ls : List Value), fs.length = vs.length ∧ ls.length = vs.length ∧ Grown w0 f hk arr (.slice A0 vs.length c0) vs ns fv fs lv ls f1 wx)
      case first =>
        go_wp2_with fail
        go_loopw [5, 6, 9, 10, 11] (fun fv lv iv _ _ wr => ∃ (i : Nat) (f1 : Nat → Lab) (fs ls : List Value), i ≤ vs.length ∧ iv = .int .i64 i ∧ fs.length = i ∧ ls.length = i ∧ Grown w0 f hk arr (.slice A0 vs.length c0) vs ns fv fs lv ls f1 wr) (fun _ _ iv _ _ _ => vs.length - (intOf iv).toNat)
        case atStart => exact ⟨0, f, [], [], Nat.zero_le _, rfl, rfl, rfl, HM.out⟩
        case round =>
          obtain ⟨i, f1, fs, ls, hi, rfl, hfs, hls, hm⟩ := hrel
          by_cases hlt : i < vs.length
          · obtain ⟨u, hu⟩ : ∃ u, vs[i]? = some u := ⟨vs[i], List.getElem?_eq_getElem hlt⟩
            obtain ⟨gr, cr, hb0, hcell, hgr⟩ := hm.row.at hu
            injection hb0 with e1 _ e3
            subst e1 e3
            have hlot := hm.lots i u hu
            obtain ⟨U, cu, rfl⟩ := hlot.1.form
            have hi1 : (i : Int) < (vs.length : Int) := by omega
            have hni := HNS.out i
            have HM1 := Lib.hid hm
            have HLOT := Lib.hid hlot
            have HU := Lib.hid hu
            have HFS := Lib.hid hfs
            have HLS := Lib.hid hls
            clear hm hu hlt hlot hfs hls
            go_wp2_with fail
            go_loopw [5, 10, 11] (fun fv l kv wx => ∃ (k : Nat) (U : Option Addr) (cu : Nat) (f2 : Nat → Lab) (fs2 : List Value), k ≤ 70 ∧ kv = .int .i64 k ∧ l = .slice U (ns i + k) cu ∧ fs2.length = (if k = 0 then i else i + 1) ∧ Grown w0 f hk arr (.slice (some ⟨gr, 0, none⟩) vs.length c0) vs ns fv fs2 u6 ls f2 wx ∧ Lot wx 1 (.slice U (ns i + k) cu) (ns i + k) (ns i + k) (markH i) ∧ LabV f2 (.slice U (ns i + k) cu) (2, i)) (fun _ _ kv _ => 70 - (intOf kv).toNat)
            case atStart => exact ⟨0, U, cu, f1, fs, by decide, rfl, rfl, HFS.out, HM1.out, HLOT.out.1, HLOT.out.2⟩
            case round =>
              obtain ⟨k, U2, cu2, f2, fs2, hk, rfl, rfl, hf2, hm, hl1, hl2⟩ := hrel
              by_cases hlk : k < 70
              · have hk1 : (k : Int) < 70 := by omega
                obtain ⟨gr', cr', hb0', hcell', hgr'⟩ := hm.row.at HU.out
                injection hb0' with e1 _ e3
                injection e1 with e1; injection e1 with e1
                subst e1 e3
                obtain ⟨x, hx⟩ : ∃ x, x = ownV i (ns i + k) := ⟨_, rfl⟩
                have hbel : Below wr.heap.size wr (wr.alloc (.cells #[.int .u8 x] 5)) := (Below.refl _ _).alloc (Nat.le_refl _) _
                have hw1 : Wrote f2 (relab f2 wr (2, i)) (2, i) 1 (markH i) wr (wr.alloc (.cells #[.int .u8 x] 5)) := Wrote.of_below hbel f2 (2, i) 1 (markH i)
                have hm2 := hm.lot hw1
                have hl3 := hl1.conf (markH_length i) hw1
                have hl4 := hl2.on hw1.only hl1.lt
                have hnew : markH i (ns i + k) = [.int .u8 x] := by rw [hx]; rfl
                have hon : ∀ W : World, Calls Tryz.prog 61 #[.int .i64 (i : Int), .int .i64 ((ns i : Int) + (k : Int))] W fun e w' => e = .returned (.int .u8 x) ∧ W = w' := fun W => by
                  have h := HNV.out i (ns i + k) (by omega) (by omega) W
                  rw [Int.natCast_add, ← hx] at h
                  exact h
                obtain ⟨F1, cf1, hF1⟩ := hm.one.form
                subst hF1
                have HM2 := Lib.hid hm2
                have HL3 := Lib.hid hl3
                have HL4 := Lib.hid hl4
                have HNEW := Lib.hid hnew
                have HON := Lib.hid hon
                have HF2 := Lib.hid hf2
                obtain ⟨i0, hi0, hz0, hz1, hz2⟩ := info_parts info_u8R
                obtain ⟨j0, hj0, hy0, hy1, hy2⟩ := info_parts info_rowR
                by_cases hk0 : k = 0
                · have g0 : ((k : Int) == 0) = true := by rw [hk0]; rfl
                  have hfl : fs2.length = i := by rw [hf2, if_pos hk0]
                  have HK0 := Lib.hid hk0
                  have HFL := Lib.hid hfl
                  have hfl3 : fs2.length ≤ 250 := by omega
                  clear hm hbel hw1 hm2 hl1 hl2 hl3 hl4 hlk hnew hon hx hf2 hk0 hfl
                  go_upto_region 24 with (first
                    | (go_at_call 61; refine (HON.out _).mono ?_; rintro e w3 ⟨rfl, rfl⟩)
                    | (at_builtin; refine wpList_append_lot rfl (.tmp 74) (.tmp 84) 29 29 rfl (relab f2 wr (2, i)) (2, i) (markH i) 5 i0 _ 1 1 Tryz.underlying29 hi0 hz0 hz1 hz2 rfl (markH_length i) _ (ns i + k) rfl HL3.out HL4.out _ 1 _ rfl (src_oneR wr Tryz.underlying29 _ rfl _) (news_oneR HNEW.out) (by decide) ?_ ?_ ?_; (unfold maxLen; omega); omega; intro g3 c3 w3 hl5 hb5 hw5; have hm5 := HM2.out.lot hw5; have HM5 := Lib.hid hm5; have HL5 := Lib.hid hl5; have HB5 := Lib.hid hb5; clear hl5 hb5 hw5 hm5))
                  obtain ⟨f3, hf3⟩ : ∃ f3, f3 = relab (relab f2 wr (2, i)) (wr.alloc (.cells #[.int .u8 x] 5)) (2, i) := ⟨_, rfl⟩
                  rw [← hf3] at HM5 HB5
                  have hw6 : Wrote f3 (relab f3 w3 (12, 2)) (12, 2) 1 (rowF (fs2 ++ [.slice (some ⟨g3, 0, none⟩) (ns i + k + 1) c3])) w3 (w3.alloc (.cells #[.slice (some ⟨g3, 0, none⟩) (ns i + k + 1) c3] 29)) := Wrote.of_below ((Below.refl _ _).alloc (Nat.le_refl _) _) f3 (12, 2) 1 _
                  have hr1 := (HM5.out.one.more (.slice (some ⟨g3, 0, none⟩) (ns i + k + 1) c3)).conf (rowF_length _) hw6
                  have hr2 : LabV (relab f3 w3 (12, 2)) (.slice F1 fs2.length cf1) (12, 2) := HM5.out.one.lab.on hw6.only HM5.out.one.lot.lt
                  have HW6 := Lib.hid hw6
                  have HR1 := Lib.hid hr1
                  have HR2 := Lib.hid hr2
                  clear hw6 hr1 hr2 hf3
                  go_wp2_with (at_builtin; refine wpList_append_lot rfl (.tmp 88) (.tmp 90) 24 24 rfl (relab f3 w3 (12, 2)) (12, 2) (rowF (fs2 ++ [.slice (some ⟨g3, 0, none⟩) (ns i + k + 1) c3])) 29 j0 _ 1 24 Tryz.underlying24 hj0 hy0 hy1 hy2 rfl (rowF_length _) (.slice F1 fs2.length cf1) fs2.length rfl HR1.out HR2.out _ 1 _ rfl (src_oneR w3 Tryz.underlying24 (.slice (some ⟨g3, 0, none⟩) (ns i + k + 1) c3) rfl _) (news_oneR (rowF_last fs2 _)) (by decide) ?_ ?_ ?_; (unfold maxLen; omega); omega; intro g7 c7 w7 hl7 hb7 hw7; have ho7 := HW6.out.only.trans hw7.only; have hrl := RowL.of_append hl7 hb7; have HO7 := Lib.hid ho7; have HRL := Lib.hid hrl; clear hl7 hb7 hw7 ho7 hrl)
                  have hk9 := HK0.out
                  have hv5 : LabV f3 (.slice (some ⟨g3, 0, none⟩) (ns i + k + 1) c3) (2, i) := LabV.of_eq HB5.out
                  have hfin := HM5.out.first HO7.out HRL.out (by rw [HFL.out]; subst hk9; exact HL5.out) (by rw [HFL.out]; exact hv5)
                  exact ⟨⟨k + 1, some ⟨g3, 0, none⟩, c3, _, _, by omega, by go_num, rfl, by rw [List.length_append, List.length_singleton, HFL.out, if_neg (by omega)], hfin, HL5.out.apart HO7.out hv5 (lab_ne (by decide)), hv5.on HO7.out HL5.out.lt⟩, by show 70 - ((k : Int) + 1).toNat < 70 - (k : Int).toNat; omega⟩
                · have g0 : ((k : Int) == 0) = false := by simp; omega
                  have HK0 := Lib.hid hk0
                  clear hm hbel hw1 hm2 hl1 hl2 hl3 hl4 hlk hnew hon hx hf2 hk0
                  go_wp2_with (first
                    | (go_at_call 61; refine (HON.out _).mono ?_; rintro e w3 ⟨rfl, rfl⟩)
                    | (at_builtin; refine wpList_append_lot rfl (.tmp 74) (.tmp 84) 29 29 rfl (relab f2 wr (2, i)) (2, i) (markH i) 5 i0 _ 1 1 Tryz.underlying29 hi0 hz0 hz1 hz2 rfl (markH_length i) _ (ns i + k) rfl HL3.out HL4.out _ 1 _ rfl (src_oneR wr Tryz.underlying29 _ rfl _) (news_oneR HNEW.out) (by decide) ?_ ?_ ?_; (unfold maxLen; omega); omega; intro g3 c3 w3 hl5 hb5 hw5; have hm5 := HM2.out.lot hw5; have HM5 := Lib.hid hm5; have HL5 := Lib.hid hl5; have HB5 := Lib.hid hb5; clear hl5 hb5 hw5 hm5))
                  have hk9 := HK0.out
                  exact ⟨⟨k + 1, some ⟨g3, 0, none⟩, c3, _, _, by omega, by go_num, rfl, by rw [HF2.out, if_neg hk9, if_neg (by omega)], HM5.out, HL5.out, LabV.of_eq HB5.out⟩, by show 70 - ((k : Int) + 1).toNat < 70 - (k : Int).toNat; omega⟩
              · have hk1 : decide ((k : Int) < 70) = false := decide_eq_false (by omega)
                obtain rfl : k = 70 := by omega
                obtain ⟨lx, hlx⟩ : ∃ lx : Value, lx = .slice U2 (ns i + 70) cu2 := ⟨_, rfl⟩
                have hl1' := hl1
                have hl2' := hl2
                rw [← hlx] at hl1' hl2'
                have hw1 : Wrote f2 (relab f2 wr (12, 3)) (12, 3) 1 (rowF (ls ++ [lx])) wr (wr.alloc (.cells #[lx] 29)) := Wrote.of_below ((Below.refl _ _).alloc (Nat.le_refl _) _) f2 (12, 3) 1 _
                have hr1 := (hm.many.more lx).conf (rowF_length _) hw1
                have hr2 : LabV (relab f2 wr (12, 3)) u6 (12, 3) := hm.many.lab.on hw1.only hm.many.lot.lt
                have hnew : rowF (ls ++ [lx]) ls.length = [lx] := rowF_last ls lx
                obtain ⟨L1, cl1, hL1⟩ := hm.many.form
                have hfs9 : fs2.length = i + 1 := by rw [hf2, if_neg (by decide)]
                have hls3 : ls.length ≤ 250 := by rw [HLS.out]; omega
                have HMM := Lib.hid hm
                have HW1 := Lib.hid hw1
                have HR1 := Lib.hid hr1
                have HR2 := Lib.hid hr2
                have HNEW := Lib.hid hnew
                have HL1 := Lib.hid hl1'
                have HL2 := Lib.hid hl2'
                have HF9 := Lib.hid hfs9
                subst hL1
                subst hlx
                clear hm hw1 hr1 hr2 hl1 hl2 hl1' hl2' hnew hlk hf2 hfs9
                obtain ⟨j0, hj0, hy0, hy1, hy2⟩ := info_parts info_rowR
                go_wp2_with (at_builtin; refine wpList_append_lot rfl (.tmp 92) (.tmp 94) 24 24 rfl (relab f2 wr (12, 3)) (12, 3) (rowF (ls ++ [.slice U2 (ns i + 70) cu2])) 29 j0 _ 1 24 Tryz.underlying24 hj0 hy0 hy1 hy2 rfl (rowF_length _) (.slice L1 ls.length cl1) ls.length rfl HR1.out HR2.out _ 1 _ rfl (src_oneR wr Tryz.underlying24 (.slice U2 (ns i + 70) cu2) rfl _) (news_oneR HNEW.out) (by decide) ?_ ?_ ?_; (unfold maxLen; omega); omega; intro g7 c7 w7 hl7 hb7 hw7; have ho7 := HW1.out.only.trans hw7.only; have hrl := RowL.of_append hl7 hb7; have HO7 := Lib.hid ho7; have HRL := Lib.hid hrl; clear hl7 hb7 hw7 ho7 hrl)
                have hfin := HMM.out.long HO7.out HRL.out (by rw [HLS.out]; exact HL1.out) (by rw [HLS.out]; exact HL2.out)
                exact ⟨⟨i + 1, _, _, _, by omega, by go_num, HF9.out, by rw [List.length_append, List.length_singleton, HLS.out], hfin⟩, by show vs.length - ((i : Int) + 1).toNat < vs.length - (i : Int).toNat; omega⟩
          · have hi1 : decide ((i : Int) < (vs.length : Int)) = false := decide_eq_false (by omega)
            obtain rfl : i = vs.length := by omega
            have HM1 := Lib.hid hm
            have HFS := Lib.hid hfs
            have HLS := Lib.hid hls
            clear hm hlt hfs hls
            go_wp2_with fail
            go_meet
            exact ⟨_, _, _, HFS.out, HLS.out, HM1.out⟩
      case rest =>
        obtain ⟨f1, fs, ls, hfs, hls, hm⟩ := hcut
        obtain ⟨F1, cf1, hF1⟩ := hm.one.form
        obtain ⟨L1, cl1, hL1⟩ := hm.many.form
        subst hF1
        subst hL1
        rw [hfs] at hm ⊢
        rw [hls] at hm ⊢
        have HM := Lib.hid hm
        have HFS := Lib.hid hfs
        have HLS := Lib.hid hls
        clear hm hfs hls
        obtain ⟨w5, hw5⟩ : ∃ w5, w5 = wc := ⟨_, rfl⟩
        rw [← hw5] at HM ⊢
        clear hw5
        go_wp2_with fail
        go_loopw [12] (fun iv wr => ∃ i : Nat, i ≤ vs.length ∧ iv = .int .i64 i ∧ Below w5.heap.size w5 wr ∧ wr.heap.size = w5.heap.size) (fun iv _ => vs.length - (intOf iv).toNat)
        case atStart => exact ⟨0, Nat.zero_le _, rfl, Below.refl _ _, rfl⟩
        case round =>
          obtain ⟨i, hi, rfl, hb, hs⟩ := hrel
          by_cases hlt : i < vs.length
          · obtain ⟨u, hu⟩ : ∃ u, vs[i]? = some u := ⟨vs[i], List.getElem?_eq_getElem hlt⟩
            obtain ⟨x, hx⟩ : ∃ x, fs[i]? = some x := ⟨fs[i]'(by rw [HFS.out]; exact hlt), List.getElem?_eq_getElem _⟩
            obtain ⟨y, hy⟩ : ∃ y, ls[i]? = some y := ⟨ls[i]'(by rw [HLS.out]; exact hlt), List.getElem?_eq_getElem _⟩
            obtain ⟨gr, cr, hb0, hcell, _⟩ := (HM.out.row.later hb).at hu
            obtain ⟨gx, cx, hbx, hcellx, _⟩ := (HM.out.one.later hb).at hx
            obtain ⟨gy, cy, hby, hcelly, _⟩ := (HM.out.many.later hb).at hy
            injection hb0 with e1 _ e3
            subst e1 e3
            injection hbx with e1 e2 e3
            subst e1 e3
            clear e2
            injection hby with e1 e2 e3
            subst e1 e3
            clear e2
            have l0 := (HM.out.lots i u hu).1.later hb
            have l1 := (HM.out.ones i x hx).1.later hb
            have l2 := (HM.out.manys i y hy).1.later hb
            obtain ⟨U, cu, rfl⟩ := l0.form
            obtain ⟨X, cX, rfl⟩ := l1.form
            obtain ⟨Y, cY, rfl⟩ := l2.form
            have hni := HNS.out i
            have m0 : ∀ W : World, Below wr.heap.size wr W → W.cell? ⟨gr, i, none⟩ = some (.slice U (ns i) cu) := fun W hW => cell_belowH hcell hW
            have m1 : ∀ W : World, Below wr.heap.size wr W → W.cell? ⟨gx, i, none⟩ = some (.slice X (ns i + 1) cX) := fun W hW => cell_belowH hcellx hW
            have m2 : ∀ W : World, Below wr.heap.size wr W → W.cell? ⟨gy, i, none⟩ = some (.slice Y (ns i + 70) cY) := fun W hW => cell_belowH hcelly hW
            have k0 : ∀ W : World, Below wr.heap.size wr W → Calls Tryz.prog 62 #[.slice U (ns i) cu, .int .i64 i] W fun e w' => e = .returned (.bool true) ∧ Below W.heap.size W w' ∧ w'.heap.size = W.heap.size := fun W hW => marked_any (by omega) (by omega) (l0.later hW)
            have k1 : ∀ W : World, Below wr.heap.size wr W → Calls Tryz.prog 62 #[.slice X (ns i + 1) cX, .int .i64 i] W fun e w' => e = .returned (.bool true) ∧ Below W.heap.size W w' ∧ w'.heap.size = W.heap.size := fun W hW => marked_any (by omega) (by omega) (l1.later hW)
            have k2 : ∀ W : World, Below wr.heap.size wr W → Calls Tryz.prog 62 #[.slice Y (ns i + 70) cY, .int .i64 i] W fun e w' => e = .returned (.bool true) ∧ Below W.heap.size W w' ∧ w'.heap.size = W.heap.size := fun W hW => marked_any (by omega) (by omega) (l2.later hW)
            have hi1 : (i : Int) < (vs.length : Int) := by omega
            have hwr : Below wr.heap.size wr wr := Below.refl _ _
            have HB := Lib.hid hb
            have HS := Lib.hid hs
            have K0 := Lib.hid k0
            have K1 := Lib.hid k1
            have K2 := Lib.hid k2
            clear hb hs hu hx hy hlt l0 l1 l2 k0 k1 k2 hcell hcellx hcelly
            go_wp2_with (go_at_call 62; first
              | (with_reducible refine (K0.out _ hwr).mono ?_; rintro e w6 ⟨rfl, hb6, hs6⟩; have HS6 := Lib.hid hs6; clear hs6)
              | (with_reducible refine (K1.out _ hb6).mono ?_; rintro e w7 ⟨rfl, hb67, hs7⟩; have hb7 := hb6.trans (hb67.mono hb6.size); have HS7 := Lib.hid hs7; clear hs7 hb67)
              | (with_reducible refine (K2.out _ hb7).mono ?_; rintro e w8 ⟨rfl, hb78, hs8⟩; have hb8 := hb7.trans (hb78.mono hb7.size); have HS8 := Lib.hid hs8; clear hs8 hb78))
            exact ⟨⟨i + 1, by omega, by go_num, HB.out.trans (hb8.mono HB.out.size), by rw [HS8.out, HS7.out, HS6.out, HS.out]⟩, by show vs.length - ((i : Int) + 1).toNat < vs.length - (i : Int).toNat; omega⟩
          · have hi1 : decide ((i : Int) < (vs.length : Int)) = false := decide_eq_false (by omega)
            have hi2 : decide (i < vs.length) = false := decide_eq_false hlt
            have hblk := HM.out.blk.later hb
            have c0' := hblk.cell 0
            have c1' := hblk.cell 1
            have c2' := hblk.cell 2
            rw [HARR.out] at c0' c1' c2'
            simp only [heldArr, List.getElem?_toArray, List.getElem?_cons_zero, List.getElem?_cons_succ] at c0' c1' c2'
            have f0' := hblk.frozen 0
            have f1' := hblk.frozen 1
            have f2' := hblk.frozen 2
            have HBLK := Lib.hid hblk
            have HB := Lib.hid hb
            have HS := Lib.hid hs
            clear hb hs hlt hblk
            go_wp2_with fail
            rw [← HR.out]
            have hself1 := HM.out.self
            have ho5 : OnlyL f1 f1 OnH w5 wr := OnlyL.of_new HB.out (fun _ _ => rfl) (fun k h1 h2 => by have := HS.out; omega)
            have ho2 : OnlyL f f1 OnH w wr := (HO1.out.trans (HM.out.only.mono fun l hl => by
              rcases hl with h | h | h
              · exact .inl h
              · exact .inr (.inr (.inl h))
              · exact .inr (.inl h))).trans ho5
            have p0 := OnlyL.of_put (P := OnH) f1 wr ⟨hk, 0, none⟩ (.slice none 0 0) (.inl hself1)
            have p1 := OnlyL.of_put (P := OnH) f1 (wr.setCell ⟨hk, 0, none⟩ (.slice none 0 0)) ⟨hk, 1, none⟩ (.slice none 0 0) (.inl hself1)
            have p2 := OnlyL.of_put (P := OnH) f1 ((wr.setCell ⟨hk, 0, none⟩ (.slice none 0 0)).setCell ⟨hk, 1, none⟩ (.slice none 0 0)) ⟨hk, 2, none⟩ (.int .i64 0) (.inl hself1)
            have hblk3 := ((HBLK.out.put 0 (.slice none 0 0)).put 1 (.slice none 0 0)).put 2 (.int .i64 0)
            rw [HARR.out] at hblk3
            exact ⟨rfl, f1, ((ho2.trans p0).trans p1).trans p2, ⟨hblk3, hself1, RowL.nil _ _ _, RowL.nil _ _ _, rfl, rfl, LotsAt.nil _ _ _ _ _ _ _, LotsAt.nil _ _ _ _ _ _ _, Int.le_refl _, by decide, by decide, by simp⟩⟩
end Go.Proofs.YtnbeeehfapjpdaaGreatDoor
end
section
namespace Go.Proofs.YtnbeeehfapjpdaaGreatDoor
attribute [local go_sem ↓] Go.wp_at_zero Go.wp_at_succ
open Go.RowKit

theorem RowAt.lab {w w1 : World} {f f1 : Nat → Lab} {P : Lab → Prop} {B : Option Addr} {xs : List Value} (h : RowAt w B xs) (ho : OnlyL f f1 P w w1) (hB : xs ≠ [] → ∀ a, B = some a → ¬ P (f a.block)) : RowAt w1 B xs := by
  by_cases hx : xs = []
  · exact .inl hx
  · rcases h with h | ⟨b, o, h1, h2, h3⟩
    · exact .inl h
    · exact .inr ⟨b, o, h1, Nat.lt_of_lt_of_le h2 ho.size, fun j u hu => (World.cell?_of_block (ho.block b h2 (hB hx _ h1))).trans (h3 j u hu)⟩
theorem LotB.of_row {w : World} {base : Nat} {v : Value} {l : Sp.Bs} (h : w.ownsRow base 5 1 v l.length (bytesV l)) : LotB w v l := by
  rcases h.2 with ⟨rfl, h2⟩ | ⟨g, cap, cur, rfl, _, hg, h1, h2, h3, h4⟩
  · exact .inl ⟨rfl, h2, h2⟩
  · have hk : Blk w g 5 cur := hg
    refine .inr ⟨g, cap, rfl, Nat.le_refl _, h1, h2, hk.lt, fun j hj => ⟨?_, hk.frozen j⟩, fun k hk1 c u hu => ?_⟩
    · rw [hk.cell j, Array.getElem?_eq_getElem (by omega)]; rfl
    · have hc : c = 0 := by
        have := (List.getElem?_eq_some_iff.1 hu).1
        rw [byteF_length] at this; omega
      subst hc
      rw [Nat.mul_one, Nat.add_zero, hk.cell k]
      have hu2 : u = .int .u8 (l.getD k 0).toNat := by
        have : (byteF l k)[0]? = some (Value.int .u8 (l.getD k 0).toNat) := rfl
        rw [this] at hu; exact (Option.some.inj hu).symm
      rw [hu2]
      have h5 : (bytesV l)[k]? = some (Value.int .u8 (l.getD k 0).toNat) := by
        simp [bytesV, List.getD_eq_getElem?_getD, List.getElem?_eq_getElem hk1]
      have h6 := congrArg (·[k]?) h4
      simp only [List.getElem?_take] at h6
      first
        | (rw [if_pos (by omega)] at h6; rw [← Array.getElem?_toList, h6]; exact h5)
        | (rw [← Array.getElem?_toList]; simpa [h5] using h6)
attribute [-go_sem] storeVar loadVar
theorem storeVar_intA (t : TypeId) (a : Addr) (k : IntKind) (n : Int) : type_of% (storeVar.eq_1 t a (.int k n)) := storeVar.eq_1 t a (.int k n)
theorem storeVar_sliceA (t : TypeId) (a : Addr) (p : Option Addr) (n c : Nat) : type_of% (storeVar.eq_1 t a (.slice p n c)) := storeVar.eq_1 t a (.slice p n c)
theorem loadVar_intA (a : Addr) : type_of% (loadVar.eq_1 3 a) := loadVar.eq_1 3 a
theorem loadVar_rowsA (a : Addr) : type_of% (loadVar.eq_1 24 a) := loadVar.eq_1 24 a
attribute [local go_sem] storeVar_intA storeVar_sliceA loadVar_intA loadVar_rowsA
set_option maxHeartbeats 8000000 in
set_option maxRecDepth 100000 in
theorem heldAdd_any {w : World} {f : Nat → Lab} {hk : Nat} {g wv : Value} {n : Int} {vs ws : List Value} {bs : List Sp.Bs} {A B : Option Addr} {c cb : Nat} {l : Sp.Bs}
    (h : HeldAt w f hk g wv n vs ws bs) (hn : n < 2097152) (hfew : bs.length < 250) (hl : LotB w (.slice A l.length c) l) (hv : LabV f (.slice A l.length c) (2, bs.length)) (hB : RowAt w B (bytesV l)) (hBn : B = none → cb = 0) (hBl : l ≠ [] → ∀ a, B = some a → ¬ OnH (f a.block)) (hlen : l.length ≤ 1000000000) :
    Calls Tryz.prog 21 #[.pointer (some ⟨hk, 0, none⟩), .slice A l.length c, .slice B l.length cb] w fun e w' => e = .returned (.bool true) ∧ ∃ f1 g' wv' n' vs' ws' bs', OnlyL f f1 OnH w w' ∧ HeldAt w' f1 hk g' wv' n' vs' ws' bs' ∧ n' < 2097152 ∧ bs'.length < 250 := by
  generalize hR : (fun (e : Ending) (w' : World) => e = .returned (.bool true) ∧ ∃ f1 g' wv' n' vs' ws' bs', OnlyL f f1 OnH w w' ∧ HeldAt w' f1 hk g' wv' n' vs' ws' bs' ∧ n' < 2097152 ∧ bs'.length < 250) = R
  have hn0 := h.n0
  obtain ⟨B0, cb0, hB0⟩ := h.row0.form
  obtain ⟨B1, cb1, hB1⟩ := h.row1.form
  subst hB0
  subst hB1
  have hvs : vs.length ≤ 250 := by have := h.few; rw [h.len0]; omega
  have hws : ws.length ≤ 250 := by have := h.few; rw [h.len1]; omega
  obtain ⟨v, hvv⟩ : ∃ v : Value, v = .slice A l.length c := ⟨_, rfl⟩
  rw [← hvv] at hl hv
  have hw1 : Wrote f (relab f w (12, 0)) (12, 0) 1 (rowF (vs ++ [v])) w (w.alloc (.cells #[v] 29)) := Wrote.of_below ((Below.refl _ _).alloc (Nat.le_refl _) _) f (12, 0) 1 _
  have hr1 := (h.row0.more v).conf (rowF_length _) hw1
  have hr2 : LabV (relab f w (12, 0)) (.slice B0 vs.length cb0) (12, 0) := h.row0.lab.on hw1.only h.row0.lot.lt
  have y0 : w.cell? ⟨hk, 0, none⟩ = some (.slice B0 vs.length cb0) := h.blk.cell 0
  have hself := h.self
  have H := Lib.hid h
  have HL := Lib.hid hl
  have HV := Lib.hid hv
  have HVV := Lib.hid hvv
  have HW1 := Lib.hid hw1
  have HR1 := Lib.hid hr1
  have HR2 := Lib.hid hr2
  have HSELF := Lib.hid hself
  have HBR := Lib.hid hB
  have HBN := Lib.hid hBn
  have HBL := Lib.hid hBl
  have HR := Lib.hid hR
  clear h hl hv hw1 hr1 hr2 hself hB hBn hBl hR
  subst hvv
  obtain ⟨j0, hj0, hy0, hy1, hy2⟩ := info_parts info_rowR
  go_enter Tryz.func21, Tryz.ntmps21
  go_upto_region 2 with (at_builtin; refine wpList_append_lot rfl (.tmp 11) (.tmp 13) 24 24 rfl (relab f w (12, 0)) (12, 0) (rowF (vs ++ [.slice A l.length c])) 29 j0 _ 1 24 Tryz.underlying24 hj0 hy0 hy1 hy2 rfl (rowF_length _) (.slice B0 vs.length cb0) vs.length rfl HR1.out HR2.out _ 1 _ rfl (src_oneR w Tryz.underlying24 (.slice A l.length c) rfl _) (news_oneR (rowF_last vs _)) (by decide) ?_ ?_ ?_; (unfold maxLen; omega); omega; intro g3 c3 w3 hl5 hb5 hw5; have ho5 := HW1.out.only.trans hw5.only; have hrl := RowL.of_append hl5 hb5; have hblk5 := H.out.blk.same (ho5.block hk H.out.blk.lt (fun e => lab_ne (by decide) (HSELF.out.symm.trans e))); have x0 : w3.cell? ⟨hk, 0, none⟩ = some (.slice B0 vs.length cb0) := hblk5.cell 0; have x0f := hblk5.frozen 0; have HO5 := Lib.hid ho5; have HRL := Lib.hid hrl; have HB5 := Lib.hid hblk5; clear hl5 hb5 hw5 ho5 hrl hblk5)
  obtain ⟨f2, hf2⟩ : ∃ f2, f2 = relab (relab f w (12, 0)) (w.alloc (.cells #[.slice A l.length c] 29)) (12, 0) := ⟨_, rfl⟩
  rw [← hf2] at HO5 HRL
  obtain ⟨W2, hW2⟩ : ∃ W2, W2 = w3.setCell ⟨hk, 0, none⟩ (.slice (some ⟨g3, 0, none⟩) (vs.length + 1) c3) := ⟨_, rfl⟩
  have hself2 : f2 hk = (1, 0) := by rw [HO5.out.lab hk H.out.blk.lt]; exact HSELF.out
  have hput : OnlyL f2 f2 (· = (1, 0)) w3 W2 := by rw [hW2]; exact OnlyL.of_put f2 w3 _ _ hself2
  have hblk2 : Blk W2 hk 26 (heldArr (.slice (some ⟨g3, 0, none⟩) (vs.length + 1) c3) (.slice B1 ws.length cb1) n) := by
    rw [hW2]
    have := HB5.out.put 0 (.slice (some ⟨g3, 0, none⟩) (vs.length + 1) c3)
    exact this
  have hrow0 := HRL.out.apart hput (lab_ne (by decide))
  have hrow1 := (H.out.row1.apart HO5.out (lab_ne2 (by decide))).apart hput (lab_ne (by decide))
  have hoAll : OnlyL f f2 (OnB1 bs.length) w W2 := (HO5.out.mono fun l hl => by subst hl; exact .inr (.inl rfl)).trans (hput.mono fun l hl => by subst hl; exact .inl rfl)
  have hbrow2 : RowAt W2 B (bytesV l) := HBR.out.lab hoAll (fun hx a ha hp => HBL.out (fun e => hx (by rw [e]; rfl)) a ha (onB1_onH hp))
  have hbrow : RowAt W2.drew B (bytesV l) := hbrow2
  have hcp := copy_any (w := W2.drew) (A := B) (cap := cb) (l := l) hlen hbrow HBN.out
  have z1 : W2.cell? ⟨hk, 1, none⟩ = some (.slice B1 ws.length cb1) := hblk2.cell 1
  have z1d : W2.drew.cell? ⟨hk, 1, none⟩ = some (.slice B1 ws.length cb1) := z1
  have HROW0 := Lib.hid hrow0
  have HROW1 := Lib.hid hrow1
  have HALL := Lib.hid hoAll
  have HBLK2 := Lib.hid hblk2
  have HSELF2 := Lib.hid hself2
  have HCP := Lib.hid hcp
  rw [← hW2]
  clear hf2 hW2 hself2 hput hblk2 hrow0 hrow1 hoAll hbrow hbrow2 hcp x0 x0f y0
  go_cut [] (fun wx => ∃ (f3 : Nat → Lab) (wv' x : Value), OnlyL f f3 (OnB1 bs.length) w wx ∧ Blk wx hk 26 (heldArr (.slice (some ⟨g3, 0, none⟩) (vs.length + 1) c3) wv' n) ∧ RowL wx f3 (12, 0) (.slice (some ⟨g3, 0, none⟩) (vs.length + 1) c3) (vs ++ [.slice A l.length c]) ∧ RowL wx f3 (12, 1) wv' (ws ++ [x]) ∧ LotB wx x l ∧ LabV f3 x (22, bs.length))
  case first =>
    go_region_law (first
        | (refine step_append_lot rfl (.tmp 21) (.tmp 24) 24 24 rfl _ (12, 1) (rowF (ws ++ [.slice (some ⟨g4, 0, none⟩) l.length c4])) 29 j0 _ 1 24 Tryz.underlying24 hj0 hy0 hy1 hy2 rfl (rowF_length _) (.slice B1 ws.length cb1) ws.length rfl HR5.out HR6.out _ 1 _ rfl (src_oneR w4 Tryz.underlying24 (.slice (some ⟨g4, 0, none⟩) l.length c4) rfl _) (news_oneR (rowF_last ws _)) (by decide) ?_ ?_ ?_; (unfold maxLen; omega); omega; intro g7 c7 w7 hl7 hb7 hw7; have ho7 := HW5.out.only.trans hw7.only; have hrl := RowL.of_append hl7 hb7; have hblk7 := HBLK4.out.same (ho7.block hk HBLK4.out.lt (fun e => lab_ne (by decide) (HSELF4.out.symm.trans e))); have z1 : w7.cell? ⟨hk, 1, none⟩ = some (.slice B1 ws.length cb1) := hblk7.cell 1; have z1f := hblk7.frozen 1; have HO7 := Lib.hid ho7; have HRL7 := Lib.hid hrl; have HBLK7 := Lib.hid hblk7; clear hl7 hb7 hw7 ho7 hrl hblk7)
        | (go_simp; go_at_call 30; refine HCP.out.mono ?_; rintro e w4 ⟨g4, c4, rfl, hown4, hb4⟩; have hb24 : Below W2.heap.size W2 w4 := (Below.refl W2.heap.size W2).drew.trans hb4; have ho4 : OnlyL f2 (relab f2 W2 (22, bs.length)) (· = (22, bs.length)) W2 w4 := OnlyL.of_below hb24 f2 (22, bs.length) rfl; have hx4 : LotB w4 (.slice (some ⟨g4, 0, none⟩) l.length c4) l := LotB.of_row hown4; have hg4 : W2.heap.size ≤ g4 := own_ge hown4 g4 (by simp [rowBlock, Value.ownBlock]); have hxl4 : LabV (relab f2 W2 (22, bs.length)) (.slice (some ⟨g4, 0, none⟩) l.length c4) (22, bs.length) := LabV.of_eq (relab_new hg4); have hr4 := HROW1.out.apart ho4 (lab_ne (by decide)); have hblk4 := HBLK2.out.same (ho4.block hk HBLK2.out.lt (fun e => lab_ne (by decide) (HSELF2.out.symm.trans e))); have hself4 := (ho4.lab hk HBLK2.out.lt).trans HSELF2.out; have z1 : w4.cell? ⟨hk, 1, none⟩ = some (.slice B1 ws.length cb1) := hblk4.cell 1; have z1a := cell_alloc z1 (.cells #[.slice (some ⟨g4, 0, none⟩) l.length c4] 29); have hw5 : Wrote (relab f2 W2 (22, bs.length)) (relab (relab f2 W2 (22, bs.length)) w4 (12, 1)) (12, 1) 1 (rowF (ws ++ [.slice (some ⟨g4, 0, none⟩) l.length c4])) w4 (w4.alloc (.cells #[.slice (some ⟨g4, 0, none⟩) l.length c4] 29)) := Wrote.of_below ((Below.refl _ _).alloc (Nat.le_refl _) _) _ (12, 1) 1 _; have hr5 := (hr4.more (.slice (some ⟨g4, 0, none⟩) l.length c4)).conf (rowF_length _) hw5; have hr6 : LabV (relab (relab f2 W2 (22, bs.length)) w4 (12, 1)) (.slice B1 ws.length cb1) (12, 1) := hr4.lab.on hw5.only hr4.lot.lt; have HO4 := Lib.hid ho4; have HX4 := Lib.hid hx4; have HXL4 := Lib.hid hxl4; have HBLK4 := Lib.hid hblk4; have HSELF4 := Lib.hid hself4; have HW5 := Lib.hid hw5; have HR5 := Lib.hid hr5; have HR6 := Lib.hid hr6; clear hown4 hb4 hb24 ho4 hx4 hg4 hxl4 hr4 hblk4 hself4 hw5 hr5 hr6))
    all_goals
      go_wp2_with fail
      go_meet
      have hself7 := (HO7.out.lab hk HBLK4.out.lt).trans HSELF4.out
      have hp8 := OnlyL.of_put (P := (· = ((1, 0) : Lab))) _ w7 ⟨hk, 1, none⟩ (.slice (some ⟨g7, 0, none⟩) (ws.length + 1) c7) hself7
      have hblk8 := HBLK7.out.put 1 (.slice (some ⟨g7, 0, none⟩) (ws.length + 1) c7)
      have ho8 := ((HALL.out.trans (HO4.out.mono (Q := OnB1 bs.length) fun l hl => by subst hl; exact .inr (.inr (.inr rfl)))).trans (HO7.out.mono (Q := OnB1 bs.length) fun l hl => by subst hl; exact .inr (.inr (.inl rfl)))).trans (hp8.mono (Q := OnB1 bs.length) fun l hl => by subst hl; exact .inl rfl)
      have hx7 := HX4.out.apart HO7.out HXL4.out (lab_ne (by decide))
      have hxl7 := HXL4.out.on HO7.out HX4.out.lt
      have hx8 := hx7.apart hp8 hxl7 (lab_ne (by decide))
      have hxl8 := hxl7.on hp8 hx7.lt
      have hr0 := ((HROW0.out.apart HO4.out (lab_ne (by decide))).apart HO7.out (lab_ne2 (by decide))).apart hp8 (lab_ne (by decide))
      have hr1 := HRL7.out.apart hp8 (lab_ne (by decide))
      exact ⟨_, _, _, ho8, hblk8, hr0, hr1, hx8, hxl8⟩
  case rest =>
    obtain ⟨f3, wv', x, ho, hblk, hr0, hr1, hx, hxl⟩ := hcut
    obtain ⟨W4, hW4⟩ : ∃ W4, W4 = wc := ⟨_, rfl⟩
    rw [← hW4] at ho hblk hr0 hr1 hx ⊢
    have hself3 : f3 hk = (1, 0) := by rw [ho.lab hk H.out.blk.lt]; exact HSELF.out
    have hp := OnlyL.of_put (P := (· = ((1, 0) : Lab))) f3 W4 ⟨hk, 2, none⟩ (.int .i64 (n + (l.length : Int) + 140)) hself3
    have hblk5 := hblk.put 2 (.int .i64 (n + (l.length : Int) + 140))
    have ho5 := ho.trans (hp.mono (Q := OnB1 bs.length) fun l hl => by subst hl; exact .inl rfl)
    have hh5 := H.out.onBytes HL.out HV.out hlen hn hfew ho5 hblk5 (hr0.apart hp (lab_ne (by decide))) (hr1.apart hp (lab_ne (by decide))) (hx.apart hp hxl (lab_ne (by decide))) (hxl.on hp hx.lt)
    have z2 : W4.cell? ⟨hk, 2, none⟩ = some (.int .i64 n) := hblk.cell 2
    have z2f := hblk.frozen 2
    have z0 : W4.cell? ⟨hk, 0, none⟩ = some (.slice (some ⟨g3, 0, none⟩) (vs.length + 1) c3) := hblk.cell 0
    have hlv : vs.length = bs.length := H.out.len0
    have HO5' := Lib.hid ho5
    have HH5 := Lib.hid hh5
    clear hW4 ho hblk hr0 hr1 hx hxl hp hblk5 ho5 hh5 z1 z1d HCP
    by_cases hc : bs.length + 1 < 250
    · have hc1 : (vs.length : Int) + 1 < 250 := by omega
      have hc2 : vs.length + 1 < 250 := by omega
      clear hlv
      by_cases hs : n + (l.length : Int) + 140 < 2097152
      · go_wp2_with fail
        rw [← HR.out]
        exact ⟨rfl, _, _, _, _, _, _, _, HO5'.out.mono (fun l hl => onB1_onH hl), HH5.out, hs, by rw [List.length_append, List.length_singleton]; omega⟩
      · have hs1 : decide (n + (l.length : Int) + 140 < 2097152) = false := decide_eq_false hs
        have how := heldOwn_any HH5.out
        have HOW := Lib.hid how
        clear how
        go_wp2_with (go_at_call 22; refine HOW.out.mono ?_; rintro e w9 ⟨rfl, f9, ho9, hh9⟩; have HO9 := Lib.hid ho9; have HH9 := Lib.hid hh9; clear ho9 hh9)
        rw [← HR.out]
        exact ⟨rfl, _, _, _, _, _, _, _, (HO5'.out.mono (fun l hl => onB1_onH hl)).trans HO9.out, HH9.out, by decide, by decide⟩
    · have hc1 : decide ((vs.length : Int) + 1 < 250) = false := decide_eq_false (by omega)
      have hc2 : decide (vs.length + 1 < 250) = false := decide_eq_false (by omega)
      clear hlv
      have how := heldOwn_any HH5.out
      have HOW := Lib.hid how
      clear how
      go_wp2_with (go_at_call 22; refine HOW.out.mono ?_; rintro e w9 ⟨rfl, f9, ho9, hh9⟩; have HO9 := Lib.hid ho9; have HH9 := Lib.hid hh9; clear ho9 hh9)
      rw [← HR.out]
      exact ⟨rfl, _, _, _, _, _, _, _, (HO5'.out.mono (fun l hl => onB1_onH hl)).trans HO9.out, HH9.out, by decide, by decide⟩
end Go.Proofs.YtnbeeehfapjpdaaGreatDoor
end
