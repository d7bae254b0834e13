/- Walk of the document's Line: a line with a verb. Walk of the document's Line: any line. -/
import Derived.Test.YthgfjafnclklpaaGreatDoorQ33
import Derived.Deep.RegionHeld3
section
namespace Go.Proofs.YthgfjafnclklpaaGreatDoor
attribute [local go_sem ↓] Go.wp_at_zero Go.wp_at_succ
open Go.RowKit Sp
attribute [-go_sem] storeVar loadVar
theorem loadVar_intU (a : Addr) : type_of% (loadVar.eq_1 3 a) := loadVar.eq_1 3 a
theorem loadVar_boolU (a : Addr) : type_of% (loadVar.eq_1 4 a) := loadVar.eq_1 4 a
theorem loadVar_strU (a : Addr) : type_of% (loadVar.eq_1 9 a) := loadVar.eq_1 9 a
attribute [local go_sem] loadVar_intU loadVar_boolU loadVar_strU run_store_cmd run_store_wrong storeVar_int' storeVar_bool' storeVar_slice' storeVar_str' canPut_setCell canPut_drew canPut_alloc canPut_setCells cell_setCells_far World.frozen?_setCells

theorem run_store_rowRef (w : World) (z : Array Value) (hz : z.size = 6) (v : Int) (s : ByteArray) (n : Int) (a b c : Bool) :
    (storeVar 86 ⟨w.heap.size, 0, none⟩ (.agg #[.int .i64 v, .string s, .int .i64 n, .bool a, .bool b, .bool c])).run Tryz.prog (w.alloc (.cells z 86)) = .ok () (w.alloc (.cells #[.int .i64 v, .string s, .int .i64 n, .bool a, .bool b, .bool c] 86)) :=
  run_storeVar_new w _ _ _ (by kernel_rfl) hz (by simp [Value.oneCell'])
theorem run_store_cmdRef (w : World) (z : Array Value) (hz : z.size = 11) (v : Int) (kp : Option Addr) (kn kc : Nat) (fl ex tk dl : Int) (dp : Option Addr) (dn dc : Nat) (nr lg : Bool) (mp : Option Addr) (mn mc : Nat) (wh : ByteArray) :
    (storeVar 38 ⟨w.heap.size, 0, none⟩ (.agg #[.int .i64 v, .slice kp kn kc, .int .u64 fl, .int .i64 ex, .int .u64 tk, .int .u64 dl, .slice dp dn dc, .bool nr, .bool lg, .slice mp mn mc, .string wh])).run Tryz.prog (w.alloc (.cells z 38)) =
      .ok () (w.alloc (.cells #[.int .i64 v, .slice kp kn kc, .int .u64 fl, .int .i64 ex, .int .u64 tk, .int .u64 dl, .slice dp dn dc, .bool nr, .bool lg, .slice mp mn mc, .string wh] 38)) :=
  run_storeVar_new w _ _ _ (by kernel_rfl) hz (by simp [Value.oneCell'])
attribute [local go_sem] run_store_rowRef run_store_cmdRef

theorem places_all : ∀ v : Fin 24, (rowBy (v.val + 1)).places.length ≤ 10 := by decide +kernel
theorem places_few {v : Nat} (h1 : 1 ≤ v) (h2 : v ≤ 24) : (rowBy v).places.length ≤ 10 := by
  have := places_all ⟨v - 1, by omega⟩
  rwa [show (⟨v - 1, by omega⟩ : Fin 24).val + 1 = v by show v - 1 + 1 = v; omega] at this
theorem info_strU : (Tryz.prog.info? 9).map (fun i => (i.zero, i.size, i.bytes)) = some (some (.string ⟨#[]⟩), 1, 16) := by kernel_rfl
theorem run_slice_one (W : World) (A : Option Addr) (n cap : Nat) :
    (Instr.slice 33 (.slice A (n + 1) cap) (some (.int .i64 1)) none none).run Tryz.prog W = .ok (.slice (cutAddr A 1 cap) n (cap - 1)) W := by
  obtain ⟨i0, hi, _, hz1, _⟩ := info_parts info_strU
  have he : Tryz.prog.elem 33 = 9 := by kernel_rfl
  have hu : Tryz.prog.underlying 33 = some (.slice (Tryz.prog.elem 33)) := by kernel_rfl
  rw [run_slice_l (P := Tryz.prog) W 33 A (n + 1) cap hu .i64 (1 : Int) (by omega) (by omega), he]
  have hs : (sizeOf 9).run Tryz.prog W = .ok 1 W := by simp [sizeOf, typeInfo, hi, hz1]
  rw [hs]
  simp [Result.andThen, sliced, cutAddr]

theorem RowAt.takeU {w : World} {A : Option Addr} {xs : List Value} (h : RowAt w A xs) (n : Nat) : RowAt w A (xs.take n) := by
  rcases h with h | ⟨g, o, h1, h2, h3⟩
  · left; rw [h]; simp
  · exact .inr ⟨g, o, h1, h2, fun j u hu => h3 j u (by
      rw [List.getElem?_take] at hu
      split at hu
      · exact hu
      · cases hu)⟩
theorem held_alloc {w : World} {a b : Addr} {g : Nat} {u v : Value} {cl : List Value} (h : w.cell? a = some u ∧ w.cell? b = some v ∧ w.rangeAt g 0 cl) (o : Obj) : (w.alloc o).cell? a = some u ∧ (w.alloc o).cell? b = some v ∧ (w.alloc o).rangeAt g 0 cl :=
  have hb := (Below.refl w.heap.size w).alloc (Nat.le_refl _) o
  ⟨cell_below2 h.1 hb, cell_below2 h.2.1 hb, range_below h.2.2 hb⟩
theorem held_below {w w' : World} {n g1 g2 o1 o2 g : Nat} {u v : Value} {cl : List Value} (h : w.cell? ⟨g1, o1, none⟩ = some u ∧ w.cell? ⟨g2, o2, none⟩ = some v ∧ w.rangeAt g 0 cl) (hb : Below n w w') (h1 : g1 < n) (h2 : g2 < n) (h3 : g < n) : w'.cell? ⟨g1, o1, none⟩ = some u ∧ w'.cell? ⟨g2, o2, none⟩ = some v ∧ w'.rangeAt g 0 cl :=
  ⟨(World.cell?_of_block (a := ⟨g1, o1, none⟩) (hb.block g1 h1)).trans h.1, (World.cell?_of_block (a := ⟨g2, o2, none⟩) (hb.block g2 h2)).trans h.2.1, fun j x hx => (World.cell?_of_block (a := ⟨g, 0 + j, none⟩) (hb.block g h3)).trans (h.2.2 j x hx)⟩
theorem held_allocD {w : World} {a b : Addr} {g : Nat} {u v : Value} {cl : List Value} (h : w.cell? a = some u ∧ w.cell? b = some v ∧ w.rangeAt g 0 cl) (o : Obj) : (w.alloc o).drew.cell? a = some u ∧ (w.alloc o).drew.cell? b = some v ∧ (w.alloc o).drew.rangeAt g 0 cl := held_alloc h o
theorem held_cells {w : World} {n m g1 g2 o1 o2 g : Nat} {u v : Value} {cl : List Value} (h : w.cell? ⟨g1, o1, none⟩ = some u ∧ w.cell? ⟨g2, o2, none⟩ = some v ∧ w.rangeAt g 0 cl) (h1 : g1 < n) (h2 : g2 < n) (h3 : g < n) (hn : n ≤ m) (xs : List Value) : (w.setCells m 0 xs).cell? ⟨g1, o1, none⟩ = some u ∧ (w.setCells m 0 xs).cell? ⟨g2, o2, none⟩ = some v ∧ (w.setCells m 0 xs).rangeAt g 0 cl :=
  held_below h (Below.setCells hn xs 0 (Below.refl n w)) h1 h2 h3
theorem worded_blk {wr w2 : World} {base : Nat} {c : CmdV} {kv mv : Value} (ho : CmdOwn wr base c kv mv)
    (hj : ∀ j, j < (wr.alloc (.cells #[.int .i64 0, .slice none 0 0, .int .u64 0, .int .i64 0, .int .u64 0, .int .u64 0, .slice none 0 0, .bool false, .bool false, .slice none 0 0, .string ⟨#[]⟩] 38)).drew.heap.size → j ∉ rowBlock kv → j ∉ rowBlock mv → w2.heap[j]? = (wr.alloc (.cells #[.int .i64 0, .slice none 0 0, .int .u64 0, .int .i64 0, .int .u64 0, .int .u64 0, .slice none 0 0, .bool false, .bool false, .slice none 0 0, .string ⟨#[]⟩] 38)).drew.heap[j]?) :
    Blk w2 wr.heap.size 38 (cmdArr {} nilRow nilRow nilRow) := by
  have hk : Blk (wr.alloc (.cells #[.int .i64 0, .slice none 0 0, .int .u64 0, .int .i64 0, .int .u64 0, .int .u64 0, .slice none 0 0, .bool false, .bool false, .slice none 0 0, .string ⟨#[]⟩] 38)).drew wr.heap.size 38 (cmdArr {} nilRow nilRow nilRow) := (Blk.new wr _ _).drew
  exact hk.same (hj _ hk.lt (fun h => Nat.lt_irrefl _ (own_lt ho.keys _ h)) (fun h => Nat.lt_irrefl _ (own_lt ho.metas _ h)))
/-- where Line stands behind the verb and the noreply: its boxes, the row, the command, the words -/
structure LineAt (w : World) (vb : Nat) (nr : Bool) (zs : Bs) (r : RowV) (g6 g8 : Nat) (A : Option Addr) (ws : List Bs) (W : World) : Prop where
  boxes : LineBoxes w W
  row : Blk W g6 86 #[.int .i64 vb, str zs, .int .i64 r.least, .bool r.more, .bool r.noreply, .bool r.block]
  cmd : Blk W g8 38 (cmdArr { verb := vb, noreply := nr } nilRow nilRow nilRow)
  words : ∀ V : World, (∀ k, k < g8 → V.heap[k]? = W.heap[k]?) → W.heap.size ≤ V.heap.size → RowAt V A (ws.map str)

set_option maxHeartbeats 3000000 in
set_option maxRecDepth 100000 in
theorem refLine11_some {w : World} {A : Option Addr} {cap : Nat} {l v : Bs} {ws : List Bs} {vb : Nat} (hrow : RowAt w A (bytesV l)) (hl : l.length ≤ 2048) (hw : wordsOf l = v :: ws) (h1 : 1 ≤ vb) (h2 : vb ≤ 24) (hv : wordBy vb = v) :
    Calls Tryz.prog 17 #[.slice A l.length cap] w (LineEnd w (rest (rowBy vb) ws)) := by
  generalize hR : LineEnd w (rest (rowBy vb) ws) = R
  have hB0 := LineBoxes.new w
  obtain ⟨W, hW⟩ : ∃ W, W = (w.alloc (.cells #[.int .i64 0, .slice none 0 0, .int .u64 0, .int .i64 0, .int .u64 0, .int .u64 0, .slice none 0 0, .bool false, .bool false, .slice none 0 0, .string ⟨#[]⟩] 38)).alloc (.cells #[.int .i64 0, .string ⟨#[]⟩, .int .i64 0] 59) := ⟨_, rfl⟩
  replace hB0 : LineBoxes w W := by rw [hW]; exact hB0
  have hcv := run_bytes_str (cap := cap) (hrow.below hB0.below)
  have hwd := refWords_any l W (by omega)
  have hmem : ∀ x ∈ ws, x ≠ [] ∧ x.length ≤ 2048 := fun x hx => by
    have := wordsOf_mem (l := l) (w := x) (by rw [hw]; exact List.mem_cons_of_mem _ hx)
    exact ⟨this.1, by omega⟩
  rw [hw] at hwd
  have hvo : ∀ W' : World, Calls Tryz.prog 60 #[str v] W' fun e w' => e = .returned (.int .i64 vb) ∧ Below W'.heap.size W' w' := fun W' => by
    have := refVerbOf_any v W'
    rwa [show verbV v = vb from by
      obtain ⟨e1, e2⟩ := rowOf_first h1 h2 hv
      unfold verbV; rw [e1]; exact e2] at this
  have hro := fun W' : World => refRowOf_any vb W' h1 h2
  obtain ⟨r, hr⟩ : ∃ r, r = rowBy vb := ⟨_, rfl⟩
  obtain ⟨zs, hzs⟩ : ∃ zs, zs = zeds r.places := ⟨_, rfl⟩
  rw [← hr] at hro hR
  simp only [refRow, ← hzs] at hro
  have HW := Lib.hid hW
  have HB0 := Lib.hid hB0
  have HWD := Lib.hid hwd
  have HVO := Lib.hid hvo
  have HRO := Lib.hid hro
  have hpa := fun (A2 : Option Addr) (cap2 : Nat) (W' : World) (hr : RowAt W' A2 (ws.map str)) => refPassOf_any (w := W') (cap := cap2) (v := vb) h1 h2 hr (by have := wordsOf_count l; rw [hw] at this; rw [List.length_cons] at this; omega) (fun x hx => by have := (hmem x hx).2; omega)
  rw [← hr] at hpa
  simp only [refRow, ← hzs] at hpa
  have HPA := Lib.hid hpa
  have HR := Lib.hid hR
  have HMEM := Lib.hid hmem
  have HRR := Lib.hid hr
  have HVB := Lib.hid (show r.verb = vb by rw [hr]; exact rowBy_verb h1 h2)
  have HZL := Lib.hid (show zs.length = r.places.length by rw [hzs]; exact zeds_length _)
  have HWS := Lib.hid (show ws.length ≤ 2048 by have := wordsOf_count l; rw [hw, List.length_cons] at this; omega)
  have g1 : decide ((2048 : Int) < (l.length : Int)) = false := decide_eq_false (by omega)
  have hp3 : (((ws.length : Int) + 1) == 0) = false := by rw [beq_eq_false_iff_ne]; omega
  have hvb : ((vb : Int) == 0) = false := by rw [beq_eq_false_iff_ne]; omega
  have HZS := Lib.hid hzs
  clear hW hB0 hwd hvo hro hR hmem hrow hw hr hzs hv hpa
  go_enter Tryz.func17, Tryz.ntmps17
  go_upto_region 1 with fail
  rw [← HW.out]
  go_upto_region 7 with (first | (go_at_call 59; refine HWD.out.mono ?_; rintro e w1 ⟨A1, c1, rfl, hown1, hb1⟩; have hrw := RowAt.of_own hown1; have hroom := (own_room3 hown1).1; obtain ⟨ga, oa, hA1, hc1⟩ := words_at hrw (k := 0) (x := v) rfl; rw [Nat.add_zero] at hc1; subst hA1; have hbx := HB0.out.later hb1; clear hb1 hown1) | (go_at_call 60; refine (HVO.out _).mono ?_; rintro e w2 ⟨rfl, hb2⟩; have hc1 : w2.cell? ⟨ga, oa, none⟩ = some (str v) := cell_below2 hc1 hb2; have hrw := hrw.below hb2; have hbx := hbx.later hb2; clear hb2) | (go_at_call 41; refine (HRO.out _).mono ?_; rintro e w4 ⟨rfl, hb4⟩; have hrw := hrw.below hb4; have hbx := hbx.later hb4; clear hb4 hc1))
  have hrow5 : RowAt (w4.alloc (.cells #[.int .i64 vb, str zs, .int .i64 r.least, .bool r.more, .bool r.noreply, .bool r.block] 86)) (cutAddr (some ⟨ga, oa, none⟩) 1 c1) (ws.map str) := (RowAt.cut hrw (a := 1) (by rw [List.length_map]; exact hroom)).alloc _
  have hbx5 := hbx.later ((Below.refl w4.heap.size w4).alloc (Nat.le_refl _) (.cells #[.int .i64 vb, str zs, .int .i64 r.least, .bool r.more, .bool r.noreply, .bool r.block] 86))
  have hrb5 := Blk.new w4 86 #[.int .i64 vb, str zs, .int .i64 r.least, .bool r.more, .bool r.noreply, .bool r.block]
  rw [List.length_cons] at hroom
  have HRO1 := Lib.hid hroom
  obtain ⟨B, hBB⟩ : ∃ B, B = cutAddr (some ⟨ga, oa, none⟩) 1 c1 := ⟨_, rfl⟩
  have hsl : ∀ W : World, (Instr.slice 33 (.slice (some ⟨ga, oa, none⟩) (ws.length + 1) c1) (some (.int .i64 1)) none none).run Tryz.prog W = .ok (.slice B ws.length (c1 - 1)) W := fun W => by rw [hBB]; exact run_slice_one W _ _ _
  rw [← hBB] at hrow5
  have hpa := HPA.out B (c1 - 1) _ hrow5
  obtain ⟨g6, hg6⟩ : ∃ g6, g6 = w4.heap.size := ⟨_, rfl⟩
  obtain ⟨w5, hw5⟩ : ∃ w5, w5 = w4.alloc (.cells #[.int .i64 vb, str zs, .int .i64 r.least, .bool r.more, .bool r.noreply, .bool r.block] 86) := ⟨_, rfl⟩
  rw [← hw5] at hrow5 hbx5 hrb5 hpa
  rw [← hg6] at hrb5
  have hgo : (w4.alloc (.cells #[.int .i64 vb, .string ⟨zs.toArray⟩, .int .i64 r.least, .bool r.more, .bool r.noreply, .bool r.block] 86)) = w5 := hw5.symm
  rw [hgo, ← hg6]
  have q0 : w5.cell? ⟨g6, 0, none⟩ = some (.int .i64 vb) := hrb5.cell 0
  have q1 : w5.cell? ⟨g6, 1, none⟩ = some (str zs) := hrb5.cell 1
  have q2 : w5.cell? ⟨g6, 2, none⟩ = some (.int .i64 r.least) := hrb5.cell 2
  have q3 : w5.cell? ⟨g6, 3, none⟩ = some (.bool r.more) := hrb5.cell 3
  have q4 : w5.cell? ⟨g6, 4, none⟩ = some (.bool r.noreply) := hrb5.cell 4
  have q5 : w5.cell? ⟨g6, 5, none⟩ = some (.bool r.block) := hrb5.cell 5
  have HROW5 := Lib.hid hrow5
  have HBX5 := Lib.hid hbx5
  have HRB5 := Lib.hid hrb5
  have HG6 := Lib.hid (show w.heap.size + 1 < g6 by rw [hg6]; exact hbx.wrong.lt)
  have HPA5 := Lib.hid hpa
  clear hrow5 hbx5 hrb5 hpa hrw hbx hw5 hgo hg6 hBB
  have hld : (loadVar 86 ⟨g6, 0, none⟩).run Tryz.prog w5 = .ok (.agg #[.int .i64 vb, str zs, .int .i64 r.least, .bool r.more, .bool r.noreply, .bool r.block]) w5 :=
    run_loadVar_mid (P := Tryz.prog) w5 g6 0 86 [.int .i64 vb, str zs, .int .i64 r.least, .bool r.more, .bool r.noreply, .bool r.block] _ (fun j v hv => by rw [Nat.zero_add, HRB5.out.cell j]; simpa using hv) Tryz.underlying86 rfl (by kernel_rfl)
  go_upto_region 8 with fail
  clear q0 q1 q2 q3 q4 q5
  go_upto_region 9 with (go_at_call 61; refine HPA5.out.mono ?_; rintro e w6 ⟨rfl, hb6⟩; have hrb6 := HRB5.out.later hb6; have hbx6 := HBX5.out.later hb6; have hrow6 := HROW5.out.below hb6; have q0 : w6.cell? ⟨g6, 0, none⟩ = some (.int .i64 vb) := hrb6.cell 0; have HRB6 := Lib.hid hrb6; have HBX6 := Lib.hid hbx6; have HROW6 := Lib.hid hrow6; clear hb6 hrb6 hbx6 hrow6)
  go_upto_region 10 with fail
  obtain ⟨g8, hg8⟩ : ∃ g8, g8 = w6.heap.size := ⟨_, rfl⟩
  obtain ⟨W7, hW7⟩ : ∃ W7, W7 = w6.alloc (.cells #[.int .i64 vb, .slice none 0 0, .int .u64 0, .int .i64 0, .int .u64 0, .int .u64 0, .slice none 0 0, .bool false, .bool false, .slice none 0 0, .string ⟨#[]⟩] 38) := ⟨_, rfl⟩
  rw [← hW7, ← hg8]
  have hb7 : Below w6.heap.size w6 W7 := by rw [hW7]; exact (Below.refl _ _).alloc (Nat.le_refl _) _
  have hk8 : Blk W7 g8 38 (cmdArr { verb := vb } nilRow nilRow nilRow) := by rw [hW7, hg8]; exact Blk.new w6 _ _
  have hrb7 := HRB6.out.later hb7
  have hbx7 := HBX6.out.later hb7
  have hrow7 := HROW6.out.below hb7
  have hge8 : w.heap.size + 1 < g8 := by rw [hg8]; exact HBX6.out.wrong.lt
  have hge6 : w.heap.size + 1 < g6 := HG6.out
  have hne68 : g6 ≠ g8 := by rw [hg8]; exact Nat.ne_of_lt HRB6.out.lt
  obtain ⟨nr, hnr⟩ : ∃ nr, nr = isNoreply r ws := ⟨_, rfl⟩
  have q2 : W7.cell? ⟨g6, 2, none⟩ = some (.int .i64 r.least) := hrb7.cell 2
  have q4 : W7.cell? ⟨g6, 4, none⟩ = some (.bool r.noreply) := hrb7.cell 4
  have HK8 := Lib.hid hk8
  have HRB7 := Lib.hid hrb7
  have HBX7 := Lib.hid hbx7
  have HROW7 := Lib.hid hrow7
  have HGE := Lib.hid (And.intro hge8 (And.intro hge6 hne68))
  have HNR := Lib.hid hnr
  have HB67 := Lib.hid (And.intro hb7 hg8)
  clear hW7 hg8 hb7 hk8 hrb7 hbx7 hrow7 hge8 hge6 hne68 hnr q0 hld hsl g1 hp3 hvb
  go_cut [73] (fun b wx => b = .bool nr ∧ wx = W7)
  case first =>
    have hnr := HNR.out
    unfold isNoreply at hnr
    by_cases hrn : r.noreply = false
    · rw [hrn] at hnr q4
      have hz : nr = false := by rw [hnr]; rfl
      clear hnr hrn
      subst hz
      go_wp2_with fail
      go_meet
      exact ⟨rfl, rfl⟩
    · replace hrn : r.noreply = true := by simpa using hrn
      rw [hrn] at hnr q4
      by_cases h1 : r.least + 1 ≤ ws.length
      · obtain ⟨n, hn⟩ : ∃ n, ws.length = n + 1 := ⟨ws.length - 1, by omega⟩
        obtain ⟨x, hx⟩ : ∃ x, ws[n]? = some x := ⟨ws[n]'(by omega), List.getElem?_eq_getElem _⟩
        have hlast : ws.getLast? = some x := by rw [List.getLast?_eq_getElem?, hn]; exact hx
        rw [decide_eq_true h1, hlast] at hnr
        have hn1 : (r.least : Int) ≤ (n : Int) := by omega
        have hxl := (HMEM.out x (List.mem_of_getElem? hx)).2
        obtain ⟨gb, ob, hB, hcx⟩ := words_at HROW7.out hx
        subst hB
        have hws : ws.length ≤ 2048 := HWS.out
        have hix : ((ws.length : Int) - 1).toNat = n := by omega
        have hi0 : (1 : Int) ≤ (ws.length : Int) := by omega
        have hi00 : 0 < ws.length := by omega
        have hi1 : (ws.length : Int) - 1 < (ws.length : Int) := by omega
        have hn3 : (r.least : Int) ≤ (ws.length : Int) - 1 := by omega
        have hn2 : n ≤ 2048 := by omega
        by_cases hxq : x = noreplyW
        · have hz : nr = true := by rw [hnr, hxq]; rfl
          subst hxq
          clear hnr hrn hlast hx hn h1
          subst hz
          go_wp2_with fail
          go_meet
          exact ⟨rfl, rfl⟩
        · have hz : nr = false := by rw [hnr]; simp [hxq]
          have hq1 : (x == [110, 111, 114, 101, 112, 108, 121]) = false := by rw [beq_eq_false_iff_ne]; exact hxq
          clear hnr hrn hlast hx hn h1 hxq
          subst hz
          go_wp2_with fail
          go_meet
          exact ⟨rfl, rfl⟩
      · have hz : nr = false := by rw [hnr, decide_eq_false h1]; rfl
        have hd : decide ((r.least : Int) ≤ (ws.length : Int) - 1) = false := decide_eq_false (by omega)
        have hws : ws.length ≤ 2048 := HWS.out
        clear hnr hrn h1
        subst hz
        go_wp2_with fail
        go_meet
        exact ⟨rfl, rfl⟩
  case rest =>
    obtain ⟨rfl, rfl⟩ := hcut
    go_upto_if 73 with (fail)
    go_cut [5] (fun v wx => ∃ A5 c5, v = .slice A5 (if nr then ws.dropLast else ws).length c5 ∧ (if nr then ws.dropLast else ws).length ≤ c5 ∧ LineAt w vb nr zs r g6 g8 A5 (if nr then ws.dropLast else ws) wx)
    case first =>
      cases nr with
      | false =>
        go_wp2_with fail
        go_meet
        exact ⟨B, c1 - 1, rfl, by have := HRO1.out; simp; omega, HBX7.out, HRB7.out, HK8.out, fun V hk hs => HROW6.out.heapEq (fun k hk2 => (hk k (by rw [HB67.out.2]; exact hk2)).trans (HB67.out.1.block k hk2)) (Nat.le_trans HB67.out.1.size hs)⟩
      | true =>
        obtain ⟨n, hn⟩ : ∃ n, ws.length = n + 1 := by
          have hnr := HNR.out
          unfold isNoreply at hnr
          cases ws with
          | nil => simp at hnr
          | cons a b => exact ⟨b.length, rfl⟩
        have hx7 := HK8.out.cell 7
        change _ = some (Value.bool false) at hx7
        have hx7f := HK8.out.frozen 7
        have hcp : n ≤ c1 - 1 := by have := HRO1.out; omega
        have hcp2 : (n : Int) ≤ ((c1 - 1 : Nat) : Int) := by omega
        have hdl : ws.dropLast.length = n := by rw [List.length_dropLast, hn]; rfl
        have hn2 : n ≤ 2048 := by have := HWS.out; omega
        have HDL := Lib.hid hdl
        have HN := Lib.hid hn
        clear hdl
        have hi0 : (1 : Int) ≤ (ws.length : Int) := by omega
        have hi3 : ((ws.length : Int) - 1).toNat = n := by omega
        have hi4 : (ws.length : Int) - 1 ≤ ((c1 - 1 : Nat) : Int) := by omega
        clear hn hcp hcp2
        go_wp2_with fail
        go_meet
        refine ⟨B, c1 - 1, ?_, ?_, ?_⟩
        · have := HDL.out; simp [this]
        · have h1 := HDL.out; have h2 := HN.out; have h3 := HRO1.out; simp; omega
        · have hput := HK8.out.put 7 (.bool true)
          have hbw := HBX7.out
          refine ⟨⟨hbw.cmd.far (by have := HGE.out.1; show w.heap.size ≠ g8; omega) _, hbw.wrong.far (by have := HGE.out.1; show w.heap.size + 1 ≠ g8; omega) _, hbw.below.setCell (by have := HGE.out.1; show w.heap.size ≤ g8; omega) _⟩, HRB7.out.far HGE.out.2.2 _, hput, ?_⟩
          intro V hk hs
          simp only [if_true]
          rw [List.dropLast_eq_take, List.map_take]
          refine RowAt.takeU (HROW6.out.heapEq (fun k hk2 => ((hk k (by rw [HB67.out.2]; exact hk2)).trans (Below.heap_setCell wc ⟨g8, 7, none⟩ _ k (by show k ≠ g8; rw [HB67.out.2]; omega))).trans (HB67.out.1.block k hk2)) (Nat.le_trans HB67.out.1.size (Nat.le_trans (by simp [World.setCell]) hs))) _
    case rest =>
      obtain ⟨A5, c5, rfl, hlc, hla⟩ := hcut
      obtain ⟨wq, hwq⟩ : ∃ wq, wq = if nr then ws.dropLast else ws := ⟨_, rfl⟩
      rw [← hwq] at hlc hla ⊢
      obtain ⟨bad, hbad⟩ : ∃ bad, bad = (decide (wq.length < r.least) || (decide (r.places.length < wq.length) && !r.more)) := ⟨_, rfl⟩
      have hres : rest r ws = if bad then .bad ⟨2, badFormat, passOf r ws⟩ else match wordsAt r.places 0 { verb := vb, noreply := nr } (-1) wq with | .ok (c, b) => .ok c b | .error e => .bad ⟨2, e, passOf r ws⟩ := by
        have hnr := HNR.out
        have hvb := HVB.out
        unfold rest
        simp only [← hnr, ← hwq, hvb]
        by_cases hc : wq.length < r.least ∨ (r.places.length < wq.length ∧ r.more = false)
        · have : bad = true := by
            rw [hbad]
            rcases hc with h | ⟨h, h2⟩
            · simp [h]
            · simp [h, h2]
          rw [if_pos hc, this, if_pos rfl]
        · have : bad = false := by
            rw [hbad]
            rw [not_or] at hc
            simp only [hc.1, decide_false, Bool.false_or]
            by_cases h2 : r.places.length < wq.length
            · have : r.more = true := by
                cases hm : r.more with
                | true => rfl
                | false => exact absurd ⟨h2, hm⟩ hc.2
              simp [this]
            · simp [h2]
          rw [if_neg hc, this, if_neg (by decide)]
          cases wordsAt r.places 0 { verb := vb, noreply := nr } (-1) wq <;> rfl
      have hwl : wq.length ≤ 2048 := by
        have := HWS.out
        rw [hwq]; split
        · rw [List.length_dropLast]; omega
        · exact this
      have hmq : ∀ x ∈ wq, x ≠ [] ∧ x.length ≤ 2048 := fun x hx => HMEM.out x (by
        rw [hwq] at hx; split at hx
        · exact List.dropLast_subset ws hx
        · exact hx)
      have hzl : zs.length = r.places.length := HZL.out
      have q1 : wc.cell? ⟨g6, 1, none⟩ = some (str zs) := hla.row.cell 1
      have q2 : wc.cell? ⟨g6, 2, none⟩ = some (.int .i64 r.least) := hla.row.cell 2
      have q3 : wc.cell? ⟨g6, 3, none⟩ = some (.bool r.more) := hla.row.cell 3
      have HLA := Lib.hid hla
      have HRES := Lib.hid hres
      have HBAD := Lib.hid hbad
      have HMQ := Lib.hid hmq
      have HLC := Lib.hid hlc
      have HZL2 := Lib.hid hzl
      clear hla hres hbad hmq hlc hwq hzl
      go_upto_region 13 with fail
      go_cut [97] (fun b wx => b = .bool bad ∧ wx = wc)
      case first =>
        have hb := HBAD.out
        by_cases h1 : wq.length < r.least
        · have hz : bad = true := by rw [hb, decide_eq_true h1]; rfl
          have hi1 : (wq.length : Int) < (r.least : Int) := by omega
          subst hz
          clear hb h1
          go_wp2_with fail
          go_meet
          exact ⟨rfl, rfl⟩
        · have hi1 : decide (wq.length < r.least) = false := decide_eq_false h1
          rw [decide_eq_false h1, Bool.false_or] at hb
          have hzl := HZL2.out
          by_cases h2 : r.places.length < wq.length
          · rw [decide_eq_true h2, Bool.true_and] at hb
            have hi2 : zs.length < wq.length := by omega
            have hi4 : (zs.length : Int) < (wq.length : Int) := by omega
            have HB := Lib.hid hb
            clear hb h1 h2 hzl
            go_wp2_with fail
            go_meet
            exact ⟨congrArg Value.bool HB.out.symm, rfl⟩
          · rw [decide_eq_false h2, Bool.false_and] at hb
            have hi2 : decide ((zs.length : Int) < (wq.length : Int)) = false := decide_eq_false (by omega)
            have hi3 : decide (zs.length < wq.length) = false := decide_eq_false (by omega)
            have HB := Lib.hid hb
            clear hb h1 h2 hzl
            go_wp2_with fail
            go_meet
            exact ⟨congrArg Value.bool HB.out.symm, rfl⟩
      case rest =>
        obtain ⟨rfl, rfl⟩ := hcut
        cases bad with
        | true =>
          have hfin : ∀ W', Below w.heap.size w W' → R (.returned (.tuple #[.agg (cmdArr {} nilRow nilRow nilRow), .int .i64 (-1), .agg (wrongArr ⟨2, badFormat, passOf r ws⟩)])) W' := fun W' hb => by rw [← HR.out, HRES.out]; exact ⟨_, _, _, _, _, rfl, hb, rfl, rfl, rfl, rfl, rfl⟩
          have hwr : Calls Tryz.prog 58 #[str badFormat, .int .i64 (passOf r ws)] wc fun e w' => e = .returned (.tuple #[.agg #[.int .i64 0, .slice none 0 0, .int .u64 0, .int .i64 0, .int .u64 0, .int .u64 0, .slice none 0 0, .bool false, .bool false, .slice none 0 0, .string ⟨#[]⟩], .int .i64 (-1), .agg #[.int .i64 2, str badFormat, .int .i64 (passOf r ws)]]) ∧ Below wc.heap.size wc w' := refWrong_any badFormat (passOf r ws) wc
          have HWR := Lib.hid hwr
          have HFIN := Lib.hid hfin
          clear hwr hfin
          go_wp2_with (go_at_call 58; refine HWR.out.mono ?_; rintro e w8 ⟨rfl, hb8⟩; have hbx := HLA.out.boxes.later hb8; have c2 : canPut w8 w.heap.size 0 11 = true := hbx.cmd.can 0 11 (by decide); have c4 : canPut w8 (w.heap.size + 1) 0 3 = true := hbx.wrong.can 0 3 (by decide); have HBX := Lib.hid hbx; have hput := hbx.put {} nilRow nilRow nilRow ⟨2, badFormat, passOf r ws⟩; have c4' : canPut (w8.setCells w.heap.size 0 [.int .i64 0, .slice none 0 0, .int .u64 0, .int .i64 0, .int .u64 0, .int .u64 0, .slice none 0 0, .bool false, .bool false, .slice none 0 0, .string ⟨#[]⟩]) (w.heap.size + 1) 0 3 = true := (Blk.farCells w.heap.size (by omega) (cmdList {} nilRow nilRow nilRow) 0 hbx.wrong).can 0 3 (by decide); have HPUT := Lib.hid hput; clear hb8 hbx hput)
          exact bodyPost_ret (line11_results HPUT.out.1 HPUT.out.2.1 _ rfl rfl rfl) rfl (HFIN.out _ HPUT.out.2.2)
        | false =>
          have hst : LineLoop wc g8 { verb := vb, noreply := nr } nilRow nilRow wc := ⟨Only.refl _ _ _, HLA.out.cmd, CmdOwn.zero _ _ _ _⟩
          have HST := Lib.hid hst
          have hg8 := HLA.out.cmd.lt
          have hg6 := HLA.out.row.lt
          have HG8 := Lib.hid (And.intro hg8 hg6)
          obtain ⟨ps, hps⟩ : ∃ ps, ps = r.places := ⟨_, rfl⟩
          have HPS := Lib.hid hps
          have HPL := Lib.hid (show ∀ m, m < ps.length → ps.getD m 0 = 75 ∨ ps.getD m 0 = 70 ∨ ps.getD m 0 = 84 ∨ ps.getD m 0 = 78 ∨ ps.getD m 0 = 67 ∨ ps.getD m 0 = 68 ∨ ps.getD m 0 = 86 ∨ ps.getD m 0 = 87 ∨ ps.getD m 0 = 71 ∨ ps.getD m 0 = 83 ∨ ps.getD m 0 = 48 from fun m hm => by
            have e : ps = (rowBy vb).places := by rw [hps, HRR.out]
            rw [e] at hm ⊢
            exact place_of h1 h2 hm)
          clear hst hg8 hg6 hps
          go_wp2_with fail
          go_loopw [9, 10, 11, 12, 13, 14] (fun bv iv _ _ _ _ wr => ∃ (i : Nat) (b : Int) (c : CmdV) (kv mv : Value), i ≤ wq.length ∧ iv = .int .i64 i ∧ bv = .int .i64 b ∧ LineLoop wc g8 c kv mv wr ∧ Hid (wordsAt ps 0 { verb := vb, noreply := nr } (-1) wq = wordsAt ps i c b (wq.drop i)) ∧ c.keys.length ≤ i ∧ c.metas.length ≤ i ∧ Hid (∀ f ∈ c.metas, f.arg.length ≤ 2048)) (fun _ iv _ _ _ _ _ => wq.length - (intOf iv).toNat)
          case atStart => exact ⟨0, -1, _, nilRow, nilRow, Nat.zero_le _, rfl, rfl, HST.out, Lib.hid rfl, Nat.le_refl _, Nat.le_refl _, Lib.hid (fun f hf => by cases hf)⟩
          case round =>
            obtain ⟨i, b, c, kv, mv, hi, rfl, rfl, hl, HWA, hkl, hml, HFA⟩ := hrel
            by_cases hlt : i < wq.length
            · obtain ⟨x, hx⟩ : ∃ x, wq[i]? = some x := ⟨wq[i], List.getElem?_eq_getElem hlt⟩
              obtain ⟨hxn, hxl⟩ := HMQ.out x (List.mem_of_getElem? hx)
              have hpn : 0 < ps.length := by
                rcases Nat.eq_zero_or_pos ps.length with h0 | h0
                · have hb := HBAD.out
                  rw [HPS.out] at h0
                  rw [decide_eq_true (show r.places.length < wq.length by omega), Bool.true_and] at hb
                  have hm : r.more = true := by
                    cases hm : r.more with
                    | true => rfl
                    | false => rw [hm] at hb; simp at hb
                  have := more_of h1 h2 (by rw [← HRR.out]; exact hm)
                  rw [← HRR.out] at this; omega
                · exact h0
              have hrow := HLA.out.words wr (fun k hk => hl.only.block k (Nat.lt_trans hk HG8.out.1) (by omega)) hl.only.size
              obtain ⟨gx, ox, hA, hcx⟩ := words_at hrow hx
              subst hA
              have hrb := hl.blk HLA.out.row HGE.out.2.2
              have q1 : wr.cell? ⟨g6, 1, none⟩ = some (str zs) := hrb.cell 1
              have hzp : zs.length = ps.length := by rw [HPS.out]; exact HZL2.out
              obtain ⟨m, hm⟩ : ∃ m, m = min i (ps.length - 1) := ⟨_, rfl⟩
              obtain ⟨bz, hbz⟩ : ∃ bz, bz = decide (zs.length ≤ i) := ⟨_, rfl⟩
              have hd1 : decide ((zs.length : Int) ≤ (i : Int)) = bz := by rw [hbz, Bool.eq_iff_iff, decide_eq_true_eq, decide_eq_true_eq]; omega
              have hd2 : decide (zs.length ≤ i) = bz := hbz.symm
              have hi1' : i < wq.length := hlt
              have hi1 : (i : Int) < (wq.length : Int) := by omega
              have hz1 : (1 : Int) ≤ (zs.length : Int) := by omega
              have hz2 : zs.length ≤ 10 := by rw [hzp, HPS.out, HRR.out]; exact places_few h1 h2
              have HL := Lib.hid hl
              have HX := Lib.hid hx
              have HM := Lib.hid hm
              have HBZ := Lib.hid hbz
              have HZP := Lib.hid hzp
              have HRB := Lib.hid hrb
              clear hl hx hlt hrow hrb hm hbz hzp
              go_upto_if 114 with (fail)
              clear hd1 hd2
              go_cut [11] (fun v wx => v = .int .i64 (m : Nat) ∧ wx = wr)
              case first =>
                cases bz with
                | false =>
                  have hmi : m = i := by have h := HBZ.out; have h3 := HM.out; have h4 := HZP.out; have := of_decide_eq_false h.symm; omega
                  subst hmi
                  go_wp2_with fail
                  go_meet
                  exact ⟨rfl, rfl⟩
                | true =>
                  have hmi : (zs.length : Int) - 1 = (m : Int) := by have h := HBZ.out; have h3 := HM.out; have h4 := HZP.out; have := of_decide_eq_true h.symm; omega
                  have HMI := Lib.hid hmi
                  clear hmi
                  go_wp2_with fail
                  go_meet
                  exact ⟨congrArg (Value.int .i64) HMI.out, rfl⟩
              case rest =>
                obtain ⟨rfl, hwx⟩ := hcut
                replace hwx := hwx.symm
                subst hwx
                have hml : m < ps.length := by have := HM.out; omega
                have hmz : m < zs.length := by rw [HZP.out]; exact hml
                have hgz : zs.getD m 0 = zed (ps.getD m 0) := by rw [HZS.out, ← HPS.out]; exact zeds_getD ps hml
                have hby : (⟨zs.toArray⟩ : ByteArray)[m]'(by rw [str_size]; exact hmz) = zed (ps.getD m 0) := by rw [byte_getD', hgz]
                have hkk := HPL.out m hml
                obtain ⟨k, hk⟩ : ∃ k, k = ps.getD m 0 := ⟨_, rfl⟩
                rw [← hk] at hkk hby
                obtain ⟨K0, kc0, hk0⟩ := own_form HL.out.own.keys
                obtain ⟨M0, mc0, hm0⟩ := own_form HL.out.own.metas
                obtain ⟨cs, hcs⟩ : ∃ cs, cs = cmdArr c kv nilRow mv := ⟨_, rfl⟩
                obtain ⟨cl, hcl⟩ : ∃ cl, cl = cmdList c kv nilRow mv := ⟨_, rfl⟩
                have hld : ∀ W : World, W.rangeAt g8 0 cl → (loadVar 38 ⟨g8, 0, none⟩).run Tryz.prog W = .ok (.agg cs) W := fun W h => by
                  subst hcl
                  rw [hcs]
                  exact run_loadVar_mid (P := Tryz.prog) W g8 0 38 (cmdList c kv nilRow mv) _ h Tryz.underlying38 rfl (by kernel_rfl)
                have r1 : wr.rangeAt g8 0 cl := fun j v hv => by rw [Nat.zero_add, HL.out.cmd.cell j]; rw [hcl] at hv; simpa [cmdList, cmdArr] using hv
                have hrw : ∀ W, Below wr.heap.size wr W → Calls Tryz.prog 62 #[.agg cs, .int .u8 (zed k).toNat, str x] W (WordX W wc.heap.size c kv mv k x) := fun W hW => by
                  rw [hcs]
                  exact (refWord_any hkk (HL.out.own.later hW) (Nat.le_trans HL.out.only.size hW.size) hxn (by omega) (by omega) (by omega) (fun f hf => by have := HFA.out f hf; omega)).mono fun _ _ h => h.x
                have hgx : gx < wc.heap.size := by
                  obtain ⟨gy, oy, hA, hcy⟩ := words_at (HLA.out.words wc (fun _ _ => rfl) (Nat.le_refl _)) HX.out
                  injection hA with hA
                  injection hA with e1 e2
                  subst e1
                  exact World.block_lt_of_cell? _ _ hcy
                have hsz := HL.out.only.size
                have hmi : (m : Int) < (zs.length : Int) := by omega
                have hm0' : (0 : Int) ≤ (m : Int) := by omega
                have hg8 := HG8.out.1
                have hg6 := HG8.out.2
                have hhld := And.intro q1 (And.intro hcx r1)
                have HHLD := Lib.hid hhld
                have HRW := Lib.hid hrw
                have HLT := Lib.hid (And.intro hg6 (And.intro hgx hg8))
                have HSZ := Lib.hid hsz
                have HCH := Lib.hid (Below.refl wr.heap.size wr)
                have HMZ := Lib.hid hmz
                have HCS := Lib.hid (And.intro hcs hcl)
                have HK := Lib.hid hk
                clear hml hgz hkk hk hk0 hm0 hcs hcl hrw hgx hg8 hg6 hsz q1 hcx r1 hhld
                go_upto_region 22 with fail
                go_cut [12, 13, 14] (fun p n t wx => Worded wc.heap.size c k x wr p n t wx)
                case first =>
                  have q1 : wr.drew.cell? ⟨g6, 1, none⟩ = some (str zs) := HHLD.out.1
                  have hcx : wr.drew.cell? ⟨gx, ox + i, none⟩ = some (str x) := HHLD.out.2.1
                  have r1 : wr.drew.rangeAt g8 0 cl := HHLD.out.2.2
                  have HB0 := Lib.hid (HCH.out.drew)
                  clear HR HRES HFA HWA HMQ HPL HLA
                  go_region_held3 (fun w' => w'.cell? ⟨g6, 1, none⟩ = some (str zs) ∧ w'.cell? ⟨gx, ox + i, none⟩ = some (str x) ∧ w'.rangeAt g8 0 cl) (first | with_reducible exact ⟨q1, hcx, r1⟩ | with_reducible exact held_alloc ⟨q1, hcx, r1⟩ _ | with_reducible exact held_allocD HHLD.out _ | with_reducible exact held_cells ⟨q1, hcx, r1⟩ HLT.out.1 HLT.out.2.1 HLT.out.2.2 HSZ.out _) ((go_at_call 62; (first | (refine (HRW.out wr.drew HB0.out).mono ?_; rintro ee w2 ⟨c', K, kn, kc, M, mn, mc, nn, tt, rfl, hb2, -, hm2⟩; have hh2 := held_below (w := wr.drew) ⟨q1, hcx, r1⟩ hb2 HLT.out.1 HLT.out.2.1 HLT.out.2.2; have q1 := hh2.1; have hcx := hh2.2.1; have r1 := hh2.2.2; have HB2 := Lib.hid hb2; clear hb2 hh2) | (refine (HRW.out (wr.alloc _).drew (HCH.out.alloc (Nat.le_refl _) _).drew).mono ?_; rintro ee w2 ⟨c', K, kn, kc, M, mn, mc, nn, tt, rfl, hb2, hj2, hm2⟩; have hh2 := held_below (held_allocD HHLD.out _) hb2 HLT.out.1 HLT.out.2.1 HLT.out.2.2; have q1 := hh2.1; have hcx := hh2.2.1; have r1 := hh2.2.2; have hbk := worded_blk HL.out.own hj2.out; have hcan := hbk.can 0 11 (by decide); have HBK := Lib.hid hbk; have HB2 := Lib.hid hb2; clear hb2 hh2 hj2 hbk))))
                  all_goals go_wp2_with fail
                  all_goals clear HHLD HRW HCS
                  all_goals go_meet
                  · have e1 : wc.heap.size ≤ w2.heap.size := Nat.le_trans HSZ.out HB2.out.size
                    have e2 : Below wc.heap.size wr w2 := ((Below.refl _ wr).drew).trans HB2.out
                    have e3 := worded_new e1 e2 hm2
                    with_reducible exact e3
                  · have e2 : Below wc.heap.size wr w2 := ((((Below.refl _ wr).alloc HSZ.out _).drew).trans HB2.out)
                    have e3 := worded_box HBK.out HSZ.out e2 hm2
                    with_reducible exact e3
                  · have e2 : Below wc.heap.size wr w2 := ((((Below.refl _ wr).alloc HSZ.out _).drew).trans HB2.out)
                    have e3 := worded_box HBK.out HSZ.out e2 hm2
                    with_reducible exact e3
                case rest =>
                  obtain ⟨c', K, kn, kc, M, mn, mc, nn, tt, g12, rfl, rfl, rfl, hg12, hk12, hb12, hm12⟩ := hcut
                  have hdrop : wq.drop i = x :: wq.drop (i + 1) := by
                    have hx := HX.out
                    rw [List.drop_eq_getElem_cons hi1'] 
                    rw [List.getElem?_eq_getElem hi1'] at hx
                    injection hx with hx
                    rw [hx]
                  have hkg : ps.getD (min i (ps.length - 1)) 0 = k := by rw [HK.out, HM.out]
                  have hwa := HWA.out
                  rw [hdrop] at hwa
                  cases hw : wordAt c (-1) k x with
                  | error m' =>
                    rw [hw] at hm12
                    obtain ⟨rfl, htn⟩ := hm12
                    have hres := HRES.out
                    rw [← HPS.out, hwa, wordsAt_error (by rw [hkg]; exact hw)] at hres
                    have hte : tt.isEmpty = false := by cases tt with
                      | nil => exact absurd rfl htn
                      | cons _ _ => rfl
                    have hfin : ∀ W', Below w.heap.size w W' → R (.returned (.tuple #[.agg (cmdArr {} nilRow nilRow nilRow), .int .i64 (-1), .agg (wrongArr ⟨2, tt, passOf r ws⟩)])) W' := fun W' hb => by rw [← HR.out, hres]; exact ⟨_, _, _, _, _, rfl, hb, rfl, rfl, rfl, rfl, rfl⟩
                    have hbxe := ((HLA.out.boxes.loop HL.out HGE.out.1).laterN hb12 (Nat.lt_trans HGE.out.1 HLT.out.2.2))
                    have hwr : ∀ W, Calls Tryz.prog 58 #[str tt, .int .i64 (passOf r ws)] W fun e w' => e = .returned (.tuple #[.agg #[.int .i64 0, .slice none 0 0, .int .u64 0, .int .i64 0, .int .u64 0, .int .u64 0, .slice none 0 0, .bool false, .bool false, .slice none 0 0, .string ⟨#[]⟩], .int .i64 (-1), .agg #[.int .i64 2, str tt, .int .i64 (passOf r ws)]]) ∧ Below W.heap.size W w' := fun W => refWrong_any tt (passOf r ws) W
                    have HWR := Lib.hid hwr
                    have HFIN := Lib.hid hfin
                    have HBXE := Lib.hid hbxe
                    clear hwr hfin hbxe hres hwa hdrop hkg hw htn hg12 hk12 hb12
                    go_wp2_with (go_at_call 58; refine (HWR.out _).mono ?_; rintro e w8 ⟨rfl, hb8⟩; have hbx := HBXE.out.later hb8; have c2 : canPut w8 w.heap.size 0 11 = true := hbx.cmd.can 0 11 (by decide); have c4 : canPut w8 (w.heap.size + 1) 0 3 = true := hbx.wrong.can 0 3 (by decide); have hput := hbx.put {} nilRow nilRow nilRow ⟨2, tt, passOf r ws⟩; have c4' : canPut (w8.setCells w.heap.size 0 [.int .i64 0, .slice none 0 0, .int .u64 0, .int .i64 0, .int .u64 0, .int .u64 0, .slice none 0 0, .bool false, .bool false, .slice none 0 0, .string ⟨#[]⟩]) (w.heap.size + 1) 0 3 = true := (Blk.farCells w.heap.size (by omega) (cmdList {} nilRow nilRow nilRow) 0 hbx.wrong).can 0 3 (by decide); have HPUT := Lib.hid hput; clear hb8 hbx hput)
                    exact bodyPost_ret (line11_results HPUT.out.1 HPUT.out.2.1 _ rfl rfl rfl) rfl (HFIN.out _ HPUT.out.2.2)
                  | ok y =>
                    obtain ⟨c2, b2⟩ := y
                    rw [hw] at hm12
                    obtain ⟨rfl, rfl, rfl, ho12⟩ := hm12
                    obtain ⟨grow1, grow2, grow3⟩ := wordAt_grow (by rw [HK.out]; exact HPL.out m (by have := HM.out; omega)) hw
                    have hl2 := HL.out.on HLT.out.2.2 hb12 ho12
                    rw [wordsAt_ok (by rw [hkg]; exact hw)] at hwa
                    have hk8 := HL.out.cmd.same (hb12.block g8 HLT.out.2.2)
                    have hcan := hk8.can 0 11 (by show 0 + 11 ≤ 11; decide)
                    have hld12 : (loadVar 38 ⟨g12, 0, none⟩).run Tryz.prog _ = .ok (.agg #[.int .i64 c'.verb, .slice K kn kc, .int .u64 c'.flags, .int .i64 c'.exptime, .int .u64 c'.token, .int .u64 c'.delta, .slice none 0 0, .bool c'.noreply, .bool c'.large, .slice M mn mc, .string ⟨c'.what.toArray⟩]) _ :=
                      run_loadVar_mid (P := Tryz.prog) _ g12 0 38 (cmdList c' (.slice K kn kc) nilRow (.slice M mn mc)) _ (fun j v hv => by rw [Nat.zero_add, hk12.cell j]; simpa [cmdList, cmdArr] using hv) Tryz.underlying38 rfl (by kernel_rfl)
                    have hfa : ∀ f ∈ c'.metas, f.arg.length ≤ 2048 := fun f hf => by
                      rcases grow3 f hf with h | h
                      · exact HFA.out f h
                      · omega
                    have HL2 := Lib.hid hl2
                    have HWA2 := Lib.hid hwa
                    have HFA2 := Lib.hid hfa
                    have HGR := Lib.hid (And.intro grow1 grow2)
                    obtain ⟨bb, hbb⟩ : ∃ bb, bb = decide (0 ≤ nn) := ⟨_, rfl⟩
                    clear hl2 hwa hfa grow1 grow2 grow3 hk8 hk12 ho12 hw hdrop hkg hb12 hg12
                    by_cases hb0 : 0 ≤ nn
                    · go_wp2_with fail
                      exact ⟨⟨i + 1, nn, c', .slice K kn kc, .slice M mn mc, by omega, by go_num, rfl, HL2.out, Lib.hid (by have := HWA2.out; rw [show blockOn b nn = nn by unfold blockOn; rw [if_pos hb0]] at this; exact this), by have := HGR.out.1; omega, by have := HGR.out.2; omega, HFA2⟩, by show wq.length - ((i : Int) + 1).toNat < wq.length - (i : Int).toNat; omega⟩
                    · have hb1 : decide (0 ≤ nn) = false := decide_eq_false hb0
                      go_wp2_with fail
                      exact ⟨⟨i + 1, b, c', .slice K kn kc, .slice M mn mc, by omega, by go_num, rfl, HL2.out, Lib.hid (by have := HWA2.out; rw [show blockOn b nn = b by unfold blockOn; rw [if_neg hb0]] at this; exact this), by have := HGR.out.1; omega, by have := HGR.out.2; omega, HFA2⟩, by show wq.length - ((i : Int) + 1).toNat < wq.length - (i : Int).toNat; omega⟩
            · have hin : i = wq.length := by omega
              have hi1 : (wq.length : Int) ≤ (i : Int) := by omega
              obtain ⟨K0, kc0, rfl⟩ := own_form hl.own.keys
              obtain ⟨M0, mc0, rfl⟩ := own_form hl.own.metas
              have hres := HRES.out
              rw [← HPS.out, HWA.out, hin, List.drop_length] at hres
              have hbx := HLA.out.boxes.loop hl HGE.out.1
              have hof := hl.own.fin (w := w) (Nat.lt_trans HGE.out.1 HG8.out.1) (cmdList c (.slice K0 c.keys.length kc0) nilRow (.slice M0 c.metas.length mc0)) (wrongList {})
              have hput := hbx.put c (.slice K0 c.keys.length kc0) nilRow (.slice M0 c.metas.length mc0) {}
              have hfin : R (.returned (.tuple #[.agg (cmdArr c (.slice K0 c.keys.length kc0) nilRow (.slice M0 c.metas.length mc0)), .int .i64 b, .agg (wrongArr {})])) ((wr.setCells w.heap.size 0 (cmdList c (.slice K0 c.keys.length kc0) nilRow (.slice M0 c.metas.length mc0))).setCells (w.heap.size + 1) 0 (wrongList {})) := by
                rw [← HR.out, hres]
                exact ⟨_, _, _, _, _, rfl, hput.2.2, rfl, rfl, rfl, hof⟩
              have hld8 : (loadVar 38 ⟨g8, 0, none⟩).run Tryz.prog wr = .ok (.agg #[.int .i64 c.verb, .slice K0 c.keys.length kc0, .int .u64 c.flags, .int .i64 c.exptime, .int .u64 c.token, .int .u64 c.delta, .slice none 0 0, .bool c.noreply, .bool c.large, .slice M0 c.metas.length mc0, .string ⟨c.what.toArray⟩]) wr :=
                run_loadVar_mid (P := Tryz.prog) wr g8 0 38 (cmdList c (.slice K0 c.keys.length kc0) nilRow (.slice M0 c.metas.length mc0)) _ (fun j v hv => by rw [Nat.zero_add, hl.cmd.cell j]; simpa [cmdList, cmdArr] using hv) Tryz.underlying38 rfl (by kernel_rfl)
              have c2 : canPut wr w.heap.size 0 11 = true := hbx.cmd.can 0 11 (by decide)
              have c4 : canPut wr (w.heap.size + 1) 0 3 = true := hbx.wrong.can 0 3 (by decide)
              have c4' : canPut (wr.setCells w.heap.size 0 [.int .i64 c.verb, .slice K0 c.keys.length kc0, .int .u64 c.flags, .int .i64 c.exptime, .int .u64 c.token, .int .u64 c.delta, .slice none 0 0, .bool c.noreply, .bool c.large, .slice M0 c.metas.length mc0, .string ⟨c.what.toArray⟩]) (w.heap.size + 1) 0 3 = true := (Blk.farCells w.heap.size (by omega) (cmdList c (.slice K0 c.keys.length kc0) nilRow (.slice M0 c.metas.length mc0)) 0 hbx.wrong).can 0 3 (by decide)
              have HPUT := Lib.hid hput
              have HFIN := Lib.hid hfin
              clear hput hfin hof hbx hres hl HWA HFA hkl hml hlt
              go_wp2_with fail
              exact bodyPost_ret (line11_results HPUT.out.1 HPUT.out.2.1 _ rfl rfl rfl) rfl HFIN.out
end Go.Proofs.YthgfjafnclklpaaGreatDoor
end
section
namespace Go.Proofs.YthgfjafnclklpaaGreatDoor
open Go.RowKit Sp

theorem refLine11_any {w : World} {A : Option Addr} {cap : Nat} {l : Bs} (hrow : RowAt w A (bytesV l)) :
    Calls Tryz.prog 17 #[.slice A l.length cap] w (LineEnd w (lineOf l)) := by
  by_cases hl : 2048 < l.length
  · exact refLine11_long hl
  · cases hw : wordsOf l with
    | nil => exact refLine11_none hrow (by omega) (.inl hw)
    | cons v ws =>
      cases hr : rowOf v with
      | none => exact refLine11_none hrow (by omega) (.inr ⟨v, ws, hw, hr⟩)
      | some r =>
        obtain ⟨e1, e2, e3, e4⟩ := rowOf_some hr
        have hlo : lineOf l = rest (rowBy r.verb) ws := by
          unfold lineOf
          rw [if_neg hl, hw]
          dsimp only
          rw [hr]
          dsimp only
          rw [e1]
        rw [hlo]
        exact refLine11_some hrow (by omega) hw e3 e4 e2
end Go.Proofs.YthgfjafnclklpaaGreatDoor
end
