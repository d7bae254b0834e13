/- Walk of package words: Line. -/
import Derived.Test.YticigfpieeoolaaGreatDoorL1
import Derived.Test.YticigfpieeoolaaGreatDoorFd
import Derived.Laws.BytesString
import Derived.Deep.MidRow
import Derived.Deep.Onto
namespace Go.Proofs.YticigfpieeoolaaGreatDoor
attribute [local go_sem ↓] Go.wp_at_zero Go.wp_at_succ
open Go.RowKit

theorem push_all : ∀ (l : Sp.Bs) (s : ByteArray), (l.map fun b => (b.toNat : Int)).foldl (fun r n => r.push (UInt8.ofNat n.toNat)) s = ⟨s.data ++ l.toArray⟩
  | [], s => by simp
  | b :: l, s => by
    rw [List.map_cons, List.foldl_cons, push_all l]
    have e : (s.push (UInt8.ofNat (b.toNat : Int).toNat)).data = s.data ++ #[b] := by simp [ByteArray.push]
    rw [e]
    simp

/-- bytes in memory, as a text -/
theorem run_bytes_str {w : World} {A : Option Addr} {cap : Nat} {l : Sp.Bs} (h : RowAt w A (bytesV l)) :
    (convert 38 9 (.slice A l.length cap)).run Tryz.prog w = .ok (str l) w := by
  rw [run_convert_bytes_string w _ _ 5 A l.length cap (by kernel_rfl) (by kernel_rfl) (by kernel_rfl)]
  cases A with
  | none =>
    rcases h with h | ⟨b, o, h, _⟩
    · have : l = [] := by simpa [bytesV] using h
      subst this
      rfl
    · cases h
  | some a =>
    have hl : (loadCells a l.length).run Tryz.prog w = .ok ((l.map fun b => (b.toNat : Int)).map (Value.int .u8)).toArray w := by
      have e : (l.map fun b => (b.toNat : Int)).map (Value.int .u8) = bytesV l := by simp [bytesV]
      rw [e]
      have := run_loadCells_list (P := Tryz.prog) w a (bytesV l) (fun j v hv => by
        rcases h with h | ⟨b, o, h1, h2, h3⟩
        · rw [h] at hv; simp at hv
        · injection h1 with h1; subst h1
          rw [Addr.add_mid]; exact h3 j v hv)
      rwa [bytesV_length] at this
    rw [run_bytesToString w a l.length cap _ hl, push_all]
    simp

/-- what Line tells -/
def LinePost (w : World) (r : Sp.LineR) (e : Ending) (w' : World) : Prop :=
  (match r with
    | .ok c b => ∃ kv mv, e = .returned (.tuple #[cmdV c kv nilRow mv, .int .i64 b, wrongV {}]) ∧ w'.ownsRow w.heap.size 9 1 kv c.keys.length (c.keys.map str) ∧ w'.ownsRow w.heap.size 79 3 mv c.metas.length (flagsCells c.metas)
    | .bad x => e = .returned (.tuple #[cmdV {} nilRow nilRow nilRow, .int .i64 (-1), wrongV x])) ∧ Below w.heap.size w w'

/-- Line's variables and its reader, where read is called -/
structure LineMid (w : World) (l : Sp.Bs) (A : Option Addr) (wx : World) (n : Nat) : Prop where
  vars : LineVars wx (n + 4) n (n + 1) (n + 2) (n + 3)
  rd : RdNew wx (n + 3)
  row : RowAt wx A (bytesV l)
  only : Below n w wx

theorem lineMid_new {w : World} {l : Sp.Bs} {A : Option Addr} (h : RowAt w A (bytesV l)) :
    LineMid w l A (((((w.alloc (.cells (cmdArr {} nilRow nilRow nilRow) 41)).alloc (.cells #[.int .i64 0] 3)).alloc (.cells (wrongArr {}) 43)).alloc (.cells (rdCells {} nilRow nilRow (-1) (-1)) 107)).alloc (.cells #[.pointer (some ⟨w.heap.size + 1 + 1 + 1, 0, none⟩)] 105)) w.heap.size := by
  have b1 := Blk.new w 41 (cmdArr {} nilRow nilRow nilRow)
  generalize e1 : w.alloc (.cells (cmdArr {} nilRow nilRow nilRow) 41) = w1 at b1 ⊢
  have s1 : w1.heap.size = w.heap.size + 1 := by rw [← e1]; simp
  have b2 := Blk.new w1 3 #[.int .i64 0]
  generalize e2 : w1.alloc (.cells #[.int .i64 0] 3) = w2 at b2 ⊢
  have s2 : w2.heap.size = w.heap.size + 2 := by rw [← e2]; simp [s1]
  have b3 := Blk.new w2 43 (wrongArr {})
  generalize e3 : w2.alloc (.cells (wrongArr {}) 43) = w3 at b3 ⊢
  have s3 : w3.heap.size = w.heap.size + 3 := by rw [← e3]; simp [s2]
  have b4 := Blk.new w3 107 (rdCells {} nilRow nilRow (-1) (-1))
  generalize e4 : w3.alloc (.cells (rdCells {} nilRow nilRow (-1) (-1)) 107) = w4 at b4 ⊢
  have s4 : w4.heap.size = w.heap.size + 4 := by rw [← e4]; simp [s3]
  have b5 := Blk.new w4 105 #[.pointer (some ⟨w.heap.size + 3, 0, none⟩)]
  rw [s1] at b2; rw [s2] at b3; rw [s3] at b4; rw [s4] at b5
  have l1 : Below w1.heap.size w1 w2 := e2 ▸ (Below.refl _ _).alloc (Nat.le_refl _) _
  have l2 : Below w2.heap.size w2 w3 := e3 ▸ (Below.refl _ _).alloc (Nat.le_refl _) _
  have l3 : Below w3.heap.size w3 w4 := e4 ▸ (Below.refl _ _).alloc (Nat.le_refl _) _
  have l4 : Below w4.heap.size w4 (w4.alloc (.cells #[.pointer (some ⟨w.heap.size + 3, 0, none⟩)] 105)) := (Below.refl _ _).alloc (Nat.le_refl _) _
  have l0 : Below w.heap.size w w1 := e1 ▸ (Below.refl _ _).alloc (Nat.le_refl _) _
  have l24 := l2.trans (l3.mono (by omega : w2.heap.size ≤ w3.heap.size))
  have l25 := l24.trans (l4.mono (by omega : w2.heap.size ≤ w4.heap.size))
  have l35 := l3.trans (l4.mono (by omega : w3.heap.size ≤ w4.heap.size))
  have l15 := l1.trans (l25.mono (by omega : w1.heap.size ≤ w2.heap.size))
  have l05 := l0.trans (l15.mono (by omega : w.heap.size ≤ w1.heap.size))
  exact ⟨⟨b5, b1.later l15, b2.later l25, b3.later l35⟩, b4.later l4, h.below l05, l05⟩

set_option maxHeartbeats 4000000 in
set_option maxRecDepth 100000 in
theorem line_any {w : World} (hg : Glob w) {A : Option Addr} {cap : Nat} {l : Sp.Bs} (h : RowAt w A (bytesV l)) :
    Calls Tryz.prog 13 #[.slice A l.length cap] w (LinePost w (Sp.lineOf l)) := by
  have hmf : ∀ (fn : Fn) (first cap : Array Value) (w : World), (Instr.makeFunc fn first cap).run Tryz.prog w = .ok (.func fn first cap) w := fun _ _ _ _ => rfl
  have H := Lib.hid h
  clear h
  generalize hR : LinePost w (Sp.lineOf l) = R
  have HR := Lib.hid hR
  clear hR
  go_enter_defers Tryz.func13, Tryz.ntmps13
  go_upto_region 1 with (fail)
  go_cut [5] from 5 to 8 (fun s wx => s = .pointer (some ⟨w.heap.size + 4, 0, none⟩) ∧ LineMid w l A wx w.heap.size)
  case first =>
    go_wp2
    go_meet
    exact ⟨rfl, lineMid_new H.out⟩
  case rest =>
    obtain ⟨rfl, hm⟩ := hcut
    have hgc := hg.later hm.only
    have hsz := hg.size
    have hcv := run_bytes_str (cap := cap) hm.row
    have x5 : _ = some (Value.pointer (some ⟨w.heap.size + 3, 0, none⟩)) := hm.vars.r.cell 0
    have hrd := read_any hm.rd hgc (by omega) l
    have HM := Lib.hid hm
    clear hm
    cases hr : Sp.lineOf l with
    | ok c b =>
      rw [hr] at hrd
      have hlok := (lineOf_ok hr).2.2.2.1
      have HRD := Lib.hid hrd
      have HRR := Lib.hid hr
      have HGC := Lib.hid hgc
      clear hrd hr hgc
      go_wp2_with (refine HRD.out.mono ?_; rintro e w9 ⟨⟨rfl, pass, kv, mv, hrdis⟩, honly⟩)
      have hne : ∀ k, k < wc.heap.size → k ≠ w.heap.size + 3 → w9.heap[k]? = wc.heap[k]? := honly.block
      have hv := HM.out.vars
      have hv9 : LineVars w9 (w.heap.size + 4) w.heap.size (w.heap.size + 1) (w.heap.size + 2) (w.heap.size + 3) :=
        ⟨hv.r.same (hne _ hv.r.lt (by omega)), hv.c.same (hne _ hv.c.lt (by omega)), hv.b.same (hne _ hv.b.lt (by omega)), hv.w.same (hne _ hv.w.lt (by omega))⟩
      refine leaves_cons (f := 49) (args := #[.pointer (some ⟨w.heap.size + 4, 0, none⟩), .pointer (some ⟨w.heap.size, 0, none⟩), .pointer (some ⟨w.heap.size + 1, 0, none⟩), .pointer (some ⟨w.heap.size + 2, 0, none⟩)]) (by simp) (by simp [go_sem]) ?_
      refine (line1_back hv9 hrdis hlok (by omega)).mono ?_
      rintro e u' w'' ⟨rfl, rfl, hc, hb, ho⟩
      have hk := own_same hrdis.keys fun k hk => ho.block k (own_lt hrdis.keys k hk) (by
        have := own_ge hrdis.keys k hk; have := hv.r.lt; simp; omega)
      have hmt := own_same hrdis.metas fun k hk => ho.block k (own_lt hrdis.metas k hk) (by
        have := own_ge hrdis.metas k hk; have := hv.r.lt; simp; omega)
      have hw := hv9.w.same (ho.block _ hv9.w.lt (by simp))
      have hfin : LinePost w (Sp.lineOf l) (.returned (.tuple #[cmdV c kv nilRow mv, .int .i64 b, wrongV {}])) w'' := by
        rw [HRR.out]
        refine ⟨⟨kv, mv, rfl, World.ownsRow.mono hk HM.out.only.size, World.ownsRow.mono hmt HM.out.only.size⟩, ?_⟩
        exact (HM.out.only.trans (honly.below HM.out.only.size (by omega))).trans (ho.below (by have := honly.size; have := HM.out.only.size; omega) (by simp))
      rw [HR.out] at hfin
      have y0 : _ = some (Value.int .i64 c.verb) := hc.cell 0
      have y1 : _ = some kv := hc.cell 1
      have y2 : _ = some (Value.int .u64 c.flags) := hc.cell 2
      have y3 : _ = some (Value.int .i64 c.exptime) := hc.cell 3
      have y4 : _ = some (Value.int .u64 c.token) := hc.cell 4
      have y5 : _ = some (Value.int .u64 c.delta) := hc.cell 5
      have y6 : _ = some nilRow := hc.cell 6
      have y7 : _ = some (Value.bool c.noreply) := hc.cell 7
      have y8 : _ = some (Value.bool c.large) := hc.cell 8
      have y9 : _ = some mv := hc.cell 9
      have y10 : _ = some (str c.what) := hc.cell 10
      have z0 : _ = some (Value.int .i64 b) := hb.cell 0
      have v0 : _ = some (Value.int .i64 0) := hw.cell 0
      have v1 : _ = some (str []) := hw.cell 1
      have v2 : _ = some (Value.int .i64 0) := hw.cell 2
      simp [Leaves, settle, results, Tryz.results13, go_sem, y0, y1, y2, y3, y4, y5, y6, y7, y8, y9, y10, z0, v0, v1, v2]
      exact hfin
    | bad x =>
      rw [hr] at hrd
      have HRD := Lib.hid hrd
      have HRR := Lib.hid hr
      have HGC := Lib.hid hgc
      clear hrd hr hgc
      go_wp2_with (refine HRD.out.mono ?_; rintro e w9 ⟨rfl, honly⟩)
      have hne : ∀ k, k < wc.heap.size → k ≠ w.heap.size + 3 → w9.heap[k]? = wc.heap[k]? := honly.block
      have hv := HM.out.vars
      have hv9 : LineVars w9 (w.heap.size + 4) w.heap.size (w.heap.size + 1) (w.heap.size + 2) (w.heap.size + 3) :=
        ⟨hv.r.same (hne _ hv.r.lt (by omega)), hv.c.same (hne _ hv.c.lt (by omega)), hv.b.same (hne _ hv.b.lt (by omega)), hv.w.same (hne _ hv.w.lt (by omega))⟩
      refine leaves_cons (f := 49) (args := #[.pointer (some ⟨w.heap.size + 4, 0, none⟩), .pointer (some ⟨w.heap.size, 0, none⟩), .pointer (some ⟨w.heap.size + 1, 0, none⟩), .pointer (some ⟨w.heap.size + 2, 0, none⟩)]) (by simp) (by simp [go_sem]) ?_
      refine (line1_thrown hv9 x (by omega) (by omega) (by omega)).mono ?_
      rintro e u' w'' ⟨rfl, rfl, hc, hb, hw, ho⟩
      have hfin : LinePost w (Sp.lineOf l) (.returned (.tuple #[cmdV {} nilRow nilRow nilRow, .int .i64 (-1), wrongV x])) w'' := by
        rw [HRR.out]
        exact ⟨rfl, (HM.out.only.trans (honly.below HM.out.only.size (by omega))).trans (ho.below (by have := honly.size; have := HM.out.only.size; omega) (by simp))⟩
      rw [HR.out] at hfin
      have y0 : _ = some (Value.int .i64 0) := hc.cell 0
      have y1 : _ = some nilRow := hc.cell 1
      have y2 : _ = some (Value.int .u64 0) := hc.cell 2
      have y3 : _ = some (Value.int .i64 0) := hc.cell 3
      have y4 : _ = some (Value.int .u64 0) := hc.cell 4
      have y5 : _ = some (Value.int .u64 0) := hc.cell 5
      have y6 : _ = some nilRow := hc.cell 6
      have y7 : _ = some (Value.bool false) := hc.cell 7
      have y8 : _ = some (Value.bool false) := hc.cell 8
      have y9 : _ = some nilRow := hc.cell 9
      have y10 : _ = some (str []) := hc.cell 10
      have z0 : _ = some (Value.int .i64 (-1)) := hb.cell 0
      have v0 : _ = some (Value.int .i64 x.kind) := hw.cell 0
      have v1 : _ = some (str x.text) := hw.cell 1
      have v2 : _ = some (Value.int .i64 x.pass) := hw.cell 2
      simp [Leaves, settle, results, Tryz.results13, go_sem, y0, y1, y2, y3, y4, y5, y6, y7, y8, y9, y10, z0, v0, v1, v2]
      exact hfin
end Go.Proofs.YticigfpieeoolaaGreatDoor
