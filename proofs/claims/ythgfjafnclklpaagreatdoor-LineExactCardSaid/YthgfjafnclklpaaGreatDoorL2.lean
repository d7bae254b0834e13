/- Walks of package words: the deferred function of Line. Walk of package words: Line. -/
import Derived.Test.YthgfjafnclklpaaGreatDoorW13
import Derived.Test.YthgfjafnclklpaaGreatDoorG1
import Derived.Deep.RegionHeld3
import Derived.Defers
import Derived.Recover
import Derived.Deep.MidRow
import Derived.Deep.WholeRow
import Derived.Test.YthgfjafnclklpaaGreatDoorFd
import Derived.Laws.BytesString
import Derived.Deep.Onto
section
namespace Go.Proofs.YthgfjafnclklpaaGreatDoor
attribute [local go_sem ↓] Go.wp_at_zero Go.wp_at_succ
open Go.RowKit

/-- a command's value; a wrong's value -/
abbrev cmdV (c : Sp.CmdV) (kv dv mv : Value) : Value := .agg #[.int .i64 c.verb, kv, .int .u64 c.flags, .int .i64 c.exptime, .int .u64 c.token, .int .u64 c.delta, dv, .bool c.noreply, .bool c.large, mv, str c.what]
abbrev wrongV (x : Sp.WrongV) : Value := .agg #[.int .i64 x.kind, str x.text, .int .i64 x.pass]
def cmdArr (c : Sp.CmdV) (kv dv mv : Value) : Array Value := #[.int .i64 c.verb, kv, .int .u64 c.flags, .int .i64 c.exptime, .int .u64 c.token, .int .u64 c.delta, dv, .bool c.noreply, .bool c.large, mv, str c.what]
def wrongArr (x : Sp.WrongV) : Array Value := #[.int .i64 x.kind, str x.text, .int .i64 x.pass]

/-- Line's variables: its reader's address, and its results -/
structure LineVars (w : World) (rp cb bb wb rb : Nat) : Prop where
  r : Blk w rp 108 #[.pointer (some ⟨rb, 0, none⟩)]
  c : Blk w cb 38 (cmdArr {} nilRow nilRow nilRow)
  b : Blk w bb 3 #[.int .i64 0]
  w : Blk w wb 59 (wrongArr {})

theorem run_store_cmd (w : World) (b o : Nat) (v : Int) (kp : Option Addr) (kn kc : Nat) (fl ex tk dl : Int) (dp : Option Addr) (dn dc : Nat) (nr lg : Bool) (mp : Option Addr) (mn mc : Nat) (wh : ByteArray) (ht : canPut w b o 11 = true) :
    (storeVar 38 ⟨b, o, none⟩ (.agg #[.int .i64 v, .slice kp kn kc, .int .u64 fl, .int .i64 ex, .int .u64 tk, .int .u64 dl, .slice dp dn dc, .bool nr, .bool lg, .slice mp mn mc, .string wh])).run Tryz.prog w =
      .ok () (w.setCells b o [.int .i64 v, .slice kp kn kc, .int .u64 fl, .int .i64 ex, .int .u64 tk, .int .u64 dl, .slice dp dn dc, .bool nr, .bool lg, .slice mp mn mc, .string wh]) :=
  run_storeVar_mid w b o _ _ (canPut_there ht) (by kernel_rfl) (by simp [Value.oneCell'])
theorem run_store_wrong (w : World) (b o : Nat) (k : Int) (s : ByteArray) (p : Int) (ht : canPut w b o 3 = true) :
    (storeVar 59 ⟨b, o, none⟩ (.agg #[.int .i64 k, .string s, .int .i64 p])).run Tryz.prog w = .ok () (w.setCells b o [.int .i64 k, .string s, .int .i64 p]) :=
  run_storeVar_mid w b o _ _ (canPut_there ht) (by kernel_rfl) (by simp [Value.oneCell'])
theorem canPut_drew (w : World) (b o n : Nat) : canPut w.drew b o n = canPut w b o n := rfl
theorem canPut_alloc (w : World) (x : Obj) (b o n : Nat) (hb : b < w.heap.size) : canPut (w.alloc x) b o n = canPut w b o n := by
  unfold canPut
  congr 1
  funext j
  rw [World.cell?_alloc_lt w x ⟨b, o + j, none⟩ hb, World.frozen?_alloc_past x b (o + j) hb]
theorem cell_setCells_far (w : World) (b o : Nat) (us : List Value) (c i : Nat) (h : c ≠ b) : (w.setCells b o us).cell? ⟨c, i, none⟩ = w.cell? ⟨c, i, none⟩ :=
  World.cell?_setCells_out b us o w ⟨c, i, none⟩ fun e _ => absurd e h
theorem canPut_setCells (b' : Nat) : ∀ (us : List Value) (o' : Nat) (w : World) (b o n : Nat), canPut (w.setCells b' o' us) b o n = canPut w b o n
  | [], _, _, _, _, _ => rfl
  | u :: us, o', w, b, o, n => by rw [World.setCells, canPut_setCells b' us, canPut_setCell]

/-- a command's, a wrong's cells stored -/
def cmdList (c : Sp.CmdV) (kv dv mv : Value) : List Value := [.int .i64 c.verb, kv, .int .u64 c.flags, .int .i64 c.exptime, .int .u64 c.token, .int .u64 c.delta, dv, .bool c.noreply, .bool c.large, mv, str c.what]
def wrongList (x : Sp.WrongV) : List Value := [.int .i64 x.kind, str x.text, .int .i64 x.pass]
theorem Blk.putCmd {w : World} {g : Nat} {t : TypeId} {c0 : Sp.CmdV} {k0 d0 m0 : Value} (h : Blk w g t (cmdArr c0 k0 d0 m0)) (c : Sp.CmdV) (kv dv mv : Value) : Blk (w.setCells g 0 (cmdList c kv dv mv)) g t (cmdArr c kv dv mv) := by
  have := Blk.puts (cmdList c kv dv mv) 0 h
  rwa [show ((cmdList c kv dv mv).zipIdx 0).foldl (fun cs x => cs.setIfInBounds x.2 x.1) (cmdArr c0 k0 d0 m0) = cmdArr c kv dv mv from by kernel_rfl] at this
theorem Blk.putWrong {w : World} {g : Nat} {t : TypeId} {x0 : Sp.WrongV} (h : Blk w g t (wrongArr x0)) (x : Sp.WrongV) : Blk (w.setCells g 0 (wrongList x)) g t (wrongArr x) := by
  have := Blk.puts (wrongList x) 0 h
  rwa [show ((wrongList x).zipIdx 0).foldl (fun cs x => cs.setIfInBounds x.2 x.1) (wrongArr x0) = wrongArr x from by kernel_rfl] at this
theorem Blk.farCells {g : Nat} {t : TypeId} {cs : Array Value} (b : Nat) (hb : g ≠ b) : ∀ (us : List Value) (o : Nat) {w : World}, Blk w g t cs → Blk (w.setCells b o us) g t cs
  | [], _, _, h => h
  | u :: us, o, w, h => by
    rw [World.setCells]
    exact Blk.farCells b hb us (o + 1) (h.far (p := ⟨b, o, none⟩) hb u)
theorem OnlyIn.setCells {L : List Nat} {a : World} {g : Nat} (hg : g ∈ L ∨ a.heap.size ≤ g) : ∀ (us : List Value) (o : Nat) {w : World}, OnlyIn L a w → OnlyIn L a (w.setCells g o us)
  | [], _, _, h => h
  | u :: us, o, w, h => by
    rw [World.setCells]
    exact OnlyIn.setCells hg us (o + 1) (h.setCell hg o u)

theorem tmps_20 (a b c d x : Value) : (#[a, b, c, d] ++ (Array.replicate 20 undef).setIfInBounds 3 x : Array Value) = #[a, b, c, d, undef, undef, undef, x, undef, undef, undef, undef, undef, undef, undef, undef, undef, undef, undef, undef, undef, undef, undef, undef] := by kernel_rfl

theorem run_assert_wrong (v : Value) (w : World) : (Instr.typeAssert (.iface 112 v) 20 112 true).run Tryz.prog w = .ok (.tuple #[v, .bool true]) w := by kernel_rfl

theorem run_store_thrown (w : World) (z0 z1 z2 : Value) (k : Int) (s : ByteArray) (p : Int) :
    (storeVar 112 ⟨w.heap.size, 0, none⟩ (.agg #[.int .i64 k, .string s, .int .i64 p])).run Tryz.prog (w.alloc (.cells #[z0, z1, z2] 112)) = .ok () (w.alloc (.cells #[.int .i64 k, .string s, .int .i64 p] 112)) :=
  run_storeVar_new w _ _ _ (by kernel_rfl) rfl (by simp [Value.oneCell'])

theorem wp_gen {P : Program} {c : Code} {Q : Exit → Act → World → Prop} {a : Act} {w : World} (h : ∀ Q', Q' = Q → Code.wp P c Q' a w) : Code.wp P c Q a w := h Q rfl

attribute [-go_sem] storeVar
attribute [local go_sem] run_store_cmd run_store_wrong storeVar_int' storeVar_bool' storeVar_slice' storeVar_func' canPut_setCell canPut_drew canPut_alloc canPut_setCells cell_setCells_far World.frozen?_setCells run_assert_wrong run_store_thrown

set_option maxHeartbeats 4000000 in
set_option maxRecDepth 100000 in
/-- where read has told the command -/
theorem line1_back {base : Nat} {w : World} {rp cb bb wb rb : Nat} (hv : LineVars w rp cb bb wb rb) {c : Sp.CmdV} {b pass : Int} {kv mv : Value} (hr : RdIs base w rb c b pass kv mv) (hl : c.large = false) (hbc : bb ≠ cb) :
    CallsD Tryz.prog 64 #[.pointer (some ⟨rp, 0, none⟩), .pointer (some ⟨cb, 0, none⟩), .pointer (some ⟨bb, 0, none⟩), .pointer (some ⟨wb, 0, none⟩)] .returning w fun e u' w' =>
      e = .returned (.tuple #[]) ∧ u' = .returning ∧ Blk w' cb 38 (cmdArr c kv nilRow mv) ∧ Blk w' bb 3 #[.int .i64 b] ∧ OnlyIn [cb, bb] w w' := by
  obtain ⟨k1, k2, k3, rfl⟩ := own_slice hr.keys
  obtain ⟨m1, m2, m3, rfl⟩ := own_slice hr.metas
  have xr : _ = some (Value.pointer (some ⟨rb, 0, none⟩)) := hv.r.cell 0
  have x0 : _ = some (Value.int .i64 c.verb) := (hr.blk).cell 0
  have x1 : _ = some (Value.slice k1 k2 k3) := (hr.blk).cell 1
  have x2 : _ = some (Value.int .u64 c.flags) := (hr.blk).cell 2
  have x3 : _ = some (Value.int .i64 c.exptime) := (hr.blk).cell 3
  have x4 : _ = some (Value.int .u64 c.token) := (hr.blk).cell 4
  have x5 : _ = some (Value.int .u64 c.delta) := (hr.blk).cell 5
  have x6 : _ = some (nilRow) := (hr.blk).cell 6
  have x7 : _ = some (Value.bool c.noreply) := (hr.blk).cell 7
  have x8 : _ = some (Value.bool false) := (hr.blk).cell 8
  have x9 : _ = some (Value.slice m1 m2 m3) := (hr.blk).cell 9
  have x10 : _ = some (str c.what) := (hr.blk).cell 10
  have x11 : _ = some (Value.int .i64 b) := (hr.blk).cell 11
  have hcp := hv.c.can 0 11 (by simp [cmdArr])
  have xb : _ = some (Value.int .i64 0) := hv.b.cell 0
  have fb := hv.b.frozen 0
  obtain ⟨cv, ck, cf, ce, ct, cd, cdt, cn, cl, cm, cw⟩ := c
  simp only at hl
  subst hl
  have HV := Lib.hid hv
  have HR := Lib.hid hr
  clear hv hr
  refine callsD_of_wpS Tryz.func64 rfl fun c₀ cs hu => ?_
  apply wpS_seq
  apply wpS_region
  simp [wpOpsS, go_sem, recoverD, hu, Tryz.ntmps64, Exit.thenS]
  rw [tmps_20]
  refine wpS_of_wp (wp_gen fun Q' hQ => ?_)
  have HQ := Lib.hid hQ
  clear hQ
  go_wp2_with fail
  go_region
  all_goals
    go_wp2_with fail
    rw [HQ.out]
    refine ⟨rfl, .returning, by cases c₀; simp_all, .tuple #[], by simp [results, Tryz.results64], rfl, rfl, ?_, ?_, ?_⟩
    · exact (HV.out.c.drew.putCmd ⟨cv, ck, cf, ce, ct, cd, [], cn, false, cm, cw⟩ (.slice k1 k2 k3) nilRow (.slice m1 m2 m3)).far (p := ⟨bb, 0, none⟩) (fun e => hbc e.symm) _
    · exact (HV.out.b.drew.farCells cb hbc (cmdList ⟨cv, ck, cf, ce, ct, cd, [], cn, false, cm, cw⟩ (.slice k1 k2 k3) nilRow (.slice m1 m2 m3)) 0).put 0 (.int .i64 b)
    · have h1 : OnlyIn [cb, bb] w w.drew := OnlyIn.of (Below.refl _ _).drew _
      exact (OnlyIn.setCells (.inl (by simp)) (cmdList ⟨cv, ck, cf, ce, ct, cd, [], cn, false, cm, cw⟩ (.slice k1 k2 k3) nilRow (.slice m1 m2 m3)) 0 h1).setCell (.inl (by simp)) 0 _

set_option maxHeartbeats 4000000 in
set_option maxRecDepth 100000 in
/-- where the line was given up -/
theorem line1_thrown {w : World} {rp cb bb wb rb : Nat} (hv : LineVars w rp cb bb wb rb) (x : Sp.WrongV) (hbc : bb ≠ cb) (hwc : wb ≠ cb) (hwb : wb ≠ bb) :
    CallsD Tryz.prog 64 #[.pointer (some ⟨rp, 0, none⟩), .pointer (some ⟨cb, 0, none⟩), .pointer (some ⟨bb, 0, none⟩), .pointer (some ⟨wb, 0, none⟩)] (.panicking [{ v := .iface 112 (wrongV x), recovered := false }]) w fun e u' w' =>
      e = .returned (.tuple #[]) ∧ u' = .panicking [{ v := .iface 112 (wrongV x), recovered := true }] ∧ Blk w' cb 38 (cmdArr {} nilRow nilRow nilRow) ∧ Blk w' bb 3 #[.int .i64 (-1)] ∧ Blk w' wb 59 (wrongArr x) ∧ OnlyIn [cb, bb, wb] w w' := by
  have hcp := hv.c.can 0 11 (by simp [cmdArr])
  have hwp := hv.w.can 0 3 (by simp [wrongArr])
  have xb : _ = some (Value.int .i64 0) := hv.b.cell 0
  have fb := hv.b.frozen 0
  have hlc := hv.c.lt
  have hlb := hv.b.lt
  have hlw := hv.w.lt
  have nc : w.heap.size ≠ cb := by omega
  have nb : w.heap.size ≠ bb := by omega
  have nw : w.heap.size ≠ wb := by omega
  obtain ⟨wk, wt, wp⟩ := x
  have HV := Lib.hid hv
  clear hv
  refine callsD_of_wpS Tryz.func64 rfl fun c₀ cs hu => ?_
  apply wpS_seq
  apply wpS_region
  simp [wpOpsS, go_sem, recoverD, hu, Tryz.ntmps64, Exit.thenS]
  rw [tmps_20]
  refine wpS_of_wp (wp_gen fun Q' hQ => ?_)
  have HQ := Lib.hid hQ
  clear hQ
  go_wp2_with fail
  go_region
  all_goals
    go_wp2_with fail
    rw [HQ.out]
    refine ⟨rfl, _, rfl, .tuple #[], by simp [results, Tryz.results64], rfl, rfl, ?_, ?_, ?_, ?_⟩
    · exact (((HV.out.c.alloc _).drew.putCmd {} nilRow nilRow nilRow).far (p := ⟨bb, 0, none⟩) (fun e => hbc e.symm) _).farCells wb (fun e => hwc e.symm) (wrongList ⟨wk, wt, wp⟩) 0
    · exact (((HV.out.b.alloc _).drew.farCells cb hbc (cmdList {} nilRow nilRow nilRow) 0).put 0 (.int .i64 (-1))).farCells wb (fun e => hwb e.symm) (wrongList ⟨wk, wt, wp⟩) 0
    · exact (((HV.out.w.alloc _).drew.farCells cb hwc (cmdList {} nilRow nilRow nilRow) 0).far (p := ⟨bb, 0, none⟩) hwb _).putWrong ⟨wk, wt, wp⟩
    · have h1 : OnlyIn [cb, bb, wb] w (w.alloc (.cells #[.int .i64 wk, str wt, .int .i64 wp] 112)).drew := OnlyIn.of ((Below.refl _ _).alloc (Nat.le_refl _) _).drew _
      exact OnlyIn.setCells (.inl (by simp)) (wrongList ⟨wk, wt, wp⟩) 0 ((OnlyIn.setCells (.inl (by simp)) (cmdList {} nilRow nilRow nilRow) 0 h1).setCell (.inl (by simp)) 0 _)
end Go.Proofs.YthgfjafnclklpaaGreatDoor
end
section
namespace Go.Proofs.YthgfjafnclklpaaGreatDoor
attribute [local go_sem ↓] Go.wp_at_zero Go.wp_at_succ
open Go.RowKit

theorem push_all : ∀ (l : Sp.Bs) (s : ByteArray), (l.map fun b => (b.toNat : Int)).foldl (fun r n => r.push (UInt8.ofNat n.toNat)) s = ⟨s.data ++ l.toArray⟩
  | [], s => by simp
  | b :: l, s => by
    rw [List.map_cons, List.foldl_cons, push_all l]
    have e : (s.push (UInt8.ofNat (b.toNat : Int).toNat)).data = s.data ++ #[b] := by simp [ByteArray.push]
    rw [e]
    simp

/-- bytes in memory, as a text -/
theorem run_bytes_str {w : World} {A : Option Addr} {cap : Nat} {l : Sp.Bs} (h : RowAt w A (bytesV l)) :
    (convert 35 9 (.slice A l.length cap)).run Tryz.prog w = .ok (str l) w := by
  rw [run_convert_bytes_string w _ _ 5 A l.length cap (by kernel_rfl) (by kernel_rfl) (by kernel_rfl)]
  cases A with
  | none =>
    rcases h with h | ⟨b, o, h, _⟩
    · have : l = [] := by simpa [bytesV] using h
      subst this
      rfl
    · cases h
  | some a =>
    have hl : (loadCells a l.length).run Tryz.prog w = .ok ((l.map fun b => (b.toNat : Int)).map (Value.int .u8)).toArray w := by
      have e : (l.map fun b => (b.toNat : Int)).map (Value.int .u8) = bytesV l := by simp [bytesV]
      rw [e]
      have := run_loadCells_list (P := Tryz.prog) w a (bytesV l) (fun j v hv => by
        rcases h with h | ⟨b, o, h1, h2, h3⟩
        · rw [h] at hv; simp at hv
        · injection h1 with h1; subst h1
          rw [Addr.add_mid]; exact h3 j v hv)
      rwa [bytesV_length] at this
    rw [run_bytesToString w a l.length cap _ hl, push_all]
    simp

/-- what Line tells -/
def LinePost (w : World) (r : Sp.LineR) (e : Ending) (w' : World) : Prop :=
  (match r with
    | .ok c b => ∃ kv mv, e = .returned (.tuple #[cmdV c kv nilRow mv, .int .i64 b, wrongV {}]) ∧ w'.ownsRow w.heap.size 9 1 kv c.keys.length (c.keys.map str) ∧ w'.ownsRow w.heap.size 94 3 mv c.metas.length (flagsCells c.metas)
    | .bad x => e = .returned (.tuple #[cmdV {} nilRow nilRow nilRow, .int .i64 (-1), wrongV x])) ∧ Below w.heap.size w w'

/-- Line's variables and its reader, where read is called -/
structure LineMid (w : World) (l : Sp.Bs) (A : Option Addr) (wx : World) (n : Nat) : Prop where
  vars : LineVars wx (n + 4) n (n + 1) (n + 2) (n + 3)
  rd : RdNew wx (n + 3)
  row : RowAt wx A (bytesV l)
  only : Below n w wx

theorem lineMid_new {w : World} {l : Sp.Bs} {A : Option Addr} (h : RowAt w A (bytesV l)) :
    LineMid w l A (((((w.alloc (.cells (cmdArr {} nilRow nilRow nilRow) 38)).alloc (.cells #[.int .i64 0] 3)).alloc (.cells (wrongArr {}) 59)).alloc (.cells (rdCells {} nilRow nilRow (-1) (-1)) 110)).alloc (.cells #[.pointer (some ⟨w.heap.size + 1 + 1 + 1, 0, none⟩)] 108)) w.heap.size := by
  have b1 := Blk.new w 38 (cmdArr {} nilRow nilRow nilRow)
  generalize e1 : w.alloc (.cells (cmdArr {} nilRow nilRow nilRow) 38) = w1 at b1 ⊢
  have s1 : w1.heap.size = w.heap.size + 1 := by rw [← e1]; simp
  have b2 := Blk.new w1 3 #[.int .i64 0]
  generalize e2 : w1.alloc (.cells #[.int .i64 0] 3) = w2 at b2 ⊢
  have s2 : w2.heap.size = w.heap.size + 2 := by rw [← e2]; simp [s1]
  have b3 := Blk.new w2 59 (wrongArr {})
  generalize e3 : w2.alloc (.cells (wrongArr {}) 59) = w3 at b3 ⊢
  have s3 : w3.heap.size = w.heap.size + 3 := by rw [← e3]; simp [s2]
  have b4 := Blk.new w3 110 (rdCells {} nilRow nilRow (-1) (-1))
  generalize e4 : w3.alloc (.cells (rdCells {} nilRow nilRow (-1) (-1)) 110) = w4 at b4 ⊢
  have s4 : w4.heap.size = w.heap.size + 4 := by rw [← e4]; simp [s3]
  have b5 := Blk.new w4 108 #[.pointer (some ⟨w.heap.size + 3, 0, none⟩)]
  rw [s1] at b2; rw [s2] at b3; rw [s3] at b4; rw [s4] at b5
  have l1 : Below w1.heap.size w1 w2 := e2 ▸ (Below.refl _ _).alloc (Nat.le_refl _) _
  have l2 : Below w2.heap.size w2 w3 := e3 ▸ (Below.refl _ _).alloc (Nat.le_refl _) _
  have l3 : Below w3.heap.size w3 w4 := e4 ▸ (Below.refl _ _).alloc (Nat.le_refl _) _
  have l4 : Below w4.heap.size w4 (w4.alloc (.cells #[.pointer (some ⟨w.heap.size + 3, 0, none⟩)] 108)) := (Below.refl _ _).alloc (Nat.le_refl _) _
  have l0 : Below w.heap.size w w1 := e1 ▸ (Below.refl _ _).alloc (Nat.le_refl _) _
  have l24 := l2.trans (l3.mono (by omega : w2.heap.size ≤ w3.heap.size))
  have l25 := l24.trans (l4.mono (by omega : w2.heap.size ≤ w4.heap.size))
  have l35 := l3.trans (l4.mono (by omega : w3.heap.size ≤ w4.heap.size))
  have l15 := l1.trans (l25.mono (by omega : w1.heap.size ≤ w2.heap.size))
  have l05 := l0.trans (l15.mono (by omega : w.heap.size ≤ w1.heap.size))
  exact ⟨⟨b5, b1.later l15, b2.later l25, b3.later l35⟩, b4.later l4, h.below l05, l05⟩

set_option maxHeartbeats 4000000 in
set_option maxRecDepth 100000 in
theorem line_any {w : World} (hg : Glob w) {A : Option Addr} {cap : Nat} {l : Sp.Bs} (h : RowAt w A (bytesV l)) :
    Calls Tryz.prog 19 #[.slice A l.length cap] w (LinePost w (Sp.lineOf l)) := by
  have hmf : ∀ (fn : Fn) (first cap : Array Value) (w : World), (Instr.makeFunc fn first cap).run Tryz.prog w = .ok (.func fn first cap) w := fun _ _ _ _ => rfl
  have H := Lib.hid h
  clear h
  generalize hR : LinePost w (Sp.lineOf l) = R
  have HR := Lib.hid hR
  clear hR
  go_enter_defers Tryz.func19, Tryz.ntmps19
  go_upto_region 1 with (fail)
  go_cut [5] from 5 to 8 (fun s wx => s = .pointer (some ⟨w.heap.size + 4, 0, none⟩) ∧ LineMid w l A wx w.heap.size)
  case first =>
    go_wp2
    go_meet
    exact ⟨rfl, lineMid_new H.out⟩
  case rest =>
    obtain ⟨rfl, hm⟩ := hcut
    have hgc := hg.later hm.only
    have hsz := hg.size
    have hcv := run_bytes_str (cap := cap) hm.row
    have x5 : _ = some (Value.pointer (some ⟨w.heap.size + 3, 0, none⟩)) := hm.vars.r.cell 0
    have hrd := read_any hm.rd hgc (by omega) l
    have HM := Lib.hid hm
    clear hm
    cases hr : Sp.lineOf l with
    | ok c b =>
      rw [hr] at hrd
      have hlok := (lineOf_ok hr).2.2.2.1
      have HRD := Lib.hid hrd
      have HRR := Lib.hid hr
      have HGC := Lib.hid hgc
      clear hrd hr hgc
      go_wp2_with (refine HRD.out.mono ?_; rintro e w9 ⟨⟨rfl, pass, kv, mv, hrdis⟩, honly⟩)
      have hne : ∀ k, k < wc.heap.size → k ≠ w.heap.size + 3 → w9.heap[k]? = wc.heap[k]? := honly.block
      have hv := HM.out.vars
      have hv9 : LineVars w9 (w.heap.size + 4) w.heap.size (w.heap.size + 1) (w.heap.size + 2) (w.heap.size + 3) :=
        ⟨hv.r.same (hne _ hv.r.lt (by omega)), hv.c.same (hne _ hv.c.lt (by omega)), hv.b.same (hne _ hv.b.lt (by omega)), hv.w.same (hne _ hv.w.lt (by omega))⟩
      refine leaves_cons (f := 64) (args := #[.pointer (some ⟨w.heap.size + 4, 0, none⟩), .pointer (some ⟨w.heap.size, 0, none⟩), .pointer (some ⟨w.heap.size + 1, 0, none⟩), .pointer (some ⟨w.heap.size + 2, 0, none⟩)]) (by simp) (by simp [go_sem]) ?_
      refine (line1_back hv9 hrdis hlok (by omega)).mono ?_
      rintro e u' w'' ⟨rfl, rfl, hc, hb, ho⟩
      have hk := own_same hrdis.keys fun k hk => ho.block k (own_lt hrdis.keys k hk) (by
        have := own_ge hrdis.keys k hk; have := hv.r.lt; simp; omega)
      have hmt := own_same hrdis.metas fun k hk => ho.block k (own_lt hrdis.metas k hk) (by
        have := own_ge hrdis.metas k hk; have := hv.r.lt; simp; omega)
      have hw := hv9.w.same (ho.block _ hv9.w.lt (by simp))
      have hfin : LinePost w (Sp.lineOf l) (.returned (.tuple #[cmdV c kv nilRow mv, .int .i64 b, wrongV {}])) w'' := by
        rw [HRR.out]
        refine ⟨⟨kv, mv, rfl, World.ownsRow.mono hk HM.out.only.size, World.ownsRow.mono hmt HM.out.only.size⟩, ?_⟩
        exact (HM.out.only.trans (honly.below HM.out.only.size (by omega))).trans (ho.below (by have := honly.size; have := HM.out.only.size; omega) (by simp))
      rw [HR.out] at hfin
      have y0 : _ = some (Value.int .i64 c.verb) := hc.cell 0
      have y1 : _ = some kv := hc.cell 1
      have y2 : _ = some (Value.int .u64 c.flags) := hc.cell 2
      have y3 : _ = some (Value.int .i64 c.exptime) := hc.cell 3
      have y4 : _ = some (Value.int .u64 c.token) := hc.cell 4
      have y5 : _ = some (Value.int .u64 c.delta) := hc.cell 5
      have y6 : _ = some nilRow := hc.cell 6
      have y7 : _ = some (Value.bool c.noreply) := hc.cell 7
      have y8 : _ = some (Value.bool c.large) := hc.cell 8
      have y9 : _ = some mv := hc.cell 9
      have y10 : _ = some (str c.what) := hc.cell 10
      have z0 : _ = some (Value.int .i64 b) := hb.cell 0
      have v0 : _ = some (Value.int .i64 0) := hw.cell 0
      have v1 : _ = some (str []) := hw.cell 1
      have v2 : _ = some (Value.int .i64 0) := hw.cell 2
      simp [Leaves, settle, results, Tryz.results19, go_sem, y0, y1, y2, y3, y4, y5, y6, y7, y8, y9, y10, z0, v0, v1, v2]
      exact hfin
    | bad x =>
      rw [hr] at hrd
      have HRD := Lib.hid hrd
      have HRR := Lib.hid hr
      have HGC := Lib.hid hgc
      clear hrd hr hgc
      go_wp2_with (refine HRD.out.mono ?_; rintro e w9 ⟨rfl, honly⟩)
      have hne : ∀ k, k < wc.heap.size → k ≠ w.heap.size + 3 → w9.heap[k]? = wc.heap[k]? := honly.block
      have hv := HM.out.vars
      have hv9 : LineVars w9 (w.heap.size + 4) w.heap.size (w.heap.size + 1) (w.heap.size + 2) (w.heap.size + 3) :=
        ⟨hv.r.same (hne _ hv.r.lt (by omega)), hv.c.same (hne _ hv.c.lt (by omega)), hv.b.same (hne _ hv.b.lt (by omega)), hv.w.same (hne _ hv.w.lt (by omega))⟩
      refine leaves_cons (f := 64) (args := #[.pointer (some ⟨w.heap.size + 4, 0, none⟩), .pointer (some ⟨w.heap.size, 0, none⟩), .pointer (some ⟨w.heap.size + 1, 0, none⟩), .pointer (some ⟨w.heap.size + 2, 0, none⟩)]) (by simp) (by simp [go_sem]) ?_
      refine (line1_thrown hv9 x (by omega) (by omega) (by omega)).mono ?_
      rintro e u' w'' ⟨rfl, rfl, hc, hb, hw, ho⟩
      have hfin : LinePost w (Sp.lineOf l) (.returned (.tuple #[cmdV {} nilRow nilRow nilRow, .int .i64 (-1), wrongV x])) w'' := by
        rw [HRR.out]
        exact ⟨rfl, (HM.out.only.trans (honly.below HM.out.only.size (by omega))).trans (ho.below (by have := honly.size; have := HM.out.only.size; omega) (by simp))⟩
      rw [HR.out] at hfin
      have y0 : _ = some (Value.int .i64 0) := hc.cell 0
      have y1 : _ = some nilRow := hc.cell 1
      have y2 : _ = some (Value.int .u64 0) := hc.cell 2
      have y3 : _ = some (Value.int .i64 0) := hc.cell 3
      have y4 : _ = some (Value.int .u64 0) := hc.cell 4
      have y5 : _ = some (Value.int .u64 0) := hc.cell 5
      have y6 : _ = some nilRow := hc.cell 6
      have y7 : _ = some (Value.bool false) := hc.cell 7
      have y8 : _ = some (Value.bool false) := hc.cell 8
      have y9 : _ = some nilRow := hc.cell 9
      have y10 : _ = some (str []) := hc.cell 10
      have z0 : _ = some (Value.int .i64 (-1)) := hb.cell 0
      have v0 : _ = some (Value.int .i64 x.kind) := hw.cell 0
      have v1 : _ = some (str x.text) := hw.cell 1
      have v2 : _ = some (Value.int .i64 x.pass) := hw.cell 2
      simp [Leaves, settle, results, Tryz.results19, go_sem, y0, y1, y2, y3, y4, y5, y6, y7, y8, y9, y10, z0, v0, v1, v2]
      exact hfin
end Go.Proofs.YthgfjafnclklpaaGreatDoor
end
