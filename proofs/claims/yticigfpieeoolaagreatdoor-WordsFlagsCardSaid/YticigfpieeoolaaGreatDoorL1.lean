/- Walks of package words: the deferred function of Line. -/
import Derived.Test.YticigfpieeoolaaGreatDoorW13
import Derived.Test.YticigfpieeoolaaGreatDoorG1
import Derived.Deep.RegionHeld3
import Derived.Defers
import Derived.Recover
import Derived.Deep.MidRow
import Derived.Deep.WholeRow
namespace Go.Proofs.YticigfpieeoolaaGreatDoor
attribute [local go_sem ↓] Go.wp_at_zero Go.wp_at_succ
open Go.RowKit

/-- a command's value; a wrong's value -/
abbrev cmdV (c : Sp.CmdV) (kv dv mv : Value) : Value := .agg #[.int .i64 c.verb, kv, .int .u64 c.flags, .int .i64 c.exptime, .int .u64 c.token, .int .u64 c.delta, dv, .bool c.noreply, .bool c.large, mv, str c.what]
abbrev wrongV (x : Sp.WrongV) : Value := .agg #[.int .i64 x.kind, str x.text, .int .i64 x.pass]
def cmdArr (c : Sp.CmdV) (kv dv mv : Value) : Array Value := #[.int .i64 c.verb, kv, .int .u64 c.flags, .int .i64 c.exptime, .int .u64 c.token, .int .u64 c.delta, dv, .bool c.noreply, .bool c.large, mv, str c.what]
def wrongArr (x : Sp.WrongV) : Array Value := #[.int .i64 x.kind, str x.text, .int .i64 x.pass]

/-- Line's variables: its reader's address, and its results -/
structure LineVars (w : World) (rp cb bb wb rb : Nat) : Prop where
  r : Blk w rp 105 #[.pointer (some ⟨rb, 0, none⟩)]
  c : Blk w cb 41 (cmdArr {} nilRow nilRow nilRow)
  b : Blk w bb 3 #[.int .i64 0]
  w : Blk w wb 43 (wrongArr {})

theorem run_store_cmd (w : World) (b o : Nat) (v : Int) (kp : Option Addr) (kn kc : Nat) (fl ex tk dl : Int) (dp : Option Addr) (dn dc : Nat) (nr lg : Bool) (mp : Option Addr) (mn mc : Nat) (wh : ByteArray) (ht : canPut w b o 11 = true) :
    (storeVar 41 ⟨b, o, none⟩ (.agg #[.int .i64 v, .slice kp kn kc, .int .u64 fl, .int .i64 ex, .int .u64 tk, .int .u64 dl, .slice dp dn dc, .bool nr, .bool lg, .slice mp mn mc, .string wh])).run Tryz.prog w =
      .ok () (w.setCells b o [.int .i64 v, .slice kp kn kc, .int .u64 fl, .int .i64 ex, .int .u64 tk, .int .u64 dl, .slice dp dn dc, .bool nr, .bool lg, .slice mp mn mc, .string wh]) :=
  run_storeVar_mid w b o _ _ (canPut_there ht) (by kernel_rfl) (by simp [Value.oneCell'])
theorem run_store_wrong (w : World) (b o : Nat) (k : Int) (s : ByteArray) (p : Int) (ht : canPut w b o 3 = true) :
    (storeVar 43 ⟨b, o, none⟩ (.agg #[.int .i64 k, .string s, .int .i64 p])).run Tryz.prog w = .ok () (w.setCells b o [.int .i64 k, .string s, .int .i64 p]) :=
  run_storeVar_mid w b o _ _ (canPut_there ht) (by kernel_rfl) (by simp [Value.oneCell'])
theorem canPut_drew (w : World) (b o n : Nat) : canPut w.drew b o n = canPut w b o n := rfl
theorem canPut_alloc (w : World) (x : Obj) (b o n : Nat) (hb : b < w.heap.size) : canPut (w.alloc x) b o n = canPut w b o n := by
  unfold canPut
  congr 1
  funext j
  rw [World.cell?_alloc_lt w x ⟨b, o + j, none⟩ hb, World.frozen?_alloc_past x b (o + j) hb]
theorem cell_setCells_far (w : World) (b o : Nat) (us : List Value) (c i : Nat) (h : c ≠ b) : (w.setCells b o us).cell? ⟨c, i, none⟩ = w.cell? ⟨c, i, none⟩ :=
  World.cell?_setCells_out b us o w ⟨c, i, none⟩ fun e _ => absurd e h
theorem canPut_setCells (b' : Nat) : ∀ (us : List Value) (o' : Nat) (w : World) (b o n : Nat), canPut (w.setCells b' o' us) b o n = canPut w b o n
  | [], _, _, _, _, _ => rfl
  | u :: us, o', w, b, o, n => by rw [World.setCells, canPut_setCells b' us, canPut_setCell]

/-- a command's, a wrong's cells stored -/
def cmdList (c : Sp.CmdV) (kv dv mv : Value) : List Value := [.int .i64 c.verb, kv, .int .u64 c.flags, .int .i64 c.exptime, .int .u64 c.token, .int .u64 c.delta, dv, .bool c.noreply, .bool c.large, mv, str c.what]
def wrongList (x : Sp.WrongV) : List Value := [.int .i64 x.kind, str x.text, .int .i64 x.pass]
theorem Blk.putCmd {w : World} {g : Nat} {t : TypeId} {c0 : Sp.CmdV} {k0 d0 m0 : Value} (h : Blk w g t (cmdArr c0 k0 d0 m0)) (c : Sp.CmdV) (kv dv mv : Value) : Blk (w.setCells g 0 (cmdList c kv dv mv)) g t (cmdArr c kv dv mv) := by
  have := Blk.puts (cmdList c kv dv mv) 0 h
  rwa [show ((cmdList c kv dv mv).zipIdx 0).foldl (fun cs x => cs.setIfInBounds x.2 x.1) (cmdArr c0 k0 d0 m0) = cmdArr c kv dv mv from by kernel_rfl] at this
theorem Blk.putWrong {w : World} {g : Nat} {t : TypeId} {x0 : Sp.WrongV} (h : Blk w g t (wrongArr x0)) (x : Sp.WrongV) : Blk (w.setCells g 0 (wrongList x)) g t (wrongArr x) := by
  have := Blk.puts (wrongList x) 0 h
  rwa [show ((wrongList x).zipIdx 0).foldl (fun cs x => cs.setIfInBounds x.2 x.1) (wrongArr x0) = wrongArr x from by kernel_rfl] at this
theorem Blk.farCells {g : Nat} {t : TypeId} {cs : Array Value} (b : Nat) (hb : g ≠ b) : ∀ (us : List Value) (o : Nat) {w : World}, Blk w g t cs → Blk (w.setCells b o us) g t cs
  | [], _, _, h => h
  | u :: us, o, w, h => by
    rw [World.setCells]
    exact Blk.farCells b hb us (o + 1) (h.far (p := ⟨b, o, none⟩) hb u)
theorem OnlyIn.setCells {L : List Nat} {a : World} {g : Nat} (hg : g ∈ L ∨ a.heap.size ≤ g) : ∀ (us : List Value) (o : Nat) {w : World}, OnlyIn L a w → OnlyIn L a (w.setCells g o us)
  | [], _, _, h => h
  | u :: us, o, w, h => by
    rw [World.setCells]
    exact OnlyIn.setCells hg us (o + 1) (h.setCell hg o u)

theorem tmps_20 (a b c d x : Value) : (#[a, b, c, d] ++ (Array.replicate 20 undef).setIfInBounds 3 x : Array Value) = #[a, b, c, d, undef, undef, undef, x, undef, undef, undef, undef, undef, undef, undef, undef, undef, undef, undef, undef, undef, undef, undef, undef] := by kernel_rfl

theorem run_assert_wrong (v : Value) (w : World) : (Instr.typeAssert (.iface 109 v) 20 109 true).run Tryz.prog w = .ok (.tuple #[v, .bool true]) w := by kernel_rfl

theorem run_store_thrown (w : World) (z0 z1 z2 : Value) (k : Int) (s : ByteArray) (p : Int) :
    (storeVar 109 ⟨w.heap.size, 0, none⟩ (.agg #[.int .i64 k, .string s, .int .i64 p])).run Tryz.prog (w.alloc (.cells #[z0, z1, z2] 109)) = .ok () (w.alloc (.cells #[.int .i64 k, .string s, .int .i64 p] 109)) :=
  run_storeVar_new w _ _ _ (by kernel_rfl) rfl (by simp [Value.oneCell'])

theorem wp_gen {P : Program} {c : Code} {Q : Exit → Act → World → Prop} {a : Act} {w : World} (h : ∀ Q', Q' = Q → Code.wp P c Q' a w) : Code.wp P c Q a w := h Q rfl

attribute [-go_sem] storeVar
attribute [local go_sem] run_store_cmd run_store_wrong storeVar_int' storeVar_bool' storeVar_slice' storeVar_func' canPut_setCell canPut_drew canPut_alloc canPut_setCells cell_setCells_far World.frozen?_setCells run_assert_wrong run_store_thrown

set_option maxHeartbeats 4000000 in
set_option maxRecDepth 100000 in
/-- where read has told the command -/
theorem line1_back {base : Nat} {w : World} {rp cb bb wb rb : Nat} (hv : LineVars w rp cb bb wb rb) {c : Sp.CmdV} {b pass : Int} {kv mv : Value} (hr : RdIs base w rb c b pass kv mv) (hl : c.large = false) (hbc : bb ≠ cb) :
    CallsD Tryz.prog 49 #[.pointer (some ⟨rp, 0, none⟩), .pointer (some ⟨cb, 0, none⟩), .pointer (some ⟨bb, 0, none⟩), .pointer (some ⟨wb, 0, none⟩)] .returning w fun e u' w' =>
      e = .returned (.tuple #[]) ∧ u' = .returning ∧ Blk w' cb 41 (cmdArr c kv nilRow mv) ∧ Blk w' bb 3 #[.int .i64 b] ∧ OnlyIn [cb, bb] w w' := by
  obtain ⟨k1, k2, k3, rfl⟩ := own_slice hr.keys
  obtain ⟨m1, m2, m3, rfl⟩ := own_slice hr.metas
  have xr : _ = some (Value.pointer (some ⟨rb, 0, none⟩)) := hv.r.cell 0
  have x0 : _ = some (Value.int .i64 c.verb) := (hr.blk).cell 0
  have x1 : _ = some (Value.slice k1 k2 k3) := (hr.blk).cell 1
  have x2 : _ = some (Value.int .u64 c.flags) := (hr.blk).cell 2
  have x3 : _ = some (Value.int .i64 c.exptime) := (hr.blk).cell 3
  have x4 : _ = some (Value.int .u64 c.token) := (hr.blk).cell 4
  have x5 : _ = some (Value.int .u64 c.delta) := (hr.blk).cell 5
  have x6 : _ = some (nilRow) := (hr.blk).cell 6
  have x7 : _ = some (Value.bool c.noreply) := (hr.blk).cell 7
  have x8 : _ = some (Value.bool false) := (hr.blk).cell 8
  have x9 : _ = some (Value.slice m1 m2 m3) := (hr.blk).cell 9
  have x10 : _ = some (str c.what) := (hr.blk).cell 10
  have x11 : _ = some (Value.int .i64 b) := (hr.blk).cell 11
  have hcp := hv.c.can 0 11 (by simp [cmdArr])
  have xb : _ = some (Value.int .i64 0) := hv.b.cell 0
  have fb := hv.b.frozen 0
  obtain ⟨cv, ck, cf, ce, ct, cd, cdt, cn, cl, cm, cw⟩ := c
  simp only at hl
  subst hl
  have HV := Lib.hid hv
  have HR := Lib.hid hr
  clear hv hr
  refine callsD_of_wpS Tryz.func49 rfl fun c₀ cs hu => ?_
  apply wpS_seq
  apply wpS_region
  simp [wpOpsS, go_sem, recoverD, hu, Tryz.ntmps49, Exit.thenS]
  rw [tmps_20]
  refine wpS_of_wp (wp_gen fun Q' hQ => ?_)
  have HQ := Lib.hid hQ
  clear hQ
  go_wp2_with fail
  go_region
  all_goals
    go_wp2_with fail
    rw [HQ.out]
    refine ⟨rfl, .returning, by cases c₀; simp_all, .tuple #[], by simp [results, Tryz.results49], rfl, rfl, ?_, ?_, ?_⟩
    · exact (HV.out.c.drew.putCmd ⟨cv, ck, cf, ce, ct, cd, [], cn, false, cm, cw⟩ (.slice k1 k2 k3) nilRow (.slice m1 m2 m3)).far (p := ⟨bb, 0, none⟩) (fun e => hbc e.symm) _
    · exact (HV.out.b.drew.farCells cb hbc (cmdList ⟨cv, ck, cf, ce, ct, cd, [], cn, false, cm, cw⟩ (.slice k1 k2 k3) nilRow (.slice m1 m2 m3)) 0).put 0 (.int .i64 b)
    · have h1 : OnlyIn [cb, bb] w w.drew := OnlyIn.of (Below.refl _ _).drew _
      exact (OnlyIn.setCells (.inl (by simp)) (cmdList ⟨cv, ck, cf, ce, ct, cd, [], cn, false, cm, cw⟩ (.slice k1 k2 k3) nilRow (.slice m1 m2 m3)) 0 h1).setCell (.inl (by simp)) 0 _

set_option maxHeartbeats 4000000 in
set_option maxRecDepth 100000 in
/-- where the line was given up -/
theorem line1_thrown {w : World} {rp cb bb wb rb : Nat} (hv : LineVars w rp cb bb wb rb) (x : Sp.WrongV) (hbc : bb ≠ cb) (hwc : wb ≠ cb) (hwb : wb ≠ bb) :
    CallsD Tryz.prog 49 #[.pointer (some ⟨rp, 0, none⟩), .pointer (some ⟨cb, 0, none⟩), .pointer (some ⟨bb, 0, none⟩), .pointer (some ⟨wb, 0, none⟩)] (.panicking [{ v := .iface 109 (wrongV x), recovered := false }]) w fun e u' w' =>
      e = .returned (.tuple #[]) ∧ u' = .panicking [{ v := .iface 109 (wrongV x), recovered := true }] ∧ Blk w' cb 41 (cmdArr {} nilRow nilRow nilRow) ∧ Blk w' bb 3 #[.int .i64 (-1)] ∧ Blk w' wb 43 (wrongArr x) ∧ OnlyIn [cb, bb, wb] w w' := by
  have hcp := hv.c.can 0 11 (by simp [cmdArr])
  have hwp := hv.w.can 0 3 (by simp [wrongArr])
  have xb : _ = some (Value.int .i64 0) := hv.b.cell 0
  have fb := hv.b.frozen 0
  have hlc := hv.c.lt
  have hlb := hv.b.lt
  have hlw := hv.w.lt
  have nc : w.heap.size ≠ cb := by omega
  have nb : w.heap.size ≠ bb := by omega
  have nw : w.heap.size ≠ wb := by omega
  obtain ⟨wk, wt, wp⟩ := x
  have HV := Lib.hid hv
  clear hv
  refine callsD_of_wpS Tryz.func49 rfl fun c₀ cs hu => ?_
  apply wpS_seq
  apply wpS_region
  simp [wpOpsS, go_sem, recoverD, hu, Tryz.ntmps49, Exit.thenS]
  rw [tmps_20]
  refine wpS_of_wp (wp_gen fun Q' hQ => ?_)
  have HQ := Lib.hid hQ
  clear hQ
  go_wp2_with fail
  go_region
  all_goals
    go_wp2_with fail
    rw [HQ.out]
    refine ⟨rfl, _, rfl, .tuple #[], by simp [results, Tryz.results49], rfl, rfl, ?_, ?_, ?_, ?_⟩
    · exact (((HV.out.c.alloc _).drew.putCmd {} nilRow nilRow nilRow).far (p := ⟨bb, 0, none⟩) (fun e => hbc e.symm) _).farCells wb (fun e => hwc e.symm) (wrongList ⟨wk, wt, wp⟩) 0
    · exact (((HV.out.b.alloc _).drew.farCells cb hbc (cmdList {} nilRow nilRow nilRow) 0).put 0 (.int .i64 (-1))).farCells wb (fun e => hwb e.symm) (wrongList ⟨wk, wt, wp⟩) 0
    · exact (((HV.out.w.alloc _).drew.farCells cb hwc (cmdList {} nilRow nilRow nilRow) 0).far (p := ⟨bb, 0, none⟩) hwb _).putWrong ⟨wk, wt, wp⟩
    · have h1 : OnlyIn [cb, bb, wb] w (w.alloc (.cells #[.int .i64 wk, str wt, .int .i64 wp] 109)).drew := OnlyIn.of ((Below.refl _ _).alloc (Nat.le_refl _) _).drew _
      exact OnlyIn.setCells (.inl (by simp)) (wrongList ⟨wk, wt, wp⟩) 0 ((OnlyIn.setCells (.inl (by simp)) (cmdList {} nilRow nilRow nilRow) 0 h1).setCell (.inl (by simp)) 0 _)
end Go.Proofs.YticigfpieeoolaaGreatDoor
