/- Walks of package words: Bytes, up to the line's words. Walk of the statements' helper wakes: a right line is read, a wrong one told, a command written. -/
import Derived.Test.YthgfjafnclklpaaGreatDoorQ43
import Derived.Test.YthgfjafnclklpaaGreatDoorG2
import Derived.Test.YthgfjafnclklpaaGreatDoorQ41
import Derived.Lib.AppendStr
import Derived.Test.YthgfjafnclklpaaGreatDoorOc
import Derived.Lib.SlBytesConst
section
namespace Go.Proofs.YthgfjafnclklpaaGreatDoor
attribute [local go_sem ↓] Go.wp_at_zero Go.wp_at_succ
open Go.RowKit

/-- a command that has a row -/
structure CmdOk (c : Sp.CmdV) : Prop where
  fit : CmdFit c
  verb1 : 1 ≤ c.verb
  verb : c.verb ≤ 24

def rowArr (r : Sp.RowV) : Array Value := #[.int .i64 r.verb, str r.places, .int .i64 r.least, .bool r.more, .bool r.noreply, .bool r.block]

/-- Bytes' variables, where these words have been gathered -/
structure BytesMid (w : World) (c : Sp.CmdV) (kv dv mv : Value) (r : Sp.RowV) (rb : Nat) (qs : List Sp.Bs) (ov : Value) (wr : World) : Prop where
  cmd : Blk wr w.heap.size 38 (cmdArr c kv dv mv)
  row : Blk wr rb 90 (rowArr r)
  words : wr.ownsRow w.heap.size 9 1 ov qs.length (qs.map str)
  below : Below w.heap.size w wr

section
variable {w wr w2 w3 : World} {c : Sp.CmdV} {kv dv mv ov ov' : Value} {r : Sp.RowV} {rb : Nat} {qs ps : List Sp.Bs}
theorem BytesMid.later (h : BytesMid w c kv dv mv r rb qs ov wr) (hb : Below wr.heap.size wr w2) : BytesMid w c kv dv mv r rb qs ov w2 :=
  ⟨h.cmd.later hb, h.row.later hb, own_later h.words hb, h.below.trans (hb.mono h.below.size)⟩
theorem BytesMid.more (h : BytesMid w c kv dv mv r rb qs ov wr) {n0 : Nat} (hn : n0 = qs.length) (hb : Below wr.heap.size wr w2) (hg : w2.grownBy w3 ov.ownBlock) (ho : w3.ownsRow w.heap.size 9 1 ov' (n0 + ps.length) (qs.map str ++ ps.map str)) :
    BytesMid w c kv dv mv r rb (qs ++ ps) ov' w3 := by
  subst hn
  have h2 := h.later hb
  refine ⟨h2.cmd.grown hg (fun e => own_apart h2.words h2.cmd (by decide) e.symm), h2.row.grown hg (fun e => own_apart h2.words h2.row (by decide) e.symm), ?_, ?_⟩
  · rw [List.length_append, List.map_append]; exact ho
  · exact h2.below.grown hg h2.below.size (fun k hk => own_ge h2.words k (mem_rowBlock.2 hk))
end

theorem BytesMid.start {w w1 : World} {c : Sp.CmdV} {kv dv mv : Value} (h : Blk w1 w.heap.size 38 (cmdArr c kv dv mv)) (hb : Below w.heap.size w w1) (r : Sp.RowV) (wd : Sp.Bs) :
    BytesMid w c kv dv mv r w1.heap.size [wd] (.slice (some ⟨w1.heap.size + 1, 0, none⟩) 1 1) ((w1.alloc (.cells (rowArr r) 90)).alloc (.cells #[str wd] 9)) := by
  have ho := own_text (w1.alloc (.cells (rowArr r) 90)) w.heap.size (by have := hb.size; simp; omega) wd
  rw [show (w1.alloc (.cells (rowArr r) 90)).heap.size = w1.heap.size + 1 from by simp] at ho
  exact ⟨(h.alloc _).alloc _, (Blk.new _ _ _).alloc _, ho, (hb.alloc hb.size _).alloc (by have := hb.size; simp; omega) _⟩

theorem flat_snoc (f : UInt8 → List Sp.Bs) {l : Sp.Bs} {k : Nat} {x : UInt8} (h : l[k]? = some x) : (l.take (k + 1)).flatMap f = (l.take k).flatMap f ++ f x := by
  rw [List.take_add_one, h, List.flatMap_append]
  simp

theorem own_there {w : World} {base : Nat} {e : TypeId} {size n : Nat} {v : Value} {xs : List Value} (h : w.ownsRow base e size v n xs) (hn : 0 < n) : ∃ g cap, v = .slice (some ⟨g, 0, none⟩) n cap ∧ n ≤ cap := by
  rcases h.2 with ⟨_, h0⟩ | ⟨g, cap, cur, rfl, _, _, h2, _⟩
  · omega
  · exact ⟨g, cap, rfl, h2⟩

/-- what Bytes tells, where it takes the command -/
def BytesPost (w : World) (out : Sp.Bs) (e : Ending) (w' : World) : Prop :=
  ∃ A cap, e = .returned (.tuple #[.slice (some A) out.length cap, .int .i64 0]) ∧ RowAt w' (some A) (bytesV out) ∧ out.length ≤ cap ∧ Below w.heap.size w w'

/-- a text's bytes in new memory -/
theorem convert_str (w2 : World) (l : Sp.Bs) : ∃ W3 cp2, (convert 9 35 (.string ⟨l.toArray⟩)).run Tryz.prog w2 = .ok (.slice (some ⟨w2.heap.size, 0, none⟩) l.length cp2) W3 ∧
    RowAt W3 (some ⟨w2.heap.size, 0, none⟩) (bytesV l) ∧ l.length ≤ cp2 ∧ Below w2.heap.size w2 W3 := by
  have h := run_bytes_of_string (P := Tryz.prog) w2 9 35 5 ⟨l.toArray⟩ Tryz.underlying9 Tryz.underlying35 Tryz.underlying5
  rw [str_size] at h
  refine ⟨_, _, h, ?_, grownCap_ge w2 l.length 0 5, ((Below.refl _ _).drew).alloc (Nat.le_refl _) _⟩
  refine .inr ⟨w2.heap.size, 0, rfl, by simp, fun j u hu => ?_⟩
  rw [Nat.zero_add]
  have hj : j < l.length := by have := (List.getElem?_eq_some_iff.1 hu).1; rwa [bytesV_length] at this
  have hw : (w2.drew.alloc (.cells (bytesRow ⟨l.toArray⟩ (grownCap w2 l.length 0 5)) 5 ((bytesRow ⟨l.toArray⟩ (grownCap w2 l.length 0 5)).size, (bytesRow ⟨l.toArray⟩ (grownCap w2 l.length 0 5)).size + 1))).cell? ⟨w2.heap.size, j, none⟩ = (bytesRow ⟨l.toArray⟩ (grownCap w2 l.length 0 5))[j]? := by
    have hh := heap_alloc_new w2.drew (.cells (bytesRow ⟨l.toArray⟩ (grownCap w2 l.length 0 5)) 5 ((bytesRow ⟨l.toArray⟩ (grownCap w2 l.length 0 5)).size, (bytesRow ⟨l.toArray⟩ (grownCap w2 l.length 0 5)).size + 1))
    change _ = some _ at hh
    simp only [World.cell?]
    rw [show (w2.drew.alloc (.cells (bytesRow ⟨l.toArray⟩ (grownCap w2 l.length 0 5)) 5 ((bytesRow ⟨l.toArray⟩ (grownCap w2 l.length 0 5)).size, (bytesRow ⟨l.toArray⟩ (grownCap w2 l.length 0 5)).size + 1))).heap[w2.heap.size]? = _ from hh]
    rfl
  rw [hw]
  unfold bytesRow
  rw [Array.getElem?_append_left (by simpa using hj)]
  simpa [bytesV] using hu

theorem AllPost.one {W : World} {t : Sp.StepV} {e : Ending} {w' : World} (h : AllPost W ([t], 0) e w') : ∃ g c2 kv dv mv, e = .returned (.tuple #[.slice (some ⟨g, 0, none⟩) 1 c2, .int .i64 0]) ∧ CmdAt w' t.cmd kv dv mv ∧
    (∀ (i : Nat) (u : Value), (stepCells t kv dv mv)[i]? = some u → w'.cell? ⟨g, i, none⟩ = some u) ∧ g < w'.heap.size ∧ Below W.heap.size W w' := by
  obtain ⟨A, c2, tcs, bl, rfl, ho, hs, _, _, hb⟩ := h
  obtain ⟨g, cap, hv, _⟩ := own_there ho (by simp)
  injection hv with hv1 hv2 hv3
  subst hv1
  obtain ⟨kv, dv, mv, hc, hf⟩ := hs.at.2 0 t rfl
  have hrow := RowAt.of_own ho
  rcases hrow with h0 | ⟨b, o, h1, h2, h3⟩
  · have := hf 0 (.int .i64 t.cmd.verb) rfl
    rw [h0] at this; simp at this
  · injection h1 with h1; injection h1 with h1 h4
    subst h1; subst h4
    exact ⟨g, c2, kv, dv, mv, rfl, hc, fun i u hu => by have := h3 _ u (hf i u hu); simpa using this, h2, hb⟩

/-- the words joined by blanks -/
theorem join_any {w : World} {base : Nat} {ps : List Sp.Bs} {g cap : Nat} (ho : w.ownsRow base 9 1 (.slice (some ⟨g, 0, none⟩) ps.length cap) ps.length (ps.map str)) (hc : ps.length ≤ cap) (hn : ps.length ≤ 100000000) (hl : (Lib.join ps [32]).length ≤ 100000000) :
    Calls Tryz.prog 45 #[.slice (some ⟨g, 0, none⟩) ps.length cap, .string ⟨#[32]⟩] w fun e w' => e = .returned (str (Lib.join ps [32])) ∧ Below w.heap.size w w' := by
  have hm : (ps.map fun l => (⟨l.toArray⟩ : ByteArray)).map (·.data.toList) = ps := by
    rw [List.map_map]
    conv => rhs; rw [← List.map_id ps]
    exact List.map_congr_left fun l _ => by simp
  have h := Tryz.strings_Join g 0 cap (ps.map fun l => (⟨l.toArray⟩ : ByteArray)) ⟨#[32]⟩ w (fun j x hx => by
    have hr := RowAt.of_own ho
    rcases hr with h0 | ⟨b, o, h1, _, h3⟩
    · have : ps = [] := by simpa using h0
      rw [this] at hx; simp at hx
    · injection h1 with h1; injection h1 with h1 h2
      subst h1; subst h2
      refine h3 j _ ?_
      rw [List.getElem?_map] at hx ⊢
      obtain ⟨l, hl, rfl⟩ := Option.map_eq_some_iff.1 hx
      rw [hl]; rfl) (own_lt ho g (by simp [rowBlock, Value.ownBlock])) (by rw [List.length_map]; omega) (by rw [List.length_map]; exact hc) (by rw [hm]; show (Lib.join ps [32]).length ≤ _; omega)
  rw [hm, List.length_map] at h
  exact h

set_option maxHeartbeats 8000000 in
set_option maxRecDepth 100000 in
theorem bytes_plain {w : World} (hg : Glob w) (ht : TabAt w) {c : Sp.CmdV} {K D M : Option Addr} {kc dc mc : Nat} (hm : CmdIn w c K kc D dc M mc) (hf0 : CmdFit c) (hv : 1 ≤ c.verb) (hl : c.large = false) (hblk : (rowBy c.verb).block = false)
    {t : Sp.StepV} (ha : Sp.allV c.data.length ((Sp.outV c).length + 1) 0 (Sp.outV c) = ([t], 0)) (htc : t.cmd = c) (hto : t.to = (Sp.outV c).length) (hlen : (Sp.outV c).length ≤ 100000000) (hparts : (Sp.partsV (rowBy c.verb) (wordBy c.verb) c).length ≤ 100000000) :
    Calls Tryz.prog 9 #[cmdV c (.slice K c.keys.length kc) (.slice D c.data.length dc) (.slice M c.metas.length mc)] w (BytesPost w (Sp.outV c)) := by
  generalize hR : BytesPost w (Sp.outV c) = R
  have HR := Lib.hid hR
  have hf : CmdOk c := ⟨hf0, hv, hf0.verb⟩
  have hv2 := hf.verb
  have hw0 : Below w.heap.size w (w.alloc (.cells (cmdArr c (.slice K c.keys.length kc) (.slice D c.data.length dc) (.slice M c.metas.length mc)) 38)) := (Below.refl _ _).alloc (Nat.le_refl _) _
  have hbl := Blk.new w 38 (cmdArr c (.slice K c.keys.length kc) (.slice D c.data.length dc) (.slice M c.metas.length mc))
  have hn := name_yes c.verb hv hv2 (w.alloc (.cells (cmdArr c (.slice K c.keys.length kc) (.slice D c.data.length dc) (.slice M c.metas.length mc)) 38))
  simp only [rowVal] at hn
  obtain ⟨r, hr⟩ : ∃ r, r = rowBy c.verb := ⟨_, rfl⟩
  obtain ⟨wd, hwd⟩ : ∃ wd, wd = wordBy c.verb := ⟨_, rfl⟩
  rw [← hr, ← hwd] at hn
  have HG := Lib.hid hg
  have HT := Lib.hid ht
  have HM := Lib.hid hm
  have HF := Lib.hid hf
  have HA := Lib.hid ha
  have HTC := Lib.hid htc
  have HTO := Lib.hid hto
  have HN := Lib.hid hn
  have HW0 := Lib.hid hw0
  have HBL := Lib.hid hbl
  have HRW := Lib.hid hr
  have HWD := Lib.hid hwd
  have HL := Lib.hid hl
  have HP := Lib.hid hparts
  have HBK := Lib.hid hblk
  clear hR hg ht hm hf ha htc hto hn hw0 hbl hr hwd hl hv hv2 hparts hf0 hblk
  go_enter Tryz.func9, Tryz.ntmps9
  go_upto_region 4 with (refine HN.out.mono ?_; rintro e w1 ⟨rfl, hb1⟩; have hx1 := HBL.out.later hb1; have x8 : _ = some (Value.bool c.large) := hx1.cell 8; rw [HL.out] at x8; have hlt1 : w.heap.size < w1.heap.size := hx1.lt; have HX1 := Lib.hid hx1; have HB1 := Lib.hid hb1; clear hb1 hx1)
  go_cut [7] (fun ov wx => BytesMid w c (.slice K c.keys.length kc) (.slice D c.data.length dc) (.slice M c.metas.length mc) r w1.heap.size [wd] ov wx)
  case first =>
    go_wp2_with fail
    go_meet
    exact BytesMid.start HX1.out (HW0.out.trans (HB1.out.mono HW0.out.size)) r wd
  case rest =>
    have hrow := hcut.row
    have z1 : _ = some (str r.places) := hrow.cell 1
    obtain ⟨i0, hi, hz0, hz1, hz2⟩ := info_parts info_string
    have hpl : r.places.length ≤ 5 ∧ (∀ k ∈ r.places, k ∈ ([75, 70, 84, 78, 67, 48, 68, 83, 86, 87, 71] : Sp.Bs)) := by
      have := rowOf_ok (rowOf_word (v := c.verb) HF.out.verb1 HF.out.verb)
      rw [← HRW.out] at this
      exact ⟨this.1, this.2.2.2.2.2⟩
    have hpl5 := hpl.1
    have hst : BytesMid w c (.slice K c.keys.length kc) (.slice D c.data.length dc) (.slice M c.metas.length mc) r w1.heap.size ([wd] ++ (r.places.take 0).flatMap (Sp.putV c)) u7 wc := by simpa using hcut
    have HPL := Lib.hid hpl
    have HST := Lib.hid hst
    clear hcut hrow hpl hst x8
    go_wp2_with fail
    go_loopw [7, 34] (fun ov i wr => ∃ k : Nat, k ≤ r.places.length ∧ i = .int .i64 k ∧ BytesMid w c (.slice K c.keys.length kc) (.slice D c.data.length dc) (.slice M c.metas.length mc) r w1.heap.size ([wd] ++ (r.places.take k).flatMap (Sp.putV c)) ov wr) (fun _ i _ => r.places.length - (intOf i).toNat)
    case atStart => exact ⟨0, Nat.zero_le _, rfl, HST.out⟩
    case round =>
      obtain ⟨k, hk, rfl, hm⟩ := hrel
      clear z1
      have hcmd := hm.cmd
      have hrow := hm.row
      have z1 : _ = some (str r.places) := hrow.cell 1
      have hltc := hcmd.lt
      have hltr := hrow.lt
      have HCMD := Lib.hid hcmd
      have HROW := Lib.hid hrow
      have HMID := Lib.hid hm
      clear hcmd hrow hm
      by_cases hlt : k < r.places.length
      · obtain ⟨x, hx⟩ : ∃ x, r.places[k]? = some x := ⟨r.places[k], List.getElem?_eq_getElem hlt⟩
        have hfs := flat_snoc (Sp.putV c) hx
        have hxin := HPL.out.2 x (List.mem_of_getElem? hx)
        have hby : ∀ h : k < (⟨r.places.toArray⟩ : ByteArray).size, (⟨r.places.toArray⟩ : ByteArray)[k]'h = x := fun h => by
          show r.places.toArray[k] = x
          rw [List.getElem?_eq_getElem hlt] at hx
          have := Option.some.inj hx
          simpa using this
        have hby' := hby (by rw [str_size]; exact hlt)
        have HFS := Lib.hid hfs
        have HXIN := Lib.hid hxin
        clear hx hfs hxin hby
        have hnb : ([wd] ++ (r.places.take k).flatMap (Sp.putV c)).length + (Sp.putV c x).length ≤ 100000000 := by
          have h1 := HP.out
          rw [← HRW.out, ← HWD.out] at h1
          unfold Sp.partsV at h1
          have h2 : ([wd] ++ (r.places.take (k + 1)).flatMap (Sp.putV c)).length ≤ (wd :: r.places.flatMap (Sp.putV c) ++ (if c.noreply then [Sp.noreplyW] else [])).length := by
            have h3 : (r.places.take (k + 1)).flatMap (Sp.putV c) ++ (r.places.drop (k + 1)).flatMap (Sp.putV c) = r.places.flatMap (Sp.putV c) := by rw [← List.flatMap_append, List.take_append_drop]
            rw [← h3]
            simp <;> omega
          rw [HFS.out, ← List.append_assoc, List.length_append] at h2
          omega
        have hon : ∀ (v : Value) (W : World), BytesMid w c (.slice K c.keys.length kc) (.slice D c.data.length dc) (.slice M c.metas.length mc) r w1.heap.size (([wd] ++ (r.places.take k).flatMap (Sp.putV c)) ++ Sp.putV c x) v W → BytesMid w c (.slice K c.keys.length kc) (.slice D c.data.length dc) (.slice M c.metas.length mc) r w1.heap.size ([wd] ++ (r.places.take (k + 1)).flatMap (Sp.putV c)) v W := fun v W h => by
          rw [HFS.out, ← List.append_assoc]; exact h
        have HON := Lib.hid hon
        have HNB := Lib.hid hnb
        clear hnb hon
        by_cases h75 : x = 75
        · have q75 : ((x.toNat : Int) == 75) = true := by rw [h75]; rfl
          have hpv : Sp.putV c x = c.keys := by rw [h75]; rfl
          have hnb := HNB.out
          rw [hpv] at hnb
          have hks := HM.out.keys.below HMID.out.below
          have y1 : _ = some (Value.slice K c.keys.length kc) := HCMD.out.cell 1
          have hszw : w.heap.size ≤ wr.heap.size := HMID.out.below.size
          have HPV := Lib.hid hpv
          have HKS := Lib.hid hks
          clear hpv hks h75
          go_wp2_with (at_builtin; refine wpList_append_in rfl (.tmp 57) (.tmp 59) _ rfl w.heap.size 9 i0 _ 1 16 Tryz.underlying33 hi hz0 hz1 hz2 rfl (by decide) u7 _ _ rfl HMID.out.words K c.keys.length kc (c.keys.map str) rfl HKS.out HM.out.nk ?_ ?_ ?_ ?_ ?_ ?_; simp; (intro u hu; obtain ⟨_, _, rfl⟩ := List.mem_map.1 hu; rfl); (unfold maxLen; omega); omega; omega; intro v3 w3 hown3 hg3; have hm3 := HMID.out.more (ps := c.keys) rfl (Below.refl _ _) hg3 hown3; have Hm3 := Lib.hid hm3; clear hown3 hg3 hm3)
          exact ⟨⟨k + 1, by omega, by go_num, HON.out _ _ (by rw [HPV.out]; exact Hm3.out)⟩, by show r.places.length - ((k : Int) + 1).toNat < r.places.length - (k : Int).toNat; omega⟩
        · have q75 : ((x.toNat : Int) == 75) = false := u8_ne (k := 75) h75
          by_cases h71 : x = 71
          · have q71 : ((x.toNat : Int) == 71) = true := by rw [h71]; rfl
            have hpv : Sp.putV c x = c.metas.map fun f => f.letter :: f.arg := by rw [h71]; rfl
            have hnb := HNB.out
            rw [hpv, List.length_map] at hnb
            have y9 : _ = some (Value.slice M c.metas.length mc) := HCMD.out.cell 9
            have hst2 : BytesMid w c (.slice K c.keys.length kc) (.slice D c.data.length dc) (.slice M c.metas.length mc) r w1.heap.size (([wd] ++ (r.places.take k).flatMap (Sp.putV c)) ++ (c.metas.take 0).map fun f => f.letter :: f.arg) u7 wr := by simpa using HMID.out
            have hml := HF.out.fit.metas
            have HPV := Lib.hid hpv
            have HST2 := Lib.hid hst2
            clear hpv hst2 h75 h71
            obtain ⟨wo, hwo⟩ : ∃ wo : World, wo = wr := ⟨_, rfl⟩
            rw [← hwo] at HST2 y9 z1 hltc hltr HCMD HROW HMID ⊢
            clear hwo
            go_wp2_with fail
            go_loopw [7, 70] (fun ov i wx => ∃ j : Nat, j ≤ c.metas.length ∧ i = .int .i64 j ∧ BytesMid w c (.slice K c.keys.length kc) (.slice D c.data.length dc) (.slice M c.metas.length mc) r w1.heap.size (([wd] ++ (r.places.take k).flatMap (Sp.putV c)) ++ (c.metas.take j).map fun f => f.letter :: f.arg) ov wx) (fun _ i _ => c.metas.length - (intOf i).toNat)
            case atStart => exact ⟨0, Nat.zero_le _, rfl, HST2.out⟩
            case round =>
              obtain ⟨j, hj, rfl, hm2⟩ := hrel
              have HM2 := Lib.hid hm2
              by_cases hjl : j < c.metas.length
              · obtain ⟨f, hfj⟩ : ∃ f, c.metas[j]? = some f := ⟨c.metas[j], by simp [hjl]⟩
                have htk : (c.metas.take (j + 1)).map (fun f => f.letter :: f.arg) = (c.metas.take j).map (fun f => f.letter :: f.arg) ++ [f.letter :: f.arg] := by rw [List.take_add_one, hfj, List.map_append]; rfl
                obtain ⟨ga, oa, hAe, _, ya0, ya1, ya2⟩ := (HM.out.metas.below hm2.below).flag hfj
                have hfa := HF.out.fit.args f (List.mem_of_getElem? hfj)
                have HTK := Lib.hid htk
                clear hm2 hfj htk
                subst hAe
                have hs1 : (wr.alloc (.cells #[.int .u8 f.letter.toNat, str f.arg, .bool f.has] 94)).heap.size = wr.heap.size + 1 := by simp
                have hs2 : ((wr.alloc (.cells #[.int .u8 f.letter.toNat, str f.arg, .bool f.has] 94)).alloc (.cells #[.int .u8 f.letter.toNat] 5)).heap.size = wr.heap.size + 2 := by simp
                have hcv : (convert 35 9 (.slice (some ⟨wr.heap.size + 1, 0, none⟩) 1 1)).run Tryz.prog ((wr.alloc (.cells #[.int .u8 f.letter.toNat, str f.arg, .bool f.has] 94)).alloc (.cells #[.int .u8 f.letter.toNat] 5)) = .ok (str [f.letter]) ((wr.alloc (.cells #[.int .u8 f.letter.toNat, str f.arg, .bool f.has] 94)).alloc (.cells #[.int .u8 f.letter.toNat] 5)) := by
                  have hb := Blk.new (wr.alloc (.cells #[.int .u8 f.letter.toNat, str f.arg, .bool f.has] 94)) 5 #[.int .u8 f.letter.toNat]
                  rw [hs1] at hb
                  exact run_convert_bytes_back (P := Tryz.prog) ((wr.alloc (.cells #[.int .u8 f.letter.toNat, str f.arg, .bool f.has] 94)).alloc (.cells #[.int .u8 f.letter.toNat] 5)) 35 9 5 ⟨wr.heap.size + 1, 0, none⟩ 1 [f.letter] Tryz.underlying35 Tryz.underlying5 Tryz.underlying9 (fun i hi => by
                    obtain rfl : i = 0 := by simpa using hi
                    exact hb.cell 0)
                obtain ⟨fx, hfx⟩ : ∃ fx : ByteArray, fx = ⟨(f.letter :: f.arg).toArray⟩ := ⟨_, rfl⟩
                have hap : (({ data := #[f.letter] } : ByteArray) ++ { data := f.arg.toArray }) = fx := by
                  rw [hfx]
                  apply ByteArray.ext
                  simp
                have HFX := Lib.hid hfx
                clear hfx
                have hbW : Below wr.heap.size wr (((wr.alloc (.cells #[.int .u8 f.letter.toNat, str f.arg, .bool f.has] 94)).alloc (.cells #[.int .u8 f.letter.toNat] 5)).alloc (.cells #[.string fx] 9)) := (((Below.refl _ _).alloc (Nat.le_refl _) _).alloc (by simp) _).alloc (by simp; omega) _
                have ho3 := own_later HM2.out.words hbW
                obtain ⟨n0, hn0⟩ : ∃ n0 : Nat, n0 = (([wd] ++ (r.places.take k).flatMap (Sp.putV c)) ++ (c.metas.take j).map fun f => f.letter :: f.arg).length := ⟨_, rfl⟩
                rw [← hn0] at ho3
                have hn0b : n0 + 1 ≤ 100000000 := by
                  rw [hn0, List.length_append, List.length_map, List.length_take, Nat.min_eq_left (by omega)]
                  omega
                have hnw : ∀ (i : Nat) (u : Value), [Value.string fx][i]? = some u → (((wr.alloc (.cells #[.int .u8 f.letter.toNat, str f.arg, .bool f.has] 94)).alloc (.cells #[.int .u8 f.letter.toNat] 5)).alloc (.cells #[.string fx] 9)).cell? ((⟨wr.heap.size + 1 + 1, 0, none⟩ : Addr).add i) = some u := by
                  have h := cells_one ((wr.alloc (.cells #[.int .u8 f.letter.toNat, str f.arg, .bool f.has] 94)).alloc (.cells #[.int .u8 f.letter.toNat] 5)) (.string fx) 9
                  rwa [hs2] at h
                have hszw : w.heap.size ≤ wr.heap.size := HM2.out.below.size
                have HO3 := Lib.hid ho3
                have HN0 := Lib.hid hn0
                have HBW := Lib.hid hbW
                have HNW := Lib.hid hnw
                clear hs1 hs2 hbW ho3 hn0 hnw hnb
                go_wp2_with (at_builtin; refine wpList_append_put rfl (.tmp 74) (.tmp 82) _ rfl w.heap.size 9 i0 _ 1 16 Tryz.underlying33 hi hz0 hz1 hz2 rfl (by decide) u7 n0 _ rfl HO3.out ⟨wr.heap.size + 1 + 1, 0, none⟩ 1 1 [.string fx] rfl rfl ?_ ?_ ?_ ?_ ?_ ?_ ?_; exact HNW.out; (intro u hu; simp at hu; subst hu; rfl); decide; (unfold maxLen; omega); omega; (simp; omega); intro g3 cap3 w3 hown3 hg3 hat3; have hm3 := HM2.out.more (ps := [f.letter :: f.arg]) HN0.out HBW.out hg3 (by have h := hown3; rw [HFX.out] at h; exact h); have Hm3 := Lib.hid hm3; clear hown3 hg3 hat3 hm3)
                exact ⟨⟨j + 1, by omega, by go_num, by rw [HTK.out, ← List.append_assoc]; exact Hm3.out⟩, by show c.metas.length - ((j : Int) + 1).toNat < c.metas.length - (j : Int).toNat; omega⟩
              · have hjj : c.metas.take j = c.metas := List.take_of_length_le (by omega)
                have hfin : BytesMid w c (.slice K c.keys.length kc) (.slice D c.data.length dc) (.slice M c.metas.length mc) r w1.heap.size (([wd] ++ (r.places.take k).flatMap (Sp.putV c)) ++ Sp.putV c x) u7 wr := by rw [HPV.out]; rw [hjj] at hm2; exact hm2
                have HFIN := Lib.hid hfin
                clear hm2 hjj hfin
                go_wp2_with fail
                exact ⟨⟨k + 1, by omega, by go_num, HON.out _ _ HFIN.out⟩, by show r.places.length - ((k : Int) + 1).toNat < r.places.length - (k : Int).toNat; omega⟩
          · have q71 : ((x.toNat : Int) == 71) = false := u8_ne (k := 71) h71
            have hin : x ∈ ([70, 84, 78, 67, 48, 68, 83, 86, 87] : Sp.Bs) := by
              have := HXIN.out
              simp only [List.mem_cons, List.not_mem_nil, or_false] at this ⊢
              rcases this with h | h | h | h | h | h | h | h | h | h | h <;> simp_all
            have hput := fun (W : World) (hb : Below wr.heap.size wr W) => put_any (w := W) (K := K) (D := D) (M := M) (kn := c.keys.length) (kc := kc) (dc := dc) (mn := c.metas.length) (mc := mc) HF.out.fit (HT.out.later HG.out (HMID.out.below.trans (hb.mono HMID.out.below.size))) (HG.out.later (HMID.out.below.trans (hb.mono HMID.out.below.size))) hin
            have HPUT := Lib.hid hput
            clear hput hin h75 h71
            go_upto_region 8 with (fail)
            go_cut [11, 12] (fun tv bv wx => ∃ tx b, tv = str tx ∧ bv = .bool b ∧ Sp.putV c x = (if b = true then [tx] else []) ∧ BytesMid w c (.slice K c.keys.length kc) (.slice D c.data.length dc) (.slice M c.metas.length mc) r w1.heap.size ([wd] ++ (r.places.take k).flatMap (Sp.putV c)) u7 wx)
            case first =>
              have y0 : _ = some (Value.int .i64 c.verb) := (HCMD.out).cell 0
              have y1 : _ = some (Value.slice K c.keys.length kc) := (HCMD.out).cell 1
              have y2 : _ = some (Value.int .u64 c.flags) := (HCMD.out).cell 2
              have y3 : _ = some (Value.int .i64 c.exptime) := (HCMD.out).cell 3
              have y4 : _ = some (Value.int .u64 c.token) := (HCMD.out).cell 4
              have y5 : _ = some (Value.int .u64 c.delta) := (HCMD.out).cell 5
              have y6 : _ = some (Value.slice D c.data.length dc) := (HCMD.out).cell 6
              have y7 : _ = some (Value.bool c.noreply) := (HCMD.out).cell 7
              have y8 : _ = some (Value.bool c.large) := (HCMD.out).cell 8
              have y9 : _ = some (Value.slice M c.metas.length mc) := (HCMD.out).cell 9
              have y10 : _ = some (str c.what) := (HCMD.out).cell 10
              go_region_held3 (fun w' => w'.cell? ⟨w.heap.size, 0, none⟩ = some (Value.int .i64 c.verb) ∧ w'.cell? ⟨w.heap.size, 1, none⟩ = some (Value.slice K c.keys.length kc) ∧ w'.cell? ⟨w.heap.size, 2, none⟩ = some (Value.int .u64 c.flags) ∧ w'.cell? ⟨w.heap.size, 3, none⟩ = some (Value.int .i64 c.exptime) ∧ w'.cell? ⟨w.heap.size, 4, none⟩ = some (Value.int .u64 c.token) ∧ w'.cell? ⟨w.heap.size, 5, none⟩ = some (Value.int .u64 c.delta) ∧ w'.cell? ⟨w.heap.size, 6, none⟩ = some (Value.slice D c.data.length dc) ∧ w'.cell? ⟨w.heap.size, 7, none⟩ = some (Value.bool c.noreply) ∧ w'.cell? ⟨w.heap.size, 8, none⟩ = some (Value.bool c.large) ∧ w'.cell? ⟨w.heap.size, 9, none⟩ = some (Value.slice M c.metas.length mc) ∧ w'.cell? ⟨w.heap.size, 10, none⟩ = some (str c.what) ∧ w'.cell? ⟨w1.heap.size, 1, none⟩ = some (str r.places)) (first | exact ⟨y0, y1, y2, y3, y4, y5, y6, y7, y8, y9, y10, z1⟩ | exact ⟨v0, v1, v2, v3, v4, v5, v6, v7, v8, v9, v10, v11⟩ | go_keep) ((go_at_call 44; refine (HPUT.out _ ((Below.refl _ _).drew)).mono ?_; rintro e w4 ⟨tx, b, rfl, hp, hb4⟩; have hm4 := HMID.out.later (((Below.refl wr.heap.size wr).drew).trans hb4); have hc4 := hm4.cmd; have hr4 := hm4.row; have v0 : _ = some (Value.int .i64 c.verb) := (hc4).cell 0; have v1 : _ = some (Value.slice K c.keys.length kc) := (hc4).cell 1; have v2 : _ = some (Value.int .u64 c.flags) := (hc4).cell 2; have v3 : _ = some (Value.int .i64 c.exptime) := (hc4).cell 3; have v4 : _ = some (Value.int .u64 c.token) := (hc4).cell 4; have v5 : _ = some (Value.int .u64 c.delta) := (hc4).cell 5; have v6 : _ = some (Value.slice D c.data.length dc) := (hc4).cell 6; have v7 : _ = some (Value.bool c.noreply) := (hc4).cell 7; have v8 : _ = some (Value.bool c.large) := (hc4).cell 8; have v9 : _ = some (Value.slice M c.metas.length mc) := (hc4).cell 9; have v10 : _ = some (str c.what) := (hc4).cell 10; have v11 : _ = some (str r.places) := hr4.cell 1; have HM4 := Lib.hid hm4; have HP4 := Lib.hid hp; clear hm4 hc4 hr4 hp hb4))
              all_goals
                go_wp2_with fail
                go_meet
                exact ⟨_, _, rfl, rfl, HP4.out, HM4.out⟩
            case rest =>
              obtain ⟨tx, b, rfl, rfl, hp, hm⟩ := hcut
              have HM5 := Lib.hid hm
              have HP5 := Lib.hid hp
              clear hm hp
              cases b with
              | false =>
                go_wp2_with fail
                exact ⟨⟨k + 1, by omega, by go_num, HON.out _ _ (by rw [HP5.out]; simpa using HM5.out)⟩, by show r.places.length - ((k : Int) + 1).toNat < r.places.length - (k : Int).toNat; omega⟩
              | true =>
                have hnb := HNB.out
                rw [HP5.out, if_pos rfl] at hnb
                have hnb2 : ([wd] ++ (r.places.take k).flatMap (Sp.putV c)).length + 1 ≤ 100000000 := hnb
                have hszw : w.heap.size ≤ wc.heap.size := HM5.out.below.size
                have ho2 := own_later HM5.out.words ((Below.refl wc.heap.size wc).alloc (Nat.le_refl _) (.cells #[str tx] 9))
                obtain ⟨n0, hn0⟩ : ∃ n0 : Nat, n0 = ([wd] ++ (r.places.take k).flatMap (Sp.putV c)).length := ⟨_, rfl⟩
                rw [← hn0] at ho2 hnb2
                have HO2 := Lib.hid ho2
                have HN0 := Lib.hid hn0
                clear hnb ho2 hn0
                go_wp2_with (at_builtin; refine wpList_append_put rfl (.tmp 47) (.tmp 49) _ rfl w.heap.size 9 i0 _ 1 16 Tryz.underlying33 hi hz0 hz1 hz2 rfl (by decide) u7 n0 _ rfl HO2.out ⟨wc.heap.size, 0, none⟩ 1 1 [str tx] rfl rfl ?_ ?_ ?_ ?_ ?_ ?_ ?_; exact cells_one _ _ _; (intro u hu; simp at hu; subst hu; rfl); decide; (unfold maxLen; omega); omega; (simp; omega); intro g3 cap3 w3 hown3 hg3 hat3; have hm3 := HM5.out.more (ps := [tx]) HN0.out ((Below.refl _ _).alloc (Nat.le_refl _) _) hg3 hown3; have Hm3 := Lib.hid hm3; clear hown3 hg3 hat3 hm3)
                exact ⟨⟨k + 1, by omega, by go_num, HON.out _ _ (by rw [HP5.out, if_pos rfl]; exact Hm3.out)⟩, by show r.places.length - ((k : Int) + 1).toNat < r.places.length - (k : Int).toNat; omega⟩
      · have hkk : r.places.take k = r.places := List.take_of_length_le (by omega)
        have hmid : BytesMid w c (.slice K c.keys.length kc) (.slice D c.data.length dc) (.slice M c.metas.length mc) r w1.heap.size ([wd] ++ r.places.flatMap (Sp.putV c)) u7 wr := by have := HMID.out; rwa [hkk] at this
        have y7 : _ = some (Value.bool c.noreply) := HCMD.out.cell 7
        have HMI := Lib.hid hmid
        clear hkk hmid
        go_upto_if 87 with (fail)
        go_cut [7] (fun ov wx => BytesMid w c (.slice K c.keys.length kc) (.slice D c.data.length dc) (.slice M c.metas.length mc) r w1.heap.size (Sp.partsV r wd c) ov wx)
        case first =>
          have hnb : ([wd] ++ r.places.flatMap (Sp.putV c)).length ≤ 100000000 := by
            have h1 := HP.out
            rw [← HRW.out, ← HWD.out] at h1
            unfold Sp.partsV at h1
            simp at h1 ⊢
            omega
          cases hnr : c.noreply with
          | false =>
            have hfin : BytesMid w c (.slice K c.keys.length kc) (.slice D c.data.length dc) (.slice M c.metas.length mc) r w1.heap.size (Sp.partsV r wd c) u7 wr := by
              have := HMI.out
              unfold Sp.partsV
              rw [hnr]
              simpa using this
            have HFI := Lib.hid hfin
            clear hnr hfin
            go_wp2_with fail
            go_meet
            exact HFI.out
          | true =>
            have hszw : w.heap.size ≤ wr.heap.size := HMI.out.below.size
            have ho2 := own_later HMI.out.words ((Below.refl wr.heap.size wr).alloc (Nat.le_refl _) (.cells #[str Sp.noreplyW] 9))
            obtain ⟨n0, hn0⟩ : ∃ n0 : Nat, n0 = ([wd] ++ r.places.flatMap (Sp.putV c)).length := ⟨_, rfl⟩
            rw [← hn0] at ho2 hnb
            have HO2 := Lib.hid ho2
            have HN0 := Lib.hid hn0
            have HNR := Lib.hid hnr
            clear ho2 hn0 hnr
            go_wp2_with (at_builtin; refine wpList_append_put rfl (.tmp 88) (.tmp 89) _ rfl w.heap.size 9 i0 _ 1 16 Tryz.underlying33 hi hz0 hz1 hz2 rfl (by decide) u7 n0 _ rfl HO2.out ⟨wr.heap.size, 0, none⟩ 1 1 [str Sp.noreplyW] rfl rfl ?_ ?_ ?_ ?_ ?_ ?_ ?_; exact cells_one _ _ _; (intro u hu; simp at hu; subst hu; rfl); decide; (unfold maxLen; omega); omega; (simp; omega); intro g3 cap3 w3 hown3 hg3 hat3; have hm3 := HMI.out.more (ps := [Sp.noreplyW]) HN0.out ((Below.refl _ _).alloc (Nat.le_refl _) _) hg3 hown3; have Hm3 := Lib.hid hm3; clear hown3 hg3 hat3 hm3)
            go_meet
            have := Hm3.out
            unfold Sp.partsV
            rw [HNR.out]
            exact this
        case rest =>
          clear y7 z1 HCMD HROW HMID HMI HST HX1 hltc hltr hlt hk
          obtain ⟨ps, hps⟩ : ∃ ps, ps = Sp.partsV r wd c := ⟨_, rfl⟩
          rw [← hps] at hcut
          obtain ⟨g, cp, rfl, hgc⟩ := own_there hcut.words (by rw [hps]; simp [Sp.partsV])
          have hpn : ps.length ≤ 100000000 := by have := HP.out; rwa [← HRW.out, ← HWD.out, ← hps] at this
          have hout : Sp.outV c = (Lib.join ps [32] ++ [13, 10]) ++ (if r.block then c.data ++ [13, 10] else []) := by
            unfold Sp.outV
            rw [← HRW.out, ← HWD.out, ← hps]
          have hjl : (Lib.join ps [32]).length + 2 ≤ 100000000 := by
            have h := hlen
            rw [hout, List.length_append, List.length_append] at h
            simp at h
            omega
          have hjn := join_any hcut.words hgc hpn (by omega)
          obtain ⟨jn, hjne⟩ : ∃ jn, jn = Lib.join ps [32] := ⟨_, rfl⟩
          rw [← hjne] at hjn hout hjl
          obtain ⟨fx, hfx⟩ : ∃ fx : ByteArray, fx = ⟨(jn ++ [13, 10]).toArray⟩ := ⟨_, rfl⟩
          have hap : (({ data := jn.toArray } : ByteArray) ++ { data := #[13, 10] }) = fx := by
            rw [hfx]
            apply ByteArray.ext
            simp
          have hjs : jn.length + 2 ≤ 100000000 := hjl
          have HMID := Lib.hid hcut
          have HJN := Lib.hid hjn
          have HFX := Lib.hid hfx
          have HOUT := Lib.hid hout
          have HLEN := Lib.hid hlen
          clear hcut hjn hfx hout hjl hps hjne hlen hpl5
          go_wp2_with fail
          refine HJN.out.mono ?_
          rintro e w2 ⟨rfl, hb2⟩
          obtain ⟨W3, cp2, hcv, hr3, hcp2, hb3⟩ := convert_str w2 (jn ++ [13, 10])
          rw [← HFX.out] at hcv
          have hln : (jn ++ [13, 10] : Sp.Bs).length = jn.length + 2 := by simp
          rw [hln] at hcv hcp2
          have hm3 := HMID.out.later (hb2.trans (hb3.mono hb2.size))
          have hrb : r.block = false := by rw [HRW.out]; exact HBK.out
          have z5 : _ = some (Value.bool r.block) := hm3.row.cell 5
          rw [hrb] at z5
          have y6 : _ = some (Value.slice D c.data.length dc) := hm3.cmd.cell 6
          have hov : Sp.outV c = jn ++ [13, 10] := by rw [HOUT.out, hrb]; simp
          have hal := all_any (HG.out.later hm3.below) (limit := (c.data.length : Int)) hr3 (by rw [hln]; exact hcp2) (fun h => by cases h) (by rw [hln]; exact hjs) (by have := HF.out.fit.data; omega)
          rw [Int.toNat_natCast, ← hov, HA.out, hov, hln] at hal
          have hltw : w.heap.size < W3.heap.size := hm3.cmd.lt
          have HM3 := Lib.hid hm3
          have HAL := Lib.hid hal
          have HOV := Lib.hid hov
          have HR3 := Lib.hid hr3
          have HCP2 := Lib.hid hcp2
          clear hm3 hal hov hr3 hcp2 hrb hln hb2 hb3
          go_wp2_with fail
          refine HAL.out.mono ?_
          intro e w4 hpost
          obtain ⟨gt, c2, kv2, dv2, mv2, rfl, hct, hft, hgt, hb4⟩ := AllPost.one hpost
          rw [HTC.out] at hct
          unfold stepCells at hft
          rw [HTC.out] at hft
          obtain ⟨⟨K2, kc2, rfl, -⟩, ⟨D2, dc2, rfl, -⟩, ⟨M2, mc2, rfl, -⟩⟩ := id hct
          have hm4 := HM3.out.later hb4
          have hmc := hm4.cmd
          have p0 : _ = some (Value.int .i64 c.verb) := hmc.cell 0
          have p1 : _ = some (Value.slice K c.keys.length kc) := hmc.cell 1
          have p2 : _ = some (Value.int .u64 c.flags) := hmc.cell 2
          have p3 : _ = some (Value.int .i64 c.exptime) := hmc.cell 3
          have p4 : _ = some (Value.int .u64 c.token) := hmc.cell 4
          have p5 : _ = some (Value.int .u64 c.delta) := hmc.cell 5
          have p6 : _ = some (Value.slice D c.data.length dc) := hmc.cell 6
          have p7 : _ = some (Value.bool c.noreply) := hmc.cell 7
          have p8 : _ = some (Value.bool c.large) := hmc.cell 8
          have p9 : _ = some (Value.slice M c.metas.length mc) := hmc.cell 9
          have p10 : _ = some (str c.what) := hmc.cell 10
          have q0 : w4.cell? ⟨gt, 0, none⟩ = some (Value.int .i64 c.verb) := hft 0 _ rfl
          have q1 : w4.cell? ⟨gt, 1, none⟩ = some (Value.slice K2 c.keys.length kc2) := hft 1 _ rfl
          have q2 : w4.cell? ⟨gt, 2, none⟩ = some (Value.int .u64 c.flags) := hft 2 _ rfl
          have q3 : w4.cell? ⟨gt, 3, none⟩ = some (Value.int .i64 c.exptime) := hft 3 _ rfl
          have q4 : w4.cell? ⟨gt, 4, none⟩ = some (Value.int .u64 c.token) := hft 4 _ rfl
          have q5 : w4.cell? ⟨gt, 5, none⟩ = some (Value.int .u64 c.delta) := hft 5 _ rfl
          have q6 : w4.cell? ⟨gt, 6, none⟩ = some (Value.slice D2 c.data.length dc2) := hft 6 _ rfl
          have q7 : w4.cell? ⟨gt, 7, none⟩ = some (Value.bool c.noreply) := hft 7 _ rfl
          have q8 : w4.cell? ⟨gt, 8, none⟩ = some (Value.bool c.large) := hft 8 _ rfl
          have q9 : w4.cell? ⟨gt, 9, none⟩ = some (Value.slice M2 c.metas.length mc2) := hft 9 _ rfl
          have q10 : w4.cell? ⟨gt, 10, none⟩ = some (str c.what) := hft 10 _ rfl
          have q15 : w4.cell? ⟨gt, 15, none⟩ = some (.int .i64 ((jn.length + 2 : Nat) : Int)) := hft 15 _ (by rw [show jn.length + 2 = t.to from by rw [HTO.out, HOV.out]; simp]; rfl)
          have hsm := fun (W : World) (hb : Below w4.heap.size w4 W) => same_yes (w := W) (hct.below hb) ((HM.out.below (hm4.below.trans (hb.mono hm4.below.size))).at) HF.out.fit
          have HSM := Lib.hid hsm
          have HM4 := Lib.hid hm4
          have HB4 := Lib.hid hb4
          have hltw4 : w.heap.size < w4.heap.size := hmc.lt
          clear hpost hct hft hm4 hmc hsm hb4 y6 z5
          go_upto_region 26 with (fail)
          have hfin : ∀ W : World, Below w4.heap.size w4 W → R (.returned (.tuple #[.slice (some ⟨w2.heap.size, 0, none⟩) (jn.length + 2) cp2, .int .i64 0])) W := fun W hb => by
            have hl : (Sp.outV c).length = jn.length + 2 := by rw [HOV.out]; simp
            rw [← HR.out]
            exact ⟨_, cp2, by rw [hl], by rw [HOV.out]; exact (HR3.out.below HB4.out).below hb, by rw [hl]; exact HCP2.out, HM4.out.below.trans (hb.mono HM4.out.below.size)⟩
          have HFIN := Lib.hid hfin
          clear hfin
          go_region_held3 (fun w' => w'.cell? ⟨w.heap.size, 0, none⟩ = some (Value.int .i64 c.verb) ∧ w'.cell? ⟨w.heap.size, 1, none⟩ = some (Value.slice K c.keys.length kc) ∧ w'.cell? ⟨w.heap.size, 2, none⟩ = some (Value.int .u64 c.flags) ∧ w'.cell? ⟨w.heap.size, 3, none⟩ = some (Value.int .i64 c.exptime) ∧ w'.cell? ⟨w.heap.size, 4, none⟩ = some (Value.int .u64 c.token) ∧ w'.cell? ⟨w.heap.size, 5, none⟩ = some (Value.int .u64 c.delta) ∧ w'.cell? ⟨w.heap.size, 6, none⟩ = some (Value.slice D c.data.length dc) ∧ w'.cell? ⟨w.heap.size, 7, none⟩ = some (Value.bool c.noreply) ∧ w'.cell? ⟨w.heap.size, 8, none⟩ = some (Value.bool c.large) ∧ w'.cell? ⟨w.heap.size, 9, none⟩ = some (Value.slice M c.metas.length mc) ∧ w'.cell? ⟨w.heap.size, 10, none⟩ = some (str c.what) ∧ w'.cell? ⟨gt, 0, none⟩ = some (Value.int .i64 c.verb) ∧ w'.cell? ⟨gt, 1, none⟩ = some (Value.slice K2 c.keys.length kc2) ∧ w'.cell? ⟨gt, 2, none⟩ = some (Value.int .u64 c.flags) ∧ w'.cell? ⟨gt, 3, none⟩ = some (Value.int .i64 c.exptime) ∧ w'.cell? ⟨gt, 4, none⟩ = some (Value.int .u64 c.token) ∧ w'.cell? ⟨gt, 5, none⟩ = some (Value.int .u64 c.delta) ∧ w'.cell? ⟨gt, 6, none⟩ = some (Value.slice D2 c.data.length dc2) ∧ w'.cell? ⟨gt, 7, none⟩ = some (Value.bool c.noreply) ∧ w'.cell? ⟨gt, 8, none⟩ = some (Value.bool c.large) ∧ w'.cell? ⟨gt, 9, none⟩ = some (Value.slice M2 c.metas.length mc2) ∧ w'.cell? ⟨gt, 10, none⟩ = some (str c.what) ∧ w'.cell? ⟨gt, 15, none⟩ = some (.int .i64 ((jn.length + 2 : Nat) : Int))) (first | exact ⟨p0, p1, p2, p3, p4, p5, p6, p7, p8, p9, p10, q0, q1, q2, q3, q4, q5, q6, q7, q8, q9, q10, q15⟩ | exact ⟨r0, r1, r2, r3, r4, r5, r6, r7, r8, r9, r10, s0, s1, s2, s3, s4, s5, s6, s7, s8, s9, s10, s15⟩ | go_keep) ((go_at_call 46; refine (HSM.out _ ((Below.refl _ _).drew)).mono ?_; rintro e w5 ⟨rfl, hb5⟩; have r0 := (hb5.cell (p := ⟨w.heap.size, 0, none⟩) hltw4).trans p0; have r1 := (hb5.cell (p := ⟨w.heap.size, 1, none⟩) hltw4).trans p1; have r2 := (hb5.cell (p := ⟨w.heap.size, 2, none⟩) hltw4).trans p2; have r3 := (hb5.cell (p := ⟨w.heap.size, 3, none⟩) hltw4).trans p3; have r4 := (hb5.cell (p := ⟨w.heap.size, 4, none⟩) hltw4).trans p4; have r5 := (hb5.cell (p := ⟨w.heap.size, 5, none⟩) hltw4).trans p5; have r6 := (hb5.cell (p := ⟨w.heap.size, 6, none⟩) hltw4).trans p6; have r7 := (hb5.cell (p := ⟨w.heap.size, 7, none⟩) hltw4).trans p7; have r8 := (hb5.cell (p := ⟨w.heap.size, 8, none⟩) hltw4).trans p8; have r9 := (hb5.cell (p := ⟨w.heap.size, 9, none⟩) hltw4).trans p9; have r10 := (hb5.cell (p := ⟨w.heap.size, 10, none⟩) hltw4).trans p10; have s0 := (hb5.cell (p := ⟨gt, 0, none⟩) hgt).trans q0; have s1 := (hb5.cell (p := ⟨gt, 1, none⟩) hgt).trans q1; have s2 := (hb5.cell (p := ⟨gt, 2, none⟩) hgt).trans q2; have s3 := (hb5.cell (p := ⟨gt, 3, none⟩) hgt).trans q3; have s4 := (hb5.cell (p := ⟨gt, 4, none⟩) hgt).trans q4; have s5 := (hb5.cell (p := ⟨gt, 5, none⟩) hgt).trans q5; have s6 := (hb5.cell (p := ⟨gt, 6, none⟩) hgt).trans q6; have s7 := (hb5.cell (p := ⟨gt, 7, none⟩) hgt).trans q7; have s8 := (hb5.cell (p := ⟨gt, 8, none⟩) hgt).trans q8; have s9 := (hb5.cell (p := ⟨gt, 9, none⟩) hgt).trans q9; have s10 := (hb5.cell (p := ⟨gt, 10, none⟩) hgt).trans q10; have s15 := (hb5.cell (p := ⟨gt, 15, none⟩) hgt).trans q15; have HB5 := Lib.hid hb5; clear hb5))
          all_goals
            go_wp2_with fail
            exact HFIN.out _ (((Below.refl _ _).drew).trans HB5.out)
end Go.Proofs.YthgfjafnclklpaaGreatDoor
end
section
namespace Go.Proofs.YthgfjafnclklpaaGreatDoor
attribute [local go_sem ↓] Go.wp_at_zero Go.wp_at_succ
open Go.RowKit

def wl1 : Sp.Bs := [115, 101, 116, 32, 97, 32, 53, 32, 48, 32, 48, 48, 55]
def wl2 : Sp.Bs := [115, 101, 116, 32, 97, 32, 120, 32, 48, 32, 49]
def wc1 : Sp.CmdV := { verb := 5, keys := [[97]], flags := 5 }
def wc3 : Sp.CmdV := { verb := 1, keys := [[97], [98]] }
def wo3 : Sp.Bs := [103, 101, 116, 32, 97, 32, 98, 13, 10]
theorem wl1_is : Sp.lineOf wl1 = .ok wc1 7 := by decide +kernel
theorem wl2_is : Sp.lineOf wl2 = .bad ⟨2, Sp.badFormat, 1⟩ := by decide +kernel
theorem wo3_is : Sp.outV wc3 = wo3 := by decide +kernel
theorem wo3_all : Sp.allV wc3.data.length ((Sp.outV wc3).length + 1) 0 (Sp.outV wc3) = ([Sp.StepV.span { cmd := wc3 } 0 9], 0) := by decide +kernel

/-- Line of a chunk that was laid just now -/
theorem chunk_line {w1 : World} (hg : Glob w1) (l : Sp.Bs) {n : Nat} (hn : l.length = n) {cs : Array Value} (hcs : (bytesV l).toArray = cs) (fz : Nat × Nat) :
    Calls Tryz.prog 19 #[.slice (some ⟨w1.heap.size, 0, none⟩) n n] (w1.alloc (.cells cs 5 fz)) fun e w' => ∃ k1 k2 k3 m1 m2 m3, e = .returned (.tuple #[cmdV (lineStep (Sp.lineOf l)).cmd (.slice k1 k2 k3) nilRow (.slice m1 m2 m3), .int .i64 (lineN (Sp.lineOf l)), wrongV (lineStep (Sp.lineOf l)).wrong]) ∧
      w'.ownsRow 0 9 1 (.slice k1 k2 k3) (lineStep (Sp.lineOf l)).cmd.keys.length ((lineStep (Sp.lineOf l)).cmd.keys.map str) ∧ w'.ownsRow 0 94 3 (.slice m1 m2 m3) (lineStep (Sp.lineOf l)).cmd.metas.length (flagsCells (lineStep (Sp.lineOf l)).cmd.metas) ∧ Below w1.heap.size w1 w' := by
  subst hn; subst hcs
  have hb : Below w1.heap.size w1 (w1.alloc (.cells (bytesV l).toArray 5 fz)) := (Below.refl _ _).alloc (Nat.le_refl _) _
  have hrow : RowAt (w1.alloc (.cells (bytesV l).toArray 5 fz)) (some ⟨w1.heap.size, 0, none⟩) (bytesV l) := by
    have hbk := heap_alloc_new w1 (.cells (bytesV l).toArray 5 fz)
    refine .inr ⟨_, _, rfl, by simp, fun j u hu => ?_⟩
    rw [Nat.zero_add]
    unfold World.cell?
    rw [hbk]
    simpa using hu
  refine (line_flat (cap := l.length) (hg.later hb) hrow).mono ?_
  rintro e w' ⟨k1, k2, k3, m1, m2, m3, rfl, h1, h2, h3⟩
  exact ⟨k1, k2, k3, m1, m2, m3, rfl, World.ownsRow.mono h1 (Nat.zero_le _), World.ownsRow.mono h2 (Nat.zero_le _), hb.trans (h3.mono hb.size)⟩


theorem wc3_fit : CmdFit wc3 := ⟨by decide, by decide, by decide, by decide, by decide, by decide, by decide, by decide, by decide⟩
theorem wo3_len : (Sp.outV wc3).length = 9 := by rw [wo3_is]; rfl

theorem num_any (n : Int) (w : World) : Calls Tryz.prog 10 #[.int .i64 n] w fun e w' => e = .returned (.int .i64 n) ∧ w = w' := by
  go_enter Tryz.func10, Tryz.ntmps10
  go_wp2
  go_ret
  exact ⟨rfl, rfl⟩

set_option maxHeartbeats 8000000 in
set_option maxRecDepth 100000 in
theorem wakes11_any {w : World} (hg : Glob w) (ht : TabAt w) : Calls Tryz.prog 16 #[] w fun e w' => e = .returned (.bool true) ∧ Below w.heap.size w w' := by
  generalize hR : (fun (e : Ending) (w' : World) => e = .returned (.bool true) ∧ Below w.heap.size w w') = R
  have HR := Lib.hid hR
  have HG := Lib.hid hg
  have HT := Lib.hid ht
  have kc := fun (w : World) (C : Array Value) (n c : Nat) => Lib.run_convert_bytes_const (P := Tryz.prog) w 35 5 C n c Tryz.underlying35 Tryz.underlying5
  have hc1 := chunk_line hg wl1 (n := 13) rfl (cs := #[.int .u8 115, .int .u8 101, .int .u8 116, .int .u8 32, .int .u8 97, .int .u8 32, .int .u8 53, .int .u8 32, .int .u8 48, .int .u8 32, .int .u8 48, .int .u8 48, .int .u8 55]) (by rfl) (13, 13 + 1)
  rw [wl1_is] at hc1
  have HC1 := Lib.hid hc1
  clear hR hg ht hc1
  go_enter Tryz.func16, Tryz.ntmps16
  go_wp2_with fail
  refine HC1.out.mono ?_
  rintro e w1 ⟨k1, k2, k3, m1, m2, m3, rfl, hk1, hm1, hb1⟩
  dsimp only [lineStep, lineN, wc1]
  have HK1 := Lib.hid hk1
  have HM1 := Lib.hid hm1
  have HB1 := Lib.hid hb1
  clear hk1 hm1 hb1
  have hca1 : CmdAt w1 wc1 (.slice k1 k2 k3) nilRow (.slice m1 m2 m3) := ⟨own_at HK1.out, ⟨none, 0, rfl, .inl rfl⟩, own_at HM1.out⟩
  have HCA1 := Lib.hid hca1
  clear hca1
  go_wp2_with fail
  refine (same_same (c := wc1) (k1 := .slice k1 k2 k3) (d1 := nilRow) (m1 := .slice m1 m2 m3) (k2 := .slice (some ⟨w1.heap.size + 1 + 1, 0, none⟩) 1 1) (d2 := nilRow) (m2 := nilRow) (HCA1.out.below ((((Below.refl _ _).alloc (Nat.le_refl _) _).alloc (by simp) _).alloc (by simp; omega) _)) ?_ (by decide) (by decide)).mono ?_
  · refine ⟨⟨some ⟨w1.heap.size + 1 + 1, 0, none⟩, 1, rfl, ?_⟩, ⟨none, 0, rfl, .inl rfl⟩, ⟨none, 0, rfl, .inl rfl⟩⟩
    exact row_new _ (by simp) _ [str [97]]
  · rintro e w2 ⟨rfl, hb2⟩
    have hbw2 : Below w.heap.size w w2 := (HB1.out.trans ((((((Below.refl w1.heap.size w1).alloc (Nat.le_refl _) _).alloc (by simp) _).alloc (by simp; omega) _).trans (hb2.mono (by simp; omega))).mono HB1.out.size))
    have hc2 := chunk_line (HG.out.later hbw2) wl2 (n := 11) rfl (cs := #[.int .u8 115, .int .u8 101, .int .u8 116, .int .u8 32, .int .u8 97, .int .u8 32, .int .u8 120, .int .u8 32, .int .u8 48, .int .u8 32, .int .u8 49]) (by rfl) (11, 11 + 1)
    rw [wl2_is] at hc2
    have HC2 := Lib.hid hc2
    have HBW2 := Lib.hid hbw2
    clear hc2 hbw2 hb2
    go_wp2_with fail
    refine HC2.out.mono ?_
    rintro e w3 ⟨k1, k2, k3, m1, m2, m3, rfl, -, -, hb3⟩
    dsimp only [lineStep, lineN]
    have hbw3 := HBW2.out.trans (hb3.mono HBW2.out.size)
    have HBW3 := Lib.hid hbw3
    clear hb3 hbw3
    have hvx := fun (W : World) (cs : Array Value) => (Blk.new (W.alloc (.cells cs 38)) 59 (wrongArr ⟨2, Sp.badFormat, 1⟩))
    go_wp2_with fail
    have hbw5 : Below w.heap.size w (((w3.alloc (.cells (cmdArr {} (.slice k1 k2 k3) nilRow (.slice m1 m2 m3)) 38)).alloc (.cells (wrongArr ⟨2, Sp.badFormat, 1⟩) 59)).alloc (.cells #[str [97], str [98]] 9)) :=
      ((HBW3.out.alloc HBW3.out.size _).alloc (by have := HBW3.out.size; simp; omega) _).alloc (by have := HBW3.out.size; simp; omega) _
    have hwr := (hvx w3 (cmdArr {} (.slice k1 k2 k3) nilRow (.slice m1 m2 m3))).alloc (.cells #[str [97], str [98]] 9)
    rw [show (w3.alloc (.cells (cmdArr {} (.slice k1 k2 k3) nilRow (.slice m1 m2 m3)) 38)).heap.size = w3.heap.size + 1 from by simp] at hwr
    have hby := bytes_plain (c := wc3) (K := some ⟨w3.heap.size + 1 + 1, 0, none⟩) (kc := 2) (D := none) (dc := 0) (M := none) (mc := 0) (HG.out.later hbw5) (HT.out.later HG.out hbw5)
      ⟨row_new _ (by simp) _ [str [97], str [98]], .inl rfl, .inl rfl, (fun h => absurd h (by simp)), fun _ => rfl⟩ wc3_fit (by decide) rfl (by decide) wo3_all rfl (by rw [wo3_len]; rfl) (by rw [wo3_len]; decide) (by decide)
    have HBY := Lib.hid hby
    have HWR := Lib.hid hwr
    have HBW5 := Lib.hid hbw5
    clear hby hwr hbw5 hvx
    refine HBY.out.mono ?_
    intro e w6 hpost
    obtain ⟨A, cap, rfl, hr6, -, hb6⟩ := hpost
    rw [wo3_len]
    rw [wo3_is] at hr6
    have hcv := run_bytes_str (cap := cap) hr6
    change (convert 35 9 (.slice (some A) 9 cap)).run Tryz.prog w6 = .ok (str wo3) w6 at hcv
    have hw6 := HWR.out.later hb6
    have v0 : _ = some (Value.int .i64 2) := hw6.cell 0
    have v1 : _ = some (str Sp.badFormat) := hw6.cell 1
    have v2 : _ = some (Value.int .i64 1) := hw6.cell 2
    have HB6 := Lib.hid (HBW5.out.trans (hb6.mono HBW5.out.size))
    clear hb6 hw6 hr6
    have hnu := fun (n : Int) (W : World) => num_any n W
    have HNU := Lib.hid hnu
    clear hnu
    go_wp2_with (refine (HNU.out _ _).mono ?_; rintro e w7 ⟨rfl, rfl⟩)
    have hfin : R (.returned (.bool (wo3 == [103, 101, 116, 32, 97, 32, 98, 13, 10]))) w6 := by
      rw [← HR.out]
      exact ⟨rfl, HB6.out⟩
    exact hfin
end Go.Proofs.YthgfjafnclklpaaGreatDoor
end
