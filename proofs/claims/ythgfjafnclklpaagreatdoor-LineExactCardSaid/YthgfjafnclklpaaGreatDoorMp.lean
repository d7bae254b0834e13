/- A map from strings that is known whole, entry by entry: a look-up in it and a new entry, whatever the program. -/
import Derived.WalkKit
namespace Go.Proofs.YthgfjafnclklpaaGreatDoor
open Go.RowKit

theorem run_findKey_string {P : Program} {k : TypeId} (hk : P.underlying k = some .string) (s : ByteArray) (es : List MapEntry) (w : World) {r : Option (Nat × Value)}
    (hr : Instr.findNow .string (.string s) es 0 = some r) : (Instr.findKey k (.string s) es).run P w = .ok r w := by
  simp [Instr.findKey, run_underlying hk, hr]

theorem run_checkKey_string {P : Program} {k : TypeId} (hk : P.underlying k = some .string) (s : ByteArray) (e : Bool) (n : Nat) (w : World) :
    (Instr.checkKey e (n + 1) k (.string s)).run P w = .ok () w := by
  simp [Instr.checkKey, run_underlying hk]

theorem run_getObj_map {P : Program} {w : World} {b : Nat} {es : Array MapEntry} {c : Nat} (hb : w.heap[b]? = some (.map es c)) : (getObj b).run P w = .ok (.map es c) w := by
  simp [getObj, Sem.run, hb]

/-- a new key is put behind the others -/
theorem run_mapUpdate_new {P : Program} {t k e : TypeId} (ht : P.underlying t = some (.map k e)) (hk : P.underlying k = some .string) {w : World} {b : Nat} {es : Array MapEntry} {c : Nat}
    (hb : w.heap[b]? = some (.map es c)) (s : ByteArray) (v : Value) (hf : Instr.findNow .string (.string s) es.toList 0 = some none) :
    (Instr.mapUpdate t (.map (some b)) (.string s) v).run P w = .ok () { w with heap := w.heap.setIfInBounds b (.map (es.push { key := .string s, val := v, born := c }) (c + 1)) } := by
  have h1 := run_getObj_map (P := P) hb
  have h2 := run_checkKey_string (P := P) hk s false 9999 w
  have h3 := run_findKey_string (P := P) hk s es.toList w hf
  simp [Instr.mapUpdate, run_underlying ht, h1, h2, h3, setObj, Sem.run, hb]

theorem run_lookup_ok {P : Program} {t k e : TypeId} (ht : P.underlying t = some (.map k e)) (hk : P.underlying k = some .string) {w : World} {b : Nat} {es : Array MapEntry} {c : Nat}
    (hb : w.heap[b]? = some (.map es c)) (s : ByteArray) {i : Nat} {v : Value} (hf : Instr.findNow .string (.string s) es.toList 0 = some (some (i, v))) :
    (Instr.lookup t (.map (some b)) (.string s) true).run P w = .ok (.tuple #[v, .bool true]) w := by
  have h1 := run_getObj_map (P := P) hb
  have h2 := fun e => run_checkKey_string (P := P) hk s e 9999 w
  have h3 := run_findKey_string (P := P) hk s es.toList w hf
  simp [Instr.lookup, run_underlying ht, h1, h2, h3]

theorem run_lookup_no {P : Program} {t k e : TypeId} (ht : P.underlying t = some (.map k e)) (hk : P.underlying k = some .string) {w : World} {b : Nat} {es : Array MapEntry} {c : Nat}
    (hb : w.heap[b]? = some (.map es c)) (s : ByteArray) {z : Value} (hz : (zeroValue e).run P w = .ok z w) (hf : Instr.findNow .string (.string s) es.toList 0 = some none) :
    (Instr.lookup t (.map (some b)) (.string s) true).run P w = .ok (.tuple #[z, .bool false]) w := by
  have h1 := run_getObj_map (P := P) hb
  have h2 := fun e => run_checkKey_string (P := P) hk s e 9999 w
  have h3 := run_findKey_string (P := P) hk s es.toList w hf
  simp [Instr.lookup, run_underlying ht, h1, h2, h3, hz]

/-- the entries of a table, numbered from n on -/
def ents {α : Type} (val : α → Value) : Nat → List (List UInt8 × α) → List MapEntry
  | _, [] => []
  | n, x :: t => { key := .string ⟨x.1.toArray⟩, val := val x.2, born := n } :: ents val (n + 1) t

theorem ents_snoc {α : Type} (val : α → Value) : ∀ (n : Nat) (l : List (List UInt8 × α)) (x : List UInt8 × α), ents val n (l ++ [x]) = ents val n l ++ [{ key := .string ⟨x.1.toArray⟩, val := val x.2, born := n + l.length }]
  | _, [], _ => by simp [ents]
  | n, y :: t, x => by simp [ents, ents_snoc val (n + 1) t x]; omega

theorem str_beq (a b : List UInt8) : ((⟨a.toArray⟩ : ByteArray) == ⟨b.toArray⟩) = (a == b) := by
  rw [Bool.eq_iff_iff, MapKept.bytes_beq, beq_iff_eq]
  constructor
  · intro h; injection h with h; simpa using h
  · rintro rfl; rfl

theorem findNow_ents {α : Type} (val : α → Value) (s : List UInt8) : ∀ (l : List (List UInt8 × α)) (n i : Nat),
    Instr.findNow .string (.string ⟨s.toArray⟩) (ents val n l) i = some ((l.findIdx? (fun x => s == x.1)).bind fun j => (l[j]?).map fun x => (i + j, val x.2))
  | [], _, _ => rfl
  | x :: t, n, i => by
    unfold ents Instr.findNow
    simp only [Instr.sameNow, str_beq]
    by_cases h : (s == x.1) = true
    · simp [h, List.findIdx?_cons]
    · have h' : (s == x.1) = false := by simpa using h
      simp only [h']
      rw [findNow_ents val s t (n + 1) (i + 1)]
      simp only [List.findIdx?_cons, h']
      cases ht : t.findIdx? (fun x => s == x.1) with
      | none => simp
      | some j => simp; congr 1; funext x; simp; omega

theorem find?_of_findIdx? {α : Type} (p : α → Bool) : ∀ l : List α, l.find? p = (l.findIdx? p).bind fun j => l[j]?
  | [] => rfl
  | x :: t => by
    by_cases h : p x = true
    · simp [List.findIdx?_cons, h]
    · have h' : p x = false := by simpa using h
      simp only [List.find?_cons, h', List.findIdx?_cons]
      rw [find?_of_findIdx? p t]
      cases t.findIdx? p <;> simp

theorem findNow_some {α : Type} (val : α → Value) (s : List UInt8) (l : List (List UInt8 × α)) {x : List UInt8 × α} (h : l.find? (fun x => s == x.1) = some x) :
    ∃ i, Instr.findNow .string (.string ⟨s.toArray⟩) (ents val 0 l) 0 = some (some (i, val x.2)) := by
  rw [find?_of_findIdx?] at h
  rw [findNow_ents]
  cases hi : l.findIdx? (fun x => s == x.1) with
  | none => rw [hi] at h; cases h
  | some j => rw [hi] at h; simp at h; exact ⟨j, by simp [h]⟩

theorem findNow_none {α : Type} (val : α → Value) (s : List UInt8) (l : List (List UInt8 × α)) (h : l.find? (fun x => s == x.1) = none) :
    Instr.findNow .string (.string ⟨s.toArray⟩) (ents val 0 l) 0 = some none := by
  rw [findNow_ents]
  cases hi : l.findIdx? (fun x => s == x.1) with
  | none => rfl
  | some j =>
    rw [find?_of_findIdx?, hi] at h
    simp at h
    have := List.findIdx?_eq_some_iff_getElem.1 hi
    obtain ⟨hj, _⟩ := this
    omega

/-- the map holds the first entries of a table -/
def HoldsTab {α : Type} (w : World) (b : Nat) (val : α → Value) (l : List (List UInt8 × α)) : Prop := w.heap[b]? = some (.map (ents val 0 l).toArray l.length)

theorem HoldsTab.same {α : Type} {w w' : World} {b : Nat} {val : α → Value} {l : List (List UInt8 × α)} (h : HoldsTab w b val l) (hs : w'.heap[b]? = w.heap[b]?) : HoldsTab w' b val l := hs.trans h
theorem HoldsTab.lt {α : Type} {w : World} {b : Nat} {val : α → Value} {l : List (List UInt8 × α)} (h : HoldsTab w b val l) : b < w.heap.size := by
  rcases Nat.lt_or_ge b w.heap.size with hlt | hge
  · exact hlt
  · unfold HoldsTab at h; rw [Array.getElem?_eq_none hge] at h; cases h

theorem grownBy_setObj (w : World) (b : Nat) (o : Obj) : w.grownBy { w with heap := w.heap.setIfInBounds b o } (some b) :=
  ⟨rfl, rfl, rfl, by simp, fun i _ hne => by
    simp only [Array.getElem?_setIfInBounds]
    rw [if_neg (by rintro rfl; exact hne rfl)]⟩

/-- a store of a new key, at the operation -/
theorem wpList_put_tab {α : Type} {P : Program} (w : World) {ops : Array Oper} {rest : List Oper} {o : Oper} {a : Act} {Q : Exit → Act → World → Prop}
    (hg : o.guard = none) (m x v : Operand) (t : TypeId) (hop : o.op = Op.mapUpdate t m x v ∨ o.op = Op.insert t m x v)
    (k e : TypeId) (ht : P.underlying t = some (.map k e)) (hk : P.underlying k = some .string) (b : Nat) (val : α → Value) (l : List (List UInt8 × α)) (y : List UInt8 × α)
    (hm : a.eval m = .map (some b)) (hown : HoldsTab w b val l) (hx : a.eval x = .string ⟨y.1.toArray⟩) (hv : a.eval v = val y.2) (hnew : l.find? (fun x => y.1 == x.1) = none)
    (hK : ∀ w', HoldsTab w' b val (l ++ [y]) → w.grownBy w' (some b) → wpList P ops Q rest (a.put o.dst undef) w') :
    wpList P ops Q (o :: rest) a w := by
  refine wpList_plain hg fun K' hK' => ?_
  have hrun := run_mapUpdate_new (P := P) (e := e) ht hk hown ⟨y.1.toArray⟩ (val y.2) (by simpa using findNow_none val y.1 l hnew)
  have hrun' := hK _ (by
    unfold HoldsTab
    have hb := hown.lt
    simp [hb, ents_snoc]) (grownBy_setObj w b (.map ((ents val 0 l).toArray.push { key := .string ⟨y.1.toArray⟩, val := val y.2, born := l.length }) (l.length + 1)))
  unfold Oper.wp
  rcases hop with hop | hop
  all_goals
    simp only [execOp, hop, hm, hx, hv]
    simp only [Sem.run_bind, hrun, Result.andThen_ok, Sem.run_pure]
    exact hK' _ _ hrun'
end Go.Proofs.YthgfjafnclklpaaGreatDoor
