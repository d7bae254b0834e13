/- Walk of package words: word, whatever the letter. -/
import Derived.Test.YticigfpieeoolaaGreatDoorW9
import Derived.Test.YticigfpieeoolaaGreatDoorPr
namespace Go.Proofs.YticigfpieeoolaaGreatDoor
open Go.RowKit

theorem Glob.only {rb : Nat} {w w' : World} (h : Glob w) (ho : Only rb w.heap.size w w') (hr : 8 ≤ rb) : Glob w' :=
  h.keep (fun k hk => ho.block k (by have := h.size; omega) (by omega)) ho.size

theorem word_any {base rb : Nat} {c : Sp.CmdV} {block pass : Int} {kv mv : Value} {w : World} (h : RdIs base w rb c block pass kv mv) (hg : Glob w) (hgb : 8 ≤ base) (hgr : 8 ≤ rb) (k : UInt8) (hk : k ∈ ([75, 70, 84, 78, 67, 48, 68, 83, 86, 87, 71] : Sp.Bs))
    (l : Sp.Bs) (hne : l ≠ []) (hl : l.length ≤ 4294967270) (hn1 : c.keys.length ≤ 1000000) (hn2 : c.metas.length ≤ 1000000) (hm : ∀ f ∈ c.metas, f.arg.length ≤ 140737488355328) :
    Calls Tryz.prog 87 #[.pointer (some ⟨rb, 0, none⟩), .int .u8 k.toNat, str l] w (WordPost base rb pass w (Sp.wordAt c block k l)) := by
  have hl' : l.length ≤ 140737488355328 := by omega
  simp only [List.mem_cons, List.mem_nil_iff, or_false] at hk
  rcases hk with rfl | rfl | rfl | rfl | rfl | rfl | rfl | rfl | rfl | rfl | rfl
  · exact word_K h l hl' hn1
  · exact word_F h hg l hl'
  · cases ht : Sp.timeOf l with
    | none => exact word_time_no h hg l hl' 84 (.inl rfl) ht
    | some t => exact word_T h l hl' t ht
  · exact word_N h hg l hl'
  · exact word_C h hg l hl'
  · exact word_0 h l
  · exact word_D h hg l hl'
  · cases ht : Sp.timeOf l with
    | none => exact word_time_no h hg l hl' 83 (.inr rfl) ht
    | some t =>
      by_cases hneg : t < 0
      · exact word_time_neg h l hl' t hneg ht
      · exact word_S h l hl' t hneg ht
  · exact word_V h hg l hl'
  · exact word_W h l
  · cases l with
    | nil => exact absurd rfl hne
    | cons x t => exact word_G h hg hgb hgr x t (by simp at hl; omega) hn2 hm
end Go.Proofs.YticigfpieeoolaaGreatDoor
