/- Walk of package words: read, whatever the line. -/
import Derived.Test.YticigfpieeoolaaGreatDoorW12
namespace Go.Proofs.YticigfpieeoolaaGreatDoor
open Go.RowKit

section
variable {rb : Nat} {w : World}

theorem read_any (h : RdNew w rb) (hg : Glob w) (hgr : 8 ≤ rb) (line : Sp.Bs) :
    Calls Tryz.prog 50 #[.pointer (some ⟨rb, 0, none⟩), str line] w (ReadPost rb w (Sp.lineOf line)) := by
  by_cases hl : 2048 < line.length
  · exact read_long h line hl
  · have hl' : line.length ≤ 2048 := by omega
    cases hw : Sp.wordsOf line with
    | nil => exact read_empty line hl' hw
    | cons v ws =>
      cases hr : Sp.rowOf v with
      | none => exact read_words h hg hgr line hl' v ws hw { verb := 0 } false hr (fun h => by cases h) (fun w2 b ht => rows_no ht v hr)
      | some r => exact read_words h hg hgr line hl' v ws hw r true hr (fun _ => rowOf_ok hr) (fun w2 b ht => rows_yes ht v r hr)
end
end Go.Proofs.YticigfpieeoolaaGreatDoor
