/- Walk of package words: one, joined. -/
import Derived.Test.YticigfpieeoolaaGreatDoorA4
import Derived.Test.YticigfpieeoolaaGreatDoorA5
import Derived.Test.YticigfpieeoolaaGreatDoorA6
import Derived.Test.YticigfpieeoolaaGreatDoorA7
namespace Go.Proofs.YticigfpieeoolaaGreatDoor

/-- words.one tells the step at the head of the bytes -/
theorem one_any {w : World} (hg : Glob w) {A : Option Addr} {cap : Nat} {l : Sp.Bs} (h : RowAt w A (bytesV l)) (hc : l.length ≤ cap) (hA : A = none → cap = 0) (hl : l.length ≤ 1000000000) {at' lim : Nat} (hat : at' ≤ l.length) (hlim : lim ≤ 9223372036854775807) :
    Calls Tryz.prog 63 #[.slice A l.length cap, .int .i64 at', .int .i64 lim] w (OnePost w at' (Sp.oneV lim (l.drop at'))) := by
  cases hi : Sp.indexOf (l.drop at') 10 with
  | none =>
    have e : Sp.oneV lim (l.drop at') = none := by unfold Sp.oneV; rw [hi]
    rw [e]
    exact one_none h hc hA hat hi
  | some i =>
    cases hr : Sp.lineOf (Sp.chop ((l.drop at').take i)) with
    | bad x => exact one_bad hg h hc hA hl hat hlim hi hr
    | ok c n =>
      by_cases hn : n < 0
      · exact one_no hg h hc hA hl hat hi hr hn
      · by_cases hln : (lim : Int) < n
        · exact one_large hg h hc hA hl hat hi hr hn hln
        · exact one_blk hg h hc hA hl hat hi hr hn hln
end Go.Proofs.YticigfpieeoolaaGreatDoor
