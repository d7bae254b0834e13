/- reply.Bytes, joined. -/
import Derived.Test.YtnbeeehfapjpdaaGreatDoorVz
import Derived.Test.YtnbeeehfapjpdaaGreatDoorQ45
import Derived.Test.YtnbeeehfapjpdaaGreatDoorU3
namespace Go.Proofs.YtnbeeehfapjpdaaGreatDoor
attribute [local go_sem ↓] Go.wp_at_zero Go.wp_at_succ
open Go.RowKit

theorem bytesOf_any {w : World} (hg : GlobR w) (v : Int) {K : Option Addr} {keys : List Sp.Bs} {kc : Nat} (fl ex tk dl : Int) (D : Option Addr) (dn dc : Nat) (nr lg : Bool) (M : Option Addr) (mn mc : Nat) (what : Sp.Bs) (hK : RowAt w K (keys.map str)) (hkc : keys.length ≤ kc) (hks : keys.length ≤ 1000000000) {x : AnsX} (hx : AnsIn w x) (hbig : (Sp.answerW v x.v).length ≤ 1000000000000) :
    Calls Tryz.prog 15 #[cmdA v K keys.length kc fl ex tk dl D dn dc nr lg M mn mc what, x.val] w (WroteK w (Sp.wroteV v keys what nr x.v)) := by
  cases hf : Sp.fitsV v keys what x.v with
  | false => exact bytes_unfit hg v fl ex tk dl D dn dc nr lg M mn mc what hK hkc hks hx hf
  | true =>
    by_cases hn : nr = true ∨ x.kind = 12
    · exact bytes_none hg v fl ex tk dl D dn dc nr lg M mn mc what hK hkc hks hx hf hn
    have hn1 : nr = false := by cases nr <;> simp_all
    have hn2 : x.kind ≠ 12 := fun e => hn (.inr e)
    by_cases h7 : x.kind = 7
    · exact bytes_7 hg v fl ex tk dl D dn dc nr lg M mn mc what hK hkc hks hx hf hn1 h7
    by_cases h9 : x.kind = 9
    · exact bytes_9 hg v fl ex tk dl D dn dc nr lg M mn mc what hK hkc hks hx hf hn1 h9 hbig
    by_cases h10 : x.kind = 10
    · exact bytes_10 hg v fl ex tk dl D dn dc nr lg M mn mc what hK hkc hks hx hf hn1 h10
    by_cases h11 : x.kind = 11
    · exact bytes_11 hg v fl ex tk dl D dn dc nr lg M mn mc what hK hkc hks hx hf hn1 h11
    by_cases h13 : x.kind = 13
    · exact bytes_13 hg v fl ex tk dl D dn dc nr lg M mn mc what hK hkc hks hx hf hn1 h13 hbig
    by_cases h15 : x.kind = 15
    · exact bytes_15 hg v fl ex tk dl D dn dc nr lg M mn mc what hK hkc hks hx hf hn1 h15 hbig
    · exact bytes_fixed hg v fl ex tk dl D dn dc nr lg M mn mc what hK hkc hks hx hf hn1 ⟨h7, h9, h10, h11, hn2, h13, h15⟩
end Go.Proofs.YtnbeeehfapjpdaaGreatDoor
