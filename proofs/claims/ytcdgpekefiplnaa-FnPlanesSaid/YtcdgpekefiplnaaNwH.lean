/- Contracts: a number in a row, in the reference. -/
import Derived.Test.YtcdgpekefiplnaaClC
namespace Go.Proofs.Ytcdgpekefiplnaa
open Go.RowKit

/-- A number is in a row. -/
def hasI (xs : List Int) (x : Int) : Bool := xs.contains x
theorem hasI_no {xs : List Int} {x : Int} {k : Nat} (hk : k < xs.length) (h0 : hasI (xs.take k) x = false) (h : ¬ xs[k] = x) : hasI (xs.take (k + 1)) x = false := by
  unfold hasI at *
  rw [List.take_succ_eq_append_getElem hk, List.contains_append, h0]
  simp
  exact fun e => h e.symm
theorem hasI_yes {xs : List Int} {x : Int} {k : Nat} (hk : k < xs.length) (h : xs[k] = x) : hasI xs x = true := by
  unfold hasI
  subst h
  simp

/- left out: the seat has no spec.l1Has -/

/- left out: the seat has no spec.l2Has -/
end Go.Proofs.Ytcdgpekefiplnaa
