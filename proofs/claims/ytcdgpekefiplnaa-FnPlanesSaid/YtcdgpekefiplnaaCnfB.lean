/- Contracts: rows of rows of ints and Cnfs in the laws. -/
import Derived.Test.YtcdgpekefiplnaaCnfA
import Derived.Test.YtcdgpekefiplnaaMemB
import Derived.Deep.RegionHeld3
namespace Go.Proofs.Ytcdgpekefiplnaa
open Go.RowKit

/- left out: the seat has no laws.szIntS -/

/-- The number of numbers in the first k rows. -/
def sumTo (xss : List (List Int)) (k : Nat) : Nat := ((xss.take k).map List.length).sum
theorem sumTo_succ (xss : List (List Int)) (k : Nat) (hk : k < xss.length) : sumTo xss (k + 1) = sumTo xss k + xss[k].length := by
  unfold sumTo; rw [List.take_succ_eq_append_getElem hk, List.map_append, List.sum_append]; simp
theorem sumTo_all (xss : List (List Int)) : sumTo xss xss.length = (xss.map List.length).sum := by unfold sumTo; rw [List.take_length]
theorem sumTo_le (xss : List (List Int)) (k : Nat) : sumTo xss k ≤ (xss.map List.length).sum := by
  unfold sumTo
  conv => rhs; rw [← List.take_append_drop k xss]
  rw [List.map_append, List.sum_append]; omega
theorem sumTo_zero (xss : List (List Int)) : sumTo xss 0 = 0 := rfl
theorem get_len_le (xss : List (List Int)) (k : Nat) (hk : k < xss.length) : xss[k].length ≤ (xss.map List.length).sum := by
  have := sumTo_le xss (k + 1)
  rw [sumTo_succ xss k hk] at this; omega

/-- What is left, or -1. -/
def szOf (n : Int) (b : Nat) : Int := if n < (b : Int) then -1 else n - b
theorem szOf_no {n : Int} {b : Nat} (h : n < (b : Int)) : szOf n b = -1 := if_pos h
theorem szOf_yes {n : Int} {b : Nat} (h : (b : Int) ≤ n) : szOf n b = n - b := if_neg (by omega)

/- left out: the seat has no laws.szIntSS -/

theorem infoRow : (Try.prog.info? 24).map (fun i => (i.zero, i.size, i.bytes)) = some (some (.slice none 0 0), 1, 24) := by kernel_rfl

/- left out: the seat has no laws.toIntSS -/

/- left out: the seat has no laws.eqIntSS -/
end Go.Proofs.Ytcdgpekefiplnaa
