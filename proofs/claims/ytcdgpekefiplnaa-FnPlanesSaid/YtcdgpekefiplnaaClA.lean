/- Contracts: literals and clauses, in the reference and in the program. -/
import Derived.Test.YtcdgpekefiplnaaStrA
import Derived.Test.YtcdgpekefiplnaaMemB
import Derived.Lib.Hide
namespace Go.Proofs.Ytcdgpekefiplnaa
open Go.RowKit

theorem same_below {P : Program} {f : FuncId} {args : Array Value} {w : World} {v : Value} (h : Calls P f args w fun e w' => e = .returned v ∧ w = w') : Calls P f args w fun e w' => e = .returned v ∧ Below w.heap.size w w' :=
  h.mono fun _ _ ⟨h1, h2⟩ => ⟨h1, h2 ▸ bb _⟩

/-- A negated int, as Go negates. -/
def negV (l : Int) : Int := wrap64 (-l)
theorem negV_small {l : Int} (h : I64 l) (h1 : l ≠ -9223372036854775808) : negV l = -l := by
  unfold negV I64 at *
  unfold wrap64
  omega
/-- The variable of a literal. -/
def absV (l : Int) : Int := if l < 0 then negV l else l
/-- A literal of so many variables. -/
def litB (vars l : Int) : Bool := inB l (negV vars) vars && (l != 0)
/-- Place i of a clause is as it must be. -/
def cOk (vars : Int) (c : List Int) (i : Nat) : Bool := litB vars (c.getD i 0) && (i == 0 || decide (absV (c.getD (i - 1) 0) < absV (c.getD i 0)))
def cOkTo (vars : Int) (c : List Int) (k : Nat) : Bool := (List.range k).all (cOk vars c)
theorem cOkTo_succ (vars : Int) (c : List Int) (k : Nat) : cOkTo vars c (k + 1) = (cOkTo vars c k && cOk vars c k) := by simp [cOkTo, List.range_succ]
/-- A valid clause. -/
def clauseB (vars : Int) (c : List Int) : Bool := inB vars 0 12 && cOkTo vars c c.length
theorem cOkTo_le {vars : Int} {c : List Int} {k : Nat} (hk : k ≤ c.length) (h : cOkTo vars c k = false) : cOkTo vars c c.length = false := by
  obtain ⟨d, hd⟩ : ∃ d, c.length = k + d := ⟨c.length - k, by omega⟩
  rw [hd]
  clear hd hk
  induction d with
  | zero => exact h
  | succ d ih => rw [← Nat.add_assoc, cOkTo_succ, ih]; rfl

set_option maxHeartbeats 400000 in
theorem l2Var_any (l : Int) (w : World) : Calls Try.prog 67 #[.int .i64 l] w fun e w' => e = .returned (.int .i64 (absV l)) ∧ w = w' := by
  by_cases h : l < 0
  · have hd : Hid (absV l = wrap64 (-l)) := if_pos h
    go_enter Try.func67, Try.ntmps67
    go_wp2
    go_ret
    exact ⟨ret_int hd.out.symm, rfl⟩
  · have hd : Hid (absV l = l) := if_neg h
    go_enter Try.func67, Try.ntmps67
    go_wp2
    go_ret
    exact ⟨ret_int hd.out.symm, rfl⟩

set_option maxHeartbeats 400000 in
theorem l2Vars_any (v : Int) (w : World) : Calls Try.prog 54 #[.int .i64 v] w fun e w' => e = .returned (.bool (inB v 0 12)) ∧ w = w' := by
  go_enter Try.func54, Try.ntmps54
  go_wp2_with (go_at_call 34; refine (l1In_any _ _ _ _).mono ?_; rintro e w1 ⟨rfl, rfl⟩)
  go_ret
  exact ⟨rfl, rfl⟩
set_option maxHeartbeats 400000 in
theorem varsOk_any (v : Int) (w : World) : Calls Try.prog 49 #[.int .i64 v] w fun e w' => e = .returned (.bool (inB v 0 12)) ∧ w = w' := by
  go_enter Try.func49, Try.ntmps49
  go_wp2_with (go_at_call 32; refine (within_any _ _ _ _).mono ?_; rintro e w1 ⟨rfl, rfl⟩)
  go_ret
  exact ⟨rfl, rfl⟩

set_option maxHeartbeats 400000 in
theorem l2Lit_any (v l : Int) (w : World) : Calls Try.prog 66 #[.int .i64 v, .int .i64 l] w fun e w' => e = .returned (.bool (litB v l)) ∧ w = w' := by
  have hd : Hid (litB v l = (inB l (wrap64 (-v)) v && (l != 0))) := rfl
  go_enter Try.func66, Try.ntmps66
  go_wp2_with (go_at_call 34; refine (l1In_any _ _ _ _).mono ?_; rintro e w1 ⟨rfl, rfl⟩)
  all_goals go_ret
  all_goals exact ⟨ret_bool (by rw [hd.out]; simp [*] <;> rfl), rfl⟩
set_option maxHeartbeats 400000 in
theorem isLiteral_any (v l : Int) (w : World) : Calls Try.prog 64 #[.int .i64 v, .int .i64 l] w fun e w' => e = .returned (.bool (litB v l)) ∧ w = w' := by
  have hd : Hid (litB v l = (inB l (wrap64 (-v)) v && (l != 0))) := rfl
  go_enter Try.func64, Try.ntmps64
  go_wp2_with (go_at_call 32; refine (within_any _ _ _ _).mono ?_; rintro e w1 ⟨rfl, rfl⟩)
  all_goals go_ret
  · rename_i h
    subst h
    exact ⟨ret_bool (by rw [hd.out]; simp), rfl⟩
  · exact ⟨ret_bool (by rw [hd.out]; exact Bool.and_comm _ _), rfl⟩
set_option maxHeartbeats 400000 in
theorem abs_any (l : Int) (w : World) (hl : I64 l) : Calls Try.prog 65 #[.int .i64 l] w fun e w' => e = .returned (.int .i64 (absV l)) ∧ w = w' := by
  have hd : Hid (absV l = if l < wrap64 (-l) then wrap64 (-l) else l) := by
    unfold Hid absV negV
    unfold I64 at hl
    unfold wrap64
    split <;> split <;> omega
  go_enter Try.func65, Try.ntmps65
  by_cases h : l < wrap64 (-l)
  · go_wp2
    go_ret
    exact ⟨ret_int (by rw [hd.out, if_pos h]), rfl⟩
  · go_wp2
    go_ret
    exact ⟨ret_int (by rw [hd.out, if_neg (Int.not_lt.mpr h)]), rfl⟩
end Go.Proofs.Ytcdgpekefiplnaa
