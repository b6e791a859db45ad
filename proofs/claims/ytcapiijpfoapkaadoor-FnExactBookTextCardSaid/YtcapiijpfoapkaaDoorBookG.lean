/- Contracts: books. -/
import Derived.Test.YtcapiijpfoapkaaDoorBookF
import Derived.Test.YtcapiijpfoapkaaDoorBookE
import Derived.Test.YtcapiijpfoapkaaDoorHTailB
namespace Go.Proofs.YtcapiijpfoapkaaDoor
open Go.RowKit

theorem before_parts (r q : Rec) : beforeB r q = (Op.bytesLess r.name q.name || ((r.name == q.name) && decide (r.sys < q.sys))) := rfl
set_option maxHeartbeats 1000000 in
theorem l31Before_any (r : Rec) (n : List UInt8) (s : Int) (w : World) :
    Calls Tryd.prog 30 #[rcV r, .string (ms n), .int .i64 s] w fun e w' => e = .returned (.bool (Op.bytesLess r.name n || ((r.name == n) && decide (r.sys < s)))) ∧ Below w.heap.size w w' := by
  have hB := bal (bb w) (.cells #[.string (ms r.name), .int .i64 r.sys, .int .i64 r.size, .int .i64 r.extra] 39)
  cases h1 : Op.bytesLess r.name n
  · cases h2 : (r.name == n)
    · go_enter Tryd.func30, Tryd.ntmps30
      go_wp2_with fail
      go_ret
      exact ⟨rfl, hB⟩
    · go_enter Tryd.func30, Tryd.ntmps30
      go_wp2_with fail
      go_ret
      exact ⟨rfl, hB⟩
  · go_enter Tryd.func30, Tryd.ntmps30
    go_wp2_with fail
    go_ret
    exact ⟨rfl, hB⟩

/-- The first number that is not 0. -/
def orN (x y : Int) : Int := if x = 0 then y else x
theorem cmp_bytes : ∀ (a b : List UInt8), (Lib.compareBytes a b = -1 ↔ Op.bytesLess a b = true) ∧ (Lib.compareBytes a b = 0 ↔ a = b) ∧ (Lib.compareBytes a b = -1 ∨ Lib.compareBytes a b = 0 ∨ Lib.compareBytes a b = 1)
  | [], [] => by simp [Lib.compareBytes, Op.bytesLess]
  | [], _ :: _ => by simp [Lib.compareBytes, Op.bytesLess]
  | _ :: _, [] => by simp [Lib.compareBytes, Op.bytesLess]
  | x :: a, y :: b => by
    obtain ⟨h1, h2, h3⟩ := cmp_bytes a b
    simp only [Lib.compareBytes, Op.bytesLess, Bool.or_eq_true, decide_eq_true_eq, Bool.and_eq_true, beq_iff_eq, List.cons.injEq]
    by_cases e : x < y
    · simp only [e, if_true, true_or]
      have hne : ¬ x = y := fun e2 => by subst e2; rw [UInt8.lt_iff_toNat_lt] at e; omega
      simp [hne]
    · by_cases e2 : y < x
      · have hne : ¬ x = y := fun e3 => by subst e3; exact e e2
        simp [e, e2, hne]
      · have hxy : x = y := by
          rw [UInt8.lt_iff_toNat_lt] at e e2
          exact UInt8.toNat_inj.1 (by omega)
        subst hxy
        simp only [e, if_false, false_or, true_and]
        exact ⟨h1, h2, h3⟩
def cmpR (a b : Rec) : Int := orN (Lib.compareBytes a.name b.name) (Lib.compareInt a.sys b.sys)
theorem cmpR_neg (a b : Rec) : (0 ≤ cmpR a b) ↔ beforeB a b = false := by
  obtain ⟨h1, h2, h3⟩ := cmp_bytes a.name b.name
  unfold cmpR orN
  rw [before_parts]
  rcases h3 with h | h | h
  · rw [if_neg (by omega), h]
    have := h1.1 h
    simp [this]
  · rw [if_pos h]
    have e := h2.1 h
    rw [e, less_irrefl]
    unfold Lib.compareInt
    by_cases hs : a.sys < b.sys
    · simp [hs]
    · simp only [hs, if_false, beq_self_eq_true, Bool.true_and, Bool.false_or, decide_false, iff_true]
      split <;> decide
  · rw [if_neg (by omega), h]
    have n1 : Op.bytesLess a.name b.name = false := by
      cases hb : Op.bytesLess a.name b.name
      · rfl
      · have := h1.2 hb; omega
    have n2 : (a.name == b.name) = false := by
      rw [beq_eq_false_iff_ne]
      intro e
      have := h2.2 e; omega
    simp [n1, n2]

set_option maxHeartbeats 1000000 in
theorem cmpOr_any (b : Nat) (x y : Int) (w : World) (k0 : w.cell? ⟨b, 0, none⟩ = some (.int .i64 x)) (k1 : w.cell? ⟨b, 1, none⟩ = some (.int .i64 y)) :
    Calls Tryd.prog 40 #[.slice (some ⟨b, 0, none⟩) 2 2] w fun e w' => e = .returned (.int .i64 (orN x y)) ∧ w = w' := by
  by_cases hx : x = 0
  · have hR : Hid (orN x y = y) := by unfold Hid orN; rw [if_pos hx]
    subst hx
    by_cases hy : y = 0
    · subst hy
      go_enter Tryd.func40, Tryd.ntmps40
      go_wp2_with fail
      refine wp_loop_rounds 3 ?_
      rw [rounds_succ]
      go_wp2_with fail
      rw [rounds_succ]
      go_wp2_with fail
      rw [rounds_succ]
      go_wp2_with fail
      go_ret
      exact ⟨ret_int hR.out.symm, rfl⟩
    · have hy2 : (y != 0) = true := by simpa using hy
      go_enter Tryd.func40, Tryd.ntmps40
      go_wp2_with fail
      refine wp_loop_rounds 3 ?_
      rw [rounds_succ]
      go_wp2_with fail
      rw [rounds_succ]
      go_wp2_with fail
      go_ret
      exact ⟨ret_int hR.out.symm, rfl⟩
  · have hR : Hid (orN x y = x) := by unfold Hid orN; rw [if_neg hx]
    have hx2 : (x != 0) = true := by simpa using hx
    go_enter Tryd.func40, Tryd.ntmps40
    go_wp2_with fail
    refine wp_loop_rounds 3 ?_
    rw [rounds_succ]
    go_wp2_with fail
    go_ret
    exact ⟨ret_int hR.out.symm, rfl⟩

end Go.Proofs.YtcapiijpfoapkaaDoor
