/- What RemoveEdge answers: plain facts. -/
import Derived.Test.YtebhkfhdjdgokaaChN
namespace Go.Proofs.Ytebhkfhdjdgokaa
open Go.RowKit

/-- The charges once the edge k has this value. -/
def chargeB (es : List (Int × Int)) (cs : List Int) (k value : Int) : List Int :=
  if value = 1 then turned cs (es.getD k.toNat (0, 0)).1.toNat (es.getD k.toNat (0, 0)).2.toNat (cs.getD (es.getD k.toNat (0, 0)).1.toNat 0) (cs.getD (es.getD k.toNat (0, 0)).2.toNat 0) else cs
/-- What RemoveEdge answers. -/
def removeB (V : Int) (es : List (Int × Int)) (cs : List Int) (k value : Int) : Int × List (Int × Int) × List Int × Bool :=
  if edgeB V es cs k && inB value 0 1 then (V, es.take k.toNat ++ es.drop (k.toNat + 1), chargeB es cs k value, true) else (0, [], [], false)
theorem remove_no {V : Int} {es : List (Int × Int)} {cs : List Int} {k value : Int} (h : (edgeB V es cs k && inB value 0 1) = false) : removeB V es cs k value = (0, [], [], false) := by unfold removeB; rw [h]; rfl
theorem charge_len (es : List (Int × Int)) (cs : List Int) (k value : Int) : (chargeB es cs k value).length = cs.length := by
  unfold chargeB
  split
  · simp [turned]
  · rfl
theorem remove_len (V : Int) (es : List (Int × Int)) (cs : List Int) (k value : Int) : (removeB V es cs k value).2.1.length ≤ es.length ∧ (removeB V es cs k value).2.2.1.length ≤ cs.length := by
  unfold removeB
  split
  · refine ⟨?_, by rw [charge_len]; exact Nat.le_refl _⟩
    show (es.take k.toNat ++ es.drop (k.toNat + 1)).length ≤ es.length
    rw [List.length_append, List.length_take, List.length_drop]; omega
  · exact ⟨Nat.zero_le _, Nat.zero_le _⟩
end Go.Proofs.Ytebhkfhdjdgokaa
