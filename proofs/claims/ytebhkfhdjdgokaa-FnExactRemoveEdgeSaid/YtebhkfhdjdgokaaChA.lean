/- Plain facts on charged graphs. No program in sight. -/
import Derived.Test.YtebhkfhdjdgokaaStrA
namespace Go.Proofs.Ytebhkfhdjdgokaa
open Go.RowKit

/-- A vertex is an end of an edge. -/
def hitB (x : Int) (e : Int × Int) : Bool := e.1 == x || e.2 == x
/-- How many of the first k edges are at a vertex. -/
def cntTo (es : List (Int × Int)) (x : Int) (k : Nat) : Nat := ((es.take k).filter (hitB x)).length
theorem cnt_le (es : List (Int × Int)) (x : Int) (k : Nat) : cntTo es x k ≤ k := by
  unfold cntTo
  refine Nat.le_trans (List.length_filter_le _ _) ?_
  rw [List.length_take]; omega
theorem cnt_yes {es : List (Int × Int)} {x : Int} {k : Nat} (h : k < es.length) (hh : hitB x es[k] = true) : cntTo es x (k + 1) = cntTo es x k + 1 := by
  unfold cntTo; rw [List.take_succ_eq_append_getElem h, List.filter_append, List.length_append]; simp [List.filter, hh]
theorem cnt_no {es : List (Int × Int)} {x : Int} {k : Nat} (h : k < es.length) (hh : hitB x es[k] = false) : cntTo es x (k + 1) = cntTo es x k := by
  unfold cntTo; rw [List.take_succ_eq_append_getElem h, List.filter_append, List.length_append]; simp [List.filter, hh]

def edgeOk (V : Int) (e : Int × Int) : Bool := inB e.1 0 (V - 1) && inB e.2 0 (V - 1) && decide (e.1 < e.2)
def vertOk (es : List (Int × Int)) (cs : List Int) (k : Nat) : Bool := inB (cs.getD k 0) 0 1 && decide (cntTo es k es.length ≤ 4)
def headB (V : Int) (es : List (Int × Int)) (cs : List Int) : Bool := inB V 1 8 && decide (es.length ≤ 12) && decide ((cs.length : Int) = V)
def vertsTo (es : List (Int × Int)) (cs : List Int) (k : Nat) : Bool := (List.range k).all (vertOk es cs)
def chargedB (V : Int) (es : List (Int × Int)) (cs : List Int) : Bool := headB V es cs && es.all (edgeOk V) && vertsTo es cs cs.length
theorem charged_head {V : Int} {es : List (Int × Int)} {cs : List Int} (h : headB V es cs = false) : chargedB V es cs = false := by unfold chargedB; rw [h]; rfl
theorem charged_edge {V : Int} {es : List (Int × Int)} {cs : List Int} {k : Nat} (hk : k < es.length) (h : edgeOk V es[k] = false) : chargedB V es cs = false := by
  unfold chargedB
  have : es.all (edgeOk V) = false := by rw [List.all_eq_false]; exact ⟨_, List.getElem_mem hk, by simp [h]⟩
  rw [this]; simp
theorem charged_vert {V : Int} {es : List (Int × Int)} {cs : List Int} {k : Nat} (hk : k < cs.length) (h : vertOk es cs k = false) : chargedB V es cs = false := by
  unfold chargedB vertsTo
  have : (List.range cs.length).all (vertOk es cs) = false := by rw [List.all_eq_false]; exact ⟨k, by simpa using hk, by simp [h]⟩
  rw [this]; simp
theorem edges_step {V : Int} {es : List (Int × Int)} {k : Nat} (hk : k < es.length) (h : (es.take k).all (edgeOk V) = true) (he : edgeOk V es[k] = true) : (es.take (k + 1)).all (edgeOk V) = true := by
  rw [List.take_succ_eq_append_getElem hk, List.all_append, h]; simp [he]
theorem verts_step {es : List (Int × Int)} {cs : List Int} {k : Nat} (h : vertsTo es cs k = true) (he : vertOk es cs k = true) : vertsTo es cs (k + 1) = true := by
  unfold vertsTo at *; rw [List.range_succ, List.all_append, h]; simp [he]
theorem charged_all {V : Int} {es : List (Int × Int)} {cs : List Int} (h : headB V es cs = true) (h1 : (es.take es.length).all (edgeOk V) = true) (h2 : vertsTo es cs cs.length = true) : chargedB V es cs = true := by
  rw [List.take_length] at h1
  unfold chargedB; rw [h, h1, h2]; rfl
theorem charged_facts {V : Int} {es : List (Int × Int)} {cs : List Int} (h : chargedB V es cs = true) : 1 ≤ V ∧ V ≤ 8 ∧ es.length ≤ 12 ∧ (cs.length : Int) = V ∧ (∀ k (hk : k < es.length), 0 ≤ es[k].1 ∧ es[k].1 < es[k].2 ∧ es[k].2 < V) ∧ ∀ k (hk : k < cs.length), 0 ≤ cs[k] ∧ cs[k] ≤ 1 := by
  simp only [chargedB, headB, vertsTo, Bool.and_eq_true, inB_true, decide_eq_true_eq, List.all_eq_true] at h
  obtain ⟨⟨⟨⟨⟨a1, a2⟩, a3⟩, a4⟩, b⟩, c⟩ := h
  refine ⟨a1, a2, a3, a4, fun k hk => ?_, fun k hk => ?_⟩
  · have := b _ (List.getElem_mem hk)
    simp only [edgeOk, Bool.and_eq_true, inB_true, decide_eq_true_eq] at this
    omega
  · have := c k (by simpa using hk)
    simp only [vertOk, Bool.and_eq_true, inB_true, decide_eq_true_eq] at this
    rw [List.getD_eq_getElem?_getD, List.getElem?_eq_getElem hk] at this
    exact this.1
end Go.Proofs.Ytebhkfhdjdgokaa
