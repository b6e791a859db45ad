/- A region that draws its order: loads are taken first under a condition S that the other operations keep; the last operations, which stand in one forced order (a store, an assignment), need not keep it. No program in sight. -/
import Derived.Deep.RegionHeld
import Derived.StillTail
namespace Go.Proofs.Ytcdgpekefiplnaa

section
variable {P : Program} {ops : Array Oper} {Q : Exit → Act → World → Prop} {md : Region.Mode} {S : World → Prop} {n : Nat} {L : Array Bool → Act → World → Prop}

/-- Whatever comes up is one of the first n; behind each S holds; behind them L. -/
def headH (P : Program) (md : Region.Mode) (ops : Array Oper) (Q : Exit → Act → World → Prop) (S : World → Prop) (n : Nat) (L : Array Bool → Act → World → Prop) : Nat → Array Bool → Act → World → Prop
  | 0, s, a, w => L s a w
  | f + 1, s, a, w => Region.ready md ops s ≠ [] ∧ ∀ i ∈ Region.ready md ops s, i < n ∧ wpOp P ops Q i (fun a' w' => S w' ∧ headH P md ops Q S n L f (s.setIfInBounds i true) a' w') a w

theorem any_of_headH {g : Nat} (hL : ∀ s a w, L s a w → wpAny P md ops Q g s a w) :
    ∀ (f : Nat) (s : Array Bool) (a : Act) (w : World), headH P md ops Q S n L f s a w → wpAny P md ops Q (f + g) s a w
  | 0, s, a, w, h => by rw [Nat.zero_add]; exact hL s a w h
  | f + 1, s, a, w, h => by
    rw [show f + 1 + g = (f + g) + 1 by omega]
    exact ⟨fun e => absurd e h.1, fun i hi => wpOp_mono (fun a' w' h' => any_of_headH hL f _ a' w' h'.2) (h.2 i hi).2⟩

theorem headH_first {i : Nat} {oi : Oper} {v : Value} (hi : ops[i]? = some oi) (hsel : ∀ (j : Nat) (o : Oper) cs b, ops[j]? = some o → o.op ≠ .select cs b)
    (hQ : ∀ c a w, Q (.panic c) (a.put oi.dst v) w → Q (.panic c) a w)
    (hs : Region.sinkB md ops n = true) (hc : Region.chainB md ops n = true) (hn : n < ops.size) (hin : i < n) (hL : ∀ s a w, L s a w → ∀ j ∈ Region.ready md ops s, n ≤ j) (f : Nat) :
    ∀ (s : Array Bool) (a : Act) (w : World), HeadInv md ops n s →
      (∀ j oj, ops[j]? = some oj → j ≠ i → s.getD j true = false → (∀ e ∈ oj.after, Region.binds md e = true → e.on ≠ i) → oi.apart ops oj = true) →
      i ∈ Region.ready md ops s → YieldsIf P ops S oi v a → S w → headH P md ops Q S n L f (s.setIfInBounds i true) (a.put oi.dst v) w → headH P md ops Q S n L (f + 1) s a w := by
  induction f with
  | zero =>
    intro s a w inv _ hr hy hS H
    refine ⟨List.ne_nil_of_mem hr, fun j hj => ?_⟩
    have hjn : j < n := Nat.lt_of_not_le fun h => tail_waits hs hc hn inv _ i rfl hin (mem_ready.1 hr).1 j h hj
    refine ⟨hjn, ?_⟩
    by_cases e : j = i
    · subst e; exact hy.wpOp hi hS ⟨hS, H⟩
    · exact absurd (hL _ _ _ H j (ready_mono hj e)) (by omega)
  | succ f ih =>
    intro s a w inv hfree hr hy hS H
    refine ⟨List.ne_nil_of_mem hr, fun j hj => ?_⟩
    have hjn : j < n := Nat.lt_of_not_le fun h => tail_waits hs hc hn inv _ i rfl hin (mem_ready.1 hr).1 j h hj
    refine ⟨hjn, ?_⟩
    by_cases e : j = i
    · subst e; exact hy.wpOp hi hS ⟨hS, H⟩
    · obtain ⟨hjs, oj, hoj, hall⟩ := mem_ready.1 hj
      have hno : ∀ e ∈ oj.after, Region.binds md e = true → e.on ≠ i := by
        intro x hx hb hxi
        have := hall x hx hb
        rw [hxi, getD_both (mem_ready.1 hr).1] at this; cases this
      have h1 := wpOp_putIf hoj (hfree j oj hoj e hjs hno) (fun cs b => hsel i oi cs b hi) (fun cs b => hsel j oj cs b hoj) hQ hy (H.2 j (ready_mono hj e)).2
      refine wpOp_mono (fun a' w' h2 => ⟨h2.2.1, ih (s.setIfInBounds j true) a' w' (inv.set hj hjn) (fun k ok hk hki hun hw => hfree k ok hk hki ?_ hw) (ready_mono hr (Ne.symm e)) h2.1 h2.2.1 ?_⟩) h1
      · by_cases hjk : j = k
        · subst hjk; exact hjs
        · rw [getD_set_ne true hjk] at hun; exact hun
      · rw [Array.setIfInBounds_comm _ _ e]; exact h2.2.2

/-- The walk's own judgement. -/
def walkT (P : Program) (md : Region.Mode) (ops : Array Oper) (Q : Exit → Act → World → Prop) (S : World → Prop) (n : Nat) (L : Array Bool → Act → World → Prop) (f : Nat) (s : Array Bool) (a : Act) (w : World) : Prop :=
  HeadInv md ops n s → headH P md ops Q S n L f s a w
/-- The checks on the region. -/
def tailOk (md : Region.Mode) (ops : Array Oper) (n : Nat) : Bool := Region.noSelect ops && decide (n < ops.size) && Region.sinkB md ops n && Region.chainB md ops n
/-- What stands behind the head: the rest in its one order. -/
def tailL (P : Program) (ops : Array Oper) (Q : Exit → Act → World → Prop) (n : Nat) (l : List Oper) (s : Array Bool) (a : Act) (w : World) : Prop :=
  Region.seqB .any ops l.length n s = true ∧ wpList P ops Q l a w

/-- Take number i first. -/
theorem walkT_take {i : Nat} {l : List Oper} {oi : Oper} {v : Value} {f : Nat} {s : Array Bool} {a : Act} {w : World} (hi : ops[i]? = some oi) (hok : tailOk .any ops n = true) (hin : i < n) (hf : Region.free .any ops s i = true)
    (hr : (Region.ready .any ops s).contains i = true) (hQ : ∀ c a w, Q (.panic c) (a.put oi.dst v) w → Q (.panic c) a w) (hy : YieldsIf P ops S oi v a) (hS : S w)
    (h : walkT P .any ops Q S n (tailL P ops Q n l) f (s.setIfInBounds i true) (a.put oi.dst v) w) : walkT P .any ops Q S n (tailL P ops Q n l) (f + 1) s a w := fun inv => by
  simp only [tailOk, Bool.and_eq_true, decide_eq_true_eq] at hok
  obtain ⟨⟨⟨hsel, hn⟩, hs⟩, hc⟩ := hok
  have hr' : i ∈ Region.ready .any ops s := by simpa using hr
  exact headH_first hi (Region.noSelect_spec hsel) hQ hs hc hn hin (fun s' a' w' hL => seqB_ready hL.1) f s a w inv (Region.free_spec hi hf) hr' hy hS (h (inv.set hr' hin))

/-- Each of the operations 'rs' comes up next. -/
def AllT (P : Program) (md : Region.Mode) (ops : Array Oper) (Q : Exit → Act → World → Prop) (S : World → Prop) (n : Nat) (L : Array Bool → Act → World → Prop) (f : Nat) (s : Array Bool) (a : Act) (w : World) (rs : List Nat) : Prop :=
  ∀ i ∈ rs, wpOp P ops Q i (fun a' w' => S w' ∧ walkT P md ops Q S n L f (s.setIfInBounds i true) a' w') a w
theorem AllT.nil {f : Nat} {s : Array Bool} {a : Act} {w : World} : AllT P md ops Q S n L f s a w [] := fun _ h => by cases h
theorem AllT.cons {f : Nat} {s : Array Bool} {a : Act} {w : World} {i : Nat} {o : Oper} {rs : List Nat} (ho : ops[i]? = some o)
    (h : ∀ K' : Act → World → Prop, Shut (∀ a w, S w → (S w → walkT P md ops Q S n L f (s.setIfInBounds i true) a w) → K' a w) → if Region.wanted o (yielded ops a.tmps) = true then Oper.wp P o a w K' Q else K' (a.put o.dst undef) w)
    (hs : AllT P md ops Q S n L f s a w rs) : AllT P md ops Q S n L f s a w (i :: rs) := fun j hj => by
  rcases List.mem_cons.1 hj with rfl | hj
  · exact wpOp_step ho (fun K' hK => h K' (fun a w hS hW => hK a w ⟨hS, hW hS⟩))
  · exact hs j hj
theorem walkT_ready {rs : List Nat} {f : Nat} {s : Array Bool} {a : Act} {w : World} (hr : Region.ready md ops s = rs) (hne : rs ≠ []) (hlt : rs.all (fun i => decide (i < n)) = true)
    (h : AllT P md ops Q S n L f s a w rs) : walkT P md ops Q S n L (f + 1) s a w := fun inv =>
  ⟨by rw [hr]; exact hne, fun i hi => by
    have hin : i < n := by simpa using List.all_eq_true.1 hlt i (hr ▸ hi)
    exact ⟨hin, wpOp_mono (fun a' w' h' => ⟨h'.1, h'.2 (inv.set hi hin)⟩) (h i (hr ▸ hi))⟩⟩
/-- The head is done. -/
theorem walkT_done {l : List Oper} {s : Array Bool} {a : Act} {w : World} (hs : Region.seqB .any ops l.length n s = true) (h : wpList P ops Q l a w) : walkT P .any ops Q S n (tailL P ops Q n l) 0 s a w := fun _ => ⟨hs, h⟩
end

/-- The beginning. -/
theorem wp_region_tail {P : Program} {S : World → Prop} {id : Nat} {Q : Exit → Act → World → Prop} {a : Act} {w : World} {l : List Oper} (n : Nat) (hm : P.follows .mixedOrders = true) (hok : tailOk .any l.toArray n = true) (hS : S w.drew)
    (h : S w.drew → walkT P .any l.toArray Q S n (tailL P l.toArray Q n (l.drop n)) n (Array.replicate l.toArray.size false) a w.drew) : (Code.region id l.toArray true).wp P Q a w := by
  have hn : n < l.length := by simp only [tailOk, Bool.and_eq_true, decide_eq_true_eq] at hok; simpa using hok.1.1.2
  have inv0 : HeadInv .any l.toArray n (Array.replicate l.toArray.size false) :=
    ⟨by simp, fun j oj _ hl => (by rw [getD_replicate_false] at hl; cases hl), fun t _ ht => getD_in (by simpa using ht) (getD_replicate_false _ _)⟩
  have hdl : (l.drop n).length = l.toArray.size - n := by simp
  refine wp_region_any hm ?_
  have H2 := any_of_headH (Q := Q) (g := l.toArray.size - n) (fun s a' w' hL => by
    have := wpAny_of_seq (md := .any) (Q' := Q) (l.drop n) n s a' w' (fun j => by simp [List.getElem?_drop]) hL.1 hL.2
    rwa [hdl] at this) _ _ _ _ (h hS inv0)
  rw [show n + (l.toArray.size - n) = l.toArray.size by simp; omega] at H2
  exact H2
/-- The same beginnings with the number of operations and the list of what has come up written out. -/
theorem wp_region_held_lit {P : Program} {S : World → Prop} {id : Nat} {Q : Exit → Act → World → Prop} {a : Act} {w : World} {l : List Oper} (N : Nat) (s0 : List Bool) (hN : l.length = N) (hs : Array.replicate l.toArray.size false = s0.toArray)
    (hm : P.follows .mixedOrders = true) (hS : S w.drew) (h : S w.drew → wpAnyH P .any l.toArray Q S N s0.toArray a w.drew) : (Code.region id l.toArray true).wp P Q a w := by
  subst hN
  refine wp_region_held_drew (S := S) hm hS fun hS' => ?_
  rw [hs]
  exact h hS'
theorem wp_region_tail_lit {P : Program} {S : World → Prop} {id : Nat} {Q : Exit → Act → World → Prop} {a : Act} {w : World} {l : List Oper} (n : Nat) (s0 : List Bool) (hs : Array.replicate l.toArray.size false = s0.toArray)
    (hm : P.follows .mixedOrders = true) (hok : tailOk .any l.toArray n = true) (hS : S w.drew)
    (h : S w.drew → walkT P .any l.toArray Q S n (tailL P l.toArray Q n (l.drop n)) n s0.toArray a w.drew) : (Code.region id l.toArray true).wp P Q a w := by
  refine wp_region_tail (S := S) n hm hok hS fun hS' => ?_
  rw [hs]
  exact h hS'
end Go.Proofs.Ytcdgpekefiplnaa
