/- Lemmas and contracts for a law, put together out of several texts: MemF HTail HTailB GtB GtC GtD PnA SepB PnB CnfA. -/
import Derived.Test.YtkhopkonddgicaaMg1
import Derived.Deep.RegionHeld
import Derived.StillTail
import Derived.BigQuiet
import Derived.Lib.QuietBelow
import Derived.Lib.Hide
import Derived.Lib.RabinKarpLaws
/- Memory facts: elements of a fixed number of cells that hold no references. No program in sight. -/
namespace Go.Proofs.Ytkhopkonddgicaa
open Go.RowKit

/-- Data in a fixed number of cells, without references. -/
def Ty.flat {α : Type} (n : Nat) (enc : α → List Value) (good : α → Prop) (hn : ∀ x, (enc x).length = n) : Ty α where
  size := n
  rep _ _ cs x F := cs = enc x ∧ good x ∧ F = []
  len h := by obtain ⟨rfl, _, _⟩ := h; exact hn _
  lt h := by obtain ⟨_, _, rfl⟩ := h; simp
  keep h _ := h
  down h := h

section
variable {α : Type} {n : Nat} {enc : α → List Value} {good : α → Prop} {hn : ∀ x, (enc x).length = n}
theorem flat_all {wr : Bool} {w : World} : ∀ {xs : List α} {cs : List Value} {F : List Nat}, (Ty.flat n enc good hn).all wr w cs xs F ↔ cs = xs.flatMap enc ∧ (∀ x ∈ xs, good x) ∧ F = []
  | [], cs, F => by simp [Ty.all]
  | x :: xs, cs, F => by
    constructor
    · rintro ⟨c, d, F1, F2, rfl, rfl, ⟨rfl, hg, rfl⟩, h2⟩
      obtain ⟨rfl, h3, rfl⟩ := flat_all.1 h2
      exact ⟨rfl, fun y hy => by rcases List.mem_cons.1 hy with rfl | hy; exact hg; exact h3 y hy, rfl⟩
    · rintro ⟨rfl, h, rfl⟩
      exact ⟨enc x, xs.flatMap enc, [], [], rfl, rfl, ⟨rfl, h x List.mem_cons_self, rfl⟩, flat_all.2 ⟨rfl, fun y hy => h y (List.mem_cons_of_mem _ hy), rfl⟩⟩
theorem flat_len (hn : ∀ x, (enc x).length = n) (xs : List α) : (xs.flatMap enc).length = xs.length * n := by
  induction xs with
  | nil => simp
  | cons x xs ih => rw [List.flatMap_cons, List.length_append, ih, hn, List.length_cons, Nat.add_mul]; omega
theorem flat_get (hn : ∀ x, (enc x).length = n) : ∀ (xs : List α) (j : Nat) (hj : j < xs.length) (i : Nat), i < n → (xs.flatMap enc)[j * n + i]? = (enc xs[j])[i]?
  | x :: xs, 0, _, i, hi => by
    rw [List.flatMap_cons, Nat.zero_mul, Nat.zero_add, List.getElem?_append_left (by rw [hn]; exact hi)]; rfl
  | x :: xs, j + 1, hj, i, hi => by
    rw [List.flatMap_cons, List.getElem?_append_right (by rw [hn, Nat.add_mul]; omega), hn]
    rw [show (j + 1) * n + i - n = j * n + i by rw [Nat.add_mul]; omega]
    exact flat_get hn xs j (by simpa using hj) i hi
theorem flat_at (hn : ∀ x, (enc x).length = n) (xs : List α) (q : Nat) (hq : q < xs.length * n) : ∃ j i, j < xs.length ∧ i < n ∧ q = j * n + i := by
  have h0 : 0 < n := by rcases Nat.eq_zero_or_pos n with h | h; (subst h; simp at hq); exact h
  refine ⟨q / n, q % n, (Nat.div_lt_iff_lt_mul h0).2 hq, Nat.mod_lt _ h0, ?_⟩
  rw [Nat.mul_comm]; exact (Nat.div_add_mod q n).symm

/-- A row of flat elements: nil or empty; or its cells. -/
theorem row_flat {wr : Bool} {w : World} {v : Value} {xs : List α} {F : List Nat} (h : (Ty.flat n enc good hn).row wr w v xs F) :
    ∃ a cap, v = .slice a xs.length cap ∧ xs.length ≤ cap ∧ cap ≤ 9223372036854775807 ∧ (∀ x ∈ xs, good x) ∧
      ((xs = [] ∧ F = []) ∨ (0 < n ∧ xs ≠ [] ∧ ∃ b off, a = some ⟨b, off, none⟩ ∧ F = [b] ∧ ∀ j (hj : j < xs.length) i (u : Value), (enc xs[j])[i]? = some u → cellIs wr w b (off + (j * n + i)) u)) := by
  obtain ⟨a, cap, cs, G, rfl, h1, h2, hall, h⟩ := h
  obtain ⟨rfl, hg, rfl⟩ := flat_all.1 hall
  refine ⟨a, cap, rfl, h1, h2, hg, h.imp id ?_⟩
  rintro ⟨h0, hne, b, off, rfl, rfl, hc⟩
  refine ⟨h0, hne, b, off, rfl, rfl, fun j hj i u hu => ?_⟩
  have hi : i < n := by have := (List.getElem?_eq_some_iff.1 hu).1; rwa [hn] at this
  have hlt : j * n + i < (xs.flatMap enc).length := by
    rw [flat_len hn]
    have : (j + 1) * n ≤ xs.length * n := Nat.mul_le_mul_right n hj
    rw [Nat.add_mul] at this; omega
  have h3 := hc (j * n + i) hlt
  have h4 := flat_get hn xs j hj i hi
  rw [List.getElem?_eq_getElem hlt, hu] at h4
  rw [Option.some.inj h4] at h3
  exact h3
theorem row_flat_mk {wr : Bool} {w : World} {b off cap : Nat} {xs : List α} (hg : ∀ x ∈ xs, good x) (h1 : xs.length ≤ cap) (h2 : cap ≤ 9223372036854775807) (hne : xs ≠ []) (h0 : 0 < n)
    (hc : ∀ j (hj : j < xs.length) i (u : Value), (enc xs[j])[i]? = some u → cellIs wr w b (off + (j * n + i)) u) : (Ty.flat n enc good hn).row wr w (.slice (some ⟨b, off, none⟩) xs.length cap) xs [b] := by
  refine ⟨_, cap, xs.flatMap enc, [], rfl, h1, h2, flat_all.2 ⟨rfl, hg, rfl⟩, .inr ⟨h0, hne, b, off, rfl, rfl, fun q hq => ?_⟩⟩
  obtain ⟨j, i, hj, hi, rfl⟩ := flat_at hn xs q (by rw [flat_len hn] at hq; exact hq)
  refine hc j hj i _ ?_
  rw [← flat_get hn xs j hj i hi, List.getElem?_eq_getElem hq]
/-- The same cells told by another opening. -/
theorem Opens.flat {P : Program} {t : TypeId} {β : Type} {T : Ty β} (h : Opens P t T) (f : β → α) (hf : ∀ w cs x F, T.rep false w cs x F → cs = enc (f x) ∧ good (f x) ∧ F = []) : Opens P t (Ty.flat n enc good hn) := by
  intro H ec w spare held fuel cs y hy
  obtain ⟨x, F, hx⟩ := h H ec w spare held fuel cs y hy
  exact ⟨f x, F, hf w cs x F hx⟩
end
end Go.Proofs.Ytkhopkonddgicaa

/- A region that draws its order: loads are taken first under a condition S that the other operations keep; the last operations, which stand in one forced order (a store, an assignment), need not keep it. No program in sight. -/
namespace Go.Proofs.Ytkhopkonddgicaa

section
variable {P : Program} {ops : Array Oper} {Q : Exit → Act → World → Prop} {md : Region.Mode} {S : World → Prop} {n : Nat} {L : Array Bool → Act → World → Prop}

/-- Whatever comes up is one of the first n; behind each S holds; behind them L. -/
def headH (P : Program) (md : Region.Mode) (ops : Array Oper) (Q : Exit → Act → World → Prop) (S : World → Prop) (n : Nat) (L : Array Bool → Act → World → Prop) : Nat → Array Bool → Act → World → Prop
  | 0, s, a, w => L s a w
  | f + 1, s, a, w => Region.ready md ops s ≠ [] ∧ ∀ i ∈ Region.ready md ops s, i < n ∧ wpOp P ops Q i (fun a' w' => S w' ∧ headH P md ops Q S n L f (s.setIfInBounds i true) a' w') a w

theorem any_of_headH {g : Nat} (hL : ∀ s a w, L s a w → wpAny P md ops Q g s a w) :
    ∀ (f : Nat) (s : Array Bool) (a : Act) (w : World), headH P md ops Q S n L f s a w → wpAny P md ops Q (f + g) s a w
  | 0, s, a, w, h => by rw [Nat.zero_add]; exact hL s a w h
  | f + 1, s, a, w, h => by
    rw [show f + 1 + g = (f + g) + 1 by omega]
    exact ⟨fun e => absurd e h.1, fun i hi => wpOp_mono (fun a' w' h' => any_of_headH hL f _ a' w' h'.2) (h.2 i hi).2⟩

theorem headH_first {i : Nat} {oi : Oper} {v : Value} (hi : ops[i]? = some oi) (hsel : ∀ (j : Nat) (o : Oper) cs b, ops[j]? = some o → o.op ≠ .select cs b)
    (hQ : ∀ c a w, Q (.panic c) (a.put oi.dst v) w → Q (.panic c) a w)
    (hs : Region.sinkB md ops n = true) (hc : Region.chainB md ops n = true) (hn : n < ops.size) (hin : i < n) (hL : ∀ s a w, L s a w → ∀ j ∈ Region.ready md ops s, n ≤ j) (f : Nat) :
    ∀ (s : Array Bool) (a : Act) (w : World), HeadInv md ops n s →
      (∀ j oj, ops[j]? = some oj → j ≠ i → s.getD j true = false → (∀ e ∈ oj.after, Region.binds md e = true → e.on ≠ i) → oi.apart ops oj = true) →
      i ∈ Region.ready md ops s → YieldsIf P ops S oi v a → S w → headH P md ops Q S n L f (s.setIfInBounds i true) (a.put oi.dst v) w → headH P md ops Q S n L (f + 1) s a w := by
  induction f with
  | zero =>
    intro s a w inv _ hr hy hS H
    refine ⟨List.ne_nil_of_mem hr, fun j hj => ?_⟩
    have hjn : j < n := Nat.lt_of_not_le fun h => tail_waits hs hc hn inv _ i rfl hin (mem_ready.1 hr).1 j h hj
    refine ⟨hjn, ?_⟩
    by_cases e : j = i
    · subst e; exact hy.wpOp hi hS ⟨hS, H⟩
    · exact absurd (hL _ _ _ H j (ready_mono hj e)) (by omega)
  | succ f ih =>
    intro s a w inv hfree hr hy hS H
    refine ⟨List.ne_nil_of_mem hr, fun j hj => ?_⟩
    have hjn : j < n := Nat.lt_of_not_le fun h => tail_waits hs hc hn inv _ i rfl hin (mem_ready.1 hr).1 j h hj
    refine ⟨hjn, ?_⟩
    by_cases e : j = i
    · subst e; exact hy.wpOp hi hS ⟨hS, H⟩
    · obtain ⟨hjs, oj, hoj, hall⟩ := mem_ready.1 hj
      have hno : ∀ e ∈ oj.after, Region.binds md e = true → e.on ≠ i := by
        intro x hx hb hxi
        have := hall x hx hb
        rw [hxi, getD_both (mem_ready.1 hr).1] at this; cases this
      have h1 := wpOp_putIf hoj (hfree j oj hoj e hjs hno) (fun cs b => hsel i oi cs b hi) (fun cs b => hsel j oj cs b hoj) hQ hy (H.2 j (ready_mono hj e)).2
      refine wpOp_mono (fun a' w' h2 => ⟨h2.2.1, ih (s.setIfInBounds j true) a' w' (inv.set hj hjn) (fun k ok hk hki hun hw => hfree k ok hk hki ?_ hw) (ready_mono hr (Ne.symm e)) h2.1 h2.2.1 ?_⟩) h1
      · by_cases hjk : j = k
        · subst hjk; exact hjs
        · rw [getD_set_ne true hjk] at hun; exact hun
      · rw [Array.setIfInBounds_comm _ _ e]; exact h2.2.2

/-- The walk's own judgement. -/
def walkT (P : Program) (md : Region.Mode) (ops : Array Oper) (Q : Exit → Act → World → Prop) (S : World → Prop) (n : Nat) (L : Array Bool → Act → World → Prop) (f : Nat) (s : Array Bool) (a : Act) (w : World) : Prop :=
  HeadInv md ops n s → headH P md ops Q S n L f s a w
/-- The checks on the region. -/
def tailOk (md : Region.Mode) (ops : Array Oper) (n : Nat) : Bool := Region.noSelect ops && decide (n < ops.size) && Region.sinkB md ops n && Region.chainB md ops n
/-- What stands behind the head: the rest in its one order. -/
def tailL (P : Program) (ops : Array Oper) (Q : Exit → Act → World → Prop) (n : Nat) (l : List Oper) (s : Array Bool) (a : Act) (w : World) : Prop :=
  Region.seqB .any ops l.length n s = true ∧ wpList P ops Q l a w

/-- Take number i first. -/
theorem walkT_take {i : Nat} {l : List Oper} {oi : Oper} {v : Value} {f : Nat} {s : Array Bool} {a : Act} {w : World} (hi : ops[i]? = some oi) (hok : tailOk .any ops n = true) (hin : i < n) (hf : Region.free .any ops s i = true)
    (hr : (Region.ready .any ops s).contains i = true) (hQ : ∀ c a w, Q (.panic c) (a.put oi.dst v) w → Q (.panic c) a w) (hy : YieldsIf P ops S oi v a) (hS : S w)
    (h : walkT P .any ops Q S n (tailL P ops Q n l) f (s.setIfInBounds i true) (a.put oi.dst v) w) : walkT P .any ops Q S n (tailL P ops Q n l) (f + 1) s a w := fun inv => by
  simp only [tailOk, Bool.and_eq_true, decide_eq_true_eq] at hok
  obtain ⟨⟨⟨hsel, hn⟩, hs⟩, hc⟩ := hok
  have hr' : i ∈ Region.ready .any ops s := by simpa using hr
  exact headH_first hi (Region.noSelect_spec hsel) hQ hs hc hn hin (fun s' a' w' hL => seqB_ready hL.1) f s a w inv (Region.free_spec hi hf) hr' hy hS (h (inv.set hr' hin))

/-- Each of the operations 'rs' comes up next. -/
def AllT (P : Program) (md : Region.Mode) (ops : Array Oper) (Q : Exit → Act → World → Prop) (S : World → Prop) (n : Nat) (L : Array Bool → Act → World → Prop) (f : Nat) (s : Array Bool) (a : Act) (w : World) (rs : List Nat) : Prop :=
  ∀ i ∈ rs, wpOp P ops Q i (fun a' w' => S w' ∧ walkT P md ops Q S n L f (s.setIfInBounds i true) a' w') a w
theorem AllT.nil {f : Nat} {s : Array Bool} {a : Act} {w : World} : AllT P md ops Q S n L f s a w [] := fun _ h => by cases h
theorem AllT.cons {f : Nat} {s : Array Bool} {a : Act} {w : World} {i : Nat} {o : Oper} {rs : List Nat} (ho : ops[i]? = some o)
    (h : ∀ K' : Act → World → Prop, Shut (∀ a w, S w → (S w → walkT P md ops Q S n L f (s.setIfInBounds i true) a w) → K' a w) → if Region.wanted o (yielded ops a.tmps) = true then Oper.wp P o a w K' Q else K' (a.put o.dst undef) w)
    (hs : AllT P md ops Q S n L f s a w rs) : AllT P md ops Q S n L f s a w (i :: rs) := fun j hj => by
  rcases List.mem_cons.1 hj with rfl | hj
  · exact wpOp_step ho (fun K' hK => h K' (fun a w hS hW => hK a w ⟨hS, hW hS⟩))
  · exact hs j hj
theorem walkT_ready {rs : List Nat} {f : Nat} {s : Array Bool} {a : Act} {w : World} (hr : Region.ready md ops s = rs) (hne : rs ≠ []) (hlt : rs.all (fun i => decide (i < n)) = true)
    (h : AllT P md ops Q S n L f s a w rs) : walkT P md ops Q S n L (f + 1) s a w := fun inv =>
  ⟨by rw [hr]; exact hne, fun i hi => by
    have hin : i < n := by simpa using List.all_eq_true.1 hlt i (hr ▸ hi)
    exact ⟨hin, wpOp_mono (fun a' w' h' => ⟨h'.1, h'.2 (inv.set hi hin)⟩) (h i (hr ▸ hi))⟩⟩
/-- The head is done. -/
theorem walkT_done {l : List Oper} {s : Array Bool} {a : Act} {w : World} (hs : Region.seqB .any ops l.length n s = true) (h : wpList P ops Q l a w) : walkT P .any ops Q S n (tailL P ops Q n l) 0 s a w := fun _ => ⟨hs, h⟩
end

/-- The beginning. -/
theorem wp_region_tail {P : Program} {S : World → Prop} {id : Nat} {Q : Exit → Act → World → Prop} {a : Act} {w : World} {l : List Oper} (n : Nat) (hm : P.follows .mixedOrders = true) (hok : tailOk .any l.toArray n = true) (hS : S w.drew)
    (h : S w.drew → walkT P .any l.toArray Q S n (tailL P l.toArray Q n (l.drop n)) n (Array.replicate l.toArray.size false) a w.drew) : (Code.region id l.toArray true).wp P Q a w := by
  have hn : n < l.length := by simp only [tailOk, Bool.and_eq_true, decide_eq_true_eq] at hok; simpa using hok.1.1.2
  have inv0 : HeadInv .any l.toArray n (Array.replicate l.toArray.size false) :=
    ⟨by simp, fun j oj _ hl => (by rw [getD_replicate_false] at hl; cases hl), fun t _ ht => getD_in (by simpa using ht) (getD_replicate_false _ _)⟩
  have hdl : (l.drop n).length = l.toArray.size - n := by simp
  refine wp_region_any hm ?_
  have H2 := any_of_headH (Q := Q) (g := l.toArray.size - n) (fun s a' w' hL => by
    have := wpAny_of_seq (md := .any) (Q' := Q) (l.drop n) n s a' w' (fun j => by simp [List.getElem?_drop]) hL.1 hL.2
    rwa [hdl] at this) _ _ _ _ (h hS inv0)
  rw [show n + (l.toArray.size - n) = l.toArray.size by simp; omega] at H2
  exact H2
/-- The same beginnings with the number of operations and the list of what has come up written out. -/
theorem wp_region_held_lit {P : Program} {S : World → Prop} {id : Nat} {Q : Exit → Act → World → Prop} {a : Act} {w : World} {l : List Oper} (N : Nat) (s0 : List Bool) (hN : l.length = N) (hs : Array.replicate l.toArray.size false = s0.toArray)
    (hm : P.follows .mixedOrders = true) (hS : S w.drew) (h : S w.drew → wpAnyH P .any l.toArray Q S N s0.toArray a w.drew) : (Code.region id l.toArray true).wp P Q a w := by
  subst hN
  refine wp_region_held_drew (S := S) hm hS fun hS' => ?_
  rw [hs]
  exact h hS'
theorem wp_region_tail_lit {P : Program} {S : World → Prop} {id : Nat} {Q : Exit → Act → World → Prop} {a : Act} {w : World} {l : List Oper} (n : Nat) (s0 : List Bool) (hs : Array.replicate l.toArray.size false = s0.toArray)
    (hm : P.follows .mixedOrders = true) (hok : tailOk .any l.toArray n = true) (hS : S w.drew)
    (h : S w.drew → walkT P .any l.toArray Q S n (tailL P l.toArray Q n (l.drop n)) n s0.toArray a w.drew) : (Code.region id l.toArray true).wp P Q a w := by
  refine wp_region_tail (S := S) n hm hok hS fun hS' => ?_
  rw [hs]
  exact h hS'
end Go.Proofs.Ytkhopkonddgicaa

/- A region that draws its order: as HTail, but the operations of the tail may come up in whatever order among themselves, once the head is done. No program in sight. -/
namespace Go.Proofs.Ytkhopkonddgicaa

section
variable {P : Program} {ops : Array Oper} {Q : Exit → Act → World → Prop} {md : Region.Mode} {S : World → Prop} {n : Nat} {L : Array Bool → Act → World → Prop}

/-- Each operation behind number n waits for one of the tail that stands ahead of it. -/
def chainW (md : Region.Mode) (ops : Array Oper) (n : Nat) : Bool :=
  (List.range ops.size).all fun t => decide (t ≤ n) || (List.range t).any fun k => decide (n ≤ k) && Region.waitsFor md ops t k

theorem tail_waitsW {listed : Array Bool} (hs : Region.sinkB md ops n = true) (hc : chainW md ops n = true) (hn : n < ops.size) (inv : HeadInv md ops n listed) :
    ∀ (d i : Nat), n - i = d → i < n → listed.getD i true = false → ∀ t, n ≤ t → t ∉ Region.ready md ops listed := by
  intro d
  induction d using Nat.strongRecOn with
  | _ d ih =>
    intro i hd hi hun t ht hr
    obtain ⟨_, ot, hot, hall⟩ := mem_ready.1 hr
    have htlt : t < ops.size := (Array.getElem?_eq_some_iff.1 hot).1
    by_cases htn : t = n
    · subst htn
      have h1 := List.all_eq_true.1 hs i (List.mem_range.2 hi)
      obtain ⟨j, hj, hj2⟩ := List.any_eq_true.1 h1
      simp only [Bool.and_eq_true, decide_eq_true_eq] at hj2
      obtain ⟨oj, hoj, e, he, hb, hon⟩ := Region.waitsFor_spec hj2.2
      have hjle : j ≤ t := by have := List.mem_range.1 hj; omega
      by_cases hjt : j = t
      · subst hjt
        have : oj = ot := Option.some.inj (hoj.symm.trans hot)
        subst this
        have h2 := hall e he hb
        rw [hon, getD_both hun] at h2
        cases h2
      · cases hl : listed.getD j false with
        | true =>
          have h2 := inv.closed j oj hoj hl e he hb
          rw [hon, getD_both hun] at h2
          cases h2
        | false =>
          have hjs : j < listed.size := by rw [inv.size]; omega
          exact ih (t - j) (by omega) j rfl (by omega) (getD_in hjs hl) t (Nat.le_refl _) hr
    · have h1 := List.all_eq_true.1 hc t (List.mem_range.2 htlt)
      simp only [Bool.or_eq_true, decide_eq_true_eq] at h1
      rcases h1 with h1 | h1
      · omega
      · obtain ⟨k, hk, hk2⟩ := List.any_eq_true.1 h1
        simp only [Bool.and_eq_true, decide_eq_true_eq] at hk2
        have hkt := List.mem_range.1 hk
        obtain ⟨o', ho', e, he, hb, hon⟩ := Region.waitsFor_spec hk2.2
        have : o' = ot := Option.some.inj (ho'.symm.trans hot)
        subst this
        have h2 := hall e he hb
        rw [hon, getD_both (inv.tail k hk2.1 (by omega))] at h2
        cases h2

theorem headW_first {i : Nat} {oi : Oper} {v : Value} (hi : ops[i]? = some oi) (hsel : ∀ (j : Nat) (o : Oper) cs b, ops[j]? = some o → o.op ≠ .select cs b)
    (hQ : ∀ c a w, Q (.panic c) (a.put oi.dst v) w → Q (.panic c) a w)
    (hs : Region.sinkB md ops n = true) (hc : chainW md ops n = true) (hn : n < ops.size) (hin : i < n) (hL : ∀ s a w, L s a w → ∀ j ∈ Region.ready md ops s, n ≤ j) (f : Nat) :
    ∀ (s : Array Bool) (a : Act) (w : World), HeadInv md ops n s →
      (∀ j oj, ops[j]? = some oj → j ≠ i → s.getD j true = false → (∀ e ∈ oj.after, Region.binds md e = true → e.on ≠ i) → oi.apart ops oj = true) →
      i ∈ Region.ready md ops s → YieldsIf P ops S oi v a → S w → headH P md ops Q S n L f (s.setIfInBounds i true) (a.put oi.dst v) w → headH P md ops Q S n L (f + 1) s a w := by
  induction f with
  | zero =>
    intro s a w inv _ hr hy hS H
    refine ⟨List.ne_nil_of_mem hr, fun j hj => ?_⟩
    have hjn : j < n := Nat.lt_of_not_le fun h => tail_waitsW hs hc hn inv _ i rfl hin (mem_ready.1 hr).1 j h hj
    refine ⟨hjn, ?_⟩
    by_cases e : j = i
    · subst e; exact hy.wpOp hi hS ⟨hS, H⟩
    · exact absurd (hL _ _ _ H j (ready_mono hj e)) (by omega)
  | succ f ih =>
    intro s a w inv hfree hr hy hS H
    refine ⟨List.ne_nil_of_mem hr, fun j hj => ?_⟩
    have hjn : j < n := Nat.lt_of_not_le fun h => tail_waitsW hs hc hn inv _ i rfl hin (mem_ready.1 hr).1 j h hj
    refine ⟨hjn, ?_⟩
    by_cases e : j = i
    · subst e; exact hy.wpOp hi hS ⟨hS, H⟩
    · obtain ⟨hjs, oj, hoj, hall⟩ := mem_ready.1 hj
      have hno : ∀ e ∈ oj.after, Region.binds md e = true → e.on ≠ i := by
        intro x hx hb hxi
        have := hall x hx hb
        rw [hxi, getD_both (mem_ready.1 hr).1] at this; cases this
      have h1 := wpOp_putIf hoj (hfree j oj hoj e hjs hno) (fun cs b => hsel i oi cs b hi) (fun cs b => hsel j oj cs b hoj) hQ hy (H.2 j (ready_mono hj e)).2
      refine wpOp_mono (fun a' w' h2 => ⟨h2.2.1, ih (s.setIfInBounds j true) a' w' (inv.set hj hjn) (fun k ok hk hki hun hw => hfree k ok hk hki ?_ hw) (ready_mono hr (Ne.symm e)) h2.1 h2.2.1 ?_⟩) h1
      · by_cases hjk : j = k
        · subst hjk; exact hjs
        · rw [getD_set_ne true hjk] at hun; exact hun
      · rw [Array.setIfInBounds_comm _ _ e]; exact h2.2.2

/-- The checks on the region. -/
def tailOkW (md : Region.Mode) (ops : Array Oper) (n : Nat) : Bool := Region.noSelect ops && decide (n < ops.size) && Region.sinkB md ops n && chainW md ops n
/-- What stands behind the head: the rest, in whatever order. -/
def tailW (P : Program) (ops : Array Oper) (Q : Exit → Act → World → Prop) (n : Nat) (s : Array Bool) (a : Act) (w : World) : Prop :=
  (Region.ready .any ops s).all (fun j => decide (n ≤ j)) = true ∧ wpAnyH P .any ops Q (fun _ => True) (ops.size - n) s a w

/-- Take number i first. -/
theorem walkW_take {i : Nat} {oi : Oper} {v : Value} {f : Nat} {s : Array Bool} {a : Act} {w : World} (hi : ops[i]? = some oi) (hok : tailOkW .any ops n = true) (hin : i < n) (hf : Region.free .any ops s i = true)
    (hr : (Region.ready .any ops s).contains i = true) (hQ : ∀ c a w, Q (.panic c) (a.put oi.dst v) w → Q (.panic c) a w) (hy : YieldsIf P ops S oi v a) (hS : S w)
    (h : walkT P .any ops Q S n (tailW P ops Q n) f (s.setIfInBounds i true) (a.put oi.dst v) w) : walkT P .any ops Q S n (tailW P ops Q n) (f + 1) s a w := fun inv => by
  simp only [tailOkW, Bool.and_eq_true, decide_eq_true_eq] at hok
  obtain ⟨⟨⟨hsel, hn⟩, hs⟩, hc⟩ := hok
  have hr' : i ∈ Region.ready .any ops s := by simpa using hr
  exact headW_first hi (Region.noSelect_spec hsel) hQ hs hc hn hin (fun s' a' w' hL j hj => by simpa using List.all_eq_true.1 hL.1 j hj) f s a w inv (Region.free_spec hi hf) hr' hy hS (h (inv.set hr' hin))
/-- The head is done. -/
theorem walkW_done {s : Array Bool} {a : Act} {w : World} (hs : (Region.ready .any ops s).all (fun j => decide (n ≤ j)) = true) (h : (fun _ => True : World → Prop) w → wpAnyH P .any ops Q (fun _ => True) (ops.size - n) s a w) : walkT P .any ops Q S n (tailW P ops Q n) 0 s a w := fun _ => ⟨hs, h trivial⟩
end

/-- The beginning. -/
theorem wp_region_tailW {P : Program} {S : World → Prop} {id : Nat} {Q : Exit → Act → World → Prop} {a : Act} {w : World} {l : List Oper} (n : Nat) (hm : P.follows .mixedOrders = true) (hok : tailOkW .any l.toArray n = true) (hS : S w.drew)
    (h : S w.drew → walkT P .any l.toArray Q S n (tailW P l.toArray Q n) n (Array.replicate l.toArray.size false) a w.drew) : (Code.region id l.toArray true).wp P Q a w := by
  have hn : n < l.length := by simp only [tailOkW, Bool.and_eq_true, decide_eq_true_eq] at hok; simpa using hok.1.1.2
  have inv0 : HeadInv .any l.toArray n (Array.replicate l.toArray.size false) :=
    ⟨by simp, fun j oj _ hl => (by rw [getD_replicate_false] at hl; cases hl), fun t _ ht => getD_in (by simpa using ht) (getD_replicate_false _ _)⟩
  refine wp_region_any hm ?_
  have H2 := any_of_headH (Q := Q) (g := l.toArray.size - n) (fun s a' w' hL => wpAny_of_held _ _ _ _ hL.2) _ _ _ _ (h hS inv0)
  rw [show n + (l.toArray.size - n) = l.toArray.size by simp; omega] at H2
  exact H2
end Go.Proofs.Ytkhopkonddgicaa

/- Contracts: gates in memory; valid ones. -/
namespace Go.Proofs.Ytkhopkonddgicaa
open Go.RowKit

/-- A gate in memory: three cells. -/
def gtEnc (g : Gt) : List Value := [.int .i64 g.k, .int .i64 g.a, .int .i64 g.b]
def gtOk (g : Gt) : Prop := I64 g.k ∧ I64 g.a ∧ I64 g.b
abbrev gtV (g : Gt) : Value := .agg #[.int .i64 g.k, .int .i64 g.a, .int .i64 g.b]
/-- The gates of a slice can be read. -/
structure GtAt (w : World) (A : Option Addr) (gs : List Gt) : Prop where
  at_ : ∀ j (hj : j < gs.length), ∃ b off, A = some ⟨b, off, none⟩ ∧ w.cell? ⟨b, off + j * 3, none⟩ = some (.int .i64 gs[j].k) ∧ w.cell? ⟨b, off + j * 3 + 1, none⟩ = some (.int .i64 gs[j].a) ∧ w.cell? ⟨b, off + j * 3 + 2, none⟩ = some (.int .i64 gs[j].b)
  ok : ∀ x ∈ gs, gtOk x
theorem GtAt.grow {w w' : World} {A : Option Addr} {gs : List Gt} (h : GtAt w A gs) (hb : Below w.heap.size w w') : GtAt w' A gs := by
  refine ⟨fun j hj => ?_, h.ok⟩
  obtain ⟨b, off, e, h1, h2, h3⟩ := h.at_ j hj
  exact ⟨b, off, e, (hb.cell (World.block_lt_of_cell? _ _ h1)).trans h1, (hb.cell (World.block_lt_of_cell? _ _ h2)).trans h2, (hb.cell (World.block_lt_of_cell? _ _ h3)).trans h3⟩
/-- The first gates of a slice. -/
theorem GtAt.take {w : World} {A : Option Addr} {gs : List Gt} (h : GtAt w A gs) (n : Nat) : GtAt w A (gs.take n) := by
  refine ⟨fun j hj => ?_, fun x hx => h.ok x (List.mem_of_mem_take hx)⟩
  rw [List.length_take] at hj
  obtain ⟨b, off, e, h1, h2, h3⟩ := h.at_ j (by omega)
  rw [List.getElem_take]
  exact ⟨b, off, e, h1, h2, h3⟩
/-- An own row of gates can be read. -/
theorem gt_own {w : World} {B : Nat} {e : TypeId} {v : Value} {gs : List Gt} (h : w.ownsRow B e 3 v gs.length (gs.flatMap gtEnc)) (hok : ∀ x ∈ gs, gtOk x) : ∃ A c, v = .slice A gs.length c ∧ GtAt w A gs := by
  obtain ⟨_, ⟨rfl, h0⟩ | ⟨g, cap, cur, rfl, _, hh, _, _, hs, ht⟩⟩ := h
  · exact ⟨none, 0, by rw [h0], fun j hj => absurd hj (by omega), hok⟩
  · refine ⟨_, cap, rfl, fun j hj => ⟨g, 0, rfl, ?_⟩, hok⟩
    have key : ∀ i u, i < 3 → (gtEnc gs[j])[i]? = some u → w.cell? ⟨g, j * 3 + i, none⟩ = some u := fun i u hi hu => by
      have := Nat.mul_le_mul_right 3 (show j + 1 ≤ gs.length by omega)
      rw [hown_cell hh ht (by omega), flat_get (enc := gtEnc) (n := 3) (fun _ => rfl) gs j hj i hi, hu]
    refine ⟨?_, ?_, ?_⟩
    · have := key 0 _ (by decide) rfl; rw [Nat.zero_add]; exact this
    · have := key 1 _ (by decide) rfl; rw [Nat.zero_add]; exact this
    · have := key 2 _ (by decide) rfl; rw [Nat.zero_add]; exact this
theorem gt_small {vars : Int} {gs : List Gt} (h : OkG vars gs) (hv : vars ≤ 1000) (hl : gs.length ≤ 1000000) : ∀ x ∈ gs, gtOk x := by
  intro x hx
  obtain ⟨i, hi, rfl⟩ := List.getElem_of_mem hx
  have h1 := gtB_iff.1 (h i hi)
  unfold gtOk I64
  omega

theorem withinG {x a b : Int} {q : Bool} (h : inB x a b = q) (w : World) : Calls Try.prog 46 #[.int .i64 x, .int .i64 a, .int .i64 b] w fun e w' => e = .returned (.bool q) ∧ Below w.heap.size w w' :=
  (within_any x a b w).mono fun e w' ⟨h1, h2⟩ => ⟨by rw [h1, h], h2 ▸ bb _⟩
theorem isVarG {n x : Int} {q : Bool} (h : inB x 1 n = q) (w : World) : Calls Try.prog 75 #[.int .i64 n, .int .i64 x] w fun e w' => e = .returned (.bool q) ∧ Below w.heap.size w w' := by
  subst h
  go_enter Try.func75, Try.ntmps75
  go_wp2_with (go_at_call 46; refine (within_any _ _ _ _).mono ?_; rintro e w1 ⟨rfl, rfl⟩)
  go_ret
  exact ⟨rfl, bb _⟩
theorem varsOkG {v : Int} {q : Bool} (h : inB v 0 12 = q) (w : World) : Calls Try.prog 60 #[.int .i64 v] w fun e w' => e = .returned (.bool q) ∧ Below w.heap.size w w' :=
  (varsOk_any v w).mono fun e w' ⟨h1, h2⟩ => ⟨by rw [h1, h], h2 ▸ bb _⟩

theorem gtB_1 (vars a b : Int) (i : Nat) : gtB vars i ⟨1, a, b⟩ = (inB a 1 vars && decide (b = 0)) := rfl
theorem gtB_2 (vars a b : Int) (i : Nat) : gtB vars i ⟨2, a, b⟩ = (decide (a = 0) && decide (b = 0)) := rfl
theorem gtB_3 (vars a b : Int) (i : Nat) : gtB vars i ⟨3, a, b⟩ = (decide (a = 0) && decide (b = 0)) := rfl
theorem gtB_4 (vars a b : Int) (i : Nat) : gtB vars i ⟨4, a, b⟩ = (inB a 0 ((i : Int) - 1) && decide (b = 0)) := rfl
theorem gtB_5 (vars a b : Int) (i : Nat) : gtB vars i ⟨5, a, b⟩ = (inB a 0 ((i : Int) - 1) && inB b 0 ((i : Int) - 1)) := rfl
theorem gtB_6 (vars a b : Int) (i : Nat) : gtB vars i ⟨6, a, b⟩ = (inB a 0 ((i : Int) - 1) && inB b 0 ((i : Int) - 1)) := rfl
theorem gtB_no {vars k a b : Int} {i : Nat} (h1 : k ≠ 1) (h2 : k ≠ 2) (h3 : k ≠ 3) (h4 : k ≠ 4) (h5 : k ≠ 5) (h6 : k ≠ 6) : gtB vars i ⟨k, a, b⟩ = false := by
  unfold gtB; simp [h1, h2, h3, h4, h5, h6]

set_option maxRecDepth 100000 in
set_option maxHeartbeats 8000000 in
theorem gateOk_any (vars : Int) (i : Nat) (g : Gt) (hi : i ≤ 1000000) (w : World) : Calls Try.prog 59 #[.int .i64 vars, .int .i64 i, gtV g] w fun e w' => e = .returned (.bool (gtB vars i g)) ∧ Below w.heap.size w w' := by
  obtain ⟨k, a, b⟩ := g
  have hB := bal (bb w) (.cells #[.int .i64 k, .int .i64 a, .int .i64 b] 41)
  have hw : IntKind.i64.wrap ((i : Int) - 1) = (i : Int) - 1 := IntWalk.i64_in _ (by omega)
  replace hB := Lib.hid hB
  by_cases h1 : k = 1
  · subst h1
    rw [gtB_1]
    obtain ⟨q, hq⟩ : ∃ q, inB a 1 vars = q := ⟨_, rfl⟩
    rw [hq]
    have hc := Lib.hid (fun W => isVarG hq W)
    cases q <;> by_cases hb : b = 0
    all_goals
      have k2 := Lib.hid (((Sp.start w).alloc_box #[.int .i64 1, .int .i64 a, .int .i64 b] 41).cell (i := 0) rfl (o := 2) rfl)
      first | subst hb | skip
      go_enter Try.func59, Try.ntmps59
      go_wp2_with fail
      refine (hc.out _).mono ?_
      rintro e w1 ⟨rfl, hb1⟩
      have hB2 := btr hB.out hb1
      have k3 := (bcell hb1).1 _ 2 (World.block_lt_of_cell? _ _ k2.out) ▸ k2.out
      clear k2
      go_wp2_with fail
      go_ret
      exact ⟨by first | rfl | simp [hb], hB2⟩
  by_cases h2 : k = 2
  · subst h2
    rw [gtB_2]
    by_cases ha : a = 0 <;> by_cases hb : b = 0
    all_goals
      first | subst ha | skip
      first | subst hb | skip
      go_enter Try.func59, Try.ntmps59
      go_wp2_with fail
      go_ret
      exact ⟨by first | rfl | simp [ha] | simp [hb] | simp [ha, hb], hB.out⟩
  by_cases h3 : k = 3
  · subst h3
    rw [gtB_3]
    by_cases ha : a = 0 <;> by_cases hb : b = 0
    all_goals
      first | subst ha | skip
      first | subst hb | skip
      go_enter Try.func59, Try.ntmps59
      go_wp2_with fail
      go_ret
      exact ⟨by first | rfl | simp [ha] | simp [hb] | simp [ha, hb], hB.out⟩
  by_cases h4 : k = 4
  · subst h4
    rw [gtB_4]
    obtain ⟨q, hq⟩ : ∃ q, inB a 0 ((i : Int) - 1) = q := ⟨_, rfl⟩
    rw [hq]
    have hc := Lib.hid (fun W => withinG hq W)
    cases q <;> by_cases hb : b = 0
    all_goals
      have k2 := Lib.hid (((Sp.start w).alloc_box #[.int .i64 4, .int .i64 a, .int .i64 b] 41).cell (i := 0) rfl (o := 2) rfl)
      first | subst hb | skip
      go_enter Try.func59, Try.ntmps59
      go_wp2_with fail
      refine (hc.out _).mono ?_
      rintro e w1 ⟨rfl, hb1⟩
      have hB2 := btr hB.out hb1
      have k3 := (bcell hb1).1 _ 2 (World.block_lt_of_cell? _ _ k2.out) ▸ k2.out
      clear k2
      go_wp2_with fail
      go_ret
      exact ⟨by first | rfl | simp [hb], hB2⟩
  by_cases h5 : k = 5 ∨ k = 6
  · have hg : gtB vars i ⟨k, a, b⟩ = (inB a 0 ((i : Int) - 1) && inB b 0 ((i : Int) - 1)) := by
      rcases h5 with rfl | rfl
      · rfl
      · rfl
    rw [hg]
    obtain ⟨q, hq⟩ : ∃ q, inB a 0 ((i : Int) - 1) = q := ⟨_, rfl⟩
    obtain ⟨q2, hq2⟩ : ∃ q, inB b 0 ((i : Int) - 1) = q := ⟨_, rfl⟩
    rw [hq, hq2]
    have hc := Lib.hid (fun W => withinG hq W)
    have hc2 := Lib.hid (fun W => withinG hq2 W)
    have k2 := Lib.hid (((Sp.start w).alloc_box #[.int .i64 k, .int .i64 a, .int .i64 b] 41).cell (i := 0) rfl (o := 2) rfl)
    clear hg hq hq2
    rcases h5 with rfl | rfl
    all_goals
      cases q
      · go_enter Try.func59, Try.ntmps59
        go_wp2_with fail
        refine (hc.out _).mono ?_
        rintro e w1 ⟨rfl, hb1⟩
        have hB2 := btr hB.out hb1
        go_wp2_with fail
        go_ret
        exact ⟨rfl, hB2⟩
      · go_enter Try.func59, Try.ntmps59
        go_wp2_with fail
        refine (hc.out _).mono ?_
        rintro e w1 ⟨rfl, hb1⟩
        have hB2 := btr hB.out hb1
        have k3 := (bcell hb1).1 _ 2 (World.block_lt_of_cell? _ _ k2.out) ▸ k2.out
        clear k2
        go_wp2_with fail
        refine (hc2.out _).mono ?_
        rintro e w2 ⟨rfl, hb2⟩
        have hB3 := btr hB2 hb2
        go_wp2_with fail
        go_ret
        exact ⟨rfl, hB3⟩
  · have h5' : k ≠ 5 := fun e => h5 (.inl e)
    have h6' : k ≠ 6 := fun e => h5 (.inr e)
    rw [gtB_no h1 h2 h3 h4 h5' h6']
    clear h5
    go_enter Try.func59, Try.ntmps59
    go_wp2_with fail
    go_ret
    exact ⟨rfl, hB.out⟩
end Go.Proofs.Ytkhopkonddgicaa

/- Contracts: valid circuits, the values of a circuit. -/
namespace Go.Proofs.Ytkhopkonddgicaa
open Go.RowKit

theorem bit_endG (b : Nat) (hb : b < 2 ^ 62) (v : Int) (hv : 1 ≤ v) : bits .and .i64 ((b : Int) / 2 ^ min (v.toNat - 1) 64) 1 = if bitG b v then 1 else 0 := by
  have e0 : (b : Int) / 2 ^ min (v.toNat - 1) 64 = ((b / 2 ^ min (v.toNat - 1) 64 : Nat) : Int) := by
    rw [Int.natCast_ediv, Int.natCast_pow]; rfl
  rw [e0, and_one _ (Nat.lt_of_le_of_lt (Nat.div_le_self _ _) (Nat.lt_trans hb (by decide)))]
  have h64 : ∀ s, 64 ≤ s → b.testBit s = false := fun s hs => Nat.testBit_lt_two_pow (Nat.lt_of_lt_of_le hb (Nat.pow_le_pow_right (by decide) (by omega)))
  have e : bitG b v = b.testBit (min (v.toNat - 1) 64) := by
    unfold bitG
    rw [show (v - 1).toNat = v.toNat - 1 by omega]
    rcases Nat.lt_or_ge (v.toNat - 1) 64 with h | h
    · rw [Nat.min_eq_left (by omega)]
    · rw [h64 _ h, h64 _ (by omega)]
  rw [e, Nat.testBit_eq_decide_div_mod_eq]
  rcases Nat.mod_two_eq_zero_or_one (b / 2 ^ min (v.toNat - 1) 64) with h | h
  · rw [h]; simp
  · rw [h]; simp

set_option maxRecDepth 100000 in
set_option maxHeartbeats 8000000 in
theorem isCircuit_any (vars : Int) (A : Option Addr) (c : Nat) (gs : List Gt) (w : World) (hx : GtAt w A gs) (hl : gs.length ≤ 1000000) :
    Calls Try.prog 21 #[.int .i64 vars, .slice A gs.length c] w fun e w' => e = .returned (.bool (circB vars gs)) ∧ Below w.heap.size w w' := by
  have hN := Lib.hid hx
  have hz : Hid (gsB vars gs 0 = true) := rfl
  clear hx
  go_enter Try.func21, Try.ntmps21
  go_wp2_with fail
  go_loopw [9] (fun i wr => ∃ k : Nat, k ≤ gs.length ∧ i = .int .i64 k ∧ Hid (gsB vars gs k = true) ∧ Hid (Below w.heap.size w wr)) (fun i _ => gs.length - (intOf i).toNat)
  case atStart => exact ⟨0, Nat.zero_le _, rfl, hz, bb _⟩
  case round =>
    obtain ⟨k, hk, rfl, HD, HB⟩ := hrel
    by_cases hlt : k < gs.length
    · obtain ⟨b, off, rfl, m0, m1, m2⟩ := (hN.out.grow HB.out).at_ k hlt
      have hsu := gsB_succ vars gs k
      rw [HD.out, List.getD_eq_getElem?_getD, List.getElem?_eq_getElem hlt] at hsu
      have hall : Hid (gtB vars k gs[k] = false → circB vars gs = false) := by
        intro h
        unfold circB
        have : gsB vars gs gs.length = false := by
          cases h2 : gsB vars gs gs.length
          · rfl
          · have := gsB_ok.1 h2 k hlt
            rw [h] at this; exact absurd this (by decide)
        rw [this]; rfl
      have hb2 : b < wr.heap.size := World.block_lt_of_cell? _ _ m0
      have hcall := Lib.hid (gateOk_any vars k gs[k] (by omega))
      dsimp only [Option.getD_some] at hsu
      generalize gs[k] = g at *
      obtain ⟨gk, ga, gb⟩ := g
      dsimp only at *
      have HB2 := Lib.hid (bal HB.out (.cells #[.int .i64 gk, .int .i64 ga, .int .i64 gb] 41))
      clear HB HD
      obtain ⟨q, hq⟩ : ∃ q, gtB vars k ⟨gk, ga, gb⟩ = q := ⟨_, rfl⟩
      rw [hq] at hcall hall hsu
      clear hq
      replace hsu := Lib.hid hsu
      go_wp2_with fail
      refine (hcall.out _).mono ?_
      rintro e w1 ⟨rfl, hb1⟩
      have HB3 := Lib.hid (btr HB2.out hb1)
      clear HB2 hb1 m0 m1 m2 hcall
      cases q
      · have hno := Lib.hid (hall.out rfl)
        clear hall
        go_wp2_with fail
        go_ret
        exact ⟨ret_bool hno.out.symm, HB3.out⟩
      · have hyes : Hid (gsB vars gs (k + 1) = true) := by unfold Hid; rw [hsu.out]; rfl
        clear hall
        go_wp2_with fail
        go_roundw
        case rel => exact ⟨k + 1, by omega, by go_num, hyes, HB3⟩
        case measure => simp [intOf]; omega
    · obtain rfl : k = gs.length := by omega
      have hR : Hid (circB vars gs = (inB vars 0 12 && inB gs.length 1 200)) := by unfold Hid circB; rw [HD.out]; rfl
      obtain ⟨q, hq⟩ : ∃ q, inB vars 0 12 = q := ⟨_, rfl⟩
      obtain ⟨q2, hq2⟩ : ∃ q, inB (gs.length : Int) 1 200 = q := ⟨_, rfl⟩
      rw [hq, hq2] at hR
      have hc := Lib.hid (fun W => varsOkG hq W)
      have hc2 := Lib.hid (fun W => withinG hq2 W)
      clear hq hq2 HD
      cases q
      · go_wp2_with fail
        refine (hc.out _).mono ?_
        rintro e w1 ⟨rfl, hb1⟩
        have HB3 := Lib.hid (btr HB.out hb1)
        go_wp2_with fail
        go_ret
        exact ⟨ret_bool hR.out.symm, HB3.out⟩
      · go_wp2_with fail
        refine (hc.out _).mono ?_
        rintro e w1 ⟨rfl, hb1⟩
        have HB3 := Lib.hid (btr HB.out hb1)
        go_wp2_with fail
        refine (hc2.out _).mono ?_
        rintro e w2 ⟨rfl, hb2⟩
        have HB4 := Lib.hid (btr HB3.out hb2)
        go_wp2_with fail
        go_ret
        exact ⟨ret_bool hR.out.symm, HB4.out⟩

/-- Truth values that fill a block. -/
def boolsA (n : Nat) (f : Nat → Bool) : Array Value := ((List.range n).map fun j => Value.bool (f j)).toArray
theorem boolsA_get {n m : Nat} {f : Nat → Bool} (h : m < n) : (boolsA n f)[m]? = some (.bool (f m)) := by simp [boolsA, h]
theorem boolsA_congr {n : Nat} {f g : Nat → Bool} (h : ∀ j, j < n → f j = g j) : boolsA n f = boolsA n g := by
  unfold boolsA
  congr 1
  exact List.map_congr_left fun j hj => by rw [h j (List.mem_range.1 hj)]
theorem boolsA_set (n m : Nat) (f : Nat → Bool) (x : Bool) : (boolsA n f).setIfInBounds m (.bool x) = boolsA n (fun j => if j = m then x else f j) := by
  unfold boolsA
  rw [List.setIfInBounds_toArray]
  congr 1
  apply List.ext_getElem?
  intro j
  rw [List.getElem?_set]
  by_cases hj : j < n
  · by_cases e : m = j
    · subst e; simp [hj]
    · rw [if_neg e]; simp only [List.getElem?_map, List.getElem?_range hj, Option.map_some]; rw [if_neg (fun h => e h.symm)]
  · by_cases e : m = j
    · subst e; simp [hj]
    · rw [if_neg e]; simp [hj]
theorem boolsA_made (n : Nat) : madeCells #[.bool false] n = boolsA n (fun _ => false) := by
  apply Array.ext'
  rw [toList_madeCells_one]
  unfold boolsA
  apply List.ext_getElem?
  intro j
  by_cases h : j < n
  · simp [h]
  · simp [h]
set_option maxRecDepth 100000 in
theorem mk_bools (k : Nat) (hk : k ≤ 1000000) (x : Int) (hx : x = k) (w : World) :
    (Instr.makeSlice 73 (.int .i64 x) (.int .i64 x)).run Try.prog w = .ok (.slice (some ⟨w.heap.size, 0, none⟩) k k) (w.alloc (.cells (boolsA k fun _ => false) 4)) := by
  obtain ⟨i, hi, h1, h2, h3⟩ : ∃ i, Try.prog.info? 4 = some i ∧ i.zero = some (.bool false) ∧ i.size = 1 ∧ i.bytes = 1 := ⟨_, rfl, by kernel_rfl, by kernel_rfl, by kernel_rfl⟩
  subst hx
  have := run_make w 73 4 i (.bool false) Try.underlying73 hi h1 .i64 .i64 (k : Int) (k : Int) (by omega) (by omega) (by rw [h3]; omega) (by omega)
  rw [h2] at this
  rw [← boolsA_made]
  simpa [Value.cells] using this
end Go.Proofs.Ytkhopkonddgicaa

/- Contracts: the values of a circuit. -/
namespace Go.Proofs.Ytkhopkonddgicaa
open Go.RowKit

/-- The values so far. -/
def upG (bits : Nat) (gs : List Gt) (k j : Nat) : Bool := decide (j < k) && gval bits gs j
theorem upG_lt {bits : Nat} {gs : List Gt} {k j : Nat} (h : j < k) : upG bits gs k j = gval bits gs j := by simp [upG, h]
theorem upG_self (bits : Nat) (gs : List Gt) (k : Nat) : upG bits gs k k = false := by simp [upG]
theorem upG_succ (bits : Nat) (gs : List Gt) (k n : Nat) : boolsA n (fun j => if j = k then gval bits gs k else upG bits gs k j) = boolsA n (upG bits gs (k + 1)) := by
  refine boolsA_congr fun j _ => ?_
  unfold upG
  by_cases e : j = k
  · subst e; simp
  · rw [if_neg e]
    by_cases h : j < k
    · simp [h, Nat.lt_succ_of_lt h]
    · simp [h, show ¬ j < k + 1 by omega]
/-- Nothing is stored: the value is false. -/
theorem upG_skip {bits : Nat} {gs : List Gt} {k n : Nat} (h : gval bits gs k = false) : boolsA n (upG bits gs k) = boolsA n (upG bits gs (k + 1)) := by
  refine boolsA_congr fun j _ => ?_
  unfold upG
  by_cases e : j = k
  · subst e; simp [h]
  · by_cases h : j < k
    · simp [h, Nat.lt_succ_of_lt h]
    · simp [h, show ¬ j < k + 1 by omega]
theorem upG_all (bits : Nat) (gs : List Gt) : boolsA gs.length (upG bits gs gs.length) = boolsA gs.length (gval bits gs) := boolsA_congr fun _ hj => upG_lt hj
theorem upG_zero (bits : Nat) (gs : List Gt) (n : Nat) : boolsA n (fun _ => false) = boolsA n (upG bits gs 0) := boolsA_congr fun j _ => by simp [upG]

set_option maxRecDepth 100000 in
set_option maxHeartbeats 16000000 in
theorem gateValues_any {vars : Int} (bits : Nat) (A : Option Addr) (c : Nat) (gs : List Gt) (w : World) (hx : GtAt w A gs) (hg : OkG vars gs) (hl : gs.length ≤ 1000000) (hb : bits < 2 ^ 62) :
    Calls Try.prog 84 #[.slice A gs.length c, .int .i64 bits] w fun e w' => e = .returned (.slice (some ⟨w.heap.size, 0, none⟩) gs.length gs.length) ∧ Sp w w' [Box w.heap.size 4 (boolsA gs.length (gval bits gs))] := by
  have hmk := fun W => mk_bools gs.length hl (gs.length : Int) rfl W
  have S0 := (Sp.start w).alloc_box (boolsA gs.length fun _ => false) 4
  have hS : ∀ W, Sp w W [Box w.heap.size 4 (boolsA gs.length fun _ => false)] → Sp w W [Box w.heap.size 4 (boolsA gs.length (upG bits gs 0))] := fun W h => by rw [← upG_zero]; exact h
  have S1 := Lib.hid (hS _ S0)
  have hN := Lib.hid hx
  replace hg := Lib.hid hg
  clear hx S0 hS
  obtain ⟨M, hM⟩ : ∃ M, boolsA gs.length (fun _ => false) = M := ⟨_, rfl⟩
  rw [hM] at hmk S1
  clear hM
  go_enter Try.func84, Try.ntmps84
  go_wp2_with fail
  go_loopw [13] (fun i wr => ∃ k : Nat, k ≤ gs.length ∧ i = .int .i64 k ∧ Hid (Sp w wr [Box w.heap.size 4 (boolsA gs.length (upG bits gs k))])) (fun i _ => gs.length - (intOf i).toNat)
  case atStart => exact ⟨0, Nat.zero_le _, rfl, S1⟩
  case round =>
    obtain ⟨k, hk, rfl, HS⟩ := hrel
    clear S1 hmk
    by_cases hlt : k < gs.length
    · obtain ⟨b, off, rfl, m0, m1, m2⟩ := (hN.out.grow HS.out.below).at_ k hlt
      have hb2 : b < wr.heap.size := World.block_lt_of_cell? _ _ m0
      have hok := hg.out k hlt
      have hval := hg.out.val bits hlt
      have hcell : ∀ m, m < gs.length → (boolsA gs.length (upG bits gs k))[m]? = some (.bool (upG bits gs k m)) := fun m hm => boolsA_get hm
      have ho64 := hN.out.ok _ (List.getElem_mem hlt)
      generalize gs[k] = g at *
      obtain ⟨gk, ga, gb⟩ := g
      dsimp only at *
      have HS2 := HS.out.alloc_box #[.int .i64 gk, .int .i64 ga, .int .i64 gb] 41
      have v0 := HS2.frozen (i := 1) rfl k
      have hck := HS2.cell (i := 1) rfl (o := k) (hcell k hlt)
      have hput : ∀ x, gval bits gs k = x → Hid (Sp w ((wr.alloc (.cells #[.int .i64 gk, .int .i64 ga, .int .i64 gb] 41)).setCell ⟨w.heap.size, k, none⟩ (.bool x)) [Box w.heap.size 4 (boolsA gs.length (upG bits gs (k + 1)))]) := fun x hx => by
        subst hx
        have := (HS2.store (i := 1) rfl k (.bool (gval bits gs k))).tail
        rw [boolsA_set, upG_succ] at this
        exact this
      have hskip : gval bits gs k = false → Hid (Sp w (wr.alloc (.cells #[.int .i64 gk, .int .i64 ga, .int .i64 gb] 41)) [Box w.heap.size 4 (boolsA gs.length (upG bits gs (k + 1)))]) := fun hx => by
        have := HS2.tail
        rw [upG_skip hx] at this
        exact this
      replace HS2 := Lib.hid HS2
      replace hput := Lib.hid hput
      replace hskip := Lib.hid hskip
      rw [gtB_iff] at hok
      dsimp only at hok
      clear HS
      rcases hok with ⟨rfl, h1, h2, rfl⟩ | ⟨rfl | rfl, rfl, rfl⟩ | ⟨rfl, h1, h2, rfl⟩ | ⟨rfl | rfl, h1, h2, h3, h4⟩
      · have hand := bit_endG bits hb ga h1
        have hv : gval bits gs k = bitG bits ga := hval
        have hw64 : IntKind.i64.wrap (ga - 1) = ga - 1 := IntWalk.i64_in _ (by have := ho64.2.1; unfold I64 at this; dsimp only at this; omega)
        have hS3 := hput.out _ hv
        cases ht : bitG bits ga
        · rw [ht] at hand hS3
          simp only [Bool.false_eq_true, if_false] at hand
          clear hput hskip hval hv hcell HS2 ht ho64
          go_wp2_with fail
          go_roundw
          case rel => exact ⟨k + 1, by omega, by go_num, hS3⟩
          case measure => simp [intOf]; omega
        · rw [ht] at hand hS3
          simp only [if_true] at hand
          clear hput hskip hval hv hcell HS2 ht ho64
          go_wp2_with fail
          go_roundw
          case rel => exact ⟨k + 1, by omega, by go_num, hS3⟩
          case measure => simp [intOf]; omega
      · have hS3 := hput.out true hval
        clear hput hskip hval hcell HS2 ho64
        go_wp2_with fail
        go_roundw
        case rel => exact ⟨k + 1, by omega, by go_num, hS3⟩
        case measure => simp [intOf]; omega
      · have hS3 := hskip.out hval
        clear hput hskip hval hcell HS2 ho64
        go_wp2_with fail
        go_roundw
        case rel => exact ⟨k + 1, by omega, by go_num, hS3⟩
        case measure => simp [intOf]; omega
      · obtain ⟨a, rfl⟩ : ∃ a : Nat, ga = a := ⟨ga.toNat, by omega⟩
        have hak : a < k := by omega
        have hal : (a : Int) < gs.length := by omega
        have hv : gval bits gs k = !gval bits gs a := hval
        have ca := HS2.out.cell (i := 1) rfl (o := a) (hcell a (by omega))
        rw [upG_lt hak] at ca
        have hS3 := hput.out _ hv
        generalize gval bits gs a = x at *
        clear hput hskip hval hv hcell HS2 ho64
        go_wp2_with fail
        go_roundw
        case rel => exact ⟨k + 1, by omega, by go_num, hS3⟩
        case measure => simp [intOf]; omega
      all_goals
        obtain ⟨a, rfl⟩ : ∃ a : Nat, ga = a := ⟨ga.toNat, by omega⟩
        obtain ⟨b', rfl⟩ : ∃ a : Nat, gb = a := ⟨gb.toNat, by omega⟩
        have hak : a < k := by omega
        have hbk : b' < k := by omega
        have hal : (a : Int) < gs.length := by omega
        have hbl : (b' : Int) < gs.length := by omega
        have ca := HS2.out.cell (i := 1) rfl (o := a) (hcell a (by omega))
        have cb := HS2.out.cell (i := 1) rfl (o := b') (hcell b' (by omega))
        rw [upG_lt hak] at ca
        rw [upG_lt hbk] at cb
        have hS3 := hput.out _ hval
        clear hput hskip hval hcell HS2 ho64
        unfold gv at hS3
        simp only [Int.reduceEq, if_false, if_true, Int.toNat_natCast] at hS3
        generalize gval bits gs a = x at *
        generalize gval bits gs b' = y at *
        cases x
        all_goals
          simp only [Bool.false_and, Bool.true_and, Bool.false_or, Bool.true_or] at hS3
          go_wp2_with fail
          go_roundw
          case rel => exact ⟨k + 1, by omega, by go_num, hS3⟩
          case measure => simp [intOf]; omega
    · obtain rfl : k = gs.length := by omega
      have HS2 : Hid (Sp w wr [Box w.heap.size 4 (boolsA gs.length (gval bits gs))]) := by
        have := HS.out
        rw [upG_all] at this
        exact this
      clear HS
      go_wp2_with fail
      go_ret
      exact ⟨rfl, HS2.out⟩

set_option maxHeartbeats 1000000 in
theorem circuitValue_any {vars : Int} (bits : Nat) (A : Option Addr) (c : Nat) (gs : List Gt) (w : World) (hx : GtAt w A gs) (hg : OkG vars gs) (hl : gs.length ≤ 1000000) (hp : 0 < gs.length) (hb : bits < 2 ^ 62) :
    Calls Try.prog 42 #[.slice A gs.length c, .int .i64 bits] w fun e w' => e = .returned (.bool (cval gs bits)) ∧ Below w.heap.size w w' := by
  have hcall := Lib.hid (gateValues_any bits A c gs w hx hg hl hb)
  clear hx hg
  have hw64 : IntKind.i64.wrap ((gs.length : Int) - 1) = ((gs.length - 1 : Nat) : Int) := by rw [IntWalk.i64_in _ (by omega)]; omega
  have hlt : ((gs.length - 1 : Nat) : Int) < gs.length := by omega
  go_enter Try.func42, Try.ntmps42
  go_wp2_with fail
  refine hcall.out.mono ?_
  rintro e w1 ⟨rfl, S⟩
  have c0 : w1.cell? ⟨w.heap.size, gs.length - 1, none⟩ = some (.bool (cval gs bits)) := S.cell (i := 0) rfl (o := gs.length - 1) (boolsA_get (by omega))
  have hB := S.below
  clear S hcall
  obtain ⟨q, hq⟩ : ∃ q, cval gs bits = q := ⟨_, rfl⟩
  rw [hq] at c0
  replace hq := Lib.hid hq
  go_wp2_with fail
  go_ret
  exact ⟨ret_bool hq.out.symm, hB⟩
end Go.Proofs.Ytkhopkonddgicaa

/- Plain facts: inequalities over bits. No program in sight. -/
namespace Go.Proofs.Ytkhopkonddgicaa

/-- The left side of an inequality up to a place, at bits. -/
def sumK (cs : List Int) (bits : Nat) : Nat → Int
  | 0 => 0
  | k + 1 => sumK cs bits k + (if bits.testBit k then cs.getD k 0 else 0)
def holdsQ (cs : List Int) (b : Int) (bits : Nat) : Bool := decide (b ≤ sumK cs bits cs.length)
def coefB (c : Int) : Bool := inB c (-1000) 1000
def goodQ (vars b : Int) (cs : List Int) : Bool := inB vars 0 12 && decide ((cs.length : Int) = vars) && inB b (-10000) 10000 && cs.all coefB
theorem good_q {vars b : Int} {cs : List Int} (h : goodQ vars b cs = true) : (0 ≤ vars ∧ vars ≤ 12) ∧ (cs.length : Int) = vars ∧ (-10000 ≤ b ∧ b ≤ 10000) ∧ ∀ c ∈ cs, -1000 ≤ c ∧ c ≤ 1000 := by
  unfold goodQ at h
  simp only [Bool.and_eq_true, inB, decide_eq_true_eq, List.all_eq_true, coefB] at h
  obtain ⟨⟨⟨h1, h2⟩, h3⟩, h4⟩ := h
  exact ⟨by simpa using h1, h2, by simpa using h3, fun c hc => by simpa using h4 c hc⟩
theorem getD_bound {cs : List Int} {m : Int} (hm : 0 ≤ m) (h : ∀ c ∈ cs, -m ≤ c ∧ c ≤ m) (k : Nat) : -m ≤ cs.getD k 0 ∧ cs.getD k 0 ≤ m := by
  rw [List.getD_eq_getElem?_getD]
  rcases Nat.lt_or_ge k cs.length with hk | hk
  · rw [List.getElem?_eq_getElem hk]; exact h _ (List.getElem_mem hk)
  · rw [List.getElem?_eq_none hk]; simp; omega
theorem sumK_bound {cs : List Int} {m : Int} (hm : 0 ≤ m) (h : ∀ c ∈ cs, -m ≤ c ∧ c ≤ m) (bits : Nat) : ∀ k : Nat, -(m * k) ≤ sumK cs bits k ∧ sumK cs bits k ≤ m * k
  | 0 => by simp [sumK]
  | k + 1 => by
    have h1 := sumK_bound hm h bits k
    have h2 := getD_bound hm h k
    have e : m * ((k + 1 : Nat) : Int) = m * k + m := by rw [Int.natCast_add, Int.mul_add]; simp
    rw [e]
    simp only [sumK]
    split <;> omega
theorem sumK_add {cs ds es : List Int} (bits : Nat) : ∀ k : Nat, (∀ i, i < k → es.getD i 0 = cs.getD i 0 + ds.getD i 0) → sumK es bits k = sumK cs bits k + sumK ds bits k
  | 0, _ => by simp [sumK]
  | k + 1, h => by
    have h1 := sumK_add bits k (fun i hi => h i (by omega))
    have h2 := h k (by omega)
    simp only [sumK]
    rw [h1]
    split
    · rw [h2]; omega
    · omega
theorem sumK_mul {cs ds : List Int} (m : Int) (bits : Nat) : ∀ k : Nat, (∀ i, i < k → cs.getD i 0 = m * ds.getD i 0) → sumK cs bits k = m * sumK ds bits k
  | 0, _ => by simp [sumK]
  | k + 1, h => by
    have h1 := sumK_mul m bits k (fun i hi => h i (by omega))
    have h2 := h k (by omega)
    simp only [sumK]
    rw [h1, Int.mul_add]
    split
    · rw [h2]
    · simp
theorem sumK_congr {cs ds : List Int} (bits : Nat) (k : Nat) (h : ∀ i, i < k → cs.getD i 0 = ds.getD i 0) : sumK cs bits k = sumK ds bits k := by
  have := sumK_mul (cs := cs) (ds := ds) 1 bits k (fun i hi => by rw [Int.one_mul]; exact h i hi)
  rwa [Int.one_mul] at this

/-- The sum of two. -/
def addQ (cs ds : List Int) : List Int := (List.range cs.length).map fun i => cs.getD i 0 + ds.getD i 0
/-- Some times an inequality. -/
def mulQ (m : Int) (cs : List Int) : List Int := cs.map fun c => m * c
def divQ (m : Int) (cs : List Int) : List Int := cs.map fun c => c.tdiv m
theorem getD_map0 (cs : List Int) (f : Int → Int) (hf : f 0 = 0) (i : Nat) : (cs.map f).getD i 0 = f (cs.getD i 0) := by
  rw [List.getD_eq_getElem?_getD, List.getD_eq_getElem?_getD, List.getElem?_map]
  cases cs[i]? <;> simp [hf]
theorem addQ_holds {cs ds : List Int} {b e : Int} {bits : Nat} (hl : ds.length = cs.length) (h1 : holdsQ cs b bits = true) (h2 : holdsQ ds e bits = true) : holdsQ (addQ cs ds) (b + e) bits = true := by
  unfold holdsQ at *
  rw [decide_eq_true_eq] at *
  have hl2 : (addQ cs ds).length = cs.length := by simp [addQ]
  rw [hl2, sumK_add (cs := cs) (ds := ds) bits cs.length (fun i hi => by simp [addQ, List.getD_eq_getElem?_getD, hi])]
  rw [hl] at h2
  omega
theorem negQ_holds {cs : List Int} {b : Int} {bits : Nat} : holdsQ (mulQ (-1) cs) (1 - b) bits = !(holdsQ cs b bits) := by
  unfold holdsQ
  have hl : (mulQ (-1) cs).length = cs.length := by simp [mulQ]
  have hs : sumK (mulQ (-1) cs) bits cs.length = -1 * sumK cs bits cs.length := sumK_mul (-1) bits cs.length fun i _ => getD_map0 cs _ (by simp) i
  rw [hl, hs]
  by_cases h : b ≤ sumK cs bits cs.length
  · rw [decide_eq_true h, decide_eq_false (by omega)]; rfl
  · rw [decide_eq_false h, decide_eq_true (by omega)]; rfl
/-- A quotient, rounded up. -/
def upQ (b k : Int) : Int := -((-b) / k)
theorem divQ_holds {cs : List Int} {b k : Int} {bits : Nat} (hk : 0 < k) (hd : ∀ c ∈ cs, c.tmod k = 0) : holdsQ (divQ k cs) (upQ b k) bits = holdsQ cs b bits := by
  unfold holdsQ
  have hl : (divQ k cs).length = cs.length := by simp [divQ]
  have hs : sumK cs bits cs.length = k * sumK (divQ k cs) bits cs.length := by
    refine sumK_mul k bits cs.length fun i hi => ?_
    rw [show (divQ k cs).getD i 0 = (cs.getD i 0).tdiv k from getD_map0 cs _ (by simp) i]
    have hm := hd (cs.getD i 0) (by rw [List.getD_eq_getElem?_getD, List.getElem?_eq_getElem hi]; exact List.getElem_mem hi)
    have := Int.mul_tdiv_add_tmod (cs.getD i 0) k
    omega
  rw [hl, hs]
  generalize sumK (divQ k cs) bits cs.length = s
  have key : (upQ b k ≤ s) ↔ b ≤ k * s := by
    unfold upQ
    constructor
    · intro h
      have h1 : -s ≤ (-b) / k := by omega
      have h2 := (Int.le_ediv_iff_mul_le hk).1 h1
      have e : -s * k = -(k * s) := by rw [Int.neg_mul, Int.mul_comm]
      omega
    · intro h
      have e : -s * k = -(k * s) := by rw [Int.neg_mul, Int.mul_comm]
      have h1 : -s ≤ (-b) / k := (Int.le_ediv_iff_mul_le hk).2 (by omega)
      omega
  by_cases h : upQ b k ≤ s
  · rw [decide_eq_true h, decide_eq_true (key.1 h)]
  · rw [decide_eq_false h, decide_eq_false (fun hh => h (key.2 hh))]

/-- The least and the greatest left side. -/
def lowK (cs : List Int) : Nat → Int
  | 0 => 0
  | k + 1 => lowK cs k + (if cs.getD k 0 < 0 then cs.getD k 0 else 0)
def highK (cs : List Int) : Nat → Int
  | 0 => 0
  | k + 1 => highK cs k + (if 0 < cs.getD k 0 then cs.getD k 0 else 0)
theorem sum_range (cs : List Int) (bits : Nat) : ∀ k, lowK cs k ≤ sumK cs bits k ∧ sumK cs bits k ≤ highK cs k
  | 0 => by simp [sumK, lowK, highK]
  | k + 1 => by
    have h := sum_range cs bits k
    simp only [sumK, lowK, highK]
    split <;> split <;> split <;> omega

/-- Whether a clause is true at bits. -/
def litT (bits : Nat) (l : Int) : Bool := bits.testBit (l.natAbs - 1) == decide (0 < l)
def clT (c : List Int) (bits : Nat) : Bool := c.any (litT bits)
/-- The coefficients and the bound of a clause. -/
def clQ (vars : Nat) (c : List Int) : List Int × Int := c.foldl (fun q l => if 0 < l then (q.1.set (l.natAbs - 1) 1, q.2) else (q.1.set (l.natAbs - 1) (-1), q.2 - 1)) (List.replicate vars 0, 1)
theorem sumK_set {cs : List Int} {j : Nat} (x : Int) (bits : Nat) (hj : j < cs.length) : ∀ k : Nat, sumK (cs.set j x) bits k = sumK cs bits k + (if j < k ∧ bits.testBit j = true then x - cs.getD j 0 else 0)
  | 0 => by simp [sumK]
  | k + 1 => by
    have ih := sumK_set x bits hj k
    simp only [sumK]
    rw [ih]
    have hg : (cs.set j x).getD k 0 = if j = k then x else cs.getD k 0 := by
      rw [List.getD_eq_getElem?_getD, List.getD_eq_getElem?_getD, List.getElem?_set]
      by_cases e : j = k
      · subst e; simp [hj]
      · simp [e]
    rw [hg]
    by_cases ht : bits.testBit j = true
    · simp only [ht, and_true]
      by_cases e : j = k
      · subst e
        simp only [ht, if_true, Nat.lt_irrefl, if_false, Nat.lt_add_one]
        omega
      · simp only [e, if_false]
        by_cases hlt : j < k
        · simp only [hlt, if_true, (by omega : j < k + 1)]
          omega
        · rw [if_neg hlt, if_neg (show ¬ j < k + 1 by omega)]; omega
    · simp only [ht, and_false, if_false, Int.add_zero, Bool.false_eq_true]
      by_cases e : j = k
      · subst e; simp [ht]
      · simp [e]
/-- The literals of a clause lie in range and have different variables. -/
def Apart (vars : Nat) (c : List Int) : Prop := (∀ l ∈ c, l ≠ 0 ∧ l.natAbs ≤ vars) ∧ c.Pairwise (fun a b => a.natAbs ≠ b.natAbs)
/-- How many literals are true. -/
def trueN (c : List Int) (bits : Nat) : Nat := c.countP (litT bits)
theorem clQ_gen (vars bits : Nat) : ∀ (c : List Int) (q : List Int × Int), q.1.length = vars → Apart vars c → (∀ l ∈ c, q.1.getD (l.natAbs - 1) 0 = 0) →
    (c.foldl (fun q l => if 0 < l then (q.1.set (l.natAbs - 1) 1, q.2) else (q.1.set (l.natAbs - 1) (-1), q.2 - 1)) q).1.length = vars ∧
    sumK (c.foldl (fun q l => if 0 < l then (q.1.set (l.natAbs - 1) 1, q.2) else (q.1.set (l.natAbs - 1) (-1), q.2 - 1)) q).1 bits vars - (c.foldl (fun q l => if 0 < l then (q.1.set (l.natAbs - 1) 1, q.2) else (q.1.set (l.natAbs - 1) (-1), q.2 - 1)) q).2 = sumK q.1 bits vars - q.2 + trueN c bits
  | [], q, hl, _, _ => by simp [trueN, hl]
  | l :: c, q, hl, hA, hz => by
    obtain ⟨h1, h2⟩ := hA
    rw [List.pairwise_cons] at h2
    obtain ⟨hl0, hlv⟩ := h1 l (by simp)
    have hj : l.natAbs - 1 < q.1.length := by omega
    have hA' : Apart vars c := ⟨fun a ha => h1 a (by simp [ha]), h2.2⟩
    have hzl := hz l (by simp)
    have hget : ∀ x a, a ∈ c → (q.1.set (l.natAbs - 1) x).getD (a.natAbs - 1) 0 = 0 := fun x a ha => by
      have hne := h2.1 a ha
      have ha1 := h1 a (by simp [ha])
      rw [List.getD_eq_getElem?_getD, List.getElem?_set, if_neg (by omega), ← List.getD_eq_getElem?_getD]
      exact hz a (by simp [ha])
    have ht : trueN (l :: c) bits = trueN c bits + (if litT bits l then 1 else 0) := by simp [trueN, List.countP_cons]
    rw [List.foldl_cons, ht]
    by_cases hp : 0 < l
    · rw [if_pos hp]
      have ih := clQ_gen vars bits c (q.1.set (l.natAbs - 1) 1, q.2) (by simp [hl]) hA' (hget 1)
      refine ⟨ih.1, ?_⟩
      rw [ih.2, sumK_set 1 bits hj vars, hzl]
      have hlit : litT bits l = bits.testBit (l.natAbs - 1) := by simp [litT, hp]
      rw [hlit]
      by_cases hb : bits.testBit (l.natAbs - 1) = true
      · simp only [hb, and_true, if_true, (by omega : l.natAbs - 1 < vars)]; omega
      · simp only [hb, and_false, if_false, Bool.false_eq_true]; omega
    · rw [if_neg hp]
      have ih := clQ_gen vars bits c (q.1.set (l.natAbs - 1) (-1), q.2 - 1) (by simp [hl]) hA' (hget (-1))
      refine ⟨ih.1, ?_⟩
      rw [ih.2, sumK_set (-1) bits hj vars, hzl]
      have hlit : litT bits l = !(bits.testBit (l.natAbs - 1)) := by simp [litT, hp]
      rw [hlit]
      by_cases hb : bits.testBit (l.natAbs - 1) = true
      · simp only [hb, and_true, if_true, (by omega : l.natAbs - 1 < vars), Bool.not_true, Bool.false_eq_true, if_false]; omega
      · simp only [hb, and_false, if_false, Bool.false_eq_true, Bool.not_false, if_true]; omega
theorem clQ_holds {vars : Nat} {c : List Int} (h : Apart vars c) (bits : Nat) : (clQ vars c).1.length = vars ∧ holdsQ (clQ vars c).1 (clQ vars c).2 bits = clT c bits := by
  have hg := clQ_gen vars bits c (List.replicate vars 0, 1) (by simp) h (fun l hl => by
    rw [List.getD_eq_getElem?_getD, List.getElem?_replicate]
    split <;> rfl)
  have hz : ∀ k, sumK (List.replicate vars 0) bits k = 0 := fun k => by
    induction k with
    | zero => rfl
    | succ k ih =>
      simp only [sumK, ih]
      rw [List.getD_eq_getElem?_getD, List.getElem?_replicate]
      split <;> (try split) <;> rfl
  refine ⟨hg.1, ?_⟩
  have h2 := hg.2
  rw [hz] at h2
  unfold holdsQ
  have h1 : (clQ vars c).1.length = vars := hg.1
  rw [h1]
  have h3 : sumK (clQ vars c).1 bits vars - (clQ vars c).2 = 0 - 1 + (trueN c bits : Int) := h2
  have h4 : clT c bits = decide (0 < trueN c bits) := by
    unfold clT trueN
    rw [Bool.eq_iff_iff, List.any_eq_true, decide_eq_true_eq, List.countP_pos_iff]
  rw [h4]
  by_cases hp : 0 < trueN c bits
  · rw [decide_eq_true hp, decide_eq_true (by omega)]
  · rw [decide_eq_false hp, decide_eq_false (by omega)]
end Go.Proofs.Ytkhopkonddgicaa

/- append onto an own row from any slice, empty or nil let in. No program in sight. -/
namespace Go.Proofs.Ytkhopkonddgicaa
open Go.RowKit

/-- A slice whose cells are these; a nil or empty one has none. -/
def Src (w : World) (A : Option Addr) (m size : Nat) (news : List Value) : Prop :=
  (m = 0 ∧ news = []) ∨ ∃ ad, A = some ad ∧ news.length = m * size ∧ ∀ j u, news[j]? = some u → w.cell? (ad.add j) = some u

section
variable {P : Program} {w : World} {t ty e : TypeId} {i : TypeInfo} {z : Value} {size bytes : Nat}
theorem run_append_src (ht : P.underlying t = some (.slice e)) (hi : P.info? e = some i) (hz : i.zero = some z) (hsize : i.size = size) (hby : i.bytes = bytes) (hzs : z.cells.size = size) (hsz : 0 < size)
    (v : Value) (n : Nat) (xs : List Value) (hown : w.ownsRow 0 e size v n xs) (A : Option Addr) (m c : Nat) (news : List Value) (hsrc : Src w A m size news) (h1 : ∀ u ∈ news, u.oneCell' = true)
    (h63 : n + m ≤ maxLen) (hbytes : (n + m) * bytes ≤ 140737488355328) :
    ∃ v' w', (Builtin.append_ #[t, t] ty #[v, .slice A m c]).run P w = .ok v' w' ∧ w'.ownsRow 0 e size v' (n + m) (xs ++ news) ∧ w.grownBy w' v.ownBlock ∧ (v'.ownBlock = v.ownBlock ∨ v'.ownBlock = some w.heap.size) := by
  rcases hsrc with ⟨rfl, rfl⟩ | ⟨ad, ha, hl, hn⟩
  · cases A with
    | some ad =>
      obtain ⟨v', w', h2, h3, h4, _, h5⟩ := run_append_own_at (P := P) w 0 t ty e i z size bytes ht hi hz hsize hby hzs hsz v n xs hown ad 0 c [] (by simp) (by simp) h1 h63 hbytes (Nat.zero_le _)
      exact ⟨v', w', h2, h3, h4, h5⟩
    | none =>
      refine ⟨v, w, ?_, by simpa using hown, World.grownBy.refl w _, .inl rfl⟩
      obtain ⟨_, ⟨rfl, rfl⟩ | ⟨g, cap, cur, rfl, _, _, hn, _⟩⟩ := hown
      · simp [Builtin.append_, run_underlying ht, sizeOf, typeInfo, hi, Builtin.lenOf, Builtin.firstCells]
      · simp [Builtin.append_, run_underlying ht, sizeOf, typeInfo, hi, Builtin.lenOf, Builtin.firstCells, hn, storeCells]
  · subst ha
    obtain ⟨v', w', h2, h3, h4, _, h5⟩ := run_append_own_at (P := P) w 0 t ty e i z size bytes ht hi hz hsize hby hzs hsz v n xs hown ad m c news hl hn h1 h63 hbytes (Nat.zero_le _)
    exact ⟨v', w', h2, h3, h4, h5⟩
theorem wp_append_src {o : Oper} {a : Act} {K : Act → World → Prop} {Q : Exit → Act → World → Prop} (s x : Operand)
    (ho : o.op = .call { callee := .builtin .append, args := #[s, x], argTypes := #[t, t] })
    (ht : P.underlying t = some (.slice e)) (hi : P.info? e = some i) (hz : i.zero = some z) (hsize : i.size = size) (hby : i.bytes = bytes) (hzs : z.cells.size = size) (hsz : 0 < size)
    (v : Value) (n : Nat) (xs : List Value) (hs : a.eval s = v) (hown : w.ownsRow 0 e size v n xs) (A : Option Addr) (m c : Nat) (news : List Value) (hx : a.eval x = .slice A m c) (hsrc : Src w A m size news) (h1 : ∀ u ∈ news, u.oneCell' = true)
    (h63 : n + m ≤ maxLen) (hbytes : (n + m) * bytes ≤ 140737488355328)
    (h : ∀ v' w', w'.ownsRow 0 e size v' (n + m) (xs ++ news) → w.grownBy w' v.ownBlock → (v'.ownBlock = v.ownBlock ∨ v'.ownBlock = some w.heap.size) → K (a.put o.dst v') w') : o.wp P a w K Q := by
  obtain ⟨v', w', hr, h2, h3, h4⟩ := run_append_src (P := P) (w := w) (ty := o.type) ht hi hz hsize hby hzs hsz v n xs hown A m c news hsrc h1 h63 hbytes
  unfold Oper.wp execOp
  simp only [ho, resolve, invoke, builtin, Sem.run_bind, Sem.run_pure, Result.andThen_ok, List.map_toArray, List.map_cons, List.map_nil, hs, hx, hr]
  exact h v' w' h2 h3 h4
theorem wpList_append_src {ops : Array Oper} {rest : List Oper} {o : Oper} {a : Act} {Q : Exit → Act → World → Prop} (hgd : o.guard = none) (s x : Operand)
    (ho : o.op = .call { callee := .builtin .append, args := #[s, x], argTypes := #[t, t] })
    (ht : P.underlying t = some (.slice e)) (hi : P.info? e = some i) (hz : i.zero = some z) (hsize : i.size = size) (hby : i.bytes = bytes) (hzs : z.cells.size = size) (hsz : 0 < size)
    (v : Value) (n : Nat) (xs : List Value) (hs : a.eval s = v) (hown : w.ownsRow 0 e size v n xs) (A : Option Addr) (m c : Nat) (news : List Value) (hx : a.eval x = .slice A m c) (hsrc : Src w A m size news) (h1 : ∀ u ∈ news, u.oneCell' = true)
    (h63 : n + m ≤ maxLen) (hbytes : (n + m) * bytes ≤ 140737488355328)
    (h : ∀ v' w', w'.ownsRow 0 e size v' (n + m) (xs ++ news) → w.grownBy w' v.ownBlock → (v'.ownBlock = v.ownBlock ∨ v'.ownBlock = some w.heap.size) → wpList P ops Q rest (a.put o.dst v') w') : wpList P ops Q (o :: rest) a w :=
  wpList_plain hgd fun _ hK => wp_append_src s x ho ht hi hz hsize hby hzs hsz v n xs hs hown A m c news hx hsrc h1 h63 hbytes fun v' w' h2 h3 h4 => hK _ _ (h v' w' h2 h3 h4)
theorem step_append_src {ops : Array Oper} {o : Oper} {a : Act} {K : Act → World → Prop} {Q : Exit → Act → World → Prop} {E : Prop} (hgd : o.guard = none) (s x : Operand)
    (ho : o.op = .call { callee := .builtin .append, args := #[s, x], argTypes := #[t, t] })
    (ht : P.underlying t = some (.slice e)) (hi : P.info? e = some i) (hz : i.zero = some z) (hsize : i.size = size) (hby : i.bytes = bytes) (hzs : z.cells.size = size) (hsz : 0 < size)
    (v : Value) (n : Nat) (xs : List Value) (hs : a.eval s = v) (hown : w.ownsRow 0 e size v n xs) (A : Option Addr) (m c : Nat) (news : List Value) (hx : a.eval x = .slice A m c) (hsrc : Src w A m size news) (h1 : ∀ u ∈ news, u.oneCell' = true)
    (h63 : n + m ≤ maxLen) (hbytes : (n + m) * bytes ≤ 140737488355328)
    (h : ∀ v' w', w'.ownsRow 0 e size v' (n + m) (xs ++ news) → w.grownBy w' v.ownBlock → (v'.ownBlock = v.ownBlock ∨ v'.ownBlock = some w.heap.size) → K (a.put o.dst v') w') :
    if Region.wanted o (yielded ops a.tmps) = true then Oper.wp P o a w K Q else E := by
  have hw : Region.wanted o (yielded ops a.tmps) = true := by simp [Region.wanted, hgd]
  rw [if_pos hw]
  exact wp_append_src s x ho ht hi hz hsize hby hzs hsz v n xs hs hown A m c news hx hsrc h1 h63 hbytes h
end

theorem add_none (b off j : Nat) : (⟨b, off, none⟩ : Addr).add j = ⟨b, off + j, none⟩ := by unfold Addr.add; split <;> simp_all
theorem Src.one {w : World} {b : Nat} {x : Value} (h : w.cell? ⟨b, 0, none⟩ = some x) : Src w (some ⟨b, 0, none⟩) 1 1 [x] :=
  .inr ⟨_, rfl, rfl, fun j u hj => by
    match j, hj with
    | 0, hj => simp at hj; subst hj; rw [add_none]; exact h⟩
theorem Src.keep {w w' : World} {A : Option Addr} {m size : Nat} {news : List Value} (h : Src w A m size news) (hk : ∀ a, A = some a → ∀ o u, w.cell? (a.add o) = some u → w'.cell? (a.add o) = some u) : Src w' A m size news := by
  rcases h with h | ⟨ad, rfl, h1, h2⟩
  · exact .inl h
  · exact .inr ⟨ad, rfl, h1, fun j u hj => hk _ rfl j u (h2 j u hj)⟩
theorem Src.grow {w w' : World} {A : Option Addr} {m size : Nat} {news : List Value} (h : Src w A m size news) (hb : Below w.heap.size w w') : Src w' A m size news :=
  h.keep fun _ _ _ _ hc => (hb.cell (World.block_lt_of_cell? _ _ hc)).trans hc
/-- A row as a source. -/
theorem row_src {α : Type} {T : Ty α} {wr : Bool} {w : World} {v : Value} {xs : List α} {F : List Nat} (h : T.row wr w v xs F) : ∃ A c cs G, v = .slice A xs.length c ∧ T.all wr w cs xs G ∧ Src w A xs.length T.size cs ∧ (∀ b ∈ G, b ∈ F) := by
  obtain ⟨a, cap, cs, G, rfl, h1, h2, hall, ⟨rfl, rfl⟩ | ⟨hs, hne, b, off, rfl, rfl, hc⟩⟩ := h
  · obtain ⟨rfl, rfl⟩ := hall
    exact ⟨a, cap, [], [], rfl, ⟨rfl, rfl⟩, .inl ⟨rfl, rfl⟩, by simp⟩
  · refine ⟨_, cap, cs, G, rfl, hall, .inr ⟨_, rfl, Ty.all_len hall, fun j u hj => ?_⟩, fun x hx => List.mem_cons_of_mem _ hx⟩
    have hjl := (List.getElem?_eq_some_iff.1 hj).1
    rw [add_none, (hc j hjl).1, ← List.getElem?_eq_getElem hjl, hj]
theorem row_src_int {wr : Bool} {w : World} {v : Value} {xs : List Int} {F : List Nat} (h : Ty.int.row wr w v xs F) : ∃ A c, v = .slice A xs.length c ∧ Src w A xs.length 1 (xs.map (.int .i64)) := by
  obtain ⟨A, c, cs, G, rfl, hall, hs, _⟩ := row_src h
  obtain ⟨rfl, _, _⟩ := Ty.all_int_inv hall
  exact ⟨A, c, rfl, hs⟩

/-- Where a slice from k on lies. -/
def cutA (A : Option Addr) (cap k size : Nat) : Option Addr := if cap = k then A else A.map (·.add (k * size))
section
variable {P : Program} {T e : TypeId} {i : TypeInfo} {size : Nat} {ρ : Operand → Value} {o : Oper} {x y : Operand} {A : Option Addr} {len cap k : Nat} {w : World}
theorem exec_slice_to (ho : o.op = .slice T x none (some y) none) (hx : ρ x = .slice A len cap) (hy : ρ y = .int .i64 k) (hT : P.underlying T = some (.slice e)) (hi : P.info? e = some i) (hk : k ≤ cap) :
    (execOp ρ o).run P w = .ok (.value (.slice A k cap)) w := by
  have hb : (Instr.sliceBounds true len cap none (some (.int .i64 k)) none).run P w = .ok (0, k, cap) w := by
    simp [Instr.sliceBounds, run_sliceBound (P := P) w .i64 (k : Int) cap .sliceAcap (by omega) (by omega)]
  have hA : (if cap = 0 then A else A.map (·.add 0)) = A := by
    split
    · rfl
    · cases A <;> simp [Addr.add]
  unfold execOp
  simp [ho, hx, hy, Instr.sliceAt, run_underlying hT, Instr.slice, hb, sizeOf, typeInfo, hi, hA]
theorem exec_slice_from (ho : o.op = .slice T x (some y) none none) (hx : ρ x = .slice A len cap) (hy : ρ y = .int .i64 k) (hT : P.underlying T = some (.slice e)) (hi : P.info? e = some i) (hs : i.size = size) (hk : k ≤ len) :
    (execOp ρ o).run P w = .ok (.value (.slice (cutA A cap k size) (len - k) (cap - k))) w := by
  have hb : (Instr.sliceBounds true len cap (some (.int .i64 k)) none none).run P w = .ok (k, len, cap) w := by
    simp [Instr.sliceBounds, run_sliceBound (P := P) w .i64 (k : Int) len .sliceB (by omega) (by omega)]
  subst hs
  unfold execOp cutA
  simp [ho, hx, hy, Instr.sliceAt, run_underlying hT, Instr.slice, hb, sizeOf, typeInfo, hi]
end
theorem Src.to {w : World} {A : Option Addr} {m size k : Nat} {news : List Value} (h : Src w A m size news) (hk : k ≤ m) : Src w A k size (news.take (k * size)) := by
  rcases h with ⟨rfl, rfl⟩ | ⟨ad, rfl, h1, h2⟩
  · exact .inl ⟨by omega, by simp⟩
  · refine .inr ⟨ad, rfl, ?_, fun j u hj => ?_⟩
    · rw [List.length_take, h1]
      have := Nat.mul_le_mul_right size hk
      omega
    · rw [List.getElem?_take] at hj
      split at hj
      · exact h2 j u hj
      · cases hj
theorem Src.from {w : World} {b off cap : Nat} {m size k : Nat} {news : List Value} (h : Src w (some ⟨b, off, none⟩) m size news) (hk : k ≤ m) (hm : m ≤ cap) : Src w (cutA (some ⟨b, off, none⟩) cap k size) (m - k) size (news.drop (k * size)) := by
  rcases h with ⟨rfl, rfl⟩ | ⟨ad, e, h1, h2⟩
  · exact .inl ⟨by omega, by simp⟩
  · cases e
    unfold cutA
    by_cases hc : cap = k
    · obtain rfl : m = k := by omega
      exact .inl ⟨by omega, by rw [List.drop_eq_nil_of_le (by omega)]⟩
    · rw [if_neg hc]
      refine .inr ⟨_, rfl, by rw [List.length_drop, h1, Nat.sub_mul], fun j u hj => ?_⟩
      rw [List.getElem?_drop] at hj
      have := h2 _ u hj
      rw [add_none] at this
      show w.cell? (((⟨b, off, none⟩ : Addr).add (k * size)).add j) = some u
      rw [add_none, add_none, Nat.add_assoc]
      exact this
theorem Src.from_nil {w : World} {m cap size k : Nat} {news : List Value} (h : Src w none m size news) (hk : k ≤ m) : Src w (cutA none cap k size) (m - k) size (news.drop (k * size)) := by
  rcases h with ⟨rfl, rfl⟩ | ⟨ad, e, _⟩
  · exact .inl ⟨by omega, by simp⟩
  · cases e
end Go.Proofs.Ytkhopkonddgicaa

/- Memory: rows of numbers that can be read. -/
namespace Go.Proofs.Ytkhopkonddgicaa
open Go.RowKit

/-- A row of numbers that can be read. -/
structure IntsAt (w : World) (A : Option Addr) (cs : List Int) : Prop where
  at_ : ∀ j (hj : j < cs.length), ∃ b off, A = some ⟨b, off, none⟩ ∧ w.cell? ⟨b, off + j, none⟩ = some (.int .i64 cs[j])
  ok : ∀ c ∈ cs, I64 c
theorem IntsAt.grow {w w' : World} {A : Option Addr} {cs : List Int} (h : IntsAt w A cs) (hb : Below w.heap.size w w') : IntsAt w' A cs := by
  refine ⟨fun j hj => ?_, h.ok⟩
  obtain ⟨b, off, e, h1⟩ := h.at_ j hj
  exact ⟨b, off, e, (hb.cell (World.block_lt_of_cell? _ _ h1)).trans h1⟩
theorem IntsAt.keep {w w' : World} {A : Option Addr} {cs : List Int} (h : IntsAt w A cs) (hk : ∀ a, A = some a → w'.heap[a.block]? = w.heap[a.block]?) : IntsAt w' A cs := by
  refine ⟨fun j hj => ?_, h.ok⟩
  obtain ⟨b, off, e, h1⟩ := h.at_ j hj
  exact ⟨b, off, e, (World.cell?_of_block (a := ⟨b, off + j, none⟩) (hk ⟨b, off, none⟩ e)).trans h1⟩
theorem IntsAt.set {w : World} {A : Option Addr} {cs : List Int} (h : IntsAt w A cs) {g : Nat} (hg : ∀ a, A = some a → a.block ≠ g) (o : Nat) (u : Value) : IntsAt (w.setCell ⟨g, o, none⟩ u) A cs :=
  h.keep fun a ha => Below.heap_setCell _ _ _ _ (hg a ha)
theorem IntsAt.chg {F : List Nat} {w w' : World} {A : Option Addr} {cs : List Int} (h : IntsAt w A cs) (hc : Chg F w w') (hF : ∀ a, A = some a → a.block ∉ F) : IntsAt w' A cs := by
  refine ⟨fun j hj => ?_, h.ok⟩
  obtain ⟨b, off, e, h1⟩ := h.at_ j hj
  exact ⟨b, off, e, (World.cell?_of_block (a := ⟨b, off + j, none⟩) (hc.block b (World.block_lt_of_cell? _ _ h1) (hF _ e))).trans h1⟩
theorem IntsAt.nil (w : World) (A : Option Addr) : IntsAt w A [] := ⟨fun j hj => absurd hj (by simp), by simp⟩
theorem ints_own {w : World} {B : Nat} {e : TypeId} {v : Value} {cs : List Int} (h : w.ownsRow B e 1 v cs.length (cs.map (.int .i64))) (hok : ∀ c ∈ cs, I64 c) : ∃ A c, v = .slice A cs.length c ∧ IntsAt w A cs := by
  obtain ⟨_, ⟨rfl, h0⟩ | ⟨g, cap, cur, rfl, _, hh, _, _, hs, ht⟩⟩ := h
  · exact ⟨none, 0, by rw [h0], fun j hj => absurd hj (by omega), hok⟩
  · refine ⟨_, cap, rfl, fun j hj => ⟨g, 0, rfl, ?_⟩, hok⟩
    rw [Nat.mul_one] at ht
    rw [Nat.zero_add, hown_cell hh ht hj]
    simp [hj]
theorem ints_row {wr : Bool} {w : World} {v : Value} {cs : List Int} {F : List Nat} (h : Ty.int.row wr w v cs F) : ∃ A c, v = .slice A cs.length c ∧ IntsAt w A cs := by
  obtain ⟨a, c, rfl, h1, h2, h64, h3⟩ := row_int h
  refine ⟨a, c, rfl, ⟨fun j hj => ?_, h64⟩⟩
  rcases h3 with ⟨rfl, _⟩ | ⟨_, b, off, rfl, _, hc⟩
  · exact absurd hj (by simp)
  · exact ⟨b, off, rfl, (hc j hj).1⟩
theorem IntsAt.get {w : World} {b off : Nat} {cs : List Int} (h : IntsAt w (some ⟨b, off, none⟩) cs) {j : Nat} (hj : j < cs.length) : w.cell? ⟨b, off + j, none⟩ = some (.int .i64 cs[j]) := by
  obtain ⟨b', off', e, h1⟩ := h.at_ j hj
  cases e
  exact h1
/-- A function of a number, told by what it answers. -/
def FnI (R : Int → Prop) (w0 : World) (g : FuncId) (cb : Array Value) (p : Int → Bool) : Prop :=
  ∀ (x : Int) w, R x → Below w0.heap.size w0 w → Calls Try.prog g (#[.int .i64 x] ++ cb) w fun e w' => e = .returned (.bool (p x)) ∧ Below w.heap.size w w'
/-- The function values that calls enter. -/
def Enter1 (g : FuncId) : Prop := ∀ args w, (callFunc g args).run Try.prog w = .ok (.enter g args) w
end Go.Proofs.Ytkhopkonddgicaa

/- Memory facts: rows of rows. No program in sight. -/
namespace Go.Proofs.Ytkhopkonddgicaa
open Go.RowKit

/-- A row of rows: the header of each element, and its own row. -/
theorem row_slices {α : Type} {T : Ty α} {wr : Bool} {w : World} {v : Value} {xss : List (List α)} {F : List Nat} (h : (Ty.slice T).row wr w v xss F) :
    ∃ a cap, v = .slice a xss.length cap ∧ xss.length ≤ cap ∧ cap ≤ 9223372036854775807 ∧ ((xss = [] ∧ F = []) ∨ (xss ≠ [] ∧ ∃ b off, a = some ⟨b, off, none⟩ ∧ b ∈ F ∧ ∀ k (hk : k < xss.length), ∃ u Fk, cellIs wr w b (off + k) u ∧ T.row wr w u xss[k] Fk ∧ ∀ x ∈ Fk, x ∈ F)) := by
  obtain ⟨a, cap, cs, G, rfl, h1, h2, hall, h⟩ := h
  refine ⟨a, cap, rfl, h1, h2, h.imp id ?_⟩
  rintro ⟨_, hne, b, off, rfl, rfl, hc⟩
  refine ⟨hne, b, off, rfl, List.mem_cons_self, fun k hk => ?_⟩
  obtain ⟨c, d, e, F1, F2, F3, rfl, rfl, hl, _, ⟨u, rfl, hu⟩, _⟩ := Ty.all_split hall k hk
  have hl' : c.length = k := by rw [hl]; show k * 1 = k; omega
  refine ⟨u, F2, ?_, hu, fun x hx => by simp [hx]⟩
  have := hc k (by simp; omega)
  rw [List.getElem_append_left (by simp; omega), List.getElem_append_right (by omega)] at this
  simpa [hl'] using this

/-- What a copying loop over rows has made so far. -/
def CopyAll {α : Type} (T : Ty α) (xss : List (List α)) (k : Nat) (w wr : World) : Prop :=
  ∃ (cs : List Value) (G : List Nat), (Ty.slice T).all true wr cs (xss.take k) G ∧ G.Nodup ∧ (∀ b ∈ G, w.heap.size < b) ∧
    (∀ j, j < xss.length → ∃ a n c, wr.cell? ⟨w.heap.size, j, none⟩ = some (.slice a n c) ∧ wr.frozen? ⟨w.heap.size, j, none⟩ = false ∧ (j < k → cs[j]? = some (.slice a n c))) ∧ Below w.heap.size w wr ∧ w.heap.size < wr.heap.size
theorem CopyAll.step {α : Type} {T : Ty α} {xss : List (List α)} {k : Nat} {w wr w1 : World} {a : Option Addr} {n c : Nat} {F : List Nat} (h : CopyAll T xss k w wr) (hk : k < xss.length)
    (hr : T.row true w1 (.slice a n c) xss[k] F) (hn : F.Nodup) (hF : ∀ b ∈ F, wr.heap.size ≤ b) (hb : Below wr.heap.size wr w1) : CopyAll T xss (k + 1) w (w1.setCell ⟨w.heap.size, k, none⟩ (.slice a n c)) := by
  obtain ⟨cs, G, hall, hG, hGb, hc, hB, hs⟩ := h
  have hlen : cs.length = k := by rw [Ty.all_len hall, List.length_take]; show min k xss.length * 1 = k; omega
  have hkeep : ∀ b, w.heap.size < b → (w1.setCell ⟨w.heap.size, k, none⟩ (.slice a n c)).heap[b]? = w1.heap[b]? := fun b hb => Below.heap_setCell _ _ _ _ (by simp; omega)
  have hall1 := Ty.all_keep (w' := w1) hall (fun b hb' => hb.block b (Ty.all_lt hall b hb'))
  have hall2 := Ty.all_keep (w' := w1.setCell ⟨w.heap.size, k, none⟩ (.slice a n c)) hall1 (fun b hb' => hkeep b (hGb b hb'))
  have hr2 := Ty.row_keep (w' := w1.setCell ⟨w.heap.size, k, none⟩ (.slice a n c)) hr (fun b hb' => hkeep b (Nat.lt_of_lt_of_le hs (hF b hb')))
  refine ⟨cs ++ [.slice a n c], G ++ F, ?_, ?_, ?_, ?_, ?_, ?_⟩
  · rw [List.take_succ_eq_append_getElem hk]
    exact Ty.all_snoc hall2 ⟨_, rfl, hr2⟩
  · refine List.nodup_append.2 ⟨hG, hn, fun x hx y hy e => ?_⟩
    have h1 := Ty.all_lt hall x hx
    have h2 := hF y hy
    omega
  · intro b hb'
    rcases List.mem_append.1 hb' with hb' | hb'
    · exact hGb b hb'
    · have := hF b hb'; omega
  · intro j hj
    obtain ⟨a', n', c', h1, h2, h3⟩ := hc j hj
    have h1' := ((bcell hb).1 _ j hs).trans h1
    have h2' := ((bcell hb).2 _ j hs).trans h2
    by_cases e : j = k
    · subst e
      exact ⟨a, n, c, World.cell?_setCell_same' _ _ _ (by rw [h1']; rfl), by rw [World.frozen?_setCell]; exact h2', fun _ => by rw [List.getElem?_append_right (by omega)]; simp [hlen]⟩
    · refine ⟨a', n', c', by rw [World.cell?_setCell_other w1 _ _ _ (by simp only [ne_eq, Addr.mk.injEq]; omega)]; exact h1', by rw [World.frozen?_setCell]; exact h2', fun hlt => ?_⟩
      rw [List.getElem?_append_left (by omega)]
      exact h3 (by omega)
  · exact bst (btr hB hb) (Nat.le_refl _) _
  · simp only [World.setCell, Array.size_modify]; exact Nat.lt_of_lt_of_le hs hb.size
/-- The copy of a row of rows. -/
theorem CopyAll.done {α : Type} {T : Ty α} {xss : List (List α)} {w wr : World} (h : CopyAll T xss xss.length w wr) (hm : xss.length ≤ 9223372036854775807) :
    ∃ F, (Ty.slice T).row true wr (.slice (some ⟨w.heap.size, 0, none⟩) xss.length xss.length) xss F ∧ F.Nodup ∧ (∀ b ∈ F, w.heap.size ≤ b) := by
  obtain ⟨cs, G, hall, hG, hGb, hc, hB, hs⟩ := h
  rw [List.take_length] at hall
  have hlen : cs.length = xss.length := by rw [Ty.all_len hall]; show xss.length * 1 = xss.length; omega
  by_cases hne : xss = []
  · subst hne
    exact ⟨[], Ty.row_nil _ _ _ _ _ (by simp), by simp, by simp⟩
  · refine ⟨w.heap.size :: G, ⟨_, _, cs, G, rfl, Nat.le_refl _, hm, hall, .inr ⟨Nat.zero_lt_one, hne, w.heap.size, 0, rfl, rfl, fun j hj => ?_⟩⟩, List.nodup_cons.2 ⟨fun h => by have := hGb _ h; omega, hG⟩, ?_⟩
    · obtain ⟨a, n, c, h1, h2, h3⟩ := hc j (by omega)
      have h4 := h3 (by omega)
      rw [List.getElem?_eq_getElem hj] at h4
      rw [Option.some.inj h4, Nat.zero_add]
      exact ⟨h1, fun _ => h2⟩
    · intro b hb
      rcases List.mem_cons.1 hb with rfl | hb
      · exact Nat.le_refl _
      · exact Nat.le_of_lt (hGb b hb)

/-- How many numbers, each row counted once more. -/
def bulk (xss : List (List Int)) : Nat := xss.length + (xss.map List.length).sum
end Go.Proofs.Ytkhopkonddgicaa
