/- Plain facts: names with a smaller proof in one system than in another. No program in sight. -/
import Derived.Test.YtcapiijpfoapkaaDoorBookA
namespace Go.Proofs.YtcapiijpfoapkaaDoor

theorem book_pair {xs : List Rec} (h : bookB xs = true) : xs.Pairwise (fun a b => beforeB a b = true) :=
  List.pairwise_iff_getElem.2 fun i j _ hj hij => book_rising h i j hj hij
abbrev LessN (a b : List UInt8) : Prop := Op.bytesLess a b = true
theorem lessN_asym (a b : List UInt8) (h : LessN a b) : ¬ LessN b a := fun k => by
  have := less_asym h
  rw [k] at this; cases this
theorem ascN_ext {α : Type} {R : α → α → Prop} (hR : ∀ x y, R x y → ¬ R y x) : ∀ {a b : List α}, a.Pairwise R → b.Pairwise R → (∀ x, x ∈ a ↔ x ∈ b) → a = b
  | [], [], _, _, _ => rfl
  | [], y :: b, _, _, h => by have := (h y).2 (by simp); simp at this
  | x :: a, [], _, _, h => by have := (h x).1 (by simp); simp at this
  | x :: a, y :: b, ha, hb, h => by
    rw [List.pairwise_cons] at ha hb
    have e : x = y := by
      rcases List.mem_cons.1 ((h x).1 (by simp)) with e | hx
      · exact e
      · rcases List.mem_cons.1 ((h y).2 (by simp)) with e | hy
        · exact e.symm
        · exact absurd (ha.1 y hy) (hR _ _ (hb.1 x hx))
    subst e
    have hx1 : x ∉ a := fun hx => hR _ _ (ha.1 x hx) (ha.1 x hx)
    have hx2 : x ∉ b := fun hx => hR _ _ (hb.1 x hx) (hb.1 x hx)
    rw [ascN_ext hR ha.2 hb.2 fun z => ?_]
    have := h z
    simp only [List.mem_cons] at this
    constructor
    · intro hz
      rcases this.1 (.inr hz) with e | hz2
      · exact absurd (e ▸ hz) hx1
      · exact hz2
    · intro hz
      rcases this.2 (.inr hz) with e | hz2
      · exact absurd (e ▸ hz) hx2
      · exact hz2

/-- Whether a record in one system is smaller than one of the same name in another. -/
def underB (one two : Int) (r q : Rec) : Bool := decide (r.sys = one) && decide (q.sys = two) && (r.name == q.name) && decide (r.size < q.size)
/-- The reference's list. -/
def smallS (xs : List Rec) (one two : Int) : List (List UInt8) := xs.flatMap fun r => xs.flatMap fun q => if underB one two r q then [r.name] else []
theorem mem_smallS {xs : List Rec} {one two : Int} {n : List UInt8} : n ∈ smallS xs one two ↔ ∃ r ∈ xs, ∃ q ∈ xs, underB one two r q = true ∧ r.name = n := by
  simp only [smallS, List.mem_flatMap]
  constructor
  · rintro ⟨r, hr, q, hq, h⟩
    by_cases hu : underB one two r q = true
    · rw [if_pos hu, List.mem_singleton] at h
      exact ⟨r, hr, q, hq, hu, h.symm⟩
    · rw [if_neg hu] at h; simp at h
  · rintro ⟨r, hr, q, hq, hu, rfl⟩
    exact ⟨r, hr, q, hq, by rw [if_pos hu]; simp⟩
theorem under_spec {one two : Int} {r q : Rec} : underB one two r q = true ↔ r.sys = one ∧ q.sys = two ∧ r.name = q.name ∧ r.size < q.size := by
  simp only [underB, Bool.and_eq_true, decide_eq_true_eq, beq_iff_eq, and_assoc]
theorem before_less {a b : Rec} (h : beforeB a b = true) (hs : a.sys = b.sys) : LessN a.name b.name := by
  simp only [beforeB, Bool.or_eq_true, Bool.and_eq_true, beq_iff_eq, decide_eq_true_eq] at h
  rcases h with h | ⟨_, h⟩
  · exact h
  · omega
theorem before_no {a b : Rec} (h : beforeB a b = true) (hs : a.sys = b.sys) (hn : a.name = b.name) : False := by
  have := before_less h hs
  unfold LessN at this
  rw [hn, less_irrefl] at this
  cases this
theorem smallS_asc {xs : List Rec} {one two : Int} (h : bookB xs = true) : (smallS xs one two).Pairwise LessN := by
  have hp := book_pair h
  unfold smallS
  rw [List.pairwise_flatMap]
  refine ⟨fun r _ => ?_, ?_⟩
  · rw [List.pairwise_flatMap]
    refine ⟨fun q _ => by split <;> simp, hp.imp fun {a b} hab x hx y hy => ?_⟩
    by_cases ha : underB one two r a = true
    · by_cases hb : underB one two r b = true
      · obtain ⟨_, a2, a3, _⟩ := under_spec.1 ha
        obtain ⟨_, b2, b3, _⟩ := under_spec.1 hb
        exact (before_no hab (a2.trans b2.symm) (a3.symm.trans b3)).elim
      · rw [if_neg hb] at hy; simp at hy
    · rw [if_neg ha] at hx; simp at hx
  · refine hp.imp fun {a b} hab x hx y hy => ?_
    obtain ⟨q, _, hq⟩ := List.mem_flatMap.1 hx
    obtain ⟨s, _, hs⟩ := List.mem_flatMap.1 hy
    by_cases ha : underB one two a q = true
    · by_cases hb : underB one two b s = true
      · rw [if_pos ha, List.mem_singleton] at hq
        rw [if_pos hb, List.mem_singleton] at hs
        subst hq; subst hs
        exact before_less hab ((under_spec.1 ha).1.trans (under_spec.1 hb).1.symm)
      · rw [if_neg hb] at hs; simp at hs
    · rw [if_neg ha] at hq; simp at hq

/-- The record of a name in a system. -/
def isRec (n : List UInt8) (s : Int) (r : Rec) : Bool := (r.name == n) && decide (r.sys = s)
def recOf (xs : List Rec) (n : List UInt8) (s : Int) : Option Rec := xs.find? (isRec n s)
def goesB (xs : List Rec) (one two : Int) (n : List UInt8) : Bool :=
  match recOf xs n one, recOf xs n two with
  | some a, some b => decide (b.size ≤ a.size)
  | _, _ => true
theorem recOf_iff {xs : List Rec} (h : bookB xs = true) {n : List UInt8} {s : Int} {r : Rec} : recOf xs n s = some r ↔ r ∈ xs ∧ r.name = n ∧ r.sys = s := by
  unfold recOf
  constructor
  · intro hf
    have h1 := List.find?_some hf
    simp only [isRec, Bool.and_eq_true, beq_iff_eq, decide_eq_true_eq] at h1
    exact ⟨List.mem_of_find?_eq_some hf, h1⟩
  · rintro ⟨hr, rfl, rfl⟩
    cases hf : xs.find? (isRec r.name r.sys) with
    | none =>
      have := List.find?_eq_none.1 hf r hr
      simp [isRec] at this
    | some q =>
      have h1 := List.find?_some hf
      simp only [isRec, Bool.and_eq_true, beq_iff_eq, decide_eq_true_eq] at h1
      have hq := List.mem_of_find?_eq_some hf
      obtain ⟨i, hi, rfl⟩ := List.getElem_of_mem hr
      obtain ⟨j, hj, rfl⟩ := List.getElem_of_mem hq
      rcases Nat.lt_trichotomy i j with hlt | rfl | hlt
      · exact (before_no (book_rising h i j hj hlt) h1.2.symm h1.1.symm).elim
      · rfl
      · exact (before_no (book_rising h j i hi hlt) h1.2 h1.1).elim
theorem goes_iff {xs : List Rec} (h : bookB xs = true) {one two : Int} {n : List UInt8} : goesB xs one two n = false ↔ n ∈ smallS xs one two := by
  rw [mem_smallS]
  unfold goesB
  constructor
  · intro hg
    cases h1 : recOf xs n one with
    | none => rw [h1] at hg; cases hg
    | some a =>
      cases h2 : recOf xs n two with
      | none => rw [h1, h2] at hg; cases hg
      | some b =>
        rw [h1, h2] at hg
        simp only [decide_eq_false_iff_not] at hg
        obtain ⟨a1, a2, a3⟩ := (recOf_iff h).1 h1
        obtain ⟨b1, b2, b3⟩ := (recOf_iff h).1 h2
        exact ⟨a, a1, b, b1, under_spec.2 ⟨a3, b3, a2.trans b2.symm, by omega⟩, a2⟩
  · rintro ⟨r, hr, q, hq, hu, rfl⟩
    obtain ⟨u1, u2, u3, u4⟩ := under_spec.1 hu
    rw [(recOf_iff h).2 ⟨hr, rfl, u1⟩, (recOf_iff h).2 ⟨hq, u3.symm, u2⟩]
    simp only [decide_eq_false_iff_not]
    omega
/-- Whatever rising list of the names the program leaves names out of, the same ones stay. -/
theorem small_same {xs : List Rec} (h : bookB xs = true) {one two : Int} {ns : List (List UInt8)} (h1 : ns.Pairwise LessN) (h2 : ∀ n, n ∈ ns ↔ n ∈ xs.map Rec.name) : ns.filter (fun n => !goesB xs one two n) = smallS xs one two := by
  refine ascN_ext lessN_asym (h1.filter _) (smallS_asc h) fun n => ?_
  rw [List.mem_filter, h2, Bool.not_eq_true', goes_iff h]
  constructor
  · exact fun h => h.2
  · intro hn
    refine ⟨?_, hn⟩
    obtain ⟨r, hr, q, hq, _, rfl⟩ := mem_smallS.1 hn
    exact List.mem_map.2 ⟨r, hr, rfl⟩
end Go.Proofs.YtcapiijpfoapkaaDoor
