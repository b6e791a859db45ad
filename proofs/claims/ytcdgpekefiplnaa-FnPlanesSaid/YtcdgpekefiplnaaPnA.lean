/- Plain facts: inequalities over bits. No program in sight. -/
import Derived.Test.YtcdgpekefiplnaaPlA
namespace Go.Proofs.Ytcdgpekefiplnaa

/-- The left side of an inequality up to a place, at bits. -/
def sumK (cs : List Int) (bits : Nat) : Nat → Int
  | 0 => 0
  | k + 1 => sumK cs bits k + (if bits.testBit k then cs.getD k 0 else 0)
def holdsQ (cs : List Int) (b : Int) (bits : Nat) : Bool := decide (b ≤ sumK cs bits cs.length)
def coefB (c : Int) : Bool := inB c (-1000) 1000
def goodQ (vars b : Int) (cs : List Int) : Bool := inB vars 0 12 && decide ((cs.length : Int) = vars) && inB b (-10000) 10000 && cs.all coefB
theorem good_q {vars b : Int} {cs : List Int} (h : goodQ vars b cs = true) : (0 ≤ vars ∧ vars ≤ 12) ∧ (cs.length : Int) = vars ∧ (-10000 ≤ b ∧ b ≤ 10000) ∧ ∀ c ∈ cs, -1000 ≤ c ∧ c ≤ 1000 := by
  unfold goodQ at h
  simp only [Bool.and_eq_true, inB, decide_eq_true_eq, List.all_eq_true, coefB] at h
  obtain ⟨⟨⟨h1, h2⟩, h3⟩, h4⟩ := h
  exact ⟨by simpa using h1, h2, by simpa using h3, fun c hc => by simpa using h4 c hc⟩
theorem getD_bound {cs : List Int} {m : Int} (hm : 0 ≤ m) (h : ∀ c ∈ cs, -m ≤ c ∧ c ≤ m) (k : Nat) : -m ≤ cs.getD k 0 ∧ cs.getD k 0 ≤ m := by
  rw [List.getD_eq_getElem?_getD]
  rcases Nat.lt_or_ge k cs.length with hk | hk
  · rw [List.getElem?_eq_getElem hk]; exact h _ (List.getElem_mem hk)
  · rw [List.getElem?_eq_none hk]; simp; omega
theorem sumK_bound {cs : List Int} {m : Int} (hm : 0 ≤ m) (h : ∀ c ∈ cs, -m ≤ c ∧ c ≤ m) (bits : Nat) : ∀ k : Nat, -(m * k) ≤ sumK cs bits k ∧ sumK cs bits k ≤ m * k
  | 0 => by simp [sumK]
  | k + 1 => by
    have h1 := sumK_bound hm h bits k
    have h2 := getD_bound hm h k
    have e : m * ((k + 1 : Nat) : Int) = m * k + m := by rw [Int.natCast_add, Int.mul_add]; simp
    rw [e]
    simp only [sumK]
    split <;> omega
theorem sumK_add {cs ds es : List Int} (bits : Nat) : ∀ k : Nat, (∀ i, i < k → es.getD i 0 = cs.getD i 0 + ds.getD i 0) → sumK es bits k = sumK cs bits k + sumK ds bits k
  | 0, _ => by simp [sumK]
  | k + 1, h => by
    have h1 := sumK_add bits k (fun i hi => h i (by omega))
    have h2 := h k (by omega)
    simp only [sumK]
    rw [h1]
    split
    · rw [h2]; omega
    · omega
theorem sumK_mul {cs ds : List Int} (m : Int) (bits : Nat) : ∀ k : Nat, (∀ i, i < k → cs.getD i 0 = m * ds.getD i 0) → sumK cs bits k = m * sumK ds bits k
  | 0, _ => by simp [sumK]
  | k + 1, h => by
    have h1 := sumK_mul m bits k (fun i hi => h i (by omega))
    have h2 := h k (by omega)
    simp only [sumK]
    rw [h1, Int.mul_add]
    split
    · rw [h2]
    · simp
theorem sumK_congr {cs ds : List Int} (bits : Nat) (k : Nat) (h : ∀ i, i < k → cs.getD i 0 = ds.getD i 0) : sumK cs bits k = sumK ds bits k := by
  have := sumK_mul (cs := cs) (ds := ds) 1 bits k (fun i hi => by rw [Int.one_mul]; exact h i hi)
  rwa [Int.one_mul] at this

/-- The sum of two. -/
def addQ (cs ds : List Int) : List Int := (List.range cs.length).map fun i => cs.getD i 0 + ds.getD i 0
/-- Some times an inequality. -/
def mulQ (m : Int) (cs : List Int) : List Int := cs.map fun c => m * c
def divQ (m : Int) (cs : List Int) : List Int := cs.map fun c => c.tdiv m
theorem getD_map0 (cs : List Int) (f : Int → Int) (hf : f 0 = 0) (i : Nat) : (cs.map f).getD i 0 = f (cs.getD i 0) := by
  rw [List.getD_eq_getElem?_getD, List.getD_eq_getElem?_getD, List.getElem?_map]
  cases cs[i]? <;> simp [hf]
theorem addQ_holds {cs ds : List Int} {b e : Int} {bits : Nat} (hl : ds.length = cs.length) (h1 : holdsQ cs b bits = true) (h2 : holdsQ ds e bits = true) : holdsQ (addQ cs ds) (b + e) bits = true := by
  unfold holdsQ at *
  rw [decide_eq_true_eq] at *
  have hl2 : (addQ cs ds).length = cs.length := by simp [addQ]
  rw [hl2, sumK_add (cs := cs) (ds := ds) bits cs.length (fun i hi => by simp [addQ, List.getD_eq_getElem?_getD, hi])]
  rw [hl] at h2
  omega
theorem negQ_holds {cs : List Int} {b : Int} {bits : Nat} : holdsQ (mulQ (-1) cs) (1 - b) bits = !(holdsQ cs b bits) := by
  unfold holdsQ
  have hl : (mulQ (-1) cs).length = cs.length := by simp [mulQ]
  have hs : sumK (mulQ (-1) cs) bits cs.length = -1 * sumK cs bits cs.length := sumK_mul (-1) bits cs.length fun i _ => getD_map0 cs _ (by simp) i
  rw [hl, hs]
  by_cases h : b ≤ sumK cs bits cs.length
  · rw [decide_eq_true h, decide_eq_false (by omega)]; rfl
  · rw [decide_eq_false h, decide_eq_true (by omega)]; rfl
/-- A quotient, rounded up. -/
def upQ (b k : Int) : Int := -((-b) / k)
theorem divQ_holds {cs : List Int} {b k : Int} {bits : Nat} (hk : 0 < k) (hd : ∀ c ∈ cs, c.tmod k = 0) : holdsQ (divQ k cs) (upQ b k) bits = holdsQ cs b bits := by
  unfold holdsQ
  have hl : (divQ k cs).length = cs.length := by simp [divQ]
  have hs : sumK cs bits cs.length = k * sumK (divQ k cs) bits cs.length := by
    refine sumK_mul k bits cs.length fun i hi => ?_
    rw [show (divQ k cs).getD i 0 = (cs.getD i 0).tdiv k from getD_map0 cs _ (by simp) i]
    have hm := hd (cs.getD i 0) (by rw [List.getD_eq_getElem?_getD, List.getElem?_eq_getElem hi]; exact List.getElem_mem hi)
    have := Int.mul_tdiv_add_tmod (cs.getD i 0) k
    omega
  rw [hl, hs]
  generalize sumK (divQ k cs) bits cs.length = s
  have key : (upQ b k ≤ s) ↔ b ≤ k * s := by
    unfold upQ
    constructor
    · intro h
      have h1 : -s ≤ (-b) / k := by omega
      have h2 := (Int.le_ediv_iff_mul_le hk).1 h1
      have e : -s * k = -(k * s) := by rw [Int.neg_mul, Int.mul_comm]
      omega
    · intro h
      have e : -s * k = -(k * s) := by rw [Int.neg_mul, Int.mul_comm]
      have h1 : -s ≤ (-b) / k := (Int.le_ediv_iff_mul_le hk).2 (by omega)
      omega
  by_cases h : upQ b k ≤ s
  · rw [decide_eq_true h, decide_eq_true (key.1 h)]
  · rw [decide_eq_false h, decide_eq_false (fun hh => h (key.2 hh))]

/-- The least and the greatest left side. -/
def lowK (cs : List Int) : Nat → Int
  | 0 => 0
  | k + 1 => lowK cs k + (if cs.getD k 0 < 0 then cs.getD k 0 else 0)
def highK (cs : List Int) : Nat → Int
  | 0 => 0
  | k + 1 => highK cs k + (if 0 < cs.getD k 0 then cs.getD k 0 else 0)
theorem sum_range (cs : List Int) (bits : Nat) : ∀ k, lowK cs k ≤ sumK cs bits k ∧ sumK cs bits k ≤ highK cs k
  | 0 => by simp [sumK, lowK, highK]
  | k + 1 => by
    have h := sum_range cs bits k
    simp only [sumK, lowK, highK]
    split <;> split <;> split <;> omega

/-- Whether a clause is true at bits. -/
def litT (bits : Nat) (l : Int) : Bool := bits.testBit (l.natAbs - 1) == decide (0 < l)
def clT (c : List Int) (bits : Nat) : Bool := c.any (litT bits)
/-- The coefficients and the bound of a clause. -/
def clQ (vars : Nat) (c : List Int) : List Int × Int := c.foldl (fun q l => if 0 < l then (q.1.set (l.natAbs - 1) 1, q.2) else (q.1.set (l.natAbs - 1) (-1), q.2 - 1)) (List.replicate vars 0, 1)
theorem sumK_set {cs : List Int} {j : Nat} (x : Int) (bits : Nat) (hj : j < cs.length) : ∀ k : Nat, sumK (cs.set j x) bits k = sumK cs bits k + (if j < k ∧ bits.testBit j = true then x - cs.getD j 0 else 0)
  | 0 => by simp [sumK]
  | k + 1 => by
    have ih := sumK_set x bits hj k
    simp only [sumK]
    rw [ih]
    have hg : (cs.set j x).getD k 0 = if j = k then x else cs.getD k 0 := by
      rw [List.getD_eq_getElem?_getD, List.getD_eq_getElem?_getD, List.getElem?_set]
      by_cases e : j = k
      · subst e; simp [hj]
      · simp [e]
    rw [hg]
    by_cases ht : bits.testBit j = true
    · simp only [ht, and_true]
      by_cases e : j = k
      · subst e
        simp only [ht, if_true, Nat.lt_irrefl, if_false, Nat.lt_add_one]
        omega
      · simp only [e, if_false]
        by_cases hlt : j < k
        · simp only [hlt, if_true, (by omega : j < k + 1)]
          omega
        · rw [if_neg hlt, if_neg (show ¬ j < k + 1 by omega)]; omega
    · simp only [ht, and_false, if_false, Int.add_zero, Bool.false_eq_true]
      by_cases e : j = k
      · subst e; simp [ht]
      · simp [e]
/-- The literals of a clause lie in range and have different variables. -/
def Apart (vars : Nat) (c : List Int) : Prop := (∀ l ∈ c, l ≠ 0 ∧ l.natAbs ≤ vars) ∧ c.Pairwise (fun a b => a.natAbs ≠ b.natAbs)
/-- How many literals are true. -/
def trueN (c : List Int) (bits : Nat) : Nat := c.countP (litT bits)
theorem clQ_gen (vars bits : Nat) : ∀ (c : List Int) (q : List Int × Int), q.1.length = vars → Apart vars c → (∀ l ∈ c, q.1.getD (l.natAbs - 1) 0 = 0) →
    (c.foldl (fun q l => if 0 < l then (q.1.set (l.natAbs - 1) 1, q.2) else (q.1.set (l.natAbs - 1) (-1), q.2 - 1)) q).1.length = vars ∧
    sumK (c.foldl (fun q l => if 0 < l then (q.1.set (l.natAbs - 1) 1, q.2) else (q.1.set (l.natAbs - 1) (-1), q.2 - 1)) q).1 bits vars - (c.foldl (fun q l => if 0 < l then (q.1.set (l.natAbs - 1) 1, q.2) else (q.1.set (l.natAbs - 1) (-1), q.2 - 1)) q).2 = sumK q.1 bits vars - q.2 + trueN c bits
  | [], q, hl, _, _ => by simp [trueN, hl]
  | l :: c, q, hl, hA, hz => by
    obtain ⟨h1, h2⟩ := hA
    rw [List.pairwise_cons] at h2
    obtain ⟨hl0, hlv⟩ := h1 l (by simp)
    have hj : l.natAbs - 1 < q.1.length := by omega
    have hA' : Apart vars c := ⟨fun a ha => h1 a (by simp [ha]), h2.2⟩
    have hzl := hz l (by simp)
    have hget : ∀ x a, a ∈ c → (q.1.set (l.natAbs - 1) x).getD (a.natAbs - 1) 0 = 0 := fun x a ha => by
      have hne := h2.1 a ha
      have ha1 := h1 a (by simp [ha])
      rw [List.getD_eq_getElem?_getD, List.getElem?_set, if_neg (by omega), ← List.getD_eq_getElem?_getD]
      exact hz a (by simp [ha])
    have ht : trueN (l :: c) bits = trueN c bits + (if litT bits l then 1 else 0) := by simp [trueN, List.countP_cons]
    rw [List.foldl_cons, ht]
    by_cases hp : 0 < l
    · rw [if_pos hp]
      have ih := clQ_gen vars bits c (q.1.set (l.natAbs - 1) 1, q.2) (by simp [hl]) hA' (hget 1)
      refine ⟨ih.1, ?_⟩
      rw [ih.2, sumK_set 1 bits hj vars, hzl]
      have hlit : litT bits l = bits.testBit (l.natAbs - 1) := by simp [litT, hp]
      rw [hlit]
      by_cases hb : bits.testBit (l.natAbs - 1) = true
      · simp only [hb, and_true, if_true, (by omega : l.natAbs - 1 < vars)]; omega
      · simp only [hb, and_false, if_false, Bool.false_eq_true]; omega
    · rw [if_neg hp]
      have ih := clQ_gen vars bits c (q.1.set (l.natAbs - 1) (-1), q.2 - 1) (by simp [hl]) hA' (hget (-1))
      refine ⟨ih.1, ?_⟩
      rw [ih.2, sumK_set (-1) bits hj vars, hzl]
      have hlit : litT bits l = !(bits.testBit (l.natAbs - 1)) := by simp [litT, hp]
      rw [hlit]
      by_cases hb : bits.testBit (l.natAbs - 1) = true
      · simp only [hb, and_true, if_true, (by omega : l.natAbs - 1 < vars), Bool.not_true, Bool.false_eq_true, if_false]; omega
      · simp only [hb, and_false, if_false, Bool.false_eq_true, Bool.not_false, if_true]; omega
theorem clQ_holds {vars : Nat} {c : List Int} (h : Apart vars c) (bits : Nat) : (clQ vars c).1.length = vars ∧ holdsQ (clQ vars c).1 (clQ vars c).2 bits = clT c bits := by
  have hg := clQ_gen vars bits c (List.replicate vars 0, 1) (by simp) h (fun l hl => by
    rw [List.getD_eq_getElem?_getD, List.getElem?_replicate]
    split <;> rfl)
  have hz : ∀ k, sumK (List.replicate vars 0) bits k = 0 := fun k => by
    induction k with
    | zero => rfl
    | succ k ih =>
      simp only [sumK, ih]
      rw [List.getD_eq_getElem?_getD, List.getElem?_replicate]
      split <;> (try split) <;> rfl
  refine ⟨hg.1, ?_⟩
  have h2 := hg.2
  rw [hz] at h2
  unfold holdsQ
  have h1 : (clQ vars c).1.length = vars := hg.1
  rw [h1]
  have h3 : sumK (clQ vars c).1 bits vars - (clQ vars c).2 = 0 - 1 + (trueN c bits : Int) := h2
  have h4 : clT c bits = decide (0 < trueN c bits) := by
    unfold clT trueN
    rw [Bool.eq_iff_iff, List.any_eq_true, decide_eq_true_eq, List.countP_pos_iff]
  rw [h4]
  by_cases hp : 0 < trueN c bits
  · rw [decide_eq_true hp, decide_eq_true (by omega)]
  · rw [decide_eq_false hp, decide_eq_false (by omega)]
end Go.Proofs.Ytcdgpekefiplnaa
