/- Lemmas and contracts for a law, put together out of several texts: PlA PnA RepA MemA SepA SepB MemB OwnB PnB. -/
import Derived.WalkKit
import Derived.Lib.ItoaNum
import Derived.Below
import Derived.Lib.QuietBelow
import Derived.BigQuiet
import Derived.Maps.AppendAt
import Derived.Test.YtnfjgebfmnpkbaaGreatProg
import Derived.WalkLawsBesides
import Derived.WalkSpells
/- Plain facts on byte strings: no program in sight. -/
namespace Go.Proofs.YtnfjgebfmnpkbaaGreat

/-- The bytes of a string. -/
def bl (s : ByteArray) : List UInt8 := s.data.toList
/-- The string of some bytes. -/
def ms (l : List UInt8) : ByteArray := ⟨l.toArray⟩

@[go_sem] theorem bl_ms (l : List UInt8) : bl (ms l) = l := rfl
theorem ms_bl (s : ByteArray) : ms (bl s) = s := rfl
theorem bl_length (s : ByteArray) : (bl s).length = s.size := rfl
theorem bl_lit (a : Array UInt8) : bl ⟨a⟩ = a.toList := rfl
theorem bl_inj {s t : ByteArray} (h : bl s = bl t) : s = t := by
  have := congrArg ms h
  simpa [ms_bl] using this
theorem bl_append (s t : ByteArray) : bl (s ++ t) = bl s ++ bl t := by simp [bl]
theorem bl_mk (l : List UInt8) : bl ⟨l.toArray⟩ = l := rfl
theorem bl_extract (s : ByteArray) (a b : Nat) : bl (s.extract a b) = ((bl s).drop a).take (b - a) := by
  simp [bl, ByteArray.data_extract, List.extract_eq_take_drop]
@[go_sem] theorem bl_toList (s : ByteArray) : s.toList = bl s := ByteArray.toList_eq s
@[go_sem] theorem ms_size (l : List UInt8) : (ms l).size = l.length := rfl
theorem bl_get (s : ByteArray) (k : Nat) (h : k < s.size) : (bl s)[k]'(by rw [bl_length]; exact h) = s[k] := rfl
theorem bl_take_succ (s : ByteArray) (k : Nat) (h : k < s.size) : (bl s).take (k + 1) = (bl s).take k ++ [s[k]] := by
  rw [List.take_succ_eq_append_getElem (by rw [bl_length]; exact h), bl_get s k h]
theorem bl_take_all (s : ByteArray) (k : Nat) (h : s.size ≤ k) : (bl s).take k = bl s := List.take_of_length_le (by rw [bl_length]; exact h)

theorem run_add {P : Program} (w : World) (s t : ByteArray) (h : s.size + t.size ≤ 9223372036854775807) : (Op.stringOp .add s t).run P w = .ok (.string (ms (bl s ++ bl t))) w := by
  rw [run_string_add_sum _ _ _ h]
  congr 2

/-- a ≤ x ≤ b. -/
def inB (x a b : Int) : Bool := decide (a ≤ x) && decide (x ≤ b)
theorem inB_true {x a b : Int} : inB x a b = true ↔ a ≤ x ∧ x ≤ b := by simp [inB]
theorem inB_false {x a b : Int} : inB x a b = false ↔ ¬ (a ≤ x ∧ x ≤ b) := by rw [← inB_true]; simp

/-- A byte is among the bytes. -/
def hasB (l : List UInt8) (b : Int) : Bool := l.any fun c => (c.toNat : Int) == b
theorem hasB_snoc (l : List UInt8) (c : UInt8) (b : Int) : hasB (l ++ [c]) b = (hasB l b || ((c.toNat : Int) == b)) := by simp [hasB]
theorem hasB_true_of_take {l : List UInt8} {k : Nat} {b : Int} (h : hasB (l.take k) b = true) : hasB l b = true := by
  simp only [hasB, List.any_eq_true] at *
  obtain ⟨x, hx, e⟩ := h
  exact ⟨x, List.mem_of_mem_take hx, e⟩

/-- Bytes that may stand in a record: 32..126, no '#'. -/
def okB (c : UInt8) : Bool := inB c.toNat 32 126 && !((c.toNat : Int) == 35)
def allB (l : List UInt8) : Bool := l.all okB
theorem allB_snoc (l : List UInt8) (c : UInt8) : allB (l ++ [c]) = (allB l && okB c) := by simp [allB]
theorem allB_false_of_take {l : List UInt8} {k : Nat} (h : allB (l.take k) = false) : allB l = false := by
  rw [← List.take_append_drop k l]
  simp only [allB, List.all_append] at *
  rw [h]; rfl
def plainB (l : List UInt8) (most : Int) : Bool := allB l && decide ((l.length : Int) ≤ most)
/-- Bytes in 32..126. -/
def seenB (l : List UInt8) : Bool := l.all fun c => inB c.toNat 32 126
theorem seenB_snoc (l : List UInt8) (c : UInt8) : seenB (l ++ [c]) = (seenB l && inB c.toNat 32 126) := by simp [seenB]
theorem seenB_false_of_take {l : List UInt8} {k : Nat} (h : seenB (l.take k) = false) : seenB l = false := by
  rw [← List.take_append_drop k l]
  simp only [seenB, List.all_append] at *
  rw [h]; rfl

theorem ret_int {k : IntKind} {a b : Int} (h : a = b) : Ending.returned (.int k a) = .returned (.int k b) := by rw [h]
theorem ret_bool {a b : Bool} (h : a = b) : Ending.returned (.bool a) = .returned (.bool b) := by rw [h]

theorem bcell {W w1 : World} (hb : RowKit.Below W.heap.size W w1) : (∀ b o, b < W.heap.size → w1.cell? ⟨b, o, none⟩ = W.cell? ⟨b, o, none⟩) ∧ (∀ b o, b < W.heap.size → w1.frozen? ⟨b, o, none⟩ = W.frozen? ⟨b, o, none⟩) :=
  ⟨fun b o h => hb.cell (p := ⟨b, o, none⟩) h, fun b o h => hb.frozen (p := ⟨b, o, none⟩) h⟩
theorem bb (W : World) : RowKit.Below W.heap.size W W := RowKit.Below.refl _ _
theorem bal {W w : World} (h : RowKit.Below W.heap.size W w) (o : Obj) : RowKit.Below W.heap.size W (w.alloc o) := h.alloc h.size o
theorem bst {W w : World} (h : RowKit.Below W.heap.size W w) {p : Addr} (hp : W.heap.size ≤ p.block) (u : Value) : RowKit.Below W.heap.size W (w.setCell p u) := h.setCell hp u
theorem btr {W w w' : World} (h : RowKit.Below W.heap.size W w) (h' : RowKit.Below w.heap.size w w') : RowKit.Below W.heap.size W w' := h.trans (h'.mono h.size)
theorem bdr {W w : World} (h : RowKit.Below W.heap.size W w) : RowKit.Below W.heap.size W w.drew := h.drew
/-- What a step of a region does to the lists that it carries: one name for all the rules. -/
theorem put_rules : (∀ (l : List Oper) (i : Nat) (h : i < l.toArray.size), l.toArray[i]'h = l[i]'(by simpa using h)) ∧ (∀ (o : Oper) (l : List Oper) (h : 0 < (o :: l).length), (o :: l)[0]'h = o) ∧ (∀ (o : Oper) (l : List Oper) (n : Nat) (h : n + 1 < (o :: l).length), (o :: l)[n + 1]'h = l[n]'(Nat.lt_of_succ_lt_succ h)) ∧ (∀ (a : Act) (d : Tmp) (v : Value), a.put (some d) v = { a with tmps := a.tmps.setIfInBounds d v }) ∧ (∀ (a : Act) (v : Value), a.put none v = a) ∧ (∀ (l : List Bool) (i : Nat) (b : Bool), l.toArray.setIfInBounds i b = (l.set i b).toArray) ∧ (∀ (l : List Value) (i : Nat) (b : Value), l.toArray.setIfInBounds i b = (l.set i b).toArray) ∧
    (∀ (a b : Bool) (l : List Bool), (a :: l).set 0 b = b :: l) ∧ (∀ (a b : Value) (l : List Value), (a :: l).set 0 b = b :: l) ∧
    (∀ (a b : Bool) (l : List Bool) (n : Nat), (a :: l).set (n + 1) b = a :: l.set n b) ∧ (∀ (a b : Value) (l : List Value) (n : Nat), (a :: l).set (n + 1) b = a :: l.set n b) :=
  ⟨fun _ _ _ => rfl, fun _ _ _ => rfl, fun _ _ _ _ => rfl, fun _ _ _ => rfl, fun _ _ => rfl, fun _ _ _ => List.setIfInBounds_toArray .., fun _ _ _ => List.setIfInBounds_toArray .., fun _ _ _ => rfl, fun _ _ _ => rfl, fun _ _ _ _ => rfl, fun _ _ _ _ => rfl⟩
end Go.Proofs.YtnfjgebfmnpkbaaGreat

/- Plain facts: inequalities over bits. No program in sight. -/
namespace Go.Proofs.YtnfjgebfmnpkbaaGreat

/-- The left side of an inequality up to a place, at bits. -/
def sumK (cs : List Int) (bits : Nat) : Nat → Int
  | 0 => 0
  | k + 1 => sumK cs bits k + (if bits.testBit k then cs.getD k 0 else 0)
def holdsQ (cs : List Int) (b : Int) (bits : Nat) : Bool := decide (b ≤ sumK cs bits cs.length)
def coefB (c : Int) : Bool := inB c (-1000) 1000
def goodQ (vars b : Int) (cs : List Int) : Bool := inB vars 0 12 && decide ((cs.length : Int) = vars) && inB b (-10000) 10000 && cs.all coefB
theorem good_q {vars b : Int} {cs : List Int} (h : goodQ vars b cs = true) : (0 ≤ vars ∧ vars ≤ 12) ∧ (cs.length : Int) = vars ∧ (-10000 ≤ b ∧ b ≤ 10000) ∧ ∀ c ∈ cs, -1000 ≤ c ∧ c ≤ 1000 := by
  unfold goodQ at h
  simp only [Bool.and_eq_true, inB, decide_eq_true_eq, List.all_eq_true, coefB] at h
  obtain ⟨⟨⟨h1, h2⟩, h3⟩, h4⟩ := h
  exact ⟨by simpa using h1, h2, by simpa using h3, fun c hc => by simpa using h4 c hc⟩
theorem getD_bound {cs : List Int} {m : Int} (hm : 0 ≤ m) (h : ∀ c ∈ cs, -m ≤ c ∧ c ≤ m) (k : Nat) : -m ≤ cs.getD k 0 ∧ cs.getD k 0 ≤ m := by
  rw [List.getD_eq_getElem?_getD]
  rcases Nat.lt_or_ge k cs.length with hk | hk
  · rw [List.getElem?_eq_getElem hk]; exact h _ (List.getElem_mem hk)
  · rw [List.getElem?_eq_none hk]; simp; omega
theorem sumK_bound {cs : List Int} {m : Int} (hm : 0 ≤ m) (h : ∀ c ∈ cs, -m ≤ c ∧ c ≤ m) (bits : Nat) : ∀ k : Nat, -(m * k) ≤ sumK cs bits k ∧ sumK cs bits k ≤ m * k
  | 0 => by simp [sumK]
  | k + 1 => by
    have h1 := sumK_bound hm h bits k
    have h2 := getD_bound hm h k
    have e : m * ((k + 1 : Nat) : Int) = m * k + m := by rw [Int.natCast_add, Int.mul_add]; simp
    rw [e]
    simp only [sumK]
    split <;> omega
theorem sumK_add {cs ds es : List Int} (bits : Nat) : ∀ k : Nat, (∀ i, i < k → es.getD i 0 = cs.getD i 0 + ds.getD i 0) → sumK es bits k = sumK cs bits k + sumK ds bits k
  | 0, _ => by simp [sumK]
  | k + 1, h => by
    have h1 := sumK_add bits k (fun i hi => h i (by omega))
    have h2 := h k (by omega)
    simp only [sumK]
    rw [h1]
    split
    · rw [h2]; omega
    · omega
theorem sumK_mul {cs ds : List Int} (m : Int) (bits : Nat) : ∀ k : Nat, (∀ i, i < k → cs.getD i 0 = m * ds.getD i 0) → sumK cs bits k = m * sumK ds bits k
  | 0, _ => by simp [sumK]
  | k + 1, h => by
    have h1 := sumK_mul m bits k (fun i hi => h i (by omega))
    have h2 := h k (by omega)
    simp only [sumK]
    rw [h1, Int.mul_add]
    split
    · rw [h2]
    · simp
theorem sumK_congr {cs ds : List Int} (bits : Nat) (k : Nat) (h : ∀ i, i < k → cs.getD i 0 = ds.getD i 0) : sumK cs bits k = sumK ds bits k := by
  have := sumK_mul (cs := cs) (ds := ds) 1 bits k (fun i hi => by rw [Int.one_mul]; exact h i hi)
  rwa [Int.one_mul] at this

/-- The sum of two. -/
def addQ (cs ds : List Int) : List Int := (List.range cs.length).map fun i => cs.getD i 0 + ds.getD i 0
/-- Some times an inequality. -/
def mulQ (m : Int) (cs : List Int) : List Int := cs.map fun c => m * c
def divQ (m : Int) (cs : List Int) : List Int := cs.map fun c => c.tdiv m
theorem getD_map0 (cs : List Int) (f : Int → Int) (hf : f 0 = 0) (i : Nat) : (cs.map f).getD i 0 = f (cs.getD i 0) := by
  rw [List.getD_eq_getElem?_getD, List.getD_eq_getElem?_getD, List.getElem?_map]
  cases cs[i]? <;> simp [hf]
theorem addQ_holds {cs ds : List Int} {b e : Int} {bits : Nat} (hl : ds.length = cs.length) (h1 : holdsQ cs b bits = true) (h2 : holdsQ ds e bits = true) : holdsQ (addQ cs ds) (b + e) bits = true := by
  unfold holdsQ at *
  rw [decide_eq_true_eq] at *
  have hl2 : (addQ cs ds).length = cs.length := by simp [addQ]
  rw [hl2, sumK_add (cs := cs) (ds := ds) bits cs.length (fun i hi => by simp [addQ, List.getD_eq_getElem?_getD, hi])]
  rw [hl] at h2
  omega
theorem negQ_holds {cs : List Int} {b : Int} {bits : Nat} : holdsQ (mulQ (-1) cs) (1 - b) bits = !(holdsQ cs b bits) := by
  unfold holdsQ
  have hl : (mulQ (-1) cs).length = cs.length := by simp [mulQ]
  have hs : sumK (mulQ (-1) cs) bits cs.length = -1 * sumK cs bits cs.length := sumK_mul (-1) bits cs.length fun i _ => getD_map0 cs _ (by simp) i
  rw [hl, hs]
  by_cases h : b ≤ sumK cs bits cs.length
  · rw [decide_eq_true h, decide_eq_false (by omega)]; rfl
  · rw [decide_eq_false h, decide_eq_true (by omega)]; rfl
/-- A quotient, rounded up. -/
def upQ (b k : Int) : Int := -((-b) / k)
theorem divQ_holds {cs : List Int} {b k : Int} {bits : Nat} (hk : 0 < k) (hd : ∀ c ∈ cs, c.tmod k = 0) : holdsQ (divQ k cs) (upQ b k) bits = holdsQ cs b bits := by
  unfold holdsQ
  have hl : (divQ k cs).length = cs.length := by simp [divQ]
  have hs : sumK cs bits cs.length = k * sumK (divQ k cs) bits cs.length := by
    refine sumK_mul k bits cs.length fun i hi => ?_
    rw [show (divQ k cs).getD i 0 = (cs.getD i 0).tdiv k from getD_map0 cs _ (by simp) i]
    have hm := hd (cs.getD i 0) (by rw [List.getD_eq_getElem?_getD, List.getElem?_eq_getElem hi]; exact List.getElem_mem hi)
    have := Int.mul_tdiv_add_tmod (cs.getD i 0) k
    omega
  rw [hl, hs]
  generalize sumK (divQ k cs) bits cs.length = s
  have key : (upQ b k ≤ s) ↔ b ≤ k * s := by
    unfold upQ
    constructor
    · intro h
      have h1 : -s ≤ (-b) / k := by omega
      have h2 := (Int.le_ediv_iff_mul_le hk).1 h1
      have e : -s * k = -(k * s) := by rw [Int.neg_mul, Int.mul_comm]
      omega
    · intro h
      have e : -s * k = -(k * s) := by rw [Int.neg_mul, Int.mul_comm]
      have h1 : -s ≤ (-b) / k := (Int.le_ediv_iff_mul_le hk).2 (by omega)
      omega
  by_cases h : upQ b k ≤ s
  · rw [decide_eq_true h, decide_eq_true (key.1 h)]
  · rw [decide_eq_false h, decide_eq_false (fun hh => h (key.2 hh))]

/-- The least and the greatest left side. -/
def lowK (cs : List Int) : Nat → Int
  | 0 => 0
  | k + 1 => lowK cs k + (if cs.getD k 0 < 0 then cs.getD k 0 else 0)
def highK (cs : List Int) : Nat → Int
  | 0 => 0
  | k + 1 => highK cs k + (if 0 < cs.getD k 0 then cs.getD k 0 else 0)
theorem sum_range (cs : List Int) (bits : Nat) : ∀ k, lowK cs k ≤ sumK cs bits k ∧ sumK cs bits k ≤ highK cs k
  | 0 => by simp [sumK, lowK, highK]
  | k + 1 => by
    have h := sum_range cs bits k
    simp only [sumK, lowK, highK]
    split <;> split <;> split <;> omega

/-- Whether a clause is true at bits. -/
def litT (bits : Nat) (l : Int) : Bool := bits.testBit (l.natAbs - 1) == decide (0 < l)
def clT (c : List Int) (bits : Nat) : Bool := c.any (litT bits)
/-- The coefficients and the bound of a clause. -/
def clQ (vars : Nat) (c : List Int) : List Int × Int := c.foldl (fun q l => if 0 < l then (q.1.set (l.natAbs - 1) 1, q.2) else (q.1.set (l.natAbs - 1) (-1), q.2 - 1)) (List.replicate vars 0, 1)
theorem sumK_set {cs : List Int} {j : Nat} (x : Int) (bits : Nat) (hj : j < cs.length) : ∀ k : Nat, sumK (cs.set j x) bits k = sumK cs bits k + (if j < k ∧ bits.testBit j = true then x - cs.getD j 0 else 0)
  | 0 => by simp [sumK]
  | k + 1 => by
    have ih := sumK_set x bits hj k
    simp only [sumK]
    rw [ih]
    have hg : (cs.set j x).getD k 0 = if j = k then x else cs.getD k 0 := by
      rw [List.getD_eq_getElem?_getD, List.getD_eq_getElem?_getD, List.getElem?_set]
      by_cases e : j = k
      · subst e; simp [hj]
      · simp [e]
    rw [hg]
    by_cases ht : bits.testBit j = true
    · simp only [ht, and_true]
      by_cases e : j = k
      · subst e
        simp only [ht, if_true, Nat.lt_irrefl, if_false, Nat.lt_add_one]
        omega
      · simp only [e, if_false]
        by_cases hlt : j < k
        · simp only [hlt, if_true, (by omega : j < k + 1)]
          omega
        · rw [if_neg hlt, if_neg (show ¬ j < k + 1 by omega)]; omega
    · simp only [ht, and_false, if_false, Int.add_zero, Bool.false_eq_true]
      by_cases e : j = k
      · subst e; simp [ht]
      · simp [e]
/-- The literals of a clause lie in range and have different variables. -/
def Apart (vars : Nat) (c : List Int) : Prop := (∀ l ∈ c, l ≠ 0 ∧ l.natAbs ≤ vars) ∧ c.Pairwise (fun a b => a.natAbs ≠ b.natAbs)
/-- How many literals are true. -/
def trueN (c : List Int) (bits : Nat) : Nat := c.countP (litT bits)
theorem clQ_gen (vars bits : Nat) : ∀ (c : List Int) (q : List Int × Int), q.1.length = vars → Apart vars c → (∀ l ∈ c, q.1.getD (l.natAbs - 1) 0 = 0) →
    (c.foldl (fun q l => if 0 < l then (q.1.set (l.natAbs - 1) 1, q.2) else (q.1.set (l.natAbs - 1) (-1), q.2 - 1)) q).1.length = vars ∧
    sumK (c.foldl (fun q l => if 0 < l then (q.1.set (l.natAbs - 1) 1, q.2) else (q.1.set (l.natAbs - 1) (-1), q.2 - 1)) q).1 bits vars - (c.foldl (fun q l => if 0 < l then (q.1.set (l.natAbs - 1) 1, q.2) else (q.1.set (l.natAbs - 1) (-1), q.2 - 1)) q).2 = sumK q.1 bits vars - q.2 + trueN c bits
  | [], q, hl, _, _ => by simp [trueN, hl]
  | l :: c, q, hl, hA, hz => by
    obtain ⟨h1, h2⟩ := hA
    rw [List.pairwise_cons] at h2
    obtain ⟨hl0, hlv⟩ := h1 l (by simp)
    have hj : l.natAbs - 1 < q.1.length := by omega
    have hA' : Apart vars c := ⟨fun a ha => h1 a (by simp [ha]), h2.2⟩
    have hzl := hz l (by simp)
    have hget : ∀ x a, a ∈ c → (q.1.set (l.natAbs - 1) x).getD (a.natAbs - 1) 0 = 0 := fun x a ha => by
      have hne := h2.1 a ha
      have ha1 := h1 a (by simp [ha])
      rw [List.getD_eq_getElem?_getD, List.getElem?_set, if_neg (by omega), ← List.getD_eq_getElem?_getD]
      exact hz a (by simp [ha])
    have ht : trueN (l :: c) bits = trueN c bits + (if litT bits l then 1 else 0) := by simp [trueN, List.countP_cons]
    rw [List.foldl_cons, ht]
    by_cases hp : 0 < l
    · rw [if_pos hp]
      have ih := clQ_gen vars bits c (q.1.set (l.natAbs - 1) 1, q.2) (by simp [hl]) hA' (hget 1)
      refine ⟨ih.1, ?_⟩
      rw [ih.2, sumK_set 1 bits hj vars, hzl]
      have hlit : litT bits l = bits.testBit (l.natAbs - 1) := by simp [litT, hp]
      rw [hlit]
      by_cases hb : bits.testBit (l.natAbs - 1) = true
      · simp only [hb, and_true, if_true, (by omega : l.natAbs - 1 < vars)]; omega
      · simp only [hb, and_false, if_false, Bool.false_eq_true]; omega
    · rw [if_neg hp]
      have ih := clQ_gen vars bits c (q.1.set (l.natAbs - 1) (-1), q.2 - 1) (by simp [hl]) hA' (hget (-1))
      refine ⟨ih.1, ?_⟩
      rw [ih.2, sumK_set (-1) bits hj vars, hzl]
      have hlit : litT bits l = !(bits.testBit (l.natAbs - 1)) := by simp [litT, hp]
      rw [hlit]
      by_cases hb : bits.testBit (l.natAbs - 1) = true
      · simp only [hb, and_true, if_true, (by omega : l.natAbs - 1 < vars), Bool.not_true, Bool.false_eq_true, if_false]; omega
      · simp only [hb, and_false, if_false, Bool.false_eq_true, Bool.not_false, if_true]; omega
theorem clQ_holds {vars : Nat} {c : List Int} (h : Apart vars c) (bits : Nat) : (clQ vars c).1.length = vars ∧ holdsQ (clQ vars c).1 (clQ vars c).2 bits = clT c bits := by
  have hg := clQ_gen vars bits c (List.replicate vars 0, 1) (by simp) h (fun l hl => by
    rw [List.getD_eq_getElem?_getD, List.getElem?_replicate]
    split <;> rfl)
  have hz : ∀ k, sumK (List.replicate vars 0) bits k = 0 := fun k => by
    induction k with
    | zero => rfl
    | succ k ih =>
      simp only [sumK, ih]
      rw [List.getD_eq_getElem?_getD, List.getElem?_replicate]
      split <;> (try split) <;> rfl
  refine ⟨hg.1, ?_⟩
  have h2 := hg.2
  rw [hz] at h2
  unfold holdsQ
  have h1 : (clQ vars c).1.length = vars := hg.1
  rw [h1]
  have h3 : sumK (clQ vars c).1 bits vars - (clQ vars c).2 = 0 - 1 + (trueN c bits : Int) := h2
  have h4 : clT c bits = decide (0 < trueN c bits) := by
    unfold clT trueN
    rw [Bool.eq_iff_iff, List.any_eq_true, decide_eq_true_eq, List.countP_pos_iff]
  rw [h4]
  by_cases hp : 0 < trueN c bits
  · rw [decide_eq_true hp, decide_eq_true (by omega)]
  · rw [decide_eq_false hp, decide_eq_false (by omega)]
end Go.Proofs.YtnfjgebfmnpkbaaGreat

/- How Go values hold data in memory, with the blocks that are reached. No program in sight. -/
namespace Go.Proofs.YtnfjgebfmnpkbaaGreat
open Go.RowKit

/-- A number that fits an int. -/
def I64 (n : Int) : Prop := -9223372036854775808 ≤ n ∧ n ≤ 9223372036854775807

/-- The cell at offset o of block b holds v; where wr, it may be written. -/
def cellIs (wr : Bool) (w : World) (b o : Nat) (v : Value) : Prop :=
  w.cell? ⟨b, o, none⟩ = some v ∧ (wr = true → w.frozen? ⟨b, o, none⟩ = false)

theorem cellIs.keep {wr : Bool} {w w' : World} {b o : Nat} {v : Value} (h : cellIs wr w b o v) (hb : w'.heap[b]? = w.heap[b]?) : cellIs wr w' b o v :=
  ⟨by rw [World.cell?_of_block (w := w) hb]; exact h.1, fun e => by rw [World.frozen?_of_block (w := w) hb]; exact h.2 e⟩
theorem cellIs.down {w : World} {b o : Nat} {v : Value} {wr : Bool} (h : cellIs wr w b o v) : cellIs false w b o v := ⟨h.1, fun e => by cases e⟩
theorem cellIs.lt {w : World} {b o : Nat} {v : Value} {wr : Bool} (h : cellIs wr w b o v) : b < w.heap.size := World.block_lt_of_cell? w _ h.1

/-- How a Go type holds data of type α in 'size' cells; the last argument: the blocks that are reached, one for each slice that is not empty. -/
structure Ty (α : Type) where
  size : Nat
  rep : Bool → World → List Value → α → List Nat → Prop
  len : ∀ {wr w cs x F}, rep wr w cs x F → cs.length = size
  lt : ∀ {wr w cs x F}, rep wr w cs x F → ∀ b ∈ F, b < w.heap.size
  keep : ∀ {wr w w' cs x F}, rep wr w cs x F → (∀ b ∈ F, w'.heap[b]? = w.heap[b]?) → rep wr w' cs x F
  down : ∀ {wr w cs x F}, rep wr w cs x F → rep false w cs x F

def Ty.int : Ty Int where
  size := 1
  rep _ _ cs n F := cs = [.int .i64 n] ∧ I64 n ∧ F = []
  len h := by obtain ⟨rfl, _, _⟩ := h; rfl
  lt h := by obtain ⟨_, _, rfl⟩ := h; simp
  keep h _ := h
  down h := h
def Ty.bool : Ty Bool where
  size := 1
  rep _ _ cs n F := cs = [.bool n] ∧ F = []
  len h := by obtain ⟨rfl, _⟩ := h; rfl
  lt h := by obtain ⟨_, rfl⟩ := h; simp
  keep h _ := h
  down h := h
def Ty.str : Ty ByteArray where
  size := 1
  rep _ _ cs s F := cs = [.string s] ∧ s.size ≤ 9223372036854775807 ∧ F = []
  len h := by obtain ⟨rfl, _, _⟩ := h; rfl
  lt h := by obtain ⟨_, _, rfl⟩ := h; simp
  keep h _ := h
  down h := h
def Ty.pair {α β : Type} (T : Ty α) (U : Ty β) : Ty (α × β) where
  size := T.size + U.size
  rep wr w cs x F := ∃ c d F1 F2, cs = c ++ d ∧ F = F1 ++ F2 ∧ T.rep wr w c x.1 F1 ∧ U.rep wr w d x.2 F2
  len h := by obtain ⟨c, d, F1, F2, rfl, _, h1, h2⟩ := h; simp [T.len h1, U.len h2]
  lt h := by
    obtain ⟨c, d, F1, F2, _, rfl, h1, h2⟩ := h
    intro b hb
    rcases List.mem_append.1 hb with hb | hb
    · exact T.lt h1 b hb
    · exact U.lt h2 b hb
  keep h hk := by
    obtain ⟨c, d, F1, F2, e1, rfl, h1, h2⟩ := h
    exact ⟨c, d, F1, F2, e1, rfl, T.keep h1 fun b hb => hk b (List.mem_append.2 (.inl hb)), U.keep h2 fun b hb => hk b (List.mem_append.2 (.inr hb))⟩
  down h := by
    obtain ⟨c, d, F1, F2, e1, e2, h1, h2⟩ := h
    exact ⟨c, d, F1, F2, e1, e2, T.down h1, U.down h2⟩
/-- The same cells, the data told otherwise. -/
def Ty.as {α β : Type} (T : Ty α) (g : β → α) : Ty β where
  size := T.size
  rep wr w cs x F := T.rep wr w cs (g x) F
  len h := T.len h
  lt h := T.lt h
  keep h hk := T.keep h hk
  down h := T.down h

section all
variable {α : Type} (T : Ty α)
/-- Cells that hold a list of elements, one behind the other. -/
def Ty.all (wr : Bool) (w : World) : List Value → List α → List Nat → Prop
  | cs, [], F => cs = [] ∧ F = []
  | cs, x :: xs, F => ∃ c d F1 F2, cs = c ++ d ∧ F = F1 ++ F2 ∧ T.rep wr w c x F1 ∧ Ty.all wr w d xs F2

variable {T}
theorem Ty.all_len {wr : Bool} {w : World} : ∀ {cs : List Value} {xs : List α} {F : List Nat}, T.all wr w cs xs F → cs.length = xs.length * T.size
  | _, [], _, h => by obtain ⟨rfl, _⟩ := h; simp
  | _, x :: xs, _, h => by
    obtain ⟨c, d, F1, F2, rfl, _, h1, h2⟩ := h
    rw [List.length_append, T.len h1, Ty.all_len h2, List.length_cons, Nat.add_mul]; omega
theorem Ty.all_lt {wr : Bool} {w : World} : ∀ {cs : List Value} {xs : List α} {F : List Nat}, T.all wr w cs xs F → ∀ b ∈ F, b < w.heap.size
  | _, [], _, h => by obtain ⟨_, rfl⟩ := h; simp
  | _, x :: xs, _, h => by
    obtain ⟨c, d, F1, F2, _, rfl, h1, h2⟩ := h
    intro b hb
    rcases List.mem_append.1 hb with hb | hb
    · exact T.lt h1 b hb
    · exact Ty.all_lt h2 b hb
theorem Ty.all_keep {wr : Bool} {w w' : World} : ∀ {cs : List Value} {xs : List α} {F : List Nat}, T.all wr w cs xs F → (∀ b ∈ F, w'.heap[b]? = w.heap[b]?) → T.all wr w' cs xs F
  | _, [], _, h, _ => h
  | _, x :: xs, _, h, hk => by
    obtain ⟨c, d, F1, F2, e1, rfl, h1, h2⟩ := h
    exact ⟨c, d, F1, F2, e1, rfl, T.keep h1 fun b hb => hk b (List.mem_append.2 (.inl hb)), Ty.all_keep h2 fun b hb => hk b (List.mem_append.2 (.inr hb))⟩
theorem Ty.all_down {wr : Bool} {w : World} : ∀ {cs : List Value} {xs : List α} {F : List Nat}, T.all wr w cs xs F → T.all false w cs xs F
  | _, [], _, h => h
  | _, x :: xs, _, h => by
    obtain ⟨c, d, F1, F2, e1, rfl, h1, h2⟩ := h
    exact ⟨c, d, F1, F2, e1, rfl, T.down h1, Ty.all_down h2⟩
theorem Ty.all_append {wr : Bool} {w : World} : ∀ {cs ds : List Value} {xs ys : List α} {F G : List Nat}, T.all wr w cs xs F → T.all wr w ds ys G → T.all wr w (cs ++ ds) (xs ++ ys) (F ++ G)
  | _, _, [], _, _, _, h, h' => by obtain ⟨rfl, rfl⟩ := h; exact h'
  | _, _, x :: xs, _, _, _, h, h' => by
    obtain ⟨c, d, F1, F2, rfl, rfl, h1, h2⟩ := h
    exact ⟨c, _, F1, _, List.append_assoc .., List.append_assoc .., h1, Ty.all_append h2 h'⟩
theorem Ty.all_one {wr : Bool} {w : World} {c : List Value} {x : α} {F : List Nat} (h : T.rep wr w c x F) : T.all wr w c [x] F :=
  ⟨c, [], F, [], by simp, by simp, h, rfl, rfl⟩
theorem Ty.all_snoc {wr : Bool} {w : World} {cs c : List Value} {xs : List α} {x : α} {F G : List Nat} (h : T.all wr w cs xs F) (h' : T.rep wr w c x G) : T.all wr w (cs ++ c) (xs ++ [x]) (F ++ G) :=
  Ty.all_append h (Ty.all_one h')
/-- The element at place k: what stands ahead of it, its own cells, what stands behind. -/
theorem Ty.all_split {wr : Bool} {w : World} : ∀ {cs : List Value} {xs : List α} {F : List Nat} (_ : T.all wr w cs xs F) (k : Nat) (hk : k < xs.length),
    ∃ c d e F1 F2 F3, cs = c ++ d ++ e ∧ F = F1 ++ F2 ++ F3 ∧ c.length = k * T.size ∧ T.all wr w c (xs.take k) F1 ∧ T.rep wr w d xs[k] F2 ∧ T.all wr w e (xs.drop (k + 1)) F3
  | _, x :: xs, _, h, 0, _ => by
    obtain ⟨c, d, F1, F2, rfl, rfl, h1, h2⟩ := h
    exact ⟨[], c, d, [], F1, F2, by simp, by simp, by simp, ⟨rfl, rfl⟩, h1, h2⟩
  | _, x :: xs, _, h, k + 1, hk => by
    obtain ⟨c, d, F1, F2, rfl, rfl, h1, h2⟩ := h
    obtain ⟨c', d', e', G1, G2, G3, rfl, rfl, hl, a1, a2, a3⟩ := Ty.all_split h2 k (by simpa using hk)
    exact ⟨c ++ c', d', e', F1 ++ G1, G2, G3, by simp, by simp, by rw [List.length_append, hl, T.len h1, Nat.add_mul]; omega, ⟨c, c', F1, G1, rfl, rfl, h1, a1⟩, by simpa using a2, by simpa using a3⟩
theorem Ty.all_take {wr : Bool} {w : World} {cs : List Value} {xs : List α} {F : List Nat} (h : T.all wr w cs xs F) (k : Nat) (hk : k ≤ xs.length) :
    ∃ F1, T.all wr w (cs.take (k * T.size)) (xs.take k) F1 ∧ ∀ b ∈ F1, b ∈ F := by
  rcases Nat.lt_or_ge k xs.length with hlt | hge
  · obtain ⟨c, d, e, F1, F2, F3, rfl, rfl, hl, a1, _, _⟩ := Ty.all_split h k hlt
    exact ⟨F1, by rw [← hl]; simpa using a1, fun b hb => by simp [hb]⟩
  · obtain rfl : k = xs.length := by omega
    exact ⟨F, by rw [List.take_length, ← Ty.all_len h, List.take_length]; exact h, fun _ h => h⟩
end all

/-- A slice value that holds a list. -/
def Ty.row {α : Type} (T : Ty α) (wr : Bool) (w : World) (v : Value) (xs : List α) (F : List Nat) : Prop :=
  ∃ (a : Option Addr) (cap : Nat) (cs : List Value) (G : List Nat), v = .slice a xs.length cap ∧ xs.length ≤ cap ∧ cap ≤ 9223372036854775807 ∧ T.all wr w cs xs G ∧
    ((xs = [] ∧ F = []) ∨ (0 < T.size ∧ xs ≠ [] ∧ ∃ b off, a = some ⟨b, off, none⟩ ∧ F = b :: G ∧ ∀ j (hj : j < cs.length), cellIs wr w b (off + j) cs[j]))

theorem Ty.row_lt {α : Type} {T : Ty α} {wr : Bool} {w : World} {v : Value} {xs : List α} {F : List Nat} (h : T.row wr w v xs F) : ∀ b ∈ F, b < w.heap.size := by
  obtain ⟨a, cap, cs, G, rfl, _, _, hall, h | ⟨hs, hne, b, off, rfl, rfl, hc⟩⟩ := h
  · obtain ⟨_, rfl⟩ := h; simp
  · intro b' hb'
    rcases List.mem_cons.1 hb' with rfl | hb'
    · have hl := Ty.all_len hall
      have hp : 0 < xs.length := List.length_pos_iff.2 hne
      exact (hc 0 (by rw [hl]; exact Nat.mul_pos hp hs)).lt
    · exact Ty.all_lt hall _ hb'
theorem Ty.row_keep {α : Type} {T : Ty α} {wr : Bool} {w w' : World} {v : Value} {xs : List α} {F : List Nat} (h : T.row wr w v xs F) (hk : ∀ b ∈ F, w'.heap[b]? = w.heap[b]?) : T.row wr w' v xs F := by
  obtain ⟨a, cap, cs, G, rfl, h1, h2, hall, h | ⟨hs, hne, b, off, rfl, rfl, hc⟩⟩ := h
  · obtain ⟨rfl, rfl⟩ := h
    exact ⟨a, cap, [], [], rfl, h1, h2, ⟨rfl, rfl⟩, .inl ⟨rfl, rfl⟩⟩
  · exact ⟨_, cap, cs, G, rfl, h1, h2, Ty.all_keep hall fun b' hb' => hk b' (List.mem_cons_of_mem _ hb'), .inr ⟨hs, hne, b, off, rfl, rfl, fun j hj => (hc j hj).keep (hk b List.mem_cons_self)⟩⟩
theorem Ty.row_down {α : Type} {T : Ty α} {wr : Bool} {w : World} {v : Value} {xs : List α} {F : List Nat} (h : T.row wr w v xs F) : T.row false w v xs F := by
  obtain ⟨a, cap, cs, G, rfl, h1, h2, hall, h | ⟨hs, hne, b, off, rfl, rfl, hc⟩⟩ := h
  · exact ⟨a, cap, cs, G, rfl, h1, h2, Ty.all_down hall, .inl h⟩
  · exact ⟨_, cap, cs, G, rfl, h1, h2, Ty.all_down hall, .inr ⟨hs, hne, b, off, rfl, rfl, fun j hj => (hc j hj).down⟩⟩

def Ty.slice {α : Type} (T : Ty α) : Ty (List α) where
  size := 1
  rep wr w cs xs F := ∃ v, cs = [v] ∧ T.row wr w v xs F
  len h := by obtain ⟨v, rfl, _⟩ := h; rfl
  lt h := by obtain ⟨v, _, h⟩ := h; exact Ty.row_lt h
  keep h hk := by obtain ⟨v, e, h⟩ := h; exact ⟨v, e, Ty.row_keep h hk⟩
  down h := by obtain ⟨v, e, h⟩ := h; exact ⟨v, e, Ty.row_down h⟩

theorem Ty.row_below {α : Type} {T : Ty α} {wr : Bool} {w w' : World} {B : Nat} {v : Value} {xs : List α} {F : List Nat} (h : T.row wr w v xs F) (hb : Below B w w') (hF : ∀ b ∈ F, b < B) : T.row wr w' v xs F :=
  Ty.row_keep h fun b hm => hb.block b (hF b hm)
theorem Ty.row_grow {α : Type} {T : Ty α} {wr : Bool} {w w' : World} {v : Value} {xs : List α} {F : List Nat} (h : T.row wr w v xs F) (hb : Below w.heap.size w w') : T.row wr w' v xs F :=
  Ty.row_below h hb (Ty.row_lt h)
/-- A slice that is not empty: its head, and its cells. -/
theorem Ty.row_view {α : Type} {T : Ty α} {wr : Bool} {w : World} {v : Value} {xs : List α} {F : List Nat} (h : T.row wr w v xs F) (hne : xs ≠ []) :
    ∃ b off cap cs G, v = .slice (some ⟨b, off, none⟩) xs.length cap ∧ xs.length ≤ cap ∧ cap ≤ 9223372036854775807 ∧ T.all wr w cs xs G ∧ F = b :: G ∧ ∀ j (hj : j < cs.length), cellIs wr w b (off + j) cs[j] := by
  obtain ⟨a, cap, cs, G, rfl, h1, h2, hall, ⟨e, _⟩ | ⟨hs, hne, b, off, rfl, rfl, hc⟩⟩ := h
  · exact absurd e hne
  · exact ⟨b, off, cap, cs, G, rfl, h1, h2, hall, rfl, hc⟩
theorem Ty.row_len {α : Type} {T : Ty α} {wr : Bool} {w : World} {v : Value} {xs : List α} {F : List Nat} (h : T.row wr w v xs F) : ∃ a cap, v = .slice a xs.length cap ∧ xs.length ≤ cap ∧ cap ≤ 9223372036854775807 := by
  obtain ⟨a, cap, cs, G, rfl, h1, h2, _⟩ := h
  exact ⟨a, cap, rfl, h1, h2⟩
theorem Ty.row_nil {α : Type} (T : Ty α) (wr : Bool) (w : World) (a : Option Addr) (cap : Nat) (h : cap ≤ 9223372036854775807) : T.row wr w (.slice a 0 cap) [] [] :=
  ⟨a, cap, [], [], rfl, Nat.zero_le _, h, ⟨rfl, rfl⟩, .inl ⟨rfl, rfl⟩⟩

/-- From the guide's owned row, its elements' own blocks beside it. -/
theorem Ty.row_of_owns {α : Type} {T : Ty α} {w : World} {base : Nat} {e : TypeId} {size : Nat} {v : Value} {xs : List α} {cs : List Value} {G : List Nat} (h : w.ownsRow base e size v xs.length cs) (hT : T.size = size) (hs : 0 < size)
    (hall : T.all true w cs xs G) :
    ∃ F, T.row true w v xs F ∧ (F = [] ∨ ∃ g, base ≤ g ∧ g < w.heap.size ∧ v.ownBlock = some g ∧ F = g :: G) ∧ (xs ≠ [] → F ≠ []) := by
  obtain ⟨hl, ⟨rfl, h0⟩ | ⟨g, cap, cur, rfl, hg, hh, hn, hm, hcs, ht⟩⟩ := h
  · have : xs = [] := List.length_eq_zero_iff.1 h0
    subst this
    exact ⟨[], Ty.row_nil _ _ _ _ _ (by omega), .inl rfl, by simp⟩
  · rcases Nat.eq_zero_or_pos xs.length with h0 | h0
    · have : xs = [] := List.length_eq_zero_iff.1 h0
      subst this
      exact ⟨[], Ty.row_nil _ _ _ _ _ ((by unfold maxLen at hm; omega)), .inl rfl, by simp⟩
    · have hlt : g < w.heap.size := by
        rcases Nat.lt_or_ge g w.heap.size with h | h
        · exact h
        · simp [Array.getElem?_eq_none h] at hh
      refine ⟨g :: G, ⟨_, cap, cs, G, rfl, hn, (by unfold maxLen at hm; omega), hall, .inr ⟨by omega, by rintro rfl; simp at h0, g, 0, rfl, rfl, fun j hj => ⟨?_, fun _ => ?_⟩⟩⟩, .inr ⟨g, hg, hlt, rfl, rfl⟩, by simp⟩
      · have hj' : j < cur.size := by
          rw [← ht] at hj
          simp at hj
          omega
        have e1 : cs[j] = cur[j] := by
          subst ht
          simp
        simp only [World.cell?, hh, Nat.zero_add]
        rw [e1]
        simp [hj']
      · simp [World.frozen?, hh]
end Go.Proofs.YtnfjgebfmnpkbaaGreat

/- Memory facts: what a call has written; rows of ints. No program in sight. -/
namespace Go.Proofs.YtnfjgebfmnpkbaaGreat
open Go.RowKit

/-- Of the blocks that were there none but those of F has turned. -/
structure Chg (F : List Nat) (w w' : World) : Prop where
  os : w'.os = w.os
  tape : w'.tape = w.tape
  output : w'.output = w.output
  size : w.heap.size ≤ w'.heap.size
  block : ∀ k, k < w.heap.size → k ∉ F → w'.heap[k]? = w.heap[k]?
theorem Chg.refl (F : List Nat) (w : World) : Chg F w w := ⟨rfl, rfl, rfl, Nat.le_refl _, fun _ _ _ => rfl⟩
theorem Chg.of_below {F : List Nat} {w w' : World} (h : Below w.heap.size w w') : Chg F w w' := ⟨h.os, h.tape, h.output, h.size, fun k hk _ => h.block k hk⟩
theorem Chg.mono {F G : List Nat} {w w' : World} (h : Chg F w w') (hs : ∀ b ∈ F, b ∈ G) : Chg G w w' := ⟨h.os, h.tape, h.output, h.size, fun k hk hn => h.block k hk fun hm => hn (hs k hm)⟩
theorem Chg.trans {F : List Nat} {a b c : World} (h : Chg F a b) (k : Chg F b c) : Chg F a c :=
  ⟨k.os.trans h.os, k.tape.trans h.tape, k.output.trans h.output, Nat.le_trans h.size k.size, fun i hi hn => (k.block i (Nat.lt_of_lt_of_le hi h.size) hn).trans (h.block i hi hn)⟩
theorem Chg.then {F : List Nat} {a b c : World} (h : Chg F a b) (k : Below b.heap.size b c) : Chg F a c := h.trans (.of_below k)
theorem Chg.alloc {F : List Nat} {a w : World} (h : Chg F a w) (o : Obj) : Chg F a (w.alloc o) := h.then (bal (bb _) o)
theorem Chg.set {F : List Nat} {a w : World} (h : Chg F a w) {p : Addr} (hp : p.block ∈ F) (u : Value) : Chg F a (w.setCell p u) :=
  h.trans ⟨rfl, rfl, rfl, by simp [World.setCell], fun k _ hn => Below.heap_setCell _ _ _ _ (fun e => hn (e ▸ hp))⟩
theorem Chg.below {F : List Nat} {B : Nat} {w w' : World} (h : Chg F w w') (hB : B ≤ w.heap.size) (hF : ∀ b ∈ F, B ≤ b) : Below B w w' :=
  ⟨h.os, h.tape, h.output, h.size, fun k hk => h.block k (Nat.lt_of_lt_of_le hk hB) fun hm => Nat.not_lt.2 (hF k hm) hk⟩
theorem Chg.row {α : Type} {T : Ty α} {F G : List Nat} {wr : Bool} {w w' : World} {v : Value} {xs : List α} (h : Chg F w w') (hr : T.row wr w v xs G) (hd : ∀ b ∈ G, b ∉ F) : T.row wr w' v xs G :=
  Ty.row_keep hr fun b hb => h.block b (Ty.row_lt hr b hb) (hd b hb)

theorem Ty.all_int {wr : Bool} {w : World} : ∀ {xs : List Int}, (∀ x ∈ xs, I64 x) → Ty.int.all wr w (xs.map (.int .i64)) xs []
  | [], _ => ⟨rfl, rfl⟩
  | x :: xs, h => ⟨[.int .i64 x], xs.map (.int .i64), [], [], rfl, rfl, ⟨rfl, h x List.mem_cons_self, rfl⟩, Ty.all_int fun y hy => h y (List.mem_cons_of_mem _ hy)⟩
theorem Ty.all_int_inv {wr : Bool} {w : World} : ∀ {cs : List Value} {xs : List Int} {F : List Nat}, Ty.int.all wr w cs xs F → cs = xs.map (.int .i64) ∧ F = [] ∧ ∀ x ∈ xs, I64 x
  | _, [], _, h => ⟨h.1, h.2, by simp⟩
  | _, x :: xs, _, h => by
    obtain ⟨c, d, F1, F2, rfl, rfl, ⟨rfl, hx, rfl⟩, h2⟩ := h
    obtain ⟨rfl, rfl, h3⟩ := Ty.all_int_inv h2
    exact ⟨rfl, rfl, fun y hy => by rcases List.mem_cons.1 hy with rfl | hy; exact hx; exact h3 y hy⟩
/-- A row of ints: nil or empty; or its cells. -/
theorem row_int {wr : Bool} {w : World} {v : Value} {xs : List Int} {F : List Nat} (h : Ty.int.row wr w v xs F) :
    ∃ a cap, v = .slice a xs.length cap ∧ xs.length ≤ cap ∧ cap ≤ 9223372036854775807 ∧ (∀ x ∈ xs, I64 x) ∧
      ((xs = [] ∧ F = []) ∨ (xs ≠ [] ∧ ∃ b off, a = some ⟨b, off, none⟩ ∧ F = [b] ∧ ∀ j (hj : j < xs.length), cellIs wr w b (off + j) (.int .i64 xs[j]))) := by
  obtain ⟨a, cap, cs, G, rfl, h1, h2, hall, h⟩ := h
  obtain ⟨rfl, rfl, hi⟩ := Ty.all_int_inv hall
  refine ⟨a, cap, rfl, h1, h2, hi, h.imp id ?_⟩
  rintro ⟨_, hne, b, off, rfl, rfl, hc⟩
  exact ⟨hne, b, off, rfl, rfl, fun j hj => by have := hc j (by simpa using hj); simpa using this⟩
theorem row_int_mk {wr : Bool} {w : World} {b off cap : Nat} {xs : List Int} (hi : ∀ x ∈ xs, I64 x) (h1 : xs.length ≤ cap) (h2 : cap ≤ 9223372036854775807) (hne : xs ≠ [])
    (hc : ∀ j (hj : j < xs.length), cellIs wr w b (off + j) (.int .i64 xs[j])) : Ty.int.row wr w (.slice (some ⟨b, off, none⟩) xs.length cap) xs [b] :=
  ⟨_, cap, xs.map (.int .i64), [], rfl, h1, h2, Ty.all_int hi, .inr ⟨by decide, hne, b, off, rfl, rfl, fun j hj => by simpa using hc j (by simpa using hj)⟩⟩

/-- m, m+1, ..: n numbers. -/
def marks (m : Int) (n : Nat) : List Int := (List.range n).map fun (j : Nat) => m + (j : Int)
theorem marks_length (m : Int) (n : Nat) : (marks m n).length = n := by simp [marks]
theorem marks_get (m : Int) (n j : Nat) (h : j < (marks m n).length) : (marks m n)[j] = m + j := by simp [marks]
theorem marks_i64 {m : Int} {n : Nat} (h0 : 0 ≤ m) (h1 : m + n ≤ 1000000000000000000) : ∀ x ∈ marks m n, I64 x := by
  intro x hx
  simp only [marks, List.mem_map, List.mem_range] at hx
  obtain ⟨j, hj, rfl⟩ := hx
  unfold I64; omega
end Go.Proofs.YtnfjgebfmnpkbaaGreat

/- Memory in parts that do not meet: what a call has made. No program in sight. -/
namespace Go.Proofs.YtnfjgebfmnpkbaaGreat
open Go.RowKit

/-- A part of the memory, with the blocks that it reaches. -/
structure Asn where
  p : World → List Nat → Prop
  lt : ∀ {w F}, p w F → ∀ b ∈ F, b < w.heap.size
  keep : ∀ {w w' F}, p w F → (∀ b ∈ F, w'.heap[b]? = w.heap[b]?) → p w' F

/-- All the parts, no two of which meet. -/
def sep : List Asn → World → List Nat → Prop
  | [], _, F => F = []
  | q :: ps, w, F => ∃ F1 F2, F = F1 ++ F2 ∧ (∀ b ∈ F1, b ∉ F2) ∧ q.p w F1 ∧ sep ps w F2

theorem sep_lt {w : World} : ∀ {ps : List Asn} {F : List Nat}, sep ps w F → ∀ b ∈ F, b < w.heap.size
  | [], _, h => by subst h; simp
  | q :: ps, _, h => by
    obtain ⟨F1, F2, rfl, _, h1, h2⟩ := h
    intro b hb
    rcases List.mem_append.1 hb with hb | hb
    · exact q.lt h1 b hb
    · exact sep_lt h2 b hb
theorem sep_keep {w w' : World} : ∀ {ps : List Asn} {F : List Nat}, sep ps w F → (∀ b ∈ F, w'.heap[b]? = w.heap[b]?) → sep ps w' F
  | [], _, h, _ => h
  | q :: ps, _, h, hk => by
    obtain ⟨F1, F2, rfl, hd, h1, h2⟩ := h
    exact ⟨F1, F2, rfl, hd, q.keep h1 fun b hb => hk b (List.mem_append.2 (.inl hb)), sep_keep h2 fun b hb => hk b (List.mem_append.2 (.inr hb))⟩
theorem sep_upd {w : World} : ∀ {ps : List Asn} {F : List Nat} {i : Nat} {q : Asn}, sep ps w F → ps[i]? = some q →
    ∃ Fi, q.p w Fi ∧ (∀ b ∈ Fi, b ∈ F) ∧ ∀ w' q' Fi', Chg Fi w w' → q'.p w' Fi' → (∀ b ∈ Fi', b ∈ Fi ∨ w.heap.size ≤ b) → ∃ F', sep (ps.set i q') w' F' ∧ ∀ b ∈ F', b ∈ F ∨ w.heap.size ≤ b
  | [], _, _, _, _, h => by simp at h
  | q :: ps, _, 0, q0, h, hi => by
    obtain ⟨F1, F2, rfl, hd, h1, h2⟩ := h
    simp at hi; subst hi
    refine ⟨F1, h1, fun b hb => List.mem_append.2 (.inl hb), fun w' q' Fi' hc hq hF => ⟨Fi' ++ F2, ⟨Fi', F2, rfl, fun b hb hb2 => ?_, hq, sep_keep h2 fun b hb => hc.block b (sep_lt h2 b hb) fun hb1 => hd b hb1 hb⟩, fun b hb => ?_⟩⟩
    · rcases hF b hb with h | h
      · exact hd b h hb2
      · have := sep_lt h2 b hb2; omega
    · rcases List.mem_append.1 hb with hb | hb
      · exact (hF b hb).imp (fun h => List.mem_append.2 (.inl h)) id
      · exact .inl (List.mem_append.2 (.inr hb))
  | q :: ps, _, i + 1, q0, h, hi => by
    obtain ⟨F1, F2, rfl, hd, h1, h2⟩ := h
    obtain ⟨Fi, hp, hsub, hall⟩ := sep_upd (i := i) (q := q0) h2 (by simpa using hi)
    refine ⟨Fi, hp, fun b hb => List.mem_append.2 (.inr (hsub b hb)), fun w' q' Fi' hc hq hF => ?_⟩
    obtain ⟨F', hs, hF'⟩ := hall w' q' Fi' hc hq hF
    refine ⟨F1 ++ F', ⟨F1, F', rfl, fun b hb hb2 => ?_, q.keep h1 fun b hb => hc.block b (q.lt h1 b hb) fun hbi => hd b hb (hsub b hbi), hs⟩, fun b hb => ?_⟩
    · rcases hF' b hb2 with h | h
      · exact hd b hb h
      · have := q.lt h1 b hb; omega
    · rcases List.mem_append.1 hb with hb | hb
      · exact .inl (List.mem_append.2 (.inl hb))
      · exact (hF' b hb).imp (fun h => List.mem_append.2 (.inr h)) id

/-- Since w0 nothing old has turned; of what is new these are the parts. -/
def Sp (w0 w : World) (ps : List Asn) : Prop := Below w0.heap.size w0 w ∧ ∃ F, sep ps w F ∧ ∀ b ∈ F, w0.heap.size ≤ b

section
variable {w0 w w' : World} {ps : List Asn} {i : Nat} {q : Asn}
theorem Sp.start (w : World) : Sp w w [] := ⟨bb _, [], rfl, by simp⟩
theorem Sp.of_below (h : Below w0.heap.size w0 w) : Sp w0 w [] := ⟨h, [], rfl, by simp⟩
theorem Sp.below (h : Sp w0 w ps) : Below w0.heap.size w0 w := h.1
theorem Sp.grow (h : Sp w0 w ps) (hb : Below w.heap.size w w') : Sp w0 w' ps := by
  obtain ⟨h1, F, h2, h3⟩ := h
  exact ⟨btr h1 hb, F, sep_keep h2 fun b hm => hb.block b (sep_lt h2 b hm), h3⟩
theorem Sp.drew (h : Sp w0 w ps) : Sp w0 w.drew ps := h.grow (bdr (bb _))
theorem Sp.alloc (h : Sp w0 w ps) (o : Obj) : Sp w0 (w.alloc o) ps := h.grow (bal (bb _) o)
theorem Sp.upd (h : Sp w0 w ps) (hi : ps[i]? = some q) : ∃ Fi, q.p w Fi ∧ (∀ b ∈ Fi, w0.heap.size ≤ b) ∧
    ∀ w' q' Fi', Chg Fi w w' → q'.p w' Fi' → (∀ b ∈ Fi', b ∈ Fi ∨ w.heap.size ≤ b) → Sp w0 w' (ps.set i q') := by
  obtain ⟨h1, F, h2, h3⟩ := h
  obtain ⟨Fi, hp, hsub, hall⟩ := sep_upd h2 hi
  refine ⟨Fi, hp, fun b hb => h3 b (hsub b hb), fun w' q' Fi' hc hq hF => ?_⟩
  obtain ⟨F', hs, hF'⟩ := hall w' q' Fi' hc hq hF
  exact ⟨h1.trans (hc.below h1.size fun b hb => h3 b (hsub b hb)), F', hs, fun b hb => (hF' b hb).elim (h3 b) (Nat.le_trans h1.size)⟩
theorem Sp.get (h : Sp w0 w ps) (hi : ps[i]? = some q) : ∃ Fi, q.p w Fi ∧ (∀ b ∈ Fi, w0.heap.size ≤ b) := by
  obtain ⟨Fi, h1, h2, _⟩ := h.upd hi
  exact ⟨Fi, h1, h2⟩
theorem Sp.new {F : List Nat} (h : Sp w0 w ps) (hb : Below w.heap.size w w') (hq : q.p w' F) (hF : ∀ b ∈ F, w.heap.size ≤ b) : Sp w0 w' (q :: ps) := by
  obtain ⟨h1, G, h2, h3⟩ := h
  have h4 := sep_keep h2 fun b hm => hb.block b (sep_lt h2 b hm)
  refine ⟨btr h1 hb, F ++ G, ⟨F, G, rfl, fun b hb1 hb2 => ?_, hq, h4⟩, fun b hm => ?_⟩
  · have := hF b hb1; have := sep_lt h2 b hb2; omega
  · rcases List.mem_append.1 hm with hm | hm
    · exact Nat.le_trans h1.size (hF b hm)
    · exact h3 b hm
theorem Sp.tail (h : Sp w0 w (q :: ps)) : Sp w0 w ps := by
  obtain ⟨h1, F, ⟨F1, F2, rfl, _, _, h2⟩, h3⟩ := h
  exact ⟨h1, F2, h2, fun b hb => h3 b (List.mem_append.2 (.inr hb))⟩
theorem Sp.head (h : Sp w0 w (q :: ps)) : ∃ F, q.p w F ∧ ∀ b ∈ F, w0.heap.size ≤ b := by
  obtain ⟨h1, F, ⟨F1, F2, rfl, _, h2, _⟩, h3⟩ := h
  exact ⟨F1, h2, fun b hb => h3 b (List.mem_append.2 (.inl hb))⟩
theorem Sp.swap {q' : Asn} (h : Sp w0 w (q :: q' :: ps)) : Sp w0 w (q' :: q :: ps) := by
  obtain ⟨h1, F, ⟨F1, F2, rfl, hd, h2, F3, F4, rfl, hd', h4, h5⟩, h3⟩ := h
  refine ⟨h1, F3 ++ (F1 ++ F4), ⟨F3, F1 ++ F4, rfl, fun b hb hb2 => ?_, h4, F1, F4, rfl, fun b hb hb2 => hd b hb (List.mem_append.2 (.inr hb2)), h2, h5⟩, fun b hb => h3 b ?_⟩
  · rcases List.mem_append.1 hb2 with h | h
    · exact hd b h (List.mem_append.2 (.inl hb))
    · exact hd' b hb h
  · simp only [List.mem_append] at hb ⊢
    rcases hb with h | h | h
    · exact .inr (.inl h)
    · exact .inl h
    · exact .inr (.inr h)
end

/-- A block that is known whole. -/
def Box (b : Nat) (t : TypeId) (cs : Array Value) : Asn where
  p w F := F = [b] ∧ w.heap[b]? = some (.cells cs t (0, 0))
  lt := by
    rintro w F ⟨rfl, h⟩ b' hb
    obtain rfl : b' = b := by simpa using hb
    rcases Nat.lt_or_ge b' w.heap.size with h' | h'
    · exact h'
    · rw [Array.getElem?_eq_none h'] at h; cases h
  keep := by
    rintro w w' F ⟨rfl, h⟩ hk
    exact ⟨rfl, (hk b (by simp)).trans h⟩

section
variable {w0 w w' : World} {ps : List Asn} {i b o : Nat} {t : TypeId} {cs : Array Value}
theorem Sp.box (h : Sp w0 w ps) (hi : ps[i]? = some (Box b t cs)) : w0.heap.size ≤ b ∧ b < w.heap.size ∧ w.heap[b]? = some (.cells cs t (0, 0)) := by
  obtain ⟨F, hp, hF⟩ := h.get hi
  have hlt := (Box b t cs).lt hp b
  obtain ⟨rfl, hh⟩ := hp
  exact ⟨hF b (by simp), hlt (by simp), hh⟩
theorem Sp.cell (h : Sp w0 w ps) (hi : ps[i]? = some (Box b t cs)) {u : Value} (ho : cs[o]? = some u) : w.cell? ⟨b, o, none⟩ = some u := by
  simp [World.cell?, (h.box hi).2.2, ho]
theorem Sp.frozen (h : Sp w0 w ps) (hi : ps[i]? = some (Box b t cs)) (o : Nat) : w.frozen? ⟨b, o, none⟩ = false := by
  simp [World.frozen?, (h.box hi).2.2]
theorem Sp.store (h : Sp w0 w ps) (hi : ps[i]? = some (Box b t cs)) (o : Nat) (u : Value) : Sp w0 (w.setCell ⟨b, o, none⟩ u) (ps.set i (Box b t (cs.setIfInBounds o u))) := by
  obtain ⟨F, ⟨rfl, hh⟩, hF, hall⟩ := h.upd hi
  refine hall _ _ [b] ((Chg.refl _ _).set (by simp) _) ⟨rfl, ?_⟩ (fun b hb => .inl hb)
  simp [World.setCell, Array.getElem?_modify, hh]
theorem Sp.alloc_box (h : Sp w0 w ps) (cs : Array Value) (t : TypeId) : Sp w0 (w.alloc (.cells cs t)) (Box w.heap.size t cs :: ps) :=
  h.new (bal (bb _) _) (F := [w.heap.size]) ⟨rfl, heap_alloc_new w _⟩ (by simp)
end

theorem owns_keep {w w' : World} {B : Nat} {e : TypeId} {size : Nat} {v : Value} {n : Nat} {xs : List Value} (h : w.ownsRow B e size v n xs) (hk : ∀ g, v.ownBlock = some g → w'.heap[g]? = w.heap[g]?) : w'.ownsRow B e size v n xs := by
  obtain ⟨hl, h | ⟨g, cap, cur, rfl, hg, hh, r⟩⟩ := h
  · exact ⟨hl, .inl h⟩
  · exact ⟨hl, .inr ⟨g, cap, cur, rfl, hg, (hk g rfl).trans hh, r⟩⟩
theorem owns_lt {w : World} {B : Nat} {e : TypeId} {size : Nat} {v : Value} {n : Nat} {xs : List Value} (h : w.ownsRow B e size v n xs) {g : Nat} (hg : v.ownBlock = some g) : g < w.heap.size := by
  obtain ⟨hl, ⟨rfl, _⟩ | ⟨g', cap, cur, rfl, _, hh, r⟩⟩ := h
  · cases hg
  · obtain rfl : g' = g := by simpa [Value.ownBlock] using hg
    rcases Nat.lt_or_ge g' w.heap.size with h' | h'
    · exact h'
    · rw [Array.getElem?_eq_none h'] at hh; cases hh

/-- A row of the call's own. -/
def Own (e : TypeId) (size : Nat) (v : Value) (n : Nat) (xs : List Value) : Asn where
  p w F := F = v.ownBlock.toList ∧ w.ownsRow 0 e size v n xs
  lt := by
    rintro w F ⟨rfl, h⟩ b hb
    exact owns_lt h (by simpa using hb)
  keep := by
    rintro w w' F ⟨rfl, h⟩ hk
    exact ⟨rfl, owns_keep h fun g hg => hk g (by simp [hg])⟩

section
variable {w0 w w1 w' : World} {ps : List Asn} {i n n' size : Nat} {e : TypeId} {v v' : Value} {xs xs' : List Value}
theorem Sp.own (h : Sp w0 w ps) (hi : ps[i]? = some (Own e size v n xs)) : w.ownsRow 0 e size v n xs := by
  obtain ⟨F, hp, _⟩ := h.get hi
  exact hp.2
/-- Behind an append to an own row. -/
theorem Sp.own_push (h : Sp w0 w ps) (hi : ps[i]? = some (Own e size v n xs)) (hb : Below w.heap.size w w1) (ho : w'.ownsRow 0 e size v' n' xs') (hg : w1.grownBy w' v.ownBlock)
    (hat : v'.ownBlock = v.ownBlock ∨ v'.ownBlock = some w1.heap.size) : Sp w0 w' (ps.set i (Own e size v' n' xs')) := by
  obtain ⟨F, ⟨rfl, hh⟩, hF, hall⟩ := h.upd hi
  refine hall w' _ v'.ownBlock.toList ?_ ⟨rfl, ho⟩ fun b hm => ?_
  · exact ⟨hg.os.trans hb.os, hg.tape.trans hb.tape, hg.output.trans hb.output, Nat.le_trans hb.size hg.size, fun k hk hn =>
      (hg.block k (Nat.lt_of_lt_of_le hk hb.size) (fun e => hn (by simp [← e]))).trans (hb.block k hk)⟩
  · rcases hat with h1 | h1
    · exact .inl (by rw [h1] at hm; exact hm)
    · rw [h1] at hm
      obtain rfl : b = w1.heap.size := by simpa using hm
      exact .inr hb.size
/-- A new own row. -/
theorem Sp.own_new (h : Sp w0 w ps) (hb : Below w.heap.size w w') (ho : w'.ownsRow 0 e size v n xs) (hv : ∀ g, v.ownBlock = some g → w.heap.size ≤ g) : Sp w0 w' (Own e size v n xs :: ps) :=
  h.new hb (F := v.ownBlock.toList) ⟨rfl, ho⟩ fun b hm => hv b (by simpa using hm)
theorem Sp.own_nil (h : Sp w0 w ps) (e : TypeId) (size : Nat) : Sp w0 w (Own e size (.slice none 0 0) 0 [] :: ps) :=
  h.own_new (bb _) (World.ownsRow_nil _ _ _ _) (fun g hg => by cases hg)
theorem Sp.own_made (h : Sp w0 w ps) (e : TypeId) (size : Nat) : Sp w0 (w.alloc (.cells #[] e)) (Own e size (.slice (some ⟨w.heap.size, 0, none⟩) 0 0) 0 [] :: ps) :=
  h.own_new (bal (bb _) _) ⟨by simp, .inr ⟨w.heap.size, 0, #[], rfl, Nat.zero_le _, heap_alloc_new w _, Nat.le_refl _, by decide, by simp, by simp⟩⟩ (fun g hg => by
    have : w.heap.size = g := by simpa [Value.ownBlock] using hg
    omega)
end

/-- A row with all that it reaches, all of it the call's own. -/
def Row {α : Type} (T : Ty α) (v : Value) (xs : List α) : Asn where
  p w F := T.row true w v xs F ∧ F.Nodup
  lt h := Ty.row_lt h.1
  keep h hk := ⟨Ty.row_keep h.1 hk, h.2⟩

/-- An own row of own rows, as far as it has grown. -/
def Rows {α : Type} (T : Ty α) (e : TypeId) (v : Value) (cs : List Value) (xss : List (List α)) : Asn where
  p w F := ∃ G, F = v.ownBlock.toList ++ G ∧ F.Nodup ∧ (Ty.slice T).all true w cs xss G ∧ w.ownsRow 0 e 1 v xss.length cs
  lt := by
    rintro w F ⟨G, rfl, _, h1, h2⟩ b hb
    rcases List.mem_append.1 hb with hb | hb
    · exact owns_lt h2 (by simpa using hb)
    · exact Ty.all_lt h1 b hb
  keep := by
    rintro w w' F ⟨G, rfl, h0, h1, h2⟩ hk
    exact ⟨G, rfl, h0, Ty.all_keep h1 fun b hb => hk b (List.mem_append.2 (.inr hb)), owns_keep h2 fun g hg => hk g (by simp [hg])⟩

section
variable {α : Type} {T : Ty α} {w0 w w1 w' : World} {ps : List Asn} {i : Nat} {e : TypeId} {v v' u : Value} {cs : List Value} {xss : List (List α)} {ys : List α}
theorem Sp.row_new {xs : List α} {F : List Nat} (h : Sp w0 w ps) (hb : Below w.heap.size w w') (hr : T.row true w' v xs F) (hn : F.Nodup) (hF : ∀ b ∈ F, w.heap.size ≤ b) : Sp w0 w' (Row T v xs :: ps) := h.new hb ⟨hr, hn⟩ hF
theorem Sp.rows (h : Sp w0 w ps) (hi : ps[i]? = some (Rows T e v cs xss)) : w.ownsRow 0 e 1 v xss.length cs := by
  obtain ⟨F, ⟨G, _, _, _, h⟩, _⟩ := h.get hi
  exact h
theorem Sp.rows_nil (h : Sp w0 w ps) (T : Ty α) (e : TypeId) : Sp w0 w (Rows T e (.slice none 0 0) [] [] :: ps) :=
  h.new (F := []) (bb _) ⟨[], rfl, by simp, ⟨rfl, rfl⟩, World.ownsRow_nil _ _ _ _⟩ (by simp)
theorem Sp.rows_made (h : Sp w0 w ps) (T : Ty α) (e : TypeId) : Sp w0 (w.alloc (.cells #[] e)) (Rows T e (.slice (some ⟨w.heap.size, 0, none⟩) 0 0) [] [] :: ps) :=
  h.new (F := [w.heap.size]) (bal (bb _) _) ⟨[], rfl, by simp, ⟨rfl, rfl⟩, ⟨by simp, .inr ⟨w.heap.size, 0, #[], rfl, Nat.zero_le _, heap_alloc_new w _, Nat.le_refl _, by decide, by simp, by simp⟩⟩⟩ (by simp)
/-- A row goes into a row of rows. -/
theorem Sp.rows_push (h : Sp w0 w (Row T u ys :: Rows T e v cs xss :: ps)) (hb : Below w.heap.size w w1) (ho : w'.ownsRow 0 e 1 v' (xss.length + 1) (cs ++ [u])) (hg : w1.grownBy w' v.ownBlock)
    (hat : v'.ownBlock = v.ownBlock ∨ v'.ownBlock = some w1.heap.size) : Sp w0 w' (Rows T e v' (cs ++ [u]) (xss ++ [ys]) :: ps) := by
  obtain ⟨h1, F, ⟨F1, F2, rfl, hd, ⟨hr, hn⟩, ⟨F3, F4, rfl, hd', ⟨G, rfl, hn', hall, hown⟩, h5⟩⟩, h3⟩ := h
  have hr1 := Ty.row_keep hr fun b hm => hb.block b (Ty.row_lt hr b hm)
  have hall1 := Ty.all_keep hall fun b hm => hb.block b (Ty.all_lt hall b hm)
  have h51 := sep_keep h5 fun b hm => hb.block b (sep_lt h5 b hm)
  have hkeep : ∀ b, b < w.heap.size → (∀ g, v.ownBlock = some g → b ≠ g) → w'.heap[b]? = w1.heap[b]? := fun b hlt hne => hg.block b (Nat.lt_of_lt_of_le hlt hb.size) (fun e => hne b e.symm rfl)
  have hr2 := Ty.row_keep hr1 fun b hm => hkeep b (Ty.row_lt hr b hm) fun g hg' e => hd b hm (by simp [hg', e])
  have hnG : ∀ b ∈ G, ∀ g, v.ownBlock = some g → b ≠ g := fun b hm g hg' e => by
    rw [List.nodup_append] at hn'
    exact hn'.2.2 g (by simp [hg']) b hm e.symm
  have hall2 := Ty.all_keep hall1 fun b hm => hkeep b (Ty.all_lt hall b hm) (hnG b hm)
  have h52 := sep_keep h51 fun b hm => hkeep b (sep_lt h5 b hm) fun g hg' e => hd' b (by simp [hg', e]) hm
  have hlv : ∀ b ∈ v'.ownBlock.toList, b ∈ v.ownBlock.toList ∨ b = w1.heap.size := fun b hm => by
    rcases hat with h | h
    · left; rwa [h] at hm
    · right; rw [h] at hm; simpa using hm
  have hs := hb.size
  have hbel : Below w0.heap.size w0 w' := (btr h1 hb).trans ⟨hg.os, hg.tape, hg.output, hg.size, fun k hk => hg.block k (by have := h1.size; omega) (fun e => by have := h3 k (by simp [← e]); omega)⟩
  refine ⟨hbel, (v'.ownBlock.toList ++ (G ++ F1)) ++ F4, ⟨_, F4, rfl, ?_, ⟨G ++ F1, rfl, ?_, ?_, by simpa using ho⟩, h52⟩, ?_⟩
  · intro b hm hm4
    rcases List.mem_append.1 hm with hm | hm
    · rcases hlv b hm with h | h
      · exact hd' b (List.mem_append.2 (.inl h)) hm4
      · have := sep_lt h5 b hm4; omega
    · rcases List.mem_append.1 hm with hm | hm
      · exact hd' b (List.mem_append.2 (.inr hm)) hm4
      · exact hd b hm (List.mem_append.2 (.inr hm4))
  · refine List.nodup_append.2 ⟨by cases v'.ownBlock <;> simp, List.nodup_append.2 ⟨(List.nodup_append.1 hn').2.1, hn, fun x hx y hy e => hd y hy (by simp [← e, hx])⟩, fun x hx y hy e => ?_⟩
    subst e
    rcases hlv x hx with h | h
    · rcases List.mem_append.1 hy with hy | hy
      · exact (List.nodup_append.1 hn').2.2 x h x hy rfl
      · exact hd x hy (List.mem_append.2 (.inl (List.mem_append.2 (.inl h))))
    · rcases List.mem_append.1 hy with hy | hy
      · have := Ty.all_lt hall x hy; omega
      · have := Ty.row_lt hr x hy; omega
  · exact Ty.all_snoc hall2 ⟨u, rfl, hr2⟩
  · intro b hm
    rcases List.mem_append.1 hm with hm | hm
    · rcases List.mem_append.1 hm with hm | hm
      · rcases hlv b hm with h | h
        · exact h3 b (by simp at h ⊢; simp [h])
        · have := h1.size; omega
      · rcases List.mem_append.1 hm with hm | hm
        · exact h3 b (by simp [hm])
        · exact h3 b (by simp [hm])
    · exact h3 b (by simp [hm])
/-- The finished row of rows. -/
theorem Sp.rows_done (h : Sp w0 w ps) (hi : ps[i]? = some (Rows T e v cs xss)) : ∃ F, (Ty.slice T).row true w v xss F ∧ F.Nodup ∧ (∀ b ∈ F, w0.heap.size ≤ b) := by
  obtain ⟨F, ⟨G, rfl, hn, hall, hown⟩, hF⟩ := h.get hi
  obtain ⟨F', hr, hF', _⟩ := Ty.row_of_owns hown rfl (by decide) hall
  rcases hF' with rfl | ⟨g, _, _, ho, rfl⟩
  · exact ⟨[], hr, by simp, by simp⟩
  · refine ⟨g :: G, hr, ?_, ?_⟩
    · rw [ho] at hn; simpa using hn
    · rw [ho] at hF; simpa using hF
end

/-- append to an own row, as one step of a region that draws: with the place of the new row. -/
theorem step_append_at {P : Program} {ops : Array Oper} {o : Oper} {a : Act} {w : World} {K : Act → World → Prop} {Q : Exit → Act → World → Prop} {E : Prop} (hgd : o.guard = none) (s x : Operand) (t : TypeId)
    (ho : o.op = .call { callee := .builtin .append, args := #[s, x], argTypes := #[t, t] })
    (e : TypeId) (i : TypeInfo) (z : Value) (size bytes : Nat) (ht : P.underlying t = some (.slice e)) (hi : P.info? e = some i) (hz : i.zero = some z)
    (hsize : i.size = size) (hby : i.bytes = bytes) (hzs : z.cells.size = size) (hsz : 0 < size)
    (v : Value) (n : Nat) (xs : List Value) (hs : a.eval s = v) (hown : w.ownsRow 0 e size v n xs)
    (ad : Addr) (m c : Nat) (news : List Value) (hx : a.eval x = .slice (some ad) m c) (hl : news.length = m * size) (hnews : ∀ j u, news[j]? = some u → w.cell? (ad.add j) = some u) (h1 : ∀ u ∈ news, u.oneCell' = true)
    (h63 : n + m ≤ maxLen) (hbytes : (n + m) * bytes ≤ 140737488355328)
    (h : ∀ v' w', w'.ownsRow 0 e size v' (n + m) (xs ++ news) → w.grownBy w' v.ownBlock → (v'.ownBlock = v.ownBlock ∨ v'.ownBlock = some w.heap.size) → K (a.put o.dst v') w') :
    if Region.wanted o (yielded ops a.tmps) = true then Oper.wp P o a w K Q else E := by
  have hw : Region.wanted o (yielded ops a.tmps) = true := by simp [Region.wanted, hgd]
  rw [if_pos hw]
  obtain ⟨v', w', hr, h2, h3, _, h5⟩ := run_append_own_at (P := P) w 0 t o.type e i z size bytes ht hi hz hsize hby hzs hsz v n xs hown ad m c news hl hnews h1 h63 hbytes (Nat.zero_le _)
  unfold Oper.wp execOp
  simp only [ho, resolve, invoke, builtin, Sem.run_bind, Sem.run_pure, Result.andThen_ok, List.map_toArray, List.map_cons, List.map_nil, hs, hx, hr]
  exact h v' w' h2 h3 h5
theorem wpList_append_at {P : Program} {ops : Array Oper} {rest : List Oper} {o : Oper} {a : Act} {w : World} {Q : Exit → Act → World → Prop} (hgd : o.guard = none) (s x : Operand) (t : TypeId)
    (ho : o.op = .call { callee := .builtin .append, args := #[s, x], argTypes := #[t, t] })
    (e : TypeId) (i : TypeInfo) (z : Value) (size bytes : Nat) (ht : P.underlying t = some (.slice e)) (hi : P.info? e = some i) (hz : i.zero = some z)
    (hsize : i.size = size) (hby : i.bytes = bytes) (hzs : z.cells.size = size) (hsz : 0 < size)
    (v : Value) (n : Nat) (xs : List Value) (hs : a.eval s = v) (hown : w.ownsRow 0 e size v n xs)
    (ad : Addr) (m c : Nat) (news : List Value) (hx : a.eval x = .slice (some ad) m c) (hl : news.length = m * size) (hnews : ∀ j u, news[j]? = some u → w.cell? (ad.add j) = some u) (h1 : ∀ u ∈ news, u.oneCell' = true)
    (h63 : n + m ≤ maxLen) (hbytes : (n + m) * bytes ≤ 140737488355328)
    (h : ∀ v' w', w'.ownsRow 0 e size v' (n + m) (xs ++ news) → w.grownBy w' v.ownBlock → (v'.ownBlock = v.ownBlock ∨ v'.ownBlock = some w.heap.size) → wpList P ops Q rest (a.put o.dst v') w') :
    wpList P ops Q (o :: rest) a w :=
  wpList_append_own_at w hgd s x t ho 0 e i z size bytes ht hi hz hsize hby hzs hsz v n xs hs hown ad m c news hx hl hnews h1 h63 hbytes (Nat.zero_le _) fun v' w' h1 h2 _ h3 => h v' w' h1 h2 h3
theorem cell_alloc {w : World} {a : Addr} {u : Value} (h : w.cell? a = some u) (o : Obj) : (w.alloc o).cell? a = some u :=
  (World.cell?_alloc_lt _ _ _ (World.block_lt_of_cell? _ _ h)).trans h
theorem owns_form {w : World} {B : Nat} {e : TypeId} {size : Nat} {v : Value} {n : Nat} {xs : List Value} (h : w.ownsRow B e size v n xs) : ∃ a c, v = .slice a n c := by
  obtain ⟨_, ⟨rfl, rfl⟩ | ⟨g, cap, cur, rfl, _⟩⟩ := h
  · exact ⟨_, _, rfl⟩
  · exact ⟨_, _, rfl⟩
/-- One element that has just been laid in a block of its own. -/
theorem one_new {w : World} {x : Value} {t : TypeId} {b : Nat} (hb : b = w.heap.size) : ∀ j u, [x][j]? = some u → (w.alloc (.cells #[x] t)).cell? ((⟨b, 0, none⟩ : Addr).add j) = some u := by
  subst hb; exact cell_one_new w x t

section
variable {α : Type} {T : Ty α} {w0 w w' : World} {ps : List Asn} {i : Nat} {v : Value} {xs : List α}
theorem Sp.row_at (h : Sp w0 w ps) (hi : ps[i]? = some (Row T v xs)) : ∃ F, T.row false w v xs F := by
  obtain ⟨F, ⟨h1, _⟩, _⟩ := h.get hi
  exact ⟨F, Ty.row_down h1⟩
/-- A row is written. -/
theorem Sp.mark (h : Sp w0 w ps) (hi : ps[i]? = some (Row T v xs)) : ∃ F, T.row true w v xs F ∧ F.Nodup ∧ ∀ w' ys, T.row true w' v ys F → Chg F w w' → Sp w0 w' (ps.set i (Row T v ys)) := by
  obtain ⟨F, ⟨h1, h2⟩, _, hall⟩ := h.upd hi
  exact ⟨F, h1, h2, fun w' ys hr hc => hall w' (Row T v ys) F hc ⟨hr, h2⟩ fun b hb => .inl hb⟩
end
end Go.Proofs.YtnfjgebfmnpkbaaGreat

/- append onto an own row from any slice, empty or nil let in. No program in sight. -/
namespace Go.Proofs.YtnfjgebfmnpkbaaGreat
open Go.RowKit

/-- A slice whose cells are these; a nil or empty one has none. -/
def Src (w : World) (A : Option Addr) (m size : Nat) (news : List Value) : Prop :=
  (m = 0 ∧ news = []) ∨ ∃ ad, A = some ad ∧ news.length = m * size ∧ ∀ j u, news[j]? = some u → w.cell? (ad.add j) = some u

section
variable {P : Program} {w : World} {t ty e : TypeId} {i : TypeInfo} {z : Value} {size bytes : Nat}
theorem run_append_src (ht : P.underlying t = some (.slice e)) (hi : P.info? e = some i) (hz : i.zero = some z) (hsize : i.size = size) (hby : i.bytes = bytes) (hzs : z.cells.size = size) (hsz : 0 < size)
    (v : Value) (n : Nat) (xs : List Value) (hown : w.ownsRow 0 e size v n xs) (A : Option Addr) (m c : Nat) (news : List Value) (hsrc : Src w A m size news) (h1 : ∀ u ∈ news, u.oneCell' = true)
    (h63 : n + m ≤ maxLen) (hbytes : (n + m) * bytes ≤ 140737488355328) :
    ∃ v' w', (Builtin.append_ #[t, t] ty #[v, .slice A m c]).run P w = .ok v' w' ∧ w'.ownsRow 0 e size v' (n + m) (xs ++ news) ∧ w.grownBy w' v.ownBlock ∧ (v'.ownBlock = v.ownBlock ∨ v'.ownBlock = some w.heap.size) := by
  rcases hsrc with ⟨rfl, rfl⟩ | ⟨ad, ha, hl, hn⟩
  · cases A with
    | some ad =>
      obtain ⟨v', w', h2, h3, h4, _, h5⟩ := run_append_own_at (P := P) w 0 t ty e i z size bytes ht hi hz hsize hby hzs hsz v n xs hown ad 0 c [] (by simp) (by simp) h1 h63 hbytes (Nat.zero_le _)
      exact ⟨v', w', h2, h3, h4, h5⟩
    | none =>
      refine ⟨v, w, ?_, by simpa using hown, World.grownBy.refl w _, .inl rfl⟩
      obtain ⟨_, ⟨rfl, rfl⟩ | ⟨g, cap, cur, rfl, _, _, hn, _⟩⟩ := hown
      · simp [Builtin.append_, run_underlying ht, sizeOf, typeInfo, hi, Builtin.lenOf, Builtin.firstCells]
      · simp [Builtin.append_, run_underlying ht, sizeOf, typeInfo, hi, Builtin.lenOf, Builtin.firstCells, hn, storeCells]
  · subst ha
    obtain ⟨v', w', h2, h3, h4, _, h5⟩ := run_append_own_at (P := P) w 0 t ty e i z size bytes ht hi hz hsize hby hzs hsz v n xs hown ad m c news hl hn h1 h63 hbytes (Nat.zero_le _)
    exact ⟨v', w', h2, h3, h4, h5⟩
theorem wp_append_src {o : Oper} {a : Act} {K : Act → World → Prop} {Q : Exit → Act → World → Prop} (s x : Operand)
    (ho : o.op = .call { callee := .builtin .append, args := #[s, x], argTypes := #[t, t] })
    (ht : P.underlying t = some (.slice e)) (hi : P.info? e = some i) (hz : i.zero = some z) (hsize : i.size = size) (hby : i.bytes = bytes) (hzs : z.cells.size = size) (hsz : 0 < size)
    (v : Value) (n : Nat) (xs : List Value) (hs : a.eval s = v) (hown : w.ownsRow 0 e size v n xs) (A : Option Addr) (m c : Nat) (news : List Value) (hx : a.eval x = .slice A m c) (hsrc : Src w A m size news) (h1 : ∀ u ∈ news, u.oneCell' = true)
    (h63 : n + m ≤ maxLen) (hbytes : (n + m) * bytes ≤ 140737488355328)
    (h : ∀ v' w', w'.ownsRow 0 e size v' (n + m) (xs ++ news) → w.grownBy w' v.ownBlock → (v'.ownBlock = v.ownBlock ∨ v'.ownBlock = some w.heap.size) → K (a.put o.dst v') w') : o.wp P a w K Q := by
  obtain ⟨v', w', hr, h2, h3, h4⟩ := run_append_src (P := P) (w := w) (ty := o.type) ht hi hz hsize hby hzs hsz v n xs hown A m c news hsrc h1 h63 hbytes
  unfold Oper.wp execOp
  simp only [ho, resolve, invoke, builtin, Sem.run_bind, Sem.run_pure, Result.andThen_ok, List.map_toArray, List.map_cons, List.map_nil, hs, hx, hr]
  exact h v' w' h2 h3 h4
theorem wpList_append_src {ops : Array Oper} {rest : List Oper} {o : Oper} {a : Act} {Q : Exit → Act → World → Prop} (hgd : o.guard = none) (s x : Operand)
    (ho : o.op = .call { callee := .builtin .append, args := #[s, x], argTypes := #[t, t] })
    (ht : P.underlying t = some (.slice e)) (hi : P.info? e = some i) (hz : i.zero = some z) (hsize : i.size = size) (hby : i.bytes = bytes) (hzs : z.cells.size = size) (hsz : 0 < size)
    (v : Value) (n : Nat) (xs : List Value) (hs : a.eval s = v) (hown : w.ownsRow 0 e size v n xs) (A : Option Addr) (m c : Nat) (news : List Value) (hx : a.eval x = .slice A m c) (hsrc : Src w A m size news) (h1 : ∀ u ∈ news, u.oneCell' = true)
    (h63 : n + m ≤ maxLen) (hbytes : (n + m) * bytes ≤ 140737488355328)
    (h : ∀ v' w', w'.ownsRow 0 e size v' (n + m) (xs ++ news) → w.grownBy w' v.ownBlock → (v'.ownBlock = v.ownBlock ∨ v'.ownBlock = some w.heap.size) → wpList P ops Q rest (a.put o.dst v') w') : wpList P ops Q (o :: rest) a w :=
  wpList_plain hgd fun _ hK => wp_append_src s x ho ht hi hz hsize hby hzs hsz v n xs hs hown A m c news hx hsrc h1 h63 hbytes fun v' w' h2 h3 h4 => hK _ _ (h v' w' h2 h3 h4)
theorem step_append_src {ops : Array Oper} {o : Oper} {a : Act} {K : Act → World → Prop} {Q : Exit → Act → World → Prop} {E : Prop} (hgd : o.guard = none) (s x : Operand)
    (ho : o.op = .call { callee := .builtin .append, args := #[s, x], argTypes := #[t, t] })
    (ht : P.underlying t = some (.slice e)) (hi : P.info? e = some i) (hz : i.zero = some z) (hsize : i.size = size) (hby : i.bytes = bytes) (hzs : z.cells.size = size) (hsz : 0 < size)
    (v : Value) (n : Nat) (xs : List Value) (hs : a.eval s = v) (hown : w.ownsRow 0 e size v n xs) (A : Option Addr) (m c : Nat) (news : List Value) (hx : a.eval x = .slice A m c) (hsrc : Src w A m size news) (h1 : ∀ u ∈ news, u.oneCell' = true)
    (h63 : n + m ≤ maxLen) (hbytes : (n + m) * bytes ≤ 140737488355328)
    (h : ∀ v' w', w'.ownsRow 0 e size v' (n + m) (xs ++ news) → w.grownBy w' v.ownBlock → (v'.ownBlock = v.ownBlock ∨ v'.ownBlock = some w.heap.size) → K (a.put o.dst v') w') :
    if Region.wanted o (yielded ops a.tmps) = true then Oper.wp P o a w K Q else E := by
  have hw : Region.wanted o (yielded ops a.tmps) = true := by simp [Region.wanted, hgd]
  rw [if_pos hw]
  exact wp_append_src s x ho ht hi hz hsize hby hzs hsz v n xs hs hown A m c news hx hsrc h1 h63 hbytes h
end

theorem add_none (b off j : Nat) : (⟨b, off, none⟩ : Addr).add j = ⟨b, off + j, none⟩ := by unfold Addr.add; split <;> simp_all
theorem Src.one {w : World} {b : Nat} {x : Value} (h : w.cell? ⟨b, 0, none⟩ = some x) : Src w (some ⟨b, 0, none⟩) 1 1 [x] :=
  .inr ⟨_, rfl, rfl, fun j u hj => by
    match j, hj with
    | 0, hj => simp at hj; subst hj; rw [add_none]; exact h⟩
theorem Src.keep {w w' : World} {A : Option Addr} {m size : Nat} {news : List Value} (h : Src w A m size news) (hk : ∀ a, A = some a → ∀ o u, w.cell? (a.add o) = some u → w'.cell? (a.add o) = some u) : Src w' A m size news := by
  rcases h with h | ⟨ad, rfl, h1, h2⟩
  · exact .inl h
  · exact .inr ⟨ad, rfl, h1, fun j u hj => hk _ rfl j u (h2 j u hj)⟩
theorem Src.grow {w w' : World} {A : Option Addr} {m size : Nat} {news : List Value} (h : Src w A m size news) (hb : Below w.heap.size w w') : Src w' A m size news :=
  h.keep fun _ _ _ _ hc => (hb.cell (World.block_lt_of_cell? _ _ hc)).trans hc
/-- A row as a source. -/
theorem row_src {α : Type} {T : Ty α} {wr : Bool} {w : World} {v : Value} {xs : List α} {F : List Nat} (h : T.row wr w v xs F) : ∃ A c cs G, v = .slice A xs.length c ∧ T.all wr w cs xs G ∧ Src w A xs.length T.size cs ∧ (∀ b ∈ G, b ∈ F) := by
  obtain ⟨a, cap, cs, G, rfl, h1, h2, hall, ⟨rfl, rfl⟩ | ⟨hs, hne, b, off, rfl, rfl, hc⟩⟩ := h
  · obtain ⟨rfl, rfl⟩ := hall
    exact ⟨a, cap, [], [], rfl, ⟨rfl, rfl⟩, .inl ⟨rfl, rfl⟩, by simp⟩
  · refine ⟨_, cap, cs, G, rfl, hall, .inr ⟨_, rfl, Ty.all_len hall, fun j u hj => ?_⟩, fun x hx => List.mem_cons_of_mem _ hx⟩
    have hjl := (List.getElem?_eq_some_iff.1 hj).1
    rw [add_none, (hc j hjl).1, ← List.getElem?_eq_getElem hjl, hj]
theorem row_src_int {wr : Bool} {w : World} {v : Value} {xs : List Int} {F : List Nat} (h : Ty.int.row wr w v xs F) : ∃ A c, v = .slice A xs.length c ∧ Src w A xs.length 1 (xs.map (.int .i64)) := by
  obtain ⟨A, c, cs, G, rfl, hall, hs, _⟩ := row_src h
  obtain ⟨rfl, _, _⟩ := Ty.all_int_inv hall
  exact ⟨A, c, rfl, hs⟩

/-- Where a slice from k on lies. -/
def cutA (A : Option Addr) (cap k size : Nat) : Option Addr := if cap = k then A else A.map (·.add (k * size))
section
variable {P : Program} {T e : TypeId} {i : TypeInfo} {size : Nat} {ρ : Operand → Value} {o : Oper} {x y : Operand} {A : Option Addr} {len cap k : Nat} {w : World}
theorem exec_slice_to (ho : o.op = .slice T x none (some y) none) (hx : ρ x = .slice A len cap) (hy : ρ y = .int .i64 k) (hT : P.underlying T = some (.slice e)) (hi : P.info? e = some i) (hk : k ≤ cap) :
    (execOp ρ o).run P w = .ok (.value (.slice A k cap)) w := by
  have hb : (Instr.sliceBounds true len cap none (some (.int .i64 k)) none).run P w = .ok (0, k, cap) w := by
    simp [Instr.sliceBounds, run_sliceBound (P := P) w .i64 (k : Int) cap .sliceAcap (by omega) (by omega)]
  have hA : (if cap = 0 then A else A.map (·.add 0)) = A := by
    split
    · rfl
    · cases A <;> simp [Addr.add]
  unfold execOp
  simp [ho, hx, hy, Instr.sliceAt, run_underlying hT, Instr.slice, hb, sizeOf, typeInfo, hi, hA]
theorem exec_slice_from (ho : o.op = .slice T x (some y) none none) (hx : ρ x = .slice A len cap) (hy : ρ y = .int .i64 k) (hT : P.underlying T = some (.slice e)) (hi : P.info? e = some i) (hs : i.size = size) (hk : k ≤ len) :
    (execOp ρ o).run P w = .ok (.value (.slice (cutA A cap k size) (len - k) (cap - k))) w := by
  have hb : (Instr.sliceBounds true len cap (some (.int .i64 k)) none none).run P w = .ok (k, len, cap) w := by
    simp [Instr.sliceBounds, run_sliceBound (P := P) w .i64 (k : Int) len .sliceB (by omega) (by omega)]
  subst hs
  unfold execOp cutA
  simp [ho, hx, hy, Instr.sliceAt, run_underlying hT, Instr.slice, hb, sizeOf, typeInfo, hi]
end
theorem Src.to {w : World} {A : Option Addr} {m size k : Nat} {news : List Value} (h : Src w A m size news) (hk : k ≤ m) : Src w A k size (news.take (k * size)) := by
  rcases h with ⟨rfl, rfl⟩ | ⟨ad, rfl, h1, h2⟩
  · exact .inl ⟨by omega, by simp⟩
  · refine .inr ⟨ad, rfl, ?_, fun j u hj => ?_⟩
    · rw [List.length_take, h1]
      have := Nat.mul_le_mul_right size hk
      omega
    · rw [List.getElem?_take] at hj
      split at hj
      · exact h2 j u hj
      · cases hj
theorem Src.from {w : World} {b off cap : Nat} {m size k : Nat} {news : List Value} (h : Src w (some ⟨b, off, none⟩) m size news) (hk : k ≤ m) (hm : m ≤ cap) : Src w (cutA (some ⟨b, off, none⟩) cap k size) (m - k) size (news.drop (k * size)) := by
  rcases h with ⟨rfl, rfl⟩ | ⟨ad, e, h1, h2⟩
  · exact .inl ⟨by omega, by simp⟩
  · cases e
    unfold cutA
    by_cases hc : cap = k
    · obtain rfl : m = k := by omega
      exact .inl ⟨by omega, by rw [List.drop_eq_nil_of_le (by omega)]⟩
    · rw [if_neg hc]
      refine .inr ⟨_, rfl, by rw [List.length_drop, h1, Nat.sub_mul], fun j u hj => ?_⟩
      rw [List.getElem?_drop] at hj
      have := h2 _ u hj
      rw [add_none] at this
      show w.cell? (((⟨b, off, none⟩ : Addr).add (k * size)).add j) = some u
      rw [add_none, add_none, Nat.add_assoc]
      exact this
theorem Src.from_nil {w : World} {m cap size k : Nat} {news : List Value} (h : Src w none m size news) (hk : k ≤ m) : Src w (cutA none cap k size) (m - k) size (news.drop (k * size)) := by
  rcases h with ⟨rfl, rfl⟩ | ⟨ad, e, _⟩
  · exact .inl ⟨by omega, by simp⟩
  · cases e
end Go.Proofs.YtnfjgebfmnpkbaaGreat

/- Contracts: rows of ints in the laws: compared, marked, held, copied. -/
namespace Go.Proofs.YtnfjgebfmnpkbaaGreat
open Go.RowKit

/- left out: the seat has no laws.eqIntS -/

/-- What has been marked so far. -/
def MarkRel (b off : Nat) (m : Int) (xs : List Int) (k : Nat) (w wr : World) : Prop :=
  (∀ j (hj : j < xs.length), cellIs true wr b (off + j) (.int .i64 (if j < k then m + j else xs[j]))) ∧ Chg [b] w wr
theorem MarkRel.step {b off : Nat} {m : Int} {xs : List Int} {k : Nat} {w wr : World} (h : MarkRel b off m xs k w wr) (hk : k < xs.length) : MarkRel b off m xs (k + 1) w (wr.setCell ⟨b, off + k, none⟩ (.int .i64 (m + k))) := by
  refine ⟨fun j hj => ?_, h.2.set (by simp) _⟩
  have hc := h.1 j hj
  by_cases e : j = k
  · subst e
    refine ⟨?_, fun _ => ?_⟩
    · rw [if_pos (by omega)]; exact World.cell?_setCell_same' _ _ _ (by rw [hc.1]; rfl)
    · rw [World.frozen?_setCell]; exact hc.2 rfl
  · refine ⟨?_, fun _ => ?_⟩
    · rw [World.cell?_setCell_other wr _ _ _ (by simp only [ne_eq, Addr.mk.injEq]; omega)]
      rw [hc.1]
      by_cases h1 : j < k
      · rw [if_pos h1, if_pos (by omega)]
      · rw [if_neg h1, if_neg (by omega)]
    · rw [World.frozen?_setCell]; exact hc.2 rfl

def MarkPost {α : Type} (T : Ty α) (w : World) (v : Value) (k : Int) (ys : List α) (F : List Nat) (e : Ending) (w' : World) : Prop :=
  e = .returned (.int .i64 k) ∧ T.row true w' v ys F ∧ Chg F w w'

/- left out: the seat has no laws.markIntS -/

/-- What 'held' gives: past the last mark, or -1. -/
def heldOf (xs : List Int) (m : Int) : Int := if xs = marks m xs.length then m + xs.length else -1
theorem marks_snoc (m : Int) (n : Nat) : marks m (n + 1) = marks m n ++ [m + n] := by simp [marks, List.range_succ]

/- left out: the seat has no laws.heldIntS -/

/-- What 'to' gives: a row of its own with the same data. -/
def OwnPost {α : Type} (T : Ty α) (w : World) (xs : List α) (e : Ending) (w' : World) : Prop :=
  ∃ v F, e = .returned v ∧ T.row true w' v xs F ∧ F.Nodup ∧ (∀ b ∈ F, w.heap.size ≤ b) ∧ Below w.heap.size w w'

theorem infoInt : (Tryz.prog.info? 3).map (fun i => (i.zero, i.size, i.bytes)) = some (some (.int .i64 0), 1, 8) := by kernel_rfl

/-- What has been copied so far. -/
def CopyRel (xs : List Int) (k : Nat) (w wr : World) : Prop :=
  (∀ j (hj : j < xs.length), cellIs true wr w.heap.size (0 + j) (.int .i64 (if j < k then xs[j] else 0))) ∧ Below w.heap.size w wr
theorem CopyRel.step {xs : List Int} {k : Nat} {w wr : World} (h : CopyRel xs k w wr) (hk : k < xs.length) : CopyRel xs (k + 1) w (wr.setCell ⟨w.heap.size, k, none⟩ (.int .i64 xs[k])) := by
  refine ⟨fun j hj => ?_, h.2.setCell (by simp) _⟩
  have hc := h.1 j hj
  by_cases e : j = k
  · subst e
    refine ⟨?_, fun _ => ?_⟩
    · rw [if_pos (by omega), Nat.zero_add]; exact World.cell?_setCell_same' _ _ _ (by have := hc.1; rw [Nat.zero_add] at this; rw [this]; rfl)
    · rw [World.frozen?_setCell]; exact hc.2 rfl
  · refine ⟨?_, fun _ => ?_⟩
    · rw [World.cell?_setCell_other wr _ _ _ (by simp only [ne_eq, Addr.mk.injEq]; omega)]
      rw [hc.1]
      by_cases h1 : j < k
      · rw [if_pos h1, if_pos (by omega)]
      · rw [if_neg h1, if_neg (by omega)]
    · rw [World.frozen?_setCell]; exact hc.2 rfl

theorem hown_cell {w : World} {g n : Nat} {cur : Array Value} {e : TypeId} {fr : Nat × Nat} {cs : List Value} (hh : w.heap[g]? = some (.cells cur e fr)) (ht : cur.toList.take n = cs) {j : Nat} (hj : j < n) : w.cell? ⟨g, j, none⟩ = cs[j]? := by
  subst ht
  simp [World.cell?, hh, hj]

/- left out: the seat has no laws.toIntS -/
end Go.Proofs.YtnfjgebfmnpkbaaGreat

/- Own rows: their blocks, stores into them, parts in front. -/
namespace Go.Proofs.YtnfjgebfmnpkbaaGreat
open Go.RowKit

theorem owns_base {w : World} {B : Nat} {e : TypeId} {size : Nat} {v : Value} {n : Nat} {xs : List Value} (h : w.ownsRow 0 e size v n xs) (hB : ∀ g, v.ownBlock = some g → B ≤ g) : w.ownsRow B e size v n xs := by
  obtain ⟨hl, h | ⟨g, cap, cur, rfl, hg, r⟩⟩ := h
  · exact ⟨hl, .inl h⟩
  · exact ⟨hl, .inr ⟨g, cap, cur, rfl, hB g rfl, r⟩⟩
theorem owns_zero {w : World} {B : Nat} {e : TypeId} {size : Nat} {v : Value} {n : Nat} {xs : List Value} (h : w.ownsRow B e size v n xs) : w.ownsRow 0 e size v n xs := by
  obtain ⟨hl, h | ⟨g, cap, cur, rfl, hg, r⟩⟩ := h
  · exact ⟨hl, .inl h⟩
  · exact ⟨hl, .inr ⟨g, cap, cur, rfl, Nat.zero_le _, r⟩⟩
theorem owns_ge {w : World} {B : Nat} {e : TypeId} {size : Nat} {v : Value} {n : Nat} {xs : List Value} (h : w.ownsRow B e size v n xs) : ∀ g, v.ownBlock = some g → B ≤ g := by
  obtain ⟨hl, ⟨rfl, _⟩ | ⟨g, cap, cur, rfl, hg, r⟩⟩ := h
  · intro g hg; cases hg
  · intro g' hg'
    obtain rfl : g = g' := by simpa [Value.ownBlock] using hg'
    exact hg
/-- The row that a list of parts owns, at the end. -/
theorem Sp.owns_end {w0 w : World} {ps : List Asn} {i : Nat} {size n : Nat} {e : TypeId} {v : Value} {xs : List Value} (h : Sp w0 w ps) (hi : ps[i]? = some (Own e size v n xs)) : w.ownsRow w0.heap.size e size v n xs := by
  obtain ⟨F, ⟨rfl, h1⟩, h2⟩ := h.get hi
  exact owns_base h1 fun g hg => h2 g (by simp [hg])
theorem Sp.own_call {w0 w w' : World} {ps : List Asn} {size n : Nat} {e : TypeId} {v : Value} {xs : List Value} (h : Sp w0 w ps) (hb : Below w.heap.size w w') (ho : w'.ownsRow w.heap.size e size v n xs) : Sp w0 w' (Own e size v n xs :: ps) :=
  h.own_new hb (owns_zero ho) (owns_ge ho)
theorem sep_append : ∀ {qs ps : List Asn} {w : World} {F G : List Nat}, sep qs w F → sep ps w G → (∀ b ∈ F, b ∉ G) → sep (qs ++ ps) w (F ++ G)
  | [], ps, w, F, G, h, k, hd => by
    obtain rfl : F = [] := h
    exact k
  | q :: qs, ps, w, F, G, h, k, hd => by
    obtain ⟨F1, F2, rfl, h1, h2, h3⟩ := h
    refine ⟨F1, F2 ++ G, by rw [List.append_assoc], fun b hb hb2 => ?_, h2, sep_append h3 k fun b hb => hd b (List.mem_append.2 (.inr hb))⟩
    rcases List.mem_append.1 hb2 with h | h
    · exact h1 b hb h
    · exact hd b (List.mem_append.2 (.inl hb)) h
/-- Parts made by a call go in front. -/
theorem Sp.seq {w0 w w' : World} {ps qs : List Asn} (h : Sp w0 w ps) (k : Sp w w' qs) : Sp w0 w' (qs ++ ps) := by
  obtain ⟨h1, G, h2, h3⟩ := h
  obtain ⟨k1, F, k2, k3⟩ := k
  refine ⟨btr h1 k1, F ++ G, sep_append k2 (sep_keep h2 fun b hm => k1.block b (sep_lt h2 b hm)) (fun b hb hb2 => ?_), fun b hb => ?_⟩
  · have := k3 b hb; have := sep_lt h2 b hb2; omega
  · rcases List.mem_append.1 hb with h | h
    · have := k3 b h; have := h1.size; omega
    · exact h3 b h
theorem own_slice {w : World} {B : Nat} {e : TypeId} {size : Nat} {v : Value} {n : Nat} {xs : List Value} (h : w.ownsRow B e size v n xs) : ∃ a c, v = .slice a n c := by
  obtain ⟨_, ⟨rfl, rfl⟩ | ⟨g, cap, cur, rfl, _⟩⟩ := h
  · exact ⟨_, _, rfl⟩
  · exact ⟨_, _, rfl⟩
theorem own_from {w : World} {B : Nat} {e : TypeId} {size : Nat} {A : Option Addr} {n c : Nat} {k : Nat} {xs : List Value} (h : w.ownsRow B e size (.slice A n c) k xs) : ∀ a, A = some a → B ≤ a.block := by
  rintro a rfl
  exact owns_ge h a.block rfl
/-- An own row, told by its block. -/
theorem own_block {w : World} {B : Nat} {e : TypeId} {size : Nat} {v : Value} {n : Nat} {xs : List Value} (h : w.ownsRow B e size v n xs) (hn : 0 < n) :
    ∃ g cap cur, v = .slice (some ⟨g, 0, none⟩) n cap ∧ B ≤ g ∧ w.heap[g]? = some (.cells cur e (0, 0)) ∧ n ≤ cap ∧ cap ≤ maxLen ∧ cur.size = cap * size ∧ cur.toList.take (n * size) = xs := by
  obtain ⟨_, ⟨_, h0⟩ | h⟩ := h
  · omega
  · exact h
theorem own_at {w : World} {g : Nat} {cur : Array Value} {e : TypeId} {size n : Nat} {xs : List Value} (hh : w.heap[g]? = some (.cells cur e (0, 0))) (ht : cur.toList.take (n * size) = xs) {o : Nat} (ho : o < n * size) : w.cell? ⟨g, o, none⟩ = xs[o]? ∧ w.frozen? ⟨g, o, none⟩ = false :=
  ⟨hown_cell hh ht ho, by simp [World.frozen?, hh]⟩
/-- A store into an own row. -/
theorem Sp.own_put {w0 w : World} {ps : List Asn} {i g cap n size o : Nat} {e : TypeId} {xs : List Value} (h : Sp w0 w ps) (hi : ps[i]? = some (Own e size (.slice (some ⟨g, 0, none⟩) n cap) n xs)) (u : Value) (ho : o < n * size) :
    Sp w0 (w.setCell ⟨g, o, none⟩ u) (ps.set i (Own e size (.slice (some ⟨g, 0, none⟩) n cap) n (xs.set o u))) := by
  obtain ⟨F, ⟨rfl, hh⟩, hF, hall⟩ := h.upd hi
  have hlen := hh.1
  obtain ⟨g', cap', cur, e1, h0, hg, hn, hm, hc, ht⟩ := own_block hh (by
    rcases Nat.eq_zero_or_pos n with rfl | h
    · simp at ho
    · exact h)
  simp only [Value.slice.injEq, Option.some.injEq, Addr.mk.injEq] at e1
  obtain ⟨⟨rfl, _⟩, _, rfl⟩ := e1
  have hset : (w.setCell ⟨g, o, none⟩ u).heap[g]? = some (.cells (cur.setIfInBounds o u) e (0, 0)) := by
    simp [World.setCell, Array.getElem?_modify]
    exact ⟨_, hg, rfl⟩
  refine hall _ _ [g] ?_ ⟨rfl, by rw [List.length_set]; exact hlen, .inr ⟨g, cap, cur.setIfInBounds o u, rfl, Nat.zero_le _, hset, hn, hm, by rw [Array.size_setIfInBounds]; exact hc, ?_⟩⟩ fun b hb => .inl hb
  · exact ⟨rfl, rfl, rfl, by simp [World.setCell], fun k _ hn => Below.heap_setCell _ _ _ _ (by simpa [Value.ownBlock] using hn)⟩
  · rw [Array.toList_setIfInBounds, List.take_set, ht]
end Go.Proofs.YtnfjgebfmnpkbaaGreat

/- Memory: rows of numbers that can be read. -/
namespace Go.Proofs.YtnfjgebfmnpkbaaGreat
open Go.RowKit

/-- A row of numbers that can be read. -/
structure IntsAt (w : World) (A : Option Addr) (cs : List Int) : Prop where
  at_ : ∀ j (hj : j < cs.length), ∃ b off, A = some ⟨b, off, none⟩ ∧ w.cell? ⟨b, off + j, none⟩ = some (.int .i64 cs[j])
  ok : ∀ c ∈ cs, I64 c
theorem IntsAt.grow {w w' : World} {A : Option Addr} {cs : List Int} (h : IntsAt w A cs) (hb : Below w.heap.size w w') : IntsAt w' A cs := by
  refine ⟨fun j hj => ?_, h.ok⟩
  obtain ⟨b, off, e, h1⟩ := h.at_ j hj
  exact ⟨b, off, e, (hb.cell (World.block_lt_of_cell? _ _ h1)).trans h1⟩
theorem IntsAt.keep {w w' : World} {A : Option Addr} {cs : List Int} (h : IntsAt w A cs) (hk : ∀ a, A = some a → w'.heap[a.block]? = w.heap[a.block]?) : IntsAt w' A cs := by
  refine ⟨fun j hj => ?_, h.ok⟩
  obtain ⟨b, off, e, h1⟩ := h.at_ j hj
  exact ⟨b, off, e, (World.cell?_of_block (a := ⟨b, off + j, none⟩) (hk ⟨b, off, none⟩ e)).trans h1⟩
theorem IntsAt.set {w : World} {A : Option Addr} {cs : List Int} (h : IntsAt w A cs) {g : Nat} (hg : ∀ a, A = some a → a.block ≠ g) (o : Nat) (u : Value) : IntsAt (w.setCell ⟨g, o, none⟩ u) A cs :=
  h.keep fun a ha => Below.heap_setCell _ _ _ _ (hg a ha)
theorem IntsAt.chg {F : List Nat} {w w' : World} {A : Option Addr} {cs : List Int} (h : IntsAt w A cs) (hc : Chg F w w') (hF : ∀ a, A = some a → a.block ∉ F) : IntsAt w' A cs := by
  refine ⟨fun j hj => ?_, h.ok⟩
  obtain ⟨b, off, e, h1⟩ := h.at_ j hj
  exact ⟨b, off, e, (World.cell?_of_block (a := ⟨b, off + j, none⟩) (hc.block b (World.block_lt_of_cell? _ _ h1) (hF _ e))).trans h1⟩
theorem IntsAt.nil (w : World) (A : Option Addr) : IntsAt w A [] := ⟨fun j hj => absurd hj (by simp), by simp⟩
theorem ints_own {w : World} {B : Nat} {e : TypeId} {v : Value} {cs : List Int} (h : w.ownsRow B e 1 v cs.length (cs.map (.int .i64))) (hok : ∀ c ∈ cs, I64 c) : ∃ A c, v = .slice A cs.length c ∧ IntsAt w A cs := by
  obtain ⟨_, ⟨rfl, h0⟩ | ⟨g, cap, cur, rfl, _, hh, _, _, hs, ht⟩⟩ := h
  · exact ⟨none, 0, by rw [h0], fun j hj => absurd hj (by omega), hok⟩
  · refine ⟨_, cap, rfl, fun j hj => ⟨g, 0, rfl, ?_⟩, hok⟩
    rw [Nat.mul_one] at ht
    rw [Nat.zero_add, hown_cell hh ht hj]
    simp [hj]
theorem ints_row {wr : Bool} {w : World} {v : Value} {cs : List Int} {F : List Nat} (h : Ty.int.row wr w v cs F) : ∃ A c, v = .slice A cs.length c ∧ IntsAt w A cs := by
  obtain ⟨a, c, rfl, h1, h2, h64, h3⟩ := row_int h
  refine ⟨a, c, rfl, ⟨fun j hj => ?_, h64⟩⟩
  rcases h3 with ⟨rfl, _⟩ | ⟨_, b, off, rfl, _, hc⟩
  · exact absurd hj (by simp)
  · exact ⟨b, off, rfl, (hc j hj).1⟩
theorem IntsAt.get {w : World} {b off : Nat} {cs : List Int} (h : IntsAt w (some ⟨b, off, none⟩) cs) {j : Nat} (hj : j < cs.length) : w.cell? ⟨b, off + j, none⟩ = some (.int .i64 cs[j]) := by
  obtain ⟨b', off', e, h1⟩ := h.at_ j hj
  cases e
  exact h1
/-- A function of a number, told by what it answers. -/
def FnI (R : Int → Prop) (w0 : World) (g : FuncId) (cb : Array Value) (p : Int → Bool) : Prop :=
  ∀ (x : Int) w, R x → Below w0.heap.size w0 w → Calls Tryz.prog g (#[.int .i64 x] ++ cb) w fun e w' => e = .returned (.bool (p x)) ∧ Below w.heap.size w w'
/-- The function values that calls enter. -/
def Enter1 (g : FuncId) : Prop := ∀ args w, (callFunc g args).run Tryz.prog w = .ok (.enter g args) w
end Go.Proofs.YtnfjgebfmnpkbaaGreat
