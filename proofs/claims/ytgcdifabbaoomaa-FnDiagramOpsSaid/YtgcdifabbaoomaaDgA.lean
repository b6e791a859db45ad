/- Plain facts: diagrams, their values, and the plan of values. No program in sight. -/
import Derived.Test.YtgcdifabbaoomaaPlA
namespace Go.Proofs.Ytgcdifabbaoomaa

/-- A node: variable, low, high. -/
structure Nd where
  v : Int
  lo : Int
  hi : Int
  deriving DecidableEq

/-- The value of a number, where the nodes have these values. -/
def pv (acc : List Bool) (k : Int) : Bool := if k < 2 then decide (k = 1) else acc.getD (k - 2).toNat false
def bitN (bits : Nat) (v : Int) : Bool := bits.testBit (v - 1).toNat
def kid (bits : Nat) (n : Nd) : Int := if bitN bits n.v then n.hi else n.lo
/-- The values of all nodes. -/
def valsN (bits : Nat) (ns : List Nd) : List Bool := ns.foldl (fun acc n => acc ++ [pv acc (kid bits n)]) []
def valD (r : Int) (ns : List Nd) (bits : Nat) : Bool := pv (valsN bits ns) r

theorem vals_snoc (bits : Nat) (ns : List Nd) (n : Nd) : valsN bits (ns ++ [n]) = valsN bits ns ++ [pv (valsN bits ns) (kid bits n)] := by
  simp [valsN]
theorem foldl_vals_len (bits : Nat) (ns : List Nd) : ∀ acc : List Bool, (ns.foldl (fun acc n => acc ++ [pv acc (kid bits n)]) acc).length = acc.length + ns.length := by
  induction ns with
  | nil => intro acc; rfl
  | cons n ns ih => intro acc; simp only [List.foldl_cons]; rw [ih]; simp; omega
theorem vals_len (bits : Nat) (ns : List Nd) : (valsN bits ns).length = ns.length := by
  unfold valsN; rw [foldl_vals_len]; simp
theorem foldl_vals_pre (bits : Nat) (ns : List Nd) : ∀ acc : List Bool, ∃ l, ns.foldl (fun acc n => acc ++ [pv acc (kid bits n)]) acc = acc ++ l := by
  induction ns with
  | nil => intro acc; exact ⟨[], by simp⟩
  | cons n ns ih =>
    intro acc
    obtain ⟨l, hl⟩ := ih (acc ++ [pv acc (kid bits n)])
    exact ⟨pv acc (kid bits n) :: l, by simp only [List.foldl_cons]; rw [hl]; simp⟩
theorem vals_pre (bits : Nat) (ns ms : List Nd) : ∃ l, valsN bits (ns ++ ms) = valsN bits ns ++ l := by
  unfold valsN
  rw [List.foldl_append]
  exact foldl_vals_pre bits ms _
theorem pv_bool (acc : List Bool) (x : Bool) : pv acc (if x then 1 else 0) = x := by cases x <;> simp [pv]
theorem pv_pre {acc l : List Bool} {k : Int} (h : k ≤ acc.length + 1) : pv (acc ++ l) k = pv acc k := by
  unfold pv
  by_cases h2 : k < 2
  · rw [if_pos h2, if_pos h2]
  · rw [if_neg h2, if_neg h2, List.getD_eq_getElem?_getD, List.getD_eq_getElem?_getD, List.getElem?_append_left (by omega)]
theorem valD_pre {r : Int} {ns ms : List Nd} {bits : Nat} (h : r ≤ ns.length + 1) : valD r (ns ++ ms) bits = valD r ns bits := by
  obtain ⟨l, hl⟩ := vals_pre bits ns ms
  unfold valD
  rw [hl, pv_pre (by rw [vals_len]; omega)]
/-- The value of a node is that of its kid. -/
theorem vals_at {ns : List Nd} {i : Nat} (hi : i < ns.length) (bits : Nat) (h : kid bits ns[i] ≤ i + 1) : valD ((i : Int) + 2) ns bits = valD (kid bits ns[i]) ns bits := by
  have h1 : ns = ns.take i ++ (ns[i] :: ns.drop (i + 1)) := by rw [List.getElem_cons_drop, List.take_append_drop]
  have h2 : ns = (ns.take i ++ [ns[i]]) ++ ns.drop (i + 1) := by rw [List.append_assoc]; exact h1
  have hl : (ns.take i).length = i := by rw [List.length_take]; omega
  have e1 : valD ((i : Int) + 2) ns bits = valD ((i : Int) + 2) (ns.take i ++ [ns[i]]) bits := by
    conv => lhs; rw [h2]
    exact valD_pre (by rw [List.length_append, hl]; simp; omega)
  have e2 : valD (kid bits ns[i]) ns bits = valD (kid bits ns[i]) (ns.take i) bits := by
    conv => lhs; arg 2; rw [h1]
    exact valD_pre (by rw [hl]; omega)
  rw [e1, e2]
  unfold valD
  rw [vals_snoc]
  unfold pv
  rw [if_neg (by omega), List.getD_eq_getElem?_getD, show ((i : Int) + 2 - 2).toNat = i by omega, List.getElem?_append_right (by rw [vals_len, hl]; omega), vals_len, hl]
  simp [pv]

/-- Whether node i is valid. -/
def under (ns : List Nd) (v k : Int) : Bool := decide (k < 2) || decide (v < (ns.getD (k - 2).toNat ⟨0, 0, 0⟩).v)
def ndB (vars : Int) (ns : List Nd) (i : Nat) : Bool :=
  let n := ns.getD i ⟨0, 0, 0⟩
  inB n.v 1 vars && inB n.lo 0 (i + 1) && inB n.hi 0 (i + 1) && under ns n.v n.lo && under ns n.v n.hi
def ndsB (vars : Int) (ns : List Nd) (k : Nat) : Bool := (List.range k).all (ndB vars ns)
def goodD (vars r : Int) (ns : List Nd) : Bool := inB vars 0 6 && decide (ns.length ≤ 63) && inB r 0 (ns.length + 1) && ndsB vars ns ns.length
theorem ndsB_succ (vars : Int) (ns : List Nd) (k : Nat) : ndsB vars ns (k + 1) = (ndsB vars ns k && ndB vars ns k) := by simp [ndsB, List.range_succ]

/-- All nodes are valid. -/
def OkN (vars : Int) (ns : List Nd) : Prop := ∀ i, i < ns.length → ndB vars ns i = true
theorem ndsB_ok {vars : Int} {ns : List Nd} : ndsB vars ns ns.length = true ↔ OkN vars ns := by
  simp [ndsB, OkN]
theorem inB_def {x a b : Int} : inB x a b = true ↔ a ≤ x ∧ x ≤ b := by simp [inB]
theorem ndB_get {vars : Int} {ns : List Nd} {i : Nat} (hi : i < ns.length) : ndB vars ns i = true ↔
    ((1 ≤ ns[i].v ∧ ns[i].v ≤ vars) ∧ (0 ≤ ns[i].lo ∧ ns[i].lo ≤ i + 1) ∧ (0 ≤ ns[i].hi ∧ ns[i].hi ≤ i + 1) ∧ under ns ns[i].v ns[i].lo = true ∧ under ns ns[i].v ns[i].hi = true) := by
  unfold ndB
  rw [List.getD_eq_getElem?_getD, List.getElem?_eq_getElem hi]
  simp only [Option.getD_some, Bool.and_eq_true, inB_def, and_assoc]
theorem kid_le {vars : Int} {ns : List Nd} (h : OkN vars ns) {i : Nat} (hi : i < ns.length) (bits : Nat) : 0 ≤ kid bits ns[i] ∧ kid bits ns[i] ≤ i + 1 := by
  obtain ⟨_, h2, h3, _⟩ := (ndB_get hi).1 (h i hi)
  unfold kid
  split
  · exact h3
  · exact h2
theorem under_pre {ns ms : List Nd} {v k : Int} (h : k ≤ ns.length + 1) : under (ns ++ ms) v k = under ns v k := by
  unfold under
  by_cases h2 : k < 2
  · simp [h2]
  · rw [List.getD_eq_getElem?_getD, List.getD_eq_getElem?_getD, List.getElem?_append_left (by omega)]
theorem OkN.snoc {vars : Int} {ns : List Nd} {n : Nd} (h : OkN vars ns) (hv : 1 ≤ n.v ∧ n.v ≤ vars) (hl : 0 ≤ n.lo ∧ n.lo ≤ ns.length + 1) (hh : 0 ≤ n.hi ∧ n.hi ≤ ns.length + 1)
    (ul : under ns n.v n.lo = true) (uh : under ns n.v n.hi = true) : OkN vars (ns ++ [n]) := by
  intro i hi
  rw [ndB_get hi]
  rw [List.length_append, List.length_singleton] at hi
  by_cases hlt : i < ns.length
  · obtain ⟨h1, h2, h3, h4, h5⟩ := (ndB_get hlt).1 (h i hlt)
    rw [List.getElem_append_left hlt]
    exact ⟨h1, h2, h3, by rw [under_pre (by omega)]; exact h4, by rw [under_pre (by omega)]; exact h5⟩
  · obtain rfl : i = ns.length := by omega
    simp only [List.getElem_concat_length]
    exact ⟨hv, hl, hh, by rw [under_pre hl.2]; exact ul, by rw [under_pre hh.2]; exact uh⟩

/-- A node that is put there, unless it is there. -/
def addN (ns : List Nd) (n : Nd) : List Nd × Int := if n ∈ ns then (ns, (ns.idxOf n : Nat) + 2) else (ns ++ [n], (ns.length : Nat) + 2)
/-- The plan of values, for the last k variables. -/
def planF (f : Nat → Bool) : Nat → Nat → Nat → List Nd → List Nd × Int
  | 0, _, bits, ns => (ns, if f bits then 1 else 0)
  | k + 1, v, bits, ns =>
    if (planF f k (v + 1) bits ns).2 = (planF f k (v + 1) (bits + 2 ^ (v - 1)) (planF f k (v + 1) bits ns).1).2 then ((planF f k (v + 1) (bits + 2 ^ (v - 1)) (planF f k (v + 1) bits ns).1).1, (planF f k (v + 1) bits ns).2)
    else addN (planF f k (v + 1) (bits + 2 ^ (v - 1)) (planF f k (v + 1) bits ns).1).1 ⟨v, (planF f k (v + 1) bits ns).2, (planF f k (v + 1) (bits + 2 ^ (v - 1)) (planF f k (v + 1) bits ns).1).2⟩
def dgR (vars : Nat) (f : Nat → Bool) : Int := (planF f vars 1 0 []).2
def dgN (vars : Nat) (f : Nat → Bool) : List Nd := (planF f vars 1 0 []).1

theorem testBit_mod (b v : Nat) (hv : 1 ≤ v) : b % 2 ^ v = b % 2 ^ (v - 1) + (if b.testBit (v - 1) then 2 ^ (v - 1) else 0) := by
  obtain ⟨u, rfl⟩ : ∃ u, v = u + 1 := ⟨v - 1, by omega⟩
  rw [Nat.add_sub_cancel, Nat.mod_pow_succ]
  have : b.testBit u = decide (b / 2 ^ u % 2 = 1) := by
    rw [Nat.testBit_eq_decide_div_mod_eq]
  rw [this]
  rcases Nat.mod_two_eq_zero_or_one (b / 2 ^ u) with h | h
  · rw [h]; simp
  · rw [h]; simp

/-- What the plan has made. -/
structure Made (vars v bits k : Nat) (f : Nat → Bool) (ns : List Nd) (ns' : List Nd) (r : Int) : Prop where
  pre : ∃ ms, ns' = ns ++ ms
  ok : OkN vars ns'
  len : ns'.length + 1 ≤ ns.length + 2 ^ k
  r0 : 0 ≤ r
  r1 : r ≤ ns'.length + 1
  up : ∀ u : Int, u < v → under ns' u r = true
  val : ∀ b, b < 2 ^ vars → b % 2 ^ (v - 1) = bits → valD r ns' b = f b

theorem plan_made (f : Nat → Bool) (vars : Nat) : ∀ (k v bits : Nat) (ns : List Nd), v + k = vars + 1 → 1 ≤ v → bits < 2 ^ (v - 1) → OkN vars ns → Made vars v bits k f ns (planF f k v bits ns).1 (planF f k v bits ns).2
  | 0, v, bits, ns, hk, hv, hb, hok => by
    obtain rfl : v = vars + 1 := by omega
    rw [Nat.add_sub_cancel] at hb
    refine ⟨⟨[], by simp [planF]⟩, hok, by simp [planF], ?_, ?_, ?_, ?_⟩
    · simp only [planF]; split <;> decide
    · simp only [planF]; split <;> omega
    · intro u _; simp only [planF, under]; split <;> simp
    · intro b hb2 he
      rw [Nat.add_sub_cancel, Nat.mod_eq_of_lt hb2] at he
      subst he
      exact pv_bool (valsN b ns) (f b)
  | k + 1, v, bits, ns, hk, hv, hb, hok => by
    have hp : 2 ^ (v + 1 - 1) = 2 ^ (v - 1) + 2 ^ (v - 1) := by
      rw [show v + 1 - 1 = (v - 1) + 1 by omega, Nat.pow_succ]; omega
    have m1 := plan_made f vars k (v + 1) bits ns (by omega) (by omega) (by omega) hok
    rw [planF]
    generalize hA : planF f k (v + 1) bits ns = A at m1 ⊢
    obtain ⟨ns1, lo⟩ := A
    have m2 := plan_made f vars k (v + 1) (bits + 2 ^ (v - 1)) ns1 (by omega) (by omega) (by omega) m1.ok
    generalize hB : planF f k (v + 1) (bits + 2 ^ (v - 1)) ns1 = B at m2 ⊢
    obtain ⟨ns2, hi⟩ := B
    clear hA hB
    dsimp only at m1 m2 ⊢
    obtain ⟨p1, hp1⟩ := m1.pre
    obtain ⟨p2, hp2⟩ := m2.pre
    have hlo1 : lo ≤ ns2.length + 1 := by
      have := m1.r1
      rw [hp2, List.length_append]; omega
    have hlen : ns2.length + 1 + 1 ≤ ns.length + 2 ^ (k + 1) := by
      have h1 := m1.len
      have h2 := m2.len
      rw [Nat.pow_succ]; omega
    have hvlo : ∀ b, valD lo ns2 b = valD lo ns1 b := fun b => by rw [hp2]; exact valD_pre m1.r1
    have hulo : ∀ u : Int, u < (v + 1 : Nat) → under ns2 u lo = true := fun u hu => by rw [hp2, under_pre m1.r1]; exact m1.up u hu
    have hval : ∀ b, b < 2 ^ vars → b % 2 ^ (v - 1) = bits → (if b.testBit (v - 1) then valD hi ns2 b else valD lo ns2 b) = f b := by
      intro b hb2 he
      have hm := testBit_mod b v hv
      rw [he] at hm
      cases ht : b.testBit (v - 1)
      · rw [ht] at hm
        simp only [Bool.false_eq_true, if_false, Nat.add_zero] at hm
        rw [if_neg (by simp), hvlo]
        exact m1.val b hb2 (by rw [Nat.add_sub_cancel]; exact hm)
      · rw [ht] at hm
        simp only [if_true] at hm
        rw [if_pos rfl]
        exact m2.val b hb2 (by rw [Nat.add_sub_cancel]; exact hm)
    by_cases e : lo = hi
    · rw [if_pos e]
      subst e
      refine ⟨⟨p1 ++ p2, by rw [← List.append_assoc, ← hp1]; exact hp2⟩, m2.ok, by dsimp only; omega, m2.r0, m2.r1, fun u hu => m2.up u (by omega), fun b hb2 he => ?_⟩
      have := hval b hb2 he
      rw [ite_self] at this
      exact this
    · rw [if_neg e]
      have hkid : ∀ b : Nat, kid b ⟨v, lo, hi⟩ = if b.testBit (v - 1) then hi else lo := fun b => by
        unfold kid bitN
        rw [show ((v : Int) - 1).toNat = v - 1 by omega]
      have hvk : ∀ b, b < 2 ^ vars → b % 2 ^ (v - 1) = bits → valD (kid b ⟨v, lo, hi⟩) ns2 b = f b := by
        intro b hb2 he
        rw [hkid, ← hval b hb2 he]
        split <;> rfl
      unfold addN
      by_cases hin : (⟨v, lo, hi⟩ : Nd) ∈ ns2
      · rw [if_pos hin]
        have hil := List.idxOf_lt_length_of_mem hin
        have hget : ns2[ns2.idxOf (⟨v, lo, hi⟩ : Nd)] = ⟨v, lo, hi⟩ := List.getElem_idxOf hil
        refine ⟨⟨p1 ++ p2, by rw [← List.append_assoc, ← hp1]; exact hp2⟩, m2.ok, by dsimp only; omega, by dsimp only; omega, by dsimp only; omega, fun u hu => ?_, fun b hb2 he => ?_⟩
        · unfold under
          rw [List.getD_eq_getElem?_getD, show (((ns2.idxOf (⟨v, lo, hi⟩ : Nd) : Nat) : Int) + 2 - 2).toNat = ns2.idxOf (⟨v, lo, hi⟩ : Nd) by omega, List.getElem?_eq_getElem hil, hget]
          simp only [Option.getD_some, Bool.or_eq_true, decide_eq_true_eq]
          omega
        · have hkl := (kid_le m2.ok hil b).2
          dsimp only
          rw [vals_at hil b hkl, hget]
          exact hvk b hb2 he
      · rw [if_neg hin]
        refine ⟨⟨p1 ++ p2 ++ [⟨v, lo, hi⟩], by dsimp only; rw [← List.append_assoc, ← List.append_assoc, ← hp1, ← hp2]⟩, ?_, by dsimp only; rw [List.length_append, List.length_singleton]; omega, by dsimp only; omega, by dsimp only; rw [List.length_append, List.length_singleton]; omega, fun u hu => ?_, fun b hb2 he => ?_⟩
        · refine m2.ok.snoc ⟨by dsimp only; omega, by dsimp only; omega⟩ ⟨m1.r0, hlo1⟩ ⟨m2.r0, m2.r1⟩ (hulo _ (by dsimp only; omega)) (m2.up _ (by dsimp only; omega))
        · unfold under
          rw [List.getD_eq_getElem?_getD, show ((ns2.length : Int) + 2 - 2).toNat = ns2.length by omega, List.getElem?_concat_length]
          simp only [Option.getD_some, Bool.or_eq_true, decide_eq_true_eq]
          omega
        · have hkl : kid b (⟨v, lo, hi⟩ : Nd) ≤ ns2.length + 1 := by
            rw [hkid]; split
            · exact m2.r1
            · exact hlo1
          have h3 := vals_at (ns := ns2 ++ [⟨v, lo, hi⟩]) (i := ns2.length) (by simp) b (by simpa using hkl)
          dsimp only
          rw [h3, List.getElem_concat_length rfl, valD_pre hkl]
          exact hvk b hb2 he

theorem plan_len (f : Nat → Bool) : ∀ (k v bits : Nat) (ns : List Nd), (planF f k v bits ns).1.length + 1 ≤ ns.length + 2 ^ k
  | 0, v, bits, ns => by simp [planF]
  | k + 1, v, bits, ns => by
    have h1 := plan_len f k (v + 1) bits ns
    rw [planF]
    generalize planF f k (v + 1) bits ns = A at h1 ⊢
    have h2 := plan_len f k (v + 1) (bits + 2 ^ (v - 1)) A.1
    generalize planF f k (v + 1) (bits + 2 ^ (v - 1)) A.1 = B at h2 ⊢
    rw [Nat.pow_succ]
    split
    · dsimp only; omega
    · unfold addN
      split
      · dsimp only; omega
      · simp only [List.length_append, List.length_singleton]; omega
theorem plan_congr {f g : Nat → Bool} (vars : Nat) (h : ∀ b, b < 2 ^ vars → f b = g b) : ∀ (k v bits : Nat) (ns : List Nd), v + k = vars + 1 → 1 ≤ v → bits < 2 ^ (v - 1) → planF f k v bits ns = planF g k v bits ns
  | 0, v, bits, ns, hk, hv, hb => by
    obtain rfl : v = vars + 1 := by omega
    rw [Nat.add_sub_cancel] at hb
    simp only [planF, h bits hb]
  | k + 1, v, bits, ns, hk, hv, hb => by
    have hp : 2 ^ (v + 1 - 1) = 2 ^ (v - 1) + 2 ^ (v - 1) := by
      rw [show v + 1 - 1 = (v - 1) + 1 by omega, Nat.pow_succ]; omega
    rw [planF, planF, plan_congr vars h k (v + 1) bits ns (by omega) (by omega) (by omega), plan_congr vars h k (v + 1) (bits + 2 ^ (v - 1)) _ (by omega) (by omega) (by omega)]

theorem dg_made (vars : Nat) (f : Nat → Bool) : Made vars 1 0 vars f [] (dgN vars f) (dgR vars f) :=
  plan_made f vars vars 1 0 [] (by omega) (by omega) (by decide) (fun i hi => by simp at hi)
theorem dg_val {vars : Nat} {f : Nat → Bool} {b : Nat} (h : b < 2 ^ vars) : valD (dgR vars f) (dgN vars f) b = f b :=
  (dg_made vars f).val b h (Nat.mod_one b)
theorem dg_len {vars : Nat} (f : Nat → Bool) (h : vars ≤ 6) : (dgN vars f).length ≤ 63 := by
  have h1 := (dg_made vars f).len
  have h2 : 2 ^ vars ≤ 2 ^ 6 := Nat.pow_le_pow_right (by decide) h
  simp at h1; omega
theorem dg_good {vars : Nat} (f : Nat → Bool) (h : vars ≤ 6) : goodD vars (dgR vars f) (dgN vars f) = true := by
  have hm := dg_made vars f
  unfold goodD
  rw [Bool.and_eq_true, Bool.and_eq_true, Bool.and_eq_true, inB_def, inB_def, decide_eq_true_eq, ndsB_ok]
  exact ⟨⟨⟨⟨by omega, by omega⟩, dg_len f h⟩, hm.r0, hm.r1⟩, hm.ok⟩
theorem dg_congr {vars : Nat} {f g : Nat → Bool} (h : ∀ b, b < 2 ^ vars → f b = g b) : dgN vars f = dgN vars g ∧ dgR vars f = dgR vars g := by
  unfold dgN dgR
  rw [plan_congr vars h vars 1 0 [] (by omega) (by omega) (by decide)]
  exact ⟨rfl, rfl⟩

/-- How often a value is true. -/
def cntB (vars : Nat) (f : Nat → Bool) : Nat := (List.range (2 ^ vars)).countP f
theorem cnt_congr {vars : Nat} {f g : Nat → Bool} (h : ∀ b, b < 2 ^ vars → f b = g b) : cntB vars f = cntB vars g := by
  unfold cntB
  exact List.countP_congr fun b hb => by rw [h b (List.mem_range.1 hb)]
theorem cnt_and_or (vars : Nat) (f g : Nat → Bool) : cntB vars f + cntB vars g = cntB vars (fun b => f b && g b) + cntB vars (fun b => f b || g b) := by
  unfold cntB
  induction List.range (2 ^ vars) with
  | nil => rfl
  | cons b l ih =>
    simp only [List.countP_cons]
    cases f b <;> cases g b <;> simp <;> omega
/-- Bits in which the variable of a literal is set such that the literal is true. -/
def setB (bits : Nat) (l : Int) : Nat := if 0 < l then bits ||| 2 ^ (l - 1).toNat else bits &&& (2 ^ 63 - 1 - 2 ^ (-l - 1).toNat)
end Go.Proofs.Ytgcdifabbaoomaa
