/- Lemmas and contracts for a law, put together out of several texts: SdB NwH ClO ClQ AsA AsB SeA SeB MdA MdB MdC Cur CurS CurK MdD. -/
import Derived.Test.YteabiokhbaekpaaMg2
import Derived.Lib.SlicesCompact
import Derived.Lib.RowBridge
import Derived.Test.YteabiokhbaekpaaMg1
import Derived.Deep.DeepCutAuto
import Derived.Test.YteabiokhbaekpaaProg
import Derived.WalkLawsBesides
import Derived.WalkSpells
import Derived.Lib.Hide
import Derived.Deep.CutBlock
/- Plain facts: the variables of clauses, in ascending order. No program in sight. -/
namespace Go.Proofs.Yteabiokhbaekpaa
open Go.RowKit

theorem ascI_ext : ∀ {a b : List Int}, a.Pairwise (· < ·) → b.Pairwise (· < ·) → (∀ x, x ∈ a ↔ x ∈ b) → a = b
  | [], [], _, _, _ => rfl
  | [], y :: b, _, _, h => absurd ((h y).2 (List.mem_cons_self ..)) (by simp)
  | x :: a, [], _, _, h => absurd ((h x).1 (List.mem_cons_self ..)) (by simp)
  | x :: a, y :: b, ha, hb, h => by
    rw [List.pairwise_cons] at ha hb
    have e : x = y := by
      rcases List.mem_cons.1 ((h x).1 (List.mem_cons_self ..)) with e | hx
      · exact e
      rcases List.mem_cons.1 ((h y).2 (List.mem_cons_self ..)) with e | hy
      · exact e.symm
      have := hb.1 x hx; have := ha.1 y hy; omega
    subst e
    congr 1
    refine ascI_ext ha.2 hb.2 fun z => ⟨fun hz => ?_, fun hz => ?_⟩
    · rcases List.mem_cons.1 ((h z).1 (List.mem_cons_of_mem _ hz)) with e | h2
      · have := ha.1 z hz; omega
      · exact h2
    · rcases List.mem_cons.1 ((h z).2 (List.mem_cons_of_mem _ hz)) with e | h2
      · have := hb.1 z hz; omega
      · exact h2
theorem bangI {l : List Int} {j : Nat} (h : j < l.length) : l.toArray[j]! = l[j] := by rw [getElem!_pos l.toArray j (by simpa using h)]; simp
theorem compactI_mem {l : List Int} {x : Int} : x ∈ Lib.compact l ↔ x ∈ l := by
  unfold Lib.compact Lib.compactUpTo
  rw [List.mem_map]
  constructor
  · rintro ⟨j, hj, rfl⟩
    have hjl := List.mem_range.1 (List.mem_filter.1 hj).1
    rw [bangI hjl]
    exact List.getElem_mem hjl
  · intro hx
    obtain ⟨j, hj, rfl⟩ := List.getElem_of_mem hx
    have key : ∀ j (hj : j < l.length), ∃ i, i ∈ (List.range l.length).filter (Lib.keeps l.toArray) ∧ l.toArray[i]! = l[j] := by
      intro j
      induction j with
      | zero => exact fun hj => ⟨0, List.mem_filter.2 ⟨List.mem_range.2 hj, by simp [Lib.keeps]⟩, bangI hj⟩
      | succ j ih =>
        intro hj
        by_cases e : l[j + 1] = l[j]
        · obtain ⟨i, hi, h2⟩ := ih (by omega)
          exact ⟨i, hi, by rw [h2, e]⟩
        · refine ⟨j + 1, List.mem_filter.2 ⟨List.mem_range.2 hj, ?_⟩, bangI hj⟩
          refine Lib.keeps_pos ?_
          rw [Nat.add_sub_cancel, bangI hj, bangI (by omega)]
          exact e
    exact key j hj
theorem compactI_asc {l : List Int} (h : l.Pairwise (· ≤ ·)) : (Lib.compact l).Pairwise (· < ·) := by
  unfold Lib.compact Lib.compactUpTo
  rw [List.pairwise_map]
  have hr : ((List.range l.length).filter (Lib.keeps l.toArray)).Pairwise (· < ·) := List.Pairwise.filter _ List.pairwise_lt_range
  refine hr.imp_of_mem fun {i j} hi hj hij => ?_
  have hil := List.mem_range.1 (List.mem_filter.1 hi).1
  have hjl := List.mem_range.1 (List.mem_filter.1 hj).1
  have hk := (List.mem_filter.1 hj).2
  rw [bangI hil, bangI hjl]
  have hget := List.pairwise_iff_getElem.1 h
  have hne : l[j] ≠ l[j - 1]'(by omega) := fun e => by
    have : Lib.keeps l.toArray j = false := Lib.keeps_neg (by omega) (by rw [bangI hjl, bangI (by omega)]; exact e)
    rw [this] at hk; cases hk
  have h1 : l[j - 1]'(by omega) ≤ l[j] := hget (j - 1) j (by omega) hjl (by omega)
  by_cases e : i = j - 1
  · subst e; omega
  · have := hget i (j - 1) hil (by omega) (by omega); omega
theorem sorted_le (l : List Int) : (l.mergeSort fun x y => decide (x ≤ y)).Pairwise (· ≤ ·) := by
  have h := List.pairwise_mergeSort (le := fun x y : Int => decide (x ≤ y)) (fun a b c h1 h2 => by simp at *; omega) (fun a b => by simp; omega) l
  exact h.imp fun h => by simpa using h
/-- A list in ascending order, without repetitions. -/
def ascL (l : List Int) : List Int := Lib.compact (l.mergeSort fun x y => decide (x ≤ y))
theorem ascL_asc (l : List Int) : (ascL l).Pairwise (· < ·) := compactI_asc (sorted_le l)
theorem ascL_mem {l : List Int} {x : Int} : x ∈ ascL l ↔ x ∈ l := by unfold ascL; rw [compactI_mem, List.mem_mergeSort]
theorem ascL_eq {l m : List Int} (hm : m.Pairwise (· < ·)) (h : ∀ x, x ∈ l ↔ x ∈ m) : ascL l = m := ascI_ext (ascL_asc l) hm fun x => by rw [ascL_mem, h]

/-- The variables up to n with a property. -/
def varF (n : Nat) (p : Nat → Bool) : List Int := ((List.range' 1 n).filter p).map fun (v : Nat) => (v : Int)
theorem varF_asc (n : Nat) (p : Nat → Bool) : (varF n p).Pairwise (· < ·) := by
  unfold varF
  rw [List.pairwise_map]
  exact (List.Pairwise.filter _ (List.pairwise_lt_range' (s := 1) (n := n))).imp fun h => by omega
theorem varF_mem {n : Nat} {p : Nat → Bool} {x : Int} : x ∈ varF n p ↔ 1 ≤ x ∧ x ≤ n ∧ p x.toNat = true := by
  unfold varF
  simp only [List.mem_map, List.mem_filter, List.mem_range'_1]
  constructor
  · rintro ⟨v, ⟨⟨h1, h2⟩, h3⟩, rfl⟩
    exact ⟨by omega, by omega, by simpa using h3⟩
  · rintro ⟨h1, h2, h3⟩
    exact ⟨x.toNat, ⟨⟨by omega, by omega⟩, h3⟩, by omega⟩
theorem varF_len (n : Nat) (p : Nat → Bool) : (varF n p).length ≤ n := by
  unfold varF
  rw [List.length_map]
  exact Nat.le_trans (List.length_filter_le _ _) (by simp)
theorem varF_snoc (n : Nat) (p : Nat → Bool) : varF (n + 1) p = varF n p ++ (if p (n + 1) = true then [((n + 1 : Nat) : Int)] else []) := by
  unfold varF
  rw [List.range'_concat, List.filter_append, List.map_append]
  congr 1
  rw [Nat.one_mul, Nat.add_comm 1 n]
  by_cases h : p (n + 1) = true <;> simp [h]
theorem varF_sub (n : Nat) (p q : Nat → Bool) : (varF n p).filter (fun x => q x.toNat) = varF n fun v => p v && q v := by
  unfold varF
  rw [List.filter_map, List.filter_filter]
  congr 1
  apply List.filter_congr
  intro v _
  simp [Function.comp, Bool.and_comm]
theorem varF_split (n : Nat) (p q : Nat → Bool) : (varF n fun v => p v && !q v).length + (varF n fun v => q v && !p v).length + (varF n fun v => p v && q v).length = (varF n fun v => p v || q v).length := by
  unfold varF
  simp only [List.length_map]
  induction List.range' 1 n with
  | nil => rfl
  | cons v l ih =>
    simp only [List.filter_cons]
    cases p v <;> cases q v <;> simp <;> omega
theorem varF_congr {n : Nat} {p q : Nat → Bool} (h : ∀ v, 1 ≤ v → v ≤ n → p v = q v) : varF n p = varF n q := by
  unfold varF
  congr 1
  apply List.filter_congr
  intro v hv
  rw [List.mem_range'_1] at hv
  exact h v hv.1 (by omega)

/-- A variable is in some clause. -/
def usedB (cls : List (List Int)) (v : Nat) : Bool := cls.any fun c => c.any fun l => l.natAbs == v
/-- All literals' variables. -/
def flatA (cls : List (List Int)) : List Int := cls.flatMap fun c => c.map fun l => (l.natAbs : Int)
theorem flatA_take {cls : List (List Int)} {k : Nat} (h : k < cls.length) : flatA (cls.take (k + 1)) = flatA (cls.take k) ++ cls[k].map fun l => (l.natAbs : Int) := by
  unfold flatA
  rw [List.take_succ_eq_append_getElem h, List.flatMap_append]
  simp
theorem used_asc {cls : List (List Int)} {n : Nat} (h : ∀ c ∈ cls, ∀ l ∈ c, l ≠ 0 ∧ l.natAbs ≤ n) : ascL (flatA cls) = varF n (usedB cls) := by
  refine ascL_eq (varF_asc _ _) fun x => ?_
  rw [varF_mem]
  unfold flatA usedB
  simp only [List.mem_flatMap, List.mem_map, List.any_eq_true, beq_iff_eq]
  constructor
  · rintro ⟨c, hc, l, hl, rfl⟩
    have := h c hc l hl
    exact ⟨by omega, by omega, c, hc, l, hl, by simp⟩
  · rintro ⟨h1, -, c, hc, l, hl, h2⟩
    exact ⟨c, hc, l, hl, by omega⟩
theorem flatA_len {cls : List (List Int)} {m : Nat} (h : ∀ c ∈ cls, c.length ≤ m) : (flatA cls).length ≤ m * cls.length := by
  unfold flatA
  induction cls with
  | nil => simp
  | cons c cls ih =>
    rw [List.flatMap_cons, List.length_append, List.length_map, List.length_cons, Nat.mul_add]
    have := h c (List.mem_cons_self ..)
    have := ih fun d hd => h d (List.mem_cons_of_mem _ hd)
    omega
end Go.Proofs.Yteabiokhbaekpaa

/- Contracts: a number in a row, in the reference. -/
namespace Go.Proofs.Yteabiokhbaekpaa
open Go.RowKit

/-- A number is in a row. -/
def hasI (xs : List Int) (x : Int) : Bool := xs.contains x
theorem hasI_no {xs : List Int} {x : Int} {k : Nat} (hk : k < xs.length) (h0 : hasI (xs.take k) x = false) (h : ¬ xs[k] = x) : hasI (xs.take (k + 1)) x = false := by
  unfold hasI at *
  rw [List.take_succ_eq_append_getElem hk, List.contains_append, h0]
  simp
  exact fun e => h e.symm
theorem hasI_yes {xs : List Int} {x : Int} {k : Nat} (hk : k < xs.length) (h : xs[k] = x) : hasI xs x = true := by
  unfold hasI
  subst h
  simp

set_option maxHeartbeats 1000000 in
theorem l1Has_any (v : Value) (xs : List Int) (F : List Nat) (x : Int) (w : World) (h : Ty.int.row false w v xs F) :
    Calls Try.prog 44 #[v, .int .i64 x] w fun e w' => e = .returned (.bool (hasI xs x)) ∧ w = w' := by
  obtain ⟨a, cap, rfl, hx1, hx2, _, hx3⟩ := row_int h
  go_enter Try.func44, Try.ntmps44
  go_wp2_with fail
  go_loopw [5] (fun i wr => ∃ k : Nat, k ≤ xs.length ∧ i = .int .i64 k ∧ Hid (hasI (xs.take k) x = false) ∧ w = wr) (fun i _ => xs.length - (intOf i).toNat)
  case atStart => exact ⟨0, Nat.zero_le _, rfl, by simp [Hid, hasI], rfl⟩
  case round =>
    obtain ⟨k, hk, rfl, HR, rfl⟩ := hrel
    by_cases hlt : k < xs.length
    · rcases hx3 with ⟨rfl, rfl⟩ | ⟨hxn, b, off, rfl, rfl, hxc⟩
      · exact absurd hlt (by simp)
      have k0 := (hxc k hlt).1
      by_cases he : xs[k] = x
      · have HN : Hid (hasI xs x = true) := hasI_yes hlt he
        have he' : (xs[k] == x) = true := by simpa using he
        clear he HR
        go_wp2_with fail
        go_ret
        exact ⟨ret_bool HN.out.symm, rfl⟩
      · have HN : Hid (hasI (xs.take (k + 1)) x = false) := hasI_no hlt HR.out he
        have he' : (xs[k] == x) = false := by simpa using he
        clear he HR
        go_wp2_with fail
        go_roundw
        case rel => exact ⟨k + 1, by omega, by go_num, HN, by first | rfl | trivial⟩
        case measure => simp [intOf]; omega
    · obtain rfl : k = xs.length := by omega
      have HN := HR.out
      rw [List.take_length] at HN
      replace HN := Lib.hid HN
      clear HR
      go_wp2_with fail
      go_ret
      exact ⟨ret_bool HN.out.symm, rfl⟩

/- left out: the seat has no spec.l2Has -/
end Go.Proofs.Yteabiokhbaekpaa

/- Contracts: clauses in the reference: copying, comparing, finding the place. -/
namespace Go.Proofs.Yteabiokhbaekpaa
open Go.RowKit

/-- An own row of numbers. -/
def OwnsPost (w : World) (xs : List Int) (e : Ending) (w' : World) : Prop := ∃ v, e = .returned v ∧ w'.ownsRow w.heap.size 3 1 v xs.length (xs.map (.int .i64)) ∧ Below w.heap.size w w'
theorem ints_one (xs : List Int) : ∀ u ∈ xs.map (Value.int .i64), u.oneCell' = true := by
  intro u hu
  obtain ⟨x, _, rfl⟩ := List.mem_map.1 hu
  rfl

/- left out: the seat has no spec.l1Own -/

/- left out: the seat has no spec.l1Same -/

/-- The key by which literals are ordered. -/
def keyL (l : Int) : Int := if l < 0 then -2 * l + 1 else 2 * l
/-- Literals that are not too great. -/
def Mild (xs : List Int) : Prop := ∀ x ∈ xs, -1000000 ≤ x ∧ x ≤ 1000000
/-- The first literals that differ decide. -/
def lexB : List Int → List Int → Bool
  | x :: xs, y :: ys => if x = y then lexB xs ys else decide (keyL x < keyL y)
  | _, _ => false
/-- The order of clauses. -/
def beforeB (a b : List Int) : Bool := if a.length = b.length then lexB a b else decide (a.length < b.length)
theorem lexB_same : ∀ (p a b : List Int), lexB (p ++ a) (p ++ b) = lexB a b
  | [], _, _ => rfl
  | x :: p, a, b => by rw [List.cons_append, List.cons_append, lexB, if_pos rfl, lexB_same p a b]
theorem lexB_at {a b : List Int} {k : Nat} (ha : k < a.length) (hb : k < b.length) (h : a.take k = b.take k) : lexB a b = if a[k] = b[k] then lexB (a.drop (k + 1)) (b.drop (k + 1)) else decide (keyL a[k] < keyL b[k]) := by
  conv => lhs; rw [← List.take_append_drop k a, ← List.take_append_drop k b, h, lexB_same, List.drop_eq_getElem_cons ha, List.drop_eq_getElem_cons hb, lexB]
theorem lexB_self (a : List Int) : lexB a a = false := by
  have := lexB_same a [] []
  simpa [lexB] using this
/- left out: the seat has no spec.l2Key -/

/- left out: the seat has no spec.l2Before -/
end Go.Proofs.Yteabiokhbaekpaa

/- Contracts: clauses in the reference: a literal put in, a variable left out, resolvents. -/
namespace Go.Proofs.Yteabiokhbaekpaa
open Go.RowKit

/-- A clause without a variable. -/
def withoutB (c : List Int) (v : Int) : List Int := c.filter (fun l => !(absV l == v))
theorem without_step {c : List Int} {v : Int} {k : Nat} {q : Bool} (hk : k < c.length) (h : (absV c[k] == v) = q) : withoutB (c.take (k + 1)) v = withoutB (c.take k) v ++ (if q then [] else [c[k]]) := by
  unfold withoutB
  rw [List.take_succ_eq_append_getElem hk, List.filter_append]
  cases q <;> simp [h]
theorem without_len (c : List Int) (v : Int) (k : Nat) : (withoutB (c.take k) v).length ≤ k := Nat.le_trans (List.length_filter_le _ _) (by rw [List.length_take]; omega)

/- left out: the seat has no spec.l2Without -/

theorem row_int_take {wr : Bool} {w : World} {a : Option Addr} {n cap : Nat} {xs : List Int} {F : List Nat} {k : Nat} (h : Ty.int.row wr w (.slice a n cap) xs F) (hk : k ≤ xs.length) :
    ∃ F', Ty.int.row wr w (.slice a k cap) (xs.take k) F' ∧ ∀ b ∈ F', b ∈ F := by
  obtain ⟨a', cap', e, h1, h2, hI, h3⟩ := row_int h
  simp only [Value.slice.injEq] at e
  obtain ⟨rfl, rfl, rfl⟩ := e
  have hl : (xs.take k).length = k := by rw [List.length_take]; omega
  by_cases h0 : k = 0
  · subst h0
    exact ⟨[], Ty.row_nil _ _ _ _ _ h2, by simp⟩
  · rcases h3 with ⟨rfl, rfl⟩ | ⟨hne, b, off, rfl, rfl, hc⟩
    · simp at hk; omega
    · refine ⟨[b], ?_, fun _ h => h⟩
      have := row_int_mk (wr := wr) (w := w) (b := b) (off := off) (cap := cap) (xs := xs.take k) (fun x hx => hI x (List.mem_of_mem_take hx)) (by omega) h2 (by intro e; rw [e] at hl; simp at hl; omega) (fun j hj => by
        rw [List.getElem_take]
        exact hc j (by omega))
      rw [hl] at this
      exact this
/-- The rest of a row, as a source. -/
theorem row_int_from {wr : Bool} {w : World} {a : Option Addr} {n cap : Nat} {xs : List Int} {F : List Nat} {k : Nat} (h : Ty.int.row wr w (.slice a n cap) xs F) (hk : k ≤ xs.length) :
    Src w (cutA a cap k 1) (xs.length - k) 1 ((xs.drop k).map (.int .i64)) := by
  obtain ⟨A, c, e, hs⟩ := row_src_int h
  obtain ⟨a', cap', e', h1, h2, hI, h3⟩ := row_int h
  simp only [Value.slice.injEq] at e e'
  obtain ⟨rfl, rfl, rfl⟩ := e
  obtain ⟨rfl, _, rfl⟩ := e'
  rcases h3 with ⟨rfl, rfl⟩ | ⟨hne, b, off, rfl, rfl, hc⟩
  · exact .inl ⟨by simp, by simp⟩
  · have := hs.from hk h1
    rw [Nat.mul_one] at this
    rw [List.map_drop]
    exact this

/-- Where a literal goes. -/
def litAt (c : List Int) (l : Int) : Nat := (c.takeWhile (fun x => decide (absV x < absV l))).length
/-- A clause with a literal put in. -/
def putB (c : List Int) (l : Int) : List Int := c.take (litAt c l) ++ l :: c.drop (litAt c l)
theorem litAt_end {c : List Int} {l : Int} {k : Nat} (h : (c.take k).all (fun x => decide (absV x < absV l)) = true) (hk : k ≤ c.length) (he : k = c.length ∨ ∃ h : k < c.length, ¬ absV c[k] < absV l) : litAt c l = k := by
  unfold litAt
  have h1 : c.takeWhile (fun x => decide (absV x < absV l)) = c.take k := by
    conv => lhs; rw [← List.take_append_drop k c]
    rw [List.takeWhile_append_of_pos (by simpa [List.all_eq_true] using h)]
    rcases he with rfl | ⟨hlt, hn⟩
    · simp
    · rw [List.drop_eq_getElem_cons hlt, List.takeWhile_cons, if_neg (by simpa using hn), List.append_nil]
  rw [h1, List.length_take]; omega
theorem put_len (c : List Int) (l : Int) : (putB c l).length = c.length + 1 := by
  unfold putB
  have : litAt c l ≤ c.length := by unfold litAt; exact (List.takeWhile_sublist _).length_le
  simp; omega

/- left out: the seat has no spec.l2Put -/
end Go.Proofs.Yteabiokhbaekpaa

/- Plain facts: clauses of up to a thousand variables: literals in order, put in, joined. No program in sight. -/
namespace Go.Proofs.Yteabiokhbaekpaa
open Go.RowKit

theorem hasS_iff {xs : List Int} {x : Int} : hasI xs x = true ↔ x ∈ xs := by unfold hasI; simp
theorem hasS_not {xs : List Int} {x : Int} : hasI xs x = false ↔ x ∉ xs := by rw [← hasS_iff]; simp
theorem LitS.abs {l : Int} (h : LitS l) : absV l = if l < 0 then -l else l := by
  rw [absV_lit h]; split <;> omega
def AscS (x y : Int) : Prop := absV x < absV y
/-- A clause in order. -/
structure GoodS (c : List Int) : Prop where
  mem : ∀ l ∈ c, LitS l
  asc : c.Pairwise AscS
theorem good_s {vars : Int} {c : List Int} (h : clauseB vars c = true) : GoodS c := by
  have h1 := (clause_s h).1
  refine ⟨h1, ?_⟩
  have h2 := clause_rising h
  rw [List.pairwise_iff_getElem] at h2 ⊢
  intro i j hi hj hij
  unfold AscS
  rw [absV_lit (h1 _ (List.getElem_mem hi)), absV_lit (h1 _ (List.getElem_mem hj))]
  exact Int.ofNat_lt.2 (h2 i j hi hj hij)
theorem GoodS.clash {c : List Int} (h : GoodS c) {x : Int} (hx : x ∈ c) (hy : -x ∈ c) : False := by
  have hl := h.mem x hx
  have key : ∀ {y z : Int}, y ∈ c → z ∈ c → absV y = absV z → y = z := fun {y z} hy hz e => by
    obtain ⟨i, hi, rfl⟩ := List.getElem_of_mem hy
    obtain ⟨j, hj, rfl⟩ := List.getElem_of_mem hz
    have hp := List.pairwise_iff_getElem.1 h.asc
    rcases Nat.lt_trichotomy i j with hij | hij | hij
    · have := hp i j hi hj hij; unfold AscS at this; omega
    · subst hij; rfl
    · have := hp j i hj hi hij; unfold AscS at this; omega
  have := key hx hy (by rw [hl.abs, (h.mem _ hy).abs]; unfold LitS at hl; split <;> split <;> omega)
  unfold LitS at hl
  omega
theorem GoodS.ext {a b : List Int} (ha : GoodS a) (hb : GoodS b) (h : ∀ x, x ∈ a ↔ x ∈ b) : a = b := by
  have key : ∀ {a b : List Int}, a.Pairwise AscS → b.Pairwise AscS → (∀ x, x ∈ a ↔ x ∈ b) → a = b := by
    intro a
    induction a with
    | nil =>
      intro b _ _ h
      cases b with
      | nil => rfl
      | cons y b => exact absurd ((h y).2 List.mem_cons_self) (by simp)
    | cons x a ih =>
      intro b ha hb h
      cases b with
      | nil => exact absurd ((h x).1 List.mem_cons_self) (by simp)
      | cons y b =>
        rw [List.pairwise_cons] at ha hb
        unfold AscS at ha hb
        have e : x = y := by
          rcases List.mem_cons.1 ((h x).1 List.mem_cons_self) with e | hx
          · exact e
          rcases List.mem_cons.1 ((h y).2 List.mem_cons_self) with e | hy
          · exact e.symm
          have := hb.1 x hx; have := ha.1 y hy; omega
        subst e
        congr 1
        refine ih ha.2 hb.2 fun z => ⟨fun hz => ?_, fun hz => ?_⟩
        · rcases List.mem_cons.1 ((h z).1 (List.mem_cons_of_mem _ hz)) with e | h2
          · have := ha.1 z hz; rw [e] at this; omega
          · exact h2
        · rcases List.mem_cons.1 ((h z).2 (List.mem_cons_of_mem _ hz)) with e | h2
          · have := hb.1 z hz; rw [e] at this; omega
          · exact h2
  exact key ha.asc hb.asc h
theorem memS_putB {c : List Int} {l x : Int} : x ∈ putB c l ↔ x = l ∨ x ∈ c := by
  unfold putB
  rw [List.mem_append, List.mem_cons]
  conv => rhs; rw [← List.take_append_drop (litAt c l) c, List.mem_append]
  exact ⟨fun h => by rcases h with h | h | h <;> simp [h], fun h => by rcases h with h | h | h <;> simp [h]⟩
theorem GoodS.put {c : List Int} (h : GoodS c) {l : Int} (hl : LitS l) (hn : ∀ y ∈ c, absV y ≠ absV l) : GoodS (putB c l) := by
  refine ⟨fun x hx => ?_, ?_⟩
  · rcases memS_putB.1 hx with rfl | hx
    · exact hl
    · exact h.mem x hx
  · have e0 := List.takeWhile_append_dropWhile (p := fun x => decide (absV x < absV l)) (l := c)
    have e1 : c.take (litAt c l) = c.takeWhile (fun x => decide (absV x < absV l)) := by
      have := congrArg (List.take (litAt c l)) e0
      rw [← this]; exact List.take_left' rfl
    have e2 : c.drop (litAt c l) = c.dropWhile (fun x => decide (absV x < absV l)) := by
      have := congrArg (List.drop (litAt c l)) e0
      rw [← this]; exact List.drop_left' rfl
    unfold putB
    rw [List.pairwise_append, List.pairwise_cons]
    have hd : ∀ y ∈ c.drop (litAt c l), absV l < absV y := by
      intro y hy
      have hne := hn y (List.mem_of_mem_drop hy)
      rw [e2] at hy
      have hp : (c.dropWhile (fun x => decide (absV x < absV l))).Pairwise AscS := by rw [← e2]; exact h.asc.drop
      cases hdw : c.dropWhile (fun x => decide (absV x < absV l)) with
      | nil => rw [hdw] at hy; cases hy
      | cons z t =>
        have hz : ¬ absV z < absV l := by
          have := List.head_dropWhile_not (fun x => decide (absV x < absV l)) (l := c) (by rw [hdw]; simp)
          simp only [hdw, List.head_cons] at this
          simpa using this
        rw [hdw] at hy hp
        rcases List.mem_cons.1 hy with rfl | hy
        · omega
        · have := (List.pairwise_cons.1 hp).1 y hy
          unfold AscS at this; omega
    have ht : ∀ y ∈ c.take (litAt c l), absV y < absV l := by
      intro y hy
      rw [e1] at hy
      simpa using List.all_eq_true.1 (List.all_takeWhile (p := fun x => decide (absV x < absV l)) (l := c)) y hy
    exact ⟨h.asc.take, ⟨hd, h.asc.drop⟩, fun a ha b hb => by
      rcases List.mem_cons.1 hb with rfl | hb
      · exact ht a ha
      · have := ht a ha; have := hd b hb; show absV a < absV b; omega⟩

def joinS (out : List Int) : List Int → Option (List Int)
  | [] => some out
  | l :: b => if hasI out (-l) then none else joinS (if hasI out l then out else putB out l) b
theorem joinS_spec : ∀ {b out : List Int}, GoodS out → GoodS b →
    (joinS out b = none ∧ ∃ l ∈ b, -l ∈ out) ∨ (∃ c, joinS out b = some c ∧ GoodS c ∧ (∀ x, x ∈ c ↔ x ∈ out ∨ x ∈ b) ∧ ∀ l ∈ b, -l ∉ out)
  | [], out, ho, _ => .inr ⟨out, rfl, ho, by simp, by simp⟩
  | l :: b, out, ho, hb => by
    have hl := hb.mem l List.mem_cons_self
    have hb2 : GoodS b := ⟨fun x hx => hb.mem x (List.mem_cons_of_mem _ hx), (List.pairwise_cons.1 hb.asc).2⟩
    have hlb : ∀ x ∈ b, absV l < absV x := (List.pairwise_cons.1 hb.asc).1
    unfold joinS
    by_cases hc : -l ∈ out
    · rw [if_pos (hasS_iff.2 hc)]
      exact .inl ⟨rfl, l, List.mem_cons_self, hc⟩
    · rw [if_neg (by rw [hasS_iff]; exact hc)]
      have hout : ∃ out', (if hasI out l then out else putB out l) = out' ∧ GoodS out' ∧ ∀ x, x ∈ out' ↔ x = l ∨ x ∈ out := by
        by_cases h : l ∈ out
        · rw [if_pos (hasS_iff.2 h)]
          exact ⟨_, rfl, ho, fun x => ⟨.inr, fun hx => by rcases hx with rfl | hx; exact h; exact hx⟩⟩
        · rw [if_neg (by rw [hasS_iff]; exact h)]
          refine ⟨_, rfl, ho.put hl fun y hy e => ?_, fun x => memS_putB⟩
          have hy6 := ho.mem y hy
          rw [hy6.abs, hl.abs] at e
          have : y = l ∨ y = -l := by
            have h1 := hy6; have h2 := hl
            unfold LitS at h1 h2
            split at e <;> split at e <;> omega
          rcases this with rfl | rfl
          · exact h hy
          · exact hc hy
      obtain ⟨out', he, hg, hm⟩ := hout
      rw [he]
      rcases joinS_spec hg hb2 with ⟨h1, x, hx, hx2⟩ | ⟨c, h1, h2, h3, h4⟩
      · refine .inl ⟨h1, x, List.mem_cons_of_mem _ hx, ?_⟩
        rcases (hm _).1 hx2 with e | e
        · exfalso
          have h5 := hlb x hx
          have h6 := hb.mem x (List.mem_cons_of_mem _ hx)
          rw [hl.abs, h6.abs] at h5
          unfold LitS at h6 hl
          split at h5 <;> split at h5 <;> omega
        · exact e
      · refine .inr ⟨c, h1, h2, fun x => ?_, fun x hx => ?_⟩
        · rw [h3, hm, List.mem_cons]
          exact ⟨fun h => by rcases h with (h | h) | h <;> simp [h], fun h => by rcases h with h | h | h <;> simp [h]⟩
        · rcases List.mem_cons.1 hx with rfl | hx
          · exact hc
          · exact fun h => h4 x hx ((hm _).2 (.inr h))
end Go.Proofs.Yteabiokhbaekpaa

/- Plain facts: literals sorted by their variables, without repetitions. No program in sight. -/
namespace Go.Proofs.Yteabiokhbaekpaa
open Go.RowKit

/-- The size of a number, as the program reckons it. -/
def absW (l : Int) : Int := if l < wrap64 (-l) then wrap64 (-l) else l
theorem absW_lit {l : Int} (h : LitS l) : absW l = absV l := by
  rw [h.abs]
  unfold LitS at h
  unfold absW wrap64
  split <;> split <;> omega
/-- The order of literals: by variables, the positive one first. -/
def cmpL (a b : Int) : Int := if absW a < absW b then -1 else if absW b < absW a then 1 else if b < a then -1 else if a < b then 1 else 0
def befL (x y : Int) : Prop := absW x < absW y ∨ (absW x = absW y ∧ y < x)
theorem cmpL_neg {x y : Int} : cmpL x y < 0 ↔ befL x y := by
  unfold cmpL befL
  split
  · simp; omega
  · split
    · simp; omega
    · split
      · simp; omega
      · split <;> simp <;> omega
theorem befL_trans {a b c : Int} (h : befL a b) (k : befL b c) : befL a c := by unfold befL at *; omega
theorem befL_or {x y : Int} (h : ¬ befL y x) : befL x y ∨ x = y := by unfold befL at *; omega
def sortL (zs : List Int) : List Int := zs.mergeSort fun x y => !decide (cmpL y x < 0)
theorem sortL_weak (zs : List Int) : (sortL zs).Pairwise fun a b => befL a b ∨ a = b := by
  have h := List.pairwise_mergeSort (le := fun x y : Int => !decide (cmpL y x < 0)) (fun a b c h1 h2 => by
    simp only [Bool.not_eq_true', decide_eq_false_iff_not, cmpL_neg] at *
    unfold befL at *; omega) (fun a b => by
    simp only [Bool.or_eq_true, Bool.not_eq_true', decide_eq_false_iff_not, cmpL_neg]
    unfold befL; omega) zs
  refine h.imp fun h => befL_or ?_
  simpa only [Bool.not_eq_true', decide_eq_false_iff_not, cmpL_neg] using h
theorem compactR_asc {R : Int → Int → Prop} (ht : ∀ a b c, R a b → R b c → R a c) {l : List Int} (h : l.Pairwise fun a b => R a b ∨ a = b) : (Lib.compact l).Pairwise R := by
  unfold Lib.compact Lib.compactUpTo
  rw [List.pairwise_map]
  have hr : ((List.range l.length).filter (Lib.keeps l.toArray)).Pairwise (· < ·) := List.Pairwise.filter _ List.pairwise_lt_range
  refine hr.imp_of_mem fun {i j} hi hj hij => ?_
  have hil := List.mem_range.1 (List.mem_filter.1 hi).1
  have hjl := List.mem_range.1 (List.mem_filter.1 hj).1
  have hk := (List.mem_filter.1 hj).2
  rw [bangI hil, bangI hjl]
  have hget := List.pairwise_iff_getElem.1 h
  have hne : l[j] ≠ l[j - 1]'(by omega) := fun e => by
    have : Lib.keeps l.toArray j = false := Lib.keeps_neg (by omega) (by rw [bangI hjl, bangI (by omega)]; exact e)
    rw [this] at hk; cases hk
  have h1 : R (l[j - 1]'(by omega)) l[j] := by
    rcases hget (j - 1) j (by omega) hjl (by omega) with h | h
    · exact h
    · exact absurd h.symm hne
  by_cases e : i = j - 1
  · subst e; exact h1
  · rcases hget i (j - 1) hil (by omega) (by omega) with h | h
    · exact ht _ _ _ h h1
    · rw [h]; exact h1
def cptL (zs : List Int) : List Int := Lib.compact (sortL zs)
theorem cptL_asc (zs : List Int) : (cptL zs).Pairwise befL := by
  unfold cptL
  exact compactR_asc (R := befL) (fun _ _ _ => befL_trans) (sortL_weak zs)
theorem cptL_mem {zs : List Int} {x : Int} : x ∈ cptL zs ↔ x ∈ zs := by unfold cptL sortL; rw [compactI_mem, List.mem_mergeSort]
theorem cptL_len (zs : List Int) : (cptL zs).length ≤ zs.length := by
  have := Lib.compact_length_le (sortL zs)
  unfold cptL
  have h2 : (sortL zs).length = zs.length := List.length_mergeSort _
  omega
/-- No literal is followed by its negation, up to a place. -/
def okTo (out : List Int) (k : Nat) : Bool := (List.range k).all fun i => !(out.getD (i + 1) 0 == -(out.getD i 0))
theorem okTo_next {out : List Int} {k : Nat} (h : okTo out k = true) (h2 : (out.getD (k + 1) 0 == -(out.getD k 0)) = false) : okTo out (k + 1) = true := by
  unfold okTo at *
  rw [List.range_succ, List.all_append, h, Bool.true_and]
  simp only [List.all_cons, List.all_nil, Bool.and_true, h2]
  rfl
theorem okTo_no {out : List Int} {k n : Nat} (hk : k < n) (h : (out.getD (k + 1) 0 == -(out.getD k 0)) = true) : okTo out n = false := by
  unfold okTo
  rw [List.all_eq_false]
  exact ⟨k, List.mem_range.2 hk, by rw [h]; decide⟩
/-- The clause of literals. -/
def clauseR (zs : List Int) : Option (List Int) := if okTo (cptL zs) ((cptL zs).length - 1) then some (cptL zs) else none
theorem clauseR_some {zs : List Int} (hl : ∀ x ∈ zs, LitS x) (hn : ∀ x ∈ zs, -x ∉ zs) : clauseR zs = some (cptL zs) ∧ GoodS (cptL zs) := by
  have hm : ∀ x ∈ cptL zs, LitS x := fun x hx => hl x (cptL_mem.1 hx)
  constructor
  · unfold clauseR
    rw [if_pos]
    unfold okTo
    rw [List.all_eq_true]
    intro i hi
    have hi := List.mem_range.1 hi
    have h1 : i + 1 < (cptL zs).length := by omega
    rw [List.getD_eq_getElem?_getD, List.getD_eq_getElem?_getD, List.getElem?_eq_getElem h1, List.getElem?_eq_getElem (by omega : i < (cptL zs).length)]
    simp only [Option.getD_some, Bool.not_eq_true', beq_eq_false_iff_ne]
    intro e
    refine hn _ (cptL_mem.1 (List.getElem_mem (by omega : i < (cptL zs).length))) ?_
    rw [← e]
    exact cptL_mem.1 (List.getElem_mem h1)
  · refine ⟨hm, ?_⟩
    refine (cptL_asc zs).imp_of_mem fun {a b} ha hb h => ?_
    have la := hm a ha; have lb := hm b hb
    unfold befL at h
    rw [absW_lit la, absW_lit lb] at h
    rcases h with h | ⟨h, h2⟩
    · exact h
    · exfalso
      have : b = -a := by
        rw [la.abs, lb.abs] at h
        unfold LitS at la lb
        split at h <;> split at h <;> omega
      refine hn a (cptL_mem.1 ha) ?_
      rw [← this]
      exact cptL_mem.1 hb
theorem clauseR_none {zs : List Int} (hl : ∀ x ∈ zs, LitS x) {y : Int} (hy : y ∈ zs) (hy2 : -y ∈ zs) : clauseR zs = none := by
  have hm : ∀ x ∈ cptL zs, LitS x := fun x hx => hl x (cptL_mem.1 hx)
  obtain ⟨x, hx, hx2, h0⟩ : ∃ x, x ∈ cptL zs ∧ -x ∈ cptL zs ∧ 0 < x := by
    have := hl y hy
    unfold LitS at this
    by_cases h : 0 < y
    · exact ⟨y, cptL_mem.2 hy, cptL_mem.2 hy2, h⟩
    · exact ⟨-y, cptL_mem.2 hy2, by rw [Int.neg_neg]; exact cptL_mem.2 hy, by omega⟩
  unfold clauseR
  rw [if_neg]
  obtain ⟨i, hi, rfl⟩ := List.getElem_of_mem hx
  obtain ⟨j, hj, e⟩ := List.getElem_of_mem hx2
  have hp := List.pairwise_iff_getElem.1 (cptL_asc zs)
  have lx := hm _ (List.getElem_mem hi)
  have habs : absW (-(cptL zs)[i]) = absW (cptL zs)[i] := by
    have l2 := hm _ hx2
    rw [absW_lit lx, absW_lit l2, lx.abs, l2.abs]
    split <;> split <;> omega
  have hij : i < j := by
    rcases Nat.lt_trichotomy i j with h | h | h
    · exact h
    · subst h; omega
    · have := hp j i hj hi h
      rw [e] at this
      unfold befL at this; omega
  have hjn : j = i + 1 := by
    rcases Nat.lt_or_ge (i + 1) j with h | h
    · exfalso
      have h1 := hp i (i + 1) hi (by omega) (by omega)
      have h2 := hp (i + 1) j (by omega) hj h
      rw [e] at h2
      have l3 := hm _ (List.getElem_mem (by omega : i + 1 < (cptL zs).length))
      have l2 := hm _ hx2
      unfold befL at h1 h2
      rw [absW_lit lx, absW_lit l3, lx.abs, l3.abs] at h1
      rw [absW_lit l3, absW_lit l2, l3.abs, l2.abs] at h2
      unfold LitS at l3
      split at h1 <;> split at h1 <;> split at h2 <;> omega
    · omega
  rw [Bool.not_eq_true]
  refine okTo_no (k := i) (by omega) ?_
  rw [List.getD_eq_getElem?_getD, List.getD_eq_getElem?_getD, List.getElem?_eq_getElem (by omega : i + 1 < (cptL zs).length), List.getElem?_eq_getElem hi]
  subst hjn
  simp only [Option.getD_some, beq_iff_eq]
  exact e
theorem clauseR_join {a b : List Int} (ga : GoodS a) (gb : GoodS b) : clauseR (a ++ b) = joinS a b := by
  have hl : ∀ x ∈ a ++ b, LitS x := fun x hx => by
    rcases List.mem_append.1 hx with h | h
    · exact ga.mem x h
    · exact gb.mem x h
  rcases joinS_spec ga gb with ⟨h1, l, hl2, hn⟩ | ⟨c, h1, gc, hm, hn⟩
  · rw [h1]
    exact clauseR_none hl (List.mem_append.2 (.inr hl2)) (List.mem_append.2 (.inl hn))
  · rw [h1]
    obtain ⟨h2, g2⟩ := clauseR_some hl fun x hx hx2 => by
      rcases List.mem_append.1 hx with h | h <;> rcases List.mem_append.1 hx2 with h' | h'
      · exact ga.clash h h'
      · exact hn _ h' (by rw [Int.neg_neg]; exact h)
      · exact hn x h h'
      · exact gb.clash h h'
    rw [h2]
    congr 1
    exact g2.ext gc fun x => by rw [cptL_mem, List.mem_append, hm]
theorem without_good {c : List Int} (h : GoodS c) (v : Int) : GoodS (withoutB c v) := ⟨fun l hl => h.mem l (List.mem_filter.1 hl).1, h.asc.filter _⟩
theorem memS_without {c : List Int} {v x : Int} : x ∈ withoutB c v ↔ x ∈ c ∧ absV x ≠ v := by
  unfold withoutB
  rw [List.mem_filter]
  simp
/-- A literal is set. -/
def setS (a : List Int) (l : Int) : List Int := putB (withoutB a (absV l)) l
theorem set_good {a : List Int} (ga : GoodS a) {l : Int} (hl : LitS l) : GoodS (setS a l) := (without_good ga _).put hl fun y hy => (memS_without.1 hy).2
theorem clauseR_set {a : List Int} (ga : GoodS a) {l : Int} (hl : LitS l) : clauseR (withoutB a (absV l) ++ [l]) = some (setS a l) := by
  have gw := without_good ga (absV l)
  have habs : absV (-l) = absV l := by
    have h2 : LitS (-l) := by unfold LitS at *; omega
    rw [hl.abs, h2.abs]; split <;> split <;> omega
  obtain ⟨h2, g2⟩ := clauseR_some (zs := withoutB a (absV l) ++ [l]) (fun x hx => by
    rcases List.mem_append.1 hx with h | h
    · exact gw.mem x h
    · obtain rfl : x = l := by simpa using h
      exact hl) fun x hx hx2 => by
    rcases List.mem_append.1 hx with h | h <;> rcases List.mem_append.1 hx2 with h' | h'
    · exact gw.clash h h'
    · have e : -x = l := by simpa using h'
      have : x = -l := by omega
      subst this
      exact (memS_without.1 h).2 habs
    · obtain rfl : x = l := by simpa using h
      exact (memS_without.1 h').2 habs
    · obtain rfl : x = l := by simpa using h
      have e : -x = x := by simpa using h'
      unfold LitS at hl; omega
  rw [h2]
  congr 1
  exact g2.ext (set_good ga hl) fun x => by
    unfold setS
    rw [cptL_mem, memS_putB, List.mem_append]
    simp [or_comm]
end Go.Proofs.Yteabiokhbaekpaa

/- Plain facts: the generator of the seeded Cnfs: its period, and that each clause is found. No program in sight. -/
namespace Go.Proofs.Yteabiokhbaekpaa

/-- The generator's step. -/
def gS (s : Int) : Int := (1021 * s + 12345) % 65536
def itS : Nat → Int → Int
  | 0, s => s
  | n + 1, s => itS n (gS (gS s))
theorem itS_add : ∀ (n m : Nat) (s : Int), itS (n + m) s = itS m (itS n s)
  | 0, m, s => by rw [Nat.zero_add]; rfl
  | n + 1, m, s => by rw [Nat.add_right_comm]; exact itS_add n m _
theorem itS_comm : ∀ (n : Nat) (s : Int), itS n (gS s) = gS (itS n s)
  | 0, _ => rfl
  | n + 1, s => itS_comm n (gS (gS s))
theorem gS_rng (s : Int) : 0 ≤ gS s ∧ gS s < 65536 := by unfold gS; omega
theorem itS_rng : ∀ (n : Nat) {s : Int}, 0 ≤ s ∧ s < 65536 → 0 ≤ itS n s ∧ itS n s < 65536
  | 0, _, h => h
  | n + 1, _, _ => itS_rng n (gS_rng _)
theorem it_1 (x : Int) : itS 1 x = (59401 * x + 33678) % 65536 := by show gS (gS x) = _; unfold gS; omega
theorem it_2 (x : Int) : itS 2 x = (20561 * x + 54156) % 65536 := by rw [show (2 : Nat) = 1 + 1 from rfl, itS_add, it_1, it_1]; omega
theorem it_4 (x : Int) : itS 4 x = (47521 * x + 33496) % 65536 := by rw [show (4 : Nat) = 2 + 2 from rfl, itS_add, it_2, it_2]; omega
theorem it_8 (x : Int) : itS 8 x = (5953 * x + 58544) % 65536 := by rw [show (8 : Nat) = 4 + 4 from rfl, itS_add, it_4, it_4]; omega
theorem it_16 (x : Int) : itS 16 x = (48769 * x + 50528) % 65536 := by rw [show (16 : Nat) = 8 + 8 from rfl, itS_add, it_8, it_8]; omega
theorem it_32 (x : Int) : itS 32 x = (48385 * x + 31424) % 65536 := by rw [show (32 : Nat) = 16 + 16 from rfl, itS_add, it_16, it_16]; omega
theorem it_64 (x : Int) : itS 64 x = (31233 * x + 46464) % 65536 := by rw [show (64 : Nat) = 32 + 32 from rfl, itS_add, it_32, it_32]; omega
theorem it_128 (x : Int) : itS 128 x = (62465 * x + 27392) % 65536 := by rw [show (128 : Nat) = 64 + 64 from rfl, itS_add, it_64, it_64]; omega
theorem it_256 (x : Int) : itS 256 x = (59393 * x + 54784) % 65536 := by rw [show (256 : Nat) = 128 + 128 from rfl, itS_add, it_128, it_128]; omega
theorem it_512 (x : Int) : itS 512 x = (53249 * x + 44032) % 65536 := by rw [show (512 : Nat) = 256 + 256 from rfl, itS_add, it_256, it_256]; omega
theorem it_1024 (x : Int) : itS 1024 x = (40961 * x + 22528) % 65536 := by rw [show (1024 : Nat) = 512 + 512 from rfl, itS_add, it_512, it_512]; omega
theorem it_2048 (x : Int) : itS 2048 x = (16385 * x + 45056) % 65536 := by rw [show (2048 : Nat) = 1024 + 1024 from rfl, itS_add, it_1024, it_1024]; omega
theorem it_4096 (x : Int) : itS 4096 x = (32769 * x + 24576) % 65536 := by rw [show (4096 : Nat) = 2048 + 2048 from rfl, itS_add, it_2048, it_2048]; omega
theorem it_8192 (x : Int) : itS 8192 x = (1 * x + 49152) % 65536 := by rw [show (8192 : Nat) = 4096 + 4096 from rfl, itS_add, it_4096, it_4096]; omega
theorem it_16384 (x : Int) : itS 16384 x = (1 * x + 32768) % 65536 := by rw [show (16384 : Nat) = 8192 + 8192 from rfl, itS_add, it_8192, it_8192]; omega
theorem reach_16 {x y : Int} (hx : 0 ≤ x ∧ x < 65536) (hy : 0 ≤ y ∧ y < 65536) (h : x % 65536 = y % 65536) : ∃ t, itS t x = y := ⟨0, by show x = y; omega⟩
theorem low_15 (x : Int) : ((1 * x + 32768) % 65536) % 65536 = (x + 32768) % 65536 := by
  rw [Int.emod_emod_of_dvd _ (by decide : (65536 : Int) ∣ 65536)]; omega
theorem reach_15 {x y : Int} (hx : 0 ≤ x ∧ x < 65536) (hy : 0 ≤ y ∧ y < 65536) (h : x % 32768 = y % 32768) : ∃ t, itS t x = y := by
  by_cases h2 : x % 65536 = y % 65536
  · exact reach_16 hx hy h2
  · obtain ⟨t, ht⟩ := reach_16 (itS_rng 16384 hx) hy (by rw [it_16384, low_15]; omega)
    exact ⟨16384 + t, by rw [itS_add]; exact ht⟩
theorem low_14 (x : Int) : ((1 * x + 49152) % 65536) % 32768 = (x + 16384) % 32768 := by
  rw [Int.emod_emod_of_dvd _ (by decide : (32768 : Int) ∣ 65536)]; omega
theorem reach_14 {x y : Int} (hx : 0 ≤ x ∧ x < 65536) (hy : 0 ≤ y ∧ y < 65536) (h : x % 16384 = y % 16384) : ∃ t, itS t x = y := by
  by_cases h2 : x % 32768 = y % 32768
  · exact reach_15 hx hy h2
  · obtain ⟨t, ht⟩ := reach_15 (itS_rng 8192 hx) hy (by rw [it_8192, low_14]; omega)
    exact ⟨8192 + t, by rw [itS_add]; exact ht⟩
theorem low_13 (x : Int) : ((32769 * x + 24576) % 65536) % 16384 = (x + 8192) % 16384 := by
  rw [Int.emod_emod_of_dvd _ (by decide : (16384 : Int) ∣ 65536)]; omega
theorem reach_13 {x y : Int} (hx : 0 ≤ x ∧ x < 65536) (hy : 0 ≤ y ∧ y < 65536) (h : x % 8192 = y % 8192) : ∃ t, itS t x = y := by
  by_cases h2 : x % 16384 = y % 16384
  · exact reach_14 hx hy h2
  · obtain ⟨t, ht⟩ := reach_14 (itS_rng 4096 hx) hy (by rw [it_4096, low_13]; omega)
    exact ⟨4096 + t, by rw [itS_add]; exact ht⟩
theorem low_12 (x : Int) : ((16385 * x + 45056) % 65536) % 8192 = (x + 4096) % 8192 := by
  rw [Int.emod_emod_of_dvd _ (by decide : (8192 : Int) ∣ 65536)]; omega
theorem reach_12 {x y : Int} (hx : 0 ≤ x ∧ x < 65536) (hy : 0 ≤ y ∧ y < 65536) (h : x % 4096 = y % 4096) : ∃ t, itS t x = y := by
  by_cases h2 : x % 8192 = y % 8192
  · exact reach_13 hx hy h2
  · obtain ⟨t, ht⟩ := reach_13 (itS_rng 2048 hx) hy (by rw [it_2048, low_12]; omega)
    exact ⟨2048 + t, by rw [itS_add]; exact ht⟩
theorem low_11 (x : Int) : ((40961 * x + 22528) % 65536) % 4096 = (x + 2048) % 4096 := by
  rw [Int.emod_emod_of_dvd _ (by decide : (4096 : Int) ∣ 65536)]; omega
theorem reach_11 {x y : Int} (hx : 0 ≤ x ∧ x < 65536) (hy : 0 ≤ y ∧ y < 65536) (h : x % 2048 = y % 2048) : ∃ t, itS t x = y := by
  by_cases h2 : x % 4096 = y % 4096
  · exact reach_12 hx hy h2
  · obtain ⟨t, ht⟩ := reach_12 (itS_rng 1024 hx) hy (by rw [it_1024, low_11]; omega)
    exact ⟨1024 + t, by rw [itS_add]; exact ht⟩
theorem low_10 (x : Int) : ((53249 * x + 44032) % 65536) % 2048 = (x + 1024) % 2048 := by
  rw [Int.emod_emod_of_dvd _ (by decide : (2048 : Int) ∣ 65536)]; omega
theorem reach_10 {x y : Int} (hx : 0 ≤ x ∧ x < 65536) (hy : 0 ≤ y ∧ y < 65536) (h : x % 1024 = y % 1024) : ∃ t, itS t x = y := by
  by_cases h2 : x % 2048 = y % 2048
  · exact reach_11 hx hy h2
  · obtain ⟨t, ht⟩ := reach_11 (itS_rng 512 hx) hy (by rw [it_512, low_10]; omega)
    exact ⟨512 + t, by rw [itS_add]; exact ht⟩
theorem low_9 (x : Int) : ((59393 * x + 54784) % 65536) % 1024 = (x + 512) % 1024 := by
  rw [Int.emod_emod_of_dvd _ (by decide : (1024 : Int) ∣ 65536)]; omega
theorem reach_9 {x y : Int} (hx : 0 ≤ x ∧ x < 65536) (hy : 0 ≤ y ∧ y < 65536) (h : x % 512 = y % 512) : ∃ t, itS t x = y := by
  by_cases h2 : x % 1024 = y % 1024
  · exact reach_10 hx hy h2
  · obtain ⟨t, ht⟩ := reach_10 (itS_rng 256 hx) hy (by rw [it_256, low_9]; omega)
    exact ⟨256 + t, by rw [itS_add]; exact ht⟩
theorem low_8 (x : Int) : ((62465 * x + 27392) % 65536) % 512 = (x + 256) % 512 := by
  rw [Int.emod_emod_of_dvd _ (by decide : (512 : Int) ∣ 65536)]; omega
theorem reach_8 {x y : Int} (hx : 0 ≤ x ∧ x < 65536) (hy : 0 ≤ y ∧ y < 65536) (h : x % 256 = y % 256) : ∃ t, itS t x = y := by
  by_cases h2 : x % 512 = y % 512
  · exact reach_9 hx hy h2
  · obtain ⟨t, ht⟩ := reach_9 (itS_rng 128 hx) hy (by rw [it_128, low_8]; omega)
    exact ⟨128 + t, by rw [itS_add]; exact ht⟩
theorem low_7 (x : Int) : ((31233 * x + 46464) % 65536) % 256 = (x + 128) % 256 := by
  rw [Int.emod_emod_of_dvd _ (by decide : (256 : Int) ∣ 65536)]; omega
theorem reach_7 {x y : Int} (hx : 0 ≤ x ∧ x < 65536) (hy : 0 ≤ y ∧ y < 65536) (h : x % 128 = y % 128) : ∃ t, itS t x = y := by
  by_cases h2 : x % 256 = y % 256
  · exact reach_8 hx hy h2
  · obtain ⟨t, ht⟩ := reach_8 (itS_rng 64 hx) hy (by rw [it_64, low_7]; omega)
    exact ⟨64 + t, by rw [itS_add]; exact ht⟩
theorem low_6 (x : Int) : ((48385 * x + 31424) % 65536) % 128 = (x + 64) % 128 := by
  rw [Int.emod_emod_of_dvd _ (by decide : (128 : Int) ∣ 65536)]; omega
theorem reach_6 {x y : Int} (hx : 0 ≤ x ∧ x < 65536) (hy : 0 ≤ y ∧ y < 65536) (h : x % 64 = y % 64) : ∃ t, itS t x = y := by
  by_cases h2 : x % 128 = y % 128
  · exact reach_7 hx hy h2
  · obtain ⟨t, ht⟩ := reach_7 (itS_rng 32 hx) hy (by rw [it_32, low_6]; omega)
    exact ⟨32 + t, by rw [itS_add]; exact ht⟩
theorem low_5 (x : Int) : ((48769 * x + 50528) % 65536) % 64 = (x + 32) % 64 := by
  rw [Int.emod_emod_of_dvd _ (by decide : (64 : Int) ∣ 65536)]; omega
theorem reach_5 {x y : Int} (hx : 0 ≤ x ∧ x < 65536) (hy : 0 ≤ y ∧ y < 65536) (h : x % 32 = y % 32) : ∃ t, itS t x = y := by
  by_cases h2 : x % 64 = y % 64
  · exact reach_6 hx hy h2
  · obtain ⟨t, ht⟩ := reach_6 (itS_rng 16 hx) hy (by rw [it_16, low_5]; omega)
    exact ⟨16 + t, by rw [itS_add]; exact ht⟩
theorem low_4 (x : Int) : ((5953 * x + 58544) % 65536) % 32 = (x + 16) % 32 := by
  rw [Int.emod_emod_of_dvd _ (by decide : (32 : Int) ∣ 65536)]; omega
theorem reach_4 {x y : Int} (hx : 0 ≤ x ∧ x < 65536) (hy : 0 ≤ y ∧ y < 65536) (h : x % 16 = y % 16) : ∃ t, itS t x = y := by
  by_cases h2 : x % 32 = y % 32
  · exact reach_5 hx hy h2
  · obtain ⟨t, ht⟩ := reach_5 (itS_rng 8 hx) hy (by rw [it_8, low_4]; omega)
    exact ⟨8 + t, by rw [itS_add]; exact ht⟩
theorem low_3 (x : Int) : ((47521 * x + 33496) % 65536) % 16 = (x + 8) % 16 := by
  rw [Int.emod_emod_of_dvd _ (by decide : (16 : Int) ∣ 65536)]; omega
theorem reach_3 {x y : Int} (hx : 0 ≤ x ∧ x < 65536) (hy : 0 ≤ y ∧ y < 65536) (h : x % 8 = y % 8) : ∃ t, itS t x = y := by
  by_cases h2 : x % 16 = y % 16
  · exact reach_4 hx hy h2
  · obtain ⟨t, ht⟩ := reach_4 (itS_rng 4 hx) hy (by rw [it_4, low_3]; omega)
    exact ⟨4 + t, by rw [itS_add]; exact ht⟩
theorem low_2 (x : Int) : ((20561 * x + 54156) % 65536) % 8 = (x + 4) % 8 := by
  rw [Int.emod_emod_of_dvd _ (by decide : (8 : Int) ∣ 65536)]; omega
theorem reach_2 {x y : Int} (hx : 0 ≤ x ∧ x < 65536) (hy : 0 ≤ y ∧ y < 65536) (h : x % 4 = y % 4) : ∃ t, itS t x = y := by
  by_cases h2 : x % 8 = y % 8
  · exact reach_3 hx hy h2
  · obtain ⟨t, ht⟩ := reach_3 (itS_rng 2 hx) hy (by rw [it_2, low_2]; omega)
    exact ⟨2 + t, by rw [itS_add]; exact ht⟩
theorem low_1 (x : Int) : ((59401 * x + 33678) % 65536) % 4 = (x + 2) % 4 := by
  rw [Int.emod_emod_of_dvd _ (by decide : (4 : Int) ∣ 65536)]; omega
theorem reach_1 {x y : Int} (hx : 0 ≤ x ∧ x < 65536) (hy : 0 ≤ y ∧ y < 65536) (h : x % 2 = y % 2) : ∃ t, itS t x = y := by
  by_cases h2 : x % 4 = y % 4
  · exact reach_2 hx hy h2
  · obtain ⟨t, ht⟩ := reach_2 (itS_rng 1 hx) hy (by rw [it_1, low_1]; omega)
    exact ⟨1 + t, by rw [itS_add]; exact ht⟩

/-- The drawn variable, and whether it is negated. -/
def drV (vars s : Int) : Int := gS s / 16 % vars + 1
def drN (s : Int) : Bool := gS (gS s) / 16 % 2 == 1
def drL (vars s : Int) : Int := if drN s then -(drV vars s) else drV vars s
theorem drV_rng {vars s : Int} (hv : 1 ≤ vars) : 1 ≤ drV vars s ∧ drV vars s ≤ vars := by
  unfold drV
  have h1 := Int.emod_nonneg (gS s / 16) (show vars ≠ 0 by omega)
  have h2 := Int.emod_lt_of_pos (gS s / 16) (show 0 < vars by omega)
  omega
theorem draw_all {vars s v : Int} (hs : 0 ≤ s ∧ s < 65536) (hv : 1 ≤ v ∧ v ≤ vars) (hm : vars ≤ 1000) : ∃ t, drV vars (itS t s) = v := by
  have hg := gS_rng s
  obtain ⟨t, ht⟩ := reach_1 (x := gS s) (y := 16 * (v - 1) + gS s % 2) hg (by omega) (by omega)
  refine ⟨t, ?_⟩
  unfold drV
  rw [← itS_comm, ht]
  have h1 : (16 * (v - 1) + gS s % 2) / 16 = v - 1 := by omega
  rw [h1, Int.emod_eq_of_lt (by omega) (by omega)]
  omega
/-- Whether a variable is in a list of literals. -/
def hasV (L : List Int) (v : Int) : Bool := L.any fun l => absV l == v
theorem hasV_iff {L : List Int} {v : Int} : hasV L v = true ↔ ∃ l ∈ L, absV l = v := by unfold hasV; simp
theorem hasV_not {L : List Int} {v : Int} : hasV L v = false ↔ ∀ l ∈ L, absV l ≠ v := by unfold hasV; simp
/-- One round of the drawing of a clause. -/
def rndS (vars : Int) (p : Int × List Int) : Int × List Int := (gS (gS p.1), if hasV p.2 (drV vars p.1) then p.2 else p.2 ++ [drL vars p.1])
/-- So many rounds lead to q, a list of w literals. -/
def Runs (vars : Int) (w : Nat) (q : Int × List Int) : Nat → Int × List Int → Prop
  | 0, p => p.2.length = w ∧ p = q
  | m + 1, p => p.2.length < w ∧ Runs vars w q m (rndS vars p)
/-- Literals of different variables. -/
structure DistS (vars : Int) (L : List Int) : Prop where
  mem : ∀ l ∈ L, LitS l ∧ absV l ≤ vars
  diff : L.Pairwise fun a b => absV a ≠ absV b
theorem absV_pos {v : Int} (h : 1 ≤ v) : absV v = v := by unfold absV; rw [if_neg (by omega)]
theorem absV_neg' {v : Int} (h : 1 ≤ v) (h2 : v ≤ 1000) : absV (-v) = v := by rw [LitS.abs ⟨by omega, by omega, by omega⟩]; rw [if_pos (by omega)]; omega
theorem drL_abs {vars s : Int} (hv : 1 ≤ vars) (hm : vars ≤ 1000) : absV (drL vars s) = drV vars s := by
  have h := drV_rng (s := s) hv
  unfold drL
  split
  · exact absV_neg' h.1 (by omega)
  · exact absV_pos h.1
theorem drL_lit {vars s : Int} (hv : 1 ≤ vars) (hm : vars ≤ 1000) : LitS (drL vars s) := by
  have h := drV_rng (s := s) hv
  unfold drL LitS
  split <;> omega
theorem DistS.step {vars : Int} {L : List Int} {s : Int} (h : DistS vars L) (hv : 1 ≤ vars) (hm : vars ≤ 1000) (hn : hasV L (drV vars s) = false) : DistS vars (L ++ [drL vars s]) := by
  have hd := drV_rng (s := s) hv
  have ha := drL_abs (s := s) hv hm
  refine ⟨fun l hl => ?_, ?_⟩
  · rcases List.mem_append.1 hl with hl | hl
    · exact h.mem l hl
    · rw [List.mem_singleton] at hl; subst hl; exact ⟨drL_lit hv hm, by rw [ha]; exact hd.2⟩
  · rw [List.pairwise_append]
    refine ⟨h.diff, List.pairwise_singleton _ _, fun a ha' b hb => ?_⟩
    rw [List.mem_singleton] at hb; subst hb
    rw [ha]
    exact hasV_not.1 hn a ha'
/-- Some variable is still free. -/
theorem free_var {vars : Int} {L : List Int} (h : DistS vars L) (hl : (L.length : Int) < vars) : ∃ v, 1 ≤ v ∧ v ≤ vars ∧ hasV L v = false := by
  refine Classical.byContradiction fun hn => ?_
  have hall : ∀ i ∈ (List.range' 1 vars.toNat), i ∈ L.map fun l => (absV l).toNat := fun i hi => by
    rw [List.mem_range'_1] at hi
    cases hc : hasV L (i : Int) with
    | false => exact absurd ⟨(i : Int), by omega, by omega, hc⟩ hn
    | true =>
      obtain ⟨l, hl, e⟩ := hasV_iff.1 hc
      exact List.mem_map.2 ⟨l, hl, by rw [e]; rfl⟩
  have := List.Nodup.length_le_of_subset (List.nodup_range' (step := 1)) hall
  rw [List.length_range', List.length_map] at this
  omega
theorem runs_from {vars : Int} {w : Nat} (hv : 1 ≤ vars) (hm : vars ≤ 1000) (hw : (w : Int) ≤ vars) : ∀ (d : Nat) (s : Int) (L : List Int), 0 ≤ s ∧ s < 65536 → DistS vars L → L.length + d = w →
    ∃ m q, Runs vars w q m (s, L) ∧ DistS vars q.2 ∧ 0 ≤ q.1 ∧ q.1 < 65536 := by
  intro d
  induction d with
  | zero => exact fun s L hs hd hl => ⟨0, (s, L), ⟨by simpa using hl, rfl⟩, hd, hs⟩
  | succ d ih =>
    intro s L hs hd hl
    obtain ⟨v, hv1, hv2, hf⟩ := free_var hd (by omega)
    obtain ⟨t, ht⟩ := draw_all hs ⟨hv1, hv2⟩ hm
    induction t generalizing s with
    | zero =>
      have ht' : drV vars s = v := ht
      have hf' : hasV L (drV vars s) = false := by rw [ht']; exact hf
      obtain ⟨m, q, hr, hq⟩ := ih (gS (gS s)) (L ++ [drL vars s]) (gS_rng _) (hd.step hv hm hf') (by simp; omega)
      refine ⟨m + 1, q, ⟨by show L.length < w; omega, ?_⟩, hq⟩
      unfold rndS
      dsimp only
      rw [if_neg (by rw [hf']; simp)]
      exact hr
    | succ t iht =>
      cases hc : hasV L (drV vars s) with
      | false =>
        obtain ⟨m, q, hr, hq⟩ := ih (gS (gS s)) (L ++ [drL vars s]) (gS_rng _) (hd.step hv hm hc) (by simp; omega)
        refine ⟨m + 1, q, ⟨by show L.length < w; omega, ?_⟩, hq⟩
        unfold rndS
        dsimp only
        rw [if_neg (by rw [hc]; simp)]
        exact hr
      | true =>
        obtain ⟨m, q, hr, hq⟩ := iht (gS (gS s)) (gS_rng _) ht
        refine ⟨m + 1, q, ⟨by show L.length < w; omega, ?_⟩, hq⟩
        unfold rndS
        dsimp only
        rw [if_pos hc]
        exact hr
open Classical in
/-- What the drawing of a clause ends with. -/
noncomputable def nextS (vars : Int) (w : Nat) (s : Int) : Int × List Int := if h : ∃ q, ∃ m, Runs vars w q m (s, []) ∧ DistS vars q.2 ∧ 0 ≤ q.1 ∧ q.1 < 65536 then Classical.choose h else (s, [])
theorem nextS_spec {vars : Int} {w : Nat} {s : Int} (hv : 1 ≤ vars) (hm : vars ≤ 1000) (hw : (w : Int) ≤ vars) (hs : 0 ≤ s ∧ s < 65536) :
    (∃ m, Runs vars w (nextS vars w s) m (s, [])) ∧ DistS vars (nextS vars w s).2 ∧ 0 ≤ (nextS vars w s).1 ∧ (nextS vars w s).1 < 65536 := by
  obtain ⟨m, q, h⟩ := runs_from hv hm hw w s [] hs ⟨fun _ h => (by cases h), List.Pairwise.nil⟩ (by simp)
  have hx : ∃ q, ∃ m, Runs vars w q m (s, []) ∧ DistS vars q.2 ∧ 0 ≤ q.1 ∧ q.1 < 65536 := ⟨q, m, h⟩
  unfold nextS
  rw [dif_pos hx]
  obtain ⟨m2, h2, h3⟩ := Classical.choose_spec hx
  exact ⟨⟨m2, h2⟩, h3⟩
theorem runs_len {vars : Int} {w : Nat} {q : Int × List Int} : ∀ {m : Nat} {p : Int × List Int}, Runs vars w q m p → q.2.length = w
  | 0, _, h => by obtain ⟨h1, rfl⟩ := h; exact h1
  | m + 1, _, h => runs_len h.2
/-- The clauses of a seed, as drawn. -/
noncomputable def stateS (vars : Int) (w : Nat) (s : Int) : Nat → Int
  | 0 => s
  | k + 1 => (nextS vars w (stateS vars w s k)).1
noncomputable def listS (vars : Int) (w : Nat) (s : Int) (k : Nat) : List Int := (nextS vars w (stateS vars w s k)).2
theorem stateS_rng {vars : Int} {w : Nat} {s : Int} (hv : 1 ≤ vars) (hm : vars ≤ 1000) (hw : (w : Int) ≤ vars) (hs : 0 ≤ s ∧ s < 65536) : ∀ k, 0 ≤ stateS vars w s k ∧ stateS vars w s k < 65536
  | 0 => hs
  | k + 1 => (nextS_spec hv hm hw (stateS_rng hv hm hw hs k)).2.2
/-- The least number of rounds that is told. -/
theorem least_ex {P : Nat → Prop} (h : ∃ n, P n) : ∃ n, P n ∧ ∀ m, P m → n ≤ m := by
  obtain ⟨n, hn⟩ := h
  induction n using Nat.strongRecOn with
  | ind n ih =>
    by_cases hx : ∃ m, m < n ∧ P m
    · obtain ⟨m, h1, h2⟩ := hx; exact ih m h1 h2
    · exact ⟨n, hn, fun m hm => Nat.le_of_not_lt fun hl => hx ⟨m, hl, hm⟩⟩
open Classical in
noncomputable def leastM (P : Nat → Prop) : Nat := if h : ∃ n, P n ∧ ∀ m, P m → n ≤ m then Classical.choose h else 0
theorem leastM_spec {P : Nat → Prop} (h : ∃ n, P n) : P (leastM P) ∧ ∀ m, P m → leastM P ≤ m := by unfold leastM; rw [dif_pos (least_ex h)]; exact Classical.choose_spec (least_ex h)
theorem leastM_le {P : Nat → Prop} {n : Nat} (h : P n) : leastM P ≤ n := (leastM_spec ⟨n, h⟩).2 n h

theorem DistS.lit {vars : Int} {L : List Int} (h : DistS vars L) (_ : vars ≤ 1000) : ∀ x ∈ L, LitS x := fun x hx => (h.mem x hx).1
/-- The clause of literals of different variables. -/
theorem dist_clause {vars : Int} {L : List Int} (h : DistS vars L) (hm : vars ≤ 1000) : clauseR L = some (cptL L) ∧ GoodS (cptL L) ∧ (cptL L).length = L.length := by
  have hlit := h.lit hm
  have hneg : ∀ x ∈ L, -x ∉ L := fun x hx hn => by
    obtain ⟨i, hi, rfl⟩ := List.getElem_of_mem hx
    obtain ⟨j, hj, e⟩ := List.getElem_of_mem hn
    have hd := List.pairwise_iff_getElem.1 h.diff
    have hl := hlit _ (List.getElem_mem hi)
    have ha : absV L[j] = absV L[i] := by
      rw [e, LitS.abs hl, LitS.abs (show LitS (-L[i]) by unfold LitS at hl ⊢; omega)]
      unfold LitS at hl
      split <;> split <;> omega
    rcases Nat.lt_trichotomy i j with h1 | rfl | h1
    · exact hd i j hi hj h1 ha.symm
    · unfold LitS at hl; omega
    · exact hd j i hj hi h1 ha
  obtain ⟨h1, h2⟩ := clauseR_some hlit hneg
  refine ⟨h1, h2, ?_⟩
  have n1 : L.Nodup := h.diff.imp fun hab e => hab (by rw [e])
  have n2 : (cptL L).Nodup := h2.asc.imp fun hab e => by rw [e] at hab; unfold AscS at hab; omega
  have l1 := List.Nodup.length_le_of_subset n1 (l₂ := cptL L) fun x hx => cptL_mem.2 hx
  have l2 := List.Nodup.length_le_of_subset n2 (l₂ := L) fun x hx => cptL_mem.1 hx
  omega
/-- Literals put into their places, one by one: the same clause. -/
def foldJ (L : List Int) : List Int := L.foldl putB []
theorem foldJ_snoc (L : List Int) (l : Int) : foldJ (L ++ [l]) = putB (foldJ L) l := by unfold foldJ; rw [List.foldl_append]; rfl
theorem foldJ_mem : ∀ (L : List Int) {c : List Int} {x : Int}, x ∈ L.foldl putB c ↔ x ∈ c ∨ x ∈ L
  | [], c, x => by simp
  | l :: L, c, x => by rw [List.foldl_cons, foldJ_mem L, memS_putB, List.mem_cons, or_comm (a := x = l), or_assoc]
theorem foldJ_iff {L : List Int} {x : Int} : x ∈ foldJ L ↔ x ∈ L := by unfold foldJ; rw [foldJ_mem]; simp
theorem DistS.pre {vars : Int} {L M : List Int} (h : DistS vars (L ++ M)) : DistS vars L := ⟨fun l hl => h.mem l (List.mem_append_left _ hl), (List.pairwise_append.1 h.diff).1⟩
theorem foldJ_good {vars : Int} : ∀ {L : List Int}, DistS vars L → vars ≤ 1000 → GoodS (foldJ L) := by
  intro L h hm
  generalize hn : L.length = n
  induction n generalizing L with
  | zero => rw [List.length_eq_zero_iff.1 hn]; exact ⟨fun _ h => (by cases h), List.Pairwise.nil⟩
  | succ n ih =>
    obtain ⟨M, l, rfl⟩ : ∃ M l, L = M ++ [l] := ⟨L.dropLast, L.getLast (by intro e; rw [e] at hn; cases hn), (List.dropLast_concat_getLast _).symm⟩
    rw [foldJ_snoc]
    refine (ih h.pre (by simpa using hn)).put (h.lit hm l (by simp)) fun y hy => ?_
    exact (List.pairwise_append.1 h.diff).2.2 y (foldJ_iff.1 hy) l (by simp)
theorem foldJ_eq {vars : Int} {L : List Int} (h : DistS vars L) (hm : vars ≤ 1000) : foldJ L = cptL L :=
  (foldJ_good h hm).ext (dist_clause h hm).2.1 fun x => by rw [foldJ_iff, cptL_mem]
theorem dist_top {vars : Int} {L : List Int} (h : DistS vars L) (hm : vars ≤ 1000) : ∀ l ∈ cptL L, -vars ≤ l ∧ l ≤ vars := fun l hl => by
  have h1 := h.mem l (cptL_mem.1 hl)
  have h2 := LitS.abs (h.lit hm l (cptL_mem.1 hl))
  split at h2 <;> omega
end Go.Proofs.Yteabiokhbaekpaa

/- Contract: the chooser of the seeded Cnfs, in the program. -/
namespace Go.Proofs.Yteabiokhbaekpaa
open Go.RowKit

/- left out: the seat has no impl.chooser -/
end Go.Proofs.Yteabiokhbaekpaa

/- Contracts: clauses and Cnfs at bits, in the reference. -/
namespace Go.Proofs.Yteabiokhbaekpaa
open Go.RowKit

theorem cl_next {c : List Int} {k : Nat} (hk : k < c.length) (b : Nat) : clT (c.take (k + 1)) b = (clT (c.take k) b || litT b c[k]) := by
  unfold clT
  rw [List.take_succ_eq_append_getElem hk, List.any_append]
  simp
theorem cl_take {c : List Int} {k b : Nat} (h : clT (c.take k) b = true) : clT c b = true := by
  unfold clT at *
  rw [List.any_eq_true] at *
  obtain ⟨x, hx, h⟩ := h
  exact ⟨x, List.mem_of_mem_take hx, h⟩
theorem md_next {xss : List (List Int)} {j : Nat} (hj : j < xss.length) (b : Nat) : modT (xss.take (j + 1)) b = (modT (xss.take j) b && clT xss[j] b) := by
  unfold modT
  rw [List.take_succ_eq_append_getElem hj, List.all_append]
  simp
theorem md_take {xss : List (List Int)} {j b : Nat} (h : modT (xss.take j) b = false) : modT xss b = false := by
  unfold modT at *
  rw [List.all_eq_false] at *
  obtain ⟨x, hx, h⟩ := h
  exact ⟨x, List.mem_of_mem_take hx, h⟩

/- left out: the seat has no spec.l5True -/

/- left out: the seat has no spec.l5All -/
end Go.Proofs.Yteabiokhbaekpaa

/- Contracts: models that are counted and the least one, in the reference. -/
namespace Go.Proofs.Yteabiokhbaekpaa
open Go.RowKit

def cntP (p : Nat → Bool) (k : Nat) : Nat := ((List.range k).filter p).length
theorem cntP_no {p : Nat → Bool} {k : Nat} (h : p k = false) : cntP p (k + 1) = cntP p k := by simp [cntP, List.range_succ, List.filter_append, h]
theorem cntP_yes {p : Nat → Bool} {k : Nat} (h : p k = true) : cntP p (k + 1) = cntP p k + 1 := by simp [cntP, List.range_succ, List.filter_append, h]
theorem cntP_le (p : Nat → Bool) (k : Nat) : cntP p k ≤ k := Nat.le_trans (List.length_filter_le _ _) (by simp)

/- left out: the seat has no spec.l5Models -/
end Go.Proofs.Yteabiokhbaekpaa

/- Contracts: the least model, satisfiability and implied clauses, in the reference. -/
namespace Go.Proofs.Yteabiokhbaekpaa
open Go.RowKit

theorem first_at {p : Nat → Bool} {k N : Nat} (hk : k < N) (h0 : (List.range k).any p = false) (h1 : p k = true) : idxP p (List.range N) = (k : Int) := by
  unfold idxP
  have ha : (List.range N).any p = true := List.any_eq_true.2 ⟨k, List.mem_range.2 hk, h1⟩
  rw [if_pos ha]
  have hl : k < (List.range N).length := by simpa using hk
  have : (List.range N).findIdx p = k := (List.findIdx_eq hl).2 ⟨by simpa using h1, fun j hj => by
    rw [List.any_eq_false] at h0
    have := h0 j (List.mem_range.2 hj)
    simpa using this⟩
  rw [this]
theorem first_no {p : Nat → Bool} {N : Nat} (h0 : (List.range N).any p = false) : idxP p (List.range N) = -1 := by
  unfold idxP
  rw [if_neg (by rw [h0]; decide)]
theorem rany_next {p : Nat → Bool} {k : Nat} : (List.range (k + 1)).any p = ((List.range k).any p || p k) := by
  simp [List.range_succ, List.any_append]
theorem rany_yes {p : Nat → Bool} {k N : Nat} (hk : k < N) (h : p k = true) : (List.range N).any p = true := List.any_eq_true.2 ⟨k, List.mem_range.2 hk, h⟩

/- left out: the seat has no spec.l5First -/

/- left out: the seat has no spec.l5Sat -/

/- left out: the seat has no spec.l5Implies -/
end Go.Proofs.Yteabiokhbaekpaa

/- Contracts: the cursor that draws from bytes. -/
namespace Go.Proofs.Yteabiokhbaekpaa
open Go.RowKit

/-- The bytes that a slice holds can be read. -/
def CodeOk (w : World) (ca : Option Addr) (cl : Nat) : Prop := ∀ j, j < cl → ∃ cb off x, ca = some ⟨cb, off, none⟩ ∧ w.cell? ⟨cb, off + j, none⟩ = some (.int .u8 x) ∧ 0 ≤ x ∧ x ≤ 255
/-- The cursor's block. -/
structure CurIs (A : Nat) (g : Nat) (ca : Option Addr) (cl cc : Nat) (w : World) : Prop where
  ok : ∃ (i : Nat) (s : Int), w.heap[g]? = some (.cells #[.slice ca cl cc, .int .i64 i, .int .u64 s] 60 (0, 0)) ∧ i ≤ A ∧ 0 ≤ s ∧ s < 18446744073709551616
  code : CodeOk w ca cl
  far : 0 < cl → ∀ a, ca = some a → a.block ≠ g
  small : cl ≤ 65536
theorem CodeOk.keep {w w' : World} {ca : Option Addr} {cl : Nat} (h : CodeOk w ca cl) (hk : ∀ a, ca = some a → w'.heap[a.block]? = w.heap[a.block]?) : CodeOk w' ca cl := fun j hj => by
  obtain ⟨cb, off, x, rfl, h1, h2⟩ := h j hj
  exact ⟨cb, off, x, rfl, (World.cell?_of_block (a := ⟨cb, off + j, none⟩) (hk ⟨cb, off, none⟩ rfl)).trans h1, h2⟩
theorem CodeOk.lt {w : World} {ca : Option Addr} {cl : Nat} (h : CodeOk w ca cl) (hl : 0 < cl) : ∀ a, ca = some a → a.block < w.heap.size := by
  obtain ⟨cb, off, x, rfl, h1, _⟩ := h 0 hl
  rintro a e
  cases e
  exact World.block_lt_of_cell? _ _ h1
theorem CodeOk.zero (w : World) (ca : Option Addr) : CodeOk w ca 0 := fun j hj => absurd hj (by omega)
theorem CodeOk.grow {w w' : World} {ca : Option Addr} {cl : Nat} (h : CodeOk w ca cl) (hb : Below w.heap.size w w') : CodeOk w' ca cl := by
  rcases Nat.eq_zero_or_pos cl with rfl | hl
  · exact .zero _ _
  · exact h.keep fun a ha => hb.block _ (h.lt hl a ha)
theorem CurIs.lt {A g : Nat} {ca : Option Addr} {cl cc : Nat} {w : World} (h : CurIs A g ca cl cc w) : g < w.heap.size := by
  obtain ⟨i, s, h, _⟩ := h.ok
  rcases Nat.lt_or_ge g w.heap.size with h' | h'
  · exact h'
  · rw [Array.getElem?_eq_none h'] at h; cases h
theorem CurIs.mono {A A' g : Nat} {ca : Option Addr} {cl cc : Nat} {w : World} (h : CurIs A g ca cl cc w) (hA : A ≤ A') : CurIs A' g ca cl cc w := by
  obtain ⟨⟨i, s, h1, h2, h3⟩, h4, h5, h6⟩ := h
  exact ⟨⟨i, s, h1, by omega, h3⟩, h4, h5, h6⟩
theorem CurIs.grow {A g : Nat} {ca : Option Addr} {cl cc : Nat} {w w' : World} (h : CurIs A g ca cl cc w) (hb : Below w.heap.size w w') : CurIs A g ca cl cc w' := by
  have hlt := h.lt
  obtain ⟨⟨i, s, h1, h2⟩, h4, h5, h6⟩ := h
  refine ⟨⟨i, s, (hb.block g hlt).trans h1, h2⟩, ?_, h5, h6⟩
  rcases Nat.eq_zero_or_pos cl with rfl | hl
  · exact .zero _ _
  · exact h4.keep fun a ha => hb.block _ (h4.lt hl a ha)
/-- A call that turns the cursor alone. -/
def CurPost (R : Value → Prop) (A g : Nat) (ca : Option Addr) (cl cc : Nat) (w : World) (e : Ending) (w' : World) : Prop := ∃ v, R v ∧ e = .returned v ∧ CurIs A g ca cl cc w' ∧ Chg [g] w w'
/-- A number in bounds. -/
def IntIn (lo hi : Int) (v : Value) : Prop := ∃ n : Int, lo ≤ n ∧ n ≤ hi ∧ v = .int .i64 n
/-- The part of the memory that the cursor is. -/
def CurA (A g : Nat) (ca : Option Addr) (cl cc : Nat) : Asn where
  p w F := F = [g] ∧ ∃ (i : Nat) (s : Int), w.heap[g]? = some (.cells #[.slice ca cl cc, .int .i64 i, .int .u64 s] 60 (0, 0)) ∧ i ≤ A ∧ 0 ≤ s ∧ s < 18446744073709551616
  lt := by
    rintro w F ⟨rfl, i, s, h, _⟩ b hb
    obtain rfl : b = g := by simpa using hb
    rcases Nat.lt_or_ge b w.heap.size with h' | h'
    · exact h'
    · rw [Array.getElem?_eq_none h'] at h; cases h
  keep := by
    rintro w w' F ⟨rfl, i, s, h, h2⟩ hk
    exact ⟨rfl, i, s, (hk g (by simp)).trans h, h2⟩
section
variable {w0 w w' : World} {ps : List Asn} {i A A' g cl cc : Nat} {ca : Option Addr}
theorem Sp.cur (h : Sp w0 w ps) (hi : ps[i]? = some (CurA A g ca cl cc)) (hc : CodeOk w0 ca cl) (hs : cl ≤ 65536) :
    CurIs A g ca cl cc w ∧ ∀ w', CurIs A' g ca cl cc w' → Chg [g] w w' → Sp w0 w' (ps.set i (CurA A' g ca cl cc)) := by
  obtain ⟨F, ⟨rfl, hh⟩, hF, hall⟩ := h.upd hi
  have hg := hF g (by simp)
  refine ⟨⟨hh, hc.grow h.below, fun hp a ha => by have := hc.lt hp a ha; omega, hs⟩, fun w' h1 h2 => hall w' _ [g] h2 ⟨rfl, h1.ok⟩ fun b hb => .inl hb⟩
end

theorem u64_in (x : Int) : 0 ≤ IntKind.u64.wrap x ∧ IntKind.u64.wrap x < 18446744073709551616 := by
  have h : IntKind.u64.wrap x = x % 18446744073709551616 := by rfl
  rw [h]; omega
theorem and255 (y : Int) : 0 ≤ bits .and .u64 y 255 ∧ bits .and .u64 y 255 ≤ 255 := by
  have h : bits .and .u64 y 255 = IntKind.u64.wrap (((BitVec.ofInt 64 y &&& BitVec.ofInt 64 255).toNat : Nat) : Int) := rfl
  have h2 : (BitVec.ofInt 64 y &&& BitVec.ofInt 64 255).toNat ≤ 255 := by
    rw [BitVec.toNat_and]
    exact Nat.le_trans Nat.and_le_right (by decide)
  rw [h, IntKind.wrap_u64]
  omega
theorem and255w (y : Int) : 0 ≤ wrap64 (bits .and .u64 y 255) ∧ wrap64 (bits .and .u64 y 255) ≤ 255 := by
  have := and255 y
  unfold wrap64
  omega
theorem cur_step {A g cl cc i : Nat} {ca : Option Addr} {w : World} {s s' : Int} (hg : w.heap[g]? = some (.cells #[.slice ca cl cc, .int .i64 i, .int .u64 s] 60 (0, 0))) (hi : i ≤ A) (hs : 0 ≤ s' ∧ s' < 18446744073709551616)
    (hcode : CodeOk w ca cl) (hfar : 0 < cl → ∀ a, ca = some a → a.block ≠ g) (hsm : cl ≤ 65536) (n m : Nat) :
    CurIs (A + 1) g ca cl cc ((((w.drewN n).setCell ⟨g, 1, none⟩ (.int .i64 ((i : Int) + 1))).setCell ⟨g, 2, none⟩ (.int .u64 s')).drewN m) ∧ Chg [g] w ((((w.drewN n).setCell ⟨g, 1, none⟩ (.int .i64 ((i : Int) + 1))).setCell ⟨g, 2, none⟩ (.int .u64 s')).drewN m) := by
  have hother : ∀ k, k ≠ g → ((((w.drewN n).setCell ⟨g, 1, none⟩ (.int .i64 ((i : Int) + 1))).setCell ⟨g, 2, none⟩ (.int .u64 s')).drewN m).heap[k]? = w.heap[k]? := fun k hk => by
    show (((w.drewN n).setCell ⟨g, 1, none⟩ (.int .i64 ((i : Int) + 1))).setCell ⟨g, 2, none⟩ (.int .u64 s')).heap[k]? = _
    rw [Below.heap_setCell _ _ _ _ hk, Below.heap_setCell _ _ _ _ hk]
    rfl
  have hg' : (w.drewN n).heap[g]? = some (.cells #[.slice ca cl cc, .int .i64 i, .int .u64 s] 60 (0, 0)) := hg
  have hcodeN : CodeOk ((((w.drewN n).setCell ⟨g, 1, none⟩ (.int .i64 ((i : Int) + 1))).setCell ⟨g, 2, none⟩ (.int .u64 s')).drewN m) ca cl := by
    rcases Nat.eq_zero_or_pos cl with h0 | hp
    · rw [h0]; exact .zero _ _
    · exact hcode.keep fun a ha => hother _ (hfar hp a ha)
  refine ⟨⟨⟨i + 1, s', ?_, by omega, hs⟩, hcodeN, hfar, hsm⟩, ⟨rfl, rfl, rfl, by show _ ≤ (((w.drewN n).setCell _ _).setCell _ _).heap.size; simp [World.setCell], fun k _ hn => hother k (by simpa using hn)⟩⟩
  show (((w.drewN n).setCell ⟨g, 1, none⟩ (.int .i64 ((i : Int) + 1))).setCell ⟨g, 2, none⟩ (.int .u64 s')).heap[g]? = _
  simp [World.setCell, Array.getElem?_modify]
  exact ⟨_, hg', rfl⟩

set_option maxRecDepth 100000 in
set_option maxHeartbeats 2000000 in
theorem cur_next (A g : Nat) (ca : Option Addr) (cl cc : Nat) (w : World) (h : CurIs A g ca cl cc w) (hA : A ≤ 1000000000) :
    Calls Try.prog 64 #[.pointer (some ⟨g, 0, none⟩)] w (CurPost (IntIn 0 255) (A + 1) g ca cl cc w) := by
  obtain ⟨⟨i, s, hg, hiA, hs0, hs1⟩, hcode, hfar, hsm⟩ := h
  have S0 : Sp w w [] := Sp.start w
  have c0 : w.cell? ⟨g, 0, none⟩ = some (.slice ca cl cc) := by simp [World.cell?, hg]
  have c1 : w.cell? ⟨g, 1, none⟩ = some (.int .i64 i) := by simp [World.cell?, hg]
  have c2 : w.cell? ⟨g, 2, none⟩ = some (.int .u64 s) := by simp [World.cell?, hg]
  have f1 : w.frozen? ⟨g, 1, none⟩ = false := by simp [World.frozen?, hg]
  have f2 : w.frozen? ⟨g, 2, none⟩ = false := by simp [World.frozen?, hg]
  by_cases hlt : i < cl
  · obtain ⟨cb, off, x, rfl, hx, hx0, hx1⟩ := hcode i hlt
    have hne := hfar (by omega) _ rfl
    have hlt' : (i : Int) < (cl : Int) := by omega
    go_enter Try.func64, Try.ntmps64
    go_wp2_with fail
    go_quiet (fail)
    go_wp2_with fail
    go_quiet (fail)
    go_wp2_with fail
    go_quiet (fail)
    go_wp2_with fail
    go_ret
    obtain ⟨h1, h2⟩ := cur_step hg hiA (u64_in _) hcode hfar hsm _ _
    exact ⟨_, ⟨x, hx0, hx1, rfl⟩, rfl, h1, h2⟩
  · have hge : ¬ (i : Int) < (cl : Int) := by omega
    go_enter Try.func64, Try.ntmps64
    go_wp2_with fail
    go_quiet (fail)
    go_wp2_with fail
    go_quiet (fail)
    go_wp2_with fail
    go_ret
    obtain ⟨h1, h2⟩ := cur_step hg hiA (u64_in _) hcode hfar hsm _ _
    exact ⟨_, ⟨_, (and255w _).1, (and255w _).2, rfl⟩, rfl, h1, h2⟩

theorem Chg.cell {F : List Nat} {w w' : World} {b o : Nat} {v : Value} (h : Chg F w w') (hc : w.cell? ⟨b, o, none⟩ = some v) (hb : b ∉ F) : w'.cell? ⟨b, o, none⟩ = some v :=
  (World.cell?_of_block (a := ⟨b, o, none⟩) (h.block b (World.block_lt_of_cell? _ _ hc) hb)).trans hc

set_option maxHeartbeats 2000000 in
theorem cur_pick (n : Int) (A g : Nat) (ca : Option Addr) (cl cc : Nat) (w : World) (h : CurIs A g ca cl cc w) (hA : A ≤ 100000000) (hn : n ≤ 1000000000) :
    Calls Try.prog 56 #[.pointer (some ⟨g, 0, none⟩), .int .i64 n] w (CurPost (IntIn 0 (if n ≤ 1 then 0 else n - 1)) (A + 2) g ca cl cc w) := by
  by_cases h1 : n ≤ 1
  · rw [if_pos h1]
    go_enter Try.func56, Try.ntmps56
    go_wp2_with fail
    go_ret
    exact ⟨_, ⟨0, by omega, by omega, rfl⟩, rfl, h.mono (by omega), Chg.refl _ _⟩
  rw [if_neg h1]
  have hn1 : 1 < n := by omega
  have hn0 : 0 < n := by omega
  by_cases h2 : 200 < n
  · go_enter Try.func56, Try.ntmps56
    go_wp2_with fail
    refine (cur_next A g ca cl cc w h (by omega)).mono ?_
    rintro e w1 ⟨_, ⟨x, hx0, hx1, rfl⟩, rfl, hi1, hc1⟩
    go_wp2_with fail
    refine (cur_next (A + 1) g ca cl cc w1 hi1 (by omega)).mono ?_
    rintro e w2 ⟨_, ⟨y, hy0, hy1, rfl⟩, rfl, hi2, hc2⟩
    have hxy : 0 ≤ x * 256 + y := by omega
    have hm := Int.emod_nonneg (x * 256 + y) (by omega : n ≠ 0)
    have hm2 := Int.emod_lt_of_pos (x * 256 + y) hn0
    have hc := hc1.trans hc2
    replace hm := Lib.hid hm
    replace hm2 := Lib.hid hm2
    go_wp2_with fail
    go_ret
    exact ⟨_, ⟨_, hm.out, by have := hm2.out; omega, rfl⟩, rfl, hi2, hc⟩
  · go_enter Try.func56, Try.ntmps56
    go_wp2_with fail
    refine (cur_next A g ca cl cc w h (by omega)).mono ?_
    rintro e w1 ⟨_, ⟨x, hx0, hx1, rfl⟩, rfl, hi1, hc1⟩
    have hm := Int.emod_nonneg x (by omega : n ≠ 0)
    have hm2 := Int.emod_lt_of_pos x hn0
    replace hm := Lib.hid hm
    replace hm2 := Lib.hid hm2
    go_wp2_with fail
    go_ret
    exact ⟨_, ⟨_, hm.out, by have := hm2.out; omega, rfl⟩, rfl, hi1.mono (by omega), hc1⟩
theorem cur_pick_at {lo hi : Int} {n : Int} {A g : Nat} {ca : Option Addr} {cl cc : Nat} {w : World} (h : CurIs A g ca cl cc w) (hA : A ≤ 100000000) (hn : n ≤ 1000000000) (h1 : lo ≤ 0) (h2 : 0 ≤ hi) (h3 : n - 1 ≤ hi) :
    Calls Try.prog 56 #[.pointer (some ⟨g, 0, none⟩), .int .i64 n] w (CurPost (IntIn lo hi) (A + 2) g ca cl cc w) :=
  (cur_pick n A g ca cl cc w h hA hn).mono fun e w' ⟨v, ⟨x, hx0, hx1, hx⟩, r⟩ => ⟨v, ⟨x, by omega, by split at hx1 <;> omega, hx⟩, r⟩

/-- Some bool. -/
def IsBool (v : Value) : Prop := ∃ q : Bool, v = .bool q
theorem cur_one (n : Int) (A g : Nat) (ca : Option Addr) (cl cc : Nat) (w : World) (h : CurIs A g ca cl cc w) (hA : A ≤ 100000000) (hn : n ≤ 1000000000) :
    Calls Try.prog 57 #[.pointer (some ⟨g, 0, none⟩), .int .i64 n] w (CurPost IsBool (A + 2) g ca cl cc w) := by
  go_enter Try.func57, Try.ntmps57
  go_wp2_with fail
  refine (cur_pick n A g ca cl cc w h hA hn).mono ?_
  rintro e w1 ⟨_, ⟨x, _, _, rfl⟩, rfl, hi1, hc1⟩
  go_wp2_with fail
  go_ret
  exact ⟨_, ⟨_, rfl⟩, rfl, hi1, hc1⟩

/-- A string of which R holds. -/
def StrR (R : ByteArray → Prop) (v : Value) : Prop := ∃ s, R s ∧ v = .string s
/-- A list of strings of which R holds. -/
def StrsR (R : ByteArray → Prop) (w : World) (b off m : Nat) : Prop := ∀ j, j < m → ∃ s, R s ∧ w.cell? ⟨b, off + j, none⟩ = some (.string s)

/- left out: the seat has no (*loop.example/g01080/spec.l1Cur).of -/

set_option maxHeartbeats 2000000 in
theorem cur_among (lo hi : Int) (b off m c : Nat) (A g : Nat) (ca : Option Addr) (cl cc : Nat) (w : World) (h : CurIs A g ca cl cc w) (hA : A ≤ 100000000) (hm0 : 0 < m) (hm : m ≤ 1000000) (hs : ∀ j, j < m → ∃ x, lo ≤ x ∧ x ≤ hi ∧ w.cell? ⟨b, off + j, none⟩ = some (.int .i64 x)) (hb : b ≠ g) :
    Calls Try.prog 55 #[.pointer (some ⟨g, 0, none⟩), .slice (some ⟨b, off, none⟩) m c] w (CurPost (IntIn lo hi) (A + 2) g ca cl cc w) := by
  go_enter Try.func55, Try.ntmps55
  go_wp2_with fail
  refine (cur_pick_at (lo := 0) (hi := (m : Int) - 1) h hA (by omega) (by omega) (by omega) (by omega)).mono ?_
  rintro e w1 ⟨_, ⟨x, hx0, hx1, rfl⟩, rfl, hi1, hc1⟩
  obtain ⟨k, rfl⟩ := Int.eq_ofNat_of_zero_le hx0
  have hk : k < m := by omega
  have hk' : (k : Int) < (m : Int) := by omega
  obtain ⟨y, hy0, hy1, hcell⟩ := hs k hk
  have k0 := hc1.cell hcell (by simpa using hb)
  clear hx1
  go_wp2_with fail
  go_ret
  exact ⟨_, ⟨y, hy0, hy1, rfl⟩, rfl, hi1, hc1⟩
end Go.Proofs.Yteabiokhbaekpaa

/- Memory in parts beside a cursor that turns. -/
namespace Go.Proofs.Yteabiokhbaekpaa
open Go.RowKit

theorem ints_new {lo hi : Int} {W : World} {cs : Array Value} {t : TypeId} {b n : Nat} (hb : b = W.heap.size) (h : ∀ j, j < n → ∃ x, cs[j]? = some (.int .i64 x) ∧ lo ≤ x ∧ x ≤ hi) : ∀ j, j < n → ∃ x, lo ≤ x ∧ x ≤ hi ∧ (W.alloc (.cells cs t)).cell? ⟨b, 0 + j, none⟩ = some (.int .i64 x) := fun j hj => by
  obtain ⟨x, h1, h2, h3⟩ := h j hj
  subst hb
  refine ⟨x, h2, h3, ?_⟩
  rw [Nat.zero_add]
  exact (cell_of_row _ _ _ _ _ _ (heap_alloc_new W _)).trans h1
theorem CurPost.chg {R : Value → Prop} {A g : Nat} {ca : Option Addr} {cl cc : Nat} {w w1 : World} {e : Ending} {w' : World} (h : CurPost R A g ca cl cc w1 e w') (hc : Chg [g] w w1) : CurPost R A g ca cl cc w e w' := by
  obtain ⟨v, h1, h2, h3, h4⟩ := h
  exact ⟨v, h1, h2, h3, hc.trans h4⟩
theorem CurIs.stay {A A' g cl cc : Nat} {ca : Option Addr} {w W W' : World} (h : CurIs A g ca cl cc w) (hi : CurIs A' g ca cl cc W) (hk : ∀ k, k < w.heap.size → W'.heap[k]? = W.heap[k]?) : CurIs A' g ca cl cc W' := by
  have hg := h.lt
  have hl := h.code
  obtain ⟨⟨i, s, h1, h2⟩, h3, h4, h5⟩ := hi
  refine ⟨⟨i, s, (hk g hg).trans h1, h2⟩, ?_, h4, h5⟩
  rcases Nat.eq_zero_or_pos cl with rfl | hp
  · exact .zero _ _
  · exact h3.keep fun a ha => hk _ (hl.lt hp a ha)

/-- Parts of the call's own, beside a cursor g that was there. -/
def CS (w0 : World) (g : Nat) (ca : Option Addr) (cl cc A : Nat) (w : World) (ps : List Asn) : Prop :=
  (∃ A0, CurIs A0 g ca cl cc w0) ∧ CurIs A g ca cl cc w ∧ Chg [g] w0 w ∧ ∃ F, sep ps w F ∧ ∀ b ∈ F, w0.heap.size ≤ b
section
variable {w0 w w' w1 : World} {g cl cc A A' i b o n n' size : Nat} {ca : Option Addr} {ps : List Asn} {q : Asn} {t e : TypeId} {cs : Array Value} {v v' : Value} {xs xs' : List Value}
theorem CS.start (h : CurIs A g ca cl cc w) : CS w g ca cl cc A w [] := ⟨⟨A, h⟩, h, Chg.refl _ _, [], rfl, by simp⟩
theorem CS.cur (h : CS w0 g ca cl cc A w ps) : CurIs A g ca cl cc w := h.2.1
theorem CS.chg (h : CS w0 g ca cl cc A w ps) : Chg [g] w0 w := h.2.2.1
theorem CS.glt (h : CS w0 g ca cl cc A w ps) : g < w0.heap.size := by obtain ⟨⟨A0, h0⟩, _⟩ := h; exact h0.lt
theorem CS.mono (h : CS w0 g ca cl cc A w ps) (hA : A ≤ A') : CS w0 g ca cl cc A' w ps := ⟨h.1, h.2.1.mono hA, h.2.2⟩
theorem CS.turn (h : CS w0 g ca cl cc A w ps) (hi : CurIs A' g ca cl cc w') (hc : Chg [g] w w') : CS w0 g ca cl cc A' w' ps := by
  have hg := h.glt
  obtain ⟨h0, h1, h2, F, h3, h4⟩ := h
  exact ⟨h0, hi, h2.trans hc, F, sep_keep h3 fun b hm => hc.block b (sep_lt h3 b hm) fun hb => by
    obtain rfl : b = g := by simpa using hb
    have := h4 b hm; omega, h4⟩
theorem CS.grow (h : CS w0 g ca cl cc A w ps) (hb : Below w.heap.size w w') : CS w0 g ca cl cc A w' ps := by
  obtain ⟨h0, h1, h2, F, h3, h4⟩ := h
  exact ⟨h0, h1.grow hb, h2.then hb, F, sep_keep h3 fun b hm => hb.block b (sep_lt h3 b hm), h4⟩
theorem CS.new {F : List Nat} (h : CS w0 g ca cl cc A w ps) (hb : Below w.heap.size w w') (hq : q.p w' F) (hF : ∀ b ∈ F, w.heap.size ≤ b) : CS w0 g ca cl cc A w' (q :: ps) := by
  have hsz := h.chg.size
  obtain ⟨h0, h1, h2, F', h3, h4⟩ := h
  refine ⟨h0, h1.grow hb, h2.then hb, F ++ F', ⟨F, F', rfl, fun b hm hm2 => ?_, hq, sep_keep h3 fun b hm => hb.block b (sep_lt h3 b hm)⟩, fun b hm => ?_⟩
  · have := hF b hm; have := sep_lt h3 b hm2; omega
  · rcases List.mem_append.1 hm with hm | hm
    · have := hF b hm; omega
    · exact h4 b hm
theorem CS.upd (h : CS w0 g ca cl cc A w ps) (hi : ps[i]? = some q) : ∃ Fi, q.p w Fi ∧ (∀ b ∈ Fi, w0.heap.size ≤ b) ∧
    ∀ w' q' Fi', Chg Fi w w' → q'.p w' Fi' → (∀ b ∈ Fi', b ∈ Fi ∨ w.heap.size ≤ b) → CS w0 g ca cl cc A w' (ps.set i q') := by
  have hsz := h.chg.size
  obtain ⟨h0, h1, h2, F, h3, h4⟩ := h
  obtain ⟨Fi, hp, hsub, hall⟩ := sep_upd h3 hi
  refine ⟨Fi, hp, fun b hb => h4 b (hsub b hb), fun w' q' Fi' hc hq hF => ?_⟩
  obtain ⟨F', hs, hF'⟩ := hall w' q' Fi' hc hq hF
  have hk : ∀ k, k < w0.heap.size → w'.heap[k]? = w.heap[k]? := fun k hk => hc.block k (Nat.lt_of_lt_of_le hk hsz) fun hm => by have := h4 k (hsub k hm); omega
  obtain ⟨A0, h0'⟩ := h0
  exact ⟨⟨A0, h0'⟩, h0'.stay h1 hk, ⟨hc.os.trans h2.os, hc.tape.trans h2.tape, hc.output.trans h2.output, Nat.le_trans h2.size hc.size, fun k hk' hn => (hk k hk').trans (h2.block k hk' hn)⟩, F', hs, fun b hb => (hF' b hb).elim (h4 b) (Nat.le_trans hsz)⟩
theorem CS.get (h : CS w0 g ca cl cc A w ps) (hi : ps[i]? = some q) : ∃ Fi, q.p w Fi ∧ (∀ b ∈ Fi, w0.heap.size ≤ b) := by
  obtain ⟨Fi, h1, h2, _⟩ := h.upd hi
  exact ⟨Fi, h1, h2⟩
theorem CS.tail (h : CS w0 g ca cl cc A w (q :: ps)) : CS w0 g ca cl cc A w ps := by
  obtain ⟨h0, h1, h2, F, ⟨F1, F2, rfl, _, _, h3⟩, h4⟩ := h
  exact ⟨h0, h1, h2, F2, h3, fun b hb => h4 b (List.mem_append.2 (.inr hb))⟩
theorem CS.swap {q' : Asn} (h : CS w0 g ca cl cc A w (q :: q' :: ps)) : CS w0 g ca cl cc A w (q' :: q :: ps) := by
  obtain ⟨h0, h1, h2, F, ⟨F1, F2, rfl, hd, hq, F3, F4, rfl, hd2, hq', h3⟩, h4⟩ := h
  refine ⟨h0, h1, h2, F3 ++ (F1 ++ F4), ⟨F3, F1 ++ F4, rfl, fun b hb hb2 => ?_, hq', F1, F4, rfl, fun b hb hb2 => hd b hb (List.mem_append.2 (.inr hb2)), hq, h3⟩, fun b hb => ?_⟩
  · rcases List.mem_append.1 hb2 with hb2 | hb2
    · exact hd b hb2 (List.mem_append.2 (.inl hb))
    · exact hd2 b hb hb2
  · apply h4
    simp only [List.mem_append] at hb ⊢
    rcases hb with h | h | h
    · exact .inr (.inl h)
    · exact .inl h
    · exact .inr (.inr h)
theorem CS.third {q1 q2 q3 : Asn} (h : CS w0 g ca cl cc A w (q1 :: q2 :: q3 :: ps)) : CS w0 g ca cl cc A w (q1 :: q2 :: ps) := by
  obtain ⟨h0, h1, h2, F, ⟨F1, F2, rfl, hd, hq, F3, F4, rfl, hd2, hq', F5, F6, rfl, hd3, hq3, h3⟩, h4⟩ := h
  refine ⟨h0, h1, h2, F1 ++ (F3 ++ F6), ⟨F1, F3 ++ F6, rfl, fun b hb hb2 => hd b hb ?_, hq, F3, F6, rfl, fun b hb hb2 => hd2 b hb (List.mem_append.2 (.inr hb2)), hq', h3⟩, fun b hb => h4 b ?_⟩
  · rcases List.mem_append.1 hb2 with h | h
    · exact List.mem_append.2 (.inl h)
    · exact List.mem_append.2 (.inr (List.mem_append.2 (.inr h)))
  · simp only [List.mem_append] at hb ⊢
    rcases hb with h | h | h
    · exact .inl h
    · exact .inr (.inl h)
    · exact .inr (.inr (.inr h))
/-- The second part is let go. -/
theorem CS.third2 {q1 q2 : Asn} (h : CS w0 g ca cl cc A w (q1 :: q2 :: ps)) : CS w0 g ca cl cc A w (q1 :: ps) := h.swap.tail
theorem CS.drew (h : CS w0 g ca cl cc A w ps) : CS w0 g ca cl cc A w.drew ps := h.grow (bdr (bb _))
theorem CS.alloc (h : CS w0 g ca cl cc A w ps) (o : Obj) : CS w0 g ca cl cc A (w.alloc o) ps := h.grow (bal (bb _) o)
theorem CS.alloc_box (h : CS w0 g ca cl cc A w ps) (cs : Array Value) (t : TypeId) : CS w0 g ca cl cc A (w.alloc (.cells cs t)) (Box w.heap.size t cs :: ps) :=
  h.new (bal (bb _) _) (F := [w.heap.size]) ⟨rfl, heap_alloc_new w _⟩ (by simp)
theorem CS.box (h : CS w0 g ca cl cc A w ps) (hi : ps[i]? = some (Box b t cs)) : w0.heap.size ≤ b ∧ b < w.heap.size ∧ w.heap[b]? = some (.cells cs t (0, 0)) := by
  obtain ⟨F, hp, hF⟩ := h.get hi
  have hlt := (Box b t cs).lt hp b
  obtain ⟨rfl, hh⟩ := hp
  exact ⟨hF b (by simp), hlt (by simp), hh⟩
theorem CS.cell (h : CS w0 g ca cl cc A w ps) (hi : ps[i]? = some (Box b t cs)) {u : Value} (ho : cs[o]? = some u) : w.cell? ⟨b, o, none⟩ = some u := by
  simp [World.cell?, (h.box hi).2.2, ho]
theorem CS.frozen (h : CS w0 g ca cl cc A w ps) (hi : ps[i]? = some (Box b t cs)) (o : Nat) : w.frozen? ⟨b, o, none⟩ = false := by
  simp [World.frozen?, (h.box hi).2.2]
theorem CS.store (h : CS w0 g ca cl cc A w ps) (hi : ps[i]? = some (Box b t cs)) (o : Nat) (u : Value) : CS w0 g ca cl cc A (w.setCell ⟨b, o, none⟩ u) (ps.set i (Box b t (cs.setIfInBounds o u))) := by
  obtain ⟨Fi, ⟨rfl, hh⟩, hF, hall⟩ := h.upd hi
  exact hall _ (Box b t (cs.setIfInBounds o u)) [b] ((Chg.refl _ _).set (by simp) _) ⟨rfl, by simp [World.setCell, Array.getElem?_modify, hh]⟩ fun b hb => .inl hb
theorem CS.own (h : CS w0 g ca cl cc A w ps) (hi : ps[i]? = some (Own e size v n xs)) : w.ownsRow 0 e size v n xs := by
  obtain ⟨F, hp, _⟩ := h.get hi
  exact hp.2
theorem CS.owns_end (h : CS w0 g ca cl cc A w ps) (hi : ps[i]? = some (Own e size v n xs)) : w.ownsRow w0.heap.size e size v n xs := by
  obtain ⟨F, ⟨rfl, h1⟩, h2⟩ := h.get hi
  exact owns_base h1 fun g hg => h2 g (by simp [hg])
theorem CS.own_new (h : CS w0 g ca cl cc A w ps) (hb : Below w.heap.size w w') (ho : w'.ownsRow 0 e size v n xs) (hv : ∀ g, v.ownBlock = some g → w.heap.size ≤ g) : CS w0 g ca cl cc A w' (Own e size v n xs :: ps) :=
  h.new hb (F := v.ownBlock.toList) ⟨rfl, ho⟩ fun b hm => hv b (by simpa using hm)
theorem CS.own_made (h : CS w0 g ca cl cc A w ps) (e : TypeId) (size : Nat) : CS w0 g ca cl cc A (w.alloc (.cells #[] e)) (Own e size (.slice (some ⟨w.heap.size, 0, none⟩) 0 0) 0 [] :: ps) :=
  h.own_new (bal (bb _) _) ⟨by simp, .inr ⟨w.heap.size, 0, #[], rfl, Nat.zero_le _, heap_alloc_new w _, Nat.le_refl _, by decide, by simp, by simp⟩⟩ (fun g hg => by
    have : w.heap.size = g := by simpa [Value.ownBlock] using hg
    omega)
theorem CS.own_push (h : CS w0 g ca cl cc A w ps) (hi : ps[i]? = some (Own e size v n xs)) (hb : Below w.heap.size w w1) (ho : w'.ownsRow 0 e size v' n' xs') (hg : w1.grownBy w' v.ownBlock)
    (hat : v'.ownBlock = v.ownBlock ∨ v'.ownBlock = some w1.heap.size) : CS w0 g ca cl cc A w' (ps.set i (Own e size v' n' xs')) := by
  obtain ⟨F, ⟨rfl, hh⟩, hF, hall⟩ := h.upd hi
  refine hall w' _ v'.ownBlock.toList ?_ ⟨rfl, ho⟩ fun b hm => ?_
  · exact ⟨hg.os.trans hb.os, hg.tape.trans hb.tape, hg.output.trans hb.output, Nat.le_trans hb.size hg.size, fun k hk hn =>
      (hg.block k (Nat.lt_of_lt_of_le hk hb.size) (fun e => hn (by simp [← e]))).trans (hb.block k hk)⟩
  · rcases hat with h1 | h1
    · exact .inl (by rw [h1] at hm; exact hm)
    · rw [h1] at hm
      obtain rfl : b = w1.heap.size := by simpa using hm
      exact .inr hb.size
/-- A store into an own row. -/
theorem CS.own_put {cap : Nat} {gx : Nat} (h : CS w0 g ca cl cc A w ps) (hi : ps[i]? = some (Own e size (.slice (some ⟨gx, 0, none⟩) n cap) n xs)) (u : Value) (ho : o < n * size) :
    CS w0 g ca cl cc A (w.setCell ⟨gx, o, none⟩ u) (ps.set i (Own e size (.slice (some ⟨gx, 0, none⟩) n cap) n (xs.set o u))) := by
  obtain ⟨F, ⟨rfl, hh⟩, hF, hall⟩ := h.upd hi
  have hlen := hh.1
  obtain ⟨g', cap', cur, e1, h0, hg, hn, hm, hc, ht⟩ := own_block hh (by
    rcases Nat.eq_zero_or_pos n with rfl | h
    · simp at ho
    · exact h)
  simp only [Value.slice.injEq, Option.some.injEq, Addr.mk.injEq] at e1
  obtain ⟨⟨rfl, _⟩, _, rfl⟩ := e1
  have hset : (w.setCell ⟨gx, o, none⟩ u).heap[gx]? = some (.cells (cur.setIfInBounds o u) e (0, 0)) := by
    simp [World.setCell, Array.getElem?_modify]
    exact ⟨_, hg, rfl⟩
  refine hall _ _ [gx] ?_ ⟨rfl, by rw [List.length_set]; exact hlen, .inr ⟨gx, cap, cur.setIfInBounds o u, rfl, Nat.zero_le _, hset, hn, hm, by rw [Array.size_setIfInBounds]; exact hc, ?_⟩⟩ fun b hb => .inl hb
  · exact ⟨rfl, rfl, rfl, by simp [World.setCell], fun k _ hn => Below.heap_setCell _ _ _ _ (by simpa [Value.ownBlock] using hn)⟩
  · rw [Array.toList_setIfInBounds, List.take_set, ht]
/-- Parts of a call's own go in front. -/
theorem CS.seq {qs : List Asn} (h : CS w0 g ca cl cc A w ps) (k : Sp w w' qs) : CS w0 g ca cl cc A w' (qs ++ ps) := by
  have hsz := h.chg.size
  obtain ⟨h0, h1, h2, G, h3, h4⟩ := h
  obtain ⟨k1, F, k2, k3⟩ := k
  refine ⟨h0, h1.grow k1, h2.then k1, F ++ G, sep_append k2 (sep_keep h3 fun b hm => k1.block b (sep_lt h3 b hm)) (fun b hb hb2 => ?_), fun b hb => ?_⟩
  · have := k3 b hb; have := sep_lt h3 b hb2; omega
  · rcases List.mem_append.1 hb with hm | hm
    · have := k3 b hm; omega
    · exact h4 b hm
end
end Go.Proofs.Yteabiokhbaekpaa

/- Contracts: clauses that are drawn. -/
namespace Go.Proofs.Yteabiokhbaekpaa
open Go.RowKit

theorem own_row {w : World} {B : Nat} {e : TypeId} {v : Value} {cs : List Int} (h : w.ownsRow B e 1 v cs.length (cs.map (.int .i64))) (hok : ∀ c ∈ cs, I64 c) : ∃ F, Ty.int.row true w v cs F ∧ F.Nodup ∧ ∀ b ∈ F, B ≤ b := by
  obtain ⟨F, hr, hF, hB⟩ := Ty.row_of_owns (T := Ty.int) h rfl (by decide) (Ty.all_int hok)
  refine ⟨F, hr, ?_, ?_⟩
  · rcases hF with rfl | ⟨g, _, _, _, rfl⟩ <;> simp
  · rcases hF with rfl | ⟨g, hg, _, _, rfl⟩
    · simp
    · intro b hb
      simp at hb
      omega
/-- Numbers that lie within bounds. -/
def Within (m : Int) (c : List Int) : Prop := ∀ x ∈ c, -m ≤ x ∧ x ≤ m
theorem Within.i64 {m : Int} {c : List Int} (h : Within m c) (hm : m ≤ 1000000) : ∀ x ∈ c, I64 x := fun x hx => by
  have := h x hx; unfold I64; omega
theorem within_without {m : Int} {c : List Int} (h : Within m c) (v : Int) : Within m (withoutB c v) := fun x hx => h x (List.mem_filter.1 hx).1
theorem within_put {m : Int} {c : List Int} {l : Int} (h : Within m c) (hl : -m ≤ l ∧ l ≤ m) : Within m (putB c l) := fun x hx => by
  unfold putB at hx
  rcases List.mem_append.1 hx with hx | hx
  · exact h x (List.mem_of_mem_take hx)
  · rcases List.mem_cons.1 hx with rfl | hx
    · exact hl
    · exact h x (List.mem_of_mem_drop hx)
/-- A drawn row of numbers. -/
def RowPost (n : Nat) (R : List Int → Prop) (A g : Nat) (ca : Option Addr) (cl cc : Nat) (w : World) (e : Ending) (w' : World) : Prop :=
  ∃ v c, e = .returned v ∧ w'.ownsRow w.heap.size 3 1 v c.length (c.map (.int .i64)) ∧ c.length ≤ n ∧ R c ∧ CurIs A g ca cl cc w' ∧ Chg [g] w w'

/- left out: the seat has no (*loop.example/g01080/spec.l1Cur).clause -/
end Go.Proofs.Yteabiokhbaekpaa

/- Contracts: counted and listed models, and implied clauses, of a Cnf in the reference. -/
namespace Go.Proofs.Yteabiokhbaekpaa
open Go.RowKit

/-- Numbers that are told, and whether they are. -/
def IAns (w : World) (ok : Bool) (zs : List Int) (e : Ending) (w' : World) : Prop :=
  ∃ B cap, e = .returned (.tuple #[.slice B zs.length cap, .bool ok]) ∧ IntsAt w' B zs ∧ Below w.heap.size w w'
def allN (p : Nat → Bool) (k : Nat) : List Int := ((List.range k).filter p).map fun (m : Nat) => (m : Int)
theorem allN_no {p : Nat → Bool} {k : Nat} (h : p k = false) : allN p (k + 1) = allN p k := by simp [allN, List.range_succ, List.filter_append, h]
theorem allN_yes {p : Nat → Bool} {k : Nat} (h : p k = true) : allN p (k + 1) = allN p k ++ [(k : Int)] := by simp [allN, List.range_succ, List.filter_append, h]
theorem allN_len (p : Nat → Bool) (k : Nat) : (allN p k).length = cntP p k := by simp [allN, cntP]
theorem allN_ok (p : Nat → Bool) {k : Nat} (hk : k ≤ 4096) : ∀ x ∈ allN p k, I64 x := by
  intro x hx
  unfold allN at hx
  rw [List.mem_map] at hx
  obtain ⟨m, hm, rfl⟩ := hx
  have := List.mem_range.1 (List.mem_filter.1 hm).1
  unfold I64; omega

/- left out: the seat has no spec.CountCnfModels -/

/- left out: the seat has no spec.AllModels -/
end Go.Proofs.Yteabiokhbaekpaa
