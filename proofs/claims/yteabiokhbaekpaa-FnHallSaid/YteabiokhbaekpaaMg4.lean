/- Lemmas and contracts for a law, put together out of several texts: MdE MdF MdP MdT BrA CoA CoB CoC CoK MdR CoD CoE MdG MdH MdI MdJ CoF CoG CoN CoO CoI CoH CoJ CoL. -/
import Derived.Test.YteabiokhbaekpaaMg3
import Derived.Lib.SliceRun
import Derived.Lib.Hide
import Derived.Test.YteabiokhbaekpaaMg1
import Derived.Test.YteabiokhbaekpaaMg2
import Derived.Shelf.SlicesE.Kit
import Derived.Shelf.SlicesE.Delete
import Derived.Laws.Append
import Derived.Deep.DeepCutAuto
/- Contract: an implied clause of a Cnf in the reference. -/
namespace Go.Proofs.Yteabiokhbaekpaa
open Go.RowKit

/-- A clause is true for all models. -/
def impB (n : Nat) (xss : List (List Int)) (d : List Int) : Bool := !((List.range (2 ^ n)).any fun b => !clT d b && modT xss b)
theorem ints_lone {w : World} {b : Nat} {z : Int} (h : w.cell? ⟨b, 0, none⟩ = some (.int .i64 z)) (hz : I64 z) : IntsAt w (some ⟨b, 0, none⟩) [z] :=
  ⟨fun j hj => by
    obtain rfl : j = 0 := by simpa using hj
    exact ⟨b, 0, rfl, h⟩, fun c hc => by
    obtain rfl : c = z := by simpa using hc
    exact hz⟩

/- left out: the seat has no spec.ImpliesClause -/
end Go.Proofs.Yteabiokhbaekpaa

/- Contract: the backbone of a Cnf in the reference. -/
namespace Go.Proofs.Yteabiokhbaekpaa
open Go.RowKit

/-- The literals of the first variables that are true for all models. -/
def boneTo (n : Nat) (xss : List (List Int)) : Nat → List Int
  | 0 => []
  | k + 1 => boneTo n xss k ++ ((if impB n xss [(k : Int) + 1] then [(k : Int) + 1] else []) ++ (if impB n xss [-((k : Int) + 1)] then [-((k : Int) + 1)] else []))
theorem bone_len (n : Nat) (xss : List (List Int)) : ∀ k, (boneTo n xss k).length ≤ 2 * k
  | 0 => by simp [boneTo]
  | k + 1 => by
    have := bone_len n xss k
    unfold boneTo
    rw [List.length_append, List.length_append]
    split <;> split <;> simp <;> omega
theorem bone_ok (n : Nat) (xss : List (List Int)) : ∀ k, k ≤ 1000 → ∀ x ∈ boneTo n xss k, I64 x
  | 0, _ => by simp [boneTo]
  | k + 1, h => by
    have := bone_ok n xss k (by omega)
    unfold boneTo
    intro x hx
    rcases List.mem_append.1 hx with hx | hx
    · exact this x hx
    · rcases List.mem_append.1 hx with hx | hx
      · split at hx
        · obtain rfl : x = (k : Int) + 1 := by simpa using hx
          unfold I64; omega
        · simp at hx
      · split at hx
        · obtain rfl : x = -((k : Int) + 1) := by simpa using hx
          unfold I64; omega
        · simp at hx
theorem cls_lone {z : Int} (h0 : z ≠ 0) (h1 : -1000 ≤ z) (h2 : z ≤ 1000) : ClS [z] := ⟨fun l hl => by
  obtain rfl : l = z := by simpa using hl
  exact ⟨h0, h1, h2⟩, by simp⟩

/- left out: the seat has no spec.BackboneOf -/
end Go.Proofs.Yteabiokhbaekpaa

/- Plain facts on models, backbones and implied clauses. -/
namespace Go.Proofs.Yteabiokhbaekpaa
open Go.RowKit

theorem bone_next (n : Nat) (xss : List (List Int)) (k : Nat) : boneTo n xss (k + 1) = boneTo n xss k ++ ((if impB n xss [(k : Int) + 1] then [(k : Int) + 1] else []) ++ (if impB n xss [-((k : Int) + 1)] then [-((k : Int) + 1)] else [])) := rfl
theorem bone_mem (n : Nat) (xss : List (List Int)) : ∀ (k : Nat) (x : Int), x ∈ boneTo n xss k ↔ (x ≠ 0 ∧ x.natAbs ≤ k ∧ impB n xss [x] = true)
  | 0, x => by
    simp only [boneTo, List.not_mem_nil, false_iff]
    omega
  | k + 1, x => by
    rw [bone_next, List.mem_append, List.mem_append, bone_mem n xss k x]
    have a1 : x ∈ (if impB n xss [(k : Int) + 1] then [(k : Int) + 1] else []) ↔ x = (k : Int) + 1 ∧ impB n xss [x] = true := by
      split
      · rename_i h
        rw [List.mem_singleton]
        exact ⟨fun e => ⟨e, by rw [e]; exact h⟩, fun e => e.1⟩
      · rename_i h
        simp only [List.not_mem_nil, false_iff]
        rintro ⟨rfl, h2⟩
        exact h h2
    have a2 : x ∈ (if impB n xss [-((k : Int) + 1)] then [-((k : Int) + 1)] else []) ↔ x = -((k : Int) + 1) ∧ impB n xss [x] = true := by
      split
      · rename_i h
        rw [List.mem_singleton]
        exact ⟨fun e => ⟨e, by rw [e]; exact h⟩, fun e => e.1⟩
      · rename_i h
        simp only [List.not_mem_nil, false_iff]
        rintro ⟨rfl, h2⟩
        exact h h2
    rw [a1, a2]
    constructor
    · rintro (⟨h1, h2, h3⟩ | ⟨h1, h3⟩ | ⟨h1, h3⟩)
      · exact ⟨h1, by omega, h3⟩
      · exact ⟨by omega, by omega, h3⟩
      · exact ⟨by omega, by omega, h3⟩
    · rintro ⟨h1, h2, h3⟩
      by_cases h : x.natAbs ≤ k
      · exact .inl ⟨h1, h, h3⟩
      · by_cases hx : x = (k : Int) + 1
        · exact .inr (.inl ⟨hx, h3⟩)
        · exact .inr (.inr ⟨by omega, h3⟩)
theorem bone_contains {n : Nat} {xss : List (List Int)} {x : Int} (h0 : x ≠ 0) (h1 : x.natAbs ≤ n) : (boneTo n xss n).contains x = impB n xss [x] := by
  rw [Bool.eq_iff_iff, List.contains_iff_mem, bone_mem]
  exact ⟨fun h => h.2.2, fun h => ⟨h0, h1, h⟩⟩
theorem cl_one (x : Int) (b : Nat) : clT [x] b = litT b x := by simp [clT]
theorem lit_pos (k b : Nat) : litT b ((k : Int) + 1) = b.testBit k := by
  unfold litT
  rw [show ((k : Int) + 1).natAbs - 1 = k by omega, decide_eq_true (by omega : (0 : Int) < (k : Int) + 1)]
  simp
theorem lit_neg (k b : Nat) : litT b (-((k : Int) + 1)) = !b.testBit k := by
  unfold litT
  rw [show (-((k : Int) + 1)).natAbs - 1 = k by omega, decide_eq_false (by omega : ¬ (0 : Int) < -((k : Int) + 1))]
  cases b.testBit k <;> rfl
/-- The models in their order. -/
def mods (p : Nat → Bool) (N : Nat) : List Nat := (List.range N).filter p
theorem allN_eq (p : Nat → Bool) (N : Nat) : allN p N = (mods p N).map fun (m : Nat) => (m : Int) := rfl
theorem imp_mods (n : Nat) (xss : List (List Int)) (d : List Int) : impB n xss d = (mods (modT xss) (2 ^ n)).all (clT d) := by
  rw [Bool.eq_iff_iff]
  unfold impB mods
  rw [Bool.not_eq_true', List.any_eq_false, List.all_eq_true]
  constructor
  · intro h b hb
    have h1 := List.mem_filter.1 hb
    have h2 := h b h1.1
    rw [h1.2, Bool.and_true] at h2
    simpa using h2
  · intro h b hb
    cases hm : modT xss b
    · simp
    · rw [h b (List.mem_filter.2 ⟨hb, hm⟩)]
      simp
theorem bone_yes {n : Nat} {xss : List (List Int)} {k : Nat} (hk : k < n) : (boneTo n xss n).contains ((k : Int) + 1) = (mods (modT xss) (2 ^ n)).all fun b => b.testBit k := by
  rw [bone_contains (by omega) (by omega), imp_mods]
  congr 1
  funext b
  rw [cl_one, lit_pos]
theorem bone_no {n : Nat} {xss : List (List Int)} {k : Nat} (hk : k < n) : (boneTo n xss n).contains (-((k : Int) + 1)) = (mods (modT xss) (2 ^ n)).all fun b => !b.testBit k := by
  rw [bone_contains (by omega) (by omega), imp_mods]
  congr 1
  funext b
  rw [cl_one, lit_neg]
theorem mod_snoc (xss : List (List Int)) (d : List Int) (b : Nat) : modT (xss ++ [d]) b = (modT xss b && clT d b) := by simp [modT, List.all_append]
theorem equiv_imp (n : Nat) (xss : List (List Int)) (d : List Int) : ((List.range (2 ^ n)).all fun b => modT xss b == modT (xss ++ [d]) b) = impB n xss d := by
  rw [Bool.eq_iff_iff]
  unfold impB
  rw [Bool.not_eq_true', List.any_eq_false, List.all_eq_true]
  constructor
  · intro h b hb
    have h2 := h b hb
    rw [mod_snoc] at h2
    cases hm : modT xss b <;> cases hc : clT d b <;> simp_all
  · intro h b hb
    have h2 := h b hb
    rw [mod_snoc]
    cases hm : modT xss b <;> cases hc : clT d b <;> simp_all
theorem good_snoc {vars : Int} {xss : List (List Int)} {d : List Int} (h : goodB vars xss = true) (hc : clauseB vars d = true) (hl : xss.length < 60) : goodB vars (xss ++ [d]) = true := by
  unfold goodB at *
  simp only [Bool.and_eq_true, decide_eq_true_eq] at *
  refine ⟨⟨h.1.1, by simp; omega⟩, ?_⟩
  rw [List.all_append, h.2]
  simp [hc]
theorem all_first {p : Nat → Bool} {N : Nat} (h : (List.range N).any p = true) : ∃ m, (allN p N)[0]? = some (m : Int) ∧ idxP p (List.range N) = (m : Int) := by
  have hf : idxP p (List.range N) = ((List.range N).findIdx p : Nat) := by unfold idxP; rw [if_pos h]
  have hlt : (List.range N).findIdx p < (List.range N).length := List.findIdx_lt_length_of_exists (by simpa using List.any_eq_true.1 h)
  refine ⟨(List.range N).findIdx p, ?_, hf⟩
  have hfd : (List.range N).find? p = some ((List.range N).findIdx p) := by
    rw [List.find?_eq_some_iff_getElem]
    refine ⟨?_, _, hlt, by simp, fun j hj => ?_⟩
    · have := List.findIdx_getElem (w := hlt)
      simpa using this
    · have := List.not_of_lt_findIdx (xs := List.range N) (p := p) (i := j) hj
      simpa using this
  unfold allN
  rw [List.getElem?_map, ← List.head?_eq_getElem?, List.head?_filter, hfd]
  rfl
theorem cnt_pos {p : Nat → Bool} {N : Nat} : decide (0 < cntP p N) = (List.range N).any p := by
  rw [Bool.eq_iff_iff, decide_eq_true_eq, List.any_eq_true]
  unfold cntP
  rw [List.length_pos_iff_exists_mem]
  exact ⟨fun ⟨m, hm⟩ => ⟨m, (List.mem_filter.1 hm).1, (List.mem_filter.1 hm).2⟩, fun ⟨m, h1, h2⟩ => ⟨m, List.mem_filter.2 ⟨h1, h2⟩⟩⟩
/-- What the law's loop over the models has told of a bit. -/
theorem all_take_next {p : Nat → Bool} {ms : List Nat} {i : Nat} (hi : i < ms.length) : (ms.take (i + 1)).all p = ((ms.take i).all p && p ms[i]) := by
  rw [List.take_succ_eq_append_getElem hi, List.all_append]
  simp
end Go.Proofs.Yteabiokhbaekpaa

/- Contracts: implied clauses, in the program. -/
namespace Go.Proofs.Yteabiokhbaekpaa
open Go.RowKit

/-- Values of clauses that can be read. -/
def ClsV (w : World) (us : List Value) (xss : List (List Int)) : Prop := us.length = xss.length ∧ ∀ j (hj : j < xss.length), ∃ B c, us[j]? = some (.slice B xss[j].length c) ∧ IntsAt w B xss[j]
theorem cls_src {w : World} {A : Option Addr} {xss : List (List Int)} (h : ClsAt w A xss) : ∃ us, ClsV w us xss ∧ Src w A xss.length 1 us ∧ ∀ u ∈ us, u.oneCell' = true := by
  rcases Nat.eq_zero_or_pos xss.length with h0 | h0
  · obtain rfl : xss = [] := List.length_eq_zero_iff.1 h0
    exact ⟨[], ⟨rfl, fun j hj => absurd hj (by simp)⟩, .inl ⟨rfl, rfl⟩, by simp⟩
  · obtain ⟨b, off, -, -, rfl, -, -⟩ := h.at_ 0 h0
    have hat : ∀ j (hj : j < xss.length), ∃ B c, w.cell? ⟨b, off + j, none⟩ = some (.slice B xss[j].length c) ∧ IntsAt w B xss[j] := fun j hj => by
      obtain ⟨b', off', B, c, e, h1, h2⟩ := h.at_ j hj
      cases e
      exact ⟨B, c, h1, h2⟩
    refine ⟨(List.range xss.length).map fun j => (w.cell? ⟨b, off + j, none⟩).getD (.bool false), ⟨by simp, fun j hj => ?_⟩, .inr ⟨_, rfl, by simp, fun j u hu => ?_⟩, fun u hu => ?_⟩
    · obtain ⟨B, c, h1, h2⟩ := hat j hj
      exact ⟨B, c, by simp [List.getElem?_map, List.getElem?_range hj, h1], h2⟩
    · have hj : j < xss.length := by
        have := (List.getElem?_eq_some_iff.1 hu).1
        simpa using this
      obtain ⟨B, c, h1, h2⟩ := hat j hj
      rw [List.getElem?_map, List.getElem?_range hj] at hu
      simp only [Option.map_some, h1, Option.getD_some, Option.some.injEq] at hu
      rw [add_none, h1, hu]
    · obtain ⟨j, hj, rfl⟩ := List.mem_map.1 hu
      obtain ⟨B, c, h1, h2⟩ := hat j (List.mem_range.1 hj)
      rw [h1]; rfl
theorem ClsV.keep {w w' : World} {us : List Value} {xss : List (List Int)} (h : ClsV w us xss) (hb : Below w.heap.size w w') : ClsV w' us xss :=
  ⟨h.1, fun j hj => by
    obtain ⟨B, c, h1, h2⟩ := h.2 j hj
    exact ⟨B, c, h1, h2.grow hb⟩⟩
theorem ClsV.append {w : World} {us vs : List Value} {xss yss : List (List Int)} (h : ClsV w us xss) (k : ClsV w vs yss) : ClsV w (us ++ vs) (xss ++ yss) :=
  ⟨by simp [h.1, k.1], fun j hj => by
    by_cases hlt : j < xss.length
    · obtain ⟨B, c, h1, h2⟩ := h.2 j hlt
      rw [List.getElem_append_left hlt]
      exact ⟨B, c, by rw [List.getElem?_append_left (by rw [h.1]; exact hlt)]; exact h1, h2⟩
    · have hj2 : j - xss.length < yss.length := by rw [List.length_append] at hj; omega
      obtain ⟨B, c, h1, h2⟩ := k.2 _ hj2
      rw [List.getElem_append_right (by omega)]
      exact ⟨B, c, by rw [List.getElem?_append_right (by rw [h.1]; omega), h.1]; exact h1, h2⟩⟩
theorem ClsV.own {w : World} {B : Nat} {e : TypeId} {A : Option Addr} {c : Nat} {us : List Value} {xss : List (List Int)} (h : ClsV w us xss) (ho : w.ownsRow B e 1 (.slice A xss.length c) xss.length us) : ClsAt w A xss := ⟨fun j hj => by
  obtain ⟨g, cap, cur, e1, -, hh, -, -, -, ht⟩ := own_block ho (by omega)
  simp only [Value.slice.injEq] at e1
  obtain ⟨rfl, -, rfl⟩ := e1
  obtain ⟨B', c', h1, h2⟩ := h.2 j hj
  exact ⟨g, 0, B', c', rfl, by rw [Nat.zero_add, (own_at hh ht (o := j) (by omega)).1]; exact h1, h2⟩⟩

/- left out: the seat has no slices.Clone[[][]int,[]int] -/

abbrev oneP (r : Nat × Int) : Asn := Box r.1 3 #[.int .i64 r.2]
abbrev oneV (r : Nat × Int) : Value := .slice (some ⟨r.1, 0, none⟩) 1 1
theorem ones_cls {w0 w : World} {q : Asn} {rs : List (Nat × Int)} (h : Sp w0 w (q :: rs.map oneP)) (hI : ∀ r ∈ rs, I64 r.2) : ClsV w (rs.reverse.map oneV) (rs.reverse.map fun r => [r.2]) :=
  ⟨by simp, fun j hj => by
    have hj2 : j < rs.length := by simpa using hj
    have hk : (rs.reverse)[j]? = some (rs.reverse[j]'(by simpa using hj2)) := List.getElem?_eq_getElem _
    obtain ⟨r, hr⟩ : ∃ r, rs.reverse[j]'(by simpa using hj2) = r := ⟨_, rfl⟩
    rw [hr] at hk
    have hk2 : rs[rs.length - 1 - j]? = some r := by rw [List.getElem?_reverse hj2] at hk; exact hk
    have hb := h.box (i := rs.length - 1 - j + 1) (b := r.1) (t := 3) (cs := #[.int .i64 r.2]) (by rw [List.getElem?_cons_succ, List.getElem?_map, hk2]; rfl)
    have hmem : r ∈ rs := List.mem_of_getElem? hk2
    refine ⟨some ⟨r.1, 0, none⟩, 1, by rw [List.getElem?_map, hk]; simp, ?_⟩
    simp only [List.getElem_map, hr]
    exact ints_lone (by simp [World.cell?, hb.2.2]) (hI r hmem)⟩
theorem any_same {α : Type} {p q : α → Bool} {l : List α} (h : ∀ x ∈ l, p x = q x) : l.any p = l.any q := by
  rw [Bool.eq_iff_iff, List.any_eq_true, List.any_eq_true]
  exact ⟨fun ⟨x, h1, h2⟩ => ⟨x, h1, by rw [← h x h1]; exact h2⟩, fun ⟨x, h1, h2⟩ => ⟨x, h1, by rw [h x h1]; exact h2⟩⟩
theorem mod_negs {xss : List (List Int)} {c : List Int} {b : Nat} (hc : ∀ l ∈ c, l ≠ 0) : modT (xss ++ c.map fun l => [-l]) b = (!clT c b && modT xss b) := by
  have h2 : modT (c.map fun l => [-l]) b = !clT c b := by
    unfold modT clT
    rw [List.all_map, List.all_eq_not_any_not]
    congr 1
    refine any_same fun l hl => ?_
    · have h0 := hc l hl
      simp only [Function.comp, List.any_cons, List.any_nil, Bool.or_false]
      unfold litT
      rw [Int.natAbs_neg]
      by_cases hp : 0 < l
      · rw [decide_eq_true hp, decide_eq_false (by omega)]
        cases b.testBit (l.natAbs - 1) <;> rfl
      · rw [decide_eq_false hp, decide_eq_true (by omega)]
        cases b.testBit (l.natAbs - 1) <;> rfl
  have h3 : modT (xss ++ c.map fun l => [-l]) b = (modT xss b && modT (c.map fun l => [-l]) b) := by
    unfold modT
    rw [List.all_append]
  rw [h3, h2, Bool.and_comm]

/- left out: the seat has no impl.implies -/

/- left out: the seat has no impl.ImpliesClause -/
end Go.Proofs.Yteabiokhbaekpaa

/- A part of the memory brought to the front. No program in sight. -/
namespace Go.Proofs.Yteabiokhbaekpaa
open Go.RowKit

theorem sep_bring {w : World} : ∀ {ps : List Asn} {F : List Nat} {i : Nat} {q : Asn}, sep ps w F → ps[i]? = some q → ∃ F', sep (q :: ps.eraseIdx i) w F' ∧ ∀ b ∈ F', b ∈ F
  | [], _, _, _, _, h => by simp at h
  | p :: ps, F, 0, q, h, hi => by
    simp at hi; subst hi
    exact ⟨F, h, fun _ h => h⟩
  | p :: ps, _, i + 1, q, h, hi => by
    obtain ⟨F1, F2, rfl, hd, h1, h2⟩ := h
    obtain ⟨F', ⟨F3, F4, rfl, hd', h3, h4⟩, hs⟩ := sep_bring (i := i) h2 (by simpa using hi)
    refine ⟨F3 ++ (F1 ++ F4), ⟨F3, F1 ++ F4, rfl, fun b hb hb2 => ?_, h3, F1, F4, rfl, fun b hb hb2 => hd b hb (hs b (List.mem_append.2 (.inr hb2))), h1, h4⟩, fun b hb => ?_⟩
    · rcases List.mem_append.1 hb2 with h | h
      · exact hd b h (hs b (List.mem_append.2 (.inl hb)))
      · exact hd' b hb h
    · simp only [List.mem_append] at hb ⊢
      rcases hb with h | h | h
      · exact .inr (hs b (List.mem_append.2 (.inl h)))
      · exact .inl h
      · exact .inr (hs b (List.mem_append.2 (.inr h)))
section
variable {w0 w w' : World} {ps : List Asn} {i j : Nat} {q : Asn}
/-- A part is brought to the front. -/
theorem Sp.bring (h : Sp w0 w ps) (hi : ps[i]? = some q) : Sp w0 w (q :: ps.eraseIdx i) := by
  obtain ⟨h1, F, h2, h3⟩ := h
  obtain ⟨F', h4, h5⟩ := sep_bring h2 hi
  exact ⟨h1, F', h4, fun b hb => h3 b (h5 b hb)⟩
end
/-- Parts are picked, by their places in what is left. -/
def pickQ : List Nat → List Asn → Option (List Asn)
  | [], _ => some []
  | i :: is, ps => match ps[i]? with
    | none => none
    | some q => match pickQ is (ps.eraseIdx i) with
      | none => none
      | some qs => some (q :: qs)
theorem sep_pick {w : World} : ∀ {is : List Nat} {ps qs : List Asn} {F : List Nat}, sep ps w F → pickQ is ps = some qs → ∃ F', sep qs w F' ∧ ∀ b ∈ F', b ∈ F
  | [], _, _, _, _, hq => by
    simp only [pickQ, Option.some.injEq] at hq
    subst hq
    exact ⟨[], rfl, by simp⟩
  | i :: is, ps, qs, F, h, hq => by
    unfold pickQ at hq
    cases hi : ps[i]? with
    | none => rw [hi] at hq; cases hq
    | some q =>
      rw [hi] at hq
      simp only at hq
      cases hr : pickQ is (ps.eraseIdx i) with
      | none => rw [hr] at hq; cases hq
      | some rs =>
        rw [hr] at hq
        simp only [Option.some.injEq] at hq
        subst hq
        obtain ⟨F1, ⟨F2, F3, rfl, hd, h1, h2⟩, hs⟩ := sep_bring h hi
        obtain ⟨F4, h3, h4⟩ := sep_pick h2 hr
        exact ⟨F2 ++ F4, ⟨F2, F4, rfl, fun b hb hb4 => hd b hb (h4 b hb4), h1, h3⟩, fun b hb => by
          rcases List.mem_append.1 hb with hb | hb
          · exact hs b (List.mem_append.2 (.inl hb))
          · exact hs b (List.mem_append.2 (.inr (h4 b hb)))⟩
theorem Sp.pick {w0 w : World} {ps qs : List Asn} (is : List Nat) (h : Sp w0 w ps) (hq : pickQ is ps = some qs) : Sp w0 w qs := by
  obtain ⟨h1, F, h2, h3⟩ := h
  obtain ⟨F', h4, h5⟩ := sep_pick h2 hq
  exact ⟨h1, F', h4, fun b hb => h3 b (h5 b hb)⟩
end Go.Proofs.Yteabiokhbaekpaa

/- Contracts: chosen clauses of a Cnf, and whether they are a core. -/
namespace Go.Proofs.Yteabiokhbaekpaa
open Go.RowKit

/-- The clauses with some indices. -/
def pickC (xss : List (List Int)) (is : List Nat) : List (List Int) := is.map fun i => xss.getD i []
def ofN (is : List Nat) : List Int := is.map fun (i : Nat) => (i : Int)
/-- The clauses with some indices have no model. -/
def coreB (n : Nat) (xss : List (List Int)) (is : List Nat) : Bool := !(List.range (2 ^ n)).any (modT (pickC xss is))
theorem ofN_len (is : List Nat) : (ofN is).length = is.length := by simp [ofN]
theorem ofN_get {is : List Nat} {k : Nat} (hk : k < is.length) : (ofN is)[k]'(by rw [ofN_len]; exact hk) = (is[k] : Int) := by simp [ofN]
theorem pick_len (xss : List (List Int)) (is : List Nat) : (pickC xss is).length = is.length := by simp [pickC]
theorem pick_take {xss : List (List Int)} {is : List Nat} {k : Nat} (hk : k < is.length) : pickC xss (is.take (k + 1)) = pickC xss (is.take k) ++ [xss.getD is[k] []] := by
  unfold pickC
  rw [List.take_succ_eq_append_getElem hk, List.map_append]; rfl
theorem pick_cls {xss : List (List Int)} {is : List Nat} (hc : ∀ c ∈ xss, ClS c) (hi : ∀ i ∈ is, i < xss.length) : ∀ c ∈ pickC xss is, ClS c := by
  intro c hc'
  obtain ⟨i, hm, rfl⟩ := List.mem_map.1 hc'
  have hlt := hi i hm
  rw [List.getD_eq_getElem?_getD, List.getElem?_eq_getElem hlt]
  exact hc _ (List.getElem_mem hlt)
theorem ClsV.snoc {w : World} {us : List Value} {xss yss : List (List Int)} {i : Nat} {B : Option Addr} {c : Nat} (h : ClsV w us yss) (hi : i < xss.length) (hI : IntsAt w B xss[i]) : ClsV w (us ++ [.slice B xss[i].length c]) (yss ++ [xss.getD i []]) := by
  have hg : xss.getD i [] = xss[i] := by rw [List.getD_eq_getElem?_getD, List.getElem?_eq_getElem hi]; rfl
  rw [hg]
  exact h.append ⟨rfl, fun j hj => by
    obtain rfl : j = 0 := by simpa using hj
    exact ⟨B, c, rfl, hI⟩⟩
/-- What 'chosen' gives. -/
def PickD (w : World) (xss : List (List Int)) (is : List Nat) (e : Ending) (w' : World) : Prop :=
  ∃ E ec us, e = .returned (.slice E is.length ec) ∧ ClsV w us (pickC xss is) ∧ Sp w w' [Own 26 1 (.slice E is.length ec) is.length us]
theorem PickD.cls {w w' : World} {xss : List (List Int)} {is : List Nat} {E : Option Addr} {ec : Nat} {us : List Value} (h : ClsV w us (pickC xss is)) (S : Sp w w' [Own 26 1 (.slice E is.length ec) is.length us]) : ClsAt w' E (pickC xss is) := by
  have h2 := S.own (i := 0) rfl
  rw [← pick_len xss is] at h2
  exact (h.keep S.below).own h2

/- left out: the seat has no impl.chosen -/

end Go.Proofs.Yteabiokhbaekpaa

/- Contracts: chosen clauses in the reference; cores on both sides. -/
namespace Go.Proofs.Yteabiokhbaekpaa
open Go.RowKit

/- left out: the seat has no spec.l5Some -/

/- left out: the seat has no impl.isCore -/

/- left out: the seat has no spec.l5Core -/
end Go.Proofs.Yteabiokhbaekpaa

/- Cores without superfluous clauses: plain facts. -/
namespace Go.Proofs.Yteabiokhbaekpaa
open Go.RowKit

/-- Each index in turn is left out if the rest is still a core. -/
def coreGo (P : List Nat → Bool) : List Nat → List Nat → List Nat
  | kept, [] => kept
  | kept, i :: rest => if P (kept ++ rest) then coreGo P kept rest else coreGo P (kept ++ [i]) rest
theorem coreGo_yes {P : List Nat → Bool} {kept rest : List Nat} {i : Nat} (h : P (kept ++ rest) = true) : coreGo P kept (i :: rest) = coreGo P kept rest := by rw [coreGo, if_pos h]
theorem coreGo_no {P : List Nat → Bool} {kept rest : List Nat} {i : Nat} (h : P (kept ++ rest) = false) : coreGo P kept (i :: rest) = coreGo P (kept ++ [i]) rest := by rw [coreGo, if_neg (by rw [h]; decide)]
theorem skip_mid {kept rest : List Nat} {i : Nat} : (kept ++ i :: rest).eraseIdx kept.length = kept ++ rest := by
  rw [List.eraseIdx_append_of_length_le (Nat.le_refl _), Nat.sub_self]; rfl
/-- A list is ascending, within a range. -/
def AscN (m : Nat) (l : List Nat) : Prop := l.Pairwise (· < ·) ∧ ∀ i ∈ l, i < m
theorem AscN.sub {m : Nat} {l l' : List Nat} (h : AscN m l) (hs : l'.Sublist l) : AscN m l' := ⟨h.1.sublist hs, fun i hi => h.2 i (hs.subset hi)⟩
theorem coreGo_sub (P : List Nat → Bool) : ∀ (rest kept : List Nat), (coreGo P kept rest).Sublist (kept ++ rest)
  | [], kept => by rw [coreGo, List.append_nil]; exact List.Sublist.refl _
  | i :: rest, kept => by
    rw [coreGo]
    split
    · exact (coreGo_sub P rest kept).trans (List.Sublist.append_left (List.sublist_cons_self _ _) _)
    · have := coreGo_sub P rest (kept ++ [i])
      rwa [List.append_assoc] at this
theorem coreGo_kept (P : List Nat → Bool) : ∀ (rest kept : List Nat), ∃ t, coreGo P kept rest = kept ++ t ∧ t.Sublist rest
  | [], kept => ⟨[], by rw [coreGo, List.append_nil], List.Sublist.refl _⟩
  | i :: rest, kept => by
    rw [coreGo]
    split
    · obtain ⟨t, h1, h2⟩ := coreGo_kept P rest kept
      exact ⟨t, h1, h2.trans (List.sublist_cons_self _ _)⟩
    · obtain ⟨t, h1, h2⟩ := coreGo_kept P rest (kept ++ [i])
      exact ⟨i :: t, by rw [h1, List.append_assoc]; rfl, h2.cons_cons i⟩
/-- What is left is a core, if all was. -/
theorem coreGo_core {P : List Nat → Bool} : ∀ (rest kept : List Nat), P (kept ++ rest) = true → P (coreGo P kept rest) = true
  | [], kept, h => by rw [coreGo]; rwa [List.append_nil] at h
  | i :: rest, kept, h => by
    rw [coreGo]
    split
    · rename_i h2; exact coreGo_core rest kept h2
    · refine coreGo_core rest (kept ++ [i]) ?_
      rwa [List.append_assoc]
/-- None of what is left is superfluous. -/
theorem coreGo_min {P : List Nat → Bool} (hP : ∀ a b : List Nat, a.Sublist b → P a = true → P b = true) : ∀ (rest kept : List Nat), (∀ k, k < kept.length → ∀ t, t.Sublist rest → P (kept.eraseIdx k ++ t) = false) →
    ∀ k, k < (coreGo P kept rest).length → P ((coreGo P kept rest).eraseIdx k) = false
  | [], kept, h, k, hk => by
    rw [coreGo] at hk ⊢
    have := h k hk [] (List.Sublist.refl _)
    rwa [List.append_nil] at this
  | i :: rest, kept, h, k, hk => by
    rw [coreGo] at hk ⊢
    split
    · rename_i h2
      rw [if_pos h2] at hk
      exact coreGo_min hP rest kept (fun j hj t ht => h j hj t (ht.trans (List.sublist_cons_self _ _))) k hk
    · rename_i h2
      rw [if_neg h2] at hk
      refine coreGo_min hP rest (kept ++ [i]) (fun j hj t ht => ?_) k hk
      rw [List.length_append] at hj
      by_cases hjl : j < kept.length
      · rw [List.eraseIdx_append_of_lt_length hjl, List.append_assoc]
        exact h j hjl (i :: t) (ht.cons_cons i)
      · obtain rfl : j = kept.length := by simp at hj; omega
        rw [skip_mid (rest := []), List.append_nil]
        cases hb : P (kept ++ t)
        · rfl
        · exact absurd (hP _ _ (List.Sublist.append_left ht kept) hb) h2
theorem core_mono {n : Nat} {xss : List (List Int)} {a b : List Nat} (h : a.Sublist b) (ha : coreB n xss a = true) : coreB n xss b = true := by
  unfold coreB at *
  rw [Bool.not_eq_true', List.any_eq_false] at *
  intro m hm
  have h2 := ha m hm
  intro hb
  refine h2 ?_
  unfold modT pickC at *
  rw [List.all_eq_true] at *
  intro c hc
  obtain ⟨i, hi, rfl⟩ := List.mem_map.1 hc
  exact hb _ (List.mem_map.2 ⟨i, h.subset hi, rfl⟩)
theorem pick_range (xss : List (List Int)) : pickC xss (List.range xss.length) = xss := by
  unfold pickC
  apply List.ext_getElem
  · simp
  · intro i h1 h2
    simp [List.getD_eq_getElem?_getD, h2]
theorem core_all {n : Nat} {xss : List (List Int)} : coreB n xss (List.range xss.length) = !(List.range (2 ^ n)).any (modT xss) := by
  unfold coreB
  rw [pick_range]
theorem range_asc (m : Nat) : AscN m (List.range m) := ⟨List.pairwise_lt_range, fun _ hi => List.mem_range.1 hi⟩
end Go.Proofs.Yteabiokhbaekpaa

/- The first core of a size: plain facts. -/
namespace Go.Proofs.Yteabiokhbaekpaa
open Go.RowKit

/-- All ascending lists of so many of the numbers from one on and below m, in lexicographic order. -/
def combs (m : Nat) : Nat → Nat → List (List Nat)
  | 0, _ => [[]]
  | k + 1, a => (List.range' a (m - a)).flatMap fun v => (combs m k (v + 1)).map (v :: ·)
/-- The first list that goes on from one that has begun. -/
def chF (P : List Nat → Bool) (m : Nat) : Nat → List Nat → Nat → Option (List Nat)
  | 0, begun, _ => if P begun then some begun else none
  | k + 1, begun, a => (List.range' a (m - a)).findSome? fun i => chF P m k (begun ++ [i]) (i + 1)
theorem chF_combs (P : List Nat → Bool) (m : Nat) : ∀ (k : Nat) (begun : List Nat) (a : Nat), chF P m k begun a = ((combs m k a).map (begun ++ ·)).find? P
  | 0, begun, a => by
    simp only [chF, combs, List.map_cons, List.map_nil, List.append_nil, List.find?_cons, List.find?_nil]
    cases P begun <;> rfl
  | k + 1, begun, a => by
    unfold chF combs
    rw [List.map_flatMap, List.find?_flatMap]
    congr 1
    funext i
    rw [chF_combs P m k (begun ++ [i]) (i + 1), List.map_map]
    congr 1
    apply List.map_congr_left
    intro l _
    simp
theorem chF_zero (P : List Nat → Bool) (m a : Nat) (begun : List Nat) : chF P m 0 begun a = if P begun then some begun else none := rfl
/-- What the loop has found before i. -/
def chTo (P : List Nat → Bool) (m k : Nat) (begun : List Nat) (a i : Nat) : Option (List Nat) := (List.range' a (i - a)).findSome? fun j => chF P m k (begun ++ [j]) (j + 1)
theorem chTo_next {P : List Nat → Bool} {m k : Nat} {begun : List Nat} {a i : Nat} (hi : a ≤ i) (h : chTo P m k begun a i = none) (h2 : chF P m k (begun ++ [i]) (i + 1) = none) : chTo P m k begun a (i + 1) = none := by
  unfold chTo at *
  rw [show i + 1 - a = (i - a) + 1 by omega, List.range'_concat, List.findSome?_append, h]
  simp only [Nat.one_mul, Option.none_or]
  rw [show a + (i - a) = i by omega]
  simp [h2]
theorem chTo_found {P : List Nat → Bool} {m k : Nat} {begun : List Nat} {a i : Nat} {r : List Nat} (hi : a ≤ i) (him : i < m) (h : chTo P m k begun a i = none) (h2 : chF P m k (begun ++ [i]) (i + 1) = some r) : chF P m (k + 1) begun a = some r := by
  unfold chTo at h
  rw [chF]
  have he : List.range' a (m - a) = List.range' a (i - a) ++ i :: List.range' (i + 1) (m - (i + 1)) := by
    rw [show i :: List.range' (i + 1) (m - (i + 1)) = List.range' i (m - i) by rw [show m - i = (m - (i + 1)) + 1 by omega, List.range'_succ]]
    have := List.range'_append (s := a) (m := i - a) (n := m - i) (step := 1)
    rw [Nat.one_mul, show a + (i - a) = i by omega, show i - a + (m - i) = m - a by omega] at this
    exact this.symm
  rw [he, List.findSome?_append, h, List.findSome?_cons, h2]
  rfl
theorem chTo_all {P : List Nat → Bool} {m k : Nat} {begun : List Nat} {a : Nat} (h : chTo P m k begun a m = none) : chF P m (k + 1) begun a = none := h
/-- Every list that is found goes on from what has begun, is ascending, and has its length. -/
theorem combs_asc {m : Nat} : ∀ (k a : Nat), ∀ l ∈ combs m k a, l.Pairwise (· < ·) ∧ (∀ i ∈ l, a ≤ i ∧ i < m) ∧ l.length = k
  | 0, a, l, h => by
    obtain rfl : l = [] := by simpa [combs] using h
    simp
  | k + 1, a, l, h => by
    unfold combs at h
    obtain ⟨v, hv, hl⟩ := List.mem_flatMap.1 h
    obtain ⟨t, ht, rfl⟩ := List.mem_map.1 hl
    have h1 := combs_asc k (v + 1) t ht
    have h2 := List.mem_range'_1.1 hv
    refine ⟨List.pairwise_cons.2 ⟨fun x hx => by have := (h1.2.1 x hx).1; omega, h1.1⟩, fun i hi => ?_, by simp [h1.2.2]⟩
    rcases List.mem_cons.1 hi with rfl | hi
    · omega
    · have := h1.2.1 i hi; omega
/-- Each ascending list is among them. -/
theorem asc_combs {m : Nat} : ∀ (l : List Nat) (a : Nat), l.Pairwise (· < ·) → (∀ i ∈ l, a ≤ i ∧ i < m) → l ∈ combs m l.length a
  | [], a, _, _ => by simp [combs]
  | v :: l, a, hp, hb => by
    rw [List.pairwise_cons] at hp
    have hv := hb v (by simp)
    unfold combs
    refine List.mem_flatMap.2 ⟨v, List.mem_range'_1.2 ⟨hv.1, by omega⟩, List.mem_map.2 ⟨l, asc_combs l (v + 1) hp.2 (fun i hi => ⟨hp.1 i hi, (hb i (List.mem_cons_of_mem _ hi)).2⟩), rfl⟩⟩
/-- The first core by size, then in order. -/
def leastTo (P : List Nat → Bool) (m : Nat) (N : Nat) : Option (List Nat) := (List.range N).findSome? fun k => chF P m k [] 0
theorem leastTo_next {P : List Nat → Bool} {m k : Nat} (h : leastTo P m k = none) (h2 : chF P m k [] 0 = none) : leastTo P m (k + 1) = none := by
  unfold leastTo at *
  rw [List.range_succ, List.findSome?_append, h]
  simp [h2]
theorem leastTo_found {P : List Nat → Bool} {m k N : Nat} {r : List Nat} (hk : k < N) (h : leastTo P m k = none) (h2 : chF P m k [] 0 = some r) : leastTo P m N = some r := by
  unfold leastTo at *
  obtain ⟨d, rfl⟩ : ∃ d, N = k + 1 + d := ⟨N - (k + 1), by omega⟩
  have he : ∃ t, List.range (k + 1 + d) = List.range (k + 1) ++ t := by
    rw [List.range_eq_range', List.range_eq_range']
    exact ⟨_, (by simpa using (List.range'_append (s := 0) (m := k + 1) (n := d) (step := 1)).symm)⟩
  obtain ⟨t, ht⟩ := he
  rw [ht, List.range_succ, List.findSome?_append, List.findSome?_append, h]
  simp [h2]
end Go.Proofs.Yteabiokhbaekpaa

/- Contract: slices.DeleteFunc at an own row of numbers, with a function that may make memory. -/
namespace Go.Proofs.Yteabiokhbaekpaa
open Go.RowKit

theorem set_get {α : Type} {l : List α} {i : Nat} {q : α} (h : l[i]? = some q) : l.set i q = l := by
  apply List.ext_getElem?
  intro j
  rw [List.getElem?_set]
  split
  · rename_i e
    subst e
    have := (List.getElem?_eq_some_iff.1 h).1
    rw [if_pos this, h]
  · rfl
theorem set_at {α : Type} {l : List α} {i : Nat} {q : α} (h : l[i]? = some q) (p : α) : (l.set i p)[i]? = some p := by
  have := (List.getElem?_eq_some_iff.1 h).1
  rw [List.getElem?_set_self this]
theorem Sp.own_puts {w0 : World} {g cap n size : Nat} {e : TypeId} {i : Nat} : ∀ (us : List Value) (o : Nat) (w : World) (ps : List Asn) (xs : List Value), Sp w0 w ps → ps[i]? = some (Own e size (.slice (some ⟨g, 0, none⟩) n cap) n xs) → o + us.length ≤ n * size →
    ∃ xs', Sp w0 (w.setCells g o us) (ps.set i (Own e size (.slice (some ⟨g, 0, none⟩) n cap) n xs')) ∧ xs'.take o = xs.take o ∧ Chg [g] w (w.setCells g o us)
  | [], o, w, ps, xs, h, hi, _ => ⟨xs, by rw [set_get hi]; exact h, rfl, Chg.refl _ _⟩
  | u :: us, o, w, ps, xs, h, hi, hl => by
    have h1 := h.own_put hi u (o := o) (by simp at hl; omega)
    obtain ⟨xs', h2, h3, h4⟩ := Sp.own_puts us (o + 1) _ _ _ h1 (set_at hi _) (by simp at hl; omega)
    refine ⟨xs', by rw [World.setCells]; rwa [List.set_set] at h2, ?_, by rw [World.setCells]; exact ((Chg.refl [g] w).set (p := ⟨g, o, none⟩) (by simp) u).trans h4⟩
    have := congrArg (List.take o) h3
    rw [List.take_take, List.take_take, Nat.min_eq_left (by omega)] at this
    rw [this, List.take_set_of_le (Nat.le_refl _)]
theorem Sp.own_cut {w0 w : World} {g cap n m : Nat} {e : TypeId} {i : Nat} {ps : List Asn} {xs : List Value} (h : Sp w0 w ps) (hi : ps[i]? = some (Own e 1 (.slice (some ⟨g, 0, none⟩) n cap) n xs)) (hm : m ≤ n) : Sp w0 w (ps.set i (Own e 1 (.slice (some ⟨g, 0, none⟩) m cap) m (xs.take m))) := by
  obtain ⟨F, ⟨rfl, hl, hh⟩, hF, hall⟩ := h.upd hi
  refine hall _ _ [g] (Chg.refl _ _) ⟨rfl, by rw [List.length_take, hl]; omega, .inr ?_⟩ (fun b hb => .inl hb)
  rcases hh with ⟨h1, _⟩ | ⟨g', cap', cur, e1, h0, hg, hn, hmx, hc, ht⟩
  · cases h1
  · simp only [Value.slice.injEq, Option.some.injEq, Addr.mk.injEq] at e1
    obtain ⟨⟨rfl, _⟩, _, rfl⟩ := e1
    refine ⟨g, cap, cur, rfl, Nat.zero_le _, hg, by omega, hmx, hc, ?_⟩
    rw [← ht, List.take_take, Nat.mul_one, Nat.mul_one, Nat.min_eq_left hm]
/-- The state of DeleteFunc's loop: i kept elements stand ahead, from j on nothing has turned. -/
def DelInv (p : Int → Bool) (xs : List Int) (i j : Nat) (ys : List Value) : Prop :=
  i < j ∧ ys.length = xs.length ∧ ys.take i = ((xs.take j).filter fun x => !p x).map (.int .i64) ∧ i = ((xs.take j).filter fun x => !p x).length ∧ ∀ k, j ≤ k → ys[k]? = (xs.map (Value.int .i64))[k]?
theorem DelInv.start {p : Int → Bool} {xs : List Int} {k : Nat} (hk : k < xs.length) (h1 : p xs[k] = true) (h0 : (xs.take k).any p = false) : DelInv p xs k (k + 1) (xs.map (.int .i64)) := by
  have hf : ((xs.take (k + 1)).filter fun x => !p x) = xs.take k := by
    rw [List.take_succ_eq_append_getElem hk, List.filter_append, List.filter_eq_self.2]
    · simp [h1]
    · intro x hx
      have := List.any_eq_false.1 h0 x hx
      simpa using this
  exact ⟨by omega, by simp, by rw [hf, List.map_take], by rw [hf, List.length_take]; omega, fun _ _ => rfl⟩
theorem DelInv.keep {p : Int → Bool} {xs : List Int} {i j : Nat} {ys : List Value} (h : DelInv p xs i j ys) (hj : j < xs.length) (h1 : p xs[j] = false) : DelInv p xs (i + 1) (j + 1) (ys.set i (.int .i64 xs[j])) := by
  obtain ⟨a1, a2, a3, a4, a5⟩ := h
  have hf : ((xs.take (j + 1)).filter fun x => !p x) = ((xs.take j).filter fun x => !p x) ++ [xs[j]] := by
    rw [List.take_succ_eq_append_getElem hj, List.filter_append]
    simp [h1]
  refine ⟨by omega, by simp [a2], ?_, by rw [hf]; simp [← a4], fun k hk => ?_⟩
  · rw [hf, List.map_append, ← a3, List.take_succ_eq_append_getElem (by simp; omega), List.take_set_of_le (Nat.le_refl _)]
    simp
  · rw [List.getElem?_set_ne (by omega)]
    exact a5 k (by omega)
theorem DelInv.skip {p : Int → Bool} {xs : List Int} {i j : Nat} {ys : List Value} (h : DelInv p xs i j ys) (hj : j < xs.length) (h1 : p xs[j] = true) : DelInv p xs i (j + 1) ys := by
  obtain ⟨a1, a2, a3, a4, a5⟩ := h
  have hf : ((xs.take (j + 1)).filter fun x => !p x) = ((xs.take j).filter fun x => !p x) := by
    rw [List.take_succ_eq_append_getElem hj, List.filter_append]
    simp [h1]
  exact ⟨by omega, a2, by rw [hf]; exact a3, by rw [hf]; exact a4, fun k hk => a5 k (by omega)⟩

/- left out: the seat has no slices.DeleteFunc[[]int,int] -/
end Go.Proofs.Yteabiokhbaekpaa

/- Contracts: lists of indices in the program: all of them, one left out, the place of one. -/
namespace Go.Proofs.Yteabiokhbaekpaa
open Go.RowKit Go.Shelf

/- left out: the seat has no slices.Delete[[]int,int] -/

/- left out: the seat has no slices.Delete[[]int,int] -/

theorem putCells_take {α : Type} [Inhabited α] (enc : α → Value) (d : Array α) (c : Array Value) {m : Nat} (hm : m ≤ d.size) (hd : d.size ≤ c.size) : (Sort.putCells enc 0 d c).toList.take m = (d.toList.map enc).take m := by
  unfold Sort.putCells
  apply List.ext_getElem
  · simp; omega
  · intro i h1 h2
    have hi : i < m := by simp at h1; omega
    have hid : i < d.size := by omega
    simp [hid]
/-- A row that is laid anew and cut. -/
theorem Sp.own_putRow {α : Type} [Inhabited α] {w0 w : World} {g cap n m q i : Nat} {e : TypeId} {ps : List Asn} {xs : List Value} (enc : α → Value) (d : Array α) (h : Sp w0 w ps) (hi : ps[i]? = some (Own e 1 (.slice (some ⟨g, 0, none⟩) n cap) n xs)) (hd : d.size ≤ n) (hm : m ≤ d.size) (hn : 0 < n) :
    Sp w0 (Sort.putRow enc (Sort.ahead w q) g 0 d) (ps.set i (Own e 1 (.slice (some ⟨g, 0, none⟩) m cap) m ((d.toList.map enc).take m))) := by
  obtain ⟨F, ⟨rfl, hh⟩, hF, hall⟩ := h.upd hi
  obtain ⟨g', cap', cur, e1, h0, hg, hnc, hmx, hc, ht⟩ := own_block hh hn
  simp only [Value.slice.injEq, Option.some.injEq, Addr.mk.injEq] at e1
  obtain ⟨⟨rfl, _⟩, _, rfl⟩ := e1
  refine hall _ _ [g] ⟨rfl, rfl, rfl, by simp [Sort.putRow, Sort.mapBlock, Sort.ahead], fun k _ hk => ?_⟩ ⟨rfl, ?_, .inr ⟨g, cap, Sort.putCells enc 0 d cur, rfl, Nat.zero_le _, ?_, by omega, hmx, ?_, ?_⟩⟩ (fun b hb => .inl hb)
  · have hne : g ≠ k := fun e => hk (by simp [Value.ownBlock, e])
    simp only [Sort.putRow, Sort.mapBlock, Sort.ahead, Array.getElem?_modify]
    rw [if_neg hne]
  · rw [List.length_take, List.length_map, Array.length_toList]; omega
  · simp only [Sort.putRow, Sort.mapBlock, Sort.ahead, Array.getElem?_modify, if_true, hg, Option.map_some, Sort.onCells]
  · unfold Sort.putCells; simp [hc]
  · rw [Nat.mul_one]
    exact putCells_take enc d cur hm (by omega)

set_option maxRecDepth 100000 in
set_option maxHeartbeats 4000000 in
theorem cloneI_any (A : Option Addr) (n cap : Nat) (xs : List Int) (w : World) (hx : IntsAt w A xs) (hn : xs.length = n) (hl : n ≤ 1000000) (h0 : 0 < n) :
    Calls Try.prog 38 #[.slice A n cap] w fun e w' => ∃ g c, e = .returned (.slice (some ⟨g, 0, none⟩) n c) ∧ Sp w w' [Own 3 1 (.slice (some ⟨g, 0, none⟩) n c) n (xs.map (.int .i64))] := by
  obtain ⟨i0, hi, hz0, hz1, hz2⟩ := info_parts infoInt
  obtain ⟨b, off, rfl, -⟩ := hx.at_ 0 (by omega)
  have hs : Src w (some ⟨b, off, none⟩) n 1 (xs.map (.int .i64)) := .inr ⟨_, rfl, by simp [hn], fun j u hu => by
    rw [List.getElem?_map] at hu
    have hj : j < xs.length := by
      rcases Nat.lt_or_ge j xs.length with h | h
      · exact h
      · rw [List.getElem?_eq_none h] at hu; cases hu
    rw [List.getElem?_eq_getElem hj] at hu
    simp only [Option.map_some, Option.some.injEq] at hu
    rw [add_none, hx.get hj, hu]⟩
  have hnil := fun w : World => Lib.run_eql_slice_nil (P := Try.prog) w 26 3 (some ⟨b, off, none⟩) n cap 0 0 Try.underlying26
  have S0 := Lib.hid ((Sp.start w).own_made 3 1)
  have hs2 := Lib.hid (hs.grow (bal (bb w) (.cells #[] 3)))
  have h1H : Hid (∀ u ∈ xs.map (Value.int .i64), u.oneCell' = true) := fun u hu => by
    obtain ⟨x, -, rfl⟩ := List.mem_map.1 hu
    rfl
  simp only [Option.isNone_some] at hnil
  clear hx hs hn
  go_enter Try.func38, Try.ntmps38
  go_wp2_with (at_builtin; refine wpList_append_src rfl _ _ rfl Try.underlying26 hi hz0 hz1 hz2 rfl (by decide) _ _ _ rfl (S0.out.own (i := 0) rfl) _ n cap _ rfl hs2.out h1H.out ?c3 ?c4 ?_)
  case c3 => unfold maxLen; omega
  case c4 => omega
  intro v' w' hown hg hat
  have S1 := S0.out.own_push (i := 0) rfl (bb _) hown hg (by simpa using hat)
  obtain ⟨g, c, cur, rfl, -⟩ := own_block hown (by omega)
  replace S1 := Lib.hid S1
  clear hown hg hat S0 hs2 hnil
  go_wp2_with fail
  go_ret
  exact ⟨g, c, rfl, S1.out⟩

/- left out: the seat has no impl.without[int] -/

set_option maxRecDepth 100000 in
set_option maxHeartbeats 4000000 in
theorem indexI_any (A : Option Addr) (n cap p : Nat) (xs : List Int) (x : Int) (w : World) (hx : IntsAt w A xs) (hn : xs.length = n) (hl : n ≤ 1000000) (hp : xs[p]? = some x) (hno : ∀ j, j < p → xs[j]? ≠ some x) :
    Calls Try.prog 60 #[.slice A n cap, .int .i64 x] w fun e w' => e = .returned (.int .i64 p) ∧ w' = w := by
  have hpl : p < n := by rw [← hn]; exact (List.getElem?_eq_some_iff.1 hp).1
  have hI := Lib.hid hx
  have hnH := Lib.hid hn
  have hpH := Lib.hid hp
  have hnoH := Lib.hid hno
  clear hx hn hp hno
  go_enter Try.func60, Try.ntmps60
  go_wp2_with fail
  go_loopw [5, 8] (fun _ vi wr => ∃ k : Nat, k ≤ p ∧ vi = .int .i64 k ∧ wr = w) (fun _ vi _ => n - (intOf vi).toNat)
  case atStart => exact ⟨0, Nat.zero_le _, rfl, rfl⟩
  case round =>
    obtain ⟨k, hk, rfl, rfl⟩ := hrel
    have hkn : k < n := by omega
    have hkx : k < xs.length := by rw [hnH.out]; exact hkn
    obtain ⟨b, off, rfl, m0⟩ := hI.out.at_ k hkx
    by_cases hkp : k = p
    · subst hkp
      have hv : xs[k] = x := by have := hpH.out; rw [List.getElem?_eq_getElem hkx] at this; simpa using this
      rw [hv] at m0
      have d1 : (x == x) = true := by simp
      clear hv
      go_wp2_with fail
      go_ret
      exact ⟨rfl, rfl⟩
    · have hv : xs[k] ≠ x := fun e => hnoH.out k (by omega) (by rw [List.getElem?_eq_getElem hkx, e])
      generalize xs[k] = y at *
      have d1 : (x == y) = false := by simpa using fun e => hv e.symm
      have d2 : decide (x = y) = false := decide_eq_false fun e => hv e.symm
      clear hv
      go_wp2_with fail
      go_roundw
      case rel => exact ⟨k + 1, by omega, by go_num, by first | rfl | trivial⟩
      case measure => simp [intOf]; omega
end Go.Proofs.Yteabiokhbaekpaa

/- Contract: numbers from one on; plain facts on lists of indices. -/
namespace Go.Proofs.Yteabiokhbaekpaa
open Go.RowKit

/- left out: the seat has no impl.upTo -/

/-- The first k numbers made less by one. -/
def decL (n k : Nat) : List Value := (List.range n).map fun (j : Nat) => .int .i64 (if j < k then (j : Int) else (j : Int) + 1)
theorem decL_zero (n : Nat) : decL n 0 = (List.range n).map fun (j : Nat) => .int .i64 ((j : Int) + 1) := by simp [decL]
theorem decL_all (n : Nat) : decL n n = (ofN (List.range n)).map (.int .i64) := by
  unfold decL ofN
  rw [List.map_map]
  apply List.map_congr_left
  intro j hj
  have := List.mem_range.1 hj
  simp [this]
theorem decL_len (n k : Nat) : (decL n k).length = n := by simp [decL]
theorem decL_at {n k : Nat} (h : k < n) : (decL n k)[k]? = some (.int .i64 ((k : Int) + 1)) := by simp [decL, h]
theorem decL_set {n k : Nat} (h : k < n) : (decL n k).set k (.int .i64 (k : Int)) = decL n (k + 1) := by
  apply List.ext_getElem?
  intro j
  rw [List.getElem?_set]
  by_cases hj : k = j
  · subst hj
    simp [decL, h]
  · rw [if_neg hj]
    by_cases hjn : j < n
    · simp only [decL, List.getElem?_map, List.getElem?_range hjn, Option.map_some]
      by_cases hjk : j < k
      · rw [if_pos hjk, if_pos (by omega)]
      · rw [if_neg hjk, if_neg (by omega)]
    · rw [List.getElem?_eq_none (by rw [decL_len]; omega), List.getElem?_eq_none (by rw [decL_len]; omega)]
/-- What is told of a core. -/
def coreOk (n : Nat) (vars : Int) (xss : List (List Int)) : Bool := goodB vars xss && !(List.range (2 ^ n)).any (modT xss)
def coreL (n : Nat) (xss : List (List Int)) : List Nat := coreGo (coreB n xss) [] (List.range xss.length)
theorem ofN_ok {m : Nat} (hm : m ≤ 1000000) {l : List Nat} (h : AscN m l) : ∀ x ∈ ofN l, I64 x := by
  intro x hx
  obtain ⟨i, hi, rfl⟩ := List.mem_map.1 hx
  have := h.2 i hi
  unfold I64; omega
theorem mid_at {kept rest : List Nat} {i : Nat} : (ofN (kept ++ i :: rest))[kept.length]? = some (i : Int) := by
  unfold ofN
  rw [List.getElem?_map, List.getElem?_append_right (Nat.le_refl _), Nat.sub_self]; rfl
theorem mid_no {m : Nat} {kept rest : List Nat} {i : Nat} (h : AscN m (kept ++ i :: rest)) : ∀ j, j < kept.length → (ofN (kept ++ i :: rest))[j]? ≠ some (i : Int) := by
  intro j hj e
  have hlt : kept[j] < i := (List.pairwise_append.1 h.1).2.2 _ (List.getElem_mem hj) i (by simp)
  unfold ofN at e
  rw [List.getElem?_map, List.getElem?_append_left hj, List.getElem?_eq_getElem hj] at e
  simp only [Option.map_some, Option.some.injEq, Int.natCast_inj] at e
  omega
theorem ofN_erase {kept rest : List Nat} {i : Nat} : (ofN (kept ++ i :: rest)).eraseIdx kept.length = ofN (kept ++ rest) := by
  unfold ofN
  rw [List.map_append, List.map_cons, List.map_append]
  have h : ((kept.map fun (i : Nat) => (i : Int)) ++ (i : Int) :: rest.map fun (i : Nat) => (i : Int)).eraseIdx (kept.map fun (i : Nat) => (i : Int)).length = (kept.map fun (i : Nat) => (i : Int)) ++ rest.map fun (i : Nat) => (i : Int) := by
    rw [List.eraseIdx_append_of_length_le (Nat.le_refl _), Nat.sub_self]; rfl
  rwa [List.length_map] at h
theorem range_front {n i : Nat} (h : i < n) : List.range' i (n - i) = i :: List.range' (i + 1) (n - (i + 1)) := by
  rw [show n - i = (n - (i + 1)) + 1 by omega, List.range'_succ]
theorem asc_len_from {m : Nat} : ∀ (l : List Nat) (a : Nat), l.Pairwise (· < ·) → (∀ x ∈ l, a ≤ x ∧ x < m) → a ≤ m → l.length + a ≤ m
  | [], a, _, _, h => by simpa using h
  | x :: l, a, hp, hx, _ => by
    rw [List.pairwise_cons] at hp
    have h0 := hx x (by simp)
    have := asc_len_from l (x + 1) hp.2 (fun y hy => ⟨hp.1 y hy, (hx y (List.mem_cons_of_mem _ hy)).2⟩) h0.2
    rw [List.length_cons]; omega
theorem asc_len {m : Nat} {l : List Nat} (h : AscN m l) : l.length ≤ m := by
  have := asc_len_from l 0 h.1 (fun x hx => ⟨Nat.zero_le _, h.2 x hx⟩) (Nat.zero_le _)
  omega
/-- A row of numbers with room, and whether it is told. -/
def IAnsC (w : World) (ok : Bool) (zs : List Int) (e : Ending) (w' : World) : Prop :=
  ∃ B cap, e = .returned (.tuple #[.slice B zs.length cap, .bool ok]) ∧ IntsAt w' B zs ∧ zs.length ≤ cap ∧ Below w.heap.size w w'
end Go.Proofs.Yteabiokhbaekpaa

/- Contracts: counted models and the first one, in the program. -/
namespace Go.Proofs.Yteabiokhbaekpaa
open Go.RowKit

/- left out: the seat has no impl.CountCnfModels -/

/- left out: the seat has no impl.CountCnfModels -/

theorem idxP_next {p : Nat → Bool} {k : Nat} (h : p k = false) : idxP p (List.range (k + 1)) = idxP p (List.range k) := by
  unfold idxP
  rw [rany_next, h, Bool.or_false]
  cases ha : (List.range k).any p
  · rfl
  · rw [if_pos rfl, if_pos rfl, List.range_succ, List.findIdx_append, if_pos (List.findIdx_lt_length_of_exists (by simpa using List.any_eq_true.1 ha))]

/- left out: the seat has no impl.FirstModel -/
end Go.Proofs.Yteabiokhbaekpaa

/- Contract: a loop over all models with a closure that may turn blocks that it made. -/
namespace Go.Proofs.Yteabiokhbaekpaa
open Go.RowKit

set_option maxRecDepth 100000 in
set_option maxHeartbeats 4000000 in
theorem models2_any {g : FuncId} {cb : Array Value} (eg : Enter1 g) (n : Nat) (hn : n ≤ 12) (xss : List (List Int)) (hc : ∀ c ∈ xss, ClS c) (hl : xss.length ≤ 1000000) (A : Option Addr) (cap : Nat) (w : World)
    (P : Nat → World → Prop) (h0 : P 0 w) (hgrow : ∀ k w w', P k w → Below w.heap.size w w' → P k w') (hcls : ∀ k w, P k w → ClsAt w A xss)
    (hnot : ∀ k w, modT xss k = false → P k w → P (k + 1) w)
    (hstep : ∀ k W, w.heap.size < W.heap.size → k < 2 ^ n → modT xss k = true → P k W → Calls Try.prog g (#[.int .i64 k] ++ cb) W fun e w' => ∃ (q : Bool) (F : List Nat), e = .returned (.bool q) ∧ w.heap.size ∉ F ∧ Chg F W w' ∧ (if q then P (k + 1) w' else P (2 ^ n) w')) :
    Calls Try.prog 47 #[.agg #[.int .i64 n, .slice A xss.length cap], .func (.func g) #[] cb] w fun e w' => e = .returned (.tuple #[]) ∧ P (2 ^ n) w' := by
  unfold Enter1 at eg
  obtain ⟨hsh, hp⟩ := pow12 hn
  generalize 2 ^ n = N at *
  have c0 : (w.alloc (.cells #[.int .i64 n, .slice A xss.length cap] 31)).cell? ⟨w.heap.size, 0, none⟩ = some (.int .i64 n) := cell_of_row _ _ _ _ _ _ (heap_alloc_new w _)
  have c1 : (w.alloc (.cells #[.int .i64 n, .slice A xss.length cap] 31)).cell? ⟨w.heap.size, 1, none⟩ = some (.slice A xss.length cap) := cell_of_row _ _ _ _ _ _ (heap_alloc_new w _)
  have HP0 := Lib.hid (hgrow 0 w _ h0 (bal (bb w) (.cells #[.int .i64 n, .slice A xss.length cap] 31)))
  replace hgrow := Lib.hid hgrow
  replace hcls := Lib.hid hcls
  replace hnot := Lib.hid hnot
  replace hstep := Lib.hid hstep
  have hcc := Lib.hid hc
  clear h0 hc
  go_enter Try.func47, Try.ntmps47
  go_wp2_with fail
  rw [hsh]
  go_loopw [4, 8] (fun _ i wr => ∃ k : Nat, k ≤ N ∧ i = .int .i64 k ∧ wr.cell? ⟨w.heap.size, 1, none⟩ = some (.slice A xss.length cap) ∧ Hid (P k wr)) (fun _ i _ => N - (intOf i).toNat)
  case atStart => exact ⟨0, Nat.zero_le _, rfl, c1, HP0⟩
  case round =>
    obtain ⟨k, hk, rfl, d1, HP⟩ := hrel
    clear HP0 c0 c1
    by_cases hlt : k < N
    · have hcall := Lib.hid (isModel_any xss hcc.out hl A cap k (Nat.lt_of_lt_of_le hlt (Nat.le_trans hp (by decide))) wr (hcls.out k wr HP.out))
      cases hq : modT xss k
      · rw [hq] at hcall
        go_wp2_with fail
        refine hcall.out.mono ?_
        rintro e w1 ⟨rfl, hb1⟩
        have HP2 := Lib.hid (hnot.out k w1 hq (hgrow.out k wr w1 HP.out hb1))
        have d2 := ((bcell hb1).1 _ _ (World.block_lt_of_cell? _ _ d1)).trans d1
        clear hcall hb1 HP d1
        go_wp2_with fail
        go_roundw
        case rel => exact ⟨k + 1, by omega, by go_num, d2, HP2⟩
        case measure => simp [intOf]; omega
      · rw [hq] at hcall
        go_wp2_with fail
        refine hcall.out.mono ?_
        rintro e w1 ⟨rfl, hb1⟩
        have d2 := ((bcell hb1).1 _ _ (World.block_lt_of_cell? _ _ d1)).trans d1
        have hst := Lib.hid (hstep.out k w1 (World.block_lt_of_cell? _ _ d2) hlt hq (hgrow.out k wr w1 HP.out hb1))
        clear hcall hb1 HP d1
        go_wp2_with fail
        refine hst.out.mono ?_
        rintro e w2 ⟨q, F, rfl, hFF, hch, hP2⟩
        have d3 := (World.cell?_of_block (a := ⟨w.heap.size, 1, none⟩) (hch.block _ (World.block_lt_of_cell? _ _ d2) hFF)).trans d2
        cases q
        · replace hP2 := Lib.hid hP2
          clear hst hch hFF d2
          go_wp2_with fail
          have hP3 : P N w2 := hP2.out
          exact bodyPost_ret (v := .tuple #[]) (by simp [results, Try.results47, go_sem]) rfl ⟨rfl, hP3⟩
        · have HP2 : Hid (P (k + 1) w2) := hP2
          clear hst hch hFF d2 hP2
          go_wp2_with fail
          go_roundw
          case rel => exact ⟨k + 1, by omega, by go_num, d3, HP2⟩
          case measure => simp [intOf]; omega
    · obtain rfl : k = N := by omega
      go_wp2_with fail
      exact bodyPost_end (v := .tuple #[]) (by simp [results, Try.results47, go_sem]) rfl ⟨rfl, HP.out⟩
end Go.Proofs.Yteabiokhbaekpaa

/- Contract: the closure that lists models, in the program. -/
namespace Go.Proofs.Yteabiokhbaekpaa
open Go.RowKit

/- left out: the seat has no impl.AllModels$1 -/
end Go.Proofs.Yteabiokhbaekpaa

/- Contract: all models listed, in the program. -/
namespace Go.Proofs.Yteabiokhbaekpaa
open Go.RowKit

theorem cntP_mono {p : Nat → Bool} {k : Nat} : ∀ d, cntP p k ≤ cntP p (k + d)
  | 0 => Nat.le_refl _
  | d + 1 => by
    have := cntP_mono (p := p) (k := k) d
    cases h : p (k + d)
    · rw [show k + (d + 1) = (k + d) + 1 from rfl, cntP_no h]; exact this
    · rw [show k + (d + 1) = (k + d) + 1 from rfl, cntP_yes h]; omega
/-- What is listed before k, at most 301 numbers. -/
def AllP (w : World) (p : Nat → Bool) (N o m fb : Nat) (fcs : Array Value) (k : Nat) (V : World) : Prop :=
  ∃ (ts : List Int) (B : Option Addr) (cc : Nat), (ts.length ≤ 300 → ts = allN p k) ∧ (300 < ts.length → 300 < cntP p N) ∧ (k < N → ts.length ≤ 300) ∧ (∀ g, (Value.slice B ts.length cc).ownBlock = some g → g ≠ m) ∧
    Sp w V [Own 3 1 (.slice B ts.length cc) ts.length (ts.map (.int .i64)), Box o 26 #[.slice B ts.length cc], Box fb 31 fcs]

/- left out: the seat has no impl.AllModels -/
end Go.Proofs.Yteabiokhbaekpaa

/- Contract: the core of a Cnf, in the program. -/
namespace Go.Proofs.Yteabiokhbaekpaa
open Go.RowKit

theorem own_cap' {w : World} {B : Nat} {e : TypeId} {size n c : Nat} {A : Option Addr} {xs : List Value} (h : w.ownsRow B e size (.slice A n c) n xs) : n ≤ c := by
  obtain ⟨_, ⟨h1, _⟩ | ⟨g, cap, cur, h1, _, _, hn, _⟩⟩ := h
  · cases h1; exact Nat.le_refl _
  · cases h1; exact hn

/- left out: the seat has no impl.CoreOf -/
end Go.Proofs.Yteabiokhbaekpaa

/- Contracts: lists of indices and the core of a Cnf, in the reference. -/
namespace Go.Proofs.Yteabiokhbaekpaa
open Go.RowKit

theorem ints_src {w : World} {A : Option Addr} {xs : List Int} {n : Nat} (hx : IntsAt w A xs) (hn : xs.length = n) : Src w A n 1 (xs.map (.int .i64)) := by
  rcases Nat.eq_zero_or_pos n with h0 | h0
  · exact .inl ⟨h0, by rw [List.length_eq_zero_iff.1 (hn.trans h0)]; rfl⟩
  · obtain ⟨b, off, rfl, -⟩ := hx.at_ 0 (by omega)
    refine .inr ⟨_, rfl, by simp [hn], fun j u hu => ?_⟩
    rw [List.getElem?_map] at hu
    have hj : j < xs.length := by
      rcases Nat.lt_or_ge j xs.length with h | h
      · exact h
      · rw [List.getElem?_eq_none h] at hu; cases hu
    rw [List.getElem?_eq_getElem hj] at hu
    simp only [Option.map_some, Option.some.injEq] at hu
    rw [add_none, hx.get hj, hu]
theorem ints_one_cell {xs : List Int} : ∀ u ∈ xs.map (Value.int .i64), u.oneCell' = true := fun u hu => by
  obtain ⟨x, -, rfl⟩ := List.mem_map.1 hu
  rfl

/- left out: the seat has no spec.l5Skip -/

/- left out: the seat has no spec.l5Indices -/
end Go.Proofs.Yteabiokhbaekpaa

/- Contracts: all ascending lists of a length, in the program. -/
namespace Go.Proofs.Yteabiokhbaekpaa
open Go.RowKit

theorem run_append_keep2 {P : Program} {w : World} {t ty e : TypeId} {i : TypeInfo} {z : Value} {size bytes : Nat} (ht : P.underlying t = some (.slice e)) (hi : P.info? e = some i) (hz : i.zero = some z)
    (hsize : i.size = size) (hby : i.bytes = bytes) (hzs : z.cells.size = size) (hsz : 0 < size)
    (v : Value) (n : Nat) (xs : List Value) (hown : w.ownsRow 0 e size v n xs)
    (a : Addr) (m c : Nat) (news : List Value) (hl : news.length = m * size) (hnews : ∀ j u, news[j]? = some u → w.cell? (a.add j) = some u) (h1 : ∀ u ∈ news, u.oneCell' = true)
    (h63 : n + m ≤ maxLen) (hbytes : (n + m) * bytes ≤ 140737488355328) (hm : 0 < m) :
    ∃ v' w', (Builtin.append_ #[t, t] ty #[v, .slice (some a) m c]).run P w = .ok v' w' ∧ w'.ownsRow 0 e size v' (n + m) (xs ++ news) ∧ w.grownBy w' v.ownBlock ∧
      ((∃ A cap, v = .slice A n cap ∧ v' = .slice A (n + m) cap) ∨ (v'.ownBlock = some w.heap.size ∧ Below w.heap.size w w')) := by
  obtain ⟨v', w', hr, h2, h3, _, h5⟩ := run_append_own_at (P := P) w 0 t ty e i z size bytes ht hi hz hsize hby hzs hsz v n xs hown a m c news hl hnews h1 h63 hbytes (Nat.zero_le _)
  refine ⟨v', w', hr, h2, h3, ?_⟩
  subst hsize
  subst hby
  have hsmall : n + m ≤ 9223372036854775807 := by unfold maxLen at h63; omega
  rcases id hown with ⟨hlen, ⟨rfl, rfl⟩ | ⟨g, cap, cur, rfl, hbg, hg, hnc, hcm, hcs, htake⟩⟩
  · refine .inr ⟨?_, ⟨h3.os, h3.tape, h3.output, h3.size, fun k hk => h3.block k hk (by simp [Value.ownBlock])⟩⟩
    rcases h5 with h5 | h5
    · obtain ⟨_, ⟨rfl, h0⟩ | ⟨g, cap, cur, rfl, _⟩⟩ := h2
      · omega
      · simp [Value.ownBlock] at h5
    · exact h5
  · by_cases hroom : n + m ≤ cap
    · have hfit : n * i.size + news.length ≤ cur.size := by rw [hl, hcs, ← Nat.add_mul]; exact Nat.mul_le_mul_right _ hroom
      have hr2 := run_append_room (P := P) w t ty e i ht hi g n cap cur hg a m c news hl hnews h1 hroom hfit
      rw [hr] at hr2
      injection hr2 with e1 e2
      subst e1
      exact .inl ⟨_, cap, rfl, rfl⟩
    · have holds : ∀ j u, xs[j]? = some u → w.cell? ((⟨g, 0, none⟩ : Addr).add j) = some u := hown.cells (g := g) rfl
      have hr2 := run_append_grow (P := P) w t ty e i z ht hi hz ⟨g, 0, none⟩ n cap xs hlen holds a m c news hl hnews (by omega) (by omega) (growslice_fits (by omega) hbytes)
      rw [hr] at hr2
      injection hr2 with e1 e2
      subst e2
      refine .inr ⟨?_, bal (bdr (bb w)) _⟩
      rcases h5 with h5 | h5
      · subst e1
        exact absurd h5 (by
          simp only [Value.ownBlock]
          intro h
          have hlt := owns_lt hown (g := g) rfl
          simp at h
          omega)
      · exact h5
theorem step_append_keep {P : Program} {w : World} {t e : TypeId} {i : TypeInfo} {z : Value} {size bytes : Nat} {ops : Array Oper} {o : Oper} {a : Act} {K : Act → World → Prop} {Q : Exit → Act → World → Prop} {E : Prop} (hgd : o.guard = none) (s x : Operand)
    (ho : o.op = .call { callee := .builtin .append, args := #[s, x], argTypes := #[t, t] })
    (ht : P.underlying t = some (.slice e)) (hi : P.info? e = some i) (hz : i.zero = some z) (hsize : i.size = size) (hby : i.bytes = bytes) (hzs : z.cells.size = size) (hsz : 0 < size)
    (v : Value) (n : Nat) (xs : List Value) (hs : a.eval s = v) (hown : w.ownsRow 0 e size v n xs) (ad : Addr) (m c : Nat) (news : List Value) (hx : a.eval x = .slice (some ad) m c) (hl : news.length = m * size) (hnews : ∀ j u, news[j]? = some u → w.cell? (ad.add j) = some u) (h1 : ∀ u ∈ news, u.oneCell' = true)
    (h63 : n + m ≤ maxLen) (hbytes : (n + m) * bytes ≤ 140737488355328) (hm : 0 < m)
    (h : ∀ v' w', w'.ownsRow 0 e size v' (n + m) (xs ++ news) → w.grownBy w' v.ownBlock → ((∃ A cap, v = .slice A n cap ∧ v' = .slice A (n + m) cap) ∨ (v'.ownBlock = some w.heap.size ∧ Below w.heap.size w w')) → K (a.put o.dst v') w') :
    if Region.wanted o (yielded ops a.tmps) = true then Oper.wp P o a w K Q else E := by
  have hw : Region.wanted o (yielded ops a.tmps) = true := by simp [Region.wanted, hgd]
  rw [if_pos hw]
  obtain ⟨v', w', hr, h2, h3, h4⟩ := run_append_keep2 (P := P) (w := w) (ty := o.type) ht hi hz hsize hby hzs hsz v n xs hown ad m c news hl hnews h1 h63 hbytes hm
  unfold Oper.wp execOp
  simp only [ho, resolve, invoke, builtin, Sem.run_bind, Sem.run_pure, Result.andThen_ok, List.map_toArray, List.map_cons, List.map_nil, hs, hx, hr]
  exact h v' w' h2 h3 h4

/-- The lists that go on from one. -/
def goL (M : Nat) (xs : List Nat) (d a : Nat) : List (List Int) := (combs M d a).map fun t => ofN (xs ++ t)
def soL (M : Nat) (xs : List Nat) (d a v : Nat) : List (List Int) := (List.range' a (v - a)).flatMap fun u => goL M (xs ++ [u]) d (u + 1)
theorem goL_zero (M : Nat) (xs : List Nat) (a : Nat) : goL M xs 0 a = [ofN xs] := by simp [goL, combs]
theorem soL_start (M : Nat) (xs : List Nat) (d a : Nat) : soL M xs d a a = [] := by simp [soL]
theorem soL_next {M : Nat} {xs : List Nat} {d a v : Nat} (h : a ≤ v) : soL M xs d a (v + 1) = soL M xs d a v ++ goL M (xs ++ [v]) d (v + 1) := by
  unfold soL
  rw [show v + 1 - a = (v - a) + 1 by omega, List.range'_concat, List.flatMap_append]
  simp only [Nat.one_mul, List.flatMap_cons, List.flatMap_nil, List.append_nil]
  rw [show a + (v - a) = v by omega]
theorem soL_all (M : Nat) (xs : List Nat) (d a : Nat) : goL M xs (d + 1) a = soL M xs d a M := by
  unfold goL soL combs
  rw [List.map_flatMap]
  congr 1
  funext u
  rw [List.map_map]
  unfold goL
  apply List.map_congr_left
  intro t _
  simp
theorem soL_mono {M : Nat} {xs : List Nat} {d a : Nat} : ∀ {v : Nat} (j : Nat), a ≤ v → (soL M xs d a v).length ≤ (soL M xs d a (v + j)).length
  | v, 0, _ => Nat.le_refl _
  | v, j + 1, h => by
    have := soL_mono (M := M) (xs := xs) (d := d) (v := v) j h
    rw [show v + (j + 1) = (v + j) + 1 from rfl, soL_next (by omega), List.length_append]
    omega
theorem soL_over {M : Nat} {xs : List Nat} {d a : Nat} (h : M ≤ a) : goL M xs (d + 1) a = [] := by
  rw [soL_all]
  unfold soL
  rw [show M - a = 0 by omega]; rfl
theorem combs_len (M : Nat) : ∀ (d a : Nat), (combs M d a).length ≤ 2 ^ (M - a)
  | 0, a => by simp [combs]; exact Nat.one_le_two_pow
  | d + 1, a => by
    have key : ∀ j b, j = M - b → ((List.range' b j).flatMap fun v => (combs M d (v + 1)).map (v :: ·)).length ≤ 2 ^ j := by
      intro j
      induction j with
      | zero => intro b _; simp
      | succ j ih =>
        intro b hb
        rw [List.range'_succ, List.flatMap_cons, List.length_append, List.length_map]
        have h1 := combs_len M d (b + 1)
        have h2 := ih (b + 1) (by omega)
        rw [show M - (b + 1) = j by omega] at h1
        rw [Nat.pow_succ]; omega
    exact key (M - a) a rfl
end Go.Proofs.Yteabiokhbaekpaa

/- Contract: the recursive closure that lists ascending lists, in the program. -/
namespace Go.Proofs.Yteabiokhbaekpaa
open Go.RowKit

theorem Sp.move_in {w0 w : World} {q r a b c d e f : Asn} {ps : List Asn} (h : Sp w0 w (q :: r :: a :: b :: c :: d :: e :: f :: ps)) : Sp w0 w (q :: a :: b :: c :: d :: e :: f :: r :: ps) := by
  have h1 : Sp w0 w (f :: q :: r :: a :: b :: c :: d :: e :: ps) := h.bring (i := 7) rfl
  have h2 : Sp w0 w (e :: f :: q :: r :: a :: b :: c :: d :: ps) := h1.bring (i := 7) rfl
  have h3 : Sp w0 w (d :: e :: f :: q :: r :: a :: b :: c :: ps) := h2.bring (i := 7) rfl
  have h4 : Sp w0 w (c :: d :: e :: f :: q :: r :: a :: b :: ps) := h3.bring (i := 7) rfl
  have h5 : Sp w0 w (b :: c :: d :: e :: f :: q :: r :: a :: ps) := h4.bring (i := 7) rfl
  have h6 : Sp w0 w (a :: b :: c :: d :: e :: f :: q :: r :: ps) := h5.bring (i := 7) rfl
  exact h6.bring (i := 6) rfl
theorem Sp.move_out {w0 w : World} {q r a b c d e f : Asn} {ps : List Asn} (h : Sp w0 w (q :: a :: b :: c :: d :: e :: f :: r :: ps)) : Sp w0 w (r :: a :: b :: c :: d :: e :: f :: ps) := by
  have h1 : Sp w0 w (r :: q :: a :: b :: c :: d :: e :: f :: ps) := h.bring (i := 7) rfl
  exact h1.swap.tail
theorem cloneAny (xs : List Nat) (D : Option Addr) (dc : Nat) (w : World) (hx : IntsAt w D (ofN xs)) (hl : xs.length ≤ 1000000) (hD : xs = [] → D = none) :
    Calls Try.prog 38 #[.slice D xs.length dc] w fun e w' => ∃ B c, e = .returned (.slice B xs.length c) ∧ Sp w w' [Row Ty.int (.slice B xs.length c) (ofN xs)] := by
  rcases Nat.eq_zero_or_pos xs.length with h0 | h0
  · obtain rfl : xs = [] := List.length_eq_zero_iff.1 h0
    obtain rfl := hD rfl
    have hnil := fun w : World => Lib.run_eql_slice_nil (P := Try.prog) w 26 3 none 0 dc 0 0 Try.underlying26
    clear hx hD hl h0
    go_enter Try.func38, Try.ntmps38
    go_wp2_with fail
    go_ret
    exact ⟨none, 0, rfl, (Sp.start w).row_new (F := []) (bb w) (Ty.row_nil _ _ _ _ _ (by decide)) (by simp) (by simp)⟩
  · refine (cloneI_any D xs.length dc (ofN xs) w hx (ofN_len xs) hl h0).mono ?_
    rintro e w' ⟨g, c, rfl, T⟩
    have ho := T.owns_end (i := 0) rfl
    have e2 : xs.length = (ofN xs).length := (ofN_len xs).symm
    rw [e2] at ho ⊢
    obtain ⟨F, hr, hn, hF⟩ := own_row ho hx.2
    exact ⟨_, c, rfl, (Sp.start w).row_new T.below hr hn hF⟩

/-- The closure's memory, without the list. -/
abbrev GB (po pl pm pn pg : Nat) (B : Option Addr) (c : Nat) (cs : List Value) (LI : List (List Int)) (n many lim : Nat) (ps : List Asn) : List Asn :=
  Rows Ty.int 26 (.slice B LI.length c) cs LI :: Box po 24 #[.slice B LI.length c] :: Box pl 3 #[.int .i64 lim] :: Box pm 3 #[.int .i64 many] :: Box pn 3 #[.int .i64 n] ::
    Box pg 62 #[.func (.func 37) #[] #[.pointer (some ⟨po, 0, none⟩), .pointer (some ⟨pl, 0, none⟩), .pointer (some ⟨pm, 0, none⟩), .pointer (some ⟨pn, 0, none⟩), .pointer (some ⟨pg, 0, none⟩)]] :: ps

set_option maxRecDepth 100000 in
set_option maxHeartbeats 8000000 in
theorem grow_zero (n many lim po pl pm pn pg : Nat) (hlim : lim ≤ 100000) (xs : List Nat) (a : Nat) (D : Option Addr) (dc : Nat) (B : Option Addr) (c : Nat) (cs : List Value) (LI : List (List Int)) (w0 W : World) (ps : List Asn) (hm : xs.length = many) (hmm : many ≤ 1000) (hD : xs = [] → D = none) (hI : ∀ x ∈ ofN xs, I64 x) (hL : LI.length ≤ lim)
    (S : Sp w0 W (Own 3 1 (.slice D xs.length dc) xs.length ((ofN xs).map (.int .i64)) :: GB po pl pm pn pg B c cs LI n many lim ps)) :
    Calls Try.prog 37 #[.slice D xs.length dc, .int .i64 a, .pointer (some ⟨po, 0, none⟩), .pointer (some ⟨pl, 0, none⟩), .pointer (some ⟨pm, 0, none⟩), .pointer (some ⟨pn, 0, none⟩), .pointer (some ⟨pg, 0, none⟩)] W fun e w' => e = .returned (.tuple #[]) ∧
      ∃ B' c' cs', Sp w0 w' (Own 3 1 (.slice D xs.length dc) xs.length ((ofN xs).map (.int .i64)) :: GB po pl pm pn pg B' c' cs' (LI ++ [ofN xs]) n many lim ps) := by
  obtain ⟨i0, hi, hz0, hz1, hz2⟩ := info_parts infoRow
  have c0 := S.cell (i := 2) rfl (o := 0) rfl
  have c1 := S.cell (i := 3) rfl (o := 0) rfl
  have c2 := S.cell (i := 4) rfl (o := 0) rfl
  have d0 : decide ((lim : Int) < (LI.length : Int)) = false := decide_eq_false (by omega)
  have hown := S.own (i := 0) rfl
  rw [show xs.length = (ofN xs).length from (ofN_len xs).symm] at hown
  obtain ⟨D', dc', e1, hT⟩ := ints_own hown hI
  simp only [Value.slice.injEq] at e1
  obtain ⟨rfl, -, rfl⟩ := e1
  have S1 := Lib.hid S.drew
  have hcl := Lib.hid (cloneAny xs D dc _ (hT.grow (bdr (bb W))) (by omega) hD)
  have hm2 := Lib.hid hm
  subst hm
  clear S hown hT hI hD hm2
  go_enter Try.func37, Try.ntmps37
  go_wp2_with fail
  refine wp_region_tail_lit (S := (fun w' => w'.cell? ⟨po, 0, none⟩ = some (.slice B LI.length c))) 4 [false, false, false, false, false, false] (by kernel_rfl) (by kernel_rfl) (by kernel_rfl) ?_ ?_
  · exact c0
  intro hSc
  (refine walkT_take (i := 0) (v := ?_) rfl (by kernel_rfl) (by decide) (by kernel_rfl) (by kernel_rfl) (fun _ _ _ h => h) (Or.inl ⟨by rfl, ?_⟩) (by assumption) ?_; rotate_left; (focus (intro w hSw; (try dsimp only at hSw); go_simp; (try with_reducible rfl); done)); (try simp only [put_rules]))
  (refine walkT_take (i := 1) (v := ?_) rfl (by kernel_rfl) (by decide) (by kernel_rfl) (by kernel_rfl) (fun _ _ _ h => h) (Or.inl ⟨by rfl, ?_⟩) (by assumption) ?_; rotate_left; (focus (intro w hSw; (try dsimp only at hSw); go_simp; (try with_reducible rfl); done)); (try simp only [put_rules]))
  (refine walkT_ready (rs := [2]) (by kernel_rfl) (by simp) (by decide) ?_; refine AllT.cons rfl (fun K hK => ?_) AllT.nil)
  go_simp
  go_at_call 38
  refine hcl.out.mono ?_
  rintro e w2 ⟨B2, c2', rfl, T⟩
  have S2 := Lib.hid (S1.out.seq T)
  clear hcl S1 T c0 c1 c2
  go_wp2_with fail
  refine hK.out _ _ (S2.out.cell (i := 3) rfl (o := 0) rfl) (fun hS2 => ?_)
  clear hK hSc
  (try simp only [put_rules])
  (refine walkT_ready (rs := [3]) (by kernel_rfl) (by simp) (by decide) ?_; refine AllT.cons rfl (fun K hK => ?_) AllT.nil)
  go_simp
  have hrows := Lib.hid ((S2.out.rows (i := 2) rfl))
  have S3 := S2.out.alloc_box #[.slice B2 xs.length c2'] 26
  have kB := S3.cell (i := 0) rfl (o := 0) rfl
  have hrows3 := Lib.hid (S3.rows (i := 3) rfl)
  refine hK.out _ _ (S3.cell (i := 4) rfl (o := 0) rfl) (fun hS3 => ?_)
  clear hK hS2 hrows
  (try simp only [put_rules])
  (refine walkT_done (by kernel_rfl) ?_)
  simp only [List.drop_succ_cons, List.drop_zero]
  (refine wpList_append_src rfl _ _ rfl Try.underlying24 hi hz0 hz1 hz2 rfl (by decide) _ LI.length _ rfl hrows3.out _ 1 1 [.slice B2 xs.length c2'] rfl (Src.one kB) (by simp [Value.oneCell']) (by unfold maxLen; omega) (by omega) ?_; intro vY wY hownY hgY hatY)
  have S4 := ((S2.out.bring (i := 2) rfl).swap).rows_push (bal (bb _) _) hownY hgY hatY
  obtain ⟨aY, cY, rfl⟩ := own_slice hownY
  have S5 := S4.swap
  have b1 := S5.cell (i := 2) rfl (o := 0) rfl
  have q1 := S5.frozen (i := 2) rfl 0
  have hlen : LI.length + 1 = (LI ++ [ofN xs]).length := by simp
  have S6 := S5.store (i := 2) rfl 0 (.slice aY (LI.length + 1) cY)
  have S7 : Hid (Sp w0 (wY.setCell ⟨po, 0, none⟩ (.slice aY (LI.length + 1) cY)) (Own 3 1 (.slice D xs.length dc) xs.length ((ofN xs).map (.int .i64)) :: GB po pl pm pn pg aY cY (cs ++ [.slice B2 xs.length c2']) (LI ++ [ofN xs]) n xs.length lim ps)) := by
    unfold Hid GB
    rw [← hlen]
    exact S6
  clear S2 S3 S4 S5 S6 hrows3 hownY hgY hatY kB hS3 hlen
  go_wp2_with fail
  exact bodyPost_ret (v := .tuple #[]) (by simp [results, Try.results37, go_sem]) rfl ⟨rfl, aY, cY, _, S7.out⟩
end Go.Proofs.Yteabiokhbaekpaa

/- Contracts: lists of indices in ascending order, on both sides. -/
namespace Go.Proofs.Yteabiokhbaekpaa
open Go.RowKit

/-- An index that fits, above the one ahead of it. -/
def rOk (m : Int) (l : List Int) (i : Nat) : Bool := inB (l.getD i 0) 0 (m - 1) && (i == 0 || decide (l.getD (i - 1) 0 < l.getD i 0))
def rOkTo (m : Int) (l : List Int) (k : Nat) : Bool := (List.range k).all (rOk m l)
theorem rOkTo_succ (m : Int) (l : List Int) (k : Nat) : rOkTo m l (k + 1) = (rOkTo m l k && rOk m l k) := by simp [rOkTo, List.range_succ]
def risB (m : Int) (l : List Int) : Bool := rOkTo m l l.length
theorem ris_no {m : Int} {l : List Int} {k : Nat} (hk : k < l.length) (h : rOk m l k = false) : risB m l = false := by
  unfold risB rOkTo
  rw [List.all_eq_false]
  exact ⟨k, List.mem_range.2 hk, by rw [h]; decide⟩
theorem ris_step {m : Int} {l : List Int} {k : Nat} (h0 : rOkTo m l k = true) (h : rOk m l k = true) : rOkTo m l (k + 1) = true := by rw [rOkTo_succ, h0, h]; rfl
theorem rOk_zero (m : Int) (l : List Int) (h : 0 < l.length) : rOk m l 0 = inB l[0] 0 (m - 1) := by simp [rOk, List.getD_eq_getElem?_getD, List.getElem?_eq_getElem h]
theorem rOk_succ (m : Int) (l : List Int) (k : Nat) (h : k + 1 < l.length) : rOk m l (k + 1) = (inB l[k + 1] 0 (m - 1) && decide ((l[k]'(by omega)) < l[k + 1])) := by
  simp [rOk, List.getD_eq_getElem?_getD, List.getElem?_eq_getElem h, List.getElem?_eq_getElem (show k < l.length by omega)]
theorem l1InB {x lo hi : Int} {q : Bool} (h : inB x lo hi = q) (w : World) : Calls Try.prog 40 #[.int .i64 x, .int .i64 lo, .int .i64 hi] w fun e w' => e = .returned (.bool q) ∧ Below w.heap.size w w' := h ▸ same_below (l1In_any x lo hi w)
theorem withinB {x lo hi : Int} {q : Bool} (h : inB x lo hi = q) (w : World) : Calls Try.prog 28 #[.int .i64 x, .int .i64 lo, .int .i64 hi] w fun e w' => e = .returned (.bool q) ∧ Below w.heap.size w w' := h ▸ same_below (within_any x lo hi w)

set_option maxRecDepth 100000 in
set_option maxHeartbeats 4000000 in
theorem l1Rising_any (A : Option Addr) (cap : Nat) (l : List Int) (m : Int) (w : World) (hx : IntsAt w A l) (hl : l.length ≤ 1000000) :
    Calls Try.prog 41 #[.slice A l.length cap, .int .i64 0, .int .i64 (m - 1)] w fun e w' => e = .returned (.bool (risB m l)) ∧ Below w.heap.size w w' := by
  have hX := Lib.hid hx
  have hd : Hid (risB m l = rOkTo m l l.length) := rfl
  obtain ⟨hi, hhi⟩ : ∃ hi, m - 1 = hi := ⟨_, rfl⟩
  rw [hhi]
  have hhiH := Lib.hid hhi
  clear hx hhi
  go_enter Try.func41, Try.ntmps41
  go_wp2_with fail
  go_loopw [7] (fun i wr => ∃ k : Nat, k ≤ l.length ∧ i = .int .i64 k ∧ Hid (rOkTo m l k = true) ∧ Hid (Below w.heap.size w wr)) (fun i _ => l.length - (intOf i).toNat)
  case atStart => exact ⟨0, Nat.zero_le _, rfl, by simp [Hid, rOkTo], bb _⟩
  case round =>
    obtain ⟨k, hk, rfl, HR, hB⟩ := hrel
    by_cases hlt : k < l.length
    · obtain ⟨b, off, rfl, m0⟩ := (hX.out.grow hB.out).at_ k hlt
      have k0 := cell_regrown m0
      cases hq : inB l[k] 0 hi
      · have HN : Hid (risB m l = false) := ris_no hlt (by unfold rOk; rw [List.getD_eq_getElem?_getD, List.getElem?_eq_getElem hlt, hhiH.out]; simp [hq])
        generalize l[k] = x at *
        clear m0
        go_wp2_with fail
        refine wp_region_quiet_below (by kernel_rfl) (by kernel_rfl) ?_
        repeat (any_goals (first | go_big_quiet_step ((go_at_call 40; exact Calls.regrown_of (l1InB hq _)))))
        refine wpQuiet_nil ?_
        rintro w1 ⟨p, rfl⟩
        have hB2 := Lib.hid (btr hB.out (below_regrown _ p.d p.os))
        clear hB k0
        go_wp2_with fail
        go_ret
        exact ⟨ret_bool HN.out.symm, hB2.out⟩
      rcases Nat.eq_zero_or_pos k with rfl | hpos
      · have HN : Hid (rOkTo m l (0 + 1) = true) := ris_step rfl (by rw [rOk_zero _ _ hlt, hhiH.out]; exact hq)
        rw [Nat.add_zero] at k0
        generalize l[0] = x at *
        clear HR m0
        go_wp2_with fail
        refine wp_region_quiet_below (by kernel_rfl) (by kernel_rfl) ?_
        repeat (any_goals (first | go_big_quiet_step ((go_at_call 40; exact Calls.regrown_of (l1InB hq _)))))
        refine wpQuiet_nil ?_
        rintro w1 ⟨p, rfl⟩
        have hB2 := Lib.hid (btr hB.out (below_regrown _ p.d p.os))
        clear hB k0
        go_wp2_with fail
        go_roundw
        case rel => exact ⟨0 + 1, by omega, by go_num, HN, hB2⟩
        case measure => simp [intOf]; omega
      have hj : k - 1 < l.length := by omega
      obtain ⟨b', off', e', m1⟩ := (hX.out.grow hB.out).at_ (k - 1) hj
      cases e'
      have k1 := cell_regrown m1
      have HS : rOk m l k = decide (l[k - 1] < l[k]) := by
        obtain ⟨j, rfl⟩ : ∃ j, k = j + 1 := ⟨k - 1, by omega⟩
        rw [rOk_succ m l j hlt, hhiH.out, hq, Bool.true_and]
        rfl
      generalize l[k - 1] = y at *
      generalize l[k] = x at *
      have hg : (0 : Int) < (k : Int) := by omega
      clear m0 m1
      by_cases hc : y < x
      · have HN : Hid (rOkTo m l (k + 1) = true) := ris_step HR.out (by rw [HS]; simpa using hc)
        clear HS HR
        go_wp2_with fail
        refine wp_region_quiet_below (by kernel_rfl) (by kernel_rfl) ?_
        repeat (any_goals (first | go_big_quiet_step ((go_at_call 40; exact Calls.regrown_of (l1InB hq _)))))
        refine wpQuiet_nil ?_
        rintro w1 ⟨p, rfl⟩
        have hB2 := Lib.hid (btr hB.out (below_regrown _ p.d p.os))
        clear hB k0 k1
        go_wp2_with fail
        go_roundw
        case rel => exact ⟨k + 1, by omega, by go_num, HN, hB2⟩
        case measure => simp [intOf]; omega
      · have HN : Hid (risB m l = false) := ris_no hlt (by rw [HS]; simpa using hc)
        clear HS HR
        go_wp2_with fail
        refine wp_region_quiet_below (by kernel_rfl) (by kernel_rfl) ?_
        repeat (any_goals (first | go_big_quiet_step ((go_at_call 40; exact Calls.regrown_of (l1InB hq _)))))
        refine wpQuiet_nil ?_
        rintro w1 ⟨p, rfl⟩
        have hB2 := Lib.hid (btr hB.out (below_regrown _ p.d p.os))
        clear hB k0 k1
        go_wp2_with fail
        go_ret
        exact ⟨ret_bool HN.out.symm, hB2.out⟩
    · obtain rfl : k = l.length := by omega
      have HN : Hid (risB m l = true) := hd.out.trans HR.out
      go_wp2_with fail
      go_ret
      exact ⟨ret_bool HN.out.symm, hB.out⟩

/- left out: the seat has no impl.indicesOk -/

theorem ris_bound {m : Int} {l : List Int} (h : risB m l = true) {i : Nat} (hi : i < l.length) : 0 ≤ l[i] ∧ l[i] ≤ m - 1 := by
  have h2 := List.all_eq_true.1 h i (List.mem_range.2 hi)
  unfold rOk at h2
  rw [Bool.and_eq_true, List.getD_eq_getElem?_getD, List.getElem?_eq_getElem hi] at h2
  exact inB_true.1 h2.1
theorem ris_lt {m : Int} {l : List Int} (h : risB m l = true) {i : Nat} (hi : i + 1 < l.length) : l[i]'(by omega) < l[i + 1] := by
  have h2 := List.all_eq_true.1 h (i + 1) (List.mem_range.2 hi)
  rw [rOk_succ _ _ _ hi, Bool.and_eq_true] at h2
  exact of_decide_eq_true h2.2
/-- A list of indices that is valid, as natural numbers. -/
theorem ris_nat {m : Nat} {l : List Int} (h : risB m l = true) : ∃ is : List Nat, l = ofN is ∧ AscN m is := by
  refine ⟨l.map Int.toNat, ?_, ?_, ?_⟩
  · unfold ofN
    rw [List.map_map]
    apply List.ext_getElem
    · simp
    · intro i h1 h2
      have := ris_bound h h1
      simp only [List.getElem_map, Function.comp]
      omega
  · have hp : l.Pairwise (fun a b => a.toNat < b.toNat) := by
      have hmono : ∀ d i, i + d + 1 < l.length → ∀ (h1 : i < l.length) (h2 : i + d + 1 < l.length), l[i] < l[i + d + 1] := by
        intro d
        induction d with
        | zero => intro i _ h1 h2; exact ris_lt h h2
        | succ d ih =>
          intro i hh h1 h2
          have a := ih i (by omega) h1 (by omega)
          have b := ris_lt h (i := i + d + 1) (by omega)
          exact Int.lt_trans a b
      rw [List.pairwise_iff_getElem]
      intro i j hi hj hij
      have a := hmono (j - i - 1) i (by omega) hi (by omega)
      have e : i + (j - i - 1) + 1 = j := by omega
      simp only [e] at a
      have b1 := ris_bound h hi
      have b2 := ris_bound h hj
      omega
    exact List.pairwise_map.2 hp
  · intro i hi
    obtain ⟨x, hx, rfl⟩ := List.mem_map.1 hi
    obtain ⟨j, hj, rfl⟩ := List.getElem_of_mem hx
    have := ris_bound h hj
    omega
end Go.Proofs.Yteabiokhbaekpaa

/- Contract: the core of a Cnf, in the reference. -/
namespace Go.Proofs.Yteabiokhbaekpaa
open Go.RowKit

def lenV (v : Value) : Nat := match v with
  | .slice _ n _ => n
  | _ => 0
theorem own_cap {w : World} {B : Nat} {e : TypeId} {size n c : Nat} {A : Option Addr} {xs : List Value} (h : w.ownsRow B e size (.slice A n c) n xs) : n ≤ c := by
  obtain ⟨_, ⟨h1, _⟩ | ⟨g, cap, cur, h1, _, _, hn, _⟩⟩ := h
  · cases h1; exact Nat.le_refl _
  · cases h1; exact hn

/-- The answer's own row, where there is one. -/
def IOwn (w : World) (ok : Bool) (zs : List Int) (e : Ending) (w' : World) : Prop :=
  ∃ B cap, e = .returned (.tuple #[.slice B zs.length cap, .bool ok]) ∧ IntsAt w' B zs ∧ Below w.heap.size w w' ∧ (ok = true → Sp w w' [Own 3 1 (.slice B zs.length cap) zs.length (zs.map (.int .i64))])

/- left out: the seat has no spec.CoreOf -/

/- left out: the seat has no spec.CoreOf -/
end Go.Proofs.Yteabiokhbaekpaa

/- Contracts: cores and minimal cores, on both sides. Printed by gen_coj.py. -/
namespace Go.Proofs.Yteabiokhbaekpaa
open Go.RowKit

def natL (l : List Int) : List Nat := l.map Int.toNat
theorem natL_ofN (is : List Nat) : natL (ofN is) = is := by
  unfold natL ofN
  rw [List.map_map]
  have : (Int.toNat ∘ fun (i : Nat) => (i : Int)) = id := by funext i; simp
  rw [this, List.map_id]
theorem ris_natL {m : Nat} {l : List Int} (h : risB m l = true) : l = ofN (natL l) ∧ AscN m (natL l) := by
  obtain ⟨is, rfl, h2⟩ := ris_nat h
  rw [natL_ofN]
  exact ⟨rfl, h2⟩
/-- No index is superfluous. -/
def minB (n : Nat) (xss : List (List Int)) (is : List Nat) : Bool := (List.range is.length).all fun k => !coreB n xss (is.eraseIdx k)
theorem min_no {n : Nat} {xss : List (List Int)} {is : List Nat} {k : Nat} (hk : k < is.length) (h : coreB n xss (is.eraseIdx k) = true) : minB n xss is = false := by
  unfold minB
  rw [List.all_eq_false]
  exact ⟨k, List.mem_range.2 hk, by rw [h]; decide⟩
theorem min_next {n : Nat} {xss : List (List Int)} {is : List Nat} {k : Nat} (h0 : ((List.range k).all fun k => !coreB n xss (is.eraseIdx k)) = true) (h : coreB n xss (is.eraseIdx k) = false) : ((List.range (k + 1)).all fun k => !coreB n xss (is.eraseIdx k)) = true := by
  rw [List.range_succ, List.all_append, h0]
  simp [h]
theorem ofN_eraseIdx (is : List Nat) (k : Nat) : (ofN is).eraseIdx k = ofN (is.eraseIdx k) := by
  unfold ofN
  rw [List.eraseIdx_eq_take_drop_succ, List.eraseIdx_eq_take_drop_succ, List.map_append, List.map_take, List.map_drop]
theorem AscN.erase {m : Nat} {is : List Nat} (h : AscN m is) (k : Nat) : AscN m (is.eraseIdx k) := h.sub (List.eraseIdx_sublist _ _)

/- left out: the seat has no spec.l5Takes -/

/- left out: the seat has no impl.IsCore -/

/- left out: the seat has no impl.IsMinimalCore -/

/- left out: the seat has no spec.IsCore -/

/- left out: the seat has no spec.IsMinimalCore -/

end Go.Proofs.Yteabiokhbaekpaa

/- Contract: the first core of a size, in the reference. Printed by gen_col.py. -/
namespace Go.Proofs.Yteabiokhbaekpaa
open Go.RowKit

/-- What is told of a search. -/
def ChP (w : World) (r : Option (List Nat)) (e : Ending) (w' : World) : Prop := ∃ (B : Option Addr) (c : Nat) (out : List Int), e = .returned (.tuple #[.slice B out.length c, .bool r.isSome]) ∧ (∀ is, r = some is → out = ofN is) ∧ (∀ x ∈ out, I64 x) ∧
  Sp w w' [Own 3 1 (.slice B out.length c) out.length (out.map (.int .i64))]
/-- Where a list goes on. -/
def nextA (l : List Nat) : Nat := match l.getLast? with
  | none => 0
  | some x => x + 1
theorem nextA_snoc (l : List Nat) (i : Nat) : nextA (l ++ [i]) = i + 1 := by simp [nextA]
theorem nextA_nil : nextA [] = 0 := rfl
theorem drew_size2 (w : World) : w.drew.heap.size = w.heap.size := rfl
theorem nextA_at {l : List Nat} (h : 0 < l.length) : nextA l = l[l.length - 1] + 1 := by
  unfold nextA
  rw [List.getLast?_eq_getElem?, List.getElem?_eq_getElem (by omega)]
theorem asc_snoc {m i : Nat} {l : List Nat} (h : AscN m l) (hi : nextA l ≤ i) (him : i < m) : AscN m (l ++ [i]) := by
  refine ⟨List.pairwise_append.2 ⟨h.1, by simp, fun x hx y hy => ?_⟩, fun x hx => ?_⟩
  · obtain rfl : y = i := by simpa using hy
    have hlen : 0 < l.length := List.length_pos_of_mem hx
    have hn := nextA_at hlen
    obtain ⟨j, hj, rfl⟩ := List.getElem_of_mem hx
    have hle : l[j] ≤ l[l.length - 1] := by
      rcases Nat.lt_or_ge j (l.length - 1) with hlt | hge
      · exact Nat.le_of_lt (List.pairwise_iff_getElem.1 h.1 j (l.length - 1) hj (by omega) hlt)
      · have : j = l.length - 1 := by omega
        simp only [this]; exact Nat.le_refl _
    omega
  · rcases List.mem_append.1 hx with hx | hx
    · exact h.2 x hx
    · obtain rfl : x = i := by simpa using hx
      exact him
theorem own_snoc_ints {w0 W : World} {ps : List Asn} {j : Nat} {A : Option Addr} {c i m : Nat} {l : List Nat} {bl : Nat} (hbl : l.length = bl) (hm : m ≤ 1000000) (h : Sp w0 W ps) (hi : ps[j]? = some (Own 3 1 (.slice A (bl + 1) c) (bl + 1) ((ofN l).map (.int .i64) ++ [.int .i64 (i : Int)]))) (ha : AscN m (l ++ [i])) : IntsAt W A (ofN (l ++ [i])) := by
  subst hbl
  have ho := h.own hi
  have e1 : (ofN l).map (Value.int .i64) ++ [.int .i64 (i : Int)] = (ofN (l ++ [i])).map (.int .i64) := by unfold ofN; simp
  have e2 : l.length + 1 = (ofN (l ++ [i])).length := by rw [ofN_len]; simp
  rw [e1, e2] at ho
  obtain ⟨A', c', e3, hT⟩ := ints_own ho (ofN_ok hm ha)
  simp only [Value.slice.injEq] at e3
  obtain ⟨rfl, -, rfl⟩ := e3
  exact hT

/- left out: the seat has no spec.l5Choose -/
end Go.Proofs.Yteabiokhbaekpaa
