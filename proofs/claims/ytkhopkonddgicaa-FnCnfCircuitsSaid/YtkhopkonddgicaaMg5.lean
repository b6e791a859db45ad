/- Lemmas and contracts for a law, put together out of several texts: MdP MdT BrA CoA CoB CoC MdR CoD GtP GtV GtF GtW GtT GtU. -/
import Derived.Test.YtkhopkonddgicaaMg4
import Derived.Lib.SliceRun
import Derived.Lib.Hide
import Derived.Test.YtkhopkonddgicaaMg1
import Derived.Test.YtkhopkonddgicaaMg3
import Derived.Shelf.SlicesE.Kit
import Derived.Shelf.SlicesE.Delete
import Derived.Test.YtkhopkonddgicaaShelf
import Derived.Maps.OwnIn
import Derived.Maps.AppendAt
/- Plain facts on models, backbones and implied clauses. -/
namespace Go.Proofs.Ytkhopkonddgicaa
open Go.RowKit

theorem bone_next (n : Nat) (xss : List (List Int)) (k : Nat) : boneTo n xss (k + 1) = boneTo n xss k ++ ((if impB n xss [(k : Int) + 1] then [(k : Int) + 1] else []) ++ (if impB n xss [-((k : Int) + 1)] then [-((k : Int) + 1)] else [])) := rfl
theorem bone_mem (n : Nat) (xss : List (List Int)) : ∀ (k : Nat) (x : Int), x ∈ boneTo n xss k ↔ (x ≠ 0 ∧ x.natAbs ≤ k ∧ impB n xss [x] = true)
  | 0, x => by
    simp only [boneTo, List.not_mem_nil, false_iff]
    omega
  | k + 1, x => by
    rw [bone_next, List.mem_append, List.mem_append, bone_mem n xss k x]
    have a1 : x ∈ (if impB n xss [(k : Int) + 1] then [(k : Int) + 1] else []) ↔ x = (k : Int) + 1 ∧ impB n xss [x] = true := by
      split
      · rename_i h
        rw [List.mem_singleton]
        exact ⟨fun e => ⟨e, by rw [e]; exact h⟩, fun e => e.1⟩
      · rename_i h
        simp only [List.not_mem_nil, false_iff]
        rintro ⟨rfl, h2⟩
        exact h h2
    have a2 : x ∈ (if impB n xss [-((k : Int) + 1)] then [-((k : Int) + 1)] else []) ↔ x = -((k : Int) + 1) ∧ impB n xss [x] = true := by
      split
      · rename_i h
        rw [List.mem_singleton]
        exact ⟨fun e => ⟨e, by rw [e]; exact h⟩, fun e => e.1⟩
      · rename_i h
        simp only [List.not_mem_nil, false_iff]
        rintro ⟨rfl, h2⟩
        exact h h2
    rw [a1, a2]
    constructor
    · rintro (⟨h1, h2, h3⟩ | ⟨h1, h3⟩ | ⟨h1, h3⟩)
      · exact ⟨h1, by omega, h3⟩
      · exact ⟨by omega, by omega, h3⟩
      · exact ⟨by omega, by omega, h3⟩
    · rintro ⟨h1, h2, h3⟩
      by_cases h : x.natAbs ≤ k
      · exact .inl ⟨h1, h, h3⟩
      · by_cases hx : x = (k : Int) + 1
        · exact .inr (.inl ⟨hx, h3⟩)
        · exact .inr (.inr ⟨by omega, h3⟩)
theorem bone_contains {n : Nat} {xss : List (List Int)} {x : Int} (h0 : x ≠ 0) (h1 : x.natAbs ≤ n) : (boneTo n xss n).contains x = impB n xss [x] := by
  rw [Bool.eq_iff_iff, List.contains_iff_mem, bone_mem]
  exact ⟨fun h => h.2.2, fun h => ⟨h0, h1, h⟩⟩
theorem cl_one (x : Int) (b : Nat) : clT [x] b = litT b x := by simp [clT]
theorem lit_pos (k b : Nat) : litT b ((k : Int) + 1) = b.testBit k := by
  unfold litT
  rw [show ((k : Int) + 1).natAbs - 1 = k by omega, decide_eq_true (by omega : (0 : Int) < (k : Int) + 1)]
  simp
theorem lit_neg (k b : Nat) : litT b (-((k : Int) + 1)) = !b.testBit k := by
  unfold litT
  rw [show (-((k : Int) + 1)).natAbs - 1 = k by omega, decide_eq_false (by omega : ¬ (0 : Int) < -((k : Int) + 1))]
  cases b.testBit k <;> rfl
/-- The models in their order. -/
def mods (p : Nat → Bool) (N : Nat) : List Nat := (List.range N).filter p
theorem allN_eq (p : Nat → Bool) (N : Nat) : allN p N = (mods p N).map fun (m : Nat) => (m : Int) := rfl
theorem imp_mods (n : Nat) (xss : List (List Int)) (d : List Int) : impB n xss d = (mods (modT xss) (2 ^ n)).all (clT d) := by
  rw [Bool.eq_iff_iff]
  unfold impB mods
  rw [Bool.not_eq_true', List.any_eq_false, List.all_eq_true]
  constructor
  · intro h b hb
    have h1 := List.mem_filter.1 hb
    have h2 := h b h1.1
    rw [h1.2, Bool.and_true] at h2
    simpa using h2
  · intro h b hb
    cases hm : modT xss b
    · simp
    · rw [h b (List.mem_filter.2 ⟨hb, hm⟩)]
      simp
theorem bone_yes {n : Nat} {xss : List (List Int)} {k : Nat} (hk : k < n) : (boneTo n xss n).contains ((k : Int) + 1) = (mods (modT xss) (2 ^ n)).all fun b => b.testBit k := by
  rw [bone_contains (by omega) (by omega), imp_mods]
  congr 1
  funext b
  rw [cl_one, lit_pos]
theorem bone_no {n : Nat} {xss : List (List Int)} {k : Nat} (hk : k < n) : (boneTo n xss n).contains (-((k : Int) + 1)) = (mods (modT xss) (2 ^ n)).all fun b => !b.testBit k := by
  rw [bone_contains (by omega) (by omega), imp_mods]
  congr 1
  funext b
  rw [cl_one, lit_neg]
theorem mod_snoc (xss : List (List Int)) (d : List Int) (b : Nat) : modT (xss ++ [d]) b = (modT xss b && clT d b) := by simp [modT, List.all_append]
theorem equiv_imp (n : Nat) (xss : List (List Int)) (d : List Int) : ((List.range (2 ^ n)).all fun b => modT xss b == modT (xss ++ [d]) b) = impB n xss d := by
  rw [Bool.eq_iff_iff]
  unfold impB
  rw [Bool.not_eq_true', List.any_eq_false, List.all_eq_true]
  constructor
  · intro h b hb
    have h2 := h b hb
    rw [mod_snoc] at h2
    cases hm : modT xss b <;> cases hc : clT d b <;> simp_all
  · intro h b hb
    have h2 := h b hb
    rw [mod_snoc]
    cases hm : modT xss b <;> cases hc : clT d b <;> simp_all
theorem good_snoc {vars : Int} {xss : List (List Int)} {d : List Int} (h : goodB vars xss = true) (hc : clauseB vars d = true) (hl : xss.length < 60) : goodB vars (xss ++ [d]) = true := by
  unfold goodB at *
  simp only [Bool.and_eq_true, decide_eq_true_eq] at *
  refine ⟨⟨h.1.1, by simp; omega⟩, ?_⟩
  rw [List.all_append, h.2]
  simp [hc]
theorem all_first {p : Nat → Bool} {N : Nat} (h : (List.range N).any p = true) : ∃ m, (allN p N)[0]? = some (m : Int) ∧ idxP p (List.range N) = (m : Int) := by
  have hf : idxP p (List.range N) = ((List.range N).findIdx p : Nat) := by unfold idxP; rw [if_pos h]
  have hlt : (List.range N).findIdx p < (List.range N).length := List.findIdx_lt_length_of_exists (by simpa using List.any_eq_true.1 h)
  refine ⟨(List.range N).findIdx p, ?_, hf⟩
  have hfd : (List.range N).find? p = some ((List.range N).findIdx p) := by
    rw [List.find?_eq_some_iff_getElem]
    refine ⟨?_, _, hlt, by simp, fun j hj => ?_⟩
    · have := List.findIdx_getElem (w := hlt)
      simpa using this
    · have := List.not_of_lt_findIdx (xs := List.range N) (p := p) (i := j) hj
      simpa using this
  unfold allN
  rw [List.getElem?_map, ← List.head?_eq_getElem?, List.head?_filter, hfd]
  rfl
theorem cnt_pos {p : Nat → Bool} {N : Nat} : decide (0 < cntP p N) = (List.range N).any p := by
  rw [Bool.eq_iff_iff, decide_eq_true_eq, List.any_eq_true]
  unfold cntP
  rw [List.length_pos_iff_exists_mem]
  exact ⟨fun ⟨m, hm⟩ => ⟨m, (List.mem_filter.1 hm).1, (List.mem_filter.1 hm).2⟩, fun ⟨m, h1, h2⟩ => ⟨m, List.mem_filter.2 ⟨h1, h2⟩⟩⟩
/-- What the law's loop over the models has told of a bit. -/
theorem all_take_next {p : Nat → Bool} {ms : List Nat} {i : Nat} (hi : i < ms.length) : (ms.take (i + 1)).all p = ((ms.take i).all p && p ms[i]) := by
  rw [List.take_succ_eq_append_getElem hi, List.all_append]
  simp
end Go.Proofs.Ytkhopkonddgicaa

/- Contracts: implied clauses, in the program. -/
namespace Go.Proofs.Ytkhopkonddgicaa
open Go.RowKit

/-- Values of clauses that can be read. -/
def ClsV (w : World) (us : List Value) (xss : List (List Int)) : Prop := us.length = xss.length ∧ ∀ j (hj : j < xss.length), ∃ B c, us[j]? = some (.slice B xss[j].length c) ∧ IntsAt w B xss[j]
theorem cls_src {w : World} {A : Option Addr} {xss : List (List Int)} (h : ClsAt w A xss) : ∃ us, ClsV w us xss ∧ Src w A xss.length 1 us ∧ ∀ u ∈ us, u.oneCell' = true := by
  rcases Nat.eq_zero_or_pos xss.length with h0 | h0
  · obtain rfl : xss = [] := List.length_eq_zero_iff.1 h0
    exact ⟨[], ⟨rfl, fun j hj => absurd hj (by simp)⟩, .inl ⟨rfl, rfl⟩, by simp⟩
  · obtain ⟨b, off, -, -, rfl, -, -⟩ := h.at_ 0 h0
    have hat : ∀ j (hj : j < xss.length), ∃ B c, w.cell? ⟨b, off + j, none⟩ = some (.slice B xss[j].length c) ∧ IntsAt w B xss[j] := fun j hj => by
      obtain ⟨b', off', B, c, e, h1, h2⟩ := h.at_ j hj
      cases e
      exact ⟨B, c, h1, h2⟩
    refine ⟨(List.range xss.length).map fun j => (w.cell? ⟨b, off + j, none⟩).getD (.bool false), ⟨by simp, fun j hj => ?_⟩, .inr ⟨_, rfl, by simp, fun j u hu => ?_⟩, fun u hu => ?_⟩
    · obtain ⟨B, c, h1, h2⟩ := hat j hj
      exact ⟨B, c, by simp [List.getElem?_map, List.getElem?_range hj, h1], h2⟩
    · have hj : j < xss.length := by
        have := (List.getElem?_eq_some_iff.1 hu).1
        simpa using this
      obtain ⟨B, c, h1, h2⟩ := hat j hj
      rw [List.getElem?_map, List.getElem?_range hj] at hu
      simp only [Option.map_some, h1, Option.getD_some, Option.some.injEq] at hu
      rw [add_none, h1, hu]
    · obtain ⟨j, hj, rfl⟩ := List.mem_map.1 hu
      obtain ⟨B, c, h1, h2⟩ := hat j (List.mem_range.1 hj)
      rw [h1]; rfl
theorem ClsV.keep {w w' : World} {us : List Value} {xss : List (List Int)} (h : ClsV w us xss) (hb : Below w.heap.size w w') : ClsV w' us xss :=
  ⟨h.1, fun j hj => by
    obtain ⟨B, c, h1, h2⟩ := h.2 j hj
    exact ⟨B, c, h1, h2.grow hb⟩⟩
theorem ClsV.append {w : World} {us vs : List Value} {xss yss : List (List Int)} (h : ClsV w us xss) (k : ClsV w vs yss) : ClsV w (us ++ vs) (xss ++ yss) :=
  ⟨by simp [h.1, k.1], fun j hj => by
    by_cases hlt : j < xss.length
    · obtain ⟨B, c, h1, h2⟩ := h.2 j hlt
      rw [List.getElem_append_left hlt]
      exact ⟨B, c, by rw [List.getElem?_append_left (by rw [h.1]; exact hlt)]; exact h1, h2⟩
    · have hj2 : j - xss.length < yss.length := by rw [List.length_append] at hj; omega
      obtain ⟨B, c, h1, h2⟩ := k.2 _ hj2
      rw [List.getElem_append_right (by omega)]
      exact ⟨B, c, by rw [List.getElem?_append_right (by rw [h.1]; omega), h.1]; exact h1, h2⟩⟩
theorem ClsV.own {w : World} {B : Nat} {e : TypeId} {A : Option Addr} {c : Nat} {us : List Value} {xss : List (List Int)} (h : ClsV w us xss) (ho : w.ownsRow B e 1 (.slice A xss.length c) xss.length us) : ClsAt w A xss := ⟨fun j hj => by
  obtain ⟨g, cap, cur, e1, -, hh, -, -, -, ht⟩ := own_block ho (by omega)
  simp only [Value.slice.injEq] at e1
  obtain ⟨rfl, -, rfl⟩ := e1
  obtain ⟨B', c', h1, h2⟩ := h.2 j hj
  exact ⟨g, 0, B', c', rfl, by rw [Nat.zero_add, (own_at hh ht (o := j) (by omega)).1]; exact h1, h2⟩⟩

/- left out: the seat has no slices.Clone[[][]int,[]int] -/

abbrev oneP (r : Nat × Int) : Asn := Box r.1 3 #[.int .i64 r.2]
abbrev oneV (r : Nat × Int) : Value := .slice (some ⟨r.1, 0, none⟩) 1 1
theorem ones_cls {w0 w : World} {q : Asn} {rs : List (Nat × Int)} (h : Sp w0 w (q :: rs.map oneP)) (hI : ∀ r ∈ rs, I64 r.2) : ClsV w (rs.reverse.map oneV) (rs.reverse.map fun r => [r.2]) :=
  ⟨by simp, fun j hj => by
    have hj2 : j < rs.length := by simpa using hj
    have hk : (rs.reverse)[j]? = some (rs.reverse[j]'(by simpa using hj2)) := List.getElem?_eq_getElem _
    obtain ⟨r, hr⟩ : ∃ r, rs.reverse[j]'(by simpa using hj2) = r := ⟨_, rfl⟩
    rw [hr] at hk
    have hk2 : rs[rs.length - 1 - j]? = some r := by rw [List.getElem?_reverse hj2] at hk; exact hk
    have hb := h.box (i := rs.length - 1 - j + 1) (b := r.1) (t := 3) (cs := #[.int .i64 r.2]) (by rw [List.getElem?_cons_succ, List.getElem?_map, hk2]; rfl)
    have hmem : r ∈ rs := List.mem_of_getElem? hk2
    refine ⟨some ⟨r.1, 0, none⟩, 1, by rw [List.getElem?_map, hk]; simp, ?_⟩
    simp only [List.getElem_map, hr]
    exact ints_lone (by simp [World.cell?, hb.2.2]) (hI r hmem)⟩
theorem any_same {α : Type} {p q : α → Bool} {l : List α} (h : ∀ x ∈ l, p x = q x) : l.any p = l.any q := by
  rw [Bool.eq_iff_iff, List.any_eq_true, List.any_eq_true]
  exact ⟨fun ⟨x, h1, h2⟩ => ⟨x, h1, by rw [← h x h1]; exact h2⟩, fun ⟨x, h1, h2⟩ => ⟨x, h1, by rw [h x h1]; exact h2⟩⟩
theorem mod_negs {xss : List (List Int)} {c : List Int} {b : Nat} (hc : ∀ l ∈ c, l ≠ 0) : modT (xss ++ c.map fun l => [-l]) b = (!clT c b && modT xss b) := by
  have h2 : modT (c.map fun l => [-l]) b = !clT c b := by
    unfold modT clT
    rw [List.all_map, List.all_eq_not_any_not]
    congr 1
    refine any_same fun l hl => ?_
    · have h0 := hc l hl
      simp only [Function.comp, List.any_cons, List.any_nil, Bool.or_false]
      unfold litT
      rw [Int.natAbs_neg]
      by_cases hp : 0 < l
      · rw [decide_eq_true hp, decide_eq_false (by omega)]
        cases b.testBit (l.natAbs - 1) <;> rfl
      · rw [decide_eq_false hp, decide_eq_true (by omega)]
        cases b.testBit (l.natAbs - 1) <;> rfl
  have h3 : modT (xss ++ c.map fun l => [-l]) b = (modT xss b && modT (c.map fun l => [-l]) b) := by
    unfold modT
    rw [List.all_append]
  rw [h3, h2, Bool.and_comm]

/- left out: the seat has no impl.implies -/

/- left out: the seat has no impl.ImpliesClause -/
end Go.Proofs.Ytkhopkonddgicaa

/- A part of the memory brought to the front. No program in sight. -/
namespace Go.Proofs.Ytkhopkonddgicaa
open Go.RowKit

theorem sep_bring {w : World} : ∀ {ps : List Asn} {F : List Nat} {i : Nat} {q : Asn}, sep ps w F → ps[i]? = some q → ∃ F', sep (q :: ps.eraseIdx i) w F' ∧ ∀ b ∈ F', b ∈ F
  | [], _, _, _, _, h => by simp at h
  | p :: ps, F, 0, q, h, hi => by
    simp at hi; subst hi
    exact ⟨F, h, fun _ h => h⟩
  | p :: ps, _, i + 1, q, h, hi => by
    obtain ⟨F1, F2, rfl, hd, h1, h2⟩ := h
    obtain ⟨F', ⟨F3, F4, rfl, hd', h3, h4⟩, hs⟩ := sep_bring (i := i) h2 (by simpa using hi)
    refine ⟨F3 ++ (F1 ++ F4), ⟨F3, F1 ++ F4, rfl, fun b hb hb2 => ?_, h3, F1, F4, rfl, fun b hb hb2 => hd b hb (hs b (List.mem_append.2 (.inr hb2))), h1, h4⟩, fun b hb => ?_⟩
    · rcases List.mem_append.1 hb2 with h | h
      · exact hd b h (hs b (List.mem_append.2 (.inl hb)))
      · exact hd' b hb h
    · simp only [List.mem_append] at hb ⊢
      rcases hb with h | h | h
      · exact .inr (hs b (List.mem_append.2 (.inl h)))
      · exact .inl h
      · exact .inr (hs b (List.mem_append.2 (.inr h)))
section
variable {w0 w w' : World} {ps : List Asn} {i j : Nat} {q : Asn}
/-- A part is brought to the front. -/
theorem Sp.bring (h : Sp w0 w ps) (hi : ps[i]? = some q) : Sp w0 w (q :: ps.eraseIdx i) := by
  obtain ⟨h1, F, h2, h3⟩ := h
  obtain ⟨F', h4, h5⟩ := sep_bring h2 hi
  exact ⟨h1, F', h4, fun b hb => h3 b (h5 b hb)⟩
end
/-- Parts are picked, by their places in what is left. -/
def pickQ : List Nat → List Asn → Option (List Asn)
  | [], _ => some []
  | i :: is, ps => match ps[i]? with
    | none => none
    | some q => match pickQ is (ps.eraseIdx i) with
      | none => none
      | some qs => some (q :: qs)
theorem sep_pick {w : World} : ∀ {is : List Nat} {ps qs : List Asn} {F : List Nat}, sep ps w F → pickQ is ps = some qs → ∃ F', sep qs w F' ∧ ∀ b ∈ F', b ∈ F
  | [], _, _, _, _, hq => by
    simp only [pickQ, Option.some.injEq] at hq
    subst hq
    exact ⟨[], rfl, by simp⟩
  | i :: is, ps, qs, F, h, hq => by
    unfold pickQ at hq
    cases hi : ps[i]? with
    | none => rw [hi] at hq; cases hq
    | some q =>
      rw [hi] at hq
      simp only at hq
      cases hr : pickQ is (ps.eraseIdx i) with
      | none => rw [hr] at hq; cases hq
      | some rs =>
        rw [hr] at hq
        simp only [Option.some.injEq] at hq
        subst hq
        obtain ⟨F1, ⟨F2, F3, rfl, hd, h1, h2⟩, hs⟩ := sep_bring h hi
        obtain ⟨F4, h3, h4⟩ := sep_pick h2 hr
        exact ⟨F2 ++ F4, ⟨F2, F4, rfl, fun b hb hb4 => hd b hb (h4 b hb4), h1, h3⟩, fun b hb => by
          rcases List.mem_append.1 hb with hb | hb
          · exact hs b (List.mem_append.2 (.inl hb))
          · exact hs b (List.mem_append.2 (.inr (h4 b hb)))⟩
theorem Sp.pick {w0 w : World} {ps qs : List Asn} (is : List Nat) (h : Sp w0 w ps) (hq : pickQ is ps = some qs) : Sp w0 w qs := by
  obtain ⟨h1, F, h2, h3⟩ := h
  obtain ⟨F', h4, h5⟩ := sep_pick h2 hq
  exact ⟨h1, F', h4, fun b hb => h3 b (h5 b hb)⟩
end Go.Proofs.Ytkhopkonddgicaa

/- Contracts: chosen clauses of a Cnf, and whether they are a core. -/
namespace Go.Proofs.Ytkhopkonddgicaa
open Go.RowKit

/-- The clauses with some indices. -/
def pickC (xss : List (List Int)) (is : List Nat) : List (List Int) := is.map fun i => xss.getD i []
def ofN (is : List Nat) : List Int := is.map fun (i : Nat) => (i : Int)
/-- The clauses with some indices have no model. -/
def coreB (n : Nat) (xss : List (List Int)) (is : List Nat) : Bool := !(List.range (2 ^ n)).any (modT (pickC xss is))
theorem ofN_len (is : List Nat) : (ofN is).length = is.length := by simp [ofN]
theorem ofN_get {is : List Nat} {k : Nat} (hk : k < is.length) : (ofN is)[k]'(by rw [ofN_len]; exact hk) = (is[k] : Int) := by simp [ofN]
theorem pick_len (xss : List (List Int)) (is : List Nat) : (pickC xss is).length = is.length := by simp [pickC]
theorem pick_take {xss : List (List Int)} {is : List Nat} {k : Nat} (hk : k < is.length) : pickC xss (is.take (k + 1)) = pickC xss (is.take k) ++ [xss.getD is[k] []] := by
  unfold pickC
  rw [List.take_succ_eq_append_getElem hk, List.map_append]; rfl
theorem pick_cls {xss : List (List Int)} {is : List Nat} (hc : ∀ c ∈ xss, ClS c) (hi : ∀ i ∈ is, i < xss.length) : ∀ c ∈ pickC xss is, ClS c := by
  intro c hc'
  obtain ⟨i, hm, rfl⟩ := List.mem_map.1 hc'
  have hlt := hi i hm
  rw [List.getD_eq_getElem?_getD, List.getElem?_eq_getElem hlt]
  exact hc _ (List.getElem_mem hlt)
theorem ClsV.snoc {w : World} {us : List Value} {xss yss : List (List Int)} {i : Nat} {B : Option Addr} {c : Nat} (h : ClsV w us yss) (hi : i < xss.length) (hI : IntsAt w B xss[i]) : ClsV w (us ++ [.slice B xss[i].length c]) (yss ++ [xss.getD i []]) := by
  have hg : xss.getD i [] = xss[i] := by rw [List.getD_eq_getElem?_getD, List.getElem?_eq_getElem hi]; rfl
  rw [hg]
  exact h.append ⟨rfl, fun j hj => by
    obtain rfl : j = 0 := by simpa using hj
    exact ⟨B, c, rfl, hI⟩⟩
/-- What 'chosen' gives. -/
def PickD (w : World) (xss : List (List Int)) (is : List Nat) (e : Ending) (w' : World) : Prop :=
  ∃ E ec us, e = .returned (.slice E is.length ec) ∧ ClsV w us (pickC xss is) ∧ Sp w w' [Own 45 1 (.slice E is.length ec) is.length us]
theorem PickD.cls {w w' : World} {xss : List (List Int)} {is : List Nat} {E : Option Addr} {ec : Nat} {us : List Value} (h : ClsV w us (pickC xss is)) (S : Sp w w' [Own 45 1 (.slice E is.length ec) is.length us]) : ClsAt w' E (pickC xss is) := by
  have h2 := S.own (i := 0) rfl
  rw [← pick_len xss is] at h2
  exact (h.keep S.below).own h2

/- left out: the seat has no impl.chosen -/

end Go.Proofs.Ytkhopkonddgicaa

/- Contracts: chosen clauses in the reference; cores on both sides. -/
namespace Go.Proofs.Ytkhopkonddgicaa
open Go.RowKit

/- left out: the seat has no spec.l5Some -/

/- left out: the seat has no impl.isCore -/

/- left out: the seat has no spec.l5Core -/
end Go.Proofs.Ytkhopkonddgicaa

/- Cores without superfluous clauses: plain facts. -/
namespace Go.Proofs.Ytkhopkonddgicaa
open Go.RowKit

/-- Each index in turn is left out if the rest is still a core. -/
def coreGo (P : List Nat → Bool) : List Nat → List Nat → List Nat
  | kept, [] => kept
  | kept, i :: rest => if P (kept ++ rest) then coreGo P kept rest else coreGo P (kept ++ [i]) rest
theorem coreGo_yes {P : List Nat → Bool} {kept rest : List Nat} {i : Nat} (h : P (kept ++ rest) = true) : coreGo P kept (i :: rest) = coreGo P kept rest := by rw [coreGo, if_pos h]
theorem coreGo_no {P : List Nat → Bool} {kept rest : List Nat} {i : Nat} (h : P (kept ++ rest) = false) : coreGo P kept (i :: rest) = coreGo P (kept ++ [i]) rest := by rw [coreGo, if_neg (by rw [h]; decide)]
theorem skip_mid {kept rest : List Nat} {i : Nat} : (kept ++ i :: rest).eraseIdx kept.length = kept ++ rest := by
  rw [List.eraseIdx_append_of_length_le (Nat.le_refl _), Nat.sub_self]; rfl
/-- A list is ascending, within a range. -/
def AscN (m : Nat) (l : List Nat) : Prop := l.Pairwise (· < ·) ∧ ∀ i ∈ l, i < m
theorem AscN.sub {m : Nat} {l l' : List Nat} (h : AscN m l) (hs : l'.Sublist l) : AscN m l' := ⟨h.1.sublist hs, fun i hi => h.2 i (hs.subset hi)⟩
theorem coreGo_sub (P : List Nat → Bool) : ∀ (rest kept : List Nat), (coreGo P kept rest).Sublist (kept ++ rest)
  | [], kept => by rw [coreGo, List.append_nil]; exact List.Sublist.refl _
  | i :: rest, kept => by
    rw [coreGo]
    split
    · exact (coreGo_sub P rest kept).trans (List.Sublist.append_left (List.sublist_cons_self _ _) _)
    · have := coreGo_sub P rest (kept ++ [i])
      rwa [List.append_assoc] at this
theorem coreGo_kept (P : List Nat → Bool) : ∀ (rest kept : List Nat), ∃ t, coreGo P kept rest = kept ++ t ∧ t.Sublist rest
  | [], kept => ⟨[], by rw [coreGo, List.append_nil], List.Sublist.refl _⟩
  | i :: rest, kept => by
    rw [coreGo]
    split
    · obtain ⟨t, h1, h2⟩ := coreGo_kept P rest kept
      exact ⟨t, h1, h2.trans (List.sublist_cons_self _ _)⟩
    · obtain ⟨t, h1, h2⟩ := coreGo_kept P rest (kept ++ [i])
      exact ⟨i :: t, by rw [h1, List.append_assoc]; rfl, h2.cons_cons i⟩
/-- What is left is a core, if all was. -/
theorem coreGo_core {P : List Nat → Bool} : ∀ (rest kept : List Nat), P (kept ++ rest) = true → P (coreGo P kept rest) = true
  | [], kept, h => by rw [coreGo]; rwa [List.append_nil] at h
  | i :: rest, kept, h => by
    rw [coreGo]
    split
    · rename_i h2; exact coreGo_core rest kept h2
    · refine coreGo_core rest (kept ++ [i]) ?_
      rwa [List.append_assoc]
/-- None of what is left is superfluous. -/
theorem coreGo_min {P : List Nat → Bool} (hP : ∀ a b : List Nat, a.Sublist b → P a = true → P b = true) : ∀ (rest kept : List Nat), (∀ k, k < kept.length → ∀ t, t.Sublist rest → P (kept.eraseIdx k ++ t) = false) →
    ∀ k, k < (coreGo P kept rest).length → P ((coreGo P kept rest).eraseIdx k) = false
  | [], kept, h, k, hk => by
    rw [coreGo] at hk ⊢
    have := h k hk [] (List.Sublist.refl _)
    rwa [List.append_nil] at this
  | i :: rest, kept, h, k, hk => by
    rw [coreGo] at hk ⊢
    split
    · rename_i h2
      rw [if_pos h2] at hk
      exact coreGo_min hP rest kept (fun j hj t ht => h j hj t (ht.trans (List.sublist_cons_self _ _))) k hk
    · rename_i h2
      rw [if_neg h2] at hk
      refine coreGo_min hP rest (kept ++ [i]) (fun j hj t ht => ?_) k hk
      rw [List.length_append] at hj
      by_cases hjl : j < kept.length
      · rw [List.eraseIdx_append_of_lt_length hjl, List.append_assoc]
        exact h j hjl (i :: t) (ht.cons_cons i)
      · obtain rfl : j = kept.length := by simp at hj; omega
        rw [skip_mid (rest := []), List.append_nil]
        cases hb : P (kept ++ t)
        · rfl
        · exact absurd (hP _ _ (List.Sublist.append_left ht kept) hb) h2
theorem core_mono {n : Nat} {xss : List (List Int)} {a b : List Nat} (h : a.Sublist b) (ha : coreB n xss a = true) : coreB n xss b = true := by
  unfold coreB at *
  rw [Bool.not_eq_true', List.any_eq_false] at *
  intro m hm
  have h2 := ha m hm
  intro hb
  refine h2 ?_
  unfold modT pickC at *
  rw [List.all_eq_true] at *
  intro c hc
  obtain ⟨i, hi, rfl⟩ := List.mem_map.1 hc
  exact hb _ (List.mem_map.2 ⟨i, h.subset hi, rfl⟩)
theorem pick_range (xss : List (List Int)) : pickC xss (List.range xss.length) = xss := by
  unfold pickC
  apply List.ext_getElem
  · simp
  · intro i h1 h2
    simp [List.getD_eq_getElem?_getD, h2]
theorem core_all {n : Nat} {xss : List (List Int)} : coreB n xss (List.range xss.length) = !(List.range (2 ^ n)).any (modT xss) := by
  unfold coreB
  rw [pick_range]
theorem range_asc (m : Nat) : AscN m (List.range m) := ⟨List.pairwise_lt_range, fun _ hi => List.mem_range.1 hi⟩
end Go.Proofs.Ytkhopkonddgicaa

/- Contract: slices.DeleteFunc at an own row of numbers, with a function that may make memory. -/
namespace Go.Proofs.Ytkhopkonddgicaa
open Go.RowKit

theorem set_get {α : Type} {l : List α} {i : Nat} {q : α} (h : l[i]? = some q) : l.set i q = l := by
  apply List.ext_getElem?
  intro j
  rw [List.getElem?_set]
  split
  · rename_i e
    subst e
    have := (List.getElem?_eq_some_iff.1 h).1
    rw [if_pos this, h]
  · rfl
theorem set_at {α : Type} {l : List α} {i : Nat} {q : α} (h : l[i]? = some q) (p : α) : (l.set i p)[i]? = some p := by
  have := (List.getElem?_eq_some_iff.1 h).1
  rw [List.getElem?_set_self this]
theorem Sp.own_puts {w0 : World} {g cap n size : Nat} {e : TypeId} {i : Nat} : ∀ (us : List Value) (o : Nat) (w : World) (ps : List Asn) (xs : List Value), Sp w0 w ps → ps[i]? = some (Own e size (.slice (some ⟨g, 0, none⟩) n cap) n xs) → o + us.length ≤ n * size →
    ∃ xs', Sp w0 (w.setCells g o us) (ps.set i (Own e size (.slice (some ⟨g, 0, none⟩) n cap) n xs')) ∧ xs'.take o = xs.take o ∧ Chg [g] w (w.setCells g o us)
  | [], o, w, ps, xs, h, hi, _ => ⟨xs, by rw [set_get hi]; exact h, rfl, Chg.refl _ _⟩
  | u :: us, o, w, ps, xs, h, hi, hl => by
    have h1 := h.own_put hi u (o := o) (by simp at hl; omega)
    obtain ⟨xs', h2, h3, h4⟩ := Sp.own_puts us (o + 1) _ _ _ h1 (set_at hi _) (by simp at hl; omega)
    refine ⟨xs', by rw [World.setCells]; rwa [List.set_set] at h2, ?_, by rw [World.setCells]; exact ((Chg.refl [g] w).set (p := ⟨g, o, none⟩) (by simp) u).trans h4⟩
    have := congrArg (List.take o) h3
    rw [List.take_take, List.take_take, Nat.min_eq_left (by omega)] at this
    rw [this, List.take_set_of_le (Nat.le_refl _)]
theorem Sp.own_cut {w0 w : World} {g cap n m : Nat} {e : TypeId} {i : Nat} {ps : List Asn} {xs : List Value} (h : Sp w0 w ps) (hi : ps[i]? = some (Own e 1 (.slice (some ⟨g, 0, none⟩) n cap) n xs)) (hm : m ≤ n) : Sp w0 w (ps.set i (Own e 1 (.slice (some ⟨g, 0, none⟩) m cap) m (xs.take m))) := by
  obtain ⟨F, ⟨rfl, hl, hh⟩, hF, hall⟩ := h.upd hi
  refine hall _ _ [g] (Chg.refl _ _) ⟨rfl, by rw [List.length_take, hl]; omega, .inr ?_⟩ (fun b hb => .inl hb)
  rcases hh with ⟨h1, _⟩ | ⟨g', cap', cur, e1, h0, hg, hn, hmx, hc, ht⟩
  · cases h1
  · simp only [Value.slice.injEq, Option.some.injEq, Addr.mk.injEq] at e1
    obtain ⟨⟨rfl, _⟩, _, rfl⟩ := e1
    refine ⟨g, cap, cur, rfl, Nat.zero_le _, hg, by omega, hmx, hc, ?_⟩
    rw [← ht, List.take_take, Nat.mul_one, Nat.mul_one, Nat.min_eq_left hm]
/-- The state of DeleteFunc's loop: i kept elements stand ahead, from j on nothing has turned. -/
def DelInv (p : Int → Bool) (xs : List Int) (i j : Nat) (ys : List Value) : Prop :=
  i < j ∧ ys.length = xs.length ∧ ys.take i = ((xs.take j).filter fun x => !p x).map (.int .i64) ∧ i = ((xs.take j).filter fun x => !p x).length ∧ ∀ k, j ≤ k → ys[k]? = (xs.map (Value.int .i64))[k]?
theorem DelInv.start {p : Int → Bool} {xs : List Int} {k : Nat} (hk : k < xs.length) (h1 : p xs[k] = true) (h0 : (xs.take k).any p = false) : DelInv p xs k (k + 1) (xs.map (.int .i64)) := by
  have hf : ((xs.take (k + 1)).filter fun x => !p x) = xs.take k := by
    rw [List.take_succ_eq_append_getElem hk, List.filter_append, List.filter_eq_self.2]
    · simp [h1]
    · intro x hx
      have := List.any_eq_false.1 h0 x hx
      simpa using this
  exact ⟨by omega, by simp, by rw [hf, List.map_take], by rw [hf, List.length_take]; omega, fun _ _ => rfl⟩
theorem DelInv.keep {p : Int → Bool} {xs : List Int} {i j : Nat} {ys : List Value} (h : DelInv p xs i j ys) (hj : j < xs.length) (h1 : p xs[j] = false) : DelInv p xs (i + 1) (j + 1) (ys.set i (.int .i64 xs[j])) := by
  obtain ⟨a1, a2, a3, a4, a5⟩ := h
  have hf : ((xs.take (j + 1)).filter fun x => !p x) = ((xs.take j).filter fun x => !p x) ++ [xs[j]] := by
    rw [List.take_succ_eq_append_getElem hj, List.filter_append]
    simp [h1]
  refine ⟨by omega, by simp [a2], ?_, by rw [hf]; simp [← a4], fun k hk => ?_⟩
  · rw [hf, List.map_append, ← a3, List.take_succ_eq_append_getElem (by simp; omega), List.take_set_of_le (Nat.le_refl _)]
    simp
  · rw [List.getElem?_set_ne (by omega)]
    exact a5 k (by omega)
theorem DelInv.skip {p : Int → Bool} {xs : List Int} {i j : Nat} {ys : List Value} (h : DelInv p xs i j ys) (hj : j < xs.length) (h1 : p xs[j] = true) : DelInv p xs i (j + 1) ys := by
  obtain ⟨a1, a2, a3, a4, a5⟩ := h
  have hf : ((xs.take (j + 1)).filter fun x => !p x) = ((xs.take j).filter fun x => !p x) := by
    rw [List.take_succ_eq_append_getElem hj, List.filter_append]
    simp [h1]
  exact ⟨by omega, a2, by rw [hf]; exact a3, by rw [hf]; exact a4, fun k hk => a5 k (by omega)⟩

/- left out: the seat has no slices.DeleteFunc[[]int,int] -/
end Go.Proofs.Ytkhopkonddgicaa

/- Contracts: lists of indices in the program: all of them, one left out, the place of one. -/
namespace Go.Proofs.Ytkhopkonddgicaa
open Go.RowKit Go.Shelf

/- left out: the seat has no slices.Delete[[]int,int] -/

/- left out: the seat has no slices.Delete[[]int,int] -/

theorem putCells_take {α : Type} [Inhabited α] (enc : α → Value) (d : Array α) (c : Array Value) {m : Nat} (hm : m ≤ d.size) (hd : d.size ≤ c.size) : (Sort.putCells enc 0 d c).toList.take m = (d.toList.map enc).take m := by
  unfold Sort.putCells
  apply List.ext_getElem
  · simp; omega
  · intro i h1 h2
    have hi : i < m := by simp at h1; omega
    have hid : i < d.size := by omega
    simp [hid]
/-- A row that is laid anew and cut. -/
theorem Sp.own_putRow {α : Type} [Inhabited α] {w0 w : World} {g cap n m q i : Nat} {e : TypeId} {ps : List Asn} {xs : List Value} (enc : α → Value) (d : Array α) (h : Sp w0 w ps) (hi : ps[i]? = some (Own e 1 (.slice (some ⟨g, 0, none⟩) n cap) n xs)) (hd : d.size ≤ n) (hm : m ≤ d.size) (hn : 0 < n) :
    Sp w0 (Sort.putRow enc (Sort.ahead w q) g 0 d) (ps.set i (Own e 1 (.slice (some ⟨g, 0, none⟩) m cap) m ((d.toList.map enc).take m))) := by
  obtain ⟨F, ⟨rfl, hh⟩, hF, hall⟩ := h.upd hi
  obtain ⟨g', cap', cur, e1, h0, hg, hnc, hmx, hc, ht⟩ := own_block hh hn
  simp only [Value.slice.injEq, Option.some.injEq, Addr.mk.injEq] at e1
  obtain ⟨⟨rfl, _⟩, _, rfl⟩ := e1
  refine hall _ _ [g] ⟨rfl, rfl, rfl, by simp [Sort.putRow, Sort.mapBlock, Sort.ahead], fun k _ hk => ?_⟩ ⟨rfl, ?_, .inr ⟨g, cap, Sort.putCells enc 0 d cur, rfl, Nat.zero_le _, ?_, by omega, hmx, ?_, ?_⟩⟩ (fun b hb => .inl hb)
  · have hne : g ≠ k := fun e => hk (by simp [Value.ownBlock, e])
    simp only [Sort.putRow, Sort.mapBlock, Sort.ahead, Array.getElem?_modify]
    rw [if_neg hne]
  · rw [List.length_take, List.length_map, Array.length_toList]; omega
  · simp only [Sort.putRow, Sort.mapBlock, Sort.ahead, Array.getElem?_modify, if_true, hg, Option.map_some, Sort.onCells]
  · unfold Sort.putCells; simp [hc]
  · rw [Nat.mul_one]
    exact putCells_take enc d cur hm (by omega)

/- left out: the seat has no slices.Clone[[]int,int] -/

/- left out: the seat has no impl.without[int] -/

set_option maxRecDepth 100000 in
set_option maxHeartbeats 4000000 in
theorem indexI_any (A : Option Addr) (n cap p : Nat) (xs : List Int) (x : Int) (w : World) (hx : IntsAt w A xs) (hn : xs.length = n) (hl : n ≤ 1000000) (hp : xs[p]? = some x) (hno : ∀ j, j < p → xs[j]? ≠ some x) :
    Calls Try.prog 91 #[.slice A n cap, .int .i64 x] w fun e w' => e = .returned (.int .i64 p) ∧ w' = w := by
  have hpl : p < n := by rw [← hn]; exact (List.getElem?_eq_some_iff.1 hp).1
  have hI := Lib.hid hx
  have hnH := Lib.hid hn
  have hpH := Lib.hid hp
  have hnoH := Lib.hid hno
  clear hx hn hp hno
  go_enter Try.func91, Try.ntmps91
  go_wp2_with fail
  go_loopw [5, 8] (fun _ vi wr => ∃ k : Nat, k ≤ p ∧ vi = .int .i64 k ∧ wr = w) (fun _ vi _ => n - (intOf vi).toNat)
  case atStart => exact ⟨0, Nat.zero_le _, rfl, rfl⟩
  case round =>
    obtain ⟨k, hk, rfl, rfl⟩ := hrel
    have hkn : k < n := by omega
    have hkx : k < xs.length := by rw [hnH.out]; exact hkn
    obtain ⟨b, off, rfl, m0⟩ := hI.out.at_ k hkx
    by_cases hkp : k = p
    · subst hkp
      have hv : xs[k] = x := by have := hpH.out; rw [List.getElem?_eq_getElem hkx] at this; simpa using this
      rw [hv] at m0
      have d1 : (x == x) = true := by simp
      clear hv
      go_wp2_with fail
      go_ret
      exact ⟨rfl, rfl⟩
    · have hv : xs[k] ≠ x := fun e => hnoH.out k (by omega) (by rw [List.getElem?_eq_getElem hkx, e])
      generalize xs[k] = y at *
      have d1 : (x == y) = false := by simpa using fun e => hv e.symm
      have d2 : decide (x = y) = false := decide_eq_false fun e => hv e.symm
      clear hv
      go_wp2_with fail
      go_roundw
      case rel => exact ⟨k + 1, by omega, by go_num, by first | rfl | trivial⟩
      case measure => simp [intOf]; omega
end Go.Proofs.Ytkhopkonddgicaa

/- Contract: where a needed gate lies among the needed ones. -/
namespace Go.Proofs.Ytkhopkonddgicaa
open Go.RowKit

theorem natI_at {l : List Nat} {j : Nat} {x : Nat} : (natI l)[j]? = some (x : Int) ↔ l[j]? = some x := by
  unfold natI
  rw [List.getElem?_map]
  cases h : l[j]? with
  | none => simp
  | some y => simp only [Option.map_some, Option.some.injEq]; omega
theorem trimLook_any (b k cap : Nat) (A : Option Addr) (need : List Nat) (hk : k ∈ need) (hl : need.length ≤ 1000000) (w : World) (h0 : w.cell? ⟨b, 0, none⟩ = some (.slice A need.length cap)) (hx : IntsAt w A (natI need)) :
    Calls Try.prog 90 #[.int .i64 k, .pointer (some ⟨b, 0, none⟩)] w fun e w' => e = .returned (.int .i64 (need.idxOf k : Nat)) ∧ Below w.heap.size w w' := by
  have hi := List.idxOf_lt_length_of_mem hk
  have hcall := Lib.hid (indexI_any A need.length cap (need.idxOf k) (natI need) k w hx (natI_len need) hl (natI_at.2 (by rw [List.getElem?_eq_getElem hi, List.getElem_idxOf hi])) (fun j hj e => by
    have h2 := natI_at.1 e
    have hjl : j < need.length := by omega
    rw [List.getElem?_eq_getElem hjl] at h2
    have h3 := List.not_of_lt_findIdx (p := fun x => x == k) (xs := need) hj
    rw [Option.some.inj h2] at h3
    simp at h3))
  clear hx
  go_enter Try.func90, Try.ntmps90
  go_wp2_with fail
  refine hcall.out.mono ?_
  rintro e w1 ⟨rfl, rfl⟩
  go_wp2_with fail
  go_ret
  exact ⟨rfl, bb _⟩
end Go.Proofs.Ytkhopkonddgicaa

/- Contract: the needed gates. -/
namespace Go.Proofs.Ytkhopkonddgicaa
open Go.RowKit Go.Shelf

attribute [local go_sem] Oper.semAt_some

theorem keeps_below {W W' : World} (h : Below W.heap.size W W') : KeepsOthers W W' := ⟨h.size, fun k _ hk _ => (h.block k (Array.getElem?_eq_some_iff.1 hk).1).trans hk⟩
/-- A part has no block of this type. -/
def NotOf (t : TypeId) (q : Asn) : Prop := ∀ w F, q.p w F → ∀ b ∈ F, ∀ cs r, w.heap[b]? ≠ some (.cells cs t r)
theorem notOf_box {b : Nat} {t t' : TypeId} {cs : Array Value} (h : t' ≠ t) : NotOf t (Box b t' cs) := by
  rintro w F ⟨rfl, hh⟩ b' hb cs' r he
  obtain rfl : b' = b := by simpa using hb
  rw [hh] at he
  cases he
  exact h rfl
theorem notOf_own {e t : TypeId} {size n : Nat} {v : Value} {xs : List Value} (h : e ≠ t) : NotOf t (Own e size v n xs) := by
  rintro w F ⟨rfl, -, ⟨rfl, -⟩ | ⟨g, cap, cur, rfl, -, hh, -⟩⟩ b hb cs r he
  · simp [Value.ownBlock] at hb
  · obtain rfl : b = g := by simpa [Value.ownBlock] using hb
    rw [hh] at he
    cases he
    exact h rfl
theorem sep_notOf {t : TypeId} {w : World} : ∀ {ps : List Asn} {F : List Nat}, sep ps w F → (∀ q ∈ ps, NotOf t q) → ∀ b ∈ F, ∀ cs r, w.heap[b]? ≠ some (.cells cs t r)
  | [], _, h, _ => by subst h; simp
  | q :: ps, _, h, hq => by
    obtain ⟨F1, F2, rfl, _, h1, h2⟩ := h
    intro b hb
    rcases List.mem_append.1 hb with hb | hb
    · exact hq q (by simp) w F1 h1 b hb
    · exact sep_notOf h2 (fun x hx => hq x (by simp [hx])) b hb
/-- A block of another type is a part of its own. -/
theorem Sp.add_box {w0 W : World} {ps : List Asn} {Bx : Nat} {t : TypeId} {cs : Array Value} (h : Sp w0 W ps) (hq : ∀ q ∈ ps, NotOf t q) (hl : w0.heap.size ≤ Bx) (hb : W.heap[Bx]? = some (.cells cs t (0, 0))) : Sp w0 W (Box Bx t cs :: ps) := by
  obtain ⟨h1, F, h2, h3⟩ := h
  refine ⟨h1, [Bx] ++ F, ⟨[Bx], F, rfl, fun b hb1 hb2 => ?_, ⟨rfl, hb⟩, h2⟩, fun b hm => ?_⟩
  · obtain rfl : b = Bx := by simpa using hb1
    exact sep_notOf h2 hq b hb2 _ _ hb
  · rcases List.mem_append.1 hm with hm | hm
    · obtain rfl : b = Bx := by simpa using hm
      exact hl
    · exact h3 b hm
theorem below_both {n : Nat} {w A B : World} (h : Below n w A) (k : Below n w B) (hs : A.heap.size ≤ B.heap.size) : Below n A B :=
  ⟨k.os.trans h.os.symm, k.tape.trans h.tape.symm, k.output.trans h.output.symm, hs, fun b hb => (k.block b hb).trans (h.block b hb).symm⟩
theorem own_cells {w : World} {B : Nat} {e : TypeId} {size : Nat} {v : Value} {n : Nat} {xs : List Value} (h : w.ownsRow B e size v n xs) : ∀ (j : Nat) (o : Obj), v.ownBlock = some j → (w.heap[j]? = some o) → o.isCells = true := by
  intro j o hj ho
  obtain ⟨-, ⟨rfl, -⟩ | ⟨g, cap, cur, rfl, -, hh, -⟩⟩ := h
  · simp [Value.ownBlock] at hj
  · obtain rfl : g = j := by simpa [Value.ownBlock] using hj
    rw [hh] at ho
    cases ho
    rfl
theorem bools_ne {w0 W : World} {ps : List Asn} {i g n b o : Nat} {t : TypeId} {f : Nat → Bool} {z : Int} (h : Sp w0 W ps) (hi : ps[i]? = some (Box g t (boolsA n f))) (hc : W.cell? ⟨b, o, none⟩ = some (.int .i64 z)) : b ≠ g := by
  rintro rfl
  simp only [World.cell?, (h.box hi).2.2] at hc
  have := hc
  simp only [boolsA, List.getElem?_toArray, List.getElem?_map] at this
  cases hr : (List.range n)[o]? with
  | none => rw [hr] at this; simp at this
  | some m => rw [hr] at this; simp at this
theorem ints_ne {w0 W : World} {ps : List Asn} {i g n : Nat} {t : TypeId} {f : Nat → Bool} {A : Option Addr} {cs : List Int} (h : Sp w0 W ps) (hi : ps[i]? = some (Box g t (boolsA n f))) (hx : IntsAt W A cs) (hne : cs ≠ []) : ∀ a, A = some a → a.block ≠ g := by
  intro a ha
  obtain ⟨b, off, e, hc⟩ := hx.at_ 0 (List.length_pos_iff.2 hne)
  rw [ha] at e
  cases e
  exact bools_ne h hi hc

theorem keeps_putRow {w : World} {g q : Nat} {d : Array Int} {cs : Array Value} {t : TypeId} {r : Nat × Nat} (h : w.heap[g]? = some (.cells cs t r)) : KeepsOthers w (Sort.putRow (Value.int .i64) (Sort.ahead w q) g 0 d) := by
  refine ⟨by simp [Sort.putRow, Sort.mapBlock, Sort.ahead], fun k o hk ho => ?_⟩
  have hne : g ≠ k := by
    rintro rfl
    rw [h] at hk
    cases hk
    cases ho
  simp only [Sort.putRow, Sort.mapBlock, Sort.ahead, Array.getElem?_modify]
  rw [if_neg hne]
  exact hk
theorem reverseI_any (xs : List Int) (B : Option Addr) (cc : Nat) (w0 w : World) (ps : List Asn) (S : Sp w0 w (Own 3 1 (.slice B xs.length cc) xs.length (xs.map (.int .i64)) :: ps)) (hl : xs.length ≤ 1000000) (h0 : 0 < xs.length) :
    Calls Try.prog 97 #[.slice B xs.length cc] w fun e w' => e = .returned (.tuple #[]) ∧ Sp w0 w' (Own 3 1 (.slice B xs.length cc) xs.length (xs.reverse.map (.int .i64)) :: ps) ∧ KeepsOthers w w' := by
  obtain ⟨g, cap, cur, e1, h0', hg, hnc, hmx, hc, ht⟩ := own_block (S.own (i := 0) rfl) h0
  simp only [Value.slice.injEq] at e1
  obtain ⟨rfl, -, rfl⟩ := e1
  have hH : Sort.Holds (Value.int .i64) w g 0 xs.toArray := fun j hj => by
    have hj' : j < xs.length := by simpa using hj
    have h := own_at hg ht (o := j) (by omega)
    rw [getElem!_pos xs.toArray j hj, Nat.zero_add]
    exact ⟨h.1.trans (by rw [List.getElem?_map, List.getElem?_eq_getElem hj']; rfl), h.2⟩
  refine (Try.slices_Reverse_int g 0 cc xs w hH (by omega)).mono ?_
  rintro e w' ⟨rfl, q, rfl⟩
  have h := S.own_putRow (i := 0) (q := q) (m := xs.length) (Value.int .i64) xs.reverse.toArray rfl (by simp) (by simp) h0
  refine ⟨rfl, ?_, keeps_putRow hg⟩
  have e2 : ((xs.reverse.toArray.toList.map (Value.int .i64)).take xs.length) = xs.reverse.map (.int .i64) := by
    rw [List.toList_toArray, List.take_of_length_le (by simp)]
  rw [e2] at h
  exact h

/-- What lies in memory while the gates are looked at. -/
abbrev NeedSp (w : World) (A : Option Addr) (c : Nat) (gs : List Gt) (s : (Nat → Bool) × List Nat) (sv : Value) (W : World) : Prop :=
  Sp w W [Box w.heap.size 4 (boolsA gs.length s.1), Box (w.heap.size + 1) 73 #[.slice (some ⟨w.heap.size, 0, none⟩) gs.length gs.length], Box (w.heap.size + 1 + 1) 45 #[sv], Own 3 1 sv s.2.length ((natI s.2).map (.int .i64)), Box (w.heap.size + 1 + 1 + 1) 28 #[.slice A gs.length c]]

set_option maxRecDepth 100000 in
set_option maxHeartbeats 8000000 in
theorem needed_any {vars : Int} (A : Option Addr) (c : Nat) (gs : List Gt) (w : World) (hx : GtAt w A gs) (hg : OkG vars gs) (hp : 0 < gs.length) (hl : gs.length ≤ 1000) (hv : vars ≤ 1000) :
    Calls Try.prog 65 #[.slice A gs.length c] w fun e w' => ∃ v, e = .returned v ∧ Sp w w' [Own 3 1 v (needL gs).length ((natI (needL gs)).map (.int .i64))] := by
  have h1 : 1 ≤ 10 := by omega
  obtain ⟨i0, hi0, hy0, hy1, hy2⟩ := info_parts infoInt
  obtain ⟨m, hm⟩ : ∃ m, gs.length = m + 1 := ⟨gs.length - 1, by omega⟩
  have hw : IntKind.i64.wrap ((gs.length : Int) - 1) = (m : Int) := by rw [show (gs.length : Int) - 1 = m by omega]; exact IntWalk.i64_in _ (by omega)
  have hmi : (m : Int) < gs.length := by omega
  have hml : m < gs.length := by omega
  replace hm := Lib.hid hm
  have hmk := fun W => mk_bools gs.length (by omega) (gs.length : Int) rfl W
  obtain ⟨M, hM⟩ : ∃ M, boolsA gs.length (fun _ => false) = M := ⟨_, rfl⟩
  rw [hM] at hmk
  have S0 := ((Sp.start w).alloc_box M 4).alloc_box #[.slice (some ⟨w.heap.size, 0, none⟩) gs.length gs.length] 73
  have k0 := S0.cell (i := 1) rfl (o := m) (by rw [← hM]; exact boolsA_get hml)
  have k1 := S0.frozen (i := 1) rfl m
  have hM2 : M.setIfInBounds m (.bool true) = boolsA gs.length (needF gs (([] : List (Fin gs.length)).map Fin.val)).1 := by
    rw [← hM, boolsA_set]
    refine boolsA_congr fun j _ => ?_
    have hm2 := hm.out
    by_cases e : j = m
    · simp [needF, e, show m = gs.length - 1 by omega]
    · simp [needF, e, show ¬ j = gs.length - 1 by omega]
  have S2 := (((((Sp.start w).alloc_box (M.setIfInBounds m (.bool true)) 4).alloc_box #[.slice (some ⟨w.heap.size, 0, none⟩) gs.length gs.length] 73).alloc_box #[.slice none 0 0] 45).alloc_box #[.slice A gs.length c] 28).own_nil 3 1
  simp only [World.size_alloc] at S2
  have S3 := S2.pick [4, 3, 2, 0, 0] rfl
  replace hM2 := Lib.hid hM2
  clear S0 S2
  refine (callsIn_wide (n := 10)).1 ?_
  refine callsIn_of_wp_marks Try.func65 rfl trivial ?_ rfl
  simp only [Try.ntmps65, List.size_toArray, List.length_cons, List.length_nil, Nat.reduceAdd, Nat.reduceSub, Array.replicate_succ, Array.replicate_zero, List.push_toArray, List.append_toArray, List.nil_append, List.cons_append]
  gi_wp2_with (refine ⟨trivial, ?_⟩; gi_at_call 95; refine (backward_in Fence.wide 9 trivial rfl _ _ _ _).mono ?_; rintro e w' ⟨rfl, rfl⟩)
  clear k0 k1 hmk
  have hlow : ∀ a, A = some a → a.block < w.heap.size := fun a ha => by
    obtain ⟨b, off, e, h0, -, -⟩ := hx.at_ 0 hp
    rw [ha] at e
    cases e
    exact World.block_lt_of_cell? _ _ h0
  obtain ⟨W0, hW0⟩ : ∃ W0, ((((w.alloc (.cells (M.setIfInBounds m (.bool true)) 4)).alloc (.cells #[.slice (some ⟨w.heap.size, 0, none⟩) gs.length gs.length] 73)).alloc (.cells #[.slice none 0 0] 45)).alloc (.cells #[.slice A gs.length c] 28)) = W0 := ⟨_, rfl⟩
  have hsz : W0.heap.size = w.heap.size + 4 := by rw [← hW0]; simp
  rw [hW0] at S3 ⊢
  rw [hM2.out] at S3
  clear hW0 hM2 hM
  have hBs := S3.cell (i := 4) rfl (o := 0) rfl
  have hI0 := hx.grow S3.below
  refine wpIn_rangeFunc_ownH (n := 10) rfl h1 (gf := 115) (lb := #[.pointer (some ⟨w.heap.size + 1 + 1 + 1, 0, none⟩)]) rfl trivial (enters_of Try.func115 (by kernel_rfl) rfl)
    (backward_stops Fence.wide 9 trivial rfl (by omega) (w.heap.size + 1 + 1 + 1) w.heap.size gs A c (by omega) W0 (by omega) hlow hBs hI0) keepB_t (keepB_b (by omega) (by omega)) (Below.refl _ _) (fun _ => rfl)
    (fun pre W => ∃ sv, NeedSp w A c gs (needF gs (pre.map Fin.val)) sv W)
    (fun _ _ _ => False)
    (sp_ownFrom _ (by omega) _ (fun s W ⟨sv, h⟩ => ⟨_, h, fun q hq => by
      simp only [List.mem_cons, List.not_mem_nil, or_false] at hq
      rcases hq with rfl | rfl | rfl | rfl | rfl
      · exact cellish_box _ _ _
      · exact cellish_box _ _ _
      · exact cellish_box _ _ _
      · exact cellish_own _ _ _ _ _
      · exact cellish_box _ _ _, fun W' h' => ⟨sv, h'⟩⟩))
    (fun _ _ _ _ _ hs _ _ => hs)
    ⟨_, S3⟩
    (fun x a' W => ∃ Bx, w.heap.size + 3 < Bx ∧ W.heap[Bx]? = some (.cells #[.int .i64 gs[x.val].k, .int .i64 gs[x.val].a, .int .i64 gs[x.val].b] 41 (0, 0)) ∧ a' = { tmps := #[.slice A gs.length c, undef, .slice none 0 0, .pointer (some ⟨w.heap.size + 1, 0, none⟩), .pointer (some ⟨w.heap.size + 1 + 1, 0, none⟩), .int .i64 (x.val : Int), .pointer (some ⟨Bx, 0, none⟩), undef, undef, .slice A gs.length c, .int .i64 gs.length, .slice (some ⟨w.heap.size, 0, none⟩) gs.length gs.length, .slice (some ⟨w.heap.size, 0, none⟩) gs.length gs.length, .slice A gs.length c, .int .i64 gs.length, .int .i64 m, .pointer (some ⟨w.heap.size, m, none⟩), .slice A gs.length c, .func (.func 115) #[] #[.pointer (some ⟨w.heap.size + 1 + 1 + 1, 0, none⟩)], .int .i64 (x.val : Int), gtV gs[x.val], undef, undef, undef, undef, undef, undef, undef, undef, undef, undef, undef, undef, undef, undef, undef, undef, undef, undef, undef, undef, undef, undef, undef], defers := [] })
    (fun x a' s X Y row hs hg hr => by
      obtain ⟨Bx, h1, h2, h3⟩ := hs
      exact ⟨Bx, h1, (hg.block Bx (Array.getElem?_eq_some_iff.1 h2).1 (fun e => by
        obtain ⟨-, o, ho, hc⟩ := hr Bx e.symm
        rw [h2] at ho
        cases ho
        cases hc)).trans h2, h3⟩)
    ?assign ?body ?done ?stop
  case assign =>
    rintro l pre x W K ⟨sv, hS⟩ hK
    unfold gtEncs
    gi_wp2
    refine hK _ _ ((KeepsOthers.alloc _ _).from _) ⟨?_, ?_⟩ ⟨sv, hS.alloc _⟩ ⟨W.heap.size, ?_, World.alloc_heap_new _ _, rfl⟩
    · exact (Below.refl _ W).alloc hS.below.size _
    · exact Below.heap_alloc W _ _ (hS.box (i := 4) rfl).2.1
    · have := (hS.box (i := 4) rfl).2.1; omega
  case body =>
    rintro l pre x a' W hl2 ⟨r, hr⟩ ⟨sv, hS⟩ ⟨Bx, hBx, hbx, rfl⟩ hlt
    have h1' : 1 ≤ 10 - 1 - 1 := by omega
    obtain ⟨x, hx2⟩ := x
    dsimp only at hbx ⊢
    have hsn : needF gs ((pre ++ [(⟨x, hx2⟩ : Fin gs.length)]).map Fin.val) = needStep gs (needF gs (pre.map Fin.val)) x := by rw [List.map_append, List.map_cons, List.map_nil, needF_snoc]
    have hnl := needF_len gs (pre.map Fin.val)
    rw [List.length_map] at hnl
    generalize needF gs (pre.map Fin.val) = s at hS hsn hnl
    obtain ⟨f, L⟩ := s
    have hgx := gtB_iff.1 (hg x hx2)
    have hins := ins_lt (hg x hx2)
    have hd : gs.getD x ⟨0, 0, 0⟩ = gs[x] := by rw [List.getD_eq_getElem?_getD, List.getElem?_eq_getElem hx2]; rfl
    have hsn2 : needStep gs (f, L) x = if f x then (fun j => f j || decide (j ∈ insG gs[x]), L ++ [x]) else (f, L) := by rw [← hd]; rfl
    rw [hsn2] at hsn
    clear hsn2 hd
    generalize gs[x] = g at hbx hgx hins hsn ⊢
    obtain ⟨gk, ga, gb⟩ := g
    dsimp only at hbx hgx hins hnl
    unfold NeedSp at hS
    dsimp only at hS
    have hS2 := hS.add_box (fun q hq => by
      simp only [List.mem_cons, List.not_mem_nil, or_false] at hq
      rcases hq with rfl | rfl | rfl | rfl | rfl
      · exact notOf_box (by decide)
      · exact notOf_box (by decide)
      · exact notOf_box (by decide)
      · exact notOf_own (by decide)
      · exact notOf_box (by decide)) (by omega) hbx
    have hxi : (x : Int) < gs.length := by omega
    have c0 := hS2.cell (i := 2) rfl (o := 0) rfl
    have c1 := hS2.cell (i := 1) rfl (o := x) (boolsA_get hx2)
    have hga : 0 ≤ ga ∧ ga ≤ 1000000 := by omega
    have hgb : 0 ≤ gb ∧ gb ≤ 1000000 := by omega
    replace hga := Lib.hid hga
    replace hgb := Lib.hid hgb
    replace hgx := Lib.hid hgx
    replace hsn := Lib.hid hsn
    replace hS2 := Lib.hid hS2
    clear hS hbx hI0 hBs S3
    (try dsimp only at c1)
    cases hfx : f x
    · rw [hfx] at c1
      gi_wp2
      refine ⟨KeepsFrom.refl _ _, ⟨Below.refl _ _, rfl⟩, sv, ?_⟩
      rw [hsn.out, hfx, if_neg (by decide)]
      exact hS2.out.tail
    rw [hfx] at c1
    obtain ⟨aS, cS, rfl⟩ := own_slice (hS2.out.own (i := 4) rfl)
    have c2 := hS2.out.cell (i := 3) rfl (o := 0) rfl
    have S3 := hS2.out.alloc_box #[.int .i64 x] 3
    have kB := S3.cell (i := 0) rfl (o := 0) rfl
    have d0 := S3.cell (i := 1) rfl (o := 0) rfl
    have d1 := S3.cell (i := 1) rfl (o := 1) rfl
    have d2 := S3.cell (i := 1) rfl (o := 2) rfl
    replace S3 := Lib.hid S3
    gi_wp2_with first | (gi_at_builtin; refine wpListIn_append_own_at _ rfl _ _ 45 rfl 0 3 i0 (.int .i64 0) 1 8 Try.underlying45 hi0 hy0 hy1 hy2 rfl (by decide) _ _ _ rfl (S3.out.own (i := 5) rfl) ⟨W.heap.size, 0, none⟩ 1 1 [.int .i64 x] rfl rfl (cell_one_new _ _ _) (by simp [Value.oneCell']) (by unfold maxLen; omega) (by omega) (Nat.zero_le _) ?_; intro vY wY hownY hgY _ hatY; have S4 := (S3.out.own_push (i := 5) rfl (bb _) hownY hgY hatY).tail; obtain ⟨aY, cY, rfl⟩ := own_slice hownY; replace S4 := Lib.hid S4; have e2 := S4.out.cell (i := 3) rfl (o := 0) rfl; have e3 := S4.out.frozen (i := 3) rfl 0; have u0 := S4.out.cell (i := 0) rfl (o := 0) rfl; have u1 := S4.out.cell (i := 0) rfl (o := 1) rfl; have u2 := S4.out.cell (i := 0) rfl (o := 2) rfl; have S5 := Lib.hid (S4.out.store (i := 3) rfl 0 (.slice aY (L.length + 1) cY)); have hKY := Lib.hid ((KeepsOthers.alloc W (.cells #[.int .i64 x] 3)).trans ((KeepsOthers.of_grownBy hgY (own_cells (S3.out.own (i := 5) rfl))).trans (KeepsOthers.setCell wY ⟨w.heap.size + 1 + 1, 0, none⟩ (.slice aY (L.length + 1) cY)))); clear S3 S4 hownY hgY hatY kB d0 d1 d2) | (refine ⟨trivial, ?_⟩; gi_at_call 96; refine (CallsIn.inRound l (callsIn_wide.2 (inputs_any ⟨gk, ga, gb⟩ hga.out hgb.out _))).mono ?_; rintro e w5 ⟨A5, c5, rfl, hI5, hb5⟩)
    have S6 := S5.out.grow hb5
    have hK6 := Lib.hid ((hKY.out.trans (keeps_below hb5)).from (w.heap.size + 4))
    have hI2 : (insG ⟨gk, ga, gb⟩).length ≤ 2 := by
      unfold insG
      split
      · simp
      · split
        · simp
        · simp
    generalize insG ⟨gk, ga, gb⟩ = I at hI5 hI2 hsn hins ⊢
    have hS7 : Sp w w5 [Box Bx 41 #[.int .i64 gk, .int .i64 ga, .int .i64 gb], Box w.heap.size 4 (boolsA gs.length (fun j => f j || decide (j ∈ I.take 0))), Box (w.heap.size + 1) 73 #[.slice (some ⟨w.heap.size, 0, none⟩) gs.length gs.length], Box (w.heap.size + 1 + 1) 45 #[.slice aY (L.length + 1) cY], Own 3 1 (.slice aY (L.length + 1) cY) (L.length + 1) ((natI L).map (.int .i64) ++ [.int .i64 x]), Box (w.heap.size + 1 + 1 + 1) 28 #[.slice A gs.length c]] := by
      rw [boolsA_congr (g := f) (fun j _ => by simp)]
      exact S6
    replace hS7 := Lib.hid hS7
    replace hI5 := Lib.hid hI5
    clear S5 S6 hKY hb5 hga hgb hgx c0 c1 c2
    gi_loopw [33] (fun i wr => ∃ q : Nat, q ≤ I.length ∧ i = .int .i64 q ∧ Hid (Sp w wr [Box Bx 41 #[.int .i64 gk, .int .i64 ga, .int .i64 gb], Box w.heap.size 4 (boolsA gs.length (fun j => f j || decide (j ∈ I.take q))), Box (w.heap.size + 1) 73 #[.slice (some ⟨w.heap.size, 0, none⟩) gs.length gs.length], Box (w.heap.size + 1 + 1) 45 #[.slice aY (L.length + 1) cY], Own 3 1 (.slice aY (L.length + 1) cY) (L.length + 1) ((natI L).map (.int .i64) ++ [.int .i64 x]), Box (w.heap.size + 1 + 1 + 1) 28 #[.slice A gs.length c]]) ∧ Hid (IntsAt wr A5 (natI I)) ∧ Hid (KeepsFrom (w.heap.size + 4) W wr)) (fun i _ => I.length - (intOf i).toNat)
    case atStart => exact ⟨0, Nat.zero_le _, rfl, hS7, hI5, hK6⟩
    case round =>
      obtain ⟨q, hq, rfl, hSr, hIr, hKr⟩ := hrel
      by_cases hlt : q < I.length
      · have hqi : (q : Int) < I.length := by omega
        have hnl2 := natI_len I
        obtain ⟨b, off, e, hc⟩ := hIr.out.at_ q (by omega)
        have hne := Lib.hid (ints_ne (i := 1) hSr.out rfl hIr.out (by intro e0; rw [e0] at hnl2; simp at hnl2; omega))
        subst e
        have hv2 : (natI I)[q]'(by omega) = ((I[q] : Nat) : Int) := by simp [natI]
        rw [hv2] at hc
        have hy := Nat.lt_trans (hins _ (List.getElem_mem hlt)) hx2
        have htk : I.take (q + 1) = I.take q ++ [I[q]] := by rw [List.take_succ_eq_append_getElem hlt]
        have htk2 := Lib.hid htk
        clear htk hv2
        generalize I[q] = y at hc hy htk2
        have hyi : (y : Int) < gs.length := by omega
        have t0 := hSr.out.cell (i := 2) rfl (o := 0) rfl
        have t1 := hSr.out.cell (i := 1) rfl (o := y) (boolsA_get hy)
        have t2 := hSr.out.frozen (i := 1) rfl y
        have SS := Lib.hid (hSr.out.store (i := 1) rfl y (.bool true))
        clear hSr
        gi_wp2
        go_roundw
        case rel =>
          refine ⟨q + 1, by omega, by first | rfl | simp, ?_, ?_, ?_⟩
          · have h := SS.out
            simp only [List.set_cons_zero, List.set_cons_succ] at h
            rw [boolsA_set] at h
            unfold Hid
            rw [htk2.out]
            rw [boolsA_congr (g := fun j => f j || decide (j ∈ I.take q ++ [y])) (fun j _ => by
              by_cases e : j = y
              · simp [e]
              · simp [e])] at h
            exact h
          · exact Lib.hid (hIr.out.set hne.out _ _)
          · exact Lib.hid (hKr.out.trans ((KeepsOthers.setCell _ _ _).from _))
        case measure => simp [intOf]; omega
      · obtain rfl : q = I.length := by omega
        gi_wp2
        have hf := hSr.out
        rw [List.take_length] at hf
        have hb1 := (hS2.out.box (i := 5) rfl).2.2
        have hb2 := (hf.box (i := 5) rfl).2.2
        refine ⟨by rw [hsz]; exact hKr.out, ⟨below_both hS2.out.below hf.below hKr.out.size, hb2.trans hb1.symm⟩, .slice aY (L.length + 1) cY, ?_⟩
        rw [hsn.out, hfx, if_pos rfl]
        unfold NeedSp
        have e1 : (L ++ [x]).length = L.length + 1 := by simp
        have e2 : natI (L ++ [x]) = natI L ++ [(x : Int)] := by simp [natI]
        dsimp only
        rw [e1, e2, List.map_append]
        exact hf.tail
  case done =>
    rintro D ys W hD rfl ⟨sv, hS⟩ hK
    rw [comeF_all] at hS
    have hneed : needL gs = (needF gs (downN gs.length)).2.reverse := rfl
    have hlast := (need_needs hg hp).2
    generalize needF gs (downN gs.length) = s at hS hneed
    obtain ⟨f, L⟩ := s
    unfold NeedSp at hS
    dsimp only at hS hneed
    have hnil : 0 < L.length := by
      rcases Nat.eq_zero_or_pos L.length with h0 | h0
      · rw [hneed, List.length_eq_zero_iff.1 h0] at hlast
        cases hlast
      · exact h0
    obtain ⟨aS, cS, rfl⟩ := own_slice (hS.own (i := 3) rfl)
    have hS2 := hS.pick [3, 2] rfl
    have hnl := natI_len L
    rw [← hnl] at hS2
    have hlen : L.length ≤ 1000 := by
      have h := asc_len (need_needs hg hp).1.asc (fun x hx => (need_needs hg hp).1.lt x hx)
      rw [hneed, List.length_reverse] at h
      omega
    have hrev := Lib.hid (reverseI_any (natI L) aS cS w W _ hS2 (by omega) (by omega))
    have c0 := hS2.cell (i := 1) rfl (o := 0) rfl
    rw [hnl] at hrev c0
    clear hS hS2 hI0 hBs S3
    replace hneed := Lib.hid hneed
    replace hlast := Lib.hid hlast
    gi_wp2_with (refine ⟨trivial, ?_⟩; gi_at_call 97; refine (callsIn_wide.2 hrev.out).mono ?_; rintro e w5 ⟨rfl, hS5, hk5⟩; have c1 := hS5.cell (i := 1) rfl (o := 0) rfl; replace hk5 := Lib.hid hk5; replace hS5 := Lib.hid hS5)
    have hK5 := hk5.out.same D _ hK rfl
    refine ⟨by simp, .inl ⟨_, _, rfl, run_takeDeferred hK5, ?_⟩⟩
    refine ⟨_, results_tmp rfl _ _ _, _, rfl, ?_⟩
    have hT := hS5.out.turn (B := w5.putObj D (.deferred none)) (fun q hq => by
      simp only [List.mem_cons, List.not_mem_nil, or_false] at hq
      rcases hq with rfl | rfl
      · exact cellish_own _ _ _ _ _
      · exact cellish_box _ _ _) (grownBy_putObj' w5 D (.deferred none)) (fun r e => by
      cases e
      exact ⟨by omega, _, hK5, rfl⟩)
    have e1 : (needL gs).length = L.length := by rw [hneed.out, List.length_reverse]
    have e2 : natI (needL gs) = (natI L).reverse := by rw [hneed.out]; simp [natI]
    rw [e1, e2]
    exact hT.pick [0] rfl
  case stop =>
    rintro D c pre W _ _ h _
    exact h.elim
end Go.Proofs.Ytkhopkonddgicaa

/- Contracts: the gates that a gate asks; a gate with other numbers. -/
namespace Go.Proofs.Ytkhopkonddgicaa
open Go.RowKit

/-- A function of numbers that only reads, at these arguments. -/
def NumFn (w0 : World) (f : FuncId) (cb : Array Value) (ks : List Nat) (φ : Nat → Nat) : Prop :=
  ∀ k ∈ ks, ∀ W, Below w0.heap.size w0 W → Calls Try.prog f (#[.int .i64 k] ++ cb) W fun e w' => e = .returned (.int .i64 (φ k : Nat)) ∧ Below W.heap.size W w'

set_option maxRecDepth 100000 in
set_option maxHeartbeats 8000000 in
theorem moved_any {f : FuncId} {cb : Array Value} (eg : Enter1 f) (φ : Nat → Nat) (g : Gt) (hg0 : ∀ k ∈ insG g, k ≤ 1000000) (ha : 0 ≤ g.a) (hb : 0 ≤ g.b) (w : World) (hf : NumFn w f cb (insG g) φ) :
    Calls Try.prog 51 #[gtV g, .func (.func f) #[] cb] w fun e w' => e = .returned (gtV (mvG φ g)) ∧ Below w.heap.size w w' := by
  obtain ⟨k, a', b'⟩ := g
  obtain ⟨a, rfl⟩ : ∃ a : Nat, a' = a := ⟨a'.toNat, by dsimp only at ha; omega⟩
  obtain ⟨b, rfl⟩ : ∃ b : Nat, b' = b := ⟨b'.toNat, by dsimp only at hb; omega⟩
  unfold Enter1 at eg
  have S0 := ((Sp.start w).alloc_box #[.int .i64 k, .int .i64 (a : Int), .int .i64 (b : Int)] 41).alloc_box #[.int .i64 0, .int .i64 0, .int .i64 0] 41
  simp only [World.size_alloc] at S0
  by_cases h4 : k = 4
  · subst h4
    have hM : mvG φ ⟨4, (a : Int), (b : Int)⟩ = ⟨4, (φ a : Nat), (b : Int)⟩ := by simp [mvG]
    have hc := Lib.hid (hf a (by simp [insG]) _ S0.below)
    replace S0 := Lib.hid S0
    rw [hM]
    clear hM hf hg0 ha hb
    go_enter Try.func51, Try.ntmps51
    go_wp2_with fail
    refine hc.out.mono ?_
    rintro e w1 ⟨rfl, hb1⟩
    have S1 := S0.out.grow hb1
    have c1 := S1.cell (i := 1) rfl (o := 1) rfl
    have v1 := S1.frozen (i := 1) rfl 1
    have S2 := S1.store (i := 1) rfl 1 (.int .i64 (φ a : Nat))
    have d0 := S2.cell (i := 1) rfl (o := 0) rfl
    have d1 := S2.cell (i := 1) rfl (o := 1) rfl
    have d2 := S2.cell (i := 1) rfl (o := 2) rfl
    have e0 := S2.cell (i := 0) rfl (o := 0) rfl
    have e1 := S2.cell (i := 0) rfl (o := 1) rfl
    have e2 := S2.cell (i := 0) rfl (o := 2) rfl
    have u0 := S2.frozen (i := 0) rfl 0
    have u1 := S2.frozen (i := 0) rfl 1
    have u2 := S2.frozen (i := 0) rfl 2
    have S3 := ((S2.store (i := 0) rfl 0 (.int .i64 4)).store (i := 0) rfl 1 (.int .i64 (φ a : Nat))).store (i := 0) rfl 2 (.int .i64 b)
    have j0 := S3.cell (i := 0) rfl (o := 0) rfl
    have j1 := S3.cell (i := 0) rfl (o := 1) rfl
    have j2 := S3.cell (i := 0) rfl (o := 2) rfl
    have hB := S3.below
    clear S0 S1 S2 S3 hc hb1
    go_wp2_with fail
    exact bodyPost_ret (v := gtV ⟨4, (φ a : Nat), (b : Int)⟩) (by simp [results, Try.results51, go_sem, j0, j1, j2]) rfl ⟨rfl, hB⟩
  by_cases h5 : k = 5 ∨ k = 6
  · have hM : mvG φ ⟨k, (a : Int), (b : Int)⟩ = ⟨k, (φ a : Nat), (φ b : Nat)⟩ := by simp [mvG, h4, h5]
    have hc := Lib.hid (hf a (by simp [insG, h4, h5]) _ S0.below)
    have hc2 := Lib.hid (fun W h => hf b (by simp [insG, h4, h5]) W h)
    replace S0 := Lib.hid S0
    rw [hM]
    clear hM hf hg0 ha hb h4
    rcases h5 with rfl | rfl
    · go_enter Try.func51, Try.ntmps51
      go_wp2_with fail
      refine hc.out.mono ?_
      rintro e w1 ⟨rfl, hb1⟩
      have S1 := S0.out.grow hb1
      have c1 := S1.cell (i := 1) rfl (o := 1) rfl
      have v1 := S1.frozen (i := 1) rfl 1
      have S2 := S1.store (i := 1) rfl 1 (.int .i64 (φ a : Nat))
      have c2 := S2.cell (i := 1) rfl (o := 2) rfl
      have hc3 := Lib.hid (hc2.out _ S2.below)
      replace S2 := Lib.hid S2
      clear S0 S1 hc hb1 hc2
      go_wp2_with fail
      refine hc3.out.mono ?_
      rintro e w2 ⟨rfl, hb2⟩
      have S3 := S2.out.grow hb2
      have c3 := S3.cell (i := 1) rfl (o := 2) rfl
      have v3 := S3.frozen (i := 1) rfl 2
      have S4 := S3.store (i := 1) rfl 2 (.int .i64 (φ b : Nat))
      have d0 := S4.cell (i := 1) rfl (o := 0) rfl
      have d1 := S4.cell (i := 1) rfl (o := 1) rfl
      have d2 := S4.cell (i := 1) rfl (o := 2) rfl
      have e0 := S4.cell (i := 0) rfl (o := 0) rfl
      have e1 := S4.cell (i := 0) rfl (o := 1) rfl
      have e2 := S4.cell (i := 0) rfl (o := 2) rfl
      have u0 := S4.frozen (i := 0) rfl 0
      have u1 := S4.frozen (i := 0) rfl 1
      have u2 := S4.frozen (i := 0) rfl 2
      have S5 := ((S4.store (i := 0) rfl 0 (.int .i64 5)).store (i := 0) rfl 1 (.int .i64 (φ a : Nat))).store (i := 0) rfl 2 (.int .i64 (φ b : Nat))
      have j0 := S5.cell (i := 0) rfl (o := 0) rfl
      have j1 := S5.cell (i := 0) rfl (o := 1) rfl
      have j2 := S5.cell (i := 0) rfl (o := 2) rfl
      have hB := S5.below
      clear S2 S3 S4 S5 hc3 hb2
      go_wp2_with fail
      exact bodyPost_ret (v := gtV ⟨5, (φ a : Nat), (φ b : Nat)⟩) (by simp [results, Try.results51, go_sem, j0, j1, j2]) rfl ⟨rfl, hB⟩
    · go_enter Try.func51, Try.ntmps51
      go_wp2_with fail
      refine hc.out.mono ?_
      rintro e w1 ⟨rfl, hb1⟩
      have S1 := S0.out.grow hb1
      have c1 := S1.cell (i := 1) rfl (o := 1) rfl
      have v1 := S1.frozen (i := 1) rfl 1
      have S2 := S1.store (i := 1) rfl 1 (.int .i64 (φ a : Nat))
      have c2 := S2.cell (i := 1) rfl (o := 2) rfl
      have hc3 := Lib.hid (hc2.out _ S2.below)
      replace S2 := Lib.hid S2
      clear S0 S1 hc hb1 hc2
      go_wp2_with fail
      refine hc3.out.mono ?_
      rintro e w2 ⟨rfl, hb2⟩
      have S3 := S2.out.grow hb2
      have c3 := S3.cell (i := 1) rfl (o := 2) rfl
      have v3 := S3.frozen (i := 1) rfl 2
      have S4 := S3.store (i := 1) rfl 2 (.int .i64 (φ b : Nat))
      have d0 := S4.cell (i := 1) rfl (o := 0) rfl
      have d1 := S4.cell (i := 1) rfl (o := 1) rfl
      have d2 := S4.cell (i := 1) rfl (o := 2) rfl
      have e0 := S4.cell (i := 0) rfl (o := 0) rfl
      have e1 := S4.cell (i := 0) rfl (o := 1) rfl
      have e2 := S4.cell (i := 0) rfl (o := 2) rfl
      have u0 := S4.frozen (i := 0) rfl 0
      have u1 := S4.frozen (i := 0) rfl 1
      have u2 := S4.frozen (i := 0) rfl 2
      have S5 := ((S4.store (i := 0) rfl 0 (.int .i64 6)).store (i := 0) rfl 1 (.int .i64 (φ a : Nat))).store (i := 0) rfl 2 (.int .i64 (φ b : Nat))
      have j0 := S5.cell (i := 0) rfl (o := 0) rfl
      have j1 := S5.cell (i := 0) rfl (o := 1) rfl
      have j2 := S5.cell (i := 0) rfl (o := 2) rfl
      have hB := S5.below
      clear S2 S3 S4 S5 hc3 hb2
      go_wp2_with fail
      exact bodyPost_ret (v := gtV ⟨6, (φ a : Nat), (φ b : Nat)⟩) (by simp [results, Try.results51, go_sem, j0, j1, j2]) rfl ⟨rfl, hB⟩
  · have hM : mvG φ ⟨k, (a : Int), (b : Int)⟩ = ⟨k, (a : Int), (b : Int)⟩ := by simp [mvG, h4, h5]
    have h5' : k ≠ 5 := fun e => h5 (.inl e)
    have h6' : k ≠ 6 := fun e => h5 (.inr e)
    rw [hM]
    clear hM hf hg0 ha hb h5
    have S5 := ((Sp.start w).alloc_box #[.int .i64 k, .int .i64 (a : Int), .int .i64 (b : Int)] 41).alloc_box #[.int .i64 k, .int .i64 (a : Int), .int .i64 (b : Int)] 41
    simp only [World.size_alloc] at S5
    have j0 := S5.cell (i := 0) rfl (o := 0) rfl
    have j1 := S5.cell (i := 0) rfl (o := 1) rfl
    have j2 := S5.cell (i := 0) rfl (o := 2) rfl
    have hB := S5.below
    clear S0 S5
    go_enter Try.func51, Try.ntmps51
    go_wp2_with fail
    exact bodyPost_ret (v := gtV ⟨k, (a : Int), (b : Int)⟩) (by simp [results, Try.results51, go_sem, j0, j1, j2]) rfl ⟨rfl, hB⟩

end Go.Proofs.Ytkhopkonddgicaa

/- Contract: the trimmed circuit. -/
namespace Go.Proofs.Ytkhopkonddgicaa
open Go.RowKit

theorem Sp.intsN {w0 w : World} {ps : List Asn} {i n : Nat} {A : Option Addr} {l : List Nat} {c : Nat} {e : TypeId} (h : Sp w0 w ps) (hi : ps[i]? = some (Own e 1 (.slice A n c) n ((natI l).map (.int .i64)))) (hn : l.length = n) (hok : ∀ x ∈ l, x ≤ 1000000) : IntsAt w A (natI l) := by
  rw [← hn, ← natI_len] at hi
  obtain ⟨A', c', e1, hI⟩ := ints_own (h.own hi) (fun x hx => by
    obtain ⟨y, hy, rfl⟩ := List.mem_map.1 hx
    have := hok y hy
    unfold I64
    omega)
  cases e1
  exact hI
theorem trim_len (gs : List Gt) (need : List Nat) : (trimG gs need).length = need.length := by simp [trimG]
/-- The gates that a trimmed circuit needs are few. -/
theorem needL_len {vars : Int} {gs : List Gt} (hg : OkG vars gs) (hp : 0 < gs.length) : (needL gs).length ≤ gs.length := asc_len (need_needs hg hp).1.asc (fun x hx => (need_needs hg hp).1.lt x hx)

set_option maxRecDepth 100000 in
set_option maxHeartbeats 8000000 in
theorem trim_any {vars : Int} (A : Option Addr) (c : Nat) (gs : List Gt) (w : World) (hx : GtAt w A gs) (hg : OkG vars gs) (hp : 0 < gs.length) (hl : gs.length ≤ 1000) (hv : vars ≤ 1000) :
    Calls Try.prog 55 #[.slice A gs.length c] w fun e w' => ∃ v, e = .returned v ∧ Sp w w' [Own 41 3 v (trimG gs (needL gs)).length ((trimG gs (needL gs)).flatMap gtEnc)] := by
  obtain ⟨i0, hi0, hz0, hz1, hz2⟩ := info_parts infoGt
  have hcall := Lib.hid (needed_any A c gs w hx hg hp hl hv)
  have hN := Lib.hid (need_needs hg hp).1
  have hnl := needL_len hg hp
  have eg : Enter1 90 := enters_of Try.func90 (by kernel_rfl) rfl
  generalize needL gs = need at hcall hN hnl ⊢
  have hX := Lib.hid hx
  replace hg := Lib.hid hg
  replace eg := Lib.hid eg
  clear hx
  obtain ⟨n, hn⟩ : ∃ n, need.length = n := ⟨_, rfl⟩
  rw [hn] at hcall hnl
  replace hn := Lib.hid hn
  go_enter Try.func55, Try.ntmps55
  go_wp2_with fail
  refine hcall.out.mono ?_
  rintro e w1 ⟨v, rfl, S1⟩
  obtain ⟨aN, cN, rfl⟩ := own_slice (S1.own (i := 0) rfl)
  have S2 := (S1.alloc_box #[.slice aN n cN] 45).own_nil 41 3
  have c0 := S2.cell (i := 1) rfl (o := 0) rfl
  replace S2 := Lib.hid S2
  clear hcall S1
  go_wp2_with fail
  go_loopw [11, 4] (fun i o wr => ∃ (q : Nat) (ov : Value), q ≤ n ∧ i = .int .i64 q ∧ o = ov ∧ Hid (Sp w wr [Own 41 3 ov q (((trimG gs need).take q).flatMap gtEnc), Box w1.heap.size 45 #[.slice aN n cN], Own 3 1 (.slice aN n cN) n ((natI need).map (.int .i64))])) (fun i _ _ => n - (intOf i).toNat)
  case atStart => exact ⟨0, _, Nat.zero_le _, rfl, rfl, by simpa using S2⟩
  case round =>
    obtain ⟨q, ov, hq, rfl, rfl, hS⟩ := hrel
    by_cases hlt : q < n
    · have hqi : (q : Int) < n := by omega
      have hX2 := hX.out.grow hS.out.below
      have hI := hS.out.intsN (i := 2) rfl hn.out (fun x hx => by have := hN.out.lt x hx; omega)
      have hql : q < need.length := by rw [hn.out]; exact hlt
      obtain ⟨b, off, e, hc⟩ := hI.at_ q (by rw [natI_len]; exact hql)
      cases e
      have hv2 : (natI need)[q]'(by rw [natI_len]; exact hql) = ((need[q] : Nat) : Int) := by simp [natI]
      rw [hv2] at hc
      have hxl := hN.out.lt _ (List.getElem_mem hql)
      have hins := hN.out.ins _ (List.getElem_mem hql)
      have htk : (trimG gs need).take (q + 1) = (trimG gs need).take q ++ [mvG (fun k => need.idxOf k) (gs.getD need[q] ⟨0, 0, 0⟩)] := by
        rw [List.take_succ_eq_append_getElem (by rw [trim_len]; exact hql), trim_get (by rw [trim_len]; exact hql) hql]
      have htl : ((trimG gs need).take q).length = q := by rw [List.length_take, trim_len]; omega
      generalize need[q] = x at hc hxl hins htk
      have hxi : (x : Int) < gs.length := by omega
      obtain ⟨bg, og, e, m0, m1, m2⟩ := hX2.at_ x hxl
      cases e
      have hd : gs.getD x ⟨0, 0, 0⟩ = gs[x] := by rw [List.getD_eq_getElem?_getD, List.getElem?_eq_getElem hxl]; rfl
      have hgx := gtB_iff.1 (hg.out x hxl)
      have hlt2 := ins_lt (hg.out x hxl)
      rw [hd] at hins htk
      generalize gs[x] = g at m0 m1 m2 hins htk hgx hlt2
      have c1 := hS.out.cell (i := 1) rfl (o := 0) rfl
      have hmv := Lib.hid (moved_any (cb := #[.pointer (some ⟨w1.heap.size, 0, none⟩)]) eg.out (fun k => need.idxOf k) g (fun k hk => by have := hlt2 k hk; omega) (by omega) (by omega) wr (fun k hk W hW => trimLook_any w1.heap.size k cN _ need (hins k hk) (by rw [hn.out]; omega) W (by rw [hn.out]; exact (hW.cell (p := ⟨w1.heap.size, 0, none⟩) (hS.out.box (i := 1) rfl).2.1).trans c1) (hI.grow hW)))
      generalize mvG (fun k => need.idxOf k) g = z at hmv htk
      obtain ⟨gk, ga, gb⟩ := g
      obtain ⟨zk, za, zb⟩ := z
      replace htk := Lib.hid htk
      replace htl := Lib.hid htl
      dsimp only at m0 m1 m2
      clear hd hgx hlt2 hins hX2 hI hv2 hql S2 c0
      go_wp2_with fail
      refine hmv.out.mono ?_
      rintro e w2 ⟨rfl, hb2⟩
      have S5 := (hS.out.grow hb2).alloc_box #[.int .i64 zk, .int .i64 za, .int .i64 zb] 41
      have k0 := S5.cell (i := 0) rfl (o := 0) rfl
      have k1 := S5.cell (i := 0) rfl (o := 1) rfl
      have k2 := S5.cell (i := 0) rfl (o := 2) rfl
      replace S5 := Lib.hid S5
      clear hmv hS hb2 m0 m1 m2 c1 hc
      go_wp2_with (at_builtin; refine wpList_append_src rfl _ _ rfl Try.underlying28 hi0 hz0 hz1 hz2 rfl (by decide) _ q _ rfl (S5.out.own (i := 1) rfl) _ 1 1 [.int .i64 zk, .int .i64 za, .int .i64 zb] rfl (Src.threeG k0 k1 k2) (by simp [Value.oneCell']) ?c3 ?c4 ?_)
      case c3 => unfold maxLen; omega
      case c4 => omega
      intro vE wE hownE hgE hatE
      have S6 := Lib.hid ((S5.out.own_push (i := 1) rfl (bb _) hownE hgE (by simpa using hatE)).tail)
      clear S5 hownE hgE hatE k0 k1 k2
      go_wp2_with fail
      go_roundw
      case rel =>
        refine ⟨q + 1, vE, by omega, by first | rfl | simp, rfl, ?_⟩
        unfold Hid
        rw [htk.out, List.flatMap_append]
        exact S6.out
      case measure => simp [intOf]; omega
    · obtain rfl : q = n := by omega
      go_wp2_with fail
      go_ret
      refine ⟨_, rfl, ?_⟩
      have h := hS.out.pick [0] rfl
      rw [List.take_of_length_le (by rw [trim_len, hn.out]; omega)] at h
      rw [trim_len, hn.out]
      exact h
end Go.Proofs.Ytkhopkonddgicaa

/- Contract: a gate of two others is folded. -/
namespace Go.Proofs.Ytkhopkonddgicaa
open Go.RowKit

set_option maxRecDepth 100000 in
set_option maxHeartbeats 8000000 in
theorem pair_any {w0 : World} {ps : List Asn} (p : Nat) (sv : Value) (M : List Gt) (g : Gt) (d n : Int) (w : World) (hok : ∀ x ∈ M, gtOk x) (hl : M.length ≤ 1000) (ha : 0 ≤ g.a ∧ g.a < M.length) (hb : 0 ≤ g.b ∧ g.b < M.length) (HS : FoldSp w0 p sv M ps w) :
    Calls Try.prog 114 #[.pointer (some ⟨p, 0, none⟩), gtV g, .int .i64 d, .int .i64 n] w fun e w' => ∃ sv', e = .returned (.int .i64 ((pairG M g d n).2 : Nat)) ∧ FoldSp w0 p sv' (pairG M g d n).1 ps w' := by
  obtain ⟨k, a', b'⟩ := g
  dsimp only at ha hb
  obtain ⟨a, rfl⟩ : ∃ a : Nat, a' = a := ⟨a'.toNat, by omega⟩
  obtain ⟨b, rfl⟩ : ∃ b : Nat, b' = b := ⟨b'.toNat, by omega⟩
  obtain ⟨A, c, rfl, hN⟩ := gt_own (HS.own (i := 1) rfl) hok
  have S3 := HS.alloc_box #[.int .i64 k, .int .i64 (a : Int), .int .i64 (b : Int)] 41
  have hN3 := hN.grow (bal (bb w) (.cells #[.int .i64 k, .int .i64 (a : Int), .int .i64 (b : Int)] 41))
  obtain ⟨gb, off, rfl, m0, -, -⟩ := hN3.at_ a (by omega)
  obtain ⟨gb2, off2, e, n0, -, -⟩ := hN3.at_ b (by omega)
  cases e
  have hka : kindG M (a : Int) = M[a].k := kind_at (i := (a : Int)) (by omega)
  have hkb : kindG M (b : Int) = M[b].k := kind_at (i := (b : Int)) (by omega)
  rw [← hka] at m0
  rw [← hkb] at n0
  have hP : Hid (pairG M ⟨k, (a : Int), (b : Int)⟩ d n = if kindG M (a : Int) = d then (M, a) else if kindG M (b : Int) = d then (M, b) else if kindG M (a : Int) = n then (M, b) else if kindG M (b : Int) = n ∨ (a : Int) = b then (M, a) else keepG M ⟨k, (a : Int), (b : Int)⟩) := rfl
  generalize kindG M (a : Int) = x at *
  generalize kindG M (b : Int) = y at *
  have k0 := cell_regrown m0
  have k1 := cell_regrown n0
  have d1 := cell_regrown (S3.cell (i := 0) rfl (o := 1) rfl)
  have d2 := cell_regrown (S3.cell (i := 0) rfl (o := 2) rfl)
  have e2 := cell_regrown (S3.cell (i := 1) rfl (o := 0) rfl)
  have hal : (a : Int) < M.length := ha.2
  have hbl : (b : Int) < M.length := hb.2
  have hkeep := Lib.hid (fun W (h : FoldSp w0 p (.slice (some ⟨gb, off, none⟩) M.length c) M ps W) => keep_any p _ M ⟨k, (a : Int), (b : Int)⟩ W hok hl h)
  have HS3 := Lib.hid S3
  clear S3 hN hN3 HS m0 n0 hka hkb ha hb hok
  go_enter Try.func114, Try.ntmps114
  go_wp2_with fail
  refine wp_region_quiet_below (by kernel_rfl) (by kernel_rfl) ?_
  repeat (any_goals (go_big_quiet_step (fail)))
  refine wpQuiet_nil ?_
  rintro w3 ⟨pp, hw3⟩
  have HS4 := HS3.out.grow (w' := w3) (hw3 ▸ below_regrown _ pp.d pp.os)
  have f0 := HS4.cell (i := 0) rfl (o := 0) rfl
  have f1 := HS4.cell (i := 0) rfl (o := 1) rfl
  have f2 := HS4.cell (i := 0) rfl (o := 2) rfl
  replace HS4 := Lib.hid HS4.tail
  have hkp := Lib.hid (hkeep.out _ HS4.out)
  clear hw3 HS3 k0 k1 d1 d2 e2 hkeep
  by_cases h1 : x = d
  · have hR : Hid (pairG M ⟨k, (a : Int), (b : Int)⟩ d n = (M, a)) := by unfold Hid; rw [hP.out, if_pos h1]
    clear hP
    go_wp2_with fail
    go_ret
    first | exact ⟨ret_int (by rw [hR.out]), _, by rw [hR.out]; exact HS4.out⟩ | exact ⟨_, ret_int (by rw [hR.out]), by rw [hR.out]; exact HS4.out⟩
  by_cases h2 : y = d
  · have hR : Hid (pairG M ⟨k, (a : Int), (b : Int)⟩ d n = (M, b)) := by unfold Hid; rw [hP.out, if_neg h1, if_pos h2]
    clear hP
    go_wp2_with fail
    go_ret
    first | exact ⟨ret_int (by rw [hR.out]), _, by rw [hR.out]; exact HS4.out⟩ | exact ⟨_, ret_int (by rw [hR.out]), by rw [hR.out]; exact HS4.out⟩
  by_cases h3 : x = n
  · have hR : Hid (pairG M ⟨k, (a : Int), (b : Int)⟩ d n = (M, b)) := by unfold Hid; rw [hP.out, if_neg h1, if_neg h2, if_pos h3]
    clear hP
    go_wp2_with fail
    go_ret
    first | exact ⟨ret_int (by rw [hR.out]), _, by rw [hR.out]; exact HS4.out⟩ | exact ⟨_, ret_int (by rw [hR.out]), by rw [hR.out]; exact HS4.out⟩
  by_cases h4 : y = n
  · have hR : Hid (pairG M ⟨k, (a : Int), (b : Int)⟩ d n = (M, a)) := by unfold Hid; rw [hP.out, if_neg h1, if_neg h2, if_neg h3, if_pos (.inl h4)]
    clear hP
    go_wp2_with fail
    go_ret
    first | exact ⟨ret_int (by rw [hR.out]), _, by rw [hR.out]; exact HS4.out⟩ | exact ⟨_, ret_int (by rw [hR.out]), by rw [hR.out]; exact HS4.out⟩
  by_cases h5 : (a : Int) = b
  · have hR : Hid (pairG M ⟨k, (a : Int), (b : Int)⟩ d n = (M, a)) := by unfold Hid; rw [hP.out, if_neg h1, if_neg h2, if_neg h3, if_pos (.inr h5)]
    obtain rfl : a = b := by omega
    clear hP hkp
    go_wp2_with fail
    go_ret
    first | exact ⟨ret_int (by rw [hR.out]), _, by rw [hR.out]; exact HS4.out⟩ | exact ⟨_, ret_int (by rw [hR.out]), by rw [hR.out]; exact HS4.out⟩
  have hR : Hid (pairG M ⟨k, (a : Int), (b : Int)⟩ d n = keepG M ⟨k, (a : Int), (b : Int)⟩) := by unfold Hid; rw [hP.out, if_neg h1, if_neg h2, if_neg h3, if_neg (fun e => e.elim h4 h5)]
  clear hP
  rw [← hR.out] at hkp
  go_wp2_with fail
  refine hkp.out.mono ?_
  rintro e w5 ⟨sv', rfl, HS5⟩
  replace HS5 := Lib.hid HS5
  go_wp2_with fail
  go_ret
  first | exact ⟨rfl, sv', HS5.out⟩ | exact ⟨sv', rfl, HS5.out⟩
end Go.Proofs.Ytkhopkonddgicaa

/- Contract: a gate is folded. -/
namespace Go.Proofs.Ytkhopkonddgicaa
open Go.RowKit

set_option maxRecDepth 100000 in
set_option maxHeartbeats 8000000 in
theorem fold_any {w0 : World} {ps : List Asn} {vars : Int} (p : Nat) (sv : Value) (M : List Gt) (g : Gt) (w : World) (hok : ∀ x ∈ M, gtOk x) (hM : OkG vars M) (hl : M.length ≤ 1000) (hg : gtB vars M.length g = true) (HS : FoldSp w0 p sv M ps w) :
    Calls Try.prog 88 #[.pointer (some ⟨p, 0, none⟩), gtV g] w fun e w' => ∃ sv', e = .returned (.int .i64 ((foldG M g).2 : Nat)) ∧ FoldSp w0 p sv' (foldG M g).1 ps w' := by
  obtain ⟨k, a, b⟩ := g
  have hgi := gtB_iff.1 hg
  dsimp only at hgi
  have S3 := HS.alloc_box #[.int .i64 k, .int .i64 a, .int .i64 b] 41
  have hP : foldG M ⟨k, a, b⟩ = if k = 4 then
    if kindG M a = 2 then keepG M ⟨3, 0, 0⟩ else if kindG M a = 3 then keepG M ⟨2, 0, 0⟩
    else if kindG M a = 4 then (M, (M.getD a.toNat ⟨0, 0, 0⟩).a.toNat) else keepG M ⟨k, a, b⟩
    else if k = 5 then pairG M ⟨k, a, b⟩ 3 2 else if k = 6 then pairG M ⟨k, a, b⟩ 2 3 else keepG M ⟨k, a, b⟩ := rfl
  by_cases h4 : k = 4
  · subst h4
    obtain ⟨m, rfl⟩ : ∃ m : Nat, a = m := ⟨a.toNat, by omega⟩
    have hml : m < M.length := by omega
    have hmi : (m : Int) < M.length := by omega
    rw [if_pos rfl] at hP
    obtain ⟨A, c, rfl, hN⟩ := gt_own (HS.own (i := 1) rfl) hok
    obtain ⟨gb, off, rfl, m0, m1, m2⟩ := (hN.grow (bal (bb w) (.cells #[.int .i64 4, .int .i64 (m : Int), .int .i64 b] 41))).at_ m hml
    have hka : kindG M (m : Int) = M[m].k := kind_at (i := (m : Int)) (by omega)
    have hd : M.getD (m : Int).toNat ⟨0, 0, 0⟩ = M[m] := by rw [Int.toNat_natCast, List.getD_eq_getElem?_getD, List.getElem?_eq_getElem hml]; rfl
    have hma := gtB_iff.1 (hM m hml)
    rw [hka, hd] at hP
    have hk3 := Lib.hid (fun W h => keep_any (w0 := w0) (ps := ps) p (.slice (some ⟨gb, off, none⟩) M.length c) M ⟨3, 0, 0⟩ W hok hl h)
    have hk2 := Lib.hid (fun W h => keep_any (w0 := w0) (ps := ps) p (.slice (some ⟨gb, off, none⟩) M.length c) M ⟨2, 0, 0⟩ W hok hl h)
    have hk4 := Lib.hid (fun W h => keep_any (w0 := w0) (ps := ps) p (.slice (some ⟨gb, off, none⟩) M.length c) M ⟨4, (m : Int), b⟩ W hok hl h)
    have g1 := S3.cell (i := 0) rfl (o := 1) rfl
    have e0 := S3.cell (i := 1) rfl (o := 0) rfl
    generalize M[m] = q at *
    obtain ⟨qk, qa, qb⟩ := q
    dsimp only at m0 m1 m2 hma hP
    obtain ⟨R, hR⟩ : ∃ R, foldG M ⟨4, (m : Int), b⟩ = R := ⟨_, rfl⟩
    rw [hR] at hP ⊢
    clear hR
    replace S3 := Lib.hid S3
    replace hP := Lib.hid hP
    replace hma := Lib.hid hma
    clear hka hd hN hok hM hg HS hgi
    go_enter Try.func88, Try.ntmps88
    go_wp2_with fail
    refine wp_region_held_lit (S := (fun w' => w'.cell? ⟨p, 0, none⟩ = some (.slice (some ⟨gb, off, none⟩) M.length c) ∧ w'.cell? ⟨w.heap.size, 1, none⟩ = some (.int .i64 (m : Int)) ∧ w'.cell? ⟨gb, off + m * 3, none⟩ = some (.int .i64 qk) ∧ w'.cell? ⟨gb, off + m * 3 + 1, none⟩ = some (.int .i64 qa) ∧ w'.cell? ⟨gb, off + m * 3 + 2, none⟩ = some (.int .i64 qb))) 10 [false, false, false, false, false, false, false, false, false, false] (by kernel_rfl) (by kernel_rfl) (by kernel_rfl) ?_ ?_
    · exact ⟨e0, g1, m0, m1, m2⟩
    intro hSc
    (refine wpAnyH_take (i := 0) (v := ?_) rfl (by kernel_rfl) (by kernel_rfl) (by kernel_rfl) (fun _ _ _ h => h) (Or.inl ⟨by rfl, ?_⟩) (by assumption) ?_; rotate_left; (focus (intro w hSw; (try dsimp only at hSw); go_simp; (try with_reducible rfl); done)); (try simp only [put_rules]))
    (refine wpAnyH_take (i := 1) (v := ?_) rfl (by kernel_rfl) (by kernel_rfl) (by kernel_rfl) (fun _ _ _ h => h) (Or.inl ⟨by rfl, ?_⟩) (by assumption) ?_; rotate_left; (focus (intro w hSw; (try dsimp only at hSw); go_simp; (try with_reducible rfl); done)); (try simp only [put_rules]))
    (refine wpAnyH_take (i := 2) (v := ?_) rfl (by kernel_rfl) (by kernel_rfl) (by kernel_rfl) (fun _ _ _ h => h) (Or.inl ⟨by rfl, ?_⟩) (by assumption) ?_; rotate_left; (focus (intro w hSw; (try dsimp only at hSw); go_simp; (try with_reducible rfl); done)); (try simp only [put_rules]))
    (refine wpAnyH_take (i := 3) (v := ?_) rfl (by kernel_rfl) (by kernel_rfl) (by kernel_rfl) (fun _ _ _ h => h) (Or.inl ⟨by rfl, ?_⟩) (by assumption) ?_; rotate_left; (focus (intro w hSw; (try dsimp only at hSw); go_simp; (try with_reducible rfl); done)); (try simp only [put_rules]))
    (refine wpAnyH_take (i := 4) (v := ?_) rfl (by kernel_rfl) (by kernel_rfl) (by kernel_rfl) (fun _ _ _ h => h) (Or.inl ⟨by rfl, ?_⟩) (by assumption) ?_; rotate_left; (focus (intro w hSw; (try dsimp only at hSw); go_simp; (try with_reducible rfl); done)); (try simp only [put_rules]))
    (refine wpAnyH_take (i := 5) (v := ?_) rfl (by kernel_rfl) (by kernel_rfl) (by kernel_rfl) (fun _ _ _ h => h) (Or.inl ⟨by rfl, ?_⟩) (by assumption) ?_; rotate_left; (focus (intro w hSw; (try dsimp only at hSw); go_simp; (try with_reducible rfl); done)); (try simp only [put_rules]))
    (refine wpAnyH_take (i := 6) (v := ?_) rfl (by kernel_rfl) (by kernel_rfl) (by kernel_rfl) (fun _ _ _ h => h) (Or.inl ⟨by rfl, ?_⟩) (by assumption) ?_; rotate_left; (focus (intro w hSw; (try dsimp only at hSw); go_simp; (try with_reducible rfl); done)); (try simp only [put_rules]))
    (refine wpAnyH_take (i := 7) (v := ?_) rfl (by kernel_rfl) (by kernel_rfl) (by kernel_rfl) (fun _ _ _ h => h) (Or.inl ⟨by rfl, ?_⟩) (by assumption) ?_; rotate_left; (focus (intro w hSw; (try dsimp only at hSw); go_simp; (try with_reducible rfl); done)); (try simp only [put_rules]))
    (refine wpAnyH_ready (rs := [8]) (by kernel_rfl) (by simp) ?_; refine AllReadyH.cons rfl (fun K hK => ?_) AllReadyH.nil)
    go_simp
    have S4 := Lib.hid (S3.out.alloc_box #[.int .i64 0, .int .i64 0, .int .i64 0] 41)
    have hgs : gb < w.heap.size + 1 := by have := World.block_lt_of_cell? _ _ m0; simpa using this
    have hcells : ∀ W, Below (w.heap.size + 1) (w.alloc (.cells #[.int .i64 4, .int .i64 (m : Int), .int .i64 b] 41)) W → W.cell? ⟨gb, off + m * 3, none⟩ = some (.int .i64 qk) ∧ W.cell? ⟨gb, off + m * 3 + 1, none⟩ = some (.int .i64 qa) ∧ W.cell? ⟨gb, off + m * 3 + 2, none⟩ = some (.int .i64 qb) := fun W h =>
      ⟨(h.cell (p := ⟨gb, off + m * 3, none⟩) hgs).trans m0, (h.cell (p := ⟨gb, off + m * 3 + 1, none⟩) hgs).trans m1, (h.cell (p := ⟨gb, off + m * 3 + 2, none⟩) hgs).trans m2⟩
    replace hcells := Lib.hid hcells
    refine hK.out _ _ ?_ (fun hS2 => ?_)
    · refine ⟨S4.out.cell (i := 2) rfl (o := 0) rfl, S4.out.cell (i := 1) rfl (o := 1) rfl, hcells.out _ ?_⟩
      have hB := bal (bdr (bb (w.alloc (.cells #[.int .i64 4, .int .i64 (m : Int), .int .i64 b] 41)))) (.cells #[.int .i64 0, .int .i64 0, .int .i64 0] 41)
      rw [World.size_alloc] at hB
      first | exact hB | exact bal (bb _) _
    clear hK hSc
    (try simp only [put_rules])
    have z0 := S4.out.cell (i := 0) rfl (o := 0) rfl
    have z1 := S4.out.cell (i := 0) rfl (o := 1) rfl
    have z2 := S4.out.cell (i := 0) rfl (o := 2) rfl
    have v0 := S4.out.frozen (i := 0) rfl 0
    have v1 := S4.out.frozen (i := 0) rfl 1
    have v2 := S4.out.frozen (i := 0) rfl 2
    (refine wpAnyH_ready (rs := [9]) (by kernel_rfl) (by simp) ?_; refine AllReadyH.cons rfl (fun K hK => ?_) AllReadyH.nil)
    go_simp
    have S5 := (S3.out.alloc_box #[.int .i64 qk, .int .i64 qa, .int .i64 qb] 41).drew
    have hB5 := bdr (bal (bb (w.alloc (.cells #[.int .i64 4, .int .i64 (m : Int), .int .i64 b] 41))) (.cells #[.int .i64 qk, .int .i64 qa, .int .i64 qb] 41))
    rw [World.size_alloc] at hB5
    have hc5 := hcells.out _ hB5
    refine hK.out _ _ ?_ (fun _ => ?_)
    · exact ⟨S5.cell (i := 2) rfl (o := 0) rfl, S5.cell (i := 1) rfl (o := 1) rfl, hc5⟩
    clear hK S4 z0 z1 z2 v0 v1 v2 hcells
    (try simp only [put_rules])
    (refine wpAnyH_done (by kernel_rfl) ?_ _)
    simp only [World.size_alloc] at S5
    have k0 := S5.cell (i := 0) rfl (o := 0) rfl
    have k1 := S5.cell (i := 0) rfl (o := 1) rfl
    have S6 := Lib.hid S5.tail.tail
    replace S5 := Lib.hid S5
    clear S3 hc5 hB5 g1 e0 m0 m1 m2
    by_cases q2 : qk = 2
    · subst q2
      rw [if_pos rfl] at hP
      have hc := Lib.hid (hk3.out _ S6.out)
      rw [← hP.out] at hc
      clear hP S5 S6 hk2 hk3 hk4
      go_wp2_with fail
      refine hc.out.mono ?_
      rintro e w5 ⟨sv', rfl, HS5⟩
      replace HS5 := Lib.hid HS5
      clear hc
      go_wp2_with fail
      go_ret
      first | exact ⟨rfl, sv', HS5.out⟩ | exact ⟨sv', rfl, HS5.out⟩
    rw [if_neg q2] at hP
    by_cases q3 : qk = 3
    · subst q3
      rw [if_pos rfl] at hP
      have hc := Lib.hid (hk2.out _ S6.out)
      rw [← hP.out] at hc
      clear hP S5 S6 hk2 hk3 hk4
      go_wp2_with fail
      refine hc.out.mono ?_
      rintro e w5 ⟨sv', rfl, HS5⟩
      replace HS5 := Lib.hid HS5
      clear hc
      go_wp2_with fail
      go_ret
      first | exact ⟨rfl, sv', HS5.out⟩ | exact ⟨sv', rfl, HS5.out⟩
    rw [if_neg q3] at hP
    by_cases q4 : qk = 4
    · subst q4
      rw [if_pos rfl] at hP
      have hqa : ((qa.toNat : Nat) : Int) = qa := by have := hma.out; omega
      obtain ⟨r, rfl⟩ : ∃ r : Nat, qa = r := ⟨qa.toNat, hqa.symm⟩
      rw [Int.toNat_natCast] at hP
      have hR := hP.out
      subst hR
      clear hP hk2 hk3 hk4 hqa hma
      go_wp2_with fail
      go_ret
      first | exact ⟨rfl, _, S6.out⟩ | exact ⟨_, rfl, S6.out⟩
    rw [if_neg q4] at hP
    have hc := Lib.hid (hk4.out _ S6.out)
    rw [← hP.out] at hc
    clear hP S5 S6 hk2 hk3 hk4
    go_wp2_with fail
    refine hc.out.mono ?_
    rintro e w5 ⟨sv', rfl, HS5⟩
    replace HS5 := Lib.hid HS5
    clear hc
    go_wp2_with fail
    go_ret
    first | exact ⟨rfl, sv', HS5.out⟩ | exact ⟨sv', rfl, HS5.out⟩
  by_cases h5 : k = 5
  · subst h5
    rw [if_neg h4, if_pos rfl] at hP
    have hc := Lib.hid (pair_any p sv M ⟨5, a, b⟩ 3 2 _ hok hl (by dsimp only; omega) (by dsimp only; omega) S3.tail)
    rw [← hP] at hc
    clear hP S3 HS hgi hg hM hok
    go_enter Try.func88, Try.ntmps88
    go_wp2_with fail
    refine hc.out.mono ?_
    rintro e w5 ⟨sv', rfl, HS5⟩
    replace HS5 := Lib.hid HS5
    go_wp2_with fail
    go_ret
    first | exact ⟨rfl, sv', HS5.out⟩ | exact ⟨sv', rfl, HS5.out⟩
  by_cases h6 : k = 6
  · subst h6
    rw [if_neg h4, if_neg h5, if_pos rfl] at hP
    have hc := Lib.hid (pair_any p sv M ⟨6, a, b⟩ 2 3 _ hok hl (by dsimp only; omega) (by dsimp only; omega) S3.tail)
    rw [← hP] at hc
    clear hP S3 HS hgi hg hM hok
    go_enter Try.func88, Try.ntmps88
    go_wp2_with fail
    refine hc.out.mono ?_
    rintro e w5 ⟨sv', rfl, HS5⟩
    replace HS5 := Lib.hid HS5
    go_wp2_with fail
    go_ret
    first | exact ⟨rfl, sv', HS5.out⟩ | exact ⟨sv', rfl, HS5.out⟩
  rw [if_neg h4, if_neg h5, if_neg h6] at hP
  have hc := Lib.hid (keep_any p sv M ⟨k, a, b⟩ _ hok hl S3.tail)
  rw [← hP] at hc
  clear hP S3 HS hgi hg hM hok
  go_enter Try.func88, Try.ntmps88
  go_wp2_with fail
  refine hc.out.mono ?_
  rintro e w5 ⟨sv', rfl, HS5⟩
  replace HS5 := Lib.hid HS5
  go_wp2_with fail
  go_ret
  first | exact ⟨rfl, sv', HS5.out⟩ | exact ⟨sv', rfl, HS5.out⟩
end Go.Proofs.Ytkhopkonddgicaa
