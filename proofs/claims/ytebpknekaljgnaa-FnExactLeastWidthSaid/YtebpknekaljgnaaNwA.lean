/- Plain facts on clauses of at most six variables: their order, resolvents, masks. No program in sight. -/
import Derived.Test.YtebpknekaljgnaaClQ
namespace Go.Proofs.Ytebpknekaljgnaa
open Go.RowKit

/-! Lists in an order. -/
theorem asc_ext {α : Type} {R : α → α → Prop} (hR : ∀ x y, R x y → ¬ R y x) : ∀ {a b : List α}, a.Pairwise R → b.Pairwise R → (∀ x, x ∈ a ↔ x ∈ b) → a = b
  | [], [], _, _, _ => rfl
  | [], y :: b, _, _, h => absurd ((h y).2 List.mem_cons_self) (by simp)
  | x :: a, [], _, _, h => absurd ((h x).1 List.mem_cons_self) (by simp)
  | x :: a, y :: b, ha, hb, h => by
    rw [List.pairwise_cons] at ha hb
    have hxy : x = y := by
      rcases List.mem_cons.1 ((h x).1 List.mem_cons_self) with e | e
      · exact e
      · rcases List.mem_cons.1 ((h y).2 List.mem_cons_self) with e2 | e2
        · exact e2.symm
        · exact absurd (hb.1 x e) (hR _ _ (ha.1 y e2))
    subst hxy
    have hx1 : x ∉ a := fun hm => hR _ _ (ha.1 x hm) (ha.1 x hm)
    have hx2 : x ∉ b := fun hm => hR _ _ (hb.1 x hm) (hb.1 x hm)
    rw [asc_ext hR ha.2 hb.2 fun z => ⟨fun hz => (List.mem_cons.1 ((h z).1 (List.mem_cons_of_mem _ hz))).resolve_left (fun e => hx1 (e ▸ hz)), fun hz => (List.mem_cons.1 ((h z).2 (List.mem_cons_of_mem _ hz))).resolve_left (fun e => hx2 (e ▸ hz))⟩]
theorem nodup_len {α : Type} : ∀ {a b : List α}, a.Nodup → (∀ x, x ∈ a → x ∈ b) → a.length ≤ b.length
  | [], _, _, _ => Nat.zero_le _
  | x :: a, b, ha, h => by
    rw [List.nodup_cons] at ha
    obtain ⟨s, t, rfl⟩ := List.append_of_mem (h x List.mem_cons_self)
    have := nodup_len (b := s ++ t) ha.2 fun z hz => by
      have hz2 := h z (List.mem_cons_of_mem _ hz)
      have hne : z ≠ x := fun e => ha.1 (e ▸ hz)
      simp only [List.mem_append, List.mem_cons] at hz2 ⊢
      rcases hz2 with h | h | h
      · exact .inl h
      · exact absurd h hne
      · exact .inr h
    simp only [List.length_append, List.length_cons] at this ⊢
    omega
theorem nodup_same {α : Type} {a b : List α} (ha : a.Nodup) (hb : b.Nodup) (h : ∀ x, x ∈ a ↔ x ∈ b) : a.length = b.length :=
  Nat.le_antisymm (nodup_len ha fun x hx => (h x).1 hx) (nodup_len hb fun x hx => (h x).2 hx)
theorem asc_nodup {α : Type} {R : α → α → Prop} (hR : ∀ x y, R x y → ¬ R y x) {a : List α} (h : a.Pairwise R) : a.Nodup :=
  h.imp fun {x y} hxy e => by subst e; exact hR _ _ hxy hxy

/-! Clauses. -/
theorem absV_small {l : Int} (h0 : -1000 ≤ l) (h1 : l ≤ 1000) : absV l = if l < 0 then -l else l := by
  unfold absV
  split
  · rw [negV_small ⟨by omega, by omega⟩ (by omega)]
  · rfl
theorem hasI_iff {xs : List Int} {x : Int} : hasI xs x = true ↔ x ∈ xs := by unfold hasI; simp
theorem hasI_not {xs : List Int} {x : Int} : hasI xs x = false ↔ x ∉ xs := by rw [← hasI_iff]; simp
/-- A literal of at most six variables. -/
def Lit6 (l : Int) : Prop := l ≠ 0 ∧ -6 ≤ l ∧ l ≤ 6
abbrev AscV (a b : Int) : Prop := absV a < absV b
/-- A clause of at most six variables. -/
structure Good (c : List Int) : Prop where
  mem : ∀ l ∈ c, Lit6 l
  asc : c.Pairwise AscV
theorem Lit6.abs {l : Int} (h : Lit6 l) : absV l = if l < 0 then -l else l := absV_small (by have := h.2.1; omega) (by have := h.2.2; omega)
theorem ascV_asym (x y : Int) (h : AscV x y) : ¬ AscV y x := by unfold AscV at *; omega
theorem Good.nil : Good [] := ⟨by simp, by simp⟩
theorem Good.ext {a b : List Int} (ha : Good a) (hb : Good b) (h : ∀ x, x ∈ a ↔ x ∈ b) : a = b := asc_ext ascV_asym ha.asc hb.asc h
theorem Good.one {c : List Int} (h : Good c) {x y : Int} (hx : x ∈ c) (hy : y ∈ c) (e : absV x = absV y) : x = y := by
  obtain ⟨i, hi, rfl⟩ := List.getElem_of_mem hx
  obtain ⟨j, hj, rfl⟩ := List.getElem_of_mem hy
  have hp := List.pairwise_iff_getElem.1 h.asc
  rcases Nat.lt_trichotomy i j with hlt | rfl | hlt
  · have := hp i j hi hj hlt; unfold AscV at this; omega
  · rfl
  · have := hp j i hj hi hlt; unfold AscV at this; omega
theorem Good.clash {c : List Int} (h : Good c) {x : Int} (hx : x ∈ c) (hy : -x ∈ c) : False := by
  have h1 := h.mem _ hx
  have h2 := h.mem _ hy
  have := h.one hx hy (by rw [h1.abs, h2.abs]; obtain ⟨_, _, _⟩ := h1; split <;> split <;> omega)
  have := h1.1
  omega
theorem Good.mild {c : List Int} (h : Good c) : Mild c := fun x hx => by obtain ⟨_, _, _⟩ := h.mem x hx; omega
theorem Good.filter {c : List Int} (h : Good c) (p : Int → Bool) : Good (c.filter p) := ⟨fun l hl => h.mem l (List.mem_filter.1 hl).1, h.asc.filter _⟩
theorem Good.len {c : List Int} (h : Good c) : c.length ≤ 6 := by
  have h1 : (c.map absV).Nodup := by
    rw [List.nodup_iff_pairwise_ne, List.pairwise_map]
    exact h.asc.imp fun {a b} hab => by unfold AscV at hab; omega
  have := nodup_len (b := [1, 2, 3, 4, 5, 6]) h1 fun x hx => by
    obtain ⟨l, hl, rfl⟩ := List.mem_map.1 hx
    have h2 := h.mem l hl
    rw [h2.abs]
    obtain ⟨a, b, c⟩ := h2
    simp only [List.mem_cons, List.not_mem_nil, or_false]
    split <;> omega
  simpa using this
theorem good_of {vars : Int} {c : List Int} (h : clauseB vars c = true) (h6 : vars ≤ 6) : Good c ∧ ∀ l ∈ c, -vars ≤ l ∧ l ≤ vars := by
  unfold clauseB at h
  rw [Bool.and_eq_true, inB_true] at h
  obtain ⟨⟨h0, _⟩, h⟩ := h
  unfold cOkTo at h
  rw [List.all_eq_true] at h
  have hlit : ∀ i (hi : i < c.length), c[i] ≠ 0 ∧ -vars ≤ c[i] ∧ c[i] ≤ vars := by
    intro i hi
    have := h i (by simpa using hi)
    unfold cOk litB at this
    rw [List.getD_eq_getElem?_getD, List.getElem?_eq_getElem hi] at this
    simp only [Option.getD_some, Bool.and_eq_true, inB_true, bne_iff_ne, ne_eq] at this
    obtain ⟨⟨⟨a, b⟩, d⟩, _⟩ := this
    rw [negV_small ⟨by omega, by omega⟩ (by omega)] at a
    exact ⟨d, a, b⟩
  have hasc : ∀ i (hi : i + 1 < c.length), absV (c[i]'(by omega)) < absV c[i + 1] := by
    intro i hi
    have := h (i + 1) (by simpa using hi)
    unfold cOk at this
    rw [Bool.and_eq_true] at this
    have := this.2
    rw [List.getD_eq_getElem?_getD, List.getD_eq_getElem?_getD, List.getElem?_eq_getElem hi, Nat.add_sub_cancel, List.getElem?_eq_getElem (show i < c.length by omega)] at this
    simpa using this
  have hup : ∀ d i (hi : i + d + 1 < c.length), absV (c[i]'(by omega)) < absV c[i + d + 1] := by
    intro d
    induction d with
    | zero => intro i hi; exact hasc i hi
    | succ d ih => intro i hi; exact Int.lt_trans (ih i (by omega)) (hasc (i + d + 1) (by omega))
  refine ⟨⟨fun l hl => ?_, List.pairwise_iff_getElem.2 fun i j hi hj hij => ?_⟩, fun l hl => ?_⟩
  · obtain ⟨i, hi, rfl⟩ := List.getElem_of_mem hl
    have := hlit i hi
    exact ⟨this.1, by omega, by omega⟩
  · obtain ⟨d, rfl⟩ : ∃ d, j = i + d + 1 := ⟨j - i - 1, by omega⟩
    exact hup d i hj
  · obtain ⟨i, hi, rfl⟩ := List.getElem_of_mem hl
    exact (hlit i hi).2

theorem mem_putB {c : List Int} {l x : Int} : x ∈ putB c l ↔ x = l ∨ x ∈ c := by
  unfold putB
  rw [List.mem_append, List.mem_cons]
  conv => rhs; rw [← List.take_append_drop (litAt c l) c, List.mem_append]
  exact ⟨fun h => by rcases h with h | h | h <;> simp [h], fun h => by rcases h with h | h | h <;> simp [h]⟩
theorem Good.put {c : List Int} (h : Good c) {l : Int} (hl : Lit6 l) (hn : ∀ y ∈ c, absV y ≠ absV l) : Good (putB c l) := by
  refine ⟨fun x hx => ?_, ?_⟩
  · rcases mem_putB.1 hx with rfl | hx
    · exact hl
    · exact h.mem x hx
  · have e0 := List.takeWhile_append_dropWhile (p := fun x => decide (absV x < absV l)) (l := c)
    have e1 : c.take (litAt c l) = c.takeWhile (fun x => decide (absV x < absV l)) := by
      have := congrArg (List.take (litAt c l)) e0
      rw [← this]; exact List.take_left' rfl
    have e2 : c.drop (litAt c l) = c.dropWhile (fun x => decide (absV x < absV l)) := by
      have := congrArg (List.drop (litAt c l)) e0
      rw [← this]; exact List.drop_left' rfl
    unfold putB
    rw [List.pairwise_append, List.pairwise_cons]
    have hd : ∀ y ∈ c.drop (litAt c l), absV l < absV y := by
      intro y hy
      have hne := hn y (List.mem_of_mem_drop hy)
      rw [e2] at hy
      have hp : (c.dropWhile (fun x => decide (absV x < absV l))).Pairwise AscV := by rw [← e2]; exact h.asc.drop
      cases hdw : c.dropWhile (fun x => decide (absV x < absV l)) with
      | nil => rw [hdw] at hy; cases hy
      | cons z t =>
        have hz : ¬ absV z < absV l := by
          have := List.head_dropWhile_not (fun x => decide (absV x < absV l)) (l := c) (by rw [hdw]; simp)
          simp only [hdw, List.head_cons] at this
          simpa using this
        rw [hdw] at hy hp
        rcases List.mem_cons.1 hy with rfl | hy
        · omega
        · have := (List.pairwise_cons.1 hp).1 y hy
          unfold AscV at this; omega
    have ht : ∀ y ∈ c.take (litAt c l), absV y < absV l := by
      intro y hy
      rw [e1] at hy
      simpa using List.all_eq_true.1 (List.all_takeWhile (p := fun x => decide (absV x < absV l)) (l := c)) y hy
    exact ⟨h.asc.take, ⟨hd, h.asc.drop⟩, fun a ha b hb => by
      rcases List.mem_cons.1 hb with rfl | hb
      · exact ht a ha
      · have := ht a ha; have := hd b hb; show absV a < absV b; omega⟩

/-- Joining clauses. -/
def joinB (out : List Int) : List Int → Option (List Int)
  | [] => some out
  | l :: b => if hasI out (-l) then none else joinB (if hasI out l then out else putB out l) b
theorem joinB_spec : ∀ {b out : List Int}, Good out → Good b →
    (joinB out b = none ∧ ∃ l ∈ b, -l ∈ out) ∨ (∃ c, joinB out b = some c ∧ Good c ∧ (∀ x, x ∈ c ↔ x ∈ out ∨ x ∈ b) ∧ ∀ l ∈ b, -l ∉ out)
  | [], out, ho, _ => .inr ⟨out, rfl, ho, by simp, by simp⟩
  | l :: b, out, ho, hb => by
    have hl := hb.mem l List.mem_cons_self
    have hb2 : Good b := ⟨fun x hx => hb.mem x (List.mem_cons_of_mem _ hx), (List.pairwise_cons.1 hb.asc).2⟩
    have hlb : ∀ x ∈ b, absV l < absV x := (List.pairwise_cons.1 hb.asc).1
    unfold joinB
    by_cases hc : -l ∈ out
    · rw [if_pos (hasI_iff.2 hc)]
      exact .inl ⟨rfl, l, List.mem_cons_self, hc⟩
    · rw [if_neg (by rw [hasI_iff]; exact hc)]
      have hout : ∃ out', (if hasI out l then out else putB out l) = out' ∧ Good out' ∧ ∀ x, x ∈ out' ↔ x = l ∨ x ∈ out := by
        by_cases h : l ∈ out
        · rw [if_pos (hasI_iff.2 h)]
          exact ⟨_, rfl, ho, fun x => ⟨.inr, fun hx => by rcases hx with rfl | hx; exact h; exact hx⟩⟩
        · rw [if_neg (by rw [hasI_iff]; exact h)]
          refine ⟨_, rfl, ho.put hl fun y hy e => ?_, fun x => mem_putB⟩
          have hy6 := ho.mem y hy
          rw [hy6.abs, hl.abs] at e
          have : y = l ∨ y = -l := by
            have h1 := hy6; have h2 := hl
            unfold Lit6 at h1 h2
            split at e <;> split at e <;> omega
          rcases this with rfl | rfl
          · exact h hy
          · exact hc hy
      obtain ⟨out', he, hg, hm⟩ := hout
      rw [he]
      rcases joinB_spec hg hb2 with ⟨h1, x, hx, hx2⟩ | ⟨c, h1, h2, h3, h4⟩
      · refine .inl ⟨h1, x, List.mem_cons_of_mem _ hx, ?_⟩
        rcases (hm _).1 hx2 with e | e
        · exfalso
          have h5 := hlb x hx
          have h6 := hb.mem x (List.mem_cons_of_mem _ hx)
          rw [hl.abs, h6.abs] at h5
          unfold Lit6 at h6 hl
          split at h5 <;> split at h5 <;> omega
        · exact e
      · refine .inr ⟨c, h1, h2, fun x => ?_, fun x hx => ?_⟩
        · rw [h3, hm, List.mem_cons]
          exact ⟨fun h => by rcases h with (h | h) | h <;> simp [h], fun h => by rcases h with h | h | h <;> simp [h]⟩
        · rcases List.mem_cons.1 hx with rfl | hx
          · exact hc
          · exact fun h => h4 x hx ((hm _).2 (.inr h))

/-- The resolvent on a variable. -/
def resB (a b : List Int) (v : Int) : Option (List Int) := if hasI a v && hasI b (-v) then joinB (withoutB a v) (withoutB b v) else none
theorem mem_without {a : List Int} (ha : Good a) {v x : Int} (hv : 1 ≤ v) : x ∈ withoutB a v ↔ x ∈ a ∧ x ≠ v ∧ x ≠ -v := by
  unfold withoutB
  rw [List.mem_filter]
  refine and_congr_right fun hx => ?_
  have h6 := ha.mem x hx
  have h := h6.abs
  unfold Lit6 at h6
  simp only [Bool.not_eq_true', beq_eq_false_iff_ne, ne_eq]
  rw [h]
  split <;> omega
theorem resB_iff {a b c : List Int} (ha : Good a) (hb : Good b) {v : Int} (hv : 1 ≤ v) :
    resB a b v = some c ↔ v ∈ a ∧ -v ∈ b ∧ (∀ l ∈ b, -l ∈ a → l = -v) ∧ Good c ∧ ∀ x, x ∈ c ↔ (x ∈ a ∨ x ∈ b) ∧ x ≠ v ∧ x ≠ -v := by
  unfold resB
  by_cases h1 : v ∈ a
  case neg => rw [hasI_not.2 h1]; simp [h1]
  by_cases h2 : -v ∈ b
  case neg => rw [hasI_not.2 h2]; simp [h2]
  rw [hasI_iff.2 h1, hasI_iff.2 h2]
  simp only [Bool.and_self, if_true]
  have m1 := fun x => mem_without (x := x) ha hv
  have m2 := fun x => mem_without (x := x) hb hv
  have g1 : Good (withoutB a v) := ha.filter _
  have g2 : Good (withoutB b v) := hb.filter _
  have hclash : (∀ l ∈ b, -l ∈ a → l = -v) ↔ ∀ l ∈ withoutB b v, -l ∉ withoutB a v := by
    constructor
    · intro h l hl hla
      rw [m2] at hl
      rw [m1] at hla
      exact hl.2.2 (h l hl.1 hla.1)
    · intro h l hl hla
      by_cases e : l = -v
      · exact e
      · exfalso
        by_cases e2 : l = v
        · subst e2; exact ha.clash h1 hla
        · exact h l ((m2 l).2 ⟨hl, e2, e⟩) ((m1 _).2 ⟨hla, by omega, by omega⟩)
  have hmem : ∀ x, (x ∈ withoutB a v ∨ x ∈ withoutB b v) ↔ (x ∈ a ∨ x ∈ b) ∧ x ≠ v ∧ x ≠ -v := fun x => by
    rw [m1, m2]
    exact ⟨fun h => by rcases h with ⟨h, h2⟩ | ⟨h, h2⟩ <;> simp [h, h2], fun h => by rcases h with ⟨h | h, h2⟩ <;> simp [h, h2]⟩
  rcases joinB_spec g1 g2 with ⟨e, x, hx, hx2⟩ | ⟨d, e, hd, hm, hn⟩
  · rw [e]
    refine ⟨fun h => (by cases h), fun ⟨_, _, h, _⟩ => absurd hx2 (hclash.1 h x hx)⟩
  · rw [e, Option.some.injEq]
    constructor
    · rintro rfl
      exact ⟨h1, h2, hclash.2 hn, hd, fun x => (hm x).trans (hmem x)⟩
    · rintro ⟨_, _, _, hg, hc⟩
      exact hd.ext hg fun x => ((hm x).trans (hmem x)).trans (hc x).symm
theorem resB_some {a b : List Int} (ha : Good a) (hb : Good b) {v : Int} (hv : 1 ≤ v) (h1 : v ∈ a) (h2 : -v ∈ b) (h3 : ∀ l ∈ b, -l ∈ a → l = -v) : ∃ c, resB a b v = some c := by
  have m1 := fun x => mem_without (x := x) ha hv
  have m2 := fun x => mem_without (x := x) hb hv
  have g1 : Good (withoutB a v) := ha.filter _
  have g2 : Good (withoutB b v) := hb.filter _
  unfold resB
  rw [hasI_iff.2 h1, hasI_iff.2 h2]
  simp only [Bool.and_self, if_true]
  rcases joinB_spec g1 g2 with ⟨e, x, hx, hx2⟩ | ⟨d, e, _⟩
  · exfalso
    rw [m2] at hx
    rw [m1] at hx2
    exact hx.2.2 (h3 x hx.1 hx2.1)
  · exact ⟨d, e⟩
theorem resB_good {a b c : List Int} (ha : Good a) (hb : Good b) {v : Int} (hv : 1 ≤ v) (h : resB a b v = some c) : Good c := ((resB_iff ha hb hv).1 h).2.2.2.1
theorem resB_self {a c : List Int} (ha : Good a) {v : Int} (hv : 1 ≤ v) : resB a a v ≠ some c := fun h => by
  obtain ⟨h1, h2, _⟩ := (resB_iff ha ha hv).1 h
  exact ha.clash h1 h2

/-! The order of clauses. -/
theorem keyL_inj {x y : Int} (h : keyL x = keyL y) : x = y := by unfold keyL at h; split at h <;> split at h <;> omega
theorem lex_asym : ∀ {a b : List Int}, lexB a b = true → lexB b a = true → False
  | x :: a, y :: b, h, k => by
    unfold lexB at h k
    by_cases e : x = y
    · subst e; rw [if_pos rfl] at h k; exact lex_asym h k
    · rw [if_neg e] at h; rw [if_neg (Ne.symm e)] at k; simp at h k; omega
  | [], _, h, _ => by simp [lexB] at h
  | _ :: _, [], h, _ => by simp [lexB] at h
theorem lex_trans : ∀ {a b c : List Int}, lexB a b = true → lexB b c = true → lexB a c = true
  | x :: a, y :: b, z :: c, h, k => by
    unfold lexB at h k ⊢
    by_cases e : x = y
    · subst e
      rw [if_pos rfl] at h
      by_cases e2 : x = z
      · rw [if_pos e2] at k ⊢; exact lex_trans h k
      · rw [if_neg e2] at k ⊢; exact k
    · rw [if_neg e] at h
      by_cases e2 : y = z
      · subst e2; rw [if_neg e]; exact h
      · rw [if_neg e2] at k
        simp at h k
        have e3 : x ≠ z := fun e3 => by subst e3; omega
        rw [if_neg e3]; simp; omega
  | [], _, _, h, _ => by simp [lexB] at h
  | _ :: _, [], _, h, _ => by simp [lexB] at h
  | _ :: _, _ :: _, [], _, k => by simp [lexB] at k
theorem lex_total : ∀ {a b : List Int}, a.length = b.length → a ≠ b → lexB a b = true ∨ lexB b a = true
  | [], [], _, h => absurd rfl h
  | x :: a, y :: b, hl, h => by
    unfold lexB
    by_cases e : x = y
    · subst e
      rw [if_pos rfl, if_pos rfl]
      exact lex_total (by simpa using hl) (fun e => h (by rw [e]))
    · rw [if_neg e, if_neg (Ne.symm e)]
      have : keyL x ≠ keyL y := fun h => e (keyL_inj h)
      simp; omega
  | [], _ :: _, h, _ => by simp at h
  | _ :: _, [], h, _ => by simp at h
abbrev Bef (a b : List Int) : Prop := beforeB a b = true
theorem bef_asym (a b : List Int) (h : Bef a b) : ¬ Bef b a := fun k => by
  unfold Bef beforeB at h k
  by_cases e : a.length = b.length
  · rw [if_pos e] at h; rw [if_pos e.symm] at k; exact lex_asym h k
  · rw [if_neg e] at h; rw [if_neg (Ne.symm e)] at k; simp at h k; omega
theorem bef_trans {a b c : List Int} (h : Bef a b) (k : Bef b c) : Bef a c := by
  unfold Bef beforeB at *
  by_cases e : a.length = b.length
  · rw [if_pos e] at h
    by_cases e2 : b.length = c.length
    · rw [if_pos e2] at k; rw [if_pos (e.trans e2)]; exact lex_trans h k
    · rw [if_neg e2] at k; rw [if_neg (by omega)]; simp at k ⊢; omega
  · rw [if_neg e] at h
    simp at h
    by_cases e2 : b.length = c.length
    · rw [if_neg (by omega)]; simp; omega
    · rw [if_neg e2] at k; simp at k; rw [if_neg (by omega)]; simp; omega
theorem bef_total {a b : List Int} (h : a ≠ b) : Bef a b ∨ Bef b a := by
  unfold Bef beforeB
  by_cases e : a.length = b.length
  · rw [if_pos e, if_pos e.symm]; exact lex_total e h
  · rw [if_neg e, if_neg (Ne.symm e)]; simp; omega
/-- Ascending lists of clauses. -/
abbrev Asc (L : List (List Int)) : Prop := L.Pairwise Bef
theorem Asc.nodup {L : List (List Int)} (h : Asc L) : L.Nodup := asc_nodup bef_asym h
theorem Asc.ext {L M : List (List Int)} (h : Asc L) (k : Asc M) (e : ∀ c, c ∈ L ↔ c ∈ M) : L = M := asc_ext bef_asym h k e
theorem Asc.get {L : List (List Int)} (h : Asc L) {i j : Nat} (hij : i < j) (hj : j < L.length) : Bef (L[i]'(by omega)) L[j] := List.pairwise_iff_getElem.1 h i j (by omega) hj hij

theorem bsB_spec {L : List (List Int)} (hs : Asc L) (c : List Int) : ∀ (f lo hi : Nat), hi - lo < f → lo ≤ hi → hi ≤ L.length → (∀ i (h : i < L.length), i < lo → Bef L[i] c) → (∀ i (h : i < L.length), hi ≤ i → ¬ Bef L[i] c) →
    (∀ i (h : i < L.length), i < bsB L c f lo hi → Bef L[i] c) ∧ (∀ i (h : i < L.length), bsB L c f lo hi ≤ i → ¬ Bef L[i] c)
  | 0, _, _, h, _, _, _, _ => by omega
  | f + 1, lo, hi, hf, h1, h2, h3, h4 => by
    by_cases hlt : lo < hi
    · have hm : (lo + hi) / 2 < L.length := by omega
      have he : L[(lo + hi) / 2]?.getD [] = L[(lo + hi) / 2] := by rw [List.getElem?_eq_getElem hm]; rfl
      cases hq : beforeB L[(lo + hi) / 2] c
      · rw [bsB_down hlt (by rw [he]; exact hq)]
        refine bsB_spec hs c f lo _ (by omega) (by omega) (by omega) h3 fun i hi' hle hb => ?_
        rcases Nat.lt_or_eq_of_le hle with h | h
        · have := bef_trans (hs.get h hi') hb
          unfold Bef at this; rw [hq] at this; cases this
        · subst h; unfold Bef at hb; rw [hq] at hb; cases hb
      · rw [bsB_up hlt (by rw [he]; exact hq)]
        refine bsB_spec hs c f _ hi (by omega) (by omega) h2 (fun i hi' hle => ?_) h4
        rcases Nat.lt_or_eq_of_le (show i ≤ (lo + hi) / 2 by omega) with h | h
        · exact bef_trans (hs.get h hm) hq
        · subst h; exact hq
    · rw [bsB_end hlt]
      exact ⟨h3, fun i h hle => h4 i h (by omega)⟩
theorem placeB_spec {L : List (List Int)} (hs : Asc L) (c : List Int) : (∀ i (h : i < L.length), i < placeB L c → Bef L[i] c) ∧ (∀ i (h : i < L.length), placeB L c ≤ i → ¬ Bef L[i] c) :=
  bsB_spec hs c _ _ _ (by omega) (by omega) (Nat.le_refl _) (fun i _ h => by omega) (fun i h h' => by omega)
theorem placeB_mem {L : List (List Int)} (hs : Asc L) {c : List Int} : L[placeB L c]? = some c ↔ c ∈ L := by
  constructor
  · intro h; exact List.mem_of_getElem? h
  · intro h
    obtain ⟨i, hi, rfl⟩ := List.getElem_of_mem h
    obtain ⟨h1, h2⟩ := placeB_spec hs L[i]
    have hle : placeB L L[i] ≤ i := Nat.le_of_not_lt fun h => bef_asym _ _ (h1 i hi h) (h1 i hi h)
    rcases Nat.lt_or_eq_of_le hle with h | h
    · exact absurd (hs.get h hi) (h2 _ (by omega) (Nat.le_refl _))
    · rw [h, List.getElem?_eq_getElem hi]
theorem atB_iff {L : List (List Int)} (hs : Asc L) {c : List Int} : 0 ≤ atB L c ↔ c ∈ L := by
  unfold atB
  by_cases h : L[placeB L c]? = some c
  · rw [if_pos h]; exact ⟨fun _ => (placeB_mem hs).1 h, fun _ => by omega⟩
  · rw [if_neg h]; exact ⟨fun h => by omega, fun hm => absurd ((placeB_mem hs).2 hm) h⟩
/-- A clause put to its place. -/
def insB (L : List (List Int)) (c : List Int) : List (List Int) := L.take (placeB L c) ++ c :: L.drop (placeB L c)
theorem mem_insB {L : List (List Int)} {c x : List Int} : x ∈ insB L c ↔ x = c ∨ x ∈ L := by
  unfold insB
  rw [List.mem_append, List.mem_cons]
  conv => rhs; rw [← List.take_append_drop (placeB L c) L, List.mem_append]
  exact ⟨fun h => by rcases h with h | h | h <;> simp [h], fun h => by rcases h with h | h | h <;> simp [h]⟩
theorem insB_len (L : List (List Int)) (c : List Int) : (insB L c).length = L.length + 1 := by
  unfold insB
  have := placeB_le L c
  rw [List.length_append, List.length_cons, List.length_take, List.length_drop]; omega
theorem Asc.ins {L : List (List Int)} (hs : Asc L) {c : List Int} (hn : c ∉ L) : Asc (insB L c) := by
  obtain ⟨h1, h2⟩ := placeB_spec hs c
  have ht : ∀ y ∈ L.take (placeB L c), Bef y c := by
    intro y hy
    obtain ⟨i, hi, rfl⟩ := List.getElem_of_mem hy
    rw [List.getElem_take]
    rw [List.length_take] at hi
    exact h1 i (by omega) (by omega)
  have hd : ∀ y ∈ L.drop (placeB L c), Bef c y := by
    intro y hy
    obtain ⟨i, hi, rfl⟩ := List.getElem_of_mem hy
    rw [List.length_drop] at hi
    rw [List.getElem_drop]
    have hlt : placeB L c + i < L.length := by omega
    exact (bef_total (fun e => hn (by rw [e]; exact List.getElem_mem hlt))).resolve_right (h2 _ hlt (by omega))
  unfold insB
  refine List.pairwise_append.2 ⟨hs.take, List.pairwise_cons.2 ⟨hd, hs.drop⟩, fun a ha b hb => ?_⟩
  rcases List.mem_cons.1 hb with rfl | hb
  · exact ht a ha
  · exact bef_trans (ht a ha) (hd b hb)
theorem Asc.empty {L : List (List Int)} (hs : Asc L) : [] ∈ L ↔ ∃ h : 0 < L.length, L[0] = [] := by
  constructor
  · intro h
    obtain ⟨i, hi, e⟩ := List.getElem_of_mem h
    refine ⟨by omega, ?_⟩
    rcases Nat.eq_zero_or_pos i with rfl | hp
    · exact e
    · have := hs.get hp hi
      rw [e] at this
      unfold Bef beforeB at this
      cases hc : L[0] with
      | nil => rfl
      | cons x t => rw [hc] at this; simp at this
  · rintro ⟨h, e⟩
    exact e ▸ List.getElem_mem h
end Go.Proofs.Ytebpknekaljgnaa
