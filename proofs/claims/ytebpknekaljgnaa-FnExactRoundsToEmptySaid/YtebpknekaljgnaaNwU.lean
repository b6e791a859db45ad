/- Plain facts on the program's closure: pairs of clauses and their masks. No program in sight. -/
import Derived.Test.YtebpknekaljgnaaNwC
namespace Go.Proofs.Ytebpknekaljgnaa
open Go.RowKit

/-- A resolvent of two clauses, whichever comes first. -/
def pairP (L : List (List Int)) (p q : Nat) (c : List Int) : Prop := ∃ v, ∃ (hp : p < L.length) (hq : q < L.length), 1 ≤ v ∧ (resB L[p] L[q] v = some c ∨ resB L[q] L[p] v = some c)
def candI (L : List (List Int)) (f i : Nat) (c : List Int) : Prop := ∃ p q, f ≤ p ∧ p < i ∧ q < p ∧ pairP L p q c
def candJ (L : List (List Int)) (f i j : Nat) (c : List Int) : Prop := candI L f i c ∨ ∃ q, q < j ∧ pairP L i q c
/-- What the program has found in a round: new clauses, once each. -/
structure New (L : List (List Int)) (width : Int) (cand : List Int → Prop) (N : List (List Int)) : Prop where
  nodup : N.Nodup
  good : ∀ c ∈ N, Good c
  mem : ∀ c, c ∈ N ↔ cand c ∧ (c.length : Int) ≤ width ∧ c ∉ L

section
variable {L N : List (List Int)} {width : Int} {f i j : Nat} {c : List Int} {cand cand' : List Int → Prop}
theorem New.congr (h : New L width cand N) (he : ∀ c, cand c ↔ cand' c) : New L width cand' N := ⟨h.nodup, h.good, fun c => by rw [h.mem, he]⟩
theorem New.start : New L width (candI L f f) [] := ⟨by simp, by simp, fun c => by
  constructor
  · intro h; simp at h
  · rintro ⟨⟨p, q, h1, h2, _⟩, _⟩; omega⟩
theorem candJ_zero : candI L f i c ↔ candJ L f i 0 c := ⟨.inl, fun h => h.elim id fun ⟨_, h, _⟩ => by omega⟩
theorem candJ_succ : candJ L f i (j + 1) c ↔ candJ L f i j c ∨ pairP L i j c := by
  constructor
  · rintro (h | ⟨q, hq, h⟩)
    · exact .inl (.inl h)
    · by_cases e : q = j
      · subst e; exact .inr h
      · exact .inl (.inr ⟨q, by omega, h⟩)
  · rintro ((h | ⟨q, hq, h⟩) | h)
    · exact .inl h
    · exact .inr ⟨q, by omega, h⟩
    · exact .inr ⟨j, by omega, h⟩
theorem candI_succ (hf : f ≤ i) : candJ L f i i c ↔ candI L f (i + 1) c := by
  constructor
  · rintro (⟨p, q, h1, h2, h3, h⟩ | ⟨q, hq, h⟩)
    · exact ⟨p, q, h1, by omega, h3, h⟩
    · exact ⟨i, q, hf, by omega, hq, h⟩
  · rintro ⟨p, q, h1, h2, h3, h⟩
    by_cases e : p = i
    · subst e; exact .inr ⟨q, h3, h⟩
    · exact .inl ⟨p, q, h1, by omega, h3, h⟩
theorem candI_all {F : List (List Int)} {n : Int} {r : Nat} {R : List Int} (h : At F width r L R) (hF : GoodF n F) (hf : ∀ i (_ : i < L.length), i < f ↔ R.getD i 0 < (r : Int)) : candI L f L.length c ↔ candR L R r c := by
  rw [cand_iff h hF hf]
  constructor
  · rintro ⟨p, q, h1, h2, h3, v, hp, hq, hv, h⟩
    exact ⟨p, q, v, h3, hp, h1, hv, h⟩
  · rintro ⟨p, q, v, h3, hp, h1, hv, h⟩
    exact ⟨p, q, h1, hp, h3, v, hp, by omega, hv, h⟩
theorem pair_no (hg : ∀ c ∈ L, Good c) (hi : i < L.length) (hj : j < L.length) (h : oneN (bothN (maskN L[i]) (maskN L[j])) = false) : ¬ pairP L i j c := by
  rintro ⟨v, hp, hq, hv, h1 | h1⟩
  · rw [(res_mask_of (hg _ (List.getElem_mem hi)) (hg _ (List.getElem_mem hj)) hv h1).1] at h
    cases h
  · have := (res_mask_of (hg _ (List.getElem_mem hj)) (hg _ (List.getElem_mem hi)) hv h1).1
    rw [both_comm (hg _ (List.getElem_mem hj)) (hg _ (List.getElem_mem hi)), h] at this
    cases this
theorem pair_yes (hg : ∀ c ∈ L, Good c) (hi : i < L.length) (hj : j < L.length) (h : oneN (bothN (maskN L[i]) (maskN L[j])) = true) : ∃ c, Good c ∧ resN (maskN L[i]) (maskN L[j]) = maskN c ∧ ∀ d, pairP L i j d ↔ d = c := by
  have gi := hg _ (List.getElem_mem hi)
  have gj := hg _ (List.getElem_mem hj)
  obtain ⟨v, c, hv, _, hc, hgc, hm⟩ := mask_res gi gj h
  refine ⟨c, hgc, hm, fun d => ⟨?_, ?_⟩⟩
  · rintro ⟨u, hp, hq, hu, h1 | h1⟩
    · exact maskN_inj (resB_good gi gj hu h1) hgc ((res_mask_of gi gj hu h1).2.symm.trans hm)
    · exact maskN_inj (resB_good gj gi hu h1) hgc (((res_mask_of gj gi hu h1).2.symm.trans (resN_comm gj gi)).trans hm)
  · rintro rfl
    exact ⟨v, hi, hj, hv, hc⟩
theorem New.pass (h : New L width (candJ L f i j) N) (hn : ∀ d, ¬ pairP L i j d) : New L width (candJ L f i (j + 1)) N := h.congr fun d => by
  rw [candJ_succ]
  exact ⟨.inl, fun h => h.elim id fun h => absurd h (hn d)⟩
theorem New.old (h : New L width (candJ L f i j) N) (hp : ∀ d, pairP L i j d ↔ d = c) (ho : width < (c.length : Int) ∨ c ∈ L ++ N) : New L width (candJ L f i (j + 1)) N := ⟨h.nodup, h.good, fun d => by
  rw [h.mem, candJ_succ, hp]
  constructor
  · rintro ⟨a, b⟩; exact ⟨.inl a, b⟩
  · rintro ⟨a | rfl, b⟩
    · exact ⟨a, b⟩
    · rcases ho with ho | ho
      · omega
      · rcases List.mem_append.1 ho with ho | ho
        · exact absurd ho b.2
        · exact (h.mem d).1 ho⟩
theorem New.add (h : New L width (candJ L f i j) N) (hp : ∀ d, pairP L i j d ↔ d = c) (hg : Good c) (hl : (c.length : Int) ≤ width) (hn : c ∉ L ++ N) : New L width (candJ L f i (j + 1)) (N ++ [c]) := by
  rw [List.mem_append, not_or] at hn
  refine ⟨?_, fun d hd => ?_, fun d => ?_⟩
  · rw [List.nodup_append]
    refine ⟨h.nodup, by simp, fun x hx y hy e => ?_⟩
    rw [List.mem_singleton] at hy
    subst hy; subst e
    exact hn.2 hx
  · rcases List.mem_append.1 hd with hd | hd
    · exact h.good d hd
    · rw [List.mem_singleton] at hd; subst hd; exact hg
  · rw [List.mem_append, h.mem, candJ_succ, hp, List.mem_singleton]
    constructor
    · rintro (⟨a, b⟩ | rfl)
      · exact ⟨.inl a, b⟩
      · exact ⟨.inr rfl, hl, hn.1⟩
    · rintro ⟨a | a, b⟩
      · exact .inl ⟨a, b⟩
      · exact .inr a
theorem mask_mem (hg : ∀ c ∈ N, Good c) (hc : Good c) : maskN c ∈ N.map maskN ↔ c ∈ N := by
  constructor
  · intro h
    obtain ⟨d, hd, e⟩ := List.mem_map.1 h
    exact (maskN_inj (hg d hd) hc e) ▸ hd
  · intro h
    exact List.mem_map.2 ⟨c, h, rfl⟩
theorem masks_lt (hg : ∀ c ∈ N, Good c) : ∀ m ∈ N.map maskN, m < 4096 := fun m hm => by
  obtain ⟨c, hc, rfl⟩ := List.mem_map.1 hm
  exact maskN_lt (hg c hc).mem

/-- The first clauses, as the program takes them. -/
structure Fst (F : List (List Int)) (width : Int) (k : Nat) (L : List (List Int)) : Prop where
  nodup : L.Nodup
  mem : ∀ c, c ∈ L ↔ c ∈ F.take k ∧ (c.length : Int) ≤ width
theorem Fst.start {F : List (List Int)} : Fst F width 0 [] := ⟨by simp, by simp⟩
theorem Fst.pass {F : List (List Int)} {k : Nat} (h : Fst F width k L) (hk : k < F.length) (ho : ¬ (F[k].length : Int) ≤ width ∨ F[k] ∈ L) : Fst F width (k + 1) L := ⟨h.nodup, fun c => by
  rw [List.take_succ_eq_append_getElem hk, List.mem_append, List.mem_singleton]
  constructor
  · intro hc
    have := (h.mem c).1 hc
    exact ⟨.inl this.1, this.2⟩
  · rintro ⟨a | rfl, b⟩
    · exact (h.mem c).2 ⟨a, b⟩
    · rcases ho with ho | ho
      · exact absurd b ho
      · exact ho⟩
theorem Fst.add {F : List (List Int)} {k : Nat} (h : Fst F width k L) (hk : k < F.length) (hl : (F[k].length : Int) ≤ width) (hn : F[k] ∉ L) : Fst F width (k + 1) (L ++ [F[k]]) := by
  refine ⟨?_, fun c => ?_⟩
  · rw [List.nodup_append]
    refine ⟨h.nodup, by simp, fun x hx y hy e => ?_⟩
    rw [List.mem_singleton] at hy
    subst hy; subst e
    exact hn hx
  · rw [List.take_succ_eq_append_getElem hk, List.mem_append, List.mem_append, List.mem_singleton, h.mem]
    constructor
    · rintro (⟨a, b⟩ | rfl)
      · exact ⟨.inl a, b⟩
      · exact ⟨.inr rfl, hl⟩
    · rintro ⟨a | rfl, b⟩
      · exact .inl ⟨a, b⟩
      · exact .inr rfl
theorem Fst.good {F : List (List Int)} {n : Int} {k : Nat} (h : Fst F width k L) (hF : GoodF n F) : ∀ c ∈ L, Good c := fun c hc => (hF.2.2 c (List.mem_of_mem_take ((h.mem c).1 hc).1)).1
theorem Fst.at {F : List (List Int)} (h : Fst F width F.length L) : At F width 0 L (List.replicate L.length 0) := At.first (fun c => by have := h.mem c; rwa [List.take_length] at this) h.nodup

/-- At the head of a round: what has been found, and the first clause of the last round. -/
structure Head (F : List (List Int)) (width : Int) (r f : Nat) (L : List (List Int)) (R : List Int) : Prop where
  at_ : At F width r L R
  from_ : ∀ i (_ : i < L.length), i < f ↔ R.getD i 0 < (r : Int)
  le : f ≤ L.length
  few : r ≤ f
theorem Head.start {F : List (List Int)} (h : Fst F width F.length L) : Head F width 0 0 L (List.replicate L.length 0) := ⟨h.at, fun i hi => by
  rw [List.getD_eq_getElem?_getD, List.getElem?_replicate, if_pos hi]
  simp, Nat.zero_le _, Nat.le_refl _⟩
theorem Head.next {F : List (List Int)} {n : Int} {r : Nat} {R : List Int} (h : Head F width r f L R) (hF : GoodF n F) (hN : New L width (candI L f L.length) N) (hlt : f < L.length) : Head F width (r + 1) L.length (L ++ N) (R ++ List.replicate N.length ((r + 1 : Nat) : Int)) := by
  have hm : ∀ c, c ∈ N ↔ candR L R r c ∧ (c.length : Int) ≤ width ∧ c ∉ L := fun c => by rw [hN.mem, candI_all h.at_ hF h.from_]
  refine ⟨(h.at_.next hN.nodup hm).1, fun i hi => ?_, by simp, by have := h.few; omega⟩
  rw [List.getD_eq_getElem?_getD]
  by_cases hil : i < L.length
  · obtain ⟨k, e, hk, _⟩ := h.at_.rank i hil
    rw [List.getElem?_append_left (by rw [h.at_.len]; exact hil), e]
    simp only [Option.getD_some]
    omega
  · rw [List.length_append] at hi
    rw [List.getElem?_append_right (by rw [h.at_.len]; omega), List.getElem?_replicate, if_pos (by rw [h.at_.len]; omega)]
    simp only [Option.getD_some]
    omega
theorem Head.clo {F : List (List Int)} {n : Int} {r : Nat} {R : List Int} (h : Head F width r f L R) (hF : GoodF n F) (hge : L.length ≤ f) : Clo F width L R := by
  refine ⟨r, h.at_, (h.at_.next (N := []) (by simp) fun c => ?_).2 rfl⟩
  rw [← candI_all h.at_ hF h.from_]
  constructor
  · intro h; simp at h
  · rintro ⟨⟨p, q, h1, h2, _⟩, _⟩; omega
end
end Go.Proofs.Ytebpknekaljgnaa
