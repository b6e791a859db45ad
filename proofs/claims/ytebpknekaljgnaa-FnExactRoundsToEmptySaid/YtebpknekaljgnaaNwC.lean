/- Plain facts on closures by rounds. No program in sight. -/
import Derived.Test.YtebpknekaljgnaaNwB
namespace Go.Proofs.Ytebpknekaljgnaa
open Go.RowKit

/-- The clauses that are found in the first r rounds. -/
def inR (F : List (List Int)) (w : Int) : Nat → List Int → Prop
  | 0, c => c ∈ F ∧ (c.length : Int) ≤ w
  | r + 1, c => inR F w r c ∨ ∃ a b v, inR F w r a ∧ inR F w r b ∧ 1 ≤ v ∧ resB a b v = some c ∧ (c.length : Int) ≤ w
/-- The round of a clause. -/
def rankR (F : List (List Int)) (w : Int) (k : Nat) (c : List Int) : Prop := inR F w k c ∧ ∀ j, j < k → ¬ inR F w j c
/-- A valid Cnf of few variables. -/
def GoodF (n : Int) (F : List (List Int)) : Prop := 0 ≤ n ∧ n ≤ 6 ∧ ∀ c ∈ F, Good c ∧ ∀ l ∈ c, -n ≤ l ∧ l ≤ n

section
variable {F : List (List Int)} {w n : Int}
theorem inR_mono {r s : Nat} (h : r ≤ s) {c : List Int} (hc : inR F w r c) : inR F w s c := by
  induction s with
  | zero => obtain rfl : r = 0 := by omega
            exact hc
  | succ s ih =>
    rcases Nat.lt_or_eq_of_le h with h | rfl
    · exact .inl (ih (by omega))
    · exact hc
theorem inR_good (hF : GoodF n F) : ∀ {r : Nat} {c : List Int}, inR F w r c → Good c ∧ ∀ l ∈ c, -n ≤ l ∧ l ≤ n
  | 0, c, h => hF.2.2 c h.1
  | _ + 1, _, .inl h => inR_good hF h
  | _ + 1, c, .inr ⟨a, b, v, ha, hb, hv, hc, _⟩ => by
    obtain ⟨ga, na⟩ := inR_good hF ha
    obtain ⟨gb, nb⟩ := inR_good hF hb
    obtain ⟨_, _, _, hg, hm⟩ := (resB_iff ga gb hv).1 hc
    refine ⟨hg, fun l hl => ?_⟩
    rcases ((hm l).1 hl).1 with h | h
    · exact na l h
    · exact nb l h
theorem inR_len : ∀ {r : Nat} {c : List Int}, inR F w r c → (c.length : Int) ≤ w
  | 0, _, h => h.2
  | _ + 1, _, .inl h => inR_len h
  | _ + 1, _, .inr ⟨_, _, _, _, _, _, _, h⟩ => h
theorem rank_one {j k : Nat} {c : List Int} (hj : rankR F w j c) (hk : rankR F w k c) : j = k := by
  rcases Nat.lt_trichotomy j k with h | h | h
  · exact absurd hj.1 (hk.2 j h)
  · exact h
  · exact absurd hk.1 (hj.2 k h)
theorem rank_of {r : Nat} {c : List Int} (h : inR F w r c) : ∃ k, k ≤ r ∧ rankR F w k c := by
  induction r with
  | zero => exact ⟨0, Nat.le_refl _, h, fun j hj => by omega⟩
  | succ r ih =>
    by_cases hr : inR F w r c
    · obtain ⟨k, hk, h2⟩ := ih hr
      exact ⟨k, by omega, h2⟩
    · exact ⟨r + 1, Nat.le_refl _, h, fun j hj hc => hr (inR_mono (by omega) hc)⟩
theorem inR_stop {r : Nat} (h : ∀ c, inR F w (r + 1) c → inR F w r c) : ∀ (s : Nat) {c : List Int}, inR F w s c → inR F w r c
  | 0, _, hc => inR_mono (Nat.zero_le _) hc
  | s + 1, _, .inl hc => inR_stop h s hc
  | s + 1, c, .inr ⟨a, b, v, ha, hb, hv, hc, hl⟩ => h c (.inr ⟨a, b, v, inR_stop h s ha, inR_stop h s hb, hv, hc, hl⟩)

/-- What has been found after r rounds: the clauses in some order, with their rounds. -/
structure At (F : List (List Int)) (w : Int) (r : Nat) (L : List (List Int)) (R : List Int) : Prop where
  mem : ∀ c, c ∈ L ↔ inR F w r c
  nodup : L.Nodup
  len : R.length = L.length
  rank : ∀ i (h : i < L.length), ∃ k : Nat, R[i]? = some (k : Int) ∧ k ≤ r ∧ rankR F w k L[i]
/-- The resolvents that the next round looks at. -/
def candR (L : List (List Int)) (R : List Int) (r : Nat) (c : List Int) : Prop :=
  ∃ i j v, ∃ (hi : i < L.length) (hj : j < L.length), 1 ≤ v ∧ ¬ (R.getD i 0 < (r : Int) ∧ R.getD j 0 < (r : Int)) ∧ resB L[i] L[j] v = some c
theorem At.good {r : Nat} {L : List (List Int)} {R : List Int} (h : At F w r L R) (hF : GoodF n F) : ∀ c ∈ L, Good c ∧ ∀ l ∈ c, -n ≤ l ∧ l ≤ n := fun c hc => inR_good hF ((h.mem c).1 hc)
theorem good_few {M : List (List Int)} (hM : M.Nodup) (hg : ∀ c ∈ M, Good c) : M.length ≤ 4096 := by
  have h1 : (M.map maskN).Nodup := by
    rw [List.nodup_iff_pairwise_ne, List.pairwise_map]
    exact hM.imp_of_mem fun {x y} hx hy hne e => hne (maskN_inj (hg x hx) (hg y hy) e)
  have := nodup_len (b := List.range 4096) h1 fun x hx => by
    obtain ⟨c, hc, rfl⟩ := List.mem_map.1 hx
    exact List.mem_range.2 (maskN_lt (hg c hc).mem)
  simpa using this
theorem At.few {r : Nat} {L : List (List Int)} {R : List Int} (h : At F w r L R) (hF : GoodF n F) : L.length ≤ 4096 := good_few h.nodup fun c hc => (h.good hF c hc).1
/-- The next round, once all candidates have been looked at. -/
theorem At.next {r : Nat} {L N : List (List Int)} {R : List Int} (h : At F w r L R) (hN : N.Nodup) (hm : ∀ c, c ∈ N ↔ candR L R r c ∧ (c.length : Int) ≤ w ∧ c ∉ L) :
    At F w (r + 1) (L ++ N) (R ++ List.replicate N.length ((r + 1 : Nat) : Int)) ∧ (N = [] → ∀ s c, inR F w s c → inR F w r c) := by
  have hrank : ∀ i (hi : i < L.length), R.getD i 0 < (r : Int) → ∃ s, s + 1 = r ∧ inR F w s L[i] := by
    intro i hi hlt
    obtain ⟨k, e, hk, hr⟩ := h.rank i hi
    rw [List.getD_eq_getElem?_getD, e] at hlt
    simp only [Option.getD_some] at hlt
    exact ⟨r - 1, by omega, inR_mono (by omega) hr.1⟩
  have hmem : ∀ c, c ∈ L ++ N ↔ inR F w (r + 1) c := by
    intro c
    rw [List.mem_append, hm]
    constructor
    · rintro (hc | ⟨⟨i, j, v, hi, hj, hv, _, hc⟩, hl, _⟩)
      · exact .inl ((h.mem c).1 hc)
      · exact .inr ⟨_, _, v, (h.mem _).1 (List.getElem_mem hi), (h.mem _).1 (List.getElem_mem hj), hv, hc, hl⟩
    · rintro (hc | ⟨a, b, v, ha, hb, hv, hc, hl⟩)
      · exact .inl ((h.mem c).2 hc)
      · by_cases hcL : c ∈ L
        · exact .inl hcL
        · refine .inr ⟨?_, hl, hcL⟩
          obtain ⟨i, hi, rfl⟩ := List.getElem_of_mem ((h.mem a).2 ha)
          obtain ⟨j, hj, rfl⟩ := List.getElem_of_mem ((h.mem b).2 hb)
          refine ⟨i, j, v, hi, hj, hv, fun ⟨h1, h2⟩ => hcL ((h.mem c).2 ?_), hc⟩
          obtain ⟨s, rfl, k1⟩ := hrank i hi h1
          obtain ⟨s', e, k2⟩ := hrank j hj h2
          obtain rfl : s = s' := by omega
          exact .inr ⟨_, _, v, k1, k2, hv, hc, hl⟩
  refine ⟨⟨hmem, ?_, ?_, ?_⟩, fun e => ?_⟩
  · rw [List.nodup_append]
    refine ⟨h.nodup, hN, fun x hx y hy e => ?_⟩
    subst e
    exact ((hm x).1 hy).2.2 hx
  · simp [h.len]
  · intro i hi
    rw [List.length_append] at hi
    by_cases hlt : i < L.length
    · obtain ⟨k, e, hk, hr⟩ := h.rank i hlt
      refine ⟨k, ?_, by omega, by rw [List.getElem_append_left hlt]; exact hr⟩
      rw [List.getElem?_append_left (by rw [h.len]; exact hlt)]; exact e
    · refine ⟨r + 1, ?_, Nat.le_refl _, ?_⟩
      · rw [List.getElem?_append_right (by rw [h.len]; omega), List.getElem?_replicate, if_pos (by rw [h.len]; omega)]
      · rw [List.getElem_append_right (by omega)]
        have hin : N[i - L.length]'(by omega) ∈ N := List.getElem_mem _
        refine ⟨(hmem _).1 (List.mem_append.2 (.inr hin)), fun j hj hc => ?_⟩
        exact ((hm _).1 hin).2.2 ((h.mem _).2 (inR_mono (by omega) hc))
  · refine fun s c hc => inR_stop (r := r) (fun c hc => ?_) s hc
    have := (hmem c).2 hc
    rw [e, List.append_nil] at this
    exact (h.mem c).1 this
/-- The first clauses. -/
theorem At.first {L : List (List Int)} (hm : ∀ c, c ∈ L ↔ c ∈ F ∧ (c.length : Int) ≤ w) (hn : L.Nodup) : At F w 0 L (List.replicate L.length 0) :=
  ⟨hm, hn, by simp, fun i h => ⟨0, by rw [List.getElem?_replicate, if_pos h]; rfl, Nat.le_refl _, (hm _).1 (List.getElem_mem h), fun j hj => by omega⟩⟩
end

/-- A closure, complete. -/
structure Clo (F : List (List Int)) (w : Int) (L : List (List Int)) (R : List Int) : Prop where
  at_ : ∃ r, At F w r L R ∧ ∀ s c, inR F w s c → inR F w r c
theorem Clo.mem {F : List (List Int)} {w : Int} {L : List (List Int)} {R : List Int} (h : Clo F w L R) {c : List Int} : c ∈ L ↔ ∃ r, inR F w r c := by
  obtain ⟨r, h1, h2⟩ := h.at_
  exact ⟨fun hc => ⟨r, (h1.mem c).1 hc⟩, fun ⟨s, hs⟩ => (h1.mem c).2 (h2 s c hs)⟩
theorem Clo.nodup {F : List (List Int)} {w : Int} {L : List (List Int)} {R : List Int} (h : Clo F w L R) : L.Nodup := by
  obtain ⟨r, h1, h2⟩ := h.at_
  exact h1.nodup
theorem Clo.rank {F : List (List Int)} {w : Int} {L : List (List Int)} {R : List Int} (h : Clo F w L R) {i : Nat} (hi : i < L.length) : ∃ k : Nat, R[i]? = some (k : Int) ∧ rankR F w k L[i] := by
  obtain ⟨r, h1, h2⟩ := h.at_
  obtain ⟨k, e, _, hk⟩ := h1.rank i hi
  exact ⟨k, e, hk⟩
theorem Clo.good {F : List (List Int)} {w n : Int} {L : List (List Int)} {R : List Int} (h : Clo F w L R) (hF : GoodF n F) : ∀ c ∈ L, Good c ∧ (c.length : Int) ≤ w := fun c hc => by
  obtain ⟨r, hr⟩ := h.mem.1 hc
  exact ⟨(inR_good hF hr).1, inR_len hr⟩
/-- The pairs that the program looks at: the later one is of the last round. -/
theorem cand_iff {F : List (List Int)} {w n : Int} {r : Nat} {L : List (List Int)} {R : List Int} (h : At F w r L R) (hF : GoodF n F) {from_ : Nat} (hf : ∀ i (_ : i < L.length), i < from_ ↔ R.getD i 0 < (r : Int)) {c : List Int} :
    candR L R r c ↔ ∃ i j v, ∃ (_ : j < i) (hi : i < L.length), from_ ≤ i ∧ 1 ≤ v ∧ (resB L[i] (L[j]'(by omega)) v = some c ∨ resB (L[j]'(by omega)) L[i] v = some c) := by
  constructor
  · rintro ⟨i, j, v, hi, hj, hv, hn, hc⟩
    have hne : i ≠ j := fun e => by subst e; exact resB_self (h.good hF _ (List.getElem_mem hi)).1 hv hc
    rw [← hf i hi, ← hf j hj] at hn
    rcases Nat.lt_or_gt_of_ne hne with hlt | hlt
    · exact ⟨j, i, v, hlt, hj, by omega, hv, .inr hc⟩
    · exact ⟨i, j, v, hlt, hi, by omega, hv, .inl hc⟩
  · rintro ⟨i, j, v, hlt, hi, hfi, hv, hc | hc⟩
    · exact ⟨i, j, v, hi, by omega, hv, fun ⟨h1, _⟩ => by have := (hf i hi).2 h1; omega, hc⟩
    · exact ⟨j, i, v, by omega, hi, hv, fun ⟨_, h1⟩ => by have := (hf i hi).2 h1; omega, hc⟩
end Go.Proofs.Ytebpknekaljgnaa
