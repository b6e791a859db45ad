/- Lemmas and contracts for a law, put together out of several texts: HlS. -/
import Derived.Test.YteabiokhbaekpaaMg9
import Derived.Test.YteabiokhbaekpaaMg7
import Derived.Test.YteabiokhbaekpaaMg2
/- Plain facts: matchings and models of a choice; all choices, one by one. -/
namespace Go.Proofs.Yteabiokhbaekpaa
open Go.RowKit

theorem has_mem {xs : List Int} {x : Int} : hasI xs x = true ↔ x ∈ xs := by unfold hasI; simp
/-- A matching that is found is one. -/
theorem match_sound : ∀ (n : Nat) (L : List (List Int)) (hs r : List Int), hs.length + n = L.length → matchF n L hs = some r →
    r.length = L.length ∧ r.take hs.length = hs ∧ (∀ i, hs.length ≤ i → i < L.length → r.getD i 0 ∈ L.getD i []) ∧ (hs.Nodup → r.Nodup)
  | 0, L, hs, r, hn, h => by
    obtain rfl : hs = r := by simpa [matchF] using h
    exact ⟨by omega, List.take_length, fun i h1 h2 => by omega, fun h => h⟩
  | n + 1, L, hs, r, hn, h => by
    rw [matchF_succ] at h
    obtain ⟨j, hj, hr⟩ := List.exists_of_findSome?_eq_some h
    unfold matchJ at hr
    cases hh : hasI hs j with
    | true => rw [hh] at hr; simp at hr
    | false =>
      rw [hh, if_neg (by simp)] at hr
      obtain ⟨h1, h2, h3, h4⟩ := match_sound n L (hs ++ [j]) r (by simp; omega) hr
      have hjr : r.getD hs.length 0 = j := by
        have hl : hs.length < r.length := by omega
        have e : (r.take (hs ++ [j]).length)[hs.length]? = (hs ++ [j])[hs.length]? := by rw [h2]
        rw [List.getElem?_take_of_lt (by simp)] at e
        rw [List.getD_eq_getElem?_getD, e]; simp
      refine ⟨h1, ?_, fun i hi1 hi2 => ?_, fun hd => h4 ?_⟩
      · have e : (r.take (hs ++ [j]).length).take hs.length = (hs ++ [j]).take hs.length := by rw [h2]
        rw [List.take_take, List.length_append, Nat.min_eq_left (by simp)] at e
        rw [e]; simp
      · rcases Nat.eq_or_lt_of_le hi1 with rfl | h
        · rw [hjr]; exact hj
        · exact h3 i (by simp; omega) hi2
      · rw [List.nodup_append]
        refine ⟨hd, by simp, fun a ha b hb => ?_⟩
        obtain rfl := List.mem_singleton.1 hb
        rintro rfl
        rw [has_mem.2 ha] at hh
        cases hh
/-- Where there is a matching, one is found. -/
theorem match_complete : ∀ (n : Nat) (L : List (List Int)) (hs ms : List Int), hs.length + n = L.length → ms.length = n → (∀ i, i < n → ms.getD i 0 ∈ L.getD (hs.length + i) []) → (hs ++ ms).Nodup → (matchF n L hs).isSome = true
  | 0, L, hs, ms, hn, hm, h, hd => rfl
  | n + 1, L, hs, ms, hn, hm, h, hd => by
    match ms, hm, h, hd with
    | j :: ms, hm, h, hd =>
      rw [matchF_succ, List.findSome?_isSome_iff]
      have hj : j ∈ L.getD hs.length [] := by simpa using h 0 (by omega)
      have hnj : hasI hs j = false := by
        cases hh : hasI hs j with
        | false => rfl
        | true =>
          have := has_mem.1 hh
          rw [List.nodup_append] at hd
          exact absurd rfl (hd.2.2 j this j (by simp))
      refine ⟨j, hj, ?_⟩
      unfold matchJ
      rw [hnj, if_neg (by simp)]
      refine match_complete n L (hs ++ [j]) ms (by simp; omega) (by simpa using hm) (fun i hi => ?_) (by rw [List.append_assoc]; exact hd)
      have := h (i + 1) (by omega)
      rw [List.length_append, List.length_singleton, show hs.length + 1 + i = hs.length + (i + 1) by omega]
      simpa using this

/-- The place of a list's number among all numbers. -/
theorem hol_get {L : List (List Int)} {i k : Nat} (hi : i < L.length) (hk : k < L[i].length) : ∀ m, i < m → m ≤ L.length → (holT L m).getD ((holT L i).length + k) 0 = L[i][k] ∧ (pigT L m).getD ((holT L i).length + k) 0 = (i : Int) ∧ (holT L i).length + L[i].length ≤ (holT L m).length
  | 0, h, _ => by omega
  | m + 1, h, hm => by
    rw [holT_succ (by omega), pigT_succ (by omega)]
    rcases Nat.eq_or_lt_of_le (Nat.le_of_lt_succ h) with rfl | h'
    · refine ⟨?_, ?_, by rw [List.length_append]; exact Nat.le_refl _⟩
      · rw [List.getD_eq_getElem?_getD, List.getElem?_append_right (by omega), Nat.add_sub_cancel_left, List.getElem?_eq_getElem hk]; rfl
      · rw [← pig_hol (by omega), List.getD_eq_getElem?_getD, List.getElem?_append_right (by omega), Nat.add_sub_cancel_left, List.getElem?_replicate, if_pos hk]; rfl
    · obtain ⟨h1, h2, h3⟩ := hol_get hi hk m h' (by omega)
      have hp := pig_hol (L := L) (m := m) (by omega)
      refine ⟨?_, ?_, by rw [List.length_append]; omega⟩
      · rw [List.getD_eq_getElem?_getD, List.getElem?_append_left (by omega), ← List.getD_eq_getElem?_getD]; exact h1
      · rw [List.getD_eq_getElem?_getD, List.getElem?_append_left (by omega), ← List.getD_eq_getElem?_getD]; exact h2
theorem node_mem {L : List (List Int)} {i : Nat} (hi : i < L.length) : seqC (holT L i).length L[i].length ∈ chX L := by
  unfold chX nodT
  refine List.mem_append.2 (.inl (List.mem_map.2 ⟨i, List.mem_range.2 hi, ?_⟩))
  rw [getD_at hi]
theorem lit_seq (a c b : Nat) : litT b ((a : Int) + c + 1) = b.testBit (a + c) := by
  unfold litT
  rw [show ((a : Int) + c + 1).natAbs - 1 = a + c by omega, decide_eq_true (by omega)]; simp
theorem lit_no (v b : Nat) : litT b (-(v : Int) - 1) = !b.testBit v := by
  unfold litT
  rw [show (-(v : Int) - 1).natAbs - 1 = v by omega, decide_eq_false (by omega)]
  cases b.testBit v <;> rfl
theorem cl_seq {a n b : Nat} : clT (seqC a n) b = true ↔ ∃ c, c < n ∧ b.testBit (a + c) = true := by
  unfold clT seqC
  rw [List.any_map, List.any_eq_true]
  constructor
  · rintro ⟨c, hc, h⟩
    exact ⟨c, List.mem_range.1 hc, by rw [← lit_seq]; exact h⟩
  · rintro ⟨c, hc, h⟩
    exact ⟨c, List.mem_range.2 hc, by rw [← lit_seq] at h; exact h⟩
theorem cl_pr (v u b : Nat) : clT (prC v u) b = (!b.testBit v || !b.testBit u) := by
  unfold clT prC
  simp [lit_no]
theorem pr_mem {P H : List Int} {N v u : Nat} (hv : v < u) (hu : u < N) (hc : conC P H v u = true) : prC v u ∈ prO P H N N := by
  unfold prO prI
  exact List.mem_flatMap.2 ⟨v, List.mem_range.2 (by omega), List.mem_map.2 ⟨u, List.mem_filter.2 ⟨List.mem_range.2 hu, by rw [hc, decide_eq_true hv]; rfl⟩, rfl⟩⟩
theorem pr_of {P H : List Int} {N : Nat} {c : List Int} (h : c ∈ prO P H N N) : ∃ v u, v < u ∧ u < N ∧ conC P H v u = true ∧ c = prC v u := by
  unfold prO prI at h
  obtain ⟨v, hv, h⟩ := List.mem_flatMap.1 h
  obtain ⟨u, hu, rfl⟩ := List.mem_map.1 h
  obtain ⟨h1, h2⟩ := List.mem_filter.1 hu
  rw [Bool.and_eq_true, decide_eq_true_eq] at h2
  exact ⟨v, u, h2.1, List.mem_range.1 h1, h2.2, rfl⟩

/-- The bits of what holds, below a bound. -/
def bitF (p : Nat → Bool) : Nat → Nat
  | 0 => 0
  | n + 1 => if p n then bitF p n ||| 2 ^ n else bitF p n
theorem bitF_lt (p : Nat → Bool) : ∀ n, bitF p n < 2 ^ n
  | 0 => by simp [bitF]
  | n + 1 => by
    have h := bitF_lt p n
    have h2 : (2 : Nat) ^ n < 2 ^ (n + 1) := Nat.pow_lt_pow_right (by decide) (by omega)
    unfold bitF
    split
    · exact Nat.or_lt_two_pow (by omega) h2
    · omega
theorem bitF_bit (p : Nat → Bool) (v : Nat) : ∀ n, (bitF p n).testBit v = (decide (v < n) && p v)
  | 0 => by simp [bitF]
  | n + 1 => by
    have h := bitF_bit p v n
    have hlt := bitF_lt p n
    unfold bitF
    split
    · rename_i hp
      rw [Nat.testBit_or, h, Nat.testBit_two_pow]
      rcases Nat.lt_trichotomy v n with h1 | rfl | h1
      · simp [h1, show ¬ n = v by omega, show v < n + 1 by omega]
      · simp [hp]
      · simp [show ¬ v < n by omega, show ¬ n = v by omega, show ¬ v < n + 1 by omega]
    · rename_i hp
      rw [h]
      rcases Nat.lt_trichotomy v n with h1 | rfl | h1
      · simp [h1, show v < n + 1 by omega]
      · simp [hp]
      · simp [show ¬ v < n by omega, show ¬ v < n + 1 by omega]
/-- The variable of a pigeon's hole. -/
def selP (L : List (List Int)) (r : List Int) (v : Nat) : Bool := (holT L L.length).getD v 0 == r.getD ((pigT L L.length).getD v 0).toNat 0
theorem selP_at {L : List (List Int)} {r : List Int} {i k : Nat} (hi : i < L.length) (hk : k < L[i].length) (hr : r.length = L.length) : selP L r ((holT L i).length + k) = (L[i][k] == r.getD i 0) := by
  obtain ⟨h1, h2, -⟩ := hol_get hi hk L.length hi (Nat.le_refl _)
  unfold selP
  rw [h1, h2]; rfl
/-- The bits of a matching are a model. -/
theorem match_model {L : List (List Int)} {r : List Int} (h : matchF L.length L [] = some r) : modT (chX L) (bitF (selP L r) (chN L)) = true := by
  obtain ⟨h1, -, h3, h4⟩ := match_sound L.length L [] r (by simp) h
  have hd := h4 List.nodup_nil
  unfold modT
  rw [List.all_eq_true]
  intro c hc
  rcases List.mem_append.1 hc with hc | hc
  · unfold nodT at hc
    obtain ⟨i, hi, rfl⟩ := List.mem_map.1 hc
    have hi := List.mem_range.1 hi
    rw [getD_at hi, cl_seq]
    have hm := h3 i (by simp) hi
    rw [getD_at hi] at hm
    obtain ⟨k, hk, e⟩ := List.getElem_of_mem hm
    refine ⟨k, hk, ?_⟩
    obtain ⟨-, -, h5⟩ := hol_get hi hk L.length hi (Nat.le_refl _)
    rw [bitF_bit, selP_at hi hk h1, e, decide_eq_true (by unfold chN; omega)]; simp
  · obtain ⟨v, u, hv, hu, hcon, rfl⟩ := pr_of hc
    rw [cl_pr, bitF_bit, bitF_bit, decide_eq_true (by omega), decide_eq_true hu, Bool.true_and, Bool.true_and]
    unfold conC at hcon
    rw [Bool.and_eq_true] at hcon
    obtain ⟨c1, c2⟩ := hcon
    cases hs1 : selP L r v with
    | false => rfl
    | true =>
      cases hs2 : selP L r u with
      | false => rfl
      | true =>
        exfalso
        unfold selP at hs1 hs2
        rw [beq_iff_eq] at hs1 hs2 c2
        have hpl := pig_hol (L := L) (Nat.le_refl _)
        have hpv : (pigT L L.length).getD v 0 ∈ pigT L L.length := by
          rw [List.getD_eq_getElem?_getD, List.getElem?_eq_getElem (by unfold chN at hu; omega)]; exact List.getElem_mem _
        have hpu : (pigT L L.length).getD u 0 ∈ pigT L L.length := by
          rw [List.getD_eq_getElem?_getD, List.getElem?_eq_getElem (by unfold chN at hu; omega)]; exact List.getElem_mem _
        have r1 := pig_rng _ hpv
        have r2 := pig_rng _ hpu
        have hne : (pigT L L.length).getD v 0 ≠ (pigT L L.length).getD u 0 := by simpa using c1
        generalize (pigT L L.length).getD v 0 = a at *
        generalize (pigT L L.length).getD u 0 = b at *
        have e : r.getD a.toNat 0 = r.getD b.toNat 0 := by rw [← hs1, ← hs2, c2]
        have ha : a.toNat < r.length := by omega
        have hb : b.toNat < r.length := by omega
        rw [List.getD_eq_getElem?_getD, List.getD_eq_getElem?_getD, List.getElem?_eq_getElem ha, List.getElem?_eq_getElem hb] at e
        have hpw := List.pairwise_iff_getElem.1 hd
        simp only [Option.getD_some] at e
        rcases Nat.lt_trichotomy a.toNat b.toNat with h | h | h
        · exact hpw _ _ ha hb h e
        · omega
        · exact hpw _ _ hb ha h e.symm
/-- A model is a matching. -/
theorem model_match {L : List (List Int)} {b : Nat} (h : modT (chX L) b = true) : (matchF L.length L []).isSome = true := by
  unfold modT at h
  rw [List.all_eq_true] at h
  have hsel : ∀ i, ∃ k : Nat, ∀ hi : i < L.length, k < L[i].length ∧ b.testBit ((holT L i).length + k) = true := fun i => by
    by_cases hi : i < L.length
    · obtain ⟨k, h1, h2⟩ := cl_seq.1 (h _ (node_mem hi))
      exact ⟨k, fun _ => ⟨h1, h2⟩⟩
    · exact ⟨0, fun h => absurd h hi⟩
  let f := fun i => (hsel i).choose
  have hf : ∀ i (hi : i < L.length), f i < L[i].length ∧ b.testBit ((holT L i).length + f i) = true := fun i hi => (hsel i).choose_spec hi
  have hlt : ∀ i j (hi : i < L.length) (hj : j < L.length), i < j → (L.getD i []).getD (f i) 0 ≠ (L.getD j []).getD (f j) 0 := by
    intro i j hi hj hij e
    obtain ⟨a1, a2⟩ := hf i hi
    obtain ⟨b1, b2⟩ := hf j hj
    obtain ⟨c1, c2, -⟩ := hol_get hi a1 L.length hi (Nat.le_refl _)
    obtain ⟨d1, d2, d3⟩ := hol_get hj b1 L.length hj (Nat.le_refl _)
    obtain ⟨-, -, e3⟩ := hol_get hi a1 j hij (by omega)
    have hc := h _ (List.mem_append.2 (.inr (pr_mem (P := pigT L L.length) (H := holT L L.length) (N := chN L) (v := (holT L i).length + f i) (u := (holT L j).length + f j) (by omega) (by unfold chN; omega) (by
      unfold conC
      rw [c1, c2, d1, d2]
      rw [getD_at hi, getD_at hj, List.getD_eq_getElem?_getD, List.getD_eq_getElem?_getD, List.getElem?_eq_getElem a1, List.getElem?_eq_getElem b1] at e
      simp only [Option.getD_some] at e
      rw [e]
      simp; omega))))
    rw [cl_pr, a2, b2] at hc
    cases hc
  refine match_complete L.length L [] ((List.range L.length).map fun i => (L.getD i []).getD (f i) 0) (by simp) (by simp) (fun i hi => ?_) ?_
  · obtain ⟨a1, a2⟩ := hf i hi
    have e : ((List.range L.length).map fun i => (L.getD i []).getD (f i) 0).getD i 0 = (L.getD i []).getD (f i) 0 := by
      rw [List.getD_eq_getElem?_getD, List.getElem?_map, List.getElem?_range hi]; rfl
    rw [e, List.length_nil, Nat.zero_add, getD_at hi, List.getD_eq_getElem?_getD, List.getElem?_eq_getElem a1]
    exact List.getElem_mem _
  · rw [List.nil_append]
    unfold List.Nodup
    rw [List.pairwise_map]
    refine List.pairwise_lt_range.imp_of_mem fun {i j} hi hj hij => ?_
    exact hlt i j (List.mem_range.1 hi) (List.mem_range.1 hj) hij

/-- All choices. -/
def lists8 : List (List Int) := [[], [1], [2], [3], [1, 2], [1, 3], [2, 3], [1, 2, 3]]
def allL : Nat → List (List (List Int))
  | 0 => [[]]
  | n + 1 => lists8.flatMap fun l => (allL n).map (l :: ·)
theorem lst8 {l : List Int} (h : lstB l = true) : l ∈ lists8 := by
  have hlen := lst_len h
  have f := lst_facts h
  match l, hlen, f with
  | [], _, _ => decide
  | [a], _, f =>
    have h0 := inB_true.1 (f 0 (by simp)).1
    simp only [List.getElem_cons_zero] at h0
    have : a = 1 ∨ a = 2 ∨ a = 3 := by omega
    rcases this with rfl | rfl | rfl <;> decide
  | [a, b], _, f =>
    have h0 := inB_true.1 (f 0 (by simp)).1
    have h1 := inB_true.1 (f 1 (by simp)).1
    have h2 := (f 1 (by simp)).2
    simp at h0 h1 h2
    have : (a = 1 ∧ b = 2) ∨ (a = 1 ∧ b = 3) ∨ (a = 2 ∧ b = 3) := by omega
    rcases this with ⟨rfl, rfl⟩ | ⟨rfl, rfl⟩ | ⟨rfl, rfl⟩ <;> decide
  | [a, b, c], _, f =>
    have h0 := inB_true.1 (f 0 (by simp)).1
    have h1 := inB_true.1 (f 1 (by simp)).1
    have h2 := inB_true.1 (f 2 (by simp)).1
    have h3 := (f 1 (by simp)).2
    have h4 := (f 2 (by simp)).2
    simp at h0 h1 h2 h3 h4
    have : a = 1 ∧ b = 2 ∧ c = 3 := by omega
    obtain ⟨rfl, rfl, rfl⟩ := this
    decide
theorem all_mem : ∀ {L : List (List Int)}, (∀ l ∈ L, lstB l = true) → L ∈ allL L.length
  | [], _ => by simp [allL]
  | l :: L, h => by
    have h1 := lst8 (h l (by simp))
    have h2 := all_mem (L := L) fun m hm => h m (by simp [hm])
    exact List.mem_flatMap.2 ⟨l, h1, List.mem_map.2 ⟨L, h2, rfl⟩⟩
/-- What is looked at for a choice. -/
def chkL (L : List (List Int)) : Bool :=
  let s := (csL L.length L.length).find? (hallB L)
  (hsTo L (2 ^ L.length) == (s.getD [], s.isSome)) && (s.isSome != (matchF L.length L []).isSome) && s.all (clauseB L.length) && goodB (chN L) (chX L)
end Go.Proofs.Yteabiokhbaekpaa
