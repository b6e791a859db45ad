/- Plain facts: polynomials by their terms. No program in sight. -/
import Derived.Test.YtebhkfhdjdgokaaPlA
import Derived.Lib.BitFns
namespace Go.Proofs.Ytebhkfhdjdgokaa

/-- A prime and a number of variables. -/
def primeB (p vars : Int) : Bool := (p == 2 || p == 3 || p == 5) && inB vars 0 6
/-- The number of monomials. -/
def monoN (vars : Int) : Nat := 2 ^ vars.toNat
theorem monoN_le {vars : Int} (h : vars ≤ 6) : monoN vars ≤ 64 := by
  unfold monoN
  have : vars.toNat ≤ 6 := by omega
  exact Nat.le_trans (Nat.pow_le_pow_right (by decide) this) (by decide)
theorem monoN_pos (vars : Int) : 0 < monoN vars := Nat.two_pow_pos _
theorem primeB_facts {p vars : Int} (h : primeB p vars = true) : 2 ≤ p ∧ p ≤ 5 ∧ 0 ≤ vars ∧ vars ≤ 6 := by
  simp only [primeB, Bool.and_eq_true, Bool.or_eq_true, beq_iff_eq, inB_true] at h
  omega

/-- Place i of a polynomial is as it must be. -/
def tmOk (p vars : Int) (xs : List (Int × Int)) (i : Nat) : Bool :=
  inB (xs.getD i (0, 0)).1 0 ((monoN vars : Int) - 1) && inB (xs.getD i (0, 0)).2 1 (p - 1) && (i == 0 || decide ((xs.getD (i - 1) (0, 0)).1 < (xs.getD i (0, 0)).1))
def tmOkTo (p vars : Int) (xs : List (Int × Int)) (k : Nat) : Bool := (List.range k).all (tmOk p vars xs)
theorem tmOkTo_succ (p vars : Int) (xs : List (Int × Int)) (k : Nat) : tmOkTo p vars xs (k + 1) = (tmOkTo p vars xs k && tmOk p vars xs k) := by simp [tmOkTo, List.range_succ]
def termsB (p vars : Int) (xs : List (Int × Int)) : Bool := tmOkTo p vars xs xs.length
/-- A valid polynomial. -/
def polyB (p vars : Int) (xs : List (Int × Int)) : Bool := primeB p vars && termsB p vars xs
theorem tmOkTo_le {p vars : Int} {xs : List (Int × Int)} {k : Nat} (hk : k ≤ xs.length) (h : tmOkTo p vars xs k = false) : termsB p vars xs = false := by
  obtain ⟨d, hd⟩ : ∃ d, xs.length = k + d := ⟨xs.length - k, by omega⟩
  unfold termsB
  rw [hd]
  clear hd hk
  induction d with
  | zero => exact h
  | succ d ih => rw [← Nat.add_assoc, tmOkTo_succ, ih]; rfl
theorem terms_no {p vars : Int} {xs : List (Int × Int)} {k : Nat} (hk : k < xs.length) (h : tmOk p vars xs k = false) : termsB p vars xs = false :=
  tmOkTo_le (k := k + 1) hk (by rw [tmOkTo_succ, h, Bool.and_false])
theorem terms_step {p vars : Int} {xs : List (Int × Int)} {k : Nat} (h0 : tmOkTo p vars xs k = true) (h : tmOk p vars xs k = true) : tmOkTo p vars xs (k + 1) = true := by rw [tmOkTo_succ, h0, h]; rfl
theorem tmOk_zero (p vars : Int) (xs : List (Int × Int)) (h : 0 < xs.length) : tmOk p vars xs 0 = (inB xs[0].1 0 ((monoN vars : Int) - 1) && inB xs[0].2 1 (p - 1)) := by
  simp [tmOk, List.getD_eq_getElem?_getD, List.getElem?_eq_getElem h]
theorem tmOk_at (p vars : Int) (xs : List (Int × Int)) (k : Nat) (h : k < xs.length) : tmOk p vars xs k = (inB xs[k].1 0 ((monoN vars : Int) - 1) && inB xs[k].2 1 (p - 1) && (k == 0 || decide ((xs[k - 1]'(by omega)).1 < xs[k].1))) := by
  simp [tmOk, List.getD_eq_getElem?_getD, List.getElem?_eq_getElem h, List.getElem?_eq_getElem (show k - 1 < xs.length by omega)]
theorem terms_at {p vars : Int} {xs : List (Int × Int)} (h : termsB p vars xs = true) (k : Nat) (hk : k < xs.length) : tmOk p vars xs k = true := by
  unfold termsB tmOkTo at h
  rw [List.all_eq_true] at h
  exact h k (List.mem_range.2 hk)
theorem terms_facts {p vars : Int} {xs : List (Int × Int)} (h : termsB p vars xs = true) (k : Nat) (hk : k < xs.length) : 0 ≤ xs[k].1 ∧ xs[k].1 < monoN vars ∧ 1 ≤ xs[k].2 ∧ xs[k].2 ≤ p - 1 := by
  have := terms_at h k hk
  rw [tmOk_at _ _ _ _ hk] at this
  simp only [Bool.and_eq_true, inB_true] at this
  omega
theorem terms_rising {p vars : Int} {xs : List (Int × Int)} (h : termsB p vars xs = true) : ∀ (i j : Nat) (hj : j < xs.length) (hij : i < j), (xs[i]'(by omega)).1 < xs[j].1
  | i, j + 1, hj, hij => by
    have := terms_at h (j + 1) hj
    rw [tmOk_at _ _ _ _ hj] at this
    simp only [Bool.and_eq_true, Bool.or_eq_true, beq_iff_eq, decide_eq_true_eq] at this
    have h1 : (xs[j]'(by omega)).1 < xs[j + 1].1 := by
      rcases this.2 with h | h
      · omega
      · simpa using h
    rcases Nat.lt_or_ge i j with h2 | h2
    · have := terms_rising h i j (by omega) h2
      omega
    · obtain rfl : i = j := by omega
      exact h1

/-- The number of ones. -/
def popI (m : Int) : Int := (Lib.onesCount m.toNat : Int)
theorem pop_half64 : ∀ n : Fin 64, Lib.onesCount n.val = n.val % 2 + Lib.onesCount (n.val / 2) := by decide +kernel
theorem pop_half {n : Nat} (h : n < 64) : Lib.onesCount n = n % 2 + Lib.onesCount (n / 2) := pop_half64 ⟨n, h⟩
theorem pop_le64 : ∀ n : Fin 64, Lib.onesCount n.val ≤ 6 := by decide +kernel
theorem popI_range {m : Int} (h : m < 64) : 0 ≤ popI m ∧ popI m ≤ 6 := by
  unfold popI
  have := pop_le64 ⟨m.toNat, by omega⟩
  simp only at this
  omega

/-- The degree by the terms. -/
def degS (xs : List (Int × Int)) : Int := xs.foldl (fun d x => max d (popI x.1)) (-1)
theorem degS_snoc (xs : List (Int × Int)) (x : Int × Int) : degS (xs ++ [x]) = max (degS xs) (popI x.1) := by simp [degS]
/-- A term is added to the coefficients. -/
def stepD (p : Int) (d : List Int) (x : Int × Int) : List Int := d.set x.1.toNat ((d.getD x.1.toNat 0 + x.2) % p)
def denseL (p vars : Int) (xs : List (Int × Int)) : List Int := xs.foldl (stepD p) (List.replicate (monoN vars) 0)
theorem denseL_snoc (p vars : Int) (xs : List (Int × Int)) (x : Int × Int) : denseL p vars (xs ++ [x]) = stepD p (denseL p vars xs) x := by simp [denseL]
theorem denseL_len (p vars : Int) (xs : List (Int × Int)) : (denseL p vars xs).length = monoN vars := by
  unfold denseL
  suffices ∀ d : List Int, (xs.foldl (stepD p) d).length = d.length by rw [this]; simp
  induction xs with
  | nil => intro d; rfl
  | cons x xs ih => intro d; rw [List.foldl_cons, ih]; simp [stepD]
/-- The degree by the coefficients. -/
def degD (d : List Int) : Nat → Int
  | 0 => -1
  | k + 1 => if d.getD k 0 = 0 then degD d k else max (degD d k) (popI k)
theorem degD_range (d : List Int) : ∀ k, k ≤ 64 → -1 ≤ degD d k ∧ degD d k ≤ 6
  | 0, _ => by unfold degD; omega
  | k + 1, h => by
    have := degD_range d k (by omega)
    have := popI_range (m := k) (by omega)
    unfold degD
    split <;> omega
theorem degS_range (xs : List (Int × Int)) (h : ∀ x ∈ xs, x.1 < 64) : -1 ≤ degS xs ∧ degS xs ≤ 6 := by
  unfold degS
  suffices ∀ (ys : List (Int × Int)) (a : Int), (∀ x ∈ ys, x.1 < 64) → -1 ≤ a → a ≤ 6 → -1 ≤ ys.foldl (fun d x => max d (popI x.1)) a ∧ ys.foldl (fun d x => max d (popI x.1)) a ≤ 6 from this xs (-1) h (by omega) (by omega)
  intro ys
  induction ys with
  | nil => intro a _ h1 h2; exact ⟨h1, h2⟩
  | cons y ys ih =>
    intro a hy h1 h2
    have := popI_range (hy y List.mem_cons_self)
    rw [List.foldl_cons]
    exact ih _ (fun x hx => hy x (List.mem_cons_of_mem _ hx)) (by omega) (by omega)

theorem degS_specN : ∀ (n : Nat) (xs : List (Int × Int)), xs.length = n → (∀ x ∈ xs, popI x.1 ≤ degS xs) ∧ (degS xs = -1 ∨ ∃ x ∈ xs, degS xs = popI x.1)
  | 0, xs, hn => by
    obtain rfl := List.length_eq_zero_iff.1 hn
    exact ⟨by simp, .inl rfl⟩
  | n + 1, xs, hn => by
    rcases List.eq_nil_or_concat xs with rfl | ⟨ys, y, rfl⟩
    · simp at hn
    rw [List.concat_eq_append] at hn ⊢
    rw [degS_snoc]
    obtain ⟨h1, h2⟩ := degS_specN n ys (by simpa using hn)
    refine ⟨fun x hx => ?_, ?_⟩
    · rcases List.mem_append.1 hx with hx | hx
      · have := h1 x hx; omega
      · obtain rfl : x = y := by simpa using hx
        omega
    · rcases Int.le_total (degS ys) (popI y.1) with h | h
      · exact .inr ⟨y, by simp, by omega⟩
      · rw [Int.max_eq_left h]
        exact h2.imp id fun ⟨x, hx, e⟩ => ⟨x, by simp [hx], e⟩
theorem degS_spec (xs : List (Int × Int)) : (∀ x ∈ xs, popI x.1 ≤ degS xs) ∧ (degS xs = -1 ∨ ∃ x ∈ xs, degS xs = popI x.1) := degS_specN _ xs rfl
theorem degD_spec (d : List Int) : ∀ k, (∀ j, j < k → d.getD j 0 ≠ 0 → popI j ≤ degD d k) ∧ (degD d k = -1 ∨ ∃ j, j < k ∧ d.getD j 0 ≠ 0 ∧ degD d k = popI j)
  | 0 => ⟨fun j hj => by omega, .inl rfl⟩
  | k + 1 => by
    obtain ⟨h1, h2⟩ := degD_spec d k
    unfold degD
    by_cases h : d.getD k 0 = 0
    · rw [if_pos h]
      refine ⟨fun j hj hd => ?_, h2.imp id fun ⟨j, hj, e⟩ => ⟨j, by omega, e⟩⟩
      rcases Nat.lt_or_ge j k with h3 | h3
      · exact h1 j h3 hd
      · obtain rfl : j = k := by omega
        exact absurd h hd
    · rw [if_neg h]
      refine ⟨fun j hj hd => ?_, ?_⟩
      · rcases Nat.lt_or_ge j k with h3 | h3
        · have := h1 j h3 hd; omega
        · obtain rfl : j = k := by omega
          omega
      · rcases Int.le_total (degD d k) (popI k) with h3 | h3
        · exact .inr ⟨k, by omega, h, by omega⟩
        · rw [Int.max_eq_left h3]
          exact h2.imp id fun ⟨j, hj, e⟩ => ⟨j, by omega, e⟩
/-- The coefficients of a valid polynomial. -/
theorem dense_get {p vars : Int} {xs : List (Int × Int)} (hp : 2 ≤ p) (h : termsB p vars xs = true) : ∀ k, k ≤ xs.length →
    (∀ j, (denseL p vars (xs.take k)).getD j 0 ≠ 0 ↔ ∃ i, i < k ∧ ∃ hl : i < xs.length, xs[i].1 = (j : Int))
  | 0, _ => fun j => by
    simp [denseL, List.getD_eq_getElem?_getD, List.getElem?_replicate]
    split <;> simp
  | k + 1, hk => fun j => by
    have hlt : k < xs.length := hk
    have ih := dense_get hp h k (by omega)
    obtain ⟨f1, f2, f3, f4⟩ := terms_facts h k hlt
    have hz : (denseL p vars (xs.take k)).getD xs[k].1.toNat 0 = 0 := by
      apply Decidable.byContradiction
      intro hne
      obtain ⟨i, hi, hl, e⟩ := (ih _).1 hne
      have := terms_rising h i k hlt hi
      omega
    rw [List.take_succ_eq_append_getElem hlt, denseL_snoc]
    unfold stepD
    rw [hz, Int.zero_add, Int.emod_eq_of_lt (by omega) (by omega)]
    have hlen := denseL_len p vars (xs.take k)
    rw [List.getD_eq_getElem?_getD, List.getElem?_set]
    by_cases e : xs[k].1.toNat = j
    · rw [if_pos e, if_pos (by omega)]
      simp only [Option.getD_some]
      exact ⟨fun _ => ⟨k, by omega, hlt, by omega⟩, fun _ => by omega⟩
    · rw [if_neg e, ← List.getD_eq_getElem?_getD, ih]
      constructor
      · rintro ⟨i, hi, hl, e'⟩; exact ⟨i, by omega, hl, e'⟩
      · rintro ⟨i, hi, hl, e'⟩
        refine ⟨i, ?_, hl, e'⟩
        rcases Nat.lt_or_ge i k with h3 | h3
        · exact h3
        · obtain rfl : i = k := by omega
          omega
/-- Both degrees. -/
theorem deg_eq {p vars : Int} {xs : List (Int × Int)} (hp : 2 ≤ p) (h : termsB p vars xs = true) : degD (denseL p vars xs) (monoN vars) = degS xs := by
  have hg := dense_get hp h xs.length (Nat.le_refl _)
  rw [List.take_length] at hg
  obtain ⟨a1, a2⟩ := degS_spec xs
  obtain ⟨b1, b2⟩ := degD_spec (denseL p vars xs) (monoN vars)
  have c1 : ∀ x ∈ xs, popI x.1 ≤ degD (denseL p vars xs) (monoN vars) := fun x hx => by
    obtain ⟨i, hi, rfl⟩ := List.getElem_of_mem hx
    obtain ⟨f1, f2, _, _⟩ := terms_facts h i hi
    have := b1 xs[i].1.toNat (by omega) ((hg _).2 ⟨i, hi, hi, by omega⟩)
    rwa [show ((xs[i].1.toNat : Nat) : Int) = xs[i].1 by omega] at this
  have c2 : ∀ j, j < monoN vars → (denseL p vars xs).getD j 0 ≠ 0 → popI j ≤ degS xs := fun j _ hd => by
    obtain ⟨i, _, hi, e⟩ := (hg j).1 hd
    rw [← e]
    exact a1 _ (List.getElem_mem _)
  have hpop : ∀ m : Int, 0 ≤ popI m := fun m => by unfold popI; omega
  apply Int.le_antisymm
  · rcases b2 with h1 | ⟨j, hj, hd, e⟩
    · rw [h1]
      rcases a2 with h2 | ⟨x, _, e2⟩
      · omega
      · have := hpop x.1; omega
    · rw [e]; exact c2 j hj hd
  · rcases a2 with h1 | ⟨x, hx, e⟩
    · rw [h1]
      rcases b2 with h2 | ⟨j, _, _, e2⟩
      · omega
      · have := hpop j; omega
    · rw [e]; exact c1 x hx
end Go.Proofs.Ytebhkfhdjdgokaa
