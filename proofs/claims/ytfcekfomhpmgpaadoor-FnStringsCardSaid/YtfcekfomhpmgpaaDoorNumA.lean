/- Plain facts: numbers read back from their text; a changed byte of a sealed string. No program in sight. -/
import Derived.Test.YtfcekfomhpmgpaaDoorPlC
import Derived.Lib.AtoiAll
namespace Go.Proofs.YtfcekfomhpmgpaaDoor

def isDig (c : UInt8) : Bool := decide (48 ≤ c.toNat) && decide (c.toNat ≤ 57)
theorem isDig_true {c : UInt8} : isDig c = true ↔ 48 ≤ c.toNat ∧ c.toNat ≤ 57 := by simp [isDig]
/-- What digits spell. -/
def valD (l : List UInt8) : Nat := l.foldl (fun a c => a * 10 + (c.toNat - 48)) 0
theorem valD_snoc (l : List UInt8) (c : UInt8) : valD (l ++ [c]) = valD l * 10 + (c.toNat - 48) := by simp [valD]
theorem valD_lt : ∀ (n : Nat) (l : List UInt8), l.length = n → l.all isDig = true → valD l < 10 ^ n
  | 0, l, h, _ => by
    obtain rfl := List.length_eq_zero_iff.1 h
    decide
  | n + 1, l, h, hd => by
    rcases List.eq_nil_or_concat l with rfl | ⟨l', c, rfl⟩
    · simp at h
    · rw [List.concat_eq_append] at h hd ⊢
      rw [List.all_append, Bool.and_eq_true] at hd
      have h1 := valD_lt n l' (by simpa using h) hd.1
      have h2 : isDig c = true := by simpa using hd.2
      rw [isDig_true] at h2
      rw [valD_snoc, Nat.pow_succ]
      omega
theorem parse_digits : ∀ (l : List UInt8) (acc : Nat), l.all isDig = true → (acc + 1) * 10 ^ l.length ≤ 100000000000000000 → Lib.parseUint10 acc l = .ok (l.foldl (fun a c => a * 10 + (c.toNat - 48)) acc)
  | [], _, _, _ => rfl
  | c :: r, acc, hd, hb => by
    rw [List.all_cons, Bool.and_eq_true] at hd
    have h1 := isDig_true.1 hd.1
    have h2 : (acc * 10 + (c.toNat - 48) + 1) * 10 ^ r.length ≤ 100000000000000000 := by
      refine Nat.le_trans (Nat.mul_le_mul_right _ (show _ ≤ (acc + 1) * 10 by omega)) ?_
      rw [List.length_cons, Nat.pow_succ] at hb
      rw [Nat.mul_assoc, Nat.mul_comm 10]
      exact hb
    have h3 : acc + 1 ≤ 100000000000000000 := Nat.le_trans (Nat.le_mul_of_pos_right _ (Nat.pow_pos (by decide))) hb
    have h4 : acc * 10 + (c.toNat - 48) + 1 ≤ 100000000000000000 := Nat.le_trans (Nat.le_mul_of_pos_right _ (Nat.pow_pos (by decide))) h2
    rw [Lib.parseUint10, if_pos h1, if_neg (by omega), if_neg (by omega), parse_digits r _ hd.2 h2]
    rfl
theorem decDigits_all (u : Nat) : (Lib.decDigits u).all isDig = true := by
  rw [List.all_eq_true]
  intro c hc
  exact isDig_true.2 (decDigits_digit u u (Nat.le_refl _) c hc)
theorem valD_dec : ∀ (n u : Nat), u ≤ n → valD (Lib.decDigits u) = u
  | n, u, hn => by
    by_cases h : u < 10
    · rw [Lib.decDigits, dif_pos h]
      simp [valD]; omega
    · rw [decDigits_big h, valD_snoc]
      cases n with
      | zero => omega
      | succ n =>
        rw [valD_dec n (u / 10) (by omega)]
        simp; omega
termination_by n => n
theorem dec_len6 {u : Nat} (h : u ≤ 999999) : 1 ≤ (Lib.decDigits u).length ∧ (Lib.decDigits u).length ≤ 6 := by
  have h1 := decDigits_len 5 u (by omega)
  have h2 := List.length_pos_iff.2 (decDigits_ne u)
  omega
theorem dec_head {u : Nat} {c : UInt8} {r : List UInt8} (h : Lib.decDigits u = c :: r) : 48 ≤ c.toNat ∧ c.toNat ≤ 57 := decDigits_digit u u (Nat.le_refl _) c (by rw [h]; exact List.mem_cons_self)
theorem parseMag_dec {u : Nat} (h : u ≤ 999999) : Lib.parseMag (Lib.decDigits u) = .ok u := by
  have hl := dec_len6 h
  unfold Lib.parseMag
  rw [if_neg (decDigits_ne u), parse_digits _ _ (decDigits_all u) ?_]
  · exact congrArg _ (valD_dec u u (Nat.le_refl _))
  · have : 10 ^ (Lib.decDigits u).length ≤ 10 ^ 6 := Nat.pow_le_pow_right (by decide) hl.2
    omega
/-- The text of a number is read back. -/
theorem atoi_itoa {v : Int} (h0 : -999999 ≤ v) (h1 : v ≤ 999999) : Lib.atoiAll (Lib.itoa v) = .ok v := by
  rcases Int.lt_or_le v 0 with h | h
  · obtain ⟨u, rfl⟩ : ∃ u : Nat, v = -(u : Int) := ⟨v.natAbs, by omega⟩
    rw [itoa_neg u (by omega)]
    unfold Lib.atoiAll
    simp [parseMag_dec (show u ≤ 999999 by omega)]
    omega
  · obtain ⟨u, rfl⟩ := Int.eq_ofNat_of_zero_le h
    rw [itoa_nat]
    obtain ⟨c, r, hc⟩ := List.exists_cons_of_ne_nil (decDigits_ne u)
    have hh := dec_head hc
    have hm := parseMag_dec (show u ≤ 999999 by omega)
    rw [hc] at hm ⊢
    unfold Lib.atoiAll
    simp only
    rw [if_neg (by omega), hm]
    simp only
    rw [if_neg (by omega), if_neg (by omega), if_neg (by omega)]

/-- The number that a text is the text of. -/
def numB (l : List UInt8) : Int × Bool :=
  match Lib.atoiAll l with
  | .ok v => if inB v (-999999) 999999 && Lib.itoa v == l then (v, true) else (0, false)
  | _ => (0, false)
theorem numB_itoa {v : Int} (h0 : -999999 ≤ v) (h1 : v ≤ 999999) : numB (Lib.itoa v) = (v, true) := by
  unfold numB
  rw [atoi_itoa h0 h1]
  simp only
  rw [if_pos (by simp [inB_true, h0, h1])]
theorem numB_not {l : List UInt8} (h : ∀ v : Int, -999999 ≤ v → v ≤ 999999 → Lib.itoa v ≠ l) : numB l = (0, false) := by
  unfold numB
  split
  · rename_i v _
    rw [if_neg]
    intro e
    simp only [Bool.and_eq_true, inB_true, beq_iff_eq] at e
    exact h v e.1.1 e.1.2 e.2
  · rfl
theorem numB_ok {l : List UInt8} {v : Int} (h : Lib.atoiAll l = .ok v) : numB l = if inB v (-999999) 999999 && Lib.itoa v == l then (v, true) else (0, false) := by
  unfold numB; rw [h]
theorem numB_no {l : List UInt8} (h : ∀ v, Lib.atoiAll l ≠ .ok v) : numB l = (0, false) := by
  unfold numB
  split
  · rename_i v e; exact absurd e (h v)
  · rfl
/-- Text behind a sign, and the sign. -/
def negB (l : List UInt8) : Bool := decide (1 < l.length) && (l.head?.map (·.toNat) == some 45)
def magB (l : List UInt8) : List UInt8 := if negB l then l.tail else l
def sgnV (l : List UInt8) : Int := if negB l then -(valD (magB l) : Int) else valD (magB l)
/-- The reference's reading: digits, and the text of their number is the text. -/
theorem numB_read (l : List UInt8) : numB l = if inB (magB l).length 1 6 && (magB l).all isDig && Lib.itoa (sgnV l) == l then (sgnV l, true) else (0, false) := by
  by_cases hc : (inB (magB l).length 1 6 && (magB l).all isDig && Lib.itoa (sgnV l) == l) = true
  · rw [if_pos hc]
    simp only [Bool.and_eq_true, inB_true, beq_iff_eq] at hc
    obtain ⟨⟨⟨h1, h2⟩, h3⟩, h4⟩ := hc
    have hv := valD_lt _ (magB l) rfl h3
    have hp : 10 ^ (magB l).length ≤ 10 ^ 6 := Nat.pow_le_pow_right (by decide) (by omega)
    have hb : -999999 ≤ sgnV l ∧ sgnV l ≤ 999999 := by unfold sgnV; split <;> omega
    have := numB_itoa hb.1 hb.2
    rw [h4] at this
    exact this
  · rw [if_neg hc]
    refine numB_not fun v h0 h1 e => hc ?_
    subst e
    rcases Int.lt_or_le v 0 with h | h
    · obtain ⟨u, rfl⟩ : ∃ u : Nat, v = -(u : Int) := ⟨v.natAbs, by omega⟩
      have hl := dec_len6 (show u ≤ 999999 by omega)
      have hI := itoa_neg u (by omega)
      have hn : negB (Lib.itoa (-(u : Int))) = true := by rw [hI]; simp [negB]; omega
      have hm : magB (Lib.itoa (-(u : Int))) = Lib.decDigits u := by unfold magB; rw [hn, hI]; rfl
      have hs : sgnV (Lib.itoa (-(u : Int))) = -(u : Int) := by unfold sgnV; rw [hn, hm, valD_dec u u (Nat.le_refl _)]; rfl
      rw [hs, hm]
      simp only [Bool.and_eq_true, inB_true, beq_self_eq_true, and_true]
      exact ⟨by omega, decDigits_all u⟩
    · obtain ⟨u, rfl⟩ := Int.eq_ofNat_of_zero_le h
      have hl := dec_len6 (show u ≤ 999999 by omega)
      have hI := itoa_nat u
      obtain ⟨c, r, hcr⟩ := List.exists_cons_of_ne_nil (decDigits_ne u)
      have hh := dec_head hcr
      have hn : negB (Lib.itoa (u : Int)) = false := by
        rw [hI, hcr]
        simp only [negB, List.head?_cons, Option.map_some, Bool.and_eq_false_iff, beq_eq_false_iff_ne, ne_eq, Option.some.injEq]
        right; omega
      have hm : magB (Lib.itoa (u : Int)) = Lib.decDigits u := by unfold magB; rw [hn, hI]; rfl
      have hs : sgnV (Lib.itoa (u : Int)) = (u : Int) := by unfold sgnV; rw [hn, hm, valD_dec u u (Nat.le_refl _)]; rfl
      rw [hs, hm]
      simp only [Bool.and_eq_true, inB_true, beq_self_eq_true, and_true]
      exact ⟨by omega, decDigits_all u⟩

/-- One changed byte changes the checksum. -/
theorem sum_step_inj {a b : Int} {c : UInt8} (ha : 0 ≤ a ∧ a < 999979) (hb : 0 ≤ b ∧ b < 999979) (h : (41 * a + c.toNat + 1) % 999979 = (41 * b + c.toNat + 1) % 999979) : a = b := by omega
theorem sum_tail_inj : ∀ (r x y : List UInt8), sumB (x ++ r) = sumB (y ++ r) → sumB x = sumB y
  | [], x, y, h => by simpa using h
  | c :: r, x, y, h => by
    have h1 : sumB ((x ++ [c]) ++ r) = sumB ((y ++ [c]) ++ r) := by simpa using h
    have h2 := sum_tail_inj r _ _ h1
    rw [sumB_snoc, sumB_snoc] at h2
    exact sum_step_inj (sumB_range x) (sumB_range y) h2
theorem sum_change (x r : List UInt8) {c d : UInt8} (h : c ≠ d) : sumB (x ++ c :: r) ≠ sumB (x ++ d :: r) := by
  intro e
  have h1 : sumB ((x ++ [c]) ++ r) = sumB ((x ++ [d]) ++ r) := by simpa using e
  have h2 := sum_tail_inj r _ _ h1
  rw [sumB_snoc, sumB_snoc] at h2
  have hc := c.toNat_lt
  have hd := d.toNat_lt
  exact h (UInt8.toNat_inj.1 (by omega))
theorem itoa_inj {a b : Int} (ha : 0 ≤ a ∧ a < 999979) (hb : 0 ≤ b ∧ b < 999979) (h : Lib.itoa a = Lib.itoa b) : a = b := by
  have h1 := atoi_itoa (show -999999 ≤ a by omega) (show a ≤ 999999 by omega)
  rw [h, atoi_itoa (by omega) (by omega)] at h1
  injection h1 with h1
  exact h1.symm
theorem appB_no {l m : List UInt8} (h : sealB l ≠ m) : ((appB l).2 && (appB l).1 == m) = false := by
  unfold appB
  split
  · simpa using h
  · rfl
theorem appB_has {l : List UInt8} (h : (appB l).2 = true) : (appB l).1 = sealB l ∧ hasB l 35 = false := by
  unfold appB at *
  split at h
  · rename_i hc
    simp only [Bool.and_eq_true, Bool.not_eq_true'] at hc
    rw [if_pos (by simp only [Bool.and_eq_true, Bool.not_eq_true']; exact hc)]
    exact ⟨rfl, hc.1.2⟩
  · cases h
theorem digits_35 (n : Int) (h : 0 ≤ n) : hasB (Lib.itoa n) 35 = false := allB_has (itoa_all h)
theorem cut_seal {x d : List UInt8} (h : hasB x 35 = false) : cutP 35 (x ++ 35 :: d) = (x, d, true) := cutP_some h (by decide)
/-- A sealed string is accepted. -/
theorem ver_seal {x : List UInt8} (h : (appB x).2 = true) : verB (sealB x) = (x, true) := by
  obtain ⟨h1, h2⟩ := appB_has h
  unfold verB sealB
  rw [cut_seal h2]
  simp only
  rw [h, h1]
  simp [sealB]
/-- A sealed string with one byte changed is not. -/
theorem ver_change {x : List UInt8} (h : hasB x 35 = false) {k : Nat} (hk : k < (sealB x).length) {c : UInt8} (hc : c ≠ (sealB x)[k]) : (verB ((sealB x).set k c)).2 = false := by
  have hs := sumB_range x
  have hdg := digits_35 (sumB x) hs.1
  suffices hm : sealB (cutP 35 ((sealB x).set k c)).1 ≠ (sealB x).set k c by
    unfold verB
    rw [appB_no hm]; rfl
  unfold sealB at hk hc ⊢
  rcases Nat.lt_trichotomy k x.length with h1 | h1 | h1
  · -- a byte of the text
    have e1 : (x ++ 35 :: Lib.itoa (sumB x)).set k c = x.take k ++ c :: x.drop (k + 1) ++ 35 :: Lib.itoa (sumB x) := by
      rw [List.set_append_left _ _ h1, List.set_eq_take_append_cons_drop, if_pos h1]
    have e2 : x = x.take k ++ x[k] :: x.drop (k + 1) := by rw [List.getElem_cons_drop]; exact (List.take_append_drop k x).symm
    rw [List.getElem_append_left h1] at hc
    have hh := h
    rw [e2, hasB_append, hasB_cons, Bool.or_eq_false_iff, Bool.or_eq_false_iff] at hh
    obtain ⟨g1, _, g3⟩ := hh
    rw [e1]
    cases hq : eqB c 35
    · rw [cut_seal (by rw [hasB_append, hasB_cons, g1, hq, g3]; rfl)]
      intro e
      have e3 := List.append_cancel_left e
      simp only [List.cons.injEq, true_and] at e3
      have e4 := itoa_inj (sumB_range _) hs e3
      exact sum_change (x.take k) (x.drop (k + 1)) hc (e4.trans (congrArg sumB e2))
    · rw [List.append_assoc, List.cons_append, cutP_some g1 hq]
      intro e
      have e3 := List.append_cancel_left e
      simp only [List.cons.injEq] at e3
      have e4 := congrArg (fun l => hasB l 35) e3.2
      rw [digits_35 _ (sumB_range _).1, hasB_append, hasB_cons] at e4
      simp [eqB] at e4
  · -- the sign itself
    subst h1
    have e1 : (x ++ 35 :: Lib.itoa (sumB x)).set x.length c = x ++ c :: Lib.itoa (sumB x) := by
      rw [List.set_append_right _ _ (Nat.le_refl _), Nat.sub_self]; rfl
    rw [List.getElem_append_right (Nat.le_refl _)] at hc
    simp only [Nat.sub_self, List.getElem_cons_zero] at hc
    have hq : eqB c 35 = false := by
      cases e : eqB c 35 with
      | false => rfl
      | true => exact absurd (eqB_of c 35 ▸ e : (c == 35) = true) (by simpa using hc)
    rw [e1, cutP_none (by rw [hasB_append, hasB_cons, h, hq, hdg]; rfl)]
    intro e
    have := congrArg List.length e
    simp only [List.length_append, List.length_cons] at this
    omega
  · -- a digit
    have e1 : (x ++ 35 :: Lib.itoa (sumB x)).set k c = x ++ 35 :: (Lib.itoa (sumB x)).set (k - x.length - 1) c := by
      obtain ⟨j, rfl⟩ : ∃ j, k = x.length + (j + 1) := ⟨k - x.length - 1, by omega⟩
      rw [List.set_append_right _ _ (by omega), Nat.add_sub_cancel_left, List.set_cons_succ]
      simp
    rw [e1, cut_seal h]
    intro e
    have e3 := List.append_cancel_left e
    simp only [List.cons.injEq, true_and] at e3
    obtain ⟨j, rfl⟩ : ∃ j, k = x.length + (j + 1) := ⟨k - x.length - 1, by omega⟩
    rw [List.getElem_append_right (by omega)] at hc
    simp only [Nat.add_sub_cancel_left, List.getElem_cons_succ] at hc
    rw [show x.length + (j + 1) - x.length - 1 = j by omega] at e3
    have hj : j < (Lib.itoa (sumB x)).length := by simp at hk; omega
    have e4 : (Lib.itoa (sumB x))[j] = ((Lib.itoa (sumB x)).set j c)[j]'(by simpa using hj) := by congr 1
    rw [List.getElem_set_self] at e4
    exact hc e4.symm
end Go.Proofs.YtfcekfomhpmgpaaDoor
