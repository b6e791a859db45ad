/- Plain facts on masks of clauses of at most six variables. No program in sight. -/
import Derived.Test.YtebpknekaljgnaaNwA
namespace Go.Proofs.Ytebpknekaljgnaa
open Go.RowKit

theorem tb_off {m n i : Nat} (h : m < 2 ^ n) (hi : n ≤ i) : m.testBit i = false := Nat.testBit_lt_two_pow (Nat.lt_of_lt_of_le h (Nat.pow_le_pow_right (by decide) hi))
/-- The bit of a literal. -/
def litBit (l : Int) : Nat := if 0 < l then (l - 1).toNat else (5 - l).toNat
theorem litBit_lt {l : Int} (h : Lit6 l) : litBit l < 12 := by unfold litBit; unfold Lit6 at h; split <;> omega
theorem litBit_inj {l k : Int} (h : Lit6 l) (hk : Lit6 k) (e : litBit l = litBit k) : l = k := by
  unfold litBit at e; unfold Lit6 at h hk; split at e <;> split at e <;> omega
theorem litBit_pos {i : Nat} : litBit ((i : Int) + 1) = i := by unfold litBit; rw [if_pos (by omega)]; omega
theorem litBit_neg {i : Nat} : litBit (-((i : Int) + 1)) = i + 6 := by unfold litBit; rw [if_neg (by omega)]; omega
theorem lit_pos {i : Nat} (h : i < 6) : Lit6 ((i : Int) + 1) := by unfold Lit6; omega
theorem lit_neg {i : Nat} (h : i < 6) : Lit6 (-((i : Int) + 1)) := by unfold Lit6; omega
/-- The literal of a bit. -/
theorem bit_lit {i : Nat} (h : i < 12) : ∃ l, Lit6 l ∧ litBit l = i := by
  by_cases h6 : i < 6
  · exact ⟨_, lit_pos h6, litBit_pos⟩
  · obtain ⟨j, rfl⟩ : ∃ j, i = j + 6 := ⟨i - 6, by omega⟩
    exact ⟨_, lit_neg (by omega), litBit_neg⟩
/-- The mask of a clause. -/
def maskFrom (m : Nat) (c : List Int) : Nat := c.foldl (fun m l => m ||| 2 ^ litBit l) m
def maskN (c : List Int) : Nat := maskFrom 0 c
theorem maskFrom_bit (i : Nat) : ∀ (c : List Int) (m : Nat), (maskFrom m c).testBit i = (m.testBit i || c.any (fun l => litBit l == i))
  | [], m => by simp [maskFrom]
  | l :: c, m => by
    have := maskFrom_bit i c (m ||| 2 ^ litBit l)
    rw [show maskFrom m (l :: c) = maskFrom (m ||| 2 ^ litBit l) c from rfl, this, Nat.testBit_or, Nat.testBit_two_pow, List.any_cons, Bool.or_assoc]
    rfl
theorem maskN_snoc (c : List Int) (l : Int) : maskN (c ++ [l]) = maskN c ||| 2 ^ litBit l := by simp [maskN, maskFrom]
theorem maskN_bit (i : Nat) (c : List Int) : (maskN c).testBit i = c.any (fun l => litBit l == i) := by unfold maskN; rw [maskFrom_bit]; simp
theorem maskN_mem {c : List Int} (h : ∀ x ∈ c, Lit6 x) {l : Int} (hl : Lit6 l) : (maskN c).testBit (litBit l) = true ↔ l ∈ c := by
  rw [maskN_bit, List.any_eq_true]
  constructor
  · rintro ⟨x, hx, e⟩
    rw [beq_iff_eq] at e
    rw [← litBit_inj (h x hx) hl e]; exact hx
  · intro hm; exact ⟨l, hm, by simp⟩
theorem maskN_lt {c : List Int} (h : ∀ x ∈ c, Lit6 x) : maskN c < 4096 := by
  refine Nat.lt_pow_two_of_testBit (n := 12) _ fun i hi => ?_
  rw [maskN_bit, List.any_eq_false]
  intro x hx e
  rw [beq_iff_eq] at e
  have := litBit_lt (h x hx)
  omega
theorem maskN_inj {a b : List Int} (ha : Good a) (hb : Good b) (h : maskN a = maskN b) : a = b := by
  refine ha.ext hb fun x => ⟨fun hx => ?_, fun hx => ?_⟩
  · have := (maskN_mem ha.mem (ha.mem x hx)).2 hx
    rw [h] at this
    exact (maskN_mem hb.mem (ha.mem x hx)).1 this
  · have := (maskN_mem hb.mem (hb.mem x hx)).2 hx
    rw [← h] at this
    exact (maskN_mem ha.mem (hb.mem x hx)).1 this
theorem mask_ext {a b : Nat} (ha : a < 4096) (hb : b < 4096) (h : ∀ l, Lit6 l → a.testBit (litBit l) = b.testBit (litBit l)) : a = b := by
  refine Nat.eq_of_testBit_eq fun i => ?_
  by_cases hi : i < 12
  · obtain ⟨l, hl, rfl⟩ := bit_lit hi
    exact h l hl
  · rw [tb_off (n := 12) ha (by omega), tb_off (n := 12) hb (by omega)]

/-- Negations of all literals. -/
def swapN (m : Nat) : Nat := ((m &&& 63) * 64) ||| (m / 64)
/-- The clashing variables. -/
def bothN (a b : Nat) : Nat := ((a &&& swapN b) ||| ((a &&& swapN b) / 64)) &&& 63
def clashN (a b : Nat) : Nat := (a &&& swapN b)
def oneN (m : Nat) : Bool := decide (m ≠ 0) && decide (m &&& (m - 1) = 0)
def notN (x y : Nat) : Nat := x &&& (65535 ^^^ y)
/-- The mask of the resolvent. -/
def resN (a b : Nat) : Nat := notN (a ||| b) (bothN a b ||| bothN a b * 64)
theorem bit63 (i : Nat) : Nat.testBit 63 i = decide (i < 6) := by rw [show (63 : Nat) = 2 ^ 6 - 1 by decide, Nat.testBit_two_pow_sub_one]
theorem bit65535 (i : Nat) : Nat.testBit 65535 i = decide (i < 16) := by rw [show (65535 : Nat) = 2 ^ 16 - 1 by decide, Nat.testBit_two_pow_sub_one]
theorem bit_mul64 (m i : Nat) : (m * 64).testBit i = (decide (6 ≤ i) && m.testBit (i - 6)) := by
  rw [show m * 64 = m <<< 6 by rw [Nat.shiftLeft_eq], Nat.testBit_shiftLeft]
theorem bit_div64 (m i : Nat) : (m / 64).testBit i = m.testBit (i + 6) := by
  rw [show m / 64 = m >>> 6 by rw [Nat.shiftRight_eq_div_pow], Nat.testBit_shiftRight, Nat.add_comm]
theorem bit_high {m : Nat} (h : m < 4096) {i : Nat} (hi : 12 ≤ i) : m.testBit i = false := tb_off (n := 12) h hi
theorem swap_lo {m i : Nat} (hi : i < 6) : (swapN m).testBit i = m.testBit (i + 6) := by
  unfold swapN
  rw [Nat.testBit_or, bit_mul64, bit_div64, decide_eq_false (by omega), Bool.false_and, Bool.false_or]
theorem swap_hi {m i : Nat} (h : m < 4096) (hi : i < 6) : (swapN m).testBit (i + 6) = m.testBit i := by
  unfold swapN
  rw [Nat.testBit_or, bit_mul64, bit_div64, decide_eq_true (show 6 ≤ i + 6 by omega), Bool.true_and, Nat.add_sub_cancel, Nat.testBit_and, bit63, decide_eq_true hi, Bool.and_true, bit_high h (by omega : 12 ≤ i + 6 + 6), Bool.or_false]
theorem both_bit {a b i : Nat} (hb : b < 4096) (hi : i < 6) : (bothN a b).testBit i = ((a.testBit i && b.testBit (i + 6)) || (a.testBit (i + 6) && b.testBit i)) := by
  unfold bothN
  rw [Nat.testBit_and, bit63, decide_eq_true hi, Bool.and_true, Nat.testBit_or, bit_div64, Nat.testBit_and, Nat.testBit_and, swap_lo hi, swap_hi hb hi]
theorem both_lt (a b : Nat) : bothN a b < 64 := Nat.lt_of_le_of_lt Nat.and_le_right (by decide)
theorem swap_lt {m : Nat} (h : m < 4096) : swapN m < 4096 := by
  unfold swapN
  refine Nat.or_lt_two_pow (n := 12) ?_ ?_
  · have : m &&& 63 ≤ 63 := Nat.and_le_right
    omega
  · omega
theorem one_iff {m : Nat} (h : m < 64) : oneN m = true ↔ ∃ k, k < 6 ∧ m = 2 ^ k := by
  have : ∀ m < 64, oneN m = true ↔ ∃ k, k < 6 ∧ m = 2 ^ k := by decide +kernel
  exact this m h
theorem res_bit {a b i : Nat} (hi : i < 12) : (resN a b).testBit i = ((a.testBit i || b.testBit i) && !(bothN a b).testBit (if i < 6 then i else i - 6)) := by
  unfold resN notN
  rw [Nat.testBit_and, Nat.testBit_or, Nat.testBit_xor, bit65535, decide_eq_true (by omega), Nat.testBit_or, bit_mul64]
  by_cases h : i < 6
  · rw [if_pos h, decide_eq_false (by omega)]; simp
  · rw [if_neg h, decide_eq_true (by omega), tb_off (n := 6) (both_lt a b) (by omega)]; simp
theorem res_lt {a b : Nat} (ha : a < 4096) (hb : b < 4096) : resN a b < 4096 := Nat.lt_of_le_of_lt Nat.and_le_left (Nat.or_lt_two_pow (n := 12) ha hb)

section
variable {a b : List Int}
/-- The bits of the clashing variables. -/
theorem both_mem (ha : Good a) (hb : Good b) {i : Nat} (hi : i < 6) : (bothN (maskN a) (maskN b)).testBit i = true ↔ (((i : Int) + 1 ∈ a ∧ -((i : Int) + 1) ∈ b) ∨ (-((i : Int) + 1) ∈ a ∧ (i : Int) + 1 ∈ b)) := by
  rw [both_bit (maskN_lt hb.mem) hi, Bool.or_eq_true, Bool.and_eq_true, Bool.and_eq_true]
  have p1 := maskN_mem ha.mem (lit_pos hi)
  have p2 := maskN_mem ha.mem (lit_neg hi)
  have p3 := maskN_mem hb.mem (lit_pos hi)
  have p4 := maskN_mem hb.mem (lit_neg hi)
  rw [litBit_pos] at p1 p3
  rw [litBit_neg] at p2 p4
  rw [p1, p2, p3, p4]
/-- One variable clashes, by the bits. -/
theorem one_mem : oneN (bothN (maskN a) (maskN b)) = true ↔ ∃ k, k < 6 ∧ bothN (maskN a) (maskN b) = 2 ^ k := one_iff (both_lt _ _)
theorem res_mask {c : List Int} (ha : Good a) (hb : Good b) {k : Nat} (hk : k < 6) (h : bothN (maskN a) (maskN b) = 2 ^ k) (hc : Good c) (hm : ∀ x, x ∈ c ↔ (x ∈ a ∨ x ∈ b) ∧ x ≠ (k : Int) + 1 ∧ x ≠ -((k : Int) + 1)) : resN (maskN a) (maskN b) = maskN c := by
  refine mask_ext (res_lt (maskN_lt ha.mem) (maskN_lt hb.mem)) (maskN_lt hc.mem) fun l hl => ?_
  rw [res_bit (litBit_lt hl), h, Nat.testBit_two_pow, Bool.eq_iff_iff, maskN_mem hc.mem hl, hm]
  rw [Bool.and_eq_true, Bool.or_eq_true, maskN_mem ha.mem hl, maskN_mem hb.mem hl]
  refine and_congr_right fun _ => ?_
  simp only [Bool.not_eq_true', decide_eq_false_iff_not]
  unfold litBit
  unfold Lit6 at hl
  by_cases hp : 0 < l
  · rw [if_pos hp]
    rw [if_pos (by omega)]
    omega
  · rw [if_neg hp]
    rw [if_neg (by omega)]
    omega
/-- Resolvents by masks: each pair with one clash has one. -/
theorem mask_res (ha : Good a) (hb : Good b) (h : oneN (bothN (maskN a) (maskN b)) = true) : ∃ v c, 1 ≤ v ∧ v ≤ 6 ∧ (resB a b v = some c ∨ resB b a v = some c) ∧ Good c ∧ resN (maskN a) (maskN b) = maskN c := by
  obtain ⟨k, hk, he⟩ := (one_mem (a := a) (b := b)).1 h
  have hbit : ∀ i : Nat, i < 6 → ((((i : Int) + 1 ∈ a ∧ -((i : Int) + 1) ∈ b) ∨ (-((i : Int) + 1) ∈ a ∧ (i : Int) + 1 ∈ b)) ↔ k = i) := fun i hi => by
    rw [← both_mem ha hb hi, he, Nat.testBit_two_pow]; simp
  have hone : ∀ l, Lit6 l → l ∈ b → -l ∈ a → l = (k : Int) + 1 ∨ l = -((k : Int) + 1) := by
    intro l hl h1 h2
    unfold Lit6 at hl
    by_cases hp : 0 < l
    · obtain ⟨i, rfl⟩ : ∃ i : Nat, l = (i : Int) + 1 := ⟨(l - 1).toNat, by omega⟩
      have := (hbit i (by omega)).1 (.inr ⟨h2, h1⟩)
      left; rw [this]
    · obtain ⟨i, rfl⟩ : ∃ i : Nat, l = -((i : Int) + 1) := ⟨(-l - 1).toNat, by omega⟩
      rw [Int.neg_neg] at h2
      have := (hbit i (by omega)).1 (.inl ⟨h2, h1⟩)
      right; rw [this]
  rcases (hbit k hk).2 rfl with ⟨h1, h2⟩ | ⟨h1, h2⟩
  · have h3 : ∀ l ∈ b, -l ∈ a → l = -((k : Int) + 1) := fun l hl hla => by
      rcases hone l (hb.mem l hl) hl hla with e | e
      · exfalso; rw [e] at hl; exact hb.clash hl h2
      · exact e
    obtain ⟨c, hc⟩ := resB_some ha hb (v := (k : Int) + 1) (by omega) h1 h2 h3
    obtain ⟨_, _, _, hg, hm⟩ := (resB_iff ha hb (by omega)).1 hc
    exact ⟨_, c, by omega, by omega, .inl hc, hg, res_mask ha hb hk he hg hm⟩
  · have h3 : ∀ l ∈ a, -l ∈ b → l = -((k : Int) + 1) := fun l hl hlb => by
      have hn : Lit6 (-l) := by have := ha.mem l hl; unfold Lit6 at *; omega
      rcases hone (-l) hn hlb (by rw [Int.neg_neg]; exact hl) with e | e
      · omega
      · exfalso
        have : l = (k : Int) + 1 := by omega
        subst this
        exact ha.clash hl h1
    obtain ⟨c, hc⟩ := resB_some hb ha (v := (k : Int) + 1) (by omega) h2 h1 h3
    obtain ⟨_, _, _, hg, hm⟩ := (resB_iff hb ha (by omega)).1 hc
    exact ⟨_, c, by omega, by omega, .inr hc, hg, res_mask ha hb hk he hg fun x => by rw [hm, Or.comm]⟩
theorem res_mask_of {c : List Int} (ha : Good a) (hb : Good b) {v : Int} (hv : 1 ≤ v) (h : resB a b v = some c) : oneN (bothN (maskN a) (maskN b)) = true ∧ resN (maskN a) (maskN b) = maskN c := by
  obtain ⟨h1, h2, h3, hg, hm⟩ := (resB_iff ha hb hv).1 h
  have hv6 := ha.mem v h1
  unfold Lit6 at hv6
  obtain ⟨k, rfl⟩ : ∃ k : Nat, v = (k : Int) + 1 := ⟨(v - 1).toNat, by omega⟩
  have hk : k < 6 := by omega
  have he : bothN (maskN a) (maskN b) = 2 ^ k := by
    refine Nat.eq_of_testBit_eq fun i => ?_
    rw [Nat.testBit_two_pow]
    by_cases hi : i < 6
    · rw [Bool.eq_iff_iff, both_mem ha hb hi, decide_eq_true_eq]
      constructor
      · rintro (⟨p, q⟩ | ⟨p, q⟩)
        · have := h3 _ q (by rw [Int.neg_neg]; exact p); omega
        · have := h3 _ q p; omega
      · rintro rfl
        exact .inl ⟨h1, h2⟩
    · rw [tb_off (n := 6) (both_lt _ _) (by omega), decide_eq_false (by omega)]
  exact ⟨(one_mem (a := a) (b := b)).2 ⟨k, hk, he⟩, res_mask ha hb hk he hg hm⟩
theorem both_comm (ha : Good a) (hb : Good b) : bothN (maskN a) (maskN b) = bothN (maskN b) (maskN a) := by
  refine Nat.eq_of_testBit_eq fun i => ?_
  by_cases hi : i < 6
  · rw [Bool.eq_iff_iff, both_mem ha hb hi, both_mem hb ha hi]
    exact ⟨fun h => by rcases h with ⟨h, k⟩ | ⟨h, k⟩ <;> simp [h, k], fun h => by rcases h with ⟨h, k⟩ | ⟨h, k⟩ <;> simp [h, k]⟩
  · rw [tb_off (n := 6) (both_lt _ _) (by omega), tb_off (n := 6) (both_lt _ _) (by omega)]
end
theorem resN_comm {a b : List Int} (ha : Good a) (hb : Good b) : resN (maskN a) (maskN b) = resN (maskN b) (maskN a) := by
  unfold resN; rw [both_comm ha hb, Nat.or_comm (maskN a)]

/-! Counting. -/
def popN (m : Nat) : Nat := ((List.range 12).filter m.testBit).length
theorem pop_step {m : Nat} (h : m < 4096) (h0 : m ≠ 0) : popN (m &&& (m - 1)) + 1 = popN m := by
  have H : ∀ x < 64, ∀ y < 64, x * 64 + y ≠ 0 → popN ((x * 64 + y) &&& (x * 64 + y - 1)) + 1 = popN (x * 64 + y) := by decide +kernel
  have := H (m / 64) (by omega) (m % 64) (by omega)
  rw [show m / 64 * 64 + m % 64 = m by omega] at this
  exact this h0
theorem pop_len {c : List Int} (h : Good c) : popN (maskN c) = c.length := by
  unfold popN
  have e : (c.map litBit).length = c.length := List.length_map _
  rw [← e]
  refine nodup_same (List.nodup_range.filter _) ?_ fun i => ?_
  · rw [List.nodup_iff_pairwise_ne, List.pairwise_map]
    refine (asc_nodup ascV_asym h.asc).imp_of_mem fun {x y} hx hy hne e => hne (litBit_inj (h.mem x hx) (h.mem y hy) e)
  · rw [List.mem_filter, List.mem_range, List.mem_map]
    constructor
    · rintro ⟨hi, hb⟩
      obtain ⟨l, hl, rfl⟩ := bit_lit hi
      exact ⟨l, (maskN_mem h.mem hl).1 hb, rfl⟩
    · rintro ⟨l, hl, rfl⟩
      exact ⟨litBit_lt (h.mem l hl), (maskN_mem h.mem (h.mem l hl)).2 hl⟩
end Go.Proofs.Ytebpknekaljgnaa
