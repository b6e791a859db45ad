/- Lemmas and contracts for a law, put together out of several texts: NxB NxC NxD NxE CxK CxM. -/
import Derived.Test.YtahbepajeplcmaaGreatDoorMg11
import Derived.Test.YtahbepajeplcmaaGreatDoorMg2
import Derived.Test.YtahbepajeplcmaaGreatDoorMg7
/- (Printed by gen_nx.py.) Plain facts on masks of clauses of at most six variables. No program in sight. -/
namespace Go.Proofs.YtahbepajeplcmaaGreatDoor
open Go.RowKit

theorem tb_off {m n i : Nat} (h : m < 2 ^ n) (hi : n ≤ i) : m.testBit i = false := Nat.testBit_lt_two_pow (Nat.lt_of_lt_of_le h (Nat.pow_le_pow_right (by decide) hi))
/-- The bit of a literal. -/
def litBit (l : Int) : Nat := if 0 < l then (l - 1).toNat else (5 - l).toNat
theorem litBit_lt {l : Int} (h : Lit6 l) : litBit l < 12 := by unfold litBit; unfold Lit6 at h; split <;> omega
theorem litBit_inj {l k : Int} (h : Lit6 l) (hk : Lit6 k) (e : litBit l = litBit k) : l = k := by
  unfold litBit at e; unfold Lit6 at h hk; split at e <;> split at e <;> omega
theorem litBit_pos {i : Nat} : litBit ((i : Int) + 1) = i := by unfold litBit; rw [if_pos (by omega)]; omega
theorem litBit_neg {i : Nat} : litBit (-((i : Int) + 1)) = i + 6 := by unfold litBit; rw [if_neg (by omega)]; omega
theorem lit_posN {i : Nat} (h : i < 6) : Lit6 ((i : Int) + 1) := by unfold Lit6; omega
theorem lit_negN {i : Nat} (h : i < 6) : Lit6 (-((i : Int) + 1)) := by unfold Lit6; omega
/-- The literal of a bit. -/
theorem bit_lit {i : Nat} (h : i < 12) : ∃ l, Lit6 l ∧ litBit l = i := by
  by_cases h6 : i < 6
  · exact ⟨_, lit_posN h6, litBit_pos⟩
  · obtain ⟨j, rfl⟩ : ∃ j, i = j + 6 := ⟨i - 6, by omega⟩
    exact ⟨_, lit_negN (by omega), litBit_neg⟩
/-- The mask of a clause. -/
def maskFrom (m : Nat) (c : List Int) : Nat := c.foldl (fun m l => m ||| 2 ^ litBit l) m
def maskN (c : List Int) : Nat := maskFrom 0 c
theorem maskFrom_bit (i : Nat) : ∀ (c : List Int) (m : Nat), (maskFrom m c).testBit i = (m.testBit i || c.any (fun l => litBit l == i))
  | [], m => by simp [maskFrom]
  | l :: c, m => by
    have := maskFrom_bit i c (m ||| 2 ^ litBit l)
    rw [show maskFrom m (l :: c) = maskFrom (m ||| 2 ^ litBit l) c from rfl, this, Nat.testBit_or, Nat.testBit_two_pow, List.any_cons, Bool.or_assoc]
    rfl
theorem maskN_snoc (c : List Int) (l : Int) : maskN (c ++ [l]) = maskN c ||| 2 ^ litBit l := by simp [maskN, maskFrom]
theorem maskN_bit (i : Nat) (c : List Int) : (maskN c).testBit i = c.any (fun l => litBit l == i) := by unfold maskN; rw [maskFrom_bit]; simp
theorem maskN_mem {c : List Int} (h : ∀ x ∈ c, Lit6 x) {l : Int} (hl : Lit6 l) : (maskN c).testBit (litBit l) = true ↔ l ∈ c := by
  rw [maskN_bit, List.any_eq_true]
  constructor
  · rintro ⟨x, hx, e⟩
    rw [beq_iff_eq] at e
    rw [← litBit_inj (h x hx) hl e]; exact hx
  · intro hm; exact ⟨l, hm, by simp⟩
theorem maskN_lt {c : List Int} (h : ∀ x ∈ c, Lit6 x) : maskN c < 4096 := by
  refine Nat.lt_pow_two_of_testBit (n := 12) _ fun i hi => ?_
  rw [maskN_bit, List.any_eq_false]
  intro x hx e
  rw [beq_iff_eq] at e
  have := litBit_lt (h x hx)
  omega
theorem maskN_inj {a b : List Int} (ha : Good a) (hb : Good b) (h : maskN a = maskN b) : a = b := by
  refine ha.ext hb fun x => ⟨fun hx => ?_, fun hx => ?_⟩
  · have := (maskN_mem ha.mem (ha.mem x hx)).2 hx
    rw [h] at this
    exact (maskN_mem hb.mem (ha.mem x hx)).1 this
  · have := (maskN_mem hb.mem (hb.mem x hx)).2 hx
    rw [← h] at this
    exact (maskN_mem ha.mem (hb.mem x hx)).1 this
theorem mask_ext {a b : Nat} (ha : a < 4096) (hb : b < 4096) (h : ∀ l, Lit6 l → a.testBit (litBit l) = b.testBit (litBit l)) : a = b := by
  refine Nat.eq_of_testBit_eq fun i => ?_
  by_cases hi : i < 12
  · obtain ⟨l, hl, rfl⟩ := bit_lit hi
    exact h l hl
  · rw [tb_off (n := 12) ha (by omega), tb_off (n := 12) hb (by omega)]

/-- Negations of all literals. -/
def swapN (m : Nat) : Nat := ((m &&& 63) * 64) ||| (m / 64)
/-- The clashing variables. -/
def bothN (a b : Nat) : Nat := ((a &&& swapN b) ||| ((a &&& swapN b) / 64)) &&& 63
def clashN (a b : Nat) : Nat := (a &&& swapN b)
def oneN (m : Nat) : Bool := decide (m ≠ 0) && decide (m &&& (m - 1) = 0)
def notN (x y : Nat) : Nat := x &&& (65535 ^^^ y)
/-- The mask of the resolvent. -/
def resN (a b : Nat) : Nat := notN (a ||| b) (bothN a b ||| bothN a b * 64)
theorem bit63 (i : Nat) : Nat.testBit 63 i = decide (i < 6) := by rw [show (63 : Nat) = 2 ^ 6 - 1 by decide, Nat.testBit_two_pow_sub_one]
theorem bit65535 (i : Nat) : Nat.testBit 65535 i = decide (i < 16) := by rw [show (65535 : Nat) = 2 ^ 16 - 1 by decide, Nat.testBit_two_pow_sub_one]
theorem bit_mul64 (m i : Nat) : (m * 64).testBit i = (decide (6 ≤ i) && m.testBit (i - 6)) := by
  rw [show m * 64 = m <<< 6 by rw [Nat.shiftLeft_eq], Nat.testBit_shiftLeft]
theorem bit_div64 (m i : Nat) : (m / 64).testBit i = m.testBit (i + 6) := by
  rw [show m / 64 = m >>> 6 by rw [Nat.shiftRight_eq_div_pow], Nat.testBit_shiftRight, Nat.add_comm]
theorem bit_high {m : Nat} (h : m < 4096) {i : Nat} (hi : 12 ≤ i) : m.testBit i = false := tb_off (n := 12) h hi
theorem swap_lo {m i : Nat} (hi : i < 6) : (swapN m).testBit i = m.testBit (i + 6) := by
  unfold swapN
  rw [Nat.testBit_or, bit_mul64, bit_div64, decide_eq_false (by omega), Bool.false_and, Bool.false_or]
theorem swap_hi {m i : Nat} (h : m < 4096) (hi : i < 6) : (swapN m).testBit (i + 6) = m.testBit i := by
  unfold swapN
  rw [Nat.testBit_or, bit_mul64, bit_div64, decide_eq_true (show 6 ≤ i + 6 by omega), Bool.true_and, Nat.add_sub_cancel, Nat.testBit_and, bit63, decide_eq_true hi, Bool.and_true, bit_high h (by omega : 12 ≤ i + 6 + 6), Bool.or_false]
theorem both_bit {a b i : Nat} (hb : b < 4096) (hi : i < 6) : (bothN a b).testBit i = ((a.testBit i && b.testBit (i + 6)) || (a.testBit (i + 6) && b.testBit i)) := by
  unfold bothN
  rw [Nat.testBit_and, bit63, decide_eq_true hi, Bool.and_true, Nat.testBit_or, bit_div64, Nat.testBit_and, Nat.testBit_and, swap_lo hi, swap_hi hb hi]
theorem both_lt (a b : Nat) : bothN a b < 64 := Nat.lt_of_le_of_lt Nat.and_le_right (by decide)
theorem swap_lt {m : Nat} (h : m < 4096) : swapN m < 4096 := by
  unfold swapN
  refine Nat.or_lt_two_pow (n := 12) ?_ ?_
  · have : m &&& 63 ≤ 63 := Nat.and_le_right
    omega
  · omega
theorem one_iff {m : Nat} (h : m < 64) : oneN m = true ↔ ∃ k, k < 6 ∧ m = 2 ^ k := by
  have : ∀ m < 64, oneN m = true ↔ ∃ k, k < 6 ∧ m = 2 ^ k := by decide +kernel
  exact this m h
theorem res_bit {a b i : Nat} (hi : i < 12) : (resN a b).testBit i = ((a.testBit i || b.testBit i) && !(bothN a b).testBit (if i < 6 then i else i - 6)) := by
  unfold resN notN
  rw [Nat.testBit_and, Nat.testBit_or, Nat.testBit_xor, bit65535, decide_eq_true (by omega), Nat.testBit_or, bit_mul64]
  by_cases h : i < 6
  · rw [if_pos h, decide_eq_false (by omega)]; simp
  · rw [if_neg h, decide_eq_true (by omega), tb_off (n := 6) (both_lt a b) (by omega)]; simp
theorem res_lt {a b : Nat} (ha : a < 4096) (hb : b < 4096) : resN a b < 4096 := Nat.lt_of_le_of_lt Nat.and_le_left (Nat.or_lt_two_pow (n := 12) ha hb)

section
variable {a b : List Int}
/-- The bits of the clashing variables. -/
theorem both_mem (ha : Good a) (hb : Good b) {i : Nat} (hi : i < 6) : (bothN (maskN a) (maskN b)).testBit i = true ↔ (((i : Int) + 1 ∈ a ∧ -((i : Int) + 1) ∈ b) ∨ (-((i : Int) + 1) ∈ a ∧ (i : Int) + 1 ∈ b)) := by
  rw [both_bit (maskN_lt hb.mem) hi, Bool.or_eq_true, Bool.and_eq_true, Bool.and_eq_true]
  have p1 := maskN_mem ha.mem (lit_posN hi)
  have p2 := maskN_mem ha.mem (lit_negN hi)
  have p3 := maskN_mem hb.mem (lit_posN hi)
  have p4 := maskN_mem hb.mem (lit_negN hi)
  rw [litBit_pos] at p1 p3
  rw [litBit_neg] at p2 p4
  rw [p1, p2, p3, p4]
/-- One variable clashes, by the bits. -/
theorem one_mem : oneN (bothN (maskN a) (maskN b)) = true ↔ ∃ k, k < 6 ∧ bothN (maskN a) (maskN b) = 2 ^ k := one_iff (both_lt _ _)
theorem res_mask {c : List Int} (ha : Good a) (hb : Good b) {k : Nat} (hk : k < 6) (h : bothN (maskN a) (maskN b) = 2 ^ k) (hc : Good c) (hm : ∀ x, x ∈ c ↔ (x ∈ a ∨ x ∈ b) ∧ x ≠ (k : Int) + 1 ∧ x ≠ -((k : Int) + 1)) : resN (maskN a) (maskN b) = maskN c := by
  refine mask_ext (res_lt (maskN_lt ha.mem) (maskN_lt hb.mem)) (maskN_lt hc.mem) fun l hl => ?_
  rw [res_bit (litBit_lt hl), h, Nat.testBit_two_pow, Bool.eq_iff_iff, maskN_mem hc.mem hl, hm]
  rw [Bool.and_eq_true, Bool.or_eq_true, maskN_mem ha.mem hl, maskN_mem hb.mem hl]
  refine and_congr_right fun _ => ?_
  simp only [Bool.not_eq_true', decide_eq_false_iff_not]
  unfold litBit
  unfold Lit6 at hl
  by_cases hp : 0 < l
  · rw [if_pos hp]
    rw [if_pos (by omega)]
    omega
  · rw [if_neg hp]
    rw [if_neg (by omega)]
    omega
/-- Resolvents by masks: each pair with one clash has one. -/
theorem mask_res (ha : Good a) (hb : Good b) (h : oneN (bothN (maskN a) (maskN b)) = true) : ∃ v c, 1 ≤ v ∧ v ≤ 6 ∧ (resB a b v = some c ∨ resB b a v = some c) ∧ Good c ∧ resN (maskN a) (maskN b) = maskN c := by
  obtain ⟨k, hk, he⟩ := (one_mem (a := a) (b := b)).1 h
  have hbit : ∀ i : Nat, i < 6 → ((((i : Int) + 1 ∈ a ∧ -((i : Int) + 1) ∈ b) ∨ (-((i : Int) + 1) ∈ a ∧ (i : Int) + 1 ∈ b)) ↔ k = i) := fun i hi => by
    rw [← both_mem ha hb hi, he, Nat.testBit_two_pow]; simp
  have hone : ∀ l, Lit6 l → l ∈ b → -l ∈ a → l = (k : Int) + 1 ∨ l = -((k : Int) + 1) := by
    intro l hl h1 h2
    unfold Lit6 at hl
    by_cases hp : 0 < l
    · obtain ⟨i, rfl⟩ : ∃ i : Nat, l = (i : Int) + 1 := ⟨(l - 1).toNat, by omega⟩
      have := (hbit i (by omega)).1 (.inr ⟨h2, h1⟩)
      left; rw [this]
    · obtain ⟨i, rfl⟩ : ∃ i : Nat, l = -((i : Int) + 1) := ⟨(-l - 1).toNat, by omega⟩
      rw [Int.neg_neg] at h2
      have := (hbit i (by omega)).1 (.inl ⟨h2, h1⟩)
      right; rw [this]
  rcases (hbit k hk).2 rfl with ⟨h1, h2⟩ | ⟨h1, h2⟩
  · have h3 : ∀ l ∈ b, -l ∈ a → l = -((k : Int) + 1) := fun l hl hla => by
      rcases hone l (hb.mem l hl) hl hla with e | e
      · exfalso; rw [e] at hl; exact hb.clash hl h2
      · exact e
    obtain ⟨c, hc⟩ := resB_some ha hb (v := (k : Int) + 1) (by omega) h1 h2 h3
    obtain ⟨_, _, _, hg, hm⟩ := (resB_iff ha hb (by omega)).1 hc
    exact ⟨_, c, by omega, by omega, .inl hc, hg, res_mask ha hb hk he hg hm⟩
  · have h3 : ∀ l ∈ a, -l ∈ b → l = -((k : Int) + 1) := fun l hl hlb => by
      have hn : Lit6 (-l) := by have := ha.mem l hl; unfold Lit6 at *; omega
      rcases hone (-l) hn hlb (by rw [Int.neg_neg]; exact hl) with e | e
      · omega
      · exfalso
        have : l = (k : Int) + 1 := by omega
        subst this
        exact ha.clash hl h1
    obtain ⟨c, hc⟩ := resB_some hb ha (v := (k : Int) + 1) (by omega) h2 h1 h3
    obtain ⟨_, _, _, hg, hm⟩ := (resB_iff hb ha (by omega)).1 hc
    exact ⟨_, c, by omega, by omega, .inr hc, hg, res_mask ha hb hk he hg fun x => by rw [hm, Or.comm]⟩
theorem res_mask_of {c : List Int} (ha : Good a) (hb : Good b) {v : Int} (hv : 1 ≤ v) (h : resB a b v = some c) : oneN (bothN (maskN a) (maskN b)) = true ∧ resN (maskN a) (maskN b) = maskN c := by
  obtain ⟨h1, h2, h3, hg, hm⟩ := (resB_iff ha hb hv).1 h
  have hv6 := ha.mem v h1
  unfold Lit6 at hv6
  obtain ⟨k, rfl⟩ : ∃ k : Nat, v = (k : Int) + 1 := ⟨(v - 1).toNat, by omega⟩
  have hk : k < 6 := by omega
  have he : bothN (maskN a) (maskN b) = 2 ^ k := by
    refine Nat.eq_of_testBit_eq fun i => ?_
    rw [Nat.testBit_two_pow]
    by_cases hi : i < 6
    · rw [Bool.eq_iff_iff, both_mem ha hb hi, decide_eq_true_eq]
      constructor
      · rintro (⟨p, q⟩ | ⟨p, q⟩)
        · have := h3 _ q (by rw [Int.neg_neg]; exact p); omega
        · have := h3 _ q p; omega
      · rintro rfl
        exact .inl ⟨h1, h2⟩
    · rw [tb_off (n := 6) (both_lt _ _) (by omega), decide_eq_false (by omega)]
  exact ⟨(one_mem (a := a) (b := b)).2 ⟨k, hk, he⟩, res_mask ha hb hk he hg hm⟩
theorem both_comm (ha : Good a) (hb : Good b) : bothN (maskN a) (maskN b) = bothN (maskN b) (maskN a) := by
  refine Nat.eq_of_testBit_eq fun i => ?_
  by_cases hi : i < 6
  · rw [Bool.eq_iff_iff, both_mem ha hb hi, both_mem hb ha hi]
    exact ⟨fun h => by rcases h with ⟨h, k⟩ | ⟨h, k⟩ <;> simp [h, k], fun h => by rcases h with ⟨h, k⟩ | ⟨h, k⟩ <;> simp [h, k]⟩
  · rw [tb_off (n := 6) (both_lt _ _) (by omega), tb_off (n := 6) (both_lt _ _) (by omega)]
end
theorem resN_comm {a b : List Int} (ha : Good a) (hb : Good b) : resN (maskN a) (maskN b) = resN (maskN b) (maskN a) := by
  unfold resN; rw [both_comm ha hb, Nat.or_comm (maskN a)]

/-! Counting. -/
def popN (m : Nat) : Nat := ((List.range 12).filter m.testBit).length
theorem pop_step {m : Nat} (h : m < 4096) (h0 : m ≠ 0) : popN (m &&& (m - 1)) + 1 = popN m := by
  have H : ∀ x < 64, ∀ y < 64, x * 64 + y ≠ 0 → popN ((x * 64 + y) &&& (x * 64 + y - 1)) + 1 = popN (x * 64 + y) := by decide +kernel
  have := H (m / 64) (by omega) (m % 64) (by omega)
  rw [show m / 64 * 64 + m % 64 = m by omega] at this
  exact this h0
theorem pop_len {c : List Int} (h : Good c) : popN (maskN c) = c.length := by
  unfold popN
  have e : (c.map litBit).length = c.length := List.length_map _
  rw [← e]
  refine nodup_same (List.nodup_range.filter _) ?_ fun i => ?_
  · rw [List.nodup_iff_pairwise_ne, List.pairwise_map]
    refine (asc_nodup ascV_asym h.asc).imp_of_mem fun {x y} hx hy hne e => hne (litBit_inj (h.mem x hx) (h.mem y hy) e)
  · rw [List.mem_filter, List.mem_range, List.mem_map]
    constructor
    · rintro ⟨hi, hb⟩
      obtain ⟨l, hl, rfl⟩ := bit_lit hi
      exact ⟨l, (maskN_mem h.mem hl).1 hb, rfl⟩
    · rintro ⟨l, hl, rfl⟩
      exact ⟨litBit_lt (h.mem l hl), (maskN_mem h.mem (h.mem l hl)).2 hl⟩
end Go.Proofs.YtahbepajeplcmaaGreatDoor

/- (Printed by gen_nx.py.) Plain facts on closures by rounds. No program in sight. -/
namespace Go.Proofs.YtahbepajeplcmaaGreatDoor
open Go.RowKit

/-- The clauses that are found in the first r rounds. -/
def inR (F : List (List Int)) (w : Int) : Nat → List Int → Prop
  | 0, c => c ∈ F ∧ (c.length : Int) ≤ w
  | r + 1, c => inR F w r c ∨ ∃ a b v, inR F w r a ∧ inR F w r b ∧ 1 ≤ v ∧ resB a b v = some c ∧ (c.length : Int) ≤ w
/-- The round of a clause. -/
def rankR (F : List (List Int)) (w : Int) (k : Nat) (c : List Int) : Prop := inR F w k c ∧ ∀ j, j < k → ¬ inR F w j c
/-- A valid Cnf of few variables. -/
def GoodF (n : Int) (F : List (List Int)) : Prop := 0 ≤ n ∧ n ≤ 6 ∧ ∀ c ∈ F, Good c ∧ ∀ l ∈ c, -n ≤ l ∧ l ≤ n

section
variable {F : List (List Int)} {w n : Int}
theorem inR_mono {r s : Nat} (h : r ≤ s) {c : List Int} (hc : inR F w r c) : inR F w s c := by
  induction s with
  | zero => obtain rfl : r = 0 := by omega
            exact hc
  | succ s ih =>
    rcases Nat.lt_or_eq_of_le h with h | rfl
    · exact .inl (ih (by omega))
    · exact hc
theorem inR_good (hF : GoodF n F) : ∀ {r : Nat} {c : List Int}, inR F w r c → Good c ∧ ∀ l ∈ c, -n ≤ l ∧ l ≤ n
  | 0, c, h => hF.2.2 c h.1
  | _ + 1, _, .inl h => inR_good hF h
  | _ + 1, c, .inr ⟨a, b, v, ha, hb, hv, hc, _⟩ => by
    obtain ⟨ga, na⟩ := inR_good hF ha
    obtain ⟨gb, nb⟩ := inR_good hF hb
    obtain ⟨_, _, _, hg, hm⟩ := (resB_iff ga gb hv).1 hc
    refine ⟨hg, fun l hl => ?_⟩
    rcases ((hm l).1 hl).1 with h | h
    · exact na l h
    · exact nb l h
theorem inR_len : ∀ {r : Nat} {c : List Int}, inR F w r c → (c.length : Int) ≤ w
  | 0, _, h => h.2
  | _ + 1, _, .inl h => inR_len h
  | _ + 1, _, .inr ⟨_, _, _, _, _, _, _, h⟩ => h
theorem rank_one {j k : Nat} {c : List Int} (hj : rankR F w j c) (hk : rankR F w k c) : j = k := by
  rcases Nat.lt_trichotomy j k with h | h | h
  · exact absurd hj.1 (hk.2 j h)
  · exact h
  · exact absurd hk.1 (hj.2 k h)
theorem rank_of {r : Nat} {c : List Int} (h : inR F w r c) : ∃ k, k ≤ r ∧ rankR F w k c := by
  induction r with
  | zero => exact ⟨0, Nat.le_refl _, h, fun j hj => by omega⟩
  | succ r ih =>
    by_cases hr : inR F w r c
    · obtain ⟨k, hk, h2⟩ := ih hr
      exact ⟨k, by omega, h2⟩
    · exact ⟨r + 1, Nat.le_refl _, h, fun j hj hc => hr (inR_mono (by omega) hc)⟩
theorem inR_stop {r : Nat} (h : ∀ c, inR F w (r + 1) c → inR F w r c) : ∀ (s : Nat) {c : List Int}, inR F w s c → inR F w r c
  | 0, _, hc => inR_mono (Nat.zero_le _) hc
  | s + 1, _, .inl hc => inR_stop h s hc
  | s + 1, c, .inr ⟨a, b, v, ha, hb, hv, hc, hl⟩ => h c (.inr ⟨a, b, v, inR_stop h s ha, inR_stop h s hb, hv, hc, hl⟩)

/-- What has been found after r rounds: the clauses in some order, with their rounds. -/
structure At (F : List (List Int)) (w : Int) (r : Nat) (L : List (List Int)) (R : List Int) : Prop where
  mem : ∀ c, c ∈ L ↔ inR F w r c
  nodup : L.Nodup
  len : R.length = L.length
  rank : ∀ i (h : i < L.length), ∃ k : Nat, R[i]? = some (k : Int) ∧ k ≤ r ∧ rankR F w k L[i]
/-- The resolvents that the next round looks at. -/
def candR (L : List (List Int)) (R : List Int) (r : Nat) (c : List Int) : Prop :=
  ∃ i j v, ∃ (hi : i < L.length) (hj : j < L.length), 1 ≤ v ∧ ¬ (R.getD i 0 < (r : Int) ∧ R.getD j 0 < (r : Int)) ∧ resB L[i] L[j] v = some c
theorem At.good {r : Nat} {L : List (List Int)} {R : List Int} (h : At F w r L R) (hF : GoodF n F) : ∀ c ∈ L, Good c ∧ ∀ l ∈ c, -n ≤ l ∧ l ≤ n := fun c hc => inR_good hF ((h.mem c).1 hc)
theorem good_few {M : List (List Int)} (hM : M.Nodup) (hg : ∀ c ∈ M, Good c) : M.length ≤ 4096 := by
  have h1 : (M.map maskN).Nodup := by
    rw [List.nodup_iff_pairwise_ne, List.pairwise_map]
    exact hM.imp_of_mem fun {x y} hx hy hne e => hne (maskN_inj (hg x hx) (hg y hy) e)
  have := nodup_len (b := List.range 4096) h1 fun x hx => by
    obtain ⟨c, hc, rfl⟩ := List.mem_map.1 hx
    exact List.mem_range.2 (maskN_lt (hg c hc).mem)
  simpa using this
theorem At.few {r : Nat} {L : List (List Int)} {R : List Int} (h : At F w r L R) (hF : GoodF n F) : L.length ≤ 4096 := good_few h.nodup fun c hc => (h.good hF c hc).1
/-- The next round, once all candidates have been looked at. -/
theorem At.next {r : Nat} {L N : List (List Int)} {R : List Int} (h : At F w r L R) (hN : N.Nodup) (hm : ∀ c, c ∈ N ↔ candR L R r c ∧ (c.length : Int) ≤ w ∧ c ∉ L) :
    At F w (r + 1) (L ++ N) (R ++ List.replicate N.length ((r + 1 : Nat) : Int)) ∧ (N = [] → ∀ s c, inR F w s c → inR F w r c) := by
  have hrank : ∀ i (hi : i < L.length), R.getD i 0 < (r : Int) → ∃ s, s + 1 = r ∧ inR F w s L[i] := by
    intro i hi hlt
    obtain ⟨k, e, hk, hr⟩ := h.rank i hi
    rw [List.getD_eq_getElem?_getD, e] at hlt
    simp only [Option.getD_some] at hlt
    exact ⟨r - 1, by omega, inR_mono (by omega) hr.1⟩
  have hmem : ∀ c, c ∈ L ++ N ↔ inR F w (r + 1) c := by
    intro c
    rw [List.mem_append, hm]
    constructor
    · rintro (hc | ⟨⟨i, j, v, hi, hj, hv, _, hc⟩, hl, _⟩)
      · exact .inl ((h.mem c).1 hc)
      · exact .inr ⟨_, _, v, (h.mem _).1 (List.getElem_mem hi), (h.mem _).1 (List.getElem_mem hj), hv, hc, hl⟩
    · rintro (hc | ⟨a, b, v, ha, hb, hv, hc, hl⟩)
      · exact .inl ((h.mem c).2 hc)
      · by_cases hcL : c ∈ L
        · exact .inl hcL
        · refine .inr ⟨?_, hl, hcL⟩
          obtain ⟨i, hi, rfl⟩ := List.getElem_of_mem ((h.mem a).2 ha)
          obtain ⟨j, hj, rfl⟩ := List.getElem_of_mem ((h.mem b).2 hb)
          refine ⟨i, j, v, hi, hj, hv, fun ⟨h1, h2⟩ => hcL ((h.mem c).2 ?_), hc⟩
          obtain ⟨s, rfl, k1⟩ := hrank i hi h1
          obtain ⟨s', e, k2⟩ := hrank j hj h2
          obtain rfl : s = s' := by omega
          exact .inr ⟨_, _, v, k1, k2, hv, hc, hl⟩
  refine ⟨⟨hmem, ?_, ?_, ?_⟩, fun e => ?_⟩
  · rw [List.nodup_append]
    refine ⟨h.nodup, hN, fun x hx y hy e => ?_⟩
    subst e
    exact ((hm x).1 hy).2.2 hx
  · simp [h.len]
  · intro i hi
    rw [List.length_append] at hi
    by_cases hlt : i < L.length
    · obtain ⟨k, e, hk, hr⟩ := h.rank i hlt
      refine ⟨k, ?_, by omega, by rw [List.getElem_append_left hlt]; exact hr⟩
      rw [List.getElem?_append_left (by rw [h.len]; exact hlt)]; exact e
    · refine ⟨r + 1, ?_, Nat.le_refl _, ?_⟩
      · rw [List.getElem?_append_right (by rw [h.len]; omega), List.getElem?_replicate, if_pos (by rw [h.len]; omega)]
      · rw [List.getElem_append_right (by omega)]
        have hin : N[i - L.length]'(by omega) ∈ N := List.getElem_mem _
        refine ⟨(hmem _).1 (List.mem_append.2 (.inr hin)), fun j hj hc => ?_⟩
        exact ((hm _).1 hin).2.2 ((h.mem _).2 (inR_mono (by omega) hc))
  · refine fun s c hc => inR_stop (r := r) (fun c hc => ?_) s hc
    have := (hmem c).2 hc
    rw [e, List.append_nil] at this
    exact (h.mem c).1 this
/-- The first clauses. -/
theorem At.first {L : List (List Int)} (hm : ∀ c, c ∈ L ↔ c ∈ F ∧ (c.length : Int) ≤ w) (hn : L.Nodup) : At F w 0 L (List.replicate L.length 0) :=
  ⟨hm, hn, by simp, fun i h => ⟨0, by rw [List.getElem?_replicate, if_pos h]; rfl, Nat.le_refl _, (hm _).1 (List.getElem_mem h), fun j hj => by omega⟩⟩
end

/-- A closure, complete. -/
structure Clo (F : List (List Int)) (w : Int) (L : List (List Int)) (R : List Int) : Prop where
  at_ : ∃ r, At F w r L R ∧ ∀ s c, inR F w s c → inR F w r c
theorem Clo.mem {F : List (List Int)} {w : Int} {L : List (List Int)} {R : List Int} (h : Clo F w L R) {c : List Int} : c ∈ L ↔ ∃ r, inR F w r c := by
  obtain ⟨r, h1, h2⟩ := h.at_
  exact ⟨fun hc => ⟨r, (h1.mem c).1 hc⟩, fun ⟨s, hs⟩ => (h1.mem c).2 (h2 s c hs)⟩
theorem Clo.nodup {F : List (List Int)} {w : Int} {L : List (List Int)} {R : List Int} (h : Clo F w L R) : L.Nodup := by
  obtain ⟨r, h1, h2⟩ := h.at_
  exact h1.nodup
theorem Clo.rank {F : List (List Int)} {w : Int} {L : List (List Int)} {R : List Int} (h : Clo F w L R) {i : Nat} (hi : i < L.length) : ∃ k : Nat, R[i]? = some (k : Int) ∧ rankR F w k L[i] := by
  obtain ⟨r, h1, h2⟩ := h.at_
  obtain ⟨k, e, _, hk⟩ := h1.rank i hi
  exact ⟨k, e, hk⟩
theorem Clo.good {F : List (List Int)} {w n : Int} {L : List (List Int)} {R : List Int} (h : Clo F w L R) (hF : GoodF n F) : ∀ c ∈ L, Good c ∧ (c.length : Int) ≤ w := fun c hc => by
  obtain ⟨r, hr⟩ := h.mem.1 hc
  exact ⟨(inR_good hF hr).1, inR_len hr⟩
/-- The pairs that the program looks at: the later one is of the last round. -/
theorem cand_iff {F : List (List Int)} {w n : Int} {r : Nat} {L : List (List Int)} {R : List Int} (h : At F w r L R) (hF : GoodF n F) {from_ : Nat} (hf : ∀ i (_ : i < L.length), i < from_ ↔ R.getD i 0 < (r : Int)) {c : List Int} :
    candR L R r c ↔ ∃ i j v, ∃ (_ : j < i) (hi : i < L.length), from_ ≤ i ∧ 1 ≤ v ∧ (resB L[i] (L[j]'(by omega)) v = some c ∨ resB (L[j]'(by omega)) L[i] v = some c) := by
  constructor
  · rintro ⟨i, j, v, hi, hj, hv, hn, hc⟩
    have hne : i ≠ j := fun e => by subst e; exact resB_self (h.good hF _ (List.getElem_mem hi)).1 hv hc
    rw [← hf i hi, ← hf j hj] at hn
    rcases Nat.lt_or_gt_of_ne hne with hlt | hlt
    · exact ⟨j, i, v, hlt, hj, by omega, hv, .inr hc⟩
    · exact ⟨i, j, v, hlt, hi, by omega, hv, .inl hc⟩
  · rintro ⟨i, j, v, hlt, hi, hfi, hv, hc | hc⟩
    · exact ⟨i, j, v, hi, by omega, hv, fun ⟨h1, _⟩ => by have := (hf i hi).2 h1; omega, hc⟩
    · exact ⟨j, i, v, by omega, hi, hv, fun ⟨_, h1⟩ => by have := (hf i hi).2 h1; omega, hc⟩
end Go.Proofs.YtahbepajeplcmaaGreatDoor

/- (Printed by gen_nx.py.) Memory facts: rows of numbers that are only read, and own rows that point to them. -/
namespace Go.Proofs.YtahbepajeplcmaaGreatDoor
open Go.RowKit

/-- Rows of numbers that are only read, with all that they reach. -/
def Pool (K : List (Value × List Int)) : Asn where
  p w F := (∀ b ∈ F, b < w.heap.size) ∧ ∀ q ∈ K, ∃ G, Ty.int.row false w q.1 q.2 G ∧ ∀ b ∈ G, b ∈ F
  lt h := h.1
  keep := by
    rintro w w' F ⟨h1, h2⟩ hk
    refine ⟨fun b hb => ?_, fun q hq => ?_⟩
    · have := hk b hb
      rw [Array.getElem?_eq_getElem (h1 b hb)] at this
      exact (Array.getElem?_eq_some_iff.1 this).1
    · obtain ⟨G, h3, h4⟩ := h2 q hq
      exact ⟨G, Ty.row_keep h3 fun b hb => hk b (h4 b hb), h4⟩
/-- An own row of numbers. -/
abbrev Ints (v : Value) (ys : List Int) : Asn := Own 3 1 v ys.length (ys.map (.int .i64))
/-- An own row of clauses, told with the values of its elements. -/
abbrev Cls (v : Value) (ks : List (Value × List Int)) : Asn := Own 43 1 v ks.length (ks.map Prod.fst)

theorem sep_frontN : ∀ {qs ps : List Asn} {w : World} {F : List Nat}, sep (qs ++ ps) w F → ∃ F1, sep qs w F1 ∧ ∀ b ∈ F1, b ∈ F
  | [], ps, w, F, _ => ⟨[], rfl, by simp⟩
  | q :: qs, ps, w, F, h => by
    obtain ⟨F1, F2, rfl, h1, h2, h3⟩ := h
    obtain ⟨F3, h4, h5⟩ := sep_frontN h3
    refine ⟨F1 ++ F3, ⟨F1, F3, rfl, fun b hb hb2 => h1 b hb (h5 b hb2), h2, h4⟩, fun b hb => ?_⟩
    rcases List.mem_append.1 hb with h | h
    · exact List.mem_append.2 (.inl h)
    · exact List.mem_append.2 (.inr (h5 b h))
/-- The parts behind are let go. -/
theorem Sp.frontN {w0 w : World} {ps qs : List Asn} (h : Sp w0 w (qs ++ ps)) : Sp w0 w qs := by
  obtain ⟨h1, G, h2, h3⟩ := h
  obtain ⟨F, h4, h5⟩ := sep_frontN h2
  exact ⟨h1, F, h4, fun b hb => h3 b (h5 b hb)⟩

section
variable {w0 w w' : World} {ps : List Asn} {i j : Nat} {q : Asn} {K ks : List (Value × List Int)} {v : Value}
theorem Sp.pool_nil (h : Sp w0 w ps) : Sp w0 w (Pool [] :: ps) := h.new (F := []) (bb _) ⟨by simp, by simp⟩ (by simp)
theorem Sp.pool_at (h : Sp w0 w ps) (hi : ps[i]? = some (Pool K)) {r : Value × List Int} (hr : r ∈ K) : ∃ G, Ty.int.row false w r.1 r.2 G := by
  obtain ⟨F, hp, _⟩ := h.get hi
  obtain ⟨G, h1, _⟩ := hp.2 r hr
  exact ⟨G, h1⟩
theorem Sp.pool_add {xs : List Int} (h : Sp w0 w ps) (hi : ps[i]? = some (Pool K)) (hb : Below w.heap.size w w') (ho : w'.ownsRow w.heap.size 3 1 v xs.length (xs.map (.int .i64))) (hI : ∀ x ∈ xs, I64 x) : Sp w0 w' (ps.set i (Pool ((v, xs) :: K))) := by
  obtain ⟨Fi, ⟨hp1, hp2⟩, hF, hall⟩ := h.upd hi
  obtain ⟨G, hr, hG, _⟩ := Ty.row_of_owns ho rfl (by decide) (Ty.all_int hI)
  have hG2 : ∀ b ∈ G, w.heap.size ≤ b := by
    rcases hG with rfl | ⟨g, h1, _, _, rfl⟩
    · simp
    · intro b hb
      obtain rfl : b = g := by simpa using hb
      exact h1
  refine hall w' _ (G ++ Fi) (.of_below hb) ⟨fun b hm => ?_, fun r hr2 => ?_⟩ fun b hm => ?_
  · rcases List.mem_append.1 hm with hm | hm
    · exact Ty.row_lt hr b hm
    · exact Nat.lt_of_lt_of_le (hp1 b hm) hb.size
  · rcases List.mem_cons.1 hr2 with rfl | hr2
    · exact ⟨G, Ty.row_down hr, fun b hb => List.mem_append.2 (.inl hb)⟩
    · obtain ⟨H, h1, h2⟩ := hp2 r hr2
      exact ⟨H, Ty.row_keep h1 fun b hm => hb.block b (hp1 b (h2 b hm)), fun b hm => List.mem_append.2 (.inr (h2 b hm))⟩
  · rcases List.mem_append.1 hm with hm | hm
    · exact .inr (hG2 b hm)
    · exact .inl hm
theorem all_pool (hp : ∀ q ∈ K, ∃ G, Ty.int.row false w q.1 q.2 G) : ∀ {ks : List (Value × List Int)}, (∀ q ∈ ks, q ∈ K) → ∃ G, (Ty.slice Ty.int).all false w (ks.map Prod.fst) (ks.map Prod.snd) G
  | [], _ => ⟨[], rfl, rfl⟩
  | r :: ks, h => by
    obtain ⟨G, hG⟩ := hp r (h r List.mem_cons_self)
    obtain ⟨H, hH⟩ := all_pool hp fun q hq => h q (List.mem_cons_of_mem _ hq)
    exact ⟨G ++ H, [r.1], ks.map Prod.fst, G, H, rfl, rfl, ⟨r.1, rfl, hG⟩, hH⟩
/-- The cells of an own row of one-cell elements. -/
theorem own_view {B : Nat} {e : TypeId} {n : Nat} {cs : List Value} (h : w.ownsRow B e 1 v n cs) : cs.length = n ∧ ((v = .slice none 0 0 ∧ n = 0 ∧ cs = []) ∨ ∃ g c, v = .slice (some ⟨g, 0, none⟩) n c ∧ n ≤ c ∧ c ≤ 9223372036854775807 ∧ ∀ j u, cs[j]? = some u → w.cell? ⟨g, j, none⟩ = some u) := by
  obtain ⟨hl, ⟨rfl, rfl⟩ | ⟨g, cap, cur, rfl, hg, hh, hn, hm, hcs, ht⟩⟩ := h
  · rw [Nat.zero_mul] at hl
    exact ⟨hl, .inl ⟨rfl, rfl, List.length_eq_zero_iff.1 hl⟩⟩
  · rw [Nat.mul_one] at hl
    refine ⟨hl, .inr ⟨g, cap, rfl, hn, by unfold maxLen at hm; omega, fun j u hj => ?_⟩⟩
    have hlt := (List.getElem?_eq_some_iff.1 hj).1
    rw [hown_cell hh ht (by omega)]; exact hj
theorem own_row_f {α : Type} {T : Ty α} {B : Nat} {e : TypeId} {xs : List α} {cs : List Value} {G : List Nat} (h : w.ownsRow B e 1 v xs.length cs) (hT : T.size = 1) (hall : T.all false w cs xs G) : ∃ F, T.row false w v xs F := by
  obtain ⟨hl, h1 | ⟨g, c, rfl, h1, h2, h3⟩⟩ := own_view h
  · obtain ⟨rfl, h0, _⟩ := h1
    obtain rfl : xs = [] := List.length_eq_zero_iff.1 h0
    exact ⟨[], Ty.row_nil _ _ _ _ _ (by decide)⟩
  · by_cases hx : xs = []
    · subst hx
      exact ⟨[], Ty.row_nil _ _ _ _ _ h2⟩
    · exact ⟨g :: G, _, c, cs, G, rfl, h1, h2, hall, .inr ⟨by omega, hx, g, 0, rfl, rfl, fun j hj => ⟨by rw [Nat.zero_add]; exact h3 j _ (List.getElem?_eq_getElem hj), fun e => by cases e⟩⟩⟩
theorem Sp.cls_row (h : Sp w0 w ps) (hi : ps[i]? = some (Cls v ks)) (hj : ps[j]? = some (Pool K)) (hk : ∀ q ∈ ks, q ∈ K) : ∃ F, (Ty.slice Ty.int).row false w v (ks.map Prod.snd) F := by
  obtain ⟨G, hG⟩ := all_pool (fun q hq => h.pool_at hj hq) hk
  have := h.own hi
  have e : (ks.map Prod.snd).length = ks.length := List.length_map _
  refine own_row_f (T := Ty.slice Ty.int) (B := 0) (e := 43) ?_ rfl hG
  rw [e]; exact this
theorem Sp.ints_row {ys : List Int} (h : Sp w0 w ps) (hi : ps[i]? = some (Ints v ys)) (hI : ∀ y ∈ ys, I64 y) : ∃ F, Ty.int.row false w v ys F := own_row_f (h.own hi) rfl (Ty.all_int hI)
theorem own_src {B : Nat} {e : TypeId} {n : Nat} {cs : List Value} (h : w.ownsRow B e 1 v n cs) : ∃ A c, v = .slice A n c ∧ n ≤ c ∧ Src w A n 1 cs ∧ (∀ k, k ≤ n → Src w (cutA A c k 1) (n - k) 1 (cs.drop k)) := by
  obtain ⟨hl, ⟨rfl, rfl, rfl⟩ | ⟨g, c, rfl, h1, h2, h3⟩⟩ := own_view h
  · exact ⟨none, 0, rfl, Nat.le_refl _, .inl ⟨rfl, rfl⟩, fun k hk => by obtain rfl : k = 0 := by omega
                                                                        exact .inl ⟨rfl, rfl⟩⟩
  · have hs : Src w (some ⟨g, 0, none⟩) n 1 cs := .inr ⟨_, rfl, by omega, fun j u hj => by rw [add_none, Nat.zero_add]; exact h3 j u hj⟩
    refine ⟨_, c, rfl, h1, hs, fun k hk => ?_⟩
    have := hs.from (cap := c) hk h1
    rwa [Nat.mul_one] at this
end

/-- A clause put to its place, with the values. -/
def insP (ks : List (Value × List Int)) (q : Value × List Int) : List (Value × List Int) := ks.take (placeB (ks.map Prod.snd) q.2) ++ q :: ks.drop (placeB (ks.map Prod.snd) q.2)
theorem insP_snd (ks : List (Value × List Int)) (q : Value × List Int) : (insP ks q).map Prod.snd = insB (ks.map Prod.snd) q.2 := by unfold insP insB; simp
theorem insP_len (ks : List (Value × List Int)) (q : Value × List Int) : (insP ks q).length = ks.length + 1 := by
  have := congrArg List.length (insP_snd ks q)
  rw [List.length_map, insB_len, List.length_map] at this; exact this
theorem insP_fst (ks : List (Value × List Int)) (q : Value × List Int) : (insP ks q).map Prod.fst = (ks.map Prod.fst).take (placeB (ks.map Prod.snd) q.2) ++ q.1 :: (ks.map Prod.fst).drop (placeB (ks.map Prod.snd) q.2) := by unfold insP; simp
theorem mem_insP {ks : List (Value × List Int)} {q r : Value × List Int} : r ∈ insP ks q ↔ r = q ∨ r ∈ ks := by
  unfold insP
  rw [List.mem_append, List.mem_cons]
  conv => rhs; rw [← List.take_append_drop (placeB (ks.map Prod.snd) q.2) ks, List.mem_append]
  exact ⟨fun h => by rcases h with h | h | h <;> simp [h], fun h => by rcases h with h | h | h <;> simp [h]⟩
end Go.Proofs.YtahbepajeplcmaaGreatDoor

/- (Printed by gen_nx.py.) Contracts: a clause put into a list, in the reference. Printed by gen_insert.py. -/
namespace Go.Proofs.YtahbepajeplcmaaGreatDoor
open Go.RowKit

theorem drew_size (w : World) : w.drew.heap.size = w.heap.size := rfl
theorem one_slices {ks : List (Value × List Int)} (h : ∀ q ∈ ks, ∃ a n c, q.1 = .slice a n c) : ∀ u ∈ ks.map Prod.fst, u.oneCell' = true := by
  intro u hu
  obtain ⟨q, hq, rfl⟩ := List.mem_map.1 hu
  obtain ⟨a, n, c, e⟩ := h q hq
  rw [e]; rfl

/-- The list with a clause put in. -/
def InsPost (w : World) (ks : List (Value × List Int)) (e : Ending) (w' : World) : Prop := ∃ v, e = .returned v ∧ w'.ownsRow w.heap.size 43 1 v ks.length (ks.map Prod.fst) ∧ Below w.heap.size w w'

set_option maxRecDepth 100000 in
set_option maxHeartbeats 4000000 in
theorem l2Insert_old (v : Value) (ua : Option Addr) (uc : Nat) (L : List (List Int)) (c : List Int) (F G : List Nat) (w : World) (hx : (Ty.slice Ty.int).row false w v L F) (hy : Ty.int.row false w (.slice ua c.length uc) c G) (mL : ∀ x ∈ L, Mild x) (mc : Mild c) (hl : L.length ≤ 1000000000) (hin : L[placeB L c]? = some c) :
    Calls Tryz.prog 115 #[v, .slice ua c.length uc] w fun e w' => e = .returned v ∧ Below w.heap.size w w' := by
  have hlt : placeB L c < L.length := by
    rcases Nat.lt_or_ge (placeB L c) L.length with h | h
    · exact h
    · rw [List.getElem?_eq_none h] at hin; cases hin
  rw [List.getElem?_eq_getElem hlt] at hin
  have hin := Option.some.inj hin
  obtain ⟨a, cap, rfl, hx1, hx2, hx3⟩ := row_slices hx
  rcases hx3 with ⟨rfl, rfl⟩ | ⟨hxn, b, off, rfl, _, hxc⟩
  · exact absurd hlt (by simp)
  obtain ⟨x, Fk, hc, hr, _⟩ := hxc _ hlt
  obtain ⟨xa, xc, rfl, _, _⟩ := Ty.row_len hr
  have hlt' : (placeB L c : Int) < (L.length : Int) := by omega
  have hq : decide (L[placeB L c] = c) = true := by simpa using hin
  have hpl := l2Place_any _ _ L c F G w hx hy mL mc hl
  replace hpl := Lib.hid hpl
  replace hin := Lib.hid hin
  generalize placeB L c = p at *
  go_enter Tryz.func115, Tryz.ntmps115
  go_wp2_with fail
  refine hpl.out.mono ?_
  rintro e w1 ⟨rfl, hb1⟩
  have k0 := (hc.keep (hb1.block b hc.lt)).1
  go_wp2_with (go_at_call 120; (with_reducible refine (l1Same_at (Ty.row_grow hr hb1) (Ty.row_grow hy hb1) hq).mono ?_); rintro e w2 ⟨rfl, hb2⟩)
  go_ret
  exact ⟨rfl, btr hb1 hb2⟩

set_option maxRecDepth 100000 in
set_option maxHeartbeats 8000000 in
theorem l2Insert_new (v : Value) (ua : Option Addr) (uc : Nat) (ks : List (Value × List Int)) (c : List Int) (F G : List Nat) (w : World) (hown : w.ownsRow 0 43 1 v ks.length (ks.map Prod.fst)) (hks : ∀ q ∈ ks, ∃ a n c, q.1 = .slice a n c)
    (hx : (Ty.slice Ty.int).row false w v (ks.map Prod.snd) F) (hy : Ty.int.row false w (.slice ua c.length uc) c G) (mL : ∀ x ∈ ks.map Prod.snd, Mild x) (mc : Mild c) (hl : ks.length ≤ 1000000) (hout : (ks.map Prod.snd)[placeB (ks.map Prod.snd) c]? ≠ some c) :
    Calls Tryz.prog 115 #[v, .slice ua c.length uc] w (InsPost w (insP ks (.slice ua c.length uc, c))) := by
  obtain ⟨i0, hi, hz0, hz1, hz2⟩ := info_parts infoRow
  obtain ⟨P, hP⟩ : ∃ P, P = placeB (ks.map Prod.snd) c := ⟨_, rfl⟩
  have hPle : P ≤ ks.length := by have := placeB_le (ks.map Prod.snd) c; rw [List.length_map] at this; omega
  have hpl := l2Place_any _ _ (ks.map Prod.snd) c F G w hx hy mL mc (by rw [List.length_map]; omega)
  rw [← hP] at hpl hout
  have hIF : insP ks (.slice ua c.length uc, c) = ks.take P ++ (.slice ua c.length uc, c) :: ks.drop P := by unfold insP; rw [hP]
  rw [hIF]
  have hnew : Hid (∀ v' w', w'.ownsRow w.heap.size 43 1 v' (P + 1 + (ks.length - P)) (((ks.map Prod.fst).take P ++ [.slice ua c.length uc]) ++ (ks.map Prod.fst).drop P) → Below w.heap.size w w' → InsPost w (ks.take P ++ (.slice ua c.length uc, c) :: ks.drop P) (.returned v') w') := by
    intro v' w' h1 h2
    refine ⟨v', rfl, ?_, h2⟩
    have e : (ks.take P ++ (.slice ua c.length uc, c) :: ks.drop P).length = P + 1 + (ks.length - P) := by rw [List.length_append, List.length_cons, List.length_take, List.length_drop]; omega
    rw [e]
    simpa using h1
  have hone := one_slices hks
  obtain ⟨A, cap, rfl, hcap, hsrc, hsrcF⟩ := own_src hown
  have sTo := Lib.hid (hsrc.to (k := P) hPle)
  have sFr := Lib.hid (hsrcF P hPle)
  have aTo := Lib.hid (show ∀ u ∈ (ks.map Prod.fst).take (P * 1), u.oneCell' = true from fun u hu => hone u (List.mem_of_mem_take hu))
  have aFr := Lib.hid (show ∀ u ∈ (ks.map Prod.fst).drop P, u.oneCell' = true from fun u hu => hone u (List.mem_of_mem_drop hu))
  rw [Nat.mul_one] at sTo aTo
  have q1 : P ≤ cap := by omega
  have hpre : ((P : Int) < (ks.length : Int) ∧ ∃ x cx Fk, (∃ b off, A = some ⟨b, off, none⟩ ∧ w.cell? ⟨b, off + P, none⟩ = some (.slice x cx.length Fk)) ∧ (∃ H, Ty.int.row false w (.slice x cx.length Fk) cx H) ∧ decide (cx = c) = false) ∨ ¬ (P : Int) < (ks.length : Int) := by
    by_cases hlt : P < ks.length
    · refine .inl ⟨by omega, ?_⟩
      obtain ⟨a, cap', e, _, _, ⟨h, _⟩ | ⟨_, b, off, rfl, _, hxc⟩⟩ := row_slices hx
      · rw [List.map_eq_nil_iff] at h; subst h; simp at hlt
      simp only [Value.slice.injEq] at e
      obtain ⟨rfl, _⟩ := e
      obtain ⟨x, Fk, hc, hr, _⟩ := hxc P (by rw [List.length_map]; exact hlt)
      obtain ⟨xa, xc, rfl, _, _⟩ := Ty.row_len hr
      refine ⟨xa, _, xc, ⟨b, off, rfl, hc.1⟩, ⟨Fk, hr⟩, ?_⟩
      rw [List.getElem?_eq_getElem (by rw [List.length_map]; exact hlt)] at hout
      rw [decide_eq_false_iff_not]
      exact fun e => hout (by rw [e])
    · exact .inr (by omega)
  have hy' := Lib.hid hy
  replace hpl := Lib.hid hpl
  replace hP := Lib.hid hP
  replace hIF := Lib.hid hIF
  clear hx hy hsrc hsrcF hone mL mc hout hown hks hP hIF
  rcases hpre with ⟨hlt, xa, cx, xc, ⟨b, off, rfl, k0⟩, ⟨H, hr⟩, hq⟩ | hlt
  · go_enter Tryz.func115, Tryz.ntmps115
    go_wp2_with fail
    refine hpl.out.mono ?_
    rintro e w1 ⟨rfl, hb1⟩
    have k1 := (hb1.cell (World.block_lt_of_cell? _ _ k0)).trans k0
    go_wp2_with (go_at_call 120; (with_reducible refine (l1Same_at (Ty.row_grow hr hb1) (Ty.row_grow hy'.out hb1) hq).mono ?_); rintro e w2 ⟨rfl, hb2⟩)
    have S0 := Lib.hid (((Sp.start w).grow hb1).grow hb2).drew
    clear k0 k1 hr
    refine wp_region_tail_lit (S := (fun _ => True)) 11 [false, false, false, false, false, false, false, false, false, false, false, false, false] (by kernel_rfl) (by kernel_rfl) (by kernel_rfl) ?_ ?_
    · trivial
    intro hS
    (refine walkT_take (i := 1) (v := ?_) rfl (by kernel_rfl) (by decide) (by kernel_rfl) (by kernel_rfl) (fun _ _ _ h => h) (Or.inl ⟨by rfl, ?_⟩) (by assumption) ?_; rotate_left; (focus (intro w hSw; (try dsimp only at hSw); go_simp; (try with_reducible rfl); done)); (try simp only [put_rules]))
    (refine walkT_take (i := 2) (v := ?_) rfl (by kernel_rfl) (by decide) (by kernel_rfl) (by kernel_rfl) (fun _ _ _ h => h) (Or.inl ⟨by rfl, ?_⟩) (by assumption) ?_; rotate_left; (focus (intro w hSw; (try dsimp only at hSw); go_simp; (try with_reducible rfl); done)); (try simp only [put_rules]))
    (refine walkT_take (i := 3) (v := .slice _ P cap) rfl (by kernel_rfl) (by decide) (by kernel_rfl) (by kernel_rfl) (fun _ _ _ h => h) (Or.inl ⟨by rfl, fun _ _ => exec_slice_to rfl rfl rfl Tryz.underlying59 hi q1⟩) (by assumption) ?_; (try simp only [put_rules]))
    (refine walkT_take (i := 5) (v := ?_) rfl (by kernel_rfl) (by decide) (by kernel_rfl) (by kernel_rfl) (fun _ _ _ h => h) (Or.inl ⟨by rfl, ?_⟩) (by assumption) ?_; rotate_left; (focus (intro w hSw; (try dsimp only at hSw); go_simp; (try with_reducible rfl); done)); (try simp only [put_rules]))
    (refine walkT_take (i := 8) (v := ?_) rfl (by kernel_rfl) (by decide) (by kernel_rfl) (by kernel_rfl) (fun _ _ _ h => h) (Or.inl ⟨by rfl, ?_⟩) (by assumption) ?_; rotate_left; (focus (intro w hSw; (try dsimp only at hSw); go_simp; (try with_reducible rfl); done)); (try simp only [put_rules]))
    (refine walkT_take (i := 9) (v := ?_) rfl (by kernel_rfl) (by decide) (by kernel_rfl) (by kernel_rfl) (fun _ _ _ h => h) (Or.inl ⟨by rfl, ?_⟩) (by assumption) ?_; rotate_left; (focus (intro w hSw; (try dsimp only at hSw); go_simp; (try with_reducible rfl); done)); (try simp only [put_rules]))
    (refine walkT_take (i := 10) (v := .slice (cutA _ cap P 1) (ks.length - P) (cap - P)) rfl (by kernel_rfl) (by decide) (by kernel_rfl) (by kernel_rfl) (fun _ _ _ h => h) (Or.inl ⟨by rfl, fun _ _ => exec_slice_from rfl rfl rfl Tryz.underlying59 hi hz1 hPle⟩) (by assumption) ?_; (try simp only [put_rules]))
    (refine walkT_ready (rs := [0, 6]) (by kernel_rfl) (by simp) (by decide) ?_; refine AllT.cons rfl (fun K hK => ?_) (AllT.cons rfl (fun K hK => ?_) AllT.nil))
    · skip
      go_simp
      have S1 := S0.out.own_made 43 1
      (try simp only [drew_size] at S1)
      replace S1 := Lib.hid S1
      clear S0
      refine hK.out _ _ trivial (fun _ => ?_)
      clear hK
      (try simp only [put_rules])
      (refine walkT_ready (rs := [4, 6]) (by kernel_rfl) (by simp) (by decide) ?_; refine AllT.cons rfl (fun K hK => ?_) (AllT.cons rfl (fun K hK => ?_) AllT.nil))
      · skip
        (refine step_append_src rfl _ _ rfl Tryz.underlying59 hi hz0 hz1 hz2 rfl (by decide) _ 0 _ rfl (S1.out.own (i := 0) rfl) _ P cap _ rfl (sTo.out.grow S1.out.below) aTo.out (by unfold maxLen; omega) (by omega) ?_; intro vE wE hownE hgE hatE)
        have S2 := S1.out.own_push (i := 0) rfl (bb _) hownE hgE hatE
        obtain ⟨aE, cE, rfl⟩ := owns_form hownE
        rw [Nat.zero_add, List.nil_append] at S2
        clear hownE hgE hatE
        simp only [Nat.zero_add]
        replace S2 := Lib.hid S2
        clear S1
        refine hK.out _ _ trivial (fun _ => ?_)
        clear hK
        (try simp only [put_rules])
        (refine walkT_ready (rs := [6]) (by kernel_rfl) (by simp) (by decide) ?_; refine AllT.cons rfl (fun K hK => ?_) AllT.nil)
        go_simp
        have S3 := S2.out.alloc_box #[.slice ua c.length uc] 43
        (try simp only [World.size_alloc, drew_size] at S3)
        replace S3 := Lib.hid S3
        clear S2
        refine hK.out _ _ trivial (fun _ => ?_)
        clear hK
        (try simp only [put_rules])
        (refine walkT_ready (rs := [7]) (by kernel_rfl) (by simp) (by decide) ?_; refine AllT.cons rfl (fun K hK => ?_) AllT.nil)
        have kB := S3.out.cell (i := 0) rfl (o := 0) rfl
        (refine step_append_src rfl _ _ rfl Tryz.underlying59 hi hz0 hz1 hz2 rfl (by decide) _ P _ rfl (S3.out.own (i := 1) rfl) _ 1 1 [.slice ua c.length uc] rfl (Src.one kB) (by simp [Value.oneCell']) (by unfold maxLen; omega) (by omega) ?_; intro vH wH hownH hgH hatH)
        have S4 := S3.out.own_push (i := 1) rfl (bb _) hownH hgH hatH
        obtain ⟨aH, cH, rfl⟩ := owns_form hownH
        clear hownH hgH hatH kB
        replace S4 := Lib.hid S4
        clear S3
        refine hK.out _ _ trivial (fun _ => ?_)
        clear hK
        (try simp only [put_rules])
        (refine walkT_done (by kernel_rfl) ?_)
        simp only [List.drop_succ_cons, List.drop_zero]
        (refine wpList_append_src rfl _ _ rfl Tryz.underlying59 hi hz0 hz1 hz2 rfl (by decide) _ (P + 1) _ rfl (S4.out.own (i := 1) rfl) _ (ks.length - P) _ _ rfl (sFr.out.grow S4.out.below) aFr.out (by unfold maxLen; omega) (by omega) ?_; intro v5 w5 hown5 hg5 hat5)
        have S9 := S4.out.own_push (i := 1) rfl (bb _) hown5 hg5 hat5
        have ho9 := S9.owns_end (i := 1) rfl
        have hB9 := S9.below
        obtain ⟨a5, c5, rfl⟩ := owns_form hown5
        have hf := Lib.hid (hnew.out _ _ ho9 hB9)
        clear S9 ho9 hB9 hown5 hg5 hat5 S4
        go_wp2_with fail
        go_ret
        exact hf.out
      · skip
        go_simp
        have S2 := S1.out.alloc_box #[.slice ua c.length uc] 43
        (try simp only [World.size_alloc, drew_size] at S2)
        replace S2 := Lib.hid S2
        clear S1
        refine hK.out _ _ trivial (fun _ => ?_)
        clear hK
        (try simp only [put_rules])
        (refine walkT_ready (rs := [4]) (by kernel_rfl) (by simp) (by decide) ?_; refine AllT.cons rfl (fun K hK => ?_) AllT.nil)
        (refine step_append_src rfl _ _ rfl Tryz.underlying59 hi hz0 hz1 hz2 rfl (by decide) _ 0 _ rfl (S2.out.own (i := 1) rfl) _ P cap _ rfl (sTo.out.grow S2.out.below) aTo.out (by unfold maxLen; omega) (by omega) ?_; intro vE wE hownE hgE hatE)
        have S3 := S2.out.own_push (i := 1) rfl (bb _) hownE hgE hatE
        obtain ⟨aE, cE, rfl⟩ := owns_form hownE
        rw [Nat.zero_add, List.nil_append] at S3
        clear hownE hgE hatE
        simp only [Nat.zero_add]
        replace S3 := Lib.hid S3
        clear S2
        refine hK.out _ _ trivial (fun _ => ?_)
        clear hK
        (try simp only [put_rules])
        (refine walkT_ready (rs := [7]) (by kernel_rfl) (by simp) (by decide) ?_; refine AllT.cons rfl (fun K hK => ?_) AllT.nil)
        have kB := S3.out.cell (i := 0) rfl (o := 0) rfl
        (refine step_append_src rfl _ _ rfl Tryz.underlying59 hi hz0 hz1 hz2 rfl (by decide) _ P _ rfl (S3.out.own (i := 1) rfl) _ 1 1 [.slice ua c.length uc] rfl (Src.one kB) (by simp [Value.oneCell']) (by unfold maxLen; omega) (by omega) ?_; intro vH wH hownH hgH hatH)
        have S4 := S3.out.own_push (i := 1) rfl (bb _) hownH hgH hatH
        obtain ⟨aH, cH, rfl⟩ := owns_form hownH
        clear hownH hgH hatH kB
        replace S4 := Lib.hid S4
        clear S3
        refine hK.out _ _ trivial (fun _ => ?_)
        clear hK
        (try simp only [put_rules])
        (refine walkT_done (by kernel_rfl) ?_)
        simp only [List.drop_succ_cons, List.drop_zero]
        (refine wpList_append_src rfl _ _ rfl Tryz.underlying59 hi hz0 hz1 hz2 rfl (by decide) _ (P + 1) _ rfl (S4.out.own (i := 1) rfl) _ (ks.length - P) _ _ rfl (sFr.out.grow S4.out.below) aFr.out (by unfold maxLen; omega) (by omega) ?_; intro v5 w5 hown5 hg5 hat5)
        have S9 := S4.out.own_push (i := 1) rfl (bb _) hown5 hg5 hat5
        have ho9 := S9.owns_end (i := 1) rfl
        have hB9 := S9.below
        obtain ⟨a5, c5, rfl⟩ := owns_form hown5
        have hf := Lib.hid (hnew.out _ _ ho9 hB9)
        clear S9 ho9 hB9 hown5 hg5 hat5 S4
        go_wp2_with fail
        go_ret
        exact hf.out
    · skip
      go_simp
      have S1 := S0.out.alloc_box #[.slice ua c.length uc] 43
      (try simp only [drew_size] at S1)
      replace S1 := Lib.hid S1
      clear S0
      refine hK.out _ _ trivial (fun _ => ?_)
      clear hK
      (try simp only [put_rules])
      (refine walkT_ready (rs := [0]) (by kernel_rfl) (by simp) (by decide) ?_; refine AllT.cons rfl (fun K hK => ?_) AllT.nil)
      go_simp
      have S2 := S1.out.own_made 43 1
      (try simp only [World.size_alloc, drew_size] at S2)
      replace S2 := Lib.hid S2
      clear S1
      refine hK.out _ _ trivial (fun _ => ?_)
      clear hK
      (try simp only [put_rules])
      (refine walkT_ready (rs := [4]) (by kernel_rfl) (by simp) (by decide) ?_; refine AllT.cons rfl (fun K hK => ?_) AllT.nil)
      (refine step_append_src rfl _ _ rfl Tryz.underlying59 hi hz0 hz1 hz2 rfl (by decide) _ 0 _ rfl (S2.out.own (i := 0) rfl) _ P cap _ rfl (sTo.out.grow S2.out.below) aTo.out (by unfold maxLen; omega) (by omega) ?_; intro vE wE hownE hgE hatE)
      have S3 := S2.out.own_push (i := 0) rfl (bb _) hownE hgE hatE
      obtain ⟨aE, cE, rfl⟩ := owns_form hownE
      rw [Nat.zero_add, List.nil_append] at S3
      clear hownE hgE hatE
      simp only [Nat.zero_add]
      replace S3 := Lib.hid S3
      clear S2
      refine hK.out _ _ trivial (fun _ => ?_)
      clear hK
      (try simp only [put_rules])
      (refine walkT_ready (rs := [7]) (by kernel_rfl) (by simp) (by decide) ?_; refine AllT.cons rfl (fun K hK => ?_) AllT.nil)
      have kB := S3.out.cell (i := 1) rfl (o := 0) rfl
      (refine step_append_src rfl _ _ rfl Tryz.underlying59 hi hz0 hz1 hz2 rfl (by decide) _ P _ rfl (S3.out.own (i := 0) rfl) _ 1 1 [.slice ua c.length uc] rfl (Src.one kB) (by simp [Value.oneCell']) (by unfold maxLen; omega) (by omega) ?_; intro vH wH hownH hgH hatH)
      have S4 := S3.out.own_push (i := 0) rfl (bb _) hownH hgH hatH
      obtain ⟨aH, cH, rfl⟩ := owns_form hownH
      clear hownH hgH hatH kB
      replace S4 := Lib.hid S4
      clear S3
      refine hK.out _ _ trivial (fun _ => ?_)
      clear hK
      (try simp only [put_rules])
      (refine walkT_done (by kernel_rfl) ?_)
      simp only [List.drop_succ_cons, List.drop_zero]
      (refine wpList_append_src rfl _ _ rfl Tryz.underlying59 hi hz0 hz1 hz2 rfl (by decide) _ (P + 1) _ rfl (S4.out.own (i := 0) rfl) _ (ks.length - P) _ _ rfl (sFr.out.grow S4.out.below) aFr.out (by unfold maxLen; omega) (by omega) ?_; intro v5 w5 hown5 hg5 hat5)
      have S9 := S4.out.own_push (i := 0) rfl (bb _) hown5 hg5 hat5
      have ho9 := S9.owns_end (i := 0) rfl
      have hB9 := S9.below
      obtain ⟨a5, c5, rfl⟩ := owns_form hown5
      have hf := Lib.hid (hnew.out _ _ ho9 hB9)
      clear S9 ho9 hB9 hown5 hg5 hat5 S4
      go_wp2_with fail
      go_ret
      exact hf.out
  · go_enter Tryz.func115, Tryz.ntmps115
    go_wp2_with fail
    refine hpl.out.mono ?_
    rintro e w1 ⟨rfl, hb1⟩
    have S0 := Lib.hid ((Sp.start w).grow hb1).drew
    go_wp2_with fail
    refine wp_region_tail_lit (S := (fun _ => True)) 11 [false, false, false, false, false, false, false, false, false, false, false, false, false] (by kernel_rfl) (by kernel_rfl) (by kernel_rfl) ?_ ?_
    · trivial
    intro hS
    (refine walkT_take (i := 1) (v := ?_) rfl (by kernel_rfl) (by decide) (by kernel_rfl) (by kernel_rfl) (fun _ _ _ h => h) (Or.inl ⟨by rfl, ?_⟩) (by assumption) ?_; rotate_left; (focus (intro w hSw; (try dsimp only at hSw); go_simp; (try with_reducible rfl); done)); (try simp only [put_rules]))
    (refine walkT_take (i := 2) (v := ?_) rfl (by kernel_rfl) (by decide) (by kernel_rfl) (by kernel_rfl) (fun _ _ _ h => h) (Or.inl ⟨by rfl, ?_⟩) (by assumption) ?_; rotate_left; (focus (intro w hSw; (try dsimp only at hSw); go_simp; (try with_reducible rfl); done)); (try simp only [put_rules]))
    (refine walkT_take (i := 3) (v := .slice _ P cap) rfl (by kernel_rfl) (by decide) (by kernel_rfl) (by kernel_rfl) (fun _ _ _ h => h) (Or.inl ⟨by rfl, fun _ _ => exec_slice_to rfl rfl rfl Tryz.underlying59 hi q1⟩) (by assumption) ?_; (try simp only [put_rules]))
    (refine walkT_take (i := 5) (v := ?_) rfl (by kernel_rfl) (by decide) (by kernel_rfl) (by kernel_rfl) (fun _ _ _ h => h) (Or.inl ⟨by rfl, ?_⟩) (by assumption) ?_; rotate_left; (focus (intro w hSw; (try dsimp only at hSw); go_simp; (try with_reducible rfl); done)); (try simp only [put_rules]))
    (refine walkT_take (i := 8) (v := ?_) rfl (by kernel_rfl) (by decide) (by kernel_rfl) (by kernel_rfl) (fun _ _ _ h => h) (Or.inl ⟨by rfl, ?_⟩) (by assumption) ?_; rotate_left; (focus (intro w hSw; (try dsimp only at hSw); go_simp; (try with_reducible rfl); done)); (try simp only [put_rules]))
    (refine walkT_take (i := 9) (v := ?_) rfl (by kernel_rfl) (by decide) (by kernel_rfl) (by kernel_rfl) (fun _ _ _ h => h) (Or.inl ⟨by rfl, ?_⟩) (by assumption) ?_; rotate_left; (focus (intro w hSw; (try dsimp only at hSw); go_simp; (try with_reducible rfl); done)); (try simp only [put_rules]))
    (refine walkT_take (i := 10) (v := .slice (cutA _ cap P 1) (ks.length - P) (cap - P)) rfl (by kernel_rfl) (by decide) (by kernel_rfl) (by kernel_rfl) (fun _ _ _ h => h) (Or.inl ⟨by rfl, fun _ _ => exec_slice_from rfl rfl rfl Tryz.underlying59 hi hz1 hPle⟩) (by assumption) ?_; (try simp only [put_rules]))
    (refine walkT_ready (rs := [0, 6]) (by kernel_rfl) (by simp) (by decide) ?_; refine AllT.cons rfl (fun K hK => ?_) (AllT.cons rfl (fun K hK => ?_) AllT.nil))
    · skip
      go_simp
      have S1 := S0.out.own_made 43 1
      (try simp only [drew_size] at S1)
      replace S1 := Lib.hid S1
      clear S0
      refine hK.out _ _ trivial (fun _ => ?_)
      clear hK
      (try simp only [put_rules])
      (refine walkT_ready (rs := [4, 6]) (by kernel_rfl) (by simp) (by decide) ?_; refine AllT.cons rfl (fun K hK => ?_) (AllT.cons rfl (fun K hK => ?_) AllT.nil))
      · skip
        (refine step_append_src rfl _ _ rfl Tryz.underlying59 hi hz0 hz1 hz2 rfl (by decide) _ 0 _ rfl (S1.out.own (i := 0) rfl) _ P cap _ rfl (sTo.out.grow S1.out.below) aTo.out (by unfold maxLen; omega) (by omega) ?_; intro vE wE hownE hgE hatE)
        have S2 := S1.out.own_push (i := 0) rfl (bb _) hownE hgE hatE
        obtain ⟨aE, cE, rfl⟩ := owns_form hownE
        rw [Nat.zero_add, List.nil_append] at S2
        clear hownE hgE hatE
        simp only [Nat.zero_add]
        replace S2 := Lib.hid S2
        clear S1
        refine hK.out _ _ trivial (fun _ => ?_)
        clear hK
        (try simp only [put_rules])
        (refine walkT_ready (rs := [6]) (by kernel_rfl) (by simp) (by decide) ?_; refine AllT.cons rfl (fun K hK => ?_) AllT.nil)
        go_simp
        have S3 := S2.out.alloc_box #[.slice ua c.length uc] 43
        (try simp only [World.size_alloc, drew_size] at S3)
        replace S3 := Lib.hid S3
        clear S2
        refine hK.out _ _ trivial (fun _ => ?_)
        clear hK
        (try simp only [put_rules])
        (refine walkT_ready (rs := [7]) (by kernel_rfl) (by simp) (by decide) ?_; refine AllT.cons rfl (fun K hK => ?_) AllT.nil)
        have kB := S3.out.cell (i := 0) rfl (o := 0) rfl
        (refine step_append_src rfl _ _ rfl Tryz.underlying59 hi hz0 hz1 hz2 rfl (by decide) _ P _ rfl (S3.out.own (i := 1) rfl) _ 1 1 [.slice ua c.length uc] rfl (Src.one kB) (by simp [Value.oneCell']) (by unfold maxLen; omega) (by omega) ?_; intro vH wH hownH hgH hatH)
        have S4 := S3.out.own_push (i := 1) rfl (bb _) hownH hgH hatH
        obtain ⟨aH, cH, rfl⟩ := owns_form hownH
        clear hownH hgH hatH kB
        replace S4 := Lib.hid S4
        clear S3
        refine hK.out _ _ trivial (fun _ => ?_)
        clear hK
        (try simp only [put_rules])
        (refine walkT_done (by kernel_rfl) ?_)
        simp only [List.drop_succ_cons, List.drop_zero]
        (refine wpList_append_src rfl _ _ rfl Tryz.underlying59 hi hz0 hz1 hz2 rfl (by decide) _ (P + 1) _ rfl (S4.out.own (i := 1) rfl) _ (ks.length - P) _ _ rfl (sFr.out.grow S4.out.below) aFr.out (by unfold maxLen; omega) (by omega) ?_; intro v5 w5 hown5 hg5 hat5)
        have S9 := S4.out.own_push (i := 1) rfl (bb _) hown5 hg5 hat5
        have ho9 := S9.owns_end (i := 1) rfl
        have hB9 := S9.below
        obtain ⟨a5, c5, rfl⟩ := owns_form hown5
        have hf := Lib.hid (hnew.out _ _ ho9 hB9)
        clear S9 ho9 hB9 hown5 hg5 hat5 S4
        go_wp2_with fail
        go_ret
        exact hf.out
      · skip
        go_simp
        have S2 := S1.out.alloc_box #[.slice ua c.length uc] 43
        (try simp only [World.size_alloc, drew_size] at S2)
        replace S2 := Lib.hid S2
        clear S1
        refine hK.out _ _ trivial (fun _ => ?_)
        clear hK
        (try simp only [put_rules])
        (refine walkT_ready (rs := [4]) (by kernel_rfl) (by simp) (by decide) ?_; refine AllT.cons rfl (fun K hK => ?_) AllT.nil)
        (refine step_append_src rfl _ _ rfl Tryz.underlying59 hi hz0 hz1 hz2 rfl (by decide) _ 0 _ rfl (S2.out.own (i := 1) rfl) _ P cap _ rfl (sTo.out.grow S2.out.below) aTo.out (by unfold maxLen; omega) (by omega) ?_; intro vE wE hownE hgE hatE)
        have S3 := S2.out.own_push (i := 1) rfl (bb _) hownE hgE hatE
        obtain ⟨aE, cE, rfl⟩ := owns_form hownE
        rw [Nat.zero_add, List.nil_append] at S3
        clear hownE hgE hatE
        simp only [Nat.zero_add]
        replace S3 := Lib.hid S3
        clear S2
        refine hK.out _ _ trivial (fun _ => ?_)
        clear hK
        (try simp only [put_rules])
        (refine walkT_ready (rs := [7]) (by kernel_rfl) (by simp) (by decide) ?_; refine AllT.cons rfl (fun K hK => ?_) AllT.nil)
        have kB := S3.out.cell (i := 0) rfl (o := 0) rfl
        (refine step_append_src rfl _ _ rfl Tryz.underlying59 hi hz0 hz1 hz2 rfl (by decide) _ P _ rfl (S3.out.own (i := 1) rfl) _ 1 1 [.slice ua c.length uc] rfl (Src.one kB) (by simp [Value.oneCell']) (by unfold maxLen; omega) (by omega) ?_; intro vH wH hownH hgH hatH)
        have S4 := S3.out.own_push (i := 1) rfl (bb _) hownH hgH hatH
        obtain ⟨aH, cH, rfl⟩ := owns_form hownH
        clear hownH hgH hatH kB
        replace S4 := Lib.hid S4
        clear S3
        refine hK.out _ _ trivial (fun _ => ?_)
        clear hK
        (try simp only [put_rules])
        (refine walkT_done (by kernel_rfl) ?_)
        simp only [List.drop_succ_cons, List.drop_zero]
        (refine wpList_append_src rfl _ _ rfl Tryz.underlying59 hi hz0 hz1 hz2 rfl (by decide) _ (P + 1) _ rfl (S4.out.own (i := 1) rfl) _ (ks.length - P) _ _ rfl (sFr.out.grow S4.out.below) aFr.out (by unfold maxLen; omega) (by omega) ?_; intro v5 w5 hown5 hg5 hat5)
        have S9 := S4.out.own_push (i := 1) rfl (bb _) hown5 hg5 hat5
        have ho9 := S9.owns_end (i := 1) rfl
        have hB9 := S9.below
        obtain ⟨a5, c5, rfl⟩ := owns_form hown5
        have hf := Lib.hid (hnew.out _ _ ho9 hB9)
        clear S9 ho9 hB9 hown5 hg5 hat5 S4
        go_wp2_with fail
        go_ret
        exact hf.out
    · skip
      go_simp
      have S1 := S0.out.alloc_box #[.slice ua c.length uc] 43
      (try simp only [drew_size] at S1)
      replace S1 := Lib.hid S1
      clear S0
      refine hK.out _ _ trivial (fun _ => ?_)
      clear hK
      (try simp only [put_rules])
      (refine walkT_ready (rs := [0]) (by kernel_rfl) (by simp) (by decide) ?_; refine AllT.cons rfl (fun K hK => ?_) AllT.nil)
      go_simp
      have S2 := S1.out.own_made 43 1
      (try simp only [World.size_alloc, drew_size] at S2)
      replace S2 := Lib.hid S2
      clear S1
      refine hK.out _ _ trivial (fun _ => ?_)
      clear hK
      (try simp only [put_rules])
      (refine walkT_ready (rs := [4]) (by kernel_rfl) (by simp) (by decide) ?_; refine AllT.cons rfl (fun K hK => ?_) AllT.nil)
      (refine step_append_src rfl _ _ rfl Tryz.underlying59 hi hz0 hz1 hz2 rfl (by decide) _ 0 _ rfl (S2.out.own (i := 0) rfl) _ P cap _ rfl (sTo.out.grow S2.out.below) aTo.out (by unfold maxLen; omega) (by omega) ?_; intro vE wE hownE hgE hatE)
      have S3 := S2.out.own_push (i := 0) rfl (bb _) hownE hgE hatE
      obtain ⟨aE, cE, rfl⟩ := owns_form hownE
      rw [Nat.zero_add, List.nil_append] at S3
      clear hownE hgE hatE
      simp only [Nat.zero_add]
      replace S3 := Lib.hid S3
      clear S2
      refine hK.out _ _ trivial (fun _ => ?_)
      clear hK
      (try simp only [put_rules])
      (refine walkT_ready (rs := [7]) (by kernel_rfl) (by simp) (by decide) ?_; refine AllT.cons rfl (fun K hK => ?_) AllT.nil)
      have kB := S3.out.cell (i := 1) rfl (o := 0) rfl
      (refine step_append_src rfl _ _ rfl Tryz.underlying59 hi hz0 hz1 hz2 rfl (by decide) _ P _ rfl (S3.out.own (i := 0) rfl) _ 1 1 [.slice ua c.length uc] rfl (Src.one kB) (by simp [Value.oneCell']) (by unfold maxLen; omega) (by omega) ?_; intro vH wH hownH hgH hatH)
      have S4 := S3.out.own_push (i := 0) rfl (bb _) hownH hgH hatH
      obtain ⟨aH, cH, rfl⟩ := owns_form hownH
      clear hownH hgH hatH kB
      replace S4 := Lib.hid S4
      clear S3
      refine hK.out _ _ trivial (fun _ => ?_)
      clear hK
      (try simp only [put_rules])
      (refine walkT_done (by kernel_rfl) ?_)
      simp only [List.drop_succ_cons, List.drop_zero]
      (refine wpList_append_src rfl _ _ rfl Tryz.underlying59 hi hz0 hz1 hz2 rfl (by decide) _ (P + 1) _ rfl (S4.out.own (i := 0) rfl) _ (ks.length - P) _ _ rfl (sFr.out.grow S4.out.below) aFr.out (by unfold maxLen; omega) (by omega) ?_; intro v5 w5 hown5 hg5 hat5)
      have S9 := S4.out.own_push (i := 0) rfl (bb _) hown5 hg5 hat5
      have ho9 := S9.owns_end (i := 0) rfl
      have hB9 := S9.below
      obtain ⟨a5, c5, rfl⟩ := owns_form hown5
      have hf := Lib.hid (hnew.out _ _ ho9 hB9)
      clear S9 ho9 hB9 hown5 hg5 hat5 S4
      go_wp2_with fail
      go_ret
      exact hf.out
end Go.Proofs.YtahbepajeplcmaaGreatDoor

/- Plain facts: the order of clauses, on both sides; sorted lists of clauses. -/
namespace Go.Proofs.YtahbepajeplcmaaGreatDoor
open Go.RowKit

theorem keyL_bef {x y : Int} (hx : LitS x) (hy : LitS y) : befL x y ↔ keyL x < keyL y := by
  unfold befL
  rw [absW_lit hx, absW_lit hy, hx.abs, hy.abs]
  unfold LitS at hx hy
  unfold keyL
  constructor
  · intro h
    split at h <;> split at h <;> (repeat' split) <;> omega
  · intro h
    split at h <;> split at h <;> (repeat' split) <;> omega
theorem cmpL_zero {x y : Int} : cmpL x y = 0 ↔ absW x = absW y ∧ x = y := by
  unfold cmpL
  constructor
  · intro h
    split at h
    · cases h
    · split at h
      · cases h
      · split at h
        · cases h
        · split at h
          · cases h
          · omega
  · rintro ⟨h1, rfl⟩
    simp
theorem cmpF_lex : ∀ {a b : List Int}, (∀ x ∈ a, LitS x) → (∀ x ∈ b, LitS x) → a.length = b.length → (cmpF a b < 0 ↔ lexB a b = true) ∧ (cmpF a b = 0 ↔ a = b)
  | [], [], _, _, _ => by simp [cmpF, lexB]
  | x :: a, y :: b, ha, hb, hl => by
    obtain ⟨h1, h2⟩ := cmpF_lex (a := a) (b := b) (fun z hz => ha z (List.mem_cons_of_mem _ hz)) (fun z hz => hb z (List.mem_cons_of_mem _ hz)) (by simpa using hl)
    have hx := ha x List.mem_cons_self
    have hy := hb y List.mem_cons_self
    rw [cmpF, lexB]
    by_cases e : x = y
    · subst e
      rw [if_pos (cmpL_zero.2 ⟨rfl, rfl⟩), if_pos rfl]
      exact ⟨h1, by rw [h2]; simp⟩
    · have hne : cmpL x y ≠ 0 := fun h => e (cmpL_zero.1 h).2
      rw [if_neg hne, if_neg e, cmpL_neg, keyL_bef hx hy, decide_eq_true_eq]
      exact ⟨Iff.rfl, ⟨fun h => absurd h hne, fun h => absurd (List.cons.inj h).1 e⟩⟩
  | [], _ :: _, _, _, h => by simp at h
  | _ :: _, [], _, _, h => by simp at h
theorem cmpC_bef {a b : List Int} (ha : ∀ x ∈ a, LitS x) (hb : ∀ x ∈ b, LitS x) : (cmpC a b < 0 ↔ Bef a b) := by
  unfold cmpC orL Lib.compareInt Bef beforeB
  by_cases e : a.length = b.length
  · have h := cmpF_lex ha hb e
    rw [if_pos e]
    rw [show (if (a.length : Int) < (b.length : Int) then (-1 : Int) else if (b.length : Int) < (a.length : Int) then 1 else 0) = 0 by rw [if_neg (by omega), if_neg (by omega)]]
    rw [if_pos rfl]
    exact h.1
  · rw [if_neg e, decide_eq_true_eq]
    by_cases hlt : a.length < b.length
    · rw [show (if (a.length : Int) < (b.length : Int) then (-1 : Int) else if (b.length : Int) < (a.length : Int) then 1 else 0) = -1 by rw [if_pos (by omega)]]
      simp [hlt]
    · rw [show (if (a.length : Int) < (b.length : Int) then (-1 : Int) else if (b.length : Int) < (a.length : Int) then 1 else 0) = 1 by rw [if_neg (by omega), if_pos (by omega)]]
      simp [hlt]

/-- A clause put in once. -/
def insS (L : List (List Int)) (c : List Int) : List (List Int) := if L[placeB L c]? = some c then L else insB L c
/-- The first k clauses, sorted, each once. -/
def sortK (xss : List (List Int)) : Nat → List (List Int)
  | 0 => []
  | k + 1 => insS (sortK xss k) (xss.getD k [])
theorem sortK_asc (xss : List (List Int)) : ∀ k, Asc (sortK xss k)
  | 0 => List.Pairwise.nil
  | k + 1 => by
    rw [sortK, insS]
    split
    · exact sortK_asc xss k
    · rename_i h
      exact (sortK_asc xss k).ins fun hm => h ((placeB_mem (sortK_asc xss k)).2 hm)
theorem sortK_mem {xss : List (List Int)} {c : List Int} : ∀ {k : Nat}, k ≤ xss.length → (c ∈ sortK xss k ↔ c ∈ xss.take k)
  | 0, _ => by simp [sortK]
  | k + 1, hk => by
    have ih := sortK_mem (xss := xss) (c := c) (k := k) (by omega)
    have ht : xss.take (k + 1) = xss.take k ++ [xss.getD k []] := by rw [List.take_succ_eq_append_getElem (by omega), getD_at (by omega)]
    rw [sortK, insS, ht, List.mem_append, ← ih, List.mem_singleton]
    split
    · rename_i h
      have := (placeB_mem (sortK_asc xss k)).1 h
      constructor
      · exact .inl
      · rintro (h | rfl)
        · exact h
        · exact this
    · rw [mem_insB]
      exact or_comm
theorem sortK_len (xss : List (List Int)) : ∀ k, (sortK xss k).length ≤ k
  | 0 => Nat.le_refl _
  | k + 1 => by
    have ih := sortK_len xss k
    rw [sortK, insS]
    split
    · omega
    · rw [insB_len]; omega
/-- The sorted list of clauses. -/
def sortA (xss : List (List Int)) : List (List Int) := sortK xss xss.length
theorem sortA_mem {xss : List (List Int)} {c : List Int} : c ∈ sortA xss ↔ c ∈ xss := by
  unfold sortA
  rw [sortK_mem (Nat.le_refl _), List.take_length]
theorem sortA_uniq {xss ys : List (List Int)} (h : Asc ys) (hm : ∀ c, c ∈ ys ↔ c ∈ xss) : ys = sortA xss :=
  h.ext (sortK_asc _ _) fun c => (hm c).trans sortA_mem.symm
theorem sortA_good {vars : Int} {xss : List (List Int)} (h : goodB vars xss = true) : goodB vars (sortA xss) = true :=
  same_good (fun _ => sortA_mem.symm) (sortK_len xss xss.length) h
theorem sortA_models (xss : List (List Int)) (b : Nat) : modT (sortA xss) b = modT xss b := same_models (fun _ => sortA_mem) b
/-- The Cnf with its clauses sorted. -/
def sortN (vars : Int) (xss : List (List Int)) : (Int × List (List Int)) × Bool := if goodB vars xss then ((vars, sortA xss), true) else ((0, []), false)
/-- Of equal neighbours one. -/
def cptC : List (List Int) → List (List Int)
  | [] => []
  | [c] => [c]
  | c :: d :: r => if c = d then cptC (d :: r) else c :: cptC (d :: r)
theorem cptC_mem {x : List Int} : ∀ {ys : List (List Int)}, x ∈ cptC ys ↔ x ∈ ys
  | [] => by simp [cptC]
  | [c] => by simp [cptC]
  | c :: d :: r => by
    have ih := cptC_mem (x := x) (ys := d :: r)
    rw [cptC]
    split
    · rename_i h
      rw [ih, h]
      simp
    · rw [List.mem_cons, ih, List.mem_cons (a := x) (b := c)]
theorem cptC_asc : ∀ {ys : List (List Int)}, (ys.Pairwise fun a b => Bef a b ∨ a = b) → Asc (cptC ys)
  | [], _ => by rw [cptC]; exact List.Pairwise.nil
  | [c], _ => by rw [cptC]; simp
  | c :: d :: r, h => by
    have h1 := List.pairwise_cons.1 h
    have ih := cptC_asc (ys := d :: r) h1.2
    rw [cptC]
    split
    · exact ih
    · rename_i hne
      refine List.pairwise_cons.2 ⟨fun y hy => ?_, ih⟩
      have hy2 := cptC_mem.1 hy
      rcases h1.1 y hy2 with hb | rfl
      · exact hb
      · have hcd : Bef c d := (h1.1 d List.mem_cons_self).resolve_right hne
        have h2 := List.pairwise_cons.1 h1.2
        rcases List.mem_cons.1 hy2 with rfl | hr
        · exact absurd rfl hne
        · rcases h2.1 c hr with hb | he
          · exact absurd hb (bef_asym _ _ hcd)
          · exact absurd he.symm hne
/-- A list in order, of equal ones one: the sorted list. -/
theorem compact_sortA {xss ys : List (List Int)} (hs : ys.Pairwise fun a b => Bef a b ∨ a = b) (hm : ∀ c, c ∈ ys ↔ c ∈ xss) : cptC ys = sortA xss :=
  sortA_uniq (cptC_asc hs) fun c => cptC_mem.trans (hm c)
end Go.Proofs.YtahbepajeplcmaaGreatDoor

/- Contract: clauses sorted, in the reference. -/
namespace Go.Proofs.YtahbepajeplcmaaGreatDoor
open Go.RowKit

/-- A Cnf that can be read, and whether there is one. -/
def CnfQ (r : (Int × List (List Int)) × Bool) (w : World) (e : Ending) (w' : World) : Prop := ∃ (B : Option Addr) (cap : Nat) (F : List Nat), e = .returned (.tuple #[.agg #[.int .i64 r.1.1, .slice B r.1.2.length cap], .bool r.2]) ∧ (Ty.slice Ty.int).row false w' (.slice B r.1.2.length cap) r.1.2 F ∧ Below w.heap.size w w'
theorem cnfQ_no {R : (Int × List (List Int)) × Bool} {w w' : World} (h : R = ((0, []), false)) (hb : Below w.heap.size w w') : CnfQ R w (.returned (.tuple #[.agg #[.int .i64 0, .slice none 0 0], .bool false])) w' := by
  subst h
  have S := (Sp.of_below hb).rows_nil Ty.int 43
  obtain ⟨F, hr, -, -⟩ := S.rows_done (i := 0) rfl
  exact ⟨none, 0, F, rfl, Ty.row_down hr, hb⟩

theorem cnfQ_yes {R : (Int × List (List Int)) × Bool} {vars : Int} {xss ys : List (List Int)} {n : Nat} {B : Option Addr} {cap : Nat} {F : List Nat} {w w' : World} (h : R = if true = true then ((vars, xss), true) else ((0, []), false)) (hy : ys = xss) (hn : ys.length = n) (hr : (Ty.slice Ty.int).row false w' (.slice B n cap) ys F) (hb : Below w.heap.size w w') :
    CnfQ R w (.returned (.tuple #[.agg #[.int .i64 vars, .slice B n cap], .bool true])) w' := by
  rw [if_pos rfl] at h
  subst h hy hn
  exact ⟨B, cap, F, rfl, hr, hb⟩

set_option maxRecDepth 100000 in
set_option maxHeartbeats 8000000 in
theorem specSort_any (vars : Int) (v : Value) (xss : List (List Int)) (F : List Nat) (w : World) (hx : (Ty.slice Ty.int).row false w v xss F) :
    Calls Tryz.prog 46 #[.agg #[.int .i64 vars, v]] w (CnfQ (sortN vars xss) w) := by
  obtain ⟨A, cap, rfl, hI⟩ := cls_row hx
  obtain ⟨i1, hi, hz0, hz1, hz2⟩ := info_parts infoRow
  have S0 := ((Sp.start w).alloc_box #[.int .i64 vars, .slice A xss.length cap] 61).alloc_box #[.int .i64 0, .slice none 0 0] 61
  simp only [World.size_alloc] at S0
  have hgood := Lib.hid (l2Good_any vars _ xss F _ (Ty.row_below hx S0.below (Ty.row_lt hx)))
  have hcells := Lib.hid (cls_cells hx)
  have c0 := S0.cell (i := 1) rfl (o := 0) rfl
  have c1 := S0.cell (i := 1) rfl (o := 1) rfl
  replace S0 := Lib.hid S0
  clear hx hI
  cases h1 : goodB vars xss
  · have hR := Lib.hid (show sortN vars xss = ((0, []), false) from if_neg (by rw [h1]; decide))
    rw [h1] at hgood
    go_enter Tryz.func46, Tryz.ntmps46
    go_wp2_with fail
    refine hgood.out.mono ?_
    rintro e w1 ⟨rfl, hb1⟩
    have S1 := Lib.hid (S0.out.grow hb1)
    clear S0 hgood hb1 c0 c1 hcells
    have r0 := S1.out.cell (i := 0) rfl (o := 0) rfl
    have r1 := S1.out.cell (i := 0) rfl (o := 1) rfl
    have f0 := S1.out.frozen (i := 0) rfl 0
    have f1 := S1.out.frozen (i := 0) rfl 1
    have SF := (S1.out.store (i := 0) rfl 0 (.int .i64 0)).store (i := 0) rfl 1 (.slice none 0 0)
    have j0 := SF.cell (i := 0) rfl (o := 0) rfl
    have j1 := SF.cell (i := 0) rfl (o := 1) rfl
    have hB := Lib.hid SF.below
    clear SF
    go_wp2_with fail
    exact bodyPost_ret (v := .tuple #[.agg #[.int .i64 0, .slice none 0 0], .bool false]) (by simp [results, Tryz.results46, go_sem, j0, j1]) rfl (cnfQ_no hR.out hB.out)
  · have hR := Lib.hid (show sortN vars xss = if true = true then ((vars, sortA xss), true) else ((0, []), false) from (if_pos h1).trans (if_pos rfl).symm)
    rw [h1] at hgood
    have hml := Lib.hid (good_mildC h1)
    obtain ⟨g1, g2, -⟩ := goodN_parts h1
    clear g1 h1
    go_enter Tryz.func46, Tryz.ntmps46
    go_wp2_with fail
    refine hgood.out.mono ?_
    rintro e w1 ⟨rfl, hb1⟩
    have S1 := Lib.hid (S0.out.grow hb1)
    clear S0 hgood hb1 c0 c1
    have c0 := S1.out.cell (i := 1) rfl (o := 0) rfl
    have S2 := ((S1.out.pool_nil.own_made 43 1).alloc_box #[.int .i64 vars, .slice (some ⟨w1.heap.size, 0, none⟩) 0 0] 61)
    simp only [World.size_alloc] at S2
    obtain ⟨ob, hob⟩ : ∃ ob, w1.heap.size + 1 = ob := ⟨_, rfl⟩
    obtain ⟨rb, hrb⟩ : ∃ rb, w.heap.size + 1 = rb := ⟨_, rfl⟩
    rw [hob, hrb] at S2
    have S3 : Hid (Sp w _ [Cls (.slice (some ⟨w1.heap.size, 0, none⟩) ([] : List (Value × List Int)).length 0) ([] : List (Value × List Int)), Pool ([] : List (Value × List Int)), Box ob 61 #[.int .i64 vars, .slice (some ⟨w1.heap.size, 0, none⟩) ([] : List (Value × List Int)).length 0], Box rb 61 #[.int .i64 0, .slice none 0 0], Box w.heap.size 61 #[.int .i64 vars, .slice A xss.length cap]]) := S2.pick (qs := [_, _, _, _, _]) [1, 1, 0, 0, 0] rfl
    clear S1 S2
    go_wp2_with fail
    go_loopw [5] (fun vi wr => ∃ (k : Nat) (ks KP : List (Value × List Int)) (B : Option Addr) (bc : Nat), k ≤ xss.length ∧ vi = .int .i64 k ∧ Hid (ks.map Prod.snd = sortK xss k) ∧ Hid (∀ q ∈ ks, q ∈ KP) ∧ Hid (∀ q ∈ KP, ∃ a n c, q.1 = .slice a n c) ∧ Hid (Sp w wr [Cls (.slice B ks.length bc) ks, Pool KP, Box ob 61 #[.int .i64 vars, .slice B ks.length bc], Box rb 61 #[.int .i64 0, .slice none 0 0], Box w.heap.size 61 #[.int .i64 vars, .slice A xss.length cap]])) (fun vi _ => xss.length - (intOf vi).toNat)
    case atStart => exact ⟨0, [], [], _, _, Nat.zero_le _, rfl, rfl, (fun q hq => by simp at hq), (fun q hq => by simp at hq), S3⟩
    case round =>
      obtain ⟨k, ks, KP, B, bc, hk, rfl, hks, hkK, hKs, HS⟩ := hrel
      clear S3
      have c1 := HS.out.cell (i := 4) rfl (o := 1) rfl
      have hkl : ks.length ≤ k := by have h1 := sortK_len xss k; rw [← hks.out, List.length_map] at h1; exact h1
      by_cases hlt : k < xss.length
      · obtain ⟨b, off, Bk, ck, Fk, rfl, m0, hrk⟩ := hcells.out k hlt
        have n0 := (HS.out.below.cell (World.block_lt_of_cell? _ _ m0)).trans m0
        have l1 := HS.out.cell (i := 2) rfl (o := 1) rfl
        have hmc := hml.out _ (List.getElem_mem hlt)
        have hown := Lib.hid (fun W (h : Below w.heap.size w W) => l1Own_any _ xss[k] _ W (Ty.row_below hrk h (Ty.row_lt hrk)) (by omega))
        have hstep : sortK xss (k + 1) = insS (sortK xss k) xss[k] := by rw [sortK, getD_at hlt]
        have hmL : ∀ x ∈ ks.map Prod.snd, Mild x := fun x hx => by
          rw [hks.out] at hx
          have hx2 := List.mem_of_mem_take ((sortK_mem (by omega)).1 hx)
          exact (hml.out x hx2).1
        have hck : ∀ x ∈ xss[k], I64 x := fun x hx => by have := hmc.1 x hx; unfold I64; omega
        obtain ⟨c, hc⟩ : ∃ c, xss[k] = c := ⟨_, rfl⟩
        rw [hc] at n0 hmc hown hstep hck m0
        replace m0 := Lib.hid m0
        replace hmL := Lib.hid hmL
        clear hrk hc
        go_wp2_with fail
        refine wp_region_tail_lit (S := (fun w' => w'.cell? ⟨ob, 1, none⟩ = some (.slice B ks.length bc) ∧ w'.cell? ⟨w.heap.size, 1, none⟩ = some (.slice (some ⟨b, off, none⟩) xss.length cap) ∧ w'.cell? ⟨b, off + k, none⟩ = some (.slice Bk c.length ck))) 9 [false, false, false, false, false, false, false, false, false, false, false] (by kernel_rfl) (by kernel_rfl) (by kernel_rfl) ?_ ?_
        · exact ⟨l1, c1, n0⟩
        intro hSc
        (refine walkT_take (i := 0) (v := ?_) rfl (by kernel_rfl) (by decide) (by kernel_rfl) (by kernel_rfl) (fun _ _ _ h => h) (Or.inl ⟨by rfl, ?_⟩) (by assumption) ?_; rotate_left; (focus (intro w hSw; (try dsimp only at hSw); go_simp; (try with_reducible rfl); done)); (try simp only [put_rules]))
        (refine walkT_take (i := 1) (v := ?_) rfl (by kernel_rfl) (by decide) (by kernel_rfl) (by kernel_rfl) (fun _ _ _ h => h) (Or.inl ⟨by rfl, ?_⟩) (by assumption) ?_; rotate_left; (focus (intro w hSw; (try dsimp only at hSw); go_simp; (try with_reducible rfl); done)); (try simp only [put_rules]))
        (refine walkT_take (i := 2) (v := ?_) rfl (by kernel_rfl) (by decide) (by kernel_rfl) (by kernel_rfl) (fun _ _ _ h => h) (Or.inl ⟨by rfl, ?_⟩) (by assumption) ?_; rotate_left; (focus (intro w hSw; (try dsimp only at hSw); go_simp; (try with_reducible rfl); done)); (try simp only [put_rules]))
        (refine walkT_take (i := 3) (v := ?_) rfl (by kernel_rfl) (by decide) (by kernel_rfl) (by kernel_rfl) (fun _ _ _ h => h) (Or.inl ⟨by rfl, ?_⟩) (by assumption) ?_; rotate_left; (focus (intro w hSw; (try dsimp only at hSw); go_simp; (try with_reducible rfl); done)); (try simp only [put_rules]))
        (refine walkT_take (i := 4) (v := ?_) rfl (by kernel_rfl) (by decide) (by kernel_rfl) (by kernel_rfl) (fun _ _ _ h => h) (Or.inl ⟨by rfl, ?_⟩) (by assumption) ?_; rotate_left; (focus (intro w hSw; (try dsimp only at hSw); go_simp; (try with_reducible rfl); done)); (try simp only [put_rules]))
        (refine walkT_take (i := 5) (v := ?_) rfl (by kernel_rfl) (by decide) (by kernel_rfl) (by kernel_rfl) (fun _ _ _ h => h) (Or.inl ⟨by rfl, ?_⟩) (by assumption) ?_; rotate_left; (focus (intro w hSw; (try dsimp only at hSw); go_simp; (try with_reducible rfl); done)); (try simp only [put_rules]))
        (refine walkT_take (i := 6) (v := ?_) rfl (by kernel_rfl) (by decide) (by kernel_rfl) (by kernel_rfl) (fun _ _ _ h => h) (Or.inl ⟨by rfl, ?_⟩) (by assumption) ?_; rotate_left; (focus (intro w hSw; (try dsimp only at hSw); go_simp; (try with_reducible rfl); done)); (try simp only [put_rules]))
        (refine walkT_ready (rs := [7]) (by kernel_rfl) (by simp) (by decide) ?_; refine AllT.cons rfl (fun K hK => ?_) AllT.nil)
        go_simp
        go_at_call 116
        have S3 := HS.out.drew
        refine (hown.out _ S3.below).mono ?_
        rintro e w3 ⟨v3, rfl, ho, hb3⟩
        have S4 := S3.pool_add (i := 1) rfl hb3 ho hck
        obtain ⟨B2, cap2, rfl⟩ := own_slice ho
        replace S4 : Hid (Sp w w3 [Cls (.slice B ks.length bc) ks, Pool ((.slice B2 c.length cap2, c) :: KP), Box ob 61 #[.int .i64 vars, .slice B ks.length bc], Box rb 61 #[.int .i64 0, .slice none 0 0], Box w.heap.size 61 #[.int .i64 vars, .slice (some ⟨b, off, none⟩) xss.length cap]]) := S4
        clear S3 ho hb3 hown HS l1 c1 n0
        go_wp2_with fail
        refine hK.out _ _ ⟨S4.out.cell (i := 2) rfl (o := 1) rfl, S4.out.cell (i := 4) rfl (o := 1) rfl, (S4.out.below.cell (World.block_lt_of_cell? _ _ m0.out)).trans m0.out⟩ (fun hS2 => ?_)
        clear hK hSc
        (try simp only [put_rules])
        obtain ⟨FL, hLr⟩ := S4.out.cls_row (i := 0) (j := 1) rfl rfl (fun q hq => List.mem_cons_of_mem _ (hkK.out q hq))
        obtain ⟨FC, hCr⟩ := S4.out.pool_at (i := 1) rfl (r := (.slice B2 c.length cap2, c)) List.mem_cons_self
        have hkn : ∀ q ∈ ks, ∃ a n c, q.1 = .slice a n c := fun q hq => hKs.out q (hkK.out q hq)
        have hK2 : Hid (∀ q ∈ (.slice B2 c.length cap2, c) :: KP, ∃ a n c, q.1 = .slice a n c) := fun q hq => by
          rcases List.mem_cons.1 hq with rfl | hq
          · exact ⟨_, _, _, rfl⟩
          · exact hKs.out q hq
        have hlm : (ks.map Prod.snd).length = ks.length := List.length_map _
        by_cases hin : (ks.map Prod.snd)[placeB (ks.map Prod.snd) c]? = some c
        · have hcall := Lib.hid (l2Insert_old _ B2 cap2 (ks.map Prod.snd) c FL FC w3 hLr hCr hmL.out hmc.1 (by omega) hin)
          have hst2 : Hid (ks.map Prod.snd = sortK xss (k + 1)) := by unfold Hid; rw [hstep, ← hks.out, insS, if_pos hin]
          have hkK2 : Hid (∀ q ∈ ks, q ∈ (.slice B2 c.length cap2, c) :: KP) := fun q hq => List.mem_cons_of_mem _ (hkK.out q hq)
          clear hLr hCr hin hstep hks
          (refine walkT_ready (rs := [8]) (by kernel_rfl) (by simp) (by decide) ?_; refine AllT.cons rfl (fun K hK => ?_) AllT.nil)
          go_simp
          go_at_call 115
          refine hcall.out.mono ?_
          rintro e w4 ⟨rfl, hb4⟩
          have S5 := Lib.hid (S4.out.grow hb4)
          clear S4 hcall hb4
          go_wp2_with fail
          refine hK.out _ _ ⟨S5.out.cell (i := 2) rfl (o := 1) rfl, S5.out.cell (i := 4) rfl (o := 1) rfl, (S5.out.below.cell (World.block_lt_of_cell? _ _ m0.out)).trans m0.out⟩ (fun hS3 => ?_)
          clear hK hS2
          (try simp only [put_rules])
          (refine walkT_done (by kernel_rfl) ?_)
          simp only [List.drop_succ_cons, List.drop_zero]
          have b1 := S5.out.cell (i := 2) rfl (o := 1) rfl
          have q1 := S5.out.frozen (i := 2) rfl 1
          have S8 : Hid (Sp w (w4.setCell ⟨ob, 1, none⟩ (.slice B ks.length bc)) [Cls (.slice B ks.length bc) ks, Pool ((.slice B2 c.length cap2, c) :: KP), Box ob 61 #[.int .i64 vars, .slice B ks.length bc], Box rb 61 #[.int .i64 0, .slice none 0 0], Box w.heap.size 61 #[.int .i64 vars, .slice (some ⟨b, off, none⟩) xss.length cap]]) := S5.out.store (i := 2) rfl 1 (.slice B ks.length bc)
          clear S5 hS3
          go_wp2_with fail
          go_roundw
          case rel => exact ⟨k + 1, ks, _, B, bc, by omega, by go_num, hst2, hkK2, hK2, S8⟩
          case measure => simp [intOf]; omega
        · have hcall := Lib.hid (l2Insert_new _ B2 cap2 ks c FL FC w3 (owns_zero (S4.out.own (i := 0) rfl)) hkn hLr hCr hmL.out hmc.1 (by omega) hin)
          have hst2 : Hid ((insP ks (.slice B2 c.length cap2, c)).map Prod.snd = sortK xss (k + 1)) := by unfold Hid; rw [hstep, ← hks.out, insS, if_neg hin, insP_snd]
          have hkK2 : Hid (∀ q ∈ insP ks (.slice B2 c.length cap2, c), q ∈ (.slice B2 c.length cap2, c) :: KP) := fun q hq => by
            rcases mem_insP.1 hq with rfl | hq
            · exact List.mem_cons_self
            · exact List.mem_cons_of_mem _ (hkK.out q hq)
          obtain ⟨kn, hkn2⟩ : ∃ kn, insP ks (.slice B2 c.length cap2, c) = kn := ⟨_, rfl⟩
          rw [hkn2] at hcall hst2 hkK2
          unfold InsPost at hcall
          clear hLr hCr hin hstep hks hkn2
          (refine walkT_ready (rs := [8]) (by kernel_rfl) (by simp) (by decide) ?_; refine AllT.cons rfl (fun K hK => ?_) AllT.nil)
          go_simp
          go_at_call 115
          refine hcall.out.mono ?_
          rintro e w4 ⟨v4, rfl, ho4, hb4⟩
          have S5 := S4.out.own_call hb4 ho4
          obtain ⟨aY, cY, rfl⟩ := own_slice ho4
          replace S5 : Hid (Sp w w4 [Cls (.slice aY kn.length cY) kn, Cls (.slice B ks.length bc) ks, Pool ((.slice B2 c.length cap2, c) :: KP), Box ob 61 #[.int .i64 vars, .slice B ks.length bc], Box rb 61 #[.int .i64 0, .slice none 0 0], Box w.heap.size 61 #[.int .i64 vars, .slice (some ⟨b, off, none⟩) xss.length cap]]) := S5
          clear S4 hcall hb4 ho4
          go_wp2_with fail
          refine hK.out _ _ ⟨S5.out.cell (i := 3) rfl (o := 1) rfl, S5.out.cell (i := 5) rfl (o := 1) rfl, (S5.out.below.cell (World.block_lt_of_cell? _ _ m0.out)).trans m0.out⟩ (fun hS3 => ?_)
          clear hK hS2
          (try simp only [put_rules])
          (refine walkT_done (by kernel_rfl) ?_)
          simp only [List.drop_succ_cons, List.drop_zero]
          have b1 := S5.out.cell (i := 3) rfl (o := 1) rfl
          have q1 := S5.out.frozen (i := 3) rfl 1
          have S8 : Hid (Sp w (w4.setCell ⟨ob, 1, none⟩ (.slice aY kn.length cY)) [Cls (.slice aY kn.length cY) kn, Pool ((.slice B2 c.length cap2, c) :: KP), Box ob 61 #[.int .i64 vars, .slice aY kn.length cY], Box rb 61 #[.int .i64 0, .slice none 0 0], Box w.heap.size 61 #[.int .i64 vars, .slice (some ⟨b, off, none⟩) xss.length cap]]) := (S5.out.store (i := 3) rfl 1 (.slice aY kn.length cY)).pick (qs := [_, _, _, _, _]) [0, 1, 1, 1, 1] rfl
          clear S5 hS3
          go_wp2_with fail
          go_roundw
          case rel => exact ⟨k + 1, kn, _, aY, cY, by omega, by go_num, hst2, hkK2, hK2, S8⟩
          case measure => simp [intOf]; omega
      · obtain rfl : k = xss.length := by omega
        have hsA : ks.map Prod.snd = sortA xss := hks.out
        have hR2 := Lib.hid hR.out
        have l0 := HS.out.cell (i := 2) rfl (o := 0) rfl
        have l1 := HS.out.cell (i := 2) rfl (o := 1) rfl
        have r0 := HS.out.cell (i := 3) rfl (o := 0) rfl
        have r1 := HS.out.cell (i := 3) rfl (o := 1) rfl
        have f0 := HS.out.frozen (i := 3) rfl 0
        have f1 := HS.out.frozen (i := 3) rfl 1
        have SF := (HS.out.store (i := 3) rfl 0 (.int .i64 vars)).store (i := 3) rfl 1 (.slice B ks.length bc)
        have j0 := SF.cell (i := 3) rfl (o := 0) rfl
        have j1 := SF.cell (i := 3) rfl (o := 1) rfl
        obtain ⟨FL, hLr⟩ := SF.cls_row (i := 0) (j := 1) rfl rfl hkK.out
        have hB := Lib.hid SF.below
        replace hLr := Lib.hid hLr
        replace hsA := Lib.hid hsA
        clear SF HS hks hkK hKs hR hcells hml
        go_wp2_with fail
        exact bodyPost_ret (v := .tuple #[.agg #[.int .i64 vars, .slice B ks.length bc], .bool true]) (by simp [results, Tryz.results46, go_sem, j0, j1]) rfl (cnfQ_yes hR2.out hsA.out (List.length_map _) hLr.out hB.out)
end Go.Proofs.YtahbepajeplcmaaGreatDoor
