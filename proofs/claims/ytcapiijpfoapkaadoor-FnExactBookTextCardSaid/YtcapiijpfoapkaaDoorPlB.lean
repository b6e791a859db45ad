/- Plain facts: decimals, checksums, sealed strings, splitting. No program in sight. -/
import Derived.Test.YtcapiijpfoapkaaDoorPlA
namespace Go.Proofs.YtcapiijpfoapkaaDoor

theorem decDigits_big {u : Nat} (h : ¬ u < 10) : Lib.decDigits u = Lib.decDigits (u / 10) ++ [UInt8.ofNat (48 + u % 10)] := by rw [Lib.decDigits, dif_neg h]
theorem itoa_nat (u : Nat) : Lib.itoa u = Lib.decDigits u := by simp [Lib.itoa, Int.not_lt.2 (Int.natCast_nonneg u)]
theorem itoa_neg (u : Nat) (h : 0 < u) : Lib.itoa (-(u : Int)) = 45 :: Lib.decDigits u := by
  rw [Lib.itoa, if_pos (by omega)]; congr 2; omega
theorem digit_at : ∀ k : Nat, k < 10 → (ByteArray.mk #[48, 49, 50, 51, 52, 53, 54, 55, 56, 57]).extract k (k + 1) = ms [UInt8.ofNat (48 + k)] := by
  intro k hk
  apply bl_inj
  rw [bl_extract, bl_ms]
  match k, hk with
  | 0, _ => rfl
  | 1, _ => rfl
  | 2, _ => rfl
  | 3, _ => rfl
  | 4, _ => rfl
  | 5, _ => rfl
  | 6, _ => rfl
  | 7, _ => rfl
  | 8, _ => rfl
  | 9, _ => rfl
theorem decDigits_ne (u : Nat) : Lib.decDigits u ≠ [] := by
  by_cases h : u < 10
  · rw [Lib.decDigits, dif_pos h]; simp
  · rw [decDigits_big h]; simp
theorem decDigits_len : ∀ (k u : Nat), u < 10 ^ (k + 1) → (Lib.decDigits u).length ≤ k + 1
  | 0, u, h => by rw [Lib.decDigits, dif_pos (by simpa using h)]; simp
  | k + 1, u, h => by
    by_cases h1 : u < 10
    · rw [Lib.decDigits, dif_pos h1]; simp
    · rw [decDigits_big h1, List.length_append]
      have := decDigits_len k (u / 10) (by rw [Nat.pow_succ] at h; omega)
      simp; omega
theorem decDigits_digit : ∀ (n u : Nat), u ≤ n → ∀ c ∈ Lib.decDigits u, 48 ≤ c.toNat ∧ c.toNat ≤ 57
  | n, u, hn => by
    intro c hc
    by_cases h1 : u < 10
    · rw [Lib.decDigits, dif_pos h1] at hc
      simp at hc; subst hc
      simp; omega
    · rw [decDigits_big h1] at hc
      rcases List.mem_append.1 hc with hc | hc
      · cases n with
        | zero => omega
        | succ n => exact decDigits_digit n (u / 10) (by omega) c hc
      · simp at hc; subst hc
        simp; omega
termination_by n => n

/-- The checksum. -/
def sumB (l : List UInt8) : Int := l.foldl (fun h c => (41 * h + c.toNat + 1) % 999979) 7
theorem sumB_snoc (l : List UInt8) (c : UInt8) : sumB (l ++ [c]) = (41 * sumB l + c.toNat + 1) % 999979 := by simp [sumB]
theorem sumB_nil : sumB [] = 7 := rfl
theorem sumB_range (l : List UInt8) : 0 ≤ sumB l ∧ sumB l < 999979 := by
  rcases List.eq_nil_or_concat l with rfl | ⟨l', c, rfl⟩
  · exact ⟨by decide, by decide⟩
  · rw [List.concat_eq_append, sumB_snoc]; omega
/-- The sealed string. -/
def sealB (l : List UInt8) : List UInt8 := l ++ 35 :: Lib.itoa (sumB l)
theorem itoa_len {n : Int} (h0 : 0 ≤ n) (h : n < 1000000) : (Lib.itoa n).length ≤ 6 := by
  obtain ⟨u, rfl⟩ := Int.eq_ofNat_of_zero_le h0
  rw [itoa_nat]
  exact decDigits_len 5 u (by omega)
theorem sealB_length (l : List UInt8) : (sealB l).length ≤ l.length + 7 := by
  have := sumB_range l
  have := itoa_len this.1 (by omega)
  simp [sealB]; omega
end Go.Proofs.YtcapiijpfoapkaaDoor
