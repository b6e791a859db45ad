/- Lemmas and contracts for a law, put together out of several texts: SeA SeB SeC SeD SeE SeF SeI PgQ. -/
import Derived.Test.YtnfjgebfmnpkbaaGreatMg6
import Derived.Test.YtnfjgebfmnpkbaaGreatMg2
import Derived.Test.YtnfjgebfmnpkbaaGreatMg1
import Derived.Test.YtnfjgebfmnpkbaaGreatMg4
import Derived.Test.YtnfjgebfmnpkbaaGreatMg7
import Derived.Test.YtnfjgebfmnpkbaaGreatMg3
import Derived.Test.YtnfjgebfmnpkbaaGreatMg5
import Derived.Test.YtnfjgebfmnpkbaaGreatMg8
/- Plain facts: the generator of the seeded Cnfs: its period, and that each clause is found. No program in sight. -/
namespace Go.Proofs.YtnfjgebfmnpkbaaGreat

/-- The generator's step. -/
def gS (s : Int) : Int := (1021 * s + 12345) % 65536
def itS : Nat → Int → Int
  | 0, s => s
  | n + 1, s => itS n (gS (gS s))
theorem itS_add : ∀ (n m : Nat) (s : Int), itS (n + m) s = itS m (itS n s)
  | 0, m, s => by rw [Nat.zero_add]; rfl
  | n + 1, m, s => by rw [Nat.add_right_comm]; exact itS_add n m _
theorem itS_comm : ∀ (n : Nat) (s : Int), itS n (gS s) = gS (itS n s)
  | 0, _ => rfl
  | n + 1, s => itS_comm n (gS (gS s))
theorem gS_rng (s : Int) : 0 ≤ gS s ∧ gS s < 65536 := by unfold gS; omega
theorem itS_rng : ∀ (n : Nat) {s : Int}, 0 ≤ s ∧ s < 65536 → 0 ≤ itS n s ∧ itS n s < 65536
  | 0, _, h => h
  | n + 1, _, _ => itS_rng n (gS_rng _)
theorem it_1 (x : Int) : itS 1 x = (59401 * x + 33678) % 65536 := by show gS (gS x) = _; unfold gS; omega
theorem it_2 (x : Int) : itS 2 x = (20561 * x + 54156) % 65536 := by rw [show (2 : Nat) = 1 + 1 from rfl, itS_add, it_1, it_1]; omega
theorem it_4 (x : Int) : itS 4 x = (47521 * x + 33496) % 65536 := by rw [show (4 : Nat) = 2 + 2 from rfl, itS_add, it_2, it_2]; omega
theorem it_8 (x : Int) : itS 8 x = (5953 * x + 58544) % 65536 := by rw [show (8 : Nat) = 4 + 4 from rfl, itS_add, it_4, it_4]; omega
theorem it_16 (x : Int) : itS 16 x = (48769 * x + 50528) % 65536 := by rw [show (16 : Nat) = 8 + 8 from rfl, itS_add, it_8, it_8]; omega
theorem it_32 (x : Int) : itS 32 x = (48385 * x + 31424) % 65536 := by rw [show (32 : Nat) = 16 + 16 from rfl, itS_add, it_16, it_16]; omega
theorem it_64 (x : Int) : itS 64 x = (31233 * x + 46464) % 65536 := by rw [show (64 : Nat) = 32 + 32 from rfl, itS_add, it_32, it_32]; omega
theorem it_128 (x : Int) : itS 128 x = (62465 * x + 27392) % 65536 := by rw [show (128 : Nat) = 64 + 64 from rfl, itS_add, it_64, it_64]; omega
theorem it_256 (x : Int) : itS 256 x = (59393 * x + 54784) % 65536 := by rw [show (256 : Nat) = 128 + 128 from rfl, itS_add, it_128, it_128]; omega
theorem it_512 (x : Int) : itS 512 x = (53249 * x + 44032) % 65536 := by rw [show (512 : Nat) = 256 + 256 from rfl, itS_add, it_256, it_256]; omega
theorem it_1024 (x : Int) : itS 1024 x = (40961 * x + 22528) % 65536 := by rw [show (1024 : Nat) = 512 + 512 from rfl, itS_add, it_512, it_512]; omega
theorem it_2048 (x : Int) : itS 2048 x = (16385 * x + 45056) % 65536 := by rw [show (2048 : Nat) = 1024 + 1024 from rfl, itS_add, it_1024, it_1024]; omega
theorem it_4096 (x : Int) : itS 4096 x = (32769 * x + 24576) % 65536 := by rw [show (4096 : Nat) = 2048 + 2048 from rfl, itS_add, it_2048, it_2048]; omega
theorem it_8192 (x : Int) : itS 8192 x = (1 * x + 49152) % 65536 := by rw [show (8192 : Nat) = 4096 + 4096 from rfl, itS_add, it_4096, it_4096]; omega
theorem it_16384 (x : Int) : itS 16384 x = (1 * x + 32768) % 65536 := by rw [show (16384 : Nat) = 8192 + 8192 from rfl, itS_add, it_8192, it_8192]; omega
theorem reach_16 {x y : Int} (hx : 0 ≤ x ∧ x < 65536) (hy : 0 ≤ y ∧ y < 65536) (h : x % 65536 = y % 65536) : ∃ t, itS t x = y := ⟨0, by show x = y; omega⟩
theorem low_15 (x : Int) : ((1 * x + 32768) % 65536) % 65536 = (x + 32768) % 65536 := by
  rw [Int.emod_emod_of_dvd _ (by decide : (65536 : Int) ∣ 65536)]; omega
theorem reach_15 {x y : Int} (hx : 0 ≤ x ∧ x < 65536) (hy : 0 ≤ y ∧ y < 65536) (h : x % 32768 = y % 32768) : ∃ t, itS t x = y := by
  by_cases h2 : x % 65536 = y % 65536
  · exact reach_16 hx hy h2
  · obtain ⟨t, ht⟩ := reach_16 (itS_rng 16384 hx) hy (by rw [it_16384, low_15]; omega)
    exact ⟨16384 + t, by rw [itS_add]; exact ht⟩
theorem low_14 (x : Int) : ((1 * x + 49152) % 65536) % 32768 = (x + 16384) % 32768 := by
  rw [Int.emod_emod_of_dvd _ (by decide : (32768 : Int) ∣ 65536)]; omega
theorem reach_14 {x y : Int} (hx : 0 ≤ x ∧ x < 65536) (hy : 0 ≤ y ∧ y < 65536) (h : x % 16384 = y % 16384) : ∃ t, itS t x = y := by
  by_cases h2 : x % 32768 = y % 32768
  · exact reach_15 hx hy h2
  · obtain ⟨t, ht⟩ := reach_15 (itS_rng 8192 hx) hy (by rw [it_8192, low_14]; omega)
    exact ⟨8192 + t, by rw [itS_add]; exact ht⟩
theorem low_13 (x : Int) : ((32769 * x + 24576) % 65536) % 16384 = (x + 8192) % 16384 := by
  rw [Int.emod_emod_of_dvd _ (by decide : (16384 : Int) ∣ 65536)]; omega
theorem reach_13 {x y : Int} (hx : 0 ≤ x ∧ x < 65536) (hy : 0 ≤ y ∧ y < 65536) (h : x % 8192 = y % 8192) : ∃ t, itS t x = y := by
  by_cases h2 : x % 16384 = y % 16384
  · exact reach_14 hx hy h2
  · obtain ⟨t, ht⟩ := reach_14 (itS_rng 4096 hx) hy (by rw [it_4096, low_13]; omega)
    exact ⟨4096 + t, by rw [itS_add]; exact ht⟩
theorem low_12 (x : Int) : ((16385 * x + 45056) % 65536) % 8192 = (x + 4096) % 8192 := by
  rw [Int.emod_emod_of_dvd _ (by decide : (8192 : Int) ∣ 65536)]; omega
theorem reach_12 {x y : Int} (hx : 0 ≤ x ∧ x < 65536) (hy : 0 ≤ y ∧ y < 65536) (h : x % 4096 = y % 4096) : ∃ t, itS t x = y := by
  by_cases h2 : x % 8192 = y % 8192
  · exact reach_13 hx hy h2
  · obtain ⟨t, ht⟩ := reach_13 (itS_rng 2048 hx) hy (by rw [it_2048, low_12]; omega)
    exact ⟨2048 + t, by rw [itS_add]; exact ht⟩
theorem low_11 (x : Int) : ((40961 * x + 22528) % 65536) % 4096 = (x + 2048) % 4096 := by
  rw [Int.emod_emod_of_dvd _ (by decide : (4096 : Int) ∣ 65536)]; omega
theorem reach_11 {x y : Int} (hx : 0 ≤ x ∧ x < 65536) (hy : 0 ≤ y ∧ y < 65536) (h : x % 2048 = y % 2048) : ∃ t, itS t x = y := by
  by_cases h2 : x % 4096 = y % 4096
  · exact reach_12 hx hy h2
  · obtain ⟨t, ht⟩ := reach_12 (itS_rng 1024 hx) hy (by rw [it_1024, low_11]; omega)
    exact ⟨1024 + t, by rw [itS_add]; exact ht⟩
theorem low_10 (x : Int) : ((53249 * x + 44032) % 65536) % 2048 = (x + 1024) % 2048 := by
  rw [Int.emod_emod_of_dvd _ (by decide : (2048 : Int) ∣ 65536)]; omega
theorem reach_10 {x y : Int} (hx : 0 ≤ x ∧ x < 65536) (hy : 0 ≤ y ∧ y < 65536) (h : x % 1024 = y % 1024) : ∃ t, itS t x = y := by
  by_cases h2 : x % 2048 = y % 2048
  · exact reach_11 hx hy h2
  · obtain ⟨t, ht⟩ := reach_11 (itS_rng 512 hx) hy (by rw [it_512, low_10]; omega)
    exact ⟨512 + t, by rw [itS_add]; exact ht⟩
theorem low_9 (x : Int) : ((59393 * x + 54784) % 65536) % 1024 = (x + 512) % 1024 := by
  rw [Int.emod_emod_of_dvd _ (by decide : (1024 : Int) ∣ 65536)]; omega
theorem reach_9 {x y : Int} (hx : 0 ≤ x ∧ x < 65536) (hy : 0 ≤ y ∧ y < 65536) (h : x % 512 = y % 512) : ∃ t, itS t x = y := by
  by_cases h2 : x % 1024 = y % 1024
  · exact reach_10 hx hy h2
  · obtain ⟨t, ht⟩ := reach_10 (itS_rng 256 hx) hy (by rw [it_256, low_9]; omega)
    exact ⟨256 + t, by rw [itS_add]; exact ht⟩
theorem low_8 (x : Int) : ((62465 * x + 27392) % 65536) % 512 = (x + 256) % 512 := by
  rw [Int.emod_emod_of_dvd _ (by decide : (512 : Int) ∣ 65536)]; omega
theorem reach_8 {x y : Int} (hx : 0 ≤ x ∧ x < 65536) (hy : 0 ≤ y ∧ y < 65536) (h : x % 256 = y % 256) : ∃ t, itS t x = y := by
  by_cases h2 : x % 512 = y % 512
  · exact reach_9 hx hy h2
  · obtain ⟨t, ht⟩ := reach_9 (itS_rng 128 hx) hy (by rw [it_128, low_8]; omega)
    exact ⟨128 + t, by rw [itS_add]; exact ht⟩
theorem low_7 (x : Int) : ((31233 * x + 46464) % 65536) % 256 = (x + 128) % 256 := by
  rw [Int.emod_emod_of_dvd _ (by decide : (256 : Int) ∣ 65536)]; omega
theorem reach_7 {x y : Int} (hx : 0 ≤ x ∧ x < 65536) (hy : 0 ≤ y ∧ y < 65536) (h : x % 128 = y % 128) : ∃ t, itS t x = y := by
  by_cases h2 : x % 256 = y % 256
  · exact reach_8 hx hy h2
  · obtain ⟨t, ht⟩ := reach_8 (itS_rng 64 hx) hy (by rw [it_64, low_7]; omega)
    exact ⟨64 + t, by rw [itS_add]; exact ht⟩
theorem low_6 (x : Int) : ((48385 * x + 31424) % 65536) % 128 = (x + 64) % 128 := by
  rw [Int.emod_emod_of_dvd _ (by decide : (128 : Int) ∣ 65536)]; omega
theorem reach_6 {x y : Int} (hx : 0 ≤ x ∧ x < 65536) (hy : 0 ≤ y ∧ y < 65536) (h : x % 64 = y % 64) : ∃ t, itS t x = y := by
  by_cases h2 : x % 128 = y % 128
  · exact reach_7 hx hy h2
  · obtain ⟨t, ht⟩ := reach_7 (itS_rng 32 hx) hy (by rw [it_32, low_6]; omega)
    exact ⟨32 + t, by rw [itS_add]; exact ht⟩
theorem low_5 (x : Int) : ((48769 * x + 50528) % 65536) % 64 = (x + 32) % 64 := by
  rw [Int.emod_emod_of_dvd _ (by decide : (64 : Int) ∣ 65536)]; omega
theorem reach_5 {x y : Int} (hx : 0 ≤ x ∧ x < 65536) (hy : 0 ≤ y ∧ y < 65536) (h : x % 32 = y % 32) : ∃ t, itS t x = y := by
  by_cases h2 : x % 64 = y % 64
  · exact reach_6 hx hy h2
  · obtain ⟨t, ht⟩ := reach_6 (itS_rng 16 hx) hy (by rw [it_16, low_5]; omega)
    exact ⟨16 + t, by rw [itS_add]; exact ht⟩
theorem low_4 (x : Int) : ((5953 * x + 58544) % 65536) % 32 = (x + 16) % 32 := by
  rw [Int.emod_emod_of_dvd _ (by decide : (32 : Int) ∣ 65536)]; omega
theorem reach_4 {x y : Int} (hx : 0 ≤ x ∧ x < 65536) (hy : 0 ≤ y ∧ y < 65536) (h : x % 16 = y % 16) : ∃ t, itS t x = y := by
  by_cases h2 : x % 32 = y % 32
  · exact reach_5 hx hy h2
  · obtain ⟨t, ht⟩ := reach_5 (itS_rng 8 hx) hy (by rw [it_8, low_4]; omega)
    exact ⟨8 + t, by rw [itS_add]; exact ht⟩
theorem low_3 (x : Int) : ((47521 * x + 33496) % 65536) % 16 = (x + 8) % 16 := by
  rw [Int.emod_emod_of_dvd _ (by decide : (16 : Int) ∣ 65536)]; omega
theorem reach_3 {x y : Int} (hx : 0 ≤ x ∧ x < 65536) (hy : 0 ≤ y ∧ y < 65536) (h : x % 8 = y % 8) : ∃ t, itS t x = y := by
  by_cases h2 : x % 16 = y % 16
  · exact reach_4 hx hy h2
  · obtain ⟨t, ht⟩ := reach_4 (itS_rng 4 hx) hy (by rw [it_4, low_3]; omega)
    exact ⟨4 + t, by rw [itS_add]; exact ht⟩
theorem low_2 (x : Int) : ((20561 * x + 54156) % 65536) % 8 = (x + 4) % 8 := by
  rw [Int.emod_emod_of_dvd _ (by decide : (8 : Int) ∣ 65536)]; omega
theorem reach_2 {x y : Int} (hx : 0 ≤ x ∧ x < 65536) (hy : 0 ≤ y ∧ y < 65536) (h : x % 4 = y % 4) : ∃ t, itS t x = y := by
  by_cases h2 : x % 8 = y % 8
  · exact reach_3 hx hy h2
  · obtain ⟨t, ht⟩ := reach_3 (itS_rng 2 hx) hy (by rw [it_2, low_2]; omega)
    exact ⟨2 + t, by rw [itS_add]; exact ht⟩
theorem low_1 (x : Int) : ((59401 * x + 33678) % 65536) % 4 = (x + 2) % 4 := by
  rw [Int.emod_emod_of_dvd _ (by decide : (4 : Int) ∣ 65536)]; omega
theorem reach_1 {x y : Int} (hx : 0 ≤ x ∧ x < 65536) (hy : 0 ≤ y ∧ y < 65536) (h : x % 2 = y % 2) : ∃ t, itS t x = y := by
  by_cases h2 : x % 4 = y % 4
  · exact reach_2 hx hy h2
  · obtain ⟨t, ht⟩ := reach_2 (itS_rng 1 hx) hy (by rw [it_1, low_1]; omega)
    exact ⟨1 + t, by rw [itS_add]; exact ht⟩

/-- The drawn variable, and whether it is negated. -/
def drV (vars s : Int) : Int := gS s / 16 % vars + 1
def drN (s : Int) : Bool := gS (gS s) / 16 % 2 == 1
def drL (vars s : Int) : Int := if drN s then -(drV vars s) else drV vars s
theorem drV_rng {vars s : Int} (hv : 1 ≤ vars) : 1 ≤ drV vars s ∧ drV vars s ≤ vars := by
  unfold drV
  have h1 := Int.emod_nonneg (gS s / 16) (show vars ≠ 0 by omega)
  have h2 := Int.emod_lt_of_pos (gS s / 16) (show 0 < vars by omega)
  omega
theorem draw_all {vars s v : Int} (hs : 0 ≤ s ∧ s < 65536) (hv : 1 ≤ v ∧ v ≤ vars) (hm : vars ≤ 1000) : ∃ t, drV vars (itS t s) = v := by
  have hg := gS_rng s
  obtain ⟨t, ht⟩ := reach_1 (x := gS s) (y := 16 * (v - 1) + gS s % 2) hg (by omega) (by omega)
  refine ⟨t, ?_⟩
  unfold drV
  rw [← itS_comm, ht]
  have h1 : (16 * (v - 1) + gS s % 2) / 16 = v - 1 := by omega
  rw [h1, Int.emod_eq_of_lt (by omega) (by omega)]
  omega
/-- Whether a variable is in a list of literals. -/
def hasV (L : List Int) (v : Int) : Bool := L.any fun l => absV l == v
theorem hasV_iff {L : List Int} {v : Int} : hasV L v = true ↔ ∃ l ∈ L, absV l = v := by unfold hasV; simp
theorem hasV_not {L : List Int} {v : Int} : hasV L v = false ↔ ∀ l ∈ L, absV l ≠ v := by unfold hasV; simp
/-- One round of the drawing of a clause. -/
def rndS (vars : Int) (p : Int × List Int) : Int × List Int := (gS (gS p.1), if hasV p.2 (drV vars p.1) then p.2 else p.2 ++ [drL vars p.1])
/-- So many rounds lead to q, a list of w literals. -/
def Runs (vars : Int) (w : Nat) (q : Int × List Int) : Nat → Int × List Int → Prop
  | 0, p => p.2.length = w ∧ p = q
  | m + 1, p => p.2.length < w ∧ Runs vars w q m (rndS vars p)
/-- Literals of different variables. -/
structure DistS (vars : Int) (L : List Int) : Prop where
  mem : ∀ l ∈ L, LitS l ∧ absV l ≤ vars
  diff : L.Pairwise fun a b => absV a ≠ absV b
theorem absV_pos {v : Int} (h : 1 ≤ v) : absV v = v := by unfold absV; rw [if_neg (by omega)]
theorem absV_neg' {v : Int} (h : 1 ≤ v) (h2 : v ≤ 1000) : absV (-v) = v := by rw [LitS.abs ⟨by omega, by omega, by omega⟩]; rw [if_pos (by omega)]; omega
theorem drL_abs {vars s : Int} (hv : 1 ≤ vars) (hm : vars ≤ 1000) : absV (drL vars s) = drV vars s := by
  have h := drV_rng (s := s) hv
  unfold drL
  split
  · exact absV_neg' h.1 (by omega)
  · exact absV_pos h.1
theorem drL_lit {vars s : Int} (hv : 1 ≤ vars) (hm : vars ≤ 1000) : LitS (drL vars s) := by
  have h := drV_rng (s := s) hv
  unfold drL LitS
  split <;> omega
theorem DistS.step {vars : Int} {L : List Int} {s : Int} (h : DistS vars L) (hv : 1 ≤ vars) (hm : vars ≤ 1000) (hn : hasV L (drV vars s) = false) : DistS vars (L ++ [drL vars s]) := by
  have hd := drV_rng (s := s) hv
  have ha := drL_abs (s := s) hv hm
  refine ⟨fun l hl => ?_, ?_⟩
  · rcases List.mem_append.1 hl with hl | hl
    · exact h.mem l hl
    · rw [List.mem_singleton] at hl; subst hl; exact ⟨drL_lit hv hm, by rw [ha]; exact hd.2⟩
  · rw [List.pairwise_append]
    refine ⟨h.diff, List.pairwise_singleton _ _, fun a ha' b hb => ?_⟩
    rw [List.mem_singleton] at hb; subst hb
    rw [ha]
    exact hasV_not.1 hn a ha'
/-- Some variable is still free. -/
theorem free_var {vars : Int} {L : List Int} (h : DistS vars L) (hl : (L.length : Int) < vars) : ∃ v, 1 ≤ v ∧ v ≤ vars ∧ hasV L v = false := by
  refine Classical.byContradiction fun hn => ?_
  have hall : ∀ i ∈ (List.range' 1 vars.toNat), i ∈ L.map fun l => (absV l).toNat := fun i hi => by
    rw [List.mem_range'_1] at hi
    cases hc : hasV L (i : Int) with
    | false => exact absurd ⟨(i : Int), by omega, by omega, hc⟩ hn
    | true =>
      obtain ⟨l, hl, e⟩ := hasV_iff.1 hc
      exact List.mem_map.2 ⟨l, hl, by rw [e]; rfl⟩
  have := List.Nodup.length_le_of_subset (List.nodup_range' (step := 1)) hall
  rw [List.length_range', List.length_map] at this
  omega
theorem runs_from {vars : Int} {w : Nat} (hv : 1 ≤ vars) (hm : vars ≤ 1000) (hw : (w : Int) ≤ vars) : ∀ (d : Nat) (s : Int) (L : List Int), 0 ≤ s ∧ s < 65536 → DistS vars L → L.length + d = w →
    ∃ m q, Runs vars w q m (s, L) ∧ DistS vars q.2 ∧ 0 ≤ q.1 ∧ q.1 < 65536 := by
  intro d
  induction d with
  | zero => exact fun s L hs hd hl => ⟨0, (s, L), ⟨by simpa using hl, rfl⟩, hd, hs⟩
  | succ d ih =>
    intro s L hs hd hl
    obtain ⟨v, hv1, hv2, hf⟩ := free_var hd (by omega)
    obtain ⟨t, ht⟩ := draw_all hs ⟨hv1, hv2⟩ hm
    induction t generalizing s with
    | zero =>
      have ht' : drV vars s = v := ht
      have hf' : hasV L (drV vars s) = false := by rw [ht']; exact hf
      obtain ⟨m, q, hr, hq⟩ := ih (gS (gS s)) (L ++ [drL vars s]) (gS_rng _) (hd.step hv hm hf') (by simp; omega)
      refine ⟨m + 1, q, ⟨by show L.length < w; omega, ?_⟩, hq⟩
      unfold rndS
      dsimp only
      rw [if_neg (by rw [hf']; simp)]
      exact hr
    | succ t iht =>
      cases hc : hasV L (drV vars s) with
      | false =>
        obtain ⟨m, q, hr, hq⟩ := ih (gS (gS s)) (L ++ [drL vars s]) (gS_rng _) (hd.step hv hm hc) (by simp; omega)
        refine ⟨m + 1, q, ⟨by show L.length < w; omega, ?_⟩, hq⟩
        unfold rndS
        dsimp only
        rw [if_neg (by rw [hc]; simp)]
        exact hr
      | true =>
        obtain ⟨m, q, hr, hq⟩ := iht (gS (gS s)) (gS_rng _) ht
        refine ⟨m + 1, q, ⟨by show L.length < w; omega, ?_⟩, hq⟩
        unfold rndS
        dsimp only
        rw [if_pos hc]
        exact hr
open Classical in
/-- What the drawing of a clause ends with. -/
noncomputable def nextS (vars : Int) (w : Nat) (s : Int) : Int × List Int := if h : ∃ q, ∃ m, Runs vars w q m (s, []) ∧ DistS vars q.2 ∧ 0 ≤ q.1 ∧ q.1 < 65536 then Classical.choose h else (s, [])
theorem nextS_spec {vars : Int} {w : Nat} {s : Int} (hv : 1 ≤ vars) (hm : vars ≤ 1000) (hw : (w : Int) ≤ vars) (hs : 0 ≤ s ∧ s < 65536) :
    (∃ m, Runs vars w (nextS vars w s) m (s, [])) ∧ DistS vars (nextS vars w s).2 ∧ 0 ≤ (nextS vars w s).1 ∧ (nextS vars w s).1 < 65536 := by
  obtain ⟨m, q, h⟩ := runs_from hv hm hw w s [] hs ⟨fun _ h => (by cases h), List.Pairwise.nil⟩ (by simp)
  have hx : ∃ q, ∃ m, Runs vars w q m (s, []) ∧ DistS vars q.2 ∧ 0 ≤ q.1 ∧ q.1 < 65536 := ⟨q, m, h⟩
  unfold nextS
  rw [dif_pos hx]
  obtain ⟨m2, h2, h3⟩ := Classical.choose_spec hx
  exact ⟨⟨m2, h2⟩, h3⟩
theorem runs_len {vars : Int} {w : Nat} {q : Int × List Int} : ∀ {m : Nat} {p : Int × List Int}, Runs vars w q m p → q.2.length = w
  | 0, _, h => by obtain ⟨h1, rfl⟩ := h; exact h1
  | m + 1, _, h => runs_len h.2
/-- The clauses of a seed, as drawn. -/
noncomputable def stateS (vars : Int) (w : Nat) (s : Int) : Nat → Int
  | 0 => s
  | k + 1 => (nextS vars w (stateS vars w s k)).1
noncomputable def listS (vars : Int) (w : Nat) (s : Int) (k : Nat) : List Int := (nextS vars w (stateS vars w s k)).2
theorem stateS_rng {vars : Int} {w : Nat} {s : Int} (hv : 1 ≤ vars) (hm : vars ≤ 1000) (hw : (w : Int) ≤ vars) (hs : 0 ≤ s ∧ s < 65536) : ∀ k, 0 ≤ stateS vars w s k ∧ stateS vars w s k < 65536
  | 0 => hs
  | k + 1 => (nextS_spec hv hm hw (stateS_rng hv hm hw hs k)).2.2
/-- The least number of rounds that is told. -/
theorem least_ex {P : Nat → Prop} (h : ∃ n, P n) : ∃ n, P n ∧ ∀ m, P m → n ≤ m := by
  obtain ⟨n, hn⟩ := h
  induction n using Nat.strongRecOn with
  | ind n ih =>
    by_cases hx : ∃ m, m < n ∧ P m
    · obtain ⟨m, h1, h2⟩ := hx; exact ih m h1 h2
    · exact ⟨n, hn, fun m hm => Nat.le_of_not_lt fun hl => hx ⟨m, hl, hm⟩⟩
open Classical in
noncomputable def leastM (P : Nat → Prop) : Nat := if h : ∃ n, P n ∧ ∀ m, P m → n ≤ m then Classical.choose h else 0
theorem leastM_spec {P : Nat → Prop} (h : ∃ n, P n) : P (leastM P) ∧ ∀ m, P m → leastM P ≤ m := by unfold leastM; rw [dif_pos (least_ex h)]; exact Classical.choose_spec (least_ex h)
theorem leastM_le {P : Nat → Prop} {n : Nat} (h : P n) : leastM P ≤ n := (leastM_spec ⟨n, h⟩).2 n h

theorem DistS.lit {vars : Int} {L : List Int} (h : DistS vars L) (_ : vars ≤ 1000) : ∀ x ∈ L, LitS x := fun x hx => (h.mem x hx).1
/-- The clause of literals of different variables. -/
theorem dist_clause {vars : Int} {L : List Int} (h : DistS vars L) (hm : vars ≤ 1000) : clauseR L = some (cptL L) ∧ GoodS (cptL L) ∧ (cptL L).length = L.length := by
  have hlit := h.lit hm
  have hneg : ∀ x ∈ L, -x ∉ L := fun x hx hn => by
    obtain ⟨i, hi, rfl⟩ := List.getElem_of_mem hx
    obtain ⟨j, hj, e⟩ := List.getElem_of_mem hn
    have hd := List.pairwise_iff_getElem.1 h.diff
    have hl := hlit _ (List.getElem_mem hi)
    have ha : absV L[j] = absV L[i] := by
      rw [e, LitS.abs hl, LitS.abs (show LitS (-L[i]) by unfold LitS at hl ⊢; omega)]
      unfold LitS at hl
      split <;> split <;> omega
    rcases Nat.lt_trichotomy i j with h1 | rfl | h1
    · exact hd i j hi hj h1 ha.symm
    · unfold LitS at hl; omega
    · exact hd j i hj hi h1 ha
  obtain ⟨h1, h2⟩ := clauseR_some hlit hneg
  refine ⟨h1, h2, ?_⟩
  have n1 : L.Nodup := h.diff.imp fun hab e => hab (by rw [e])
  have n2 : (cptL L).Nodup := h2.asc.imp fun hab e => by rw [e] at hab; unfold AscS at hab; omega
  have l1 := List.Nodup.length_le_of_subset n1 (l₂ := cptL L) fun x hx => cptL_mem.2 hx
  have l2 := List.Nodup.length_le_of_subset n2 (l₂ := L) fun x hx => cptL_mem.1 hx
  omega
/-- Literals put into their places, one by one: the same clause. -/
def foldJ (L : List Int) : List Int := L.foldl putB []
theorem foldJ_snoc (L : List Int) (l : Int) : foldJ (L ++ [l]) = putB (foldJ L) l := by unfold foldJ; rw [List.foldl_append]; rfl
theorem foldJ_mem : ∀ (L : List Int) {c : List Int} {x : Int}, x ∈ L.foldl putB c ↔ x ∈ c ∨ x ∈ L
  | [], c, x => by simp
  | l :: L, c, x => by rw [List.foldl_cons, foldJ_mem L, memS_putB, List.mem_cons, or_comm (a := x = l), or_assoc]
theorem foldJ_iff {L : List Int} {x : Int} : x ∈ foldJ L ↔ x ∈ L := by unfold foldJ; rw [foldJ_mem]; simp
theorem DistS.pre {vars : Int} {L M : List Int} (h : DistS vars (L ++ M)) : DistS vars L := ⟨fun l hl => h.mem l (List.mem_append_left _ hl), (List.pairwise_append.1 h.diff).1⟩
theorem foldJ_good {vars : Int} : ∀ {L : List Int}, DistS vars L → vars ≤ 1000 → GoodS (foldJ L) := by
  intro L h hm
  generalize hn : L.length = n
  induction n generalizing L with
  | zero => rw [List.length_eq_zero_iff.1 hn]; exact ⟨fun _ h => (by cases h), List.Pairwise.nil⟩
  | succ n ih =>
    obtain ⟨M, l, rfl⟩ : ∃ M l, L = M ++ [l] := ⟨L.dropLast, L.getLast (by intro e; rw [e] at hn; cases hn), (List.dropLast_concat_getLast _).symm⟩
    rw [foldJ_snoc]
    refine (ih h.pre (by simpa using hn)).put (h.lit hm l (by simp)) fun y hy => ?_
    exact (List.pairwise_append.1 h.diff).2.2 y (foldJ_iff.1 hy) l (by simp)
theorem foldJ_eq {vars : Int} {L : List Int} (h : DistS vars L) (hm : vars ≤ 1000) : foldJ L = cptL L :=
  (foldJ_good h hm).ext (dist_clause h hm).2.1 fun x => by rw [foldJ_iff, cptL_mem]
theorem dist_top {vars : Int} {L : List Int} (h : DistS vars L) (hm : vars ≤ 1000) : ∀ l ∈ cptL L, -vars ≤ l ∧ l ≤ vars := fun l hl => by
  have h1 := h.mem l (cptL_mem.1 hl)
  have h2 := LitS.abs (h.lit hm l (cptL_mem.1 hl))
  split at h2 <;> omega
end Go.Proofs.YtnfjgebfmnpkbaaGreat

/- Contract: the chooser of the seeded Cnfs, in the program. -/
namespace Go.Proofs.YtnfjgebfmnpkbaaGreat
open Go.RowKit

/- left out: the seat has no impl.chooser -/
end Go.Proofs.YtnfjgebfmnpkbaaGreat

/- Contract: the seeded Cnf, in the program. -/
namespace Go.Proofs.YtnfjgebfmnpkbaaGreat
open Go.RowKit

/-- The clauses of a seed. -/
noncomputable def seedL (vars : Int) (wd : Nat) (s : Int) (k : Nat) : List (List Int) := (List.range k).map fun i => cptL (listS vars wd s i)
theorem seedL_succ (vars : Int) (wd : Nat) (s : Int) (k : Nat) : seedL vars wd s (k + 1) = seedL vars wd s k ++ [cptL (listS vars wd s k)] := by unfold seedL; rw [List.range_succ, List.map_append]; rfl
theorem seedL_next (vars : Int) (wd : Nat) (s : Int) (k : Nat) : seedL vars wd s (k + 1) = seedL vars wd s k ++ [cptL (nextS vars wd (stateS vars wd s k)).2] := seedL_succ vars wd s k
theorem stateS_succ (vars : Int) (wd : Nat) (s : Int) (k : Nat) : stateS vars wd s (k + 1) = (nextS vars wd (stateS vars wd s k)).1 := rfl
theorem leastM_pick {P : Nat → Prop} (h : ∃ n, P n) : ∃ M, P M ∧ leastM P = M := ⟨_, (leastM_spec h).1, rfl⟩
theorem seedL_len (vars : Int) (wd : Nat) (s : Int) (k : Nat) : (seedL vars wd s k).length = k := by simp [seedL]

/- left out: the seat has no impl.chooser -/

theorem has_used {vars : Int} {L : List Int} (h : DistS vars L) (hv : vars ≤ 12) (v : Int) (h1 : 1 ≤ v ∧ v ≤ vars) : hasI (varF 12 (usedB [L])) v = hasV L v := by
  rw [Bool.eq_iff_iff, hasS_iff, varF_mem, hasV_iff]
  unfold usedB
  simp only [List.any_cons, List.any_nil, Bool.or_false, List.any_eq_true, beq_iff_eq]
  constructor
  · rintro ⟨-, -, l, hl, e⟩
    exact ⟨l, hl, by rw [absV_lit (h.mem l hl).1]; omega⟩
  · rintro ⟨l, hl, e⟩
    rw [absV_lit (h.mem l hl).1] at e
    exact ⟨by omega, by omega, l, hl, by omega⟩

/-- Whether a seeded Cnf is asked for as it may be. -/
def seedOk (vars cl wd sd : Int) : Bool := inB vars 1 12 && inB cl 0 60 && inB wd 1 vars && inB sd 0 9999
/- left out: the seat has no impl.SeededCnf -/
end Go.Proofs.YtnfjgebfmnpkbaaGreat

/- Contract: the seeded Cnf, in the reference. -/
namespace Go.Proofs.YtnfjgebfmnpkbaaGreat
open Go.RowKit

/-- The drawing of a clause under way in the reference. -/
def SeRel2 (w : World) (vars : Int) (wd : Nat) (q : Int × List Int) (ps : List Asn) (m : Nat) (v u : Value) (W : World) : Prop :=
  ∃ st L C D dc, v = .int .i64 st ∧ u = .slice D C.length dc ∧ Hid (C = foldJ L) ∧ Runs vars wd q m (st, L) ∧ DistS vars L ∧ (0 ≤ st ∧ st < 65536) ∧ Sp w W (Own 3 1 (.slice D C.length dc) C.length (C.map (.int .i64)) :: ps)

theorem has_fold {vars : Int} {L : List Int} (h : DistS vars L) (v : Int) (h1 : 1 ≤ v) : hasV L v = (hasI (foldJ L) v || hasI (foldJ L) (-v)) := by
  rw [Bool.eq_iff_iff, hasV_iff, Bool.or_eq_true, hasS_iff, hasS_iff, foldJ_iff, foldJ_iff]
  constructor
  · rintro ⟨l, hl, e⟩
    rw [LitS.abs (h.mem l hl).1] at e
    split at e
    · right; rw [← e]; simpa using hl
    · left; rw [← e]; exact hl
  · rintro (hl | hl)
    · exact ⟨v, hl, by rw [LitS.abs (h.mem v hl).1, if_neg (by omega)]⟩
    · exact ⟨-v, hl, by rw [LitS.abs (h.mem _ hl).1, if_pos (by omega)]; omega⟩
theorem fold_len {vars : Int} {L : List Int} (h : DistS vars L) (hm : vars ≤ 1000) : (foldJ L).length = L.length := by rw [foldJ_eq h hm, (dist_clause h hm).2.2]

/- left out: the seat has no spec.SeededCnf -/
end Go.Proofs.YtnfjgebfmnpkbaaGreat

/- Contracts: a clause of literals in any order, put behind the others, in the reference. -/
namespace Go.Proofs.YtnfjgebfmnpkbaaGreat
open Go.RowKit

theorem putB_len (c : List Int) (l : Int) : (putB c l).length = c.length + 1 := by
  unfold putB
  rw [List.length_append, List.length_cons, List.length_take, List.length_drop]; omega
theorem foldl_putB_len : ∀ (L c : List Int), (L.foldl putB c).length = c.length + L.length
  | [], c => by simp
  | l :: L, c => by rw [List.foldl_cons, foldl_putB_len L, putB_len, List.length_cons]; omega
theorem foldJ_len (L : List Int) : (foldJ L).length = L.length := by unfold foldJ; rw [foldl_putB_len]; simp
theorem dist_within {L : List Int} (h : DistS 1000 L) : Within 1000 L := fun x hx => ⟨(h.mem x hx).1.2.1, (h.mem x hx).1.2.2⟩
theorem fold_take {zs : List Int} (h : DistS 1000 zs) {k : Nat} (hk : k < zs.length) : joinS (foldJ (zs.take k)) [zs[k]] = some (foldJ (zs.take (k + 1))) := by
  rw [List.take_succ_eq_append_getElem hk, foldJ_snoc]
  have hd := List.pairwise_iff_getElem.1 h.diff
  have hz := (h.mem zs[k] (List.getElem_mem hk)).1
  have hno : ∀ y, y ∈ zs.take k → absV y ≠ absV zs[k] := fun y hy => by
    obtain ⟨j, hj, rfl⟩ := List.getElem_of_mem hy
    rw [List.length_take] at hj
    rw [List.getElem_take]
    exact hd j k (by omega) hk (by omega)
  have hneg : absV (-zs[k]) = absV zs[k] := by
    rw [LitS.abs hz, LitS.abs (show LitS (-zs[k]) by unfold LitS at hz ⊢; omega)]
    unfold LitS at hz
    split <;> split <;> omega
  rw [joinS_put (hasS_not.2 fun hm => hno _ (foldJ_iff.1 hm) hneg) (hasS_not.2 fun hm => hno _ (foldJ_iff.1 hm) rfl)]
  rfl

set_option maxRecDepth 100000 in
set_option maxHeartbeats 4000000 in
theorem l2OfD_any (zs : List Int) (A : Option Addr) (cap : Nat) (w : World) (hx : IntsAt w A zs) (hg : DistS 1000 zs) (hl : zs.length ≤ 1000) :
    Calls Tryz.prog 67 #[.slice A zs.length cap] w (OAns w true (foldJ zs)) := by
  have S0 := Lib.hid ((Sp.start w).own_made 3 1)
  have hX := Lib.hid hx
  have hG := Lib.hid hg
  have hcat : Hid (∀ k (hk : k < zs.length), joinS (foldJ (zs.take k)) [zs[k]] = some (foldJ (zs.take (k + 1)))) := fun k hk => fold_take hg hk
  clear hx hg
  go_enter Tryz.func67, Tryz.ntmps67
  go_wp2_with fail
  go_loopw [4, 5] (fun v4 v5 wr => ∃ (k : Nat) (D : Option Addr) (dc : Nat) (ys : List Int), k ≤ zs.length ∧ v5 = .int .i64 k ∧ v4 = .slice D ys.length dc ∧ Hid (ys = foldJ (zs.take k)) ∧ Hid (Sp w wr [Own 3 1 (.slice D ys.length dc) ys.length (ys.map (.int .i64))])) (fun _ v5 _ => zs.length - (intOf v5).toNat)
  case atStart => exact ⟨0, _, 0, [], Nat.zero_le _, rfl, rfl, rfl, S0⟩
  case round =>
    clear S0
    obtain ⟨k, D, dc, ys, hk, rfl, rfl, hys, HS⟩ := hrel
    by_cases hlt : k < zs.length
    · obtain ⟨ab, aoff, hA, m0⟩ := (hX.out.grow HS.out.below).at_ k hlt
      subst hA
      have hzi : Hid (∀ x ∈ zs, I64 x) := fun x hx => (hG.out.mem x hx).1.i64
      have hcatk := hcat.out k hlt
      have hwz : Hid (Within 1000 [zs[k]]) := fun x hx => by
        have e : x = zs[k] := by simpa using hx
        rw [e]; exact dist_within hG.out _ (List.getElem_mem hlt)
      have hwy : Hid (Within 1000 ys) := fun x hx => by
        rw [hys.out] at hx; exact dist_within hG.out x (List.mem_of_mem_take (foldJ_iff.1 hx))
      have hyl : Hid (ys.length ≤ 1000) := by unfold Hid; rw [hys.out, foldJ_len, List.length_take]; omega
      have hzk := hzi.out _ (List.getElem_mem hlt)
      rw [← hys.out] at hcatk
      replace hcatk := Lib.hid hcatk
      generalize zs[k] = z at *
      have S1 := HS.out.alloc_box #[.int .i64 z] 3
      have hu : Ty.int.row false (wr.alloc (.cells #[.int .i64 z] 3)) (.slice (some ⟨wr.heap.size, 0, none⟩) 1 1) [z] [wr.heap.size] :=
        row_int_mk (xs := [z]) (fun x hx => by have e : x = z := by simpa using hx
                                               rw [e]; exact hzk) (by simp) (by omega) (by simp) (fun j hj => by
          have e : j = 0 := by simpa using hj
          subst e
          exact ⟨S1.cell (i := 0) rfl (o := 0) rfl, fun h => by cases h⟩)
      obtain ⟨F1, hr1, -, -⟩ := own_row (S1.own (i := 1) rfl) (fun x hx => by have := hwy.out x hx; unfold I64; omega)
      have hcall := l2JoinO_any _ _ ys [z] F1 _ _ (Ty.row_down hr1) hu hwy.out hwz.out hyl.out (by simp)
      rw [hcatk.out, Option.isSome_some, Option.getD_some] at hcall
      replace hcall := Lib.hid hcall
      replace S1 := Lib.hid S1
      clear HS hr1 hu hcat hcatk hzk hwz hwy
      generalize hnx : foldJ (zs.take (k + 1)) = ys2 at *
      replace hnx := Lib.hid hnx
      go_wp2_with fail
      refine hcall.out.mono ?_
      rintro e w2 ⟨D2, dc2, rfl, T⟩
      have S2 := Lib.hid ((Sp.start w).grow S1.out.below |>.seq T)
      clear hcall S1 T
      go_wp2_with fail
      go_roundw
      case rel => exact ⟨k + 1, D2, dc2, ys2, by omega, by go_num, rfl, hnx.out.symm, S2⟩
      case measure => simp [intOf]; omega
    · obtain rfl : k = zs.length := by omega
      have e1 : Hid (ys = foldJ zs) := by have := hys.out; rwa [List.take_length] at this
      go_wp2_with fail
      go_ret2
      rw [← e1.out]
      exact ⟨D, dc, rfl, HS.out⟩

set_option maxRecDepth 100000 in
set_option maxHeartbeats 8000000 in
theorem l4AddD_any (vars : Int) (B : Option Addr) (c : Nat) (cs : List Value) (xss : List (List Int)) (ps : List Asn) (w0 W : World) (zs : List Int) (A : Option Addr) (cap : Nat) (R : List Int) (hcl : ∀ W', Below W.heap.size W W' → Calls Tryz.prog 67 #[.slice A zs.length cap] W' (OAns W' true R)) (hI0 : ∀ x ∈ R, I64 x) (hm : xss.length ≤ 61)
    (S : Sp w0 W (Rows Ty.int 33 (.slice B xss.length c) cs xss :: ps)) :
    Calls Tryz.prog 48 #[.agg #[.int .i64 vars, .slice B xss.length c], .slice A zs.length cap] W (AddP w0 ps vars (capL 60 (xss ++ [R]))) := by
  have S0 := (S.alloc_box #[.int .i64 vars, .slice B xss.length c] 29).alloc_box #[.int .i64 0, .slice none 0 0] 29
  simp only [World.size_alloc] at S0
  have a0 := S0.cell (i := 1) rfl (o := 0) rfl
  have a1 := S0.cell (i := 1) rfl (o := 1) rfl
  by_cases hf : xss.length ≤ 60
  · have d0 : decide ((xss.length : Int) ≤ 60) = true := decide_eq_true (by omega)
    rw [capL_all (X := xss ++ [R]) (by simp; omega)]
    obtain ⟨i1, hi, hz0, hz1, hz2⟩ := info_parts infoRow
    have hBW := bal (bal (bb W) (.cells #[.int .i64 vars, .slice B xss.length c] 29)) (.cells #[.int .i64 0, .slice none 0 0] 29)
    have hcall := Lib.hid (hcl _ hBW)
    clear hBW
    have hI : Hid (∀ x ∈ R, I64 x) := hI0
    replace S0 := Lib.hid S0
    clear hcl hI0 S
    go_enter Tryz.func48, Tryz.ntmps48
    go_wp2_with fail
    refine hcall.out.mono ?_
    rintro e w2 ⟨D, dc, rfl, T⟩
    have S1 := Sp.own_to_row (S0.out.seq T) hI.out
    have b0 := S1.cell (i := 2) rfl (o := 0) rfl
    have b1 := S1.cell (i := 2) rfl (o := 1) rfl
    have S2 := S1.alloc_box #[.slice D R.length dc] 33
    have kB := S2.cell (i := 0) rfl (o := 0) rfl
    have hrows := Lib.hid (S2.rows (i := 4) rfl)
    replace S1 := Lib.hid S1
    clear S0 T hcall a0 a1 S2
    go_wp2_with (at_builtin; refine wpList_append_src rfl _ _ rfl Tryz.underlying24 hi hz0 hz1 hz2 rfl (by decide) _ xss.length _ rfl hrows.out _ 1 1 [.slice D R.length dc] rfl (Src.one kB) (by simp [Value.oneCell']) ?c3 ?c4 ?_)
    case c3 => unfold maxLen; omega
    case c4 => omega
    intro vY wY hownY hgY hatY
    have S4 := ((S1.out.bring (i := 3) rfl).swap).rows_push (bal (bb _) _) hownY hgY (by simpa using hatY)
    obtain ⟨aY, cY, rfl⟩ := own_slice hownY
    have hlen : xss.length + 1 = (xss ++ [R]).length := by simp
    rw [hlen] at S4 ⊢
    clear S1 hrows hownY hgY hatY kB b0 b1 hlen
    generalize xss ++ [R] = yss at *
    have f1 := S4.frozen (i := 2) rfl 1
    have g0 := S4.cell (i := 2) rfl (o := 0) rfl
    have g1 := S4.cell (i := 2) rfl (o := 1) rfl
    have S5 := S4.store (i := 2) rfl 1 (.slice aY yss.length cY)
    have h0 := S5.cell (i := 2) rfl (o := 0) rfl
    have h1 := S5.cell (i := 2) rfl (o := 1) rfl
    have r0 := S5.cell (i := 1) rfl (o := 0) rfl
    have r1 := S5.cell (i := 1) rfl (o := 1) rfl
    have q0 := S5.frozen (i := 1) rfl 0
    have q1 := S5.frozen (i := 1) rfl 1
    have SF := (S5.store (i := 1) rfl 0 (.int .i64 vars)).store (i := 1) rfl 1 (.slice aY yss.length cY)
    have j0 := SF.cell (i := 1) rfl (o := 0) rfl
    have j1 := SF.cell (i := 1) rfl (o := 1) rfl
    have SG := Lib.hid (show Sp w0 _ (Rows Ty.int 33 (.slice aY yss.length cY) _ yss :: ps) from SF.drop2w.drop2w)
    clear S4 S5 SF
    go_wp2_with fail
    exact bodyPost_ret (v := .agg #[.int .i64 vars, .slice aY yss.length cY]) (by simp [results, Tryz.results48, go_sem, j0, j1]) rfl ⟨aY, cY, _, rfl, SG.out⟩
  · have d0 : decide ((xss.length : Int) ≤ 60) = false := decide_eq_false (by omega)
    have e1 : capL 60 (xss ++ [R]) = xss := by rw [capL_over (X := xss) (by rw [capL_all (by omega)]; omega), capL_all (by omega)]
    rw [e1]
    have SF := (S.alloc_box #[.int .i64 vars, .slice B xss.length c] 29).alloc_box #[.int .i64 vars, .slice B xss.length c] 29
    simp only [World.size_alloc] at SF
    have j0 := SF.cell (i := 0) rfl (o := 0) rfl
    have j1 := SF.cell (i := 0) rfl (o := 1) rfl
    have SG : Hid (Sp w0 _ (Rows Ty.int 33 (.slice B xss.length c) cs xss :: ps)) := SF.tail.tail
    clear S0 SF S hcl hI0 e1
    go_enter Tryz.func48, Tryz.ntmps48
    go_wp2_with fail
    exact bodyPost_ret (v := .agg #[.int .i64 vars, .slice B xss.length c]) (by simp [results, Tryz.results48, go_sem, j0, j1]) rfl ⟨B, c, cs, rfl, SG.out⟩
end Go.Proofs.YtnfjgebfmnpkbaaGreat

/- Plain facts: the clauses of a coloring; edges as they lie. -/
namespace Go.Proofs.YtnfjgebfmnpkbaaGreat
open Go.RowKit

/-- A node's clause, an edge's clause, the clauses of a coloring. -/
def colC (k i : Nat) : List Int := (List.range k).map fun (c : Nat) => (i : Int) * k + ((c : Int) + 1)
def colP (k : Nat) (e : Int × Int) (c : Int) : List Int := [-((e.1 - 1) * k + c), -((e.2 - 1) * k + c)]
def edgeV (n : Int) (e : Int × Int) : Bool := inB e.1 1 n && inB e.2 1 n && !(e.1 == e.2)
def colE1 (k : Nat) (e : Int × Int) (m : Nat) : List (List Int) := (List.range m).map fun (c : Nat) => cptL (colP k e ((c : Int) + 1))
def colN (k m : Nat) : List (List Int) := (List.range m).map (colC k)
def colL (n k : Nat) (es : List (Int × Int)) (m : Nat) : List (List Int) := colN k n ++ (es.take m).flatMap fun e => colE1 k e k
theorem colN_succ (k m : Nat) : colN k (m + 1) = colN k m ++ [colC k m] := by unfold colN; rw [List.range_succ, List.map_append]; rfl
theorem colN_len (k m : Nat) : (colN k m).length = m := by simp [colN]
theorem colE1_succ (k : Nat) (e : Int × Int) (m : Nat) : colE1 k e (m + 1) = colE1 k e m ++ [cptL (colP k e ((m : Int) + 1))] := by unfold colE1; rw [List.range_succ, List.map_append]; rfl
theorem colE1_len (k : Nat) (e : Int × Int) (m : Nat) : (colE1 k e m).length = m := by simp [colE1]
theorem colL_zero (n k : Nat) (es : List (Int × Int)) : colL n k es 0 = colN k n := by simp [colL]
theorem colL_succ (n k : Nat) (es : List (Int × Int)) (m : Nat) (hm : m < es.length) : colL n k es (m + 1) = colL n k es m ++ colE1 k es[m] k := by
  unfold colL
  rw [List.take_succ_eq_append_getElem hm, List.flatMap_append, List.append_assoc]; simp
theorem colL_len {n k : Nat} (es : List (Int × Int)) : ∀ m, m ≤ es.length → (colL n k es m).length = n + m * k
  | 0, _ => by rw [colL_zero, colN_len]; simp
  | m + 1, h => by
    rw [colL_succ n k es m (by omega), List.length_append, colL_len es m (by omega), colE1_len, Nat.succ_mul]; omega
theorem mul_le12 {i k : Nat} (hi : i ≤ 12) (hk : k ≤ 12) : 0 ≤ (i : Int) * k ∧ (i : Int) * k ≤ 144 := by
  have h1 : i * k ≤ 12 * 12 := Nat.mul_le_mul hi hk
  have h2 : ((i * k : Nat) : Int) = (i : Int) * k := Int.natCast_mul i k
  omega
theorem colC_good {k i : Nat} (hk : k ≤ 12) (hi : i ≤ 12) : GoodS (colC k i) := by
  have hb := mul_le12 hi hk
  unfold colC
  generalize (i : Int) * k = z at hb
  constructor
  · intro l hl
    obtain ⟨c, hc, rfl⟩ := List.mem_map.1 hl
    have := List.mem_range.1 hc
    unfold LitS; omega
  · rw [List.pairwise_map]
    refine List.pairwise_lt_range.imp_of_mem fun {a b} ha hb' hab => ?_
    have h1 := List.mem_range.1 ha
    have h2 := List.mem_range.1 hb'
    unfold AscS
    rw [LitS.abs (show LitS (z + ((a : Int) + 1)) by unfold LitS; omega), LitS.abs (show LitS (z + ((b : Int) + 1)) by unfold LitS; omega)]
    split <;> split <;> omega
theorem edgeV_iff {n : Int} {e : Int × Int} : edgeV n e = true ↔ (1 ≤ e.1 ∧ e.1 ≤ n) ∧ (1 ≤ e.2 ∧ e.2 ≤ n) ∧ e.1 ≠ e.2 := by
  unfold edgeV inB
  simp only [Bool.and_eq_true, decide_eq_true_eq, Bool.not_eq_true', beq_eq_false_iff_ne]
  omega
theorem mul_box {a : Int} {k : Nat} (h1 : 1 ≤ a) (h2 : a ≤ 12) (hk : k ≤ 12) : 0 ≤ (a - 1) * (k : Int) ∧ (a - 1) * (k : Int) ≤ 132 := by
  obtain ⟨i, hi⟩ : ∃ i : Nat, a - 1 = i := ⟨(a - 1).toNat, by omega⟩
  rw [hi]
  have h3 : i * k ≤ 11 * 12 := Nat.mul_le_mul (by omega) hk
  have h4 : ((i * k : Nat) : Int) = (i : Int) * k := Int.natCast_mul i k
  omega
theorem mul_ne {a b c : Int} {k : Nat} (h : a ≠ b) (hk : 1 ≤ k) : (a - 1) * (k : Int) + c ≠ (b - 1) * k + c := by
  intro e
  have h1 : (a - 1) * (k : Int) = (b - 1) * k := by omega
  have h2 := Int.eq_of_mul_eq_mul_right (show (k : Int) ≠ 0 by omega) h1
  omega
theorem colP_dist {n : Int} {k : Nat} {e : Int × Int} {c : Int} (h : edgeV n e = true) (hn : n ≤ 12) (hk : 1 ≤ k ∧ k ≤ 12) (hc : 1 ≤ c ∧ c ≤ k) : DistS 1000 (colP k e c) := by
  obtain ⟨h1, h2, h3⟩ := edgeV_iff.1 h
  have b1 := mul_box h1.1 (by omega) hk.2
  have b2 := mul_box h2.1 (by omega) hk.2
  have hne := mul_ne (c := c) h3 hk.1
  unfold colP
  generalize (e.1 - 1) * (k : Int) = x at *
  generalize (e.2 - 1) * (k : Int) = y at *
  have l1 : LitS (-(x + c)) := by unfold LitS; omega
  have l2 : LitS (-(y + c)) := by unfold LitS; omega
  have a1 : absV (-(x + c)) = x + c := by rw [LitS.abs l1, if_pos (by omega)]; omega
  have a2 : absV (-(y + c)) = y + c := by rw [LitS.abs l2, if_pos (by omega)]; omega
  refine ⟨fun l hl => ?_, ?_⟩
  · simp only [List.mem_cons, List.mem_nil_iff, or_false] at hl
    rcases hl with rfl | rfl
    · exact ⟨l1, by rw [a1]; omega⟩
    · exact ⟨l2, by rw [a2]; omega⟩
  · simp only [List.pairwise_cons, List.mem_singleton, forall_eq, List.mem_nil_iff, false_implies, implies_true, List.Pairwise.nil, and_true]
    rw [a1, a2]; exact hne
/-- Whether the edges are as they may be, and what a coloring gives. -/
def colB (n k : Nat) (es : List (Int × Int)) : Bool := es.all (edgeV n) && goodB (n * k) (colL n k es es.length)
def colV (n k : Nat) (es : List (Int × Int)) : Int := if colB n k es then (n : Int) * k else 0
def colY (n k : Nat) (es : List (Int × Int)) : List (List Int) := if colB n k es then colL n k es es.length else []
/-- Edges as they lie. -/
structure EdgesAt (w : World) (A : Option Addr) (es : List (Int × Int)) : Prop where
  at_ : ∀ j (hj : j < es.length), ∃ b off, A = some ⟨b, off, none⟩ ∧ w.cell? ⟨b, off + j * 2, none⟩ = some (.int .i64 es[j].1) ∧ w.cell? ⟨b, off + j * 2 + 1, none⟩ = some (.int .i64 es[j].2)
  ok : ∀ e ∈ es, I64 e.1 ∧ I64 e.2
theorem EdgesAt.grow {w w' : World} {A : Option Addr} {es : List (Int × Int)} (h : EdgesAt w A es) (hb : Below w.heap.size w w') : EdgesAt w' A es := by
  refine ⟨fun j hj => ?_, h.ok⟩
  obtain ⟨b, off, e, h1, h2⟩ := h.at_ j hj
  exact ⟨b, off, e, (hb.cell (World.block_lt_of_cell? _ _ h1)).trans h1, (hb.cell (World.block_lt_of_cell? _ _ h2)).trans h2⟩
end Go.Proofs.YtnfjgebfmnpkbaaGreat

/- Contracts: the draws of FnSeeded. -/
namespace Go.Proofs.YtnfjgebfmnpkbaaGreat
open Go.RowKit

section
variable {w0 w w' w1 : World} {g cl cc A A' : Nat} {ca : Option Addr} {ps qs : List Asn}
theorem seCur_new (hc : CodeOk w ca cl) (hs : cl ≤ 65536) : CurIs 0 w.heap.size ca cl cc (w.alloc (.cells #[.slice ca cl cc, .int .i64 0, .int .u64 0] 62)) :=
  (((Sp.start w).new (q := CurA 0 w.heap.size ca cl cc) (bal (bb _) (.cells #[.slice ca cl cc, .int .i64 0, .int .u64 0] 62)) (F := [w.heap.size]) ⟨rfl, 0, 0, heap_alloc_new w _, Nat.le_refl 0, Int.le_refl 0, by omega⟩ (by simp)).cur (A' := 0) (i := 0) rfl hc hs).1
theorem seCs_sp {w w1 w' : World} {g cl cc A : Nat} {ca : Option Addr} {ps : List Asn} (h : CS w1 g ca cl cc A w' ps) (hb : Below w.heap.size w w1) (hg : w.heap.size ≤ g) : Sp w w' ps := by
  have hc := h.chg
  obtain ⟨_, _, _, F, h3, h4⟩ := h
  exact ⟨hb.trans (hc.below hb.size (by simpa using hg)), F, h3, fun b hm => Nat.le_trans hb.size (h4 b hm)⟩
/-- One of some numbers. -/
theorem among_cs {lo hi : Int} (xs : List Int) (S : CS w0 g ca cl cc A w ps) (hA : A ≤ 100000) (h0 : 0 < xs.length) (h1 : xs.length ≤ 1000) (hx : ∀ x ∈ xs, lo ≤ x ∧ x ≤ hi) :
    Calls Tryz.prog 54 #[.pointer (some ⟨g, 0, none⟩), .slice (some ⟨w.heap.size, 0, none⟩) xs.length xs.length] (w.alloc (.cells (xs.map (Value.int .i64)).toArray 3))
      fun e w' => ∃ x : Int, (lo ≤ x ∧ x ≤ hi) ∧ e = .returned (.int .i64 x) ∧ CS w0 g ca cl cc (A + 2) w' ps := by
  have hg := S.cur.lt
  refine (cur_among lo hi w.heap.size 0 xs.length xs.length A g ca cl cc _ (S.cur.grow (bal (bb _) _)) (by omega) h0 (by omega) (ints_new rfl fun j hj => ⟨xs[j], by simp [List.getElem?_eq_getElem hj], (hx _ (List.getElem_mem hj)).1, (hx _ (List.getElem_mem hj)).2⟩) (by omega)).mono ?_
  rintro e w1 ⟨_, ⟨n, hn0, hn1, rfl⟩, rfl, hi1, hc1⟩
  exact ⟨n, ⟨hn0, hn1⟩, rfl, (S.alloc _).turn hi1 hc1⟩
end
theorem mostE_any (b : Int) (w : World) : Calls Tryz.prog 34 #[.int .i64 1, .int .i64 b] w fun e w' => e = .returned (.int .i64 (if b < 1 then 1 else b)) ∧ w = w' := by
  by_cases h : b < 1
  · have d1 : decide (b < 1) = true := decide_eq_true h
    rw [if_pos h]
    go_enter Tryz.func34, Tryz.ntmps34
    go_wp2_with fail
    go_ret
    exact ⟨rfl, rfl⟩
  · have d1 : decide (b < 1) = false := decide_eq_false h
    rw [if_neg h]
    go_enter Tryz.func34, Tryz.ntmps34
    go_wp2_with fail
    go_ret
    exact ⟨rfl, rfl⟩

/- left out: the seat has no spec.DrawSeededCnf -/
end Go.Proofs.YtnfjgebfmnpkbaaGreat

/- Contracts: pyramids and paths, weakly, in the reference. -/
namespace Go.Proofs.YtnfjgebfmnpkbaaGreat
open Go.RowKit

abbrev OwnL (D : Option Addr) (dc : Nat) (xs : List Int) : Asn := Own 3 1 (.slice D xs.length dc) xs.length (xs.map (.int .i64))
/-- A list of the draw, as it lies. -/
structure Lst where
  D : Option Addr
  d : Nat
  xs : List Int
def Lst.hd (t : Lst) : Value := .slice t.D t.xs.length t.d
def Lst.row (t : Lst) : Asn := OwnL t.D t.d t.xs
def LstOk (k m : Nat) (ks : List Lst) : Prop := ks.length ≤ k ∧ ∀ t ∈ ks, t.xs.length ≤ m ∧ ∀ x ∈ t.xs, I64 x
abbrev LRow (B : Option Addr) (c : Nat) (ks : List Lst) : Asn := Own 33 1 (.slice B ks.length c) ks.length (ks.map Lst.hd)
theorem LstOk.push {k m : Nat} {ks : List Lst} {t : Lst} (h : LstOk k m ks) (h1 : t.xs.length ≤ m) (h2 : ∀ x ∈ t.xs, I64 x) : LstOk (k + 1) m (ks ++ [t]) :=
  ⟨by rw [List.length_append]; exact Nat.succ_le_succ h.1, fun s hs => by
    rcases List.mem_append.1 hs with hs | hs
    · exact h.2 s hs
    · obtain rfl := List.mem_singleton.1 hs; exact ⟨h1, h2⟩⟩
theorem LstOk.put {k m m' i : Nat} {ks : List Lst} {t : Lst} (h : LstOk k m ks) (hm : m ≤ m') (h1 : t.xs.length ≤ m') (h2 : ∀ x ∈ t.xs, I64 x) : LstOk k m' (ks.set i t) :=
  ⟨by rw [List.length_set]; exact h.1, fun s hs => by
    rcases List.mem_or_eq_of_mem_set hs with hs | rfl
    · exact ⟨Nat.le_trans (h.2 s hs).1 hm, (h.2 s hs).2⟩
    · exact ⟨h1, h2⟩⟩
theorem LstOk.more {k k' m m' : Nat} {ks : List Lst} (h : LstOk k m ks) (hk : k ≤ k') (hm : m ≤ m') : LstOk k' m' ks := ⟨Nat.le_trans h.1 hk, fun s hs => ⟨Nat.le_trans (h.2 s hs).1 hm, (h.2 s hs).2⟩⟩
section
variable {w0 w w' w1 : World} {g cl cc A A' i : Nat} {ca : Option Addr} {ps : List Asn} {q : Asn}
theorem CS.bring (h : CS w0 g ca cl cc A w ps) (hi : ps[i]? = some q) : CS w0 g ca cl cc A w (q :: ps.eraseIdx i) := by
  obtain ⟨h0, h1, h2, F, h3, h4⟩ := h
  obtain ⟨F', h5, h6⟩ := sep_bring h3 hi
  exact ⟨h0, h1, h2, F', h5, fun b hb => h4 b (h6 b hb)⟩
theorem CS.own_two (h : CS w0 g ca cl cc A w ps) (a b : Int) : CS w0 g ca cl cc A (w.alloc (.cells #[.int .i64 a, .int .i64 b] 3)) (OwnL (some ⟨w.heap.size, 0, none⟩) 2 [a, b] :: ps) :=
  h.own_new (bal (bb w) _) ⟨rfl, .inr ⟨w.heap.size, 2, #[.int .i64 a, .int .i64 b], rfl, Nat.zero_le _, heap_alloc_new w _, Nat.le_refl _, by decide, by simp, by simp⟩⟩ (fun g hg => by
    have : w.heap.size = g := by simpa [Value.ownBlock] using hg
    omega)
theorem own_cellH {w : World} {B : Nat} {e : TypeId} {n c g : Nat} {cs : List Value} {j : Nat} {u : Value} (h : w.ownsRow B e 1 (.slice (some ⟨g, 0, none⟩) n c) n cs) (hj : cs[j]? = some u) : w.cell? ⟨g, j, none⟩ = some u ∧ w.frozen? ⟨g, j, none⟩ = false := by
  have hlen := h.1
  have hjn : j < cs.length := (List.getElem?_eq_some_iff.1 hj).1
  obtain ⟨g', cap', cur, e1, -, hg, hn, hm, hc, ht⟩ := own_block h (by omega)
  simp only [Value.slice.injEq, Option.some.injEq, Addr.mk.injEq] at e1
  obtain ⟨⟨rfl, _⟩, _, rfl⟩ := e1
  refine ⟨?_, by simp [World.frozen?, hg]⟩
  rw [hown_cell hg ht (j := j) (by omega)]; exact hj
/-- The rows of a list of rows are the lists. -/
theorem lst_cls {B : Option Addr} {c n : Nat} {ks : List Lst} (h : CS w0 g ca cl cc A w ps) (hi : ps[i]? = some (Own 33 1 (.slice B n c) n (ks.map Lst.hd))) (hn : ks.length = n) (hr : ∀ t ∈ ks, t.row ∈ ps) (hI : ∀ t ∈ ks, ∀ x ∈ t.xs, I64 x) : ClsAt w B (ks.map Lst.xs) := by
  subst hn
  have ho := h.own hi
  have ho2 : w.ownsRow 0 33 1 (.slice B ks.length c) (ks.map fun t => (t.hd, t.xs)).length ((ks.map fun t => (t.hd, t.xs)).map Prod.fst) := by
    rw [List.length_map, List.map_map]; exact ho
  obtain ⟨A', c', e, hc⟩ := cls_own ho2 fun q hq => by
    obtain ⟨t, ht, rfl⟩ := List.mem_map.1 hq
    obtain ⟨j, hj⟩ := List.mem_iff_getElem?.1 (hr t ht)
    obtain ⟨D, d, e, hx⟩ := ints_own (h.own hj) (hI t ht)
    exact ⟨D, d, e, hx⟩
  simp only [Value.slice.injEq] at e
  obtain ⟨rfl, -, -⟩ := e
  rw [List.map_map] at hc
  exact hc
end
theorem rows_back {ks : List Lst} {k : Nat} (hk : k < ks.length) : (ks.reverse.map Lst.row)[ks.length - 1 - k]? = some ks[k].row := by
  rw [List.getElem?_map, List.getElem?_reverse (by omega), show ks.length - 1 - (ks.length - 1 - k) = k by omega, List.getElem?_eq_getElem hk]; rfl
theorem rows_left {ks : List Lst} {k : Nat} {u : Lst} {P : Asn} (hk : k < ks.length) : ∀ t ∈ ks.set k u, t.row ∈ u.row :: P :: (ks.reverse.map Lst.row).eraseIdx (ks.length - 1 - k) := fun t ht => by
  obtain ⟨j, hj⟩ := List.mem_iff_getElem?.1 ht
  by_cases h : k = j
  · subst h
    rw [List.getElem?_set_self (by simpa using hk)] at hj
    obtain rfl : u = t := by simpa using hj
    exact List.mem_cons_self ..
  · rw [List.getElem?_set_ne h] at hj
    obtain ⟨hj1, hj2⟩ := List.getElem?_eq_some_iff.1 hj
    refine List.mem_cons_of_mem _ (List.mem_cons_of_mem _ (List.mem_eraseIdx_iff_getElem?.2 ⟨ks.length - 1 - j, by omega, ?_⟩))
    rw [rows_back hj1, hj2]
/-- A graph that is made: its lists in own rows. -/
def LstP (k m : Nat) (w : World) (e : Ending) (w' : World) : Prop := ∃ (B : Option Addr) (c : Nat) (ks : List Lst), e = .returned (.agg #[.slice B ks.length c]) ∧ LstOk k m ks ∧ Sp w w' (LRow B c ks :: ks.reverse.map Lst.row)
theorem lst_hd (D : Option Addr) (d : Nat) (xs : List Int) : (⟨D, d, xs⟩ : Lst).hd = .slice D xs.length d := rfl
theorem Sp.lst_push {w0 w : World} {ks : List Lst} {D B : Option Addr} {d c n : Nat} {xs : List Int} {q1 q2 : Asn} {us : List Value} (h : Sp w0 w (OwnL D d xs :: Own 33 1 (.slice B n c) n us :: q1 :: q2 :: ks.reverse.map Lst.row)) (hn : n = ks.length + 1) (hu : us = ks.map Lst.hd ++ [.slice D xs.length d]) :
    Sp w0 w (LRow B c (ks ++ [⟨D, d, xs⟩]) :: q1 :: q2 :: (ks ++ [(⟨D, d, xs⟩ : Lst)]).reverse.map Lst.row) := by
  have e : (ks ++ [(⟨D, d, xs⟩ : Lst)]).length = n := by rw [List.length_append, List.length_singleton, hn]
  have S := ((h.bring (i := 3) rfl).bring (i := 3) rfl).bring (i := 3) rfl
  unfold LRow
  rw [e, List.map_append, List.map_singleton, lst_hd, ← hu, List.reverse_append]
  exact S
theorem CS.lst_push {w0 w : World} {g cl cc A : Nat} {ca : Option Addr} {ks : List Lst} {D B : Option Addr} {d c n : Nat} {xs : List Int} {q1 q2 : Asn} {us : List Value} (h : CS w0 g ca cl cc A w (OwnL D d xs :: Own 33 1 (.slice B n c) n us :: q1 :: q2 :: ks.reverse.map Lst.row)) (hn : n = ks.length + 1) (hu : us = ks.map Lst.hd ++ [.slice D xs.length d]) :
    CS w0 g ca cl cc A w (LRow B c (ks ++ [⟨D, d, xs⟩]) :: q1 :: q2 :: (ks ++ [(⟨D, d, xs⟩ : Lst)]).reverse.map Lst.row) := by
  have e : (ks ++ [(⟨D, d, xs⟩ : Lst)]).length = n := by rw [List.length_append, List.length_singleton, hn]
  have S := ((h.bring (i := 3) rfl).bring (i := 3) rfl).bring (i := 3) rfl
  unfold LRow
  rw [e, List.map_append, List.map_singleton, lst_hd, ← hu, List.reverse_append]
  exact S
theorem Sp.own_twoP {w0 w : World} {ps : List Asn} (h : Sp w0 w ps) (a b : Int) : Sp w0 (w.alloc (.cells #[.int .i64 a, .int .i64 b] 3)) (OwnL (some ⟨w.heap.size, 0, none⟩) 2 [a, b] :: ps) :=
  h.own_new (bal (bb w) _) ⟨rfl, .inr ⟨w.heap.size, 2, #[.int .i64 a, .int .i64 b], rfl, Nat.zero_le _, heap_alloc_new w _, Nat.le_refl _, by decide, by simp, by simp⟩⟩ (fun g hg => by
    have : w.heap.size = g := by simpa [Value.ownBlock] using hg
    omega)
theorem Sp.own_oneQ {w0 w : World} {ps : List Asn} (h : Sp w0 w ps) (a : Int) : Sp w0 (w.alloc (.cells #[.int .i64 a] 3)) (OwnL (some ⟨w.heap.size, 0, none⟩) 1 [a] :: ps) :=
  h.own_new (bal (bb w) _) ⟨rfl, .inr ⟨w.heap.size, 1, #[.int .i64 a], rfl, Nat.zero_le _, heap_alloc_new w _, Nat.le_refl _, by decide, by simp, by simp⟩⟩ (fun g hg => by
    have : w.heap.size = g := by simpa [Value.ownBlock] using hg
    omega)
theorem CS.own_oneQ {w0 w : World} {g cl cc A : Nat} {ca : Option Addr} {ps : List Asn} (h : CS w0 g ca cl cc A w ps) (a : Int) : CS w0 g ca cl cc A (w.alloc (.cells #[.int .i64 a] 3)) (OwnL (some ⟨w.heap.size, 0, none⟩) 1 [a] :: ps) :=
  h.own_new (bal (bb w) _) ⟨rfl, .inr ⟨w.heap.size, 1, #[.int .i64 a], rfl, Nat.zero_le _, heap_alloc_new w _, Nat.le_refl _, by decide, by simp, by simp⟩⟩ (fun g hg => by
    have : w.heap.size = g := by simpa [Value.ownBlock] using hg
    omega)

set_option maxRecDepth 100000 in
set_option maxHeartbeats 8000000 in
theorem l14Pyramid_any (h : Nat) (h1 : 1 ≤ h) (h4 : h ≤ 4) (w : World) :
    Calls Tryz.prog 52 #[.int .i64 h] w (LstP 20 2 w) := by
  obtain ⟨i1, hi1, hrz0, hrz1, hrz2⟩ := info_parts infoRow
  have S0 := ((Sp.start w).alloc_box #[.slice none 0 0] 26).own_made 33 1
  have S1 := S0.alloc_box #[.slice (some ⟨w.heap.size + 1, 0, none⟩) 0 0] 26
  simp only [World.size_alloc] at S1
  have S2 : Hid (Sp w _ (LRow (some ⟨w.heap.size + 1, 0, none⟩) 0 [] :: Box (w.heap.size + 1 + 1) 26 #[.slice (some ⟨w.heap.size + 1, 0, none⟩) ([] : List Lst).length 0] :: Box w.heap.size 26 #[.slice none 0 0] :: ([] : List Lst).reverse.map Lst.row)) := Sp.pick [1, 0, 0] S1 rfl
  have hL0 : Hid (LstOk (5 * (4 - h)) 2 []) := ⟨by simp, fun t ht => by simp at ht⟩
  clear S0 S1
  go_enter Tryz.func52, Tryz.ntmps52
  go_wp2_with fail
  obtain ⟨db, hdb⟩ : ∃ db, w.heap.size + 1 + 1 = db := ⟨_, rfl⟩
  rw [hdb] at S2 ⊢
  replace hdb := Lib.hid hdb
  generalize World.alloc _ (.cells #[.slice (some ⟨w.heap.size + 1, 0, none⟩) 0 0] 26) = w2 at *
  go_loopw [4, 5] (fun v4 v5 wr => ∃ (f r : Nat) (B : Option Addr) (c : Nat) (ks : List Lst), r ≤ h ∧ v5 = .int .i64 r ∧ v4 = .int .i64 f ∧ f ≤ 5 * (4 - r) ∧ Hid (LstOk (5 * (4 - r)) 2 ks) ∧ Hid (Sp w wr (LRow B c ks :: Box db 26 #[.slice B ks.length c] :: Box w.heap.size 26 #[.slice none 0 0] :: ks.reverse.map Lst.row))) (fun _ v5 _ => (intOf v5).toNat)
  case atStart => exact ⟨0, h, _, 0, [], Nat.le_refl _, rfl, rfl, by omega, hL0, S2⟩
  case round =>
    clear S2 hL0
    obtain ⟨f, r, B, c, ks, hr, rfl, rfl, hf, hL, HS⟩ := hrel
    by_cases hlt : 1 ≤ r
    · have hlt' : (1 : Int) ≤ r := by omega
      have hL2 : Hid (LstOk (5 * (4 - r) + 0) 2 ks) := hL
      clear hL
      rename World => wo
      go_wp2_with fail
      go_loopw [6] (fun v6 wr => ∃ (i : Nat) (B : Option Addr) (c : Nat) (ks : List Lst), i ≤ r ∧ v6 = .int .i64 i ∧ Hid (LstOk (5 * (4 - r) + i) 2 ks) ∧ Hid (Sp w wr (LRow B c ks :: Box db 26 #[.slice B ks.length c] :: Box w.heap.size 26 #[.slice none 0 0] :: ks.reverse.map Lst.row))) (fun v6 _ => r - (intOf v6).toNat)
      case atStart => exact ⟨0, B, c, ks, Nat.zero_le _, rfl, hL2, HS⟩
      case round =>
        clear HS hL2
        obtain ⟨i, B, c, ks, hi, rfl, hL, HS⟩ := hrel
        have hkl := hL.out.1
        have c00 := HS.out.cell (i := 1) rfl (o := 0) rfl
        by_cases hlt2 : i < r
        · by_cases hrh : r = h
          · have hrb : ((r : Int) == (h : Int)) = true := by simp [hrh]
            have hrb2 : (r == h) = true := by simp [hrh]
            replace hrh := Lib.hid hrh
            have S3 := HS.out.own_made 3 1
            have S4 := S3.alloc_box #[.slice (some ⟨wr.heap.size, 0, none⟩) 0 0] 33
            (try simp only [World.size_alloc] at S4)
            have kB := S4.cell (i := 0) rfl (o := 0) rfl
            have hown := Lib.hid (S4.own (i := 2) rfl)
            have hLp : Hid (LstOk (5 * (4 - r) + (i + 1)) 2 (ks ++ [⟨some ⟨wr.heap.size, 0, none⟩, 0, ([] : List Int)⟩])) := LstOk.more (LstOk.push hL.out (t := ⟨some ⟨wr.heap.size, 0, none⟩, 0, ([] : List Int)⟩) (by simp) (fun x hx => by simp at hx)) (by omega) (Nat.le_refl _)
            replace S4 := Lib.hid S4
            have c0 := S4.out.cell (i := 3) rfl (o := 0) rfl
            clear HS hL S3
            go_wp2_with (at_builtin; refine wpList_append_src rfl _ _ rfl Tryz.underlying24 hi1 hrz0 hrz1 hrz2 rfl (by decide) _ ks.length _ rfl hown.out _ 1 1 [.slice (some ⟨wr.heap.size, 0, none⟩) 0 0] rfl (Src.one kB) (by simp [Value.oneCell']) ?c3 ?c4 ?_)
            case c3 => unfold maxLen; omega
            case c4 => omega
            intro vY wY hownY hgY hatY
            have S6 := (S4.out.own_push (i := 2) rfl (bb _) hownY hgY (by simpa using hatY)).tail
            obtain ⟨aY, cY, rfl⟩ := own_slice hownY
            have hl1 : ks.length + 1 = (ks ++ [(⟨some ⟨wr.heap.size, 0, none⟩, 0, ([] : List Int)⟩ : Lst)]).length := by simp
            have S7 := Sp.lst_push (D := some ⟨wr.heap.size, 0, none⟩) (d := 0) (xs := ([] : List Int)) S6 rfl rfl
            clear S4 S6 kB hown hownY hgY hatY
            rw [hl1]
            generalize ks ++ [(⟨some ⟨wr.heap.size, 0, none⟩, 0, ([] : List Int)⟩ : Lst)] = ks2 at *
            clear hl1
            have f0 := S7.frozen (i := 1) rfl 0
            have e0 := S7.cell (i := 1) rfl (o := 0) rfl
            have S8 := Lib.hid (S7.store (i := 1) rfl 0 (.slice aY ks2.length cY))
            clear S7 c0
            go_wp2_with fail
            clear f0 e0
            go_roundw
            case rel => exact ⟨i + 1, aY, cY, ks2, by omega, by go_num, hLp, S8⟩
            case measure => simp [intOf]; omega
          · have hrb : ((r : Int) == (h : Int)) = false := by simp; omega
            have hrb2 : (r == h) = false := by simp [hrh]
            have hw1 : IntKind.i64.wrap ((f : Int) + i) = (f : Int) + i := IntWalk.i64_in _ (by omega)
            have hw2 : IntKind.i64.wrap ((f : Int) + i + 1) = (f : Int) + i + 1 := IntWalk.i64_in _ (by omega)
            have S3 := HS.out.own_twoP ((f : Int) + i) ((f : Int) + i + 1)
            have S4 := S3.alloc_box #[.slice (some ⟨wr.heap.size, 0, none⟩) 2 2] 33
            (try simp only [World.size_alloc] at S4)
            have kB := S4.cell (i := 0) rfl (o := 0) rfl
            have hown := Lib.hid (S4.own (i := 2) rfl)
            have hLp : Hid (LstOk (5 * (4 - r) + (i + 1)) 2 (ks ++ [⟨some ⟨wr.heap.size, 0, none⟩, 2, [(f : Int) + i, (f : Int) + i + 1]⟩])) := LstOk.more (LstOk.push hL.out (t := ⟨some ⟨wr.heap.size, 0, none⟩, 2, [(f : Int) + i, (f : Int) + i + 1]⟩) (by simp) (fun x hx => by simp only [List.mem_cons, List.mem_nil_iff, or_false] at hx; unfold I64; omega)) (by omega) (Nat.le_refl _)
            replace S4 := Lib.hid S4
            have c0 := S4.out.cell (i := 3) rfl (o := 0) rfl
            clear HS hL S3
            go_wp2_with (at_builtin; refine wpList_append_src rfl _ _ rfl Tryz.underlying24 hi1 hrz0 hrz1 hrz2 rfl (by decide) _ ks.length _ rfl hown.out _ 1 1 [.slice (some ⟨wr.heap.size, 0, none⟩) 2 2] rfl (Src.one kB) (by simp [Value.oneCell']) ?c3 ?c4 ?_)
            case c3 => unfold maxLen; omega
            case c4 => omega
            intro vY wY hownY hgY hatY
            have S6 := (S4.out.own_push (i := 2) rfl (bb _) hownY hgY (by simpa using hatY)).tail
            obtain ⟨aY, cY, rfl⟩ := own_slice hownY
            have hl1 : ks.length + 1 = (ks ++ [(⟨some ⟨wr.heap.size, 0, none⟩, 2, [(f : Int) + i, (f : Int) + i + 1]⟩ : Lst)]).length := by simp
            have S7 := Sp.lst_push (D := some ⟨wr.heap.size, 0, none⟩) (d := 2) (xs := [(f : Int) + i, (f : Int) + i + 1]) S6 rfl rfl
            clear S4 S6 kB hown hownY hgY hatY
            rw [hl1]
            generalize ks ++ [(⟨some ⟨wr.heap.size, 0, none⟩, 2, [(f : Int) + i, (f : Int) + i + 1]⟩ : Lst)] = ks2 at *
            clear hl1
            have f0 := S7.frozen (i := 1) rfl 0
            have e0 := S7.cell (i := 1) rfl (o := 0) rfl
            have S8 := Lib.hid (S7.store (i := 1) rfl 0 (.slice aY ks2.length cY))
            clear S7 c0
            go_wp2_with fail
            clear f0 e0
            go_roundw
            case rel => exact ⟨i + 1, aY, cY, ks2, by omega, by go_num, hLp, S8⟩
            case measure => simp [intOf]; omega
        · obtain rfl : i = r := by omega
          have hLn : Hid (LstOk (5 * (4 - (i - 1))) 2 ks) := LstOk.more hL.out (by omega) (Nat.le_refl _)
          have hw0 : IntKind.i64.wrap ((i : Int) - 1) = ((i - 1 : Nat) : Int) := by rw [IntWalk.i64_in _ (by omega)]; omega
          clear c00 hL
          by_cases hrh : i < h
          · have hw1 : IntKind.i64.wrap ((f : Int) + i) = (f : Int) + i := IntWalk.i64_in _ (by omega)
            have hw2 : IntKind.i64.wrap ((f : Int) + i + 1) = ((f + i + 1 : Nat) : Int) := by rw [IntWalk.i64_in _ (by omega)]; push_cast; rfl
            go_wp2_with fail
            go_roundw
            case rel => exact ⟨f + i + 1, i - 1, B, c, ks, by omega, rfl, rfl, by omega, hLn, HS⟩
            case measure => simp [intOf]; omega
          · have hrh2 : ¬ (i : Int) < h := by omega
            go_wp2_with fail
            go_roundw
            case rel => exact ⟨f, i - 1, B, c, ks, by omega, rfl, rfl, by omega, hLn, HS⟩
            case measure => simp [intOf]; omega
    · obtain rfl : r = 0 := by omega
      have d0 := HS.out.cell (i := 1) rfl (o := 0) rfl
      have f0 := HS.out.frozen (i := 2) rfl 0
      have e0 := HS.out.cell (i := 2) rfl (o := 0) rfl
      have SF := HS.out.store (i := 2) rfl 0 (.slice B ks.length c)
      have j0 := SF.cell (i := 2) rfl (o := 0) rfl
      have SG := Lib.hid (((SF.bring (i := 2) rfl).tail.bring (i := 1) rfl).tail)
      have hL20 : Hid (LstOk 20 2 ks) := LstOk.more hL.out (by omega) (Nat.le_refl _)
      clear HS hL SF
      go_wp2_with fail
      exact bodyPost_ret (v := .agg #[.slice B ks.length c]) (by simp [results, Tryz.results52, go_sem, j0]) rfl ⟨B, c, ks, rfl, hL20.out, SG.out⟩

theorem Sp.lrow_one {w0 w : World} {ps : List Asn} (h : Sp w0 w ps) (t : Lst) : Sp w0 (w.alloc (.cells #[t.hd] 33)) (LRow (some ⟨w.heap.size, 0, none⟩) 1 [t] :: ps) :=
  h.own_new (bal (bb w) _) ⟨rfl, .inr ⟨w.heap.size, 1, #[t.hd], rfl, Nat.zero_le _, heap_alloc_new w _, Nat.le_refl _, by decide, by simp, by simp⟩⟩ (fun g hg => by
    have : w.heap.size = g := by simpa [Value.ownBlock] using hg
    omega)
/-- A graph that is made, and true. -/
def LstP2 (k m : Nat) (w : World) (e : Ending) (w' : World) : Prop := ∃ (B : Option Addr) (c : Nat) (ks : List Lst), e = .returned (.tuple #[.agg #[.slice B ks.length c], .bool true]) ∧ LstOk k m ks ∧ Sp w w' (LRow B c ks :: ks.reverse.map Lst.row)

set_option maxRecDepth 100000 in
set_option maxHeartbeats 8000000 in
theorem specPath_any (n : Nat) (h1 : 1 ≤ n) (h10 : n ≤ 10) (w : World) :
    Calls Tryz.prog 53 #[.int .i64 n] w (LstP2 20 2 w) := by
  obtain ⟨i1, hi1, hrz0, hrz1, hrz2⟩ := info_parts infoRow
  have hwl := Lib.hid (fun W => l1In_any n 1 10 W)
  rw [inB_true.2 ⟨by omega, by omega⟩] at hwl
  have S0 := ((Sp.start w).alloc_box #[.slice none 0 0] 26).own_made 3 1
  have S1 := S0.lrow_one ⟨some ⟨w.heap.size + 1, 0, none⟩, 0, []⟩
  unfold Lst.hd at S1
  simp only [World.size_alloc, List.length_nil] at S1
  have S2 := S1.alloc_box #[.slice (some ⟨w.heap.size + 1 + 1, 0, none⟩) 1 1] 26
  simp only [World.size_alloc] at S2
  have S3 : Hid (Sp w _ (LRow (some ⟨w.heap.size + 1 + 1, 0, none⟩) 1 [⟨some ⟨w.heap.size + 1, 0, none⟩, 0, []⟩] :: Box (w.heap.size + 1 + 1 + 1) 26 #[.slice (some ⟨w.heap.size + 1 + 1, 0, none⟩) ([⟨some ⟨w.heap.size + 1, 0, none⟩, 0, []⟩] : List Lst).length 1] :: Box w.heap.size 26 #[.slice none 0 0] :: ([⟨some ⟨w.heap.size + 1, 0, none⟩, 0, []⟩] : List Lst).reverse.map Lst.row)) := Sp.pick [1, 0, 1, 0] S2 rfl
  have hL0 : Hid (LstOk 1 2 [⟨some ⟨w.heap.size + 1, 0, none⟩, 0, []⟩]) := ⟨by simp, fun t ht => by
    obtain rfl := List.mem_singleton.1 ht
    exact ⟨by simp, fun x hx => by simp at hx⟩⟩
  clear S0 S1 S2
  go_enter Tryz.func53, Tryz.ntmps53
  go_wp2_with fail
  refine (hwl.out _).mono ?_
  rintro e w1 ⟨rfl, rfl⟩
  go_wp2_with fail
  obtain ⟨db, hdb⟩ : ∃ db, w.heap.size + 1 + 1 + 1 = db := ⟨_, rfl⟩
  rw [hdb] at S3 ⊢
  replace hdb := Lib.hid hdb
  generalize World.alloc _ (.cells #[.slice (some ⟨w.heap.size + 1 + 1, 0, none⟩) 1 1] 26) = w2 at *
  go_loopw [5] (fun v5 wr => ∃ (x : Nat) (B : Option Addr) (c : Nat) (ks : List Lst), (1 ≤ x ∧ x ≤ n) ∧ v5 = .int .i64 x ∧ Hid (LstOk x 2 ks) ∧ Hid (Sp w wr (LRow B c ks :: Box db 26 #[.slice B ks.length c] :: Box w.heap.size 26 #[.slice none 0 0] :: ks.reverse.map Lst.row))) (fun v5 _ => n - (intOf v5).toNat)
  case atStart => exact ⟨1, _, 1, _, ⟨by omega, by omega⟩, rfl, hL0, S3⟩
  case round =>
    clear S3 hL0
    obtain ⟨x, B, c, ks, ⟨hx1, hxn⟩, rfl, hL, HS⟩ := hrel
    have hkl := hL.out.1
    have c00 := HS.out.cell (i := 1) rfl (o := 0) rfl
    by_cases hlt : x < n
    · have hw1 : IntKind.i64.wrap ((x : Int) - 1) = (x : Int) - 1 := IntWalk.i64_in _ (by omega)
      have S3 := HS.out.own_oneQ ((x : Int) - 1)
      have S4 := S3.alloc_box #[.slice (some ⟨wr.heap.size, 0, none⟩) 1 1] 33
      (try simp only [World.size_alloc] at S4)
      have kB := S4.cell (i := 0) rfl (o := 0) rfl
      have hown := Lib.hid (S4.own (i := 2) rfl)
      have hLp : Hid (LstOk (x + 1) 2 (ks ++ [⟨some ⟨wr.heap.size, 0, none⟩, 1, [(x : Int) - 1]⟩])) := LstOk.more (LstOk.push hL.out (t := ⟨some ⟨wr.heap.size, 0, none⟩, 1, [(x : Int) - 1]⟩) (by simp) (fun y hy => by simp only [List.mem_cons, List.mem_nil_iff, or_false] at hy; unfold I64; omega)) (by omega) (Nat.le_refl _)
      replace S4 := Lib.hid S4
      have c0 := S4.out.cell (i := 3) rfl (o := 0) rfl
      clear HS hL S3
      go_wp2_with (at_builtin; refine wpList_append_src rfl _ _ rfl Tryz.underlying24 hi1 hrz0 hrz1 hrz2 rfl (by decide) _ ks.length _ rfl hown.out _ 1 1 [.slice (some ⟨wr.heap.size, 0, none⟩) 1 1] rfl (Src.one kB) (by simp [Value.oneCell']) ?c3 ?c4 ?_)
      case c3 => unfold maxLen; omega
      case c4 => omega
      intro vY wY hownY hgY hatY
      have S6 := (S4.out.own_push (i := 2) rfl (bb _) hownY hgY (by simpa using hatY)).tail
      obtain ⟨aY, cY, rfl⟩ := own_slice hownY
      have hl1 : ks.length + 1 = (ks ++ [(⟨some ⟨wr.heap.size, 0, none⟩, 1, [(x : Int) - 1]⟩ : Lst)]).length := by simp
      have S7 := Sp.lst_push (D := some ⟨wr.heap.size, 0, none⟩) (d := 1) (xs := [(x : Int) - 1]) S6 rfl rfl
      clear S4 S6 kB hown hownY hgY hatY
      rw [hl1]
      generalize ks ++ [(⟨some ⟨wr.heap.size, 0, none⟩, 1, [(x : Int) - 1]⟩ : Lst)] = ks2 at *
      clear hl1
      have f0 := S7.frozen (i := 1) rfl 0
      have e0 := S7.cell (i := 1) rfl (o := 0) rfl
      have S8 := Lib.hid (S7.store (i := 1) rfl 0 (.slice aY ks2.length cY))
      clear S7 c0
      go_wp2_with fail
      clear f0 e0
      go_roundw
      case rel => exact ⟨x + 1, aY, cY, ks2, ⟨by omega, by omega⟩, by go_num, hLp, S8⟩
      case measure => simp [intOf]; omega
    · obtain rfl : x = n := by omega
      have f0 := HS.out.frozen (i := 2) rfl 0
      have e0 := HS.out.cell (i := 2) rfl (o := 0) rfl
      have SF := HS.out.store (i := 2) rfl 0 (.slice B ks.length c)
      have j0 := SF.cell (i := 2) rfl (o := 0) rfl
      have SG := Lib.hid (((SF.bring (i := 2) rfl).tail.bring (i := 1) rfl).tail)
      have hL20 : Hid (LstOk 20 2 ks) := LstOk.more hL.out (by omega) (Nat.le_refl _)
      clear HS hL SF
      go_wp2_with fail
      exact bodyPost_ret (v := .tuple #[.agg #[.slice B ks.length c], .bool true]) (by simp [results, Tryz.results53, go_sem, j0]) rfl ⟨B, c, ks, rfl, hL20.out, SG.out⟩
end Go.Proofs.YtnfjgebfmnpkbaaGreat
