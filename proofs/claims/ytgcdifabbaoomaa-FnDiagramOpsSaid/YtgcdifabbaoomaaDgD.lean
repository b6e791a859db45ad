/- Contracts: the plan of values, in the program. -/
import Derived.Test.YtgcdifabbaoomaaDgC
import Derived.Test.YtgcdifabbaoomaaSepB
import Derived.Laws.StructEq
namespace Go.Proofs.Ytgcdifabbaoomaa
open Go.RowKit

def idxN (ns : List Nd) (n : Nd) : Int := if n ∈ ns then (ns.idxOf n : Nat) else -1
theorem idx_here {ns : List Nd} {n : Nd} {k : Nat} (hk : k < ns.length) (h : n ∉ ns.take k) (e : ns[k] = n) : idxN ns n = k := by
  unfold idxN
  have hmem : n ∈ ns := e ▸ List.getElem_mem hk
  rw [if_pos hmem]
  have h1 : ns.idxOf n = k := by
    have h2 : ns = ns.take k ++ ns.drop k := (List.take_append_drop k ns).symm
    rw [h2, List.idxOf_append, if_neg h, List.length_take, Nat.min_eq_left (Nat.le_of_lt hk), ← List.getElem_cons_drop hk, e]
    simp
  rw [h1]
theorem idx_next {ns : List Nd} {n : Nd} {k : Nat} (hk : k < ns.length) (h : n ∉ ns.take k) (e : ns[k] ≠ n) : n ∉ ns.take (k + 1) := by
  rw [List.take_succ_eq_append_getElem hk]
  simp only [List.mem_append, List.mem_singleton, not_or]
  exact ⟨h, fun h2 => e h2.symm⟩

theorem nd_guard : Try.prog.eqGuardType Try.prog.depth 67 = false := by kernel_rfl
theorem nd_held : Try.prog.stoodInHeld 67 = false := by kernel_rfl
theorem nd_fields : Try.prog.underlying 67 = some (.struct (Try.prog.fieldsOf 67)) := by kernel_rfl
theorem eql_nd (a b : Nd) (w : World) : (binOp .eql 67 (ndV a) (ndV b)).run Try.prog w = .ok (.bool (a.v == b.v && a.lo == b.lo && a.hi == b.hi)) w := by
  rw [run_eql_struct, run_equalIn_agg w 9999 _ _ _ nd_fields nd_held]
  simp only [Program.fieldsOf, Try.underlying67]
  go_simp
  by_cases h1 : a.v = b.v <;> by_cases h2 : a.lo = b.lo <;> by_cases h3 : a.hi = b.hi <;> simp [h1, h2, h3]
theorem nd_eqB (a b : Nd) : (a.v == b.v && a.lo == b.lo && a.hi == b.hi) = decide (a = b) := by
  obtain ⟨x, y, z⟩ := a
  obtain ⟨x', y', z'⟩ := b
  simp only [Nd.mk.injEq]
  by_cases h1 : x = x' <;> by_cases h2 : y = y' <;> by_cases h3 : z = z' <;> simp [h1, h2, h3]

set_option maxRecDepth 100000 in
set_option maxHeartbeats 4000000 in
theorem indexNd_any (n : Nd) (A : Option Addr) (c : Nat) (ns : List Nd) (w : World) (hx : NdAt w A ns) (hl : ns.length ≤ 1000000) :
    Calls Try.prog 98 #[.slice A ns.length c, ndV n] w fun e w' => e = .returned (.int .i64 (idxN ns n)) ∧ Below w.heap.size w w' := by
  obtain ⟨v, lo, hi⟩ := n
  have S0 := Lib.hid ((Sp.start w).alloc_box #[.int .i64 v, .int .i64 lo, .int .i64 hi] 67)
  have hN := Lib.hid hx
  clear hx
  go_enter Try.func98, Try.ntmps98
  go_wp2_with fail
  go_loopw [8] (fun i wr => ∃ k : Nat, k ≤ ns.length ∧ i = .int .i64 k ∧ Hid ((⟨v, lo, hi⟩ : Nd) ∉ ns.take k) ∧ Hid (Sp w wr [Box w.heap.size 67 #[.int .i64 v, .int .i64 lo, .int .i64 hi]])) (fun i _ => ns.length - (intOf i).toNat)
  case atStart => exact ⟨0, Nat.zero_le _, rfl, by unfold Hid; simp, S0⟩
  case round =>
    obtain ⟨k, hk, rfl, HD, HS⟩ := hrel
    clear S0
    by_cases hlt : k < ns.length
    · obtain ⟨b, off, rfl, m0, m1, m2⟩ := (hN.out.grow HS.out.below).at_ k hlt
      have k0 := cell_regrown m0
      have k1 := cell_regrown m1
      have k2 := cell_regrown m2
      have c0 := cell_regrown (HS.out.cell (i := 0) rfl (o := 0) rfl)
      have c1 := cell_regrown (HS.out.cell (i := 0) rfl (o := 1) rfl)
      have c2 := cell_regrown (HS.out.cell (i := 0) rfl (o := 2) rfl)
      have hyes := Lib.hid (idx_here hlt HD.out)
      have hno := Lib.hid (idx_next hlt HD.out)
      generalize ns[k] = m at *
      obtain ⟨v', lo', hi'⟩ := m
      dsimp only at *
      clear m0 m1 m2
      have hst := nd_held
      have hgu := nd_guard
      by_cases e : (⟨v', lo', hi'⟩ : Nd) = ⟨v, lo, hi⟩
      · have hR := Lib.hid (hyes.out e)
        cases e
        clear hyes hno HD
        go_wp2_with fail
        refine wp_region_quiet_below (by kernel_rfl) (by kernel_rfl) ?_
        repeat (any_goals (go_big_quiet_step (fail)))
        refine wpQuiet_nil ?_
        rintro w1 ⟨p, rfl⟩
        have HS2 := Lib.hid (HS.out.grow (below_regrown _ p.d p.os))
        clear HS k0 k1 k2 c0 c1 c2
        go_wp2_with fail
        go_ret
        exact ⟨ret_int hR.out.symm, HS2.out.below⟩
      · have hD := Lib.hid (hno.out e)
        have hcase : (¬ v = v') ∨ (v = v' ∧ ¬ lo = lo') ∨ (v = v' ∧ lo = lo' ∧ ¬ hi = hi') := by
          by_cases h1 : v = v'
          · by_cases h2 : lo = lo'
            · exact .inr (.inr ⟨h1, h2, fun h3 => e (by rw [h1, h2, h3])⟩)
            · exact .inr (.inl ⟨h1, h2⟩)
          · exact .inl h1
        clear hyes hno HD e
        rcases hcase with hne | ⟨rfl, hne⟩ | ⟨rfl, rfl, hne⟩
        all_goals
          go_wp2_with fail
          refine wp_region_quiet_below (by kernel_rfl) (by kernel_rfl) ?_
          repeat (any_goals (go_big_quiet_step (fail)))
          refine wpQuiet_nil ?_
          rintro w1 ⟨p, rfl⟩
          have HS2 := Lib.hid (HS.out.grow (below_regrown _ p.d p.os))
          clear HS k0 k1 k2 c0 c1 c2
          go_wp2_with fail
          go_roundw
          case rel => exact ⟨k + 1, by omega, by go_num, hD, HS2⟩
          case measure => simp [intOf]; omega
    · obtain rfl : k = ns.length := by omega
      have hR : Hid (idxN ns ⟨v, lo, hi⟩ = -1) := by
        unfold Hid idxN
        have := HD.out
        rw [List.take_length] at this
        rw [if_neg this]
      have hB := HS.out.below
      clear HD HS
      go_wp2_with fail
      go_ret
      exact ⟨ret_int hR.out.symm, hB⟩
end Go.Proofs.Ytgcdifabbaoomaa
