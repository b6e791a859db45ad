/- Contracts: the plan of values, in the reference. -/
import Derived.Test.YtgcdifabbaoomaaDgN
namespace Go.Proofs.Ytgcdifabbaoomaa
open Go.RowKit

/-- The nodes of the plan while it is made. -/
abbrev PlanS (w0 : World) (sv : Value) (ns : List Nd) (w : World) : Prop := Sp w0 w [Own 67 3 sv ns.length (ns.flatMap ndEnc)]

set_option maxRecDepth 100000 in
set_option maxHeartbeats 8000000 in
theorem plan_any {w0 : World} {vars : Nat} {f : Nat → Bool} {A : Option Addr} {c : Nat} (hvars : vars ≤ 6) (hx : BlAt w0 A (2 ^ vars) f) :
    ∀ (k v b : Nat) (ns : List Nd) (sv : Value) (w : World), v + k = vars + 1 → 1 ≤ v → b < 2 ^ (v - 1) → OkN vars ns → ns.length + 2 ^ k ≤ 1000 → PlanS w0 sv ns w →
    Calls Try.prog 82 #[.int .i64 vars, .slice A (2 ^ vars) c, .int .i64 v, .int .i64 b, sv] w fun e w' => ∃ B k', e = .returned (.tuple #[.slice B (planF f k v b ns).1.length k', .int .i64 (planF f k v b ns).2]) ∧ PlanS w0 (.slice B (planF f k v b ns).1.length k') (planF f k v b ns).1 w'
  | 0, v, b, ns, sv, w, hk, hv, hb, hok, hl, HS => by
    have hb' : b < 2 ^ vars := by rw [show vars = v - 1 by omega]; exact hb
    obtain ⟨bb', off, rfl, m0⟩ := (hx.grow HS.below) b hb'
    have hgt : (vars : Int) < (v : Int) := by omega
    obtain ⟨B, c', rfl, -⟩ := nd_own (HS.own (i := 0) rfl) (nd_small hok (by omega) (by omega))
    clear hb hok hl hk hx
    replace HS := Lib.hid HS
    obtain ⟨q, hq⟩ : ∃ q, f b = q := ⟨_, rfl⟩
    rw [hq] at m0
    have hP : Hid (planF f 0 v b ns = (ns, if q then 1 else 0)) := by unfold Hid; rw [planF, hq]
    cases q
    all_goals
      go_enter Try.func82, Try.ntmps82
      go_wp2_with fail
      go_ret2
      exact ⟨B, c', by rw [hP.out]; rfl, by rw [hP.out]; exact HS.out⟩
  | k + 1, v, b, ns, sv, w, hk, hv, hb, hok, hl, HS => by
    have hp : 2 ^ (v + 1 - 1) = 2 ^ (v - 1) + 2 ^ (v - 1) := by
      rw [show v + 1 - 1 = (v - 1) + 1 by omega, Nat.pow_succ]; omega
    have hpk : 2 ^ (k + 1) = 2 ^ k + 2 ^ k := by rw [Nat.pow_succ]; omega
    have hpos : 0 < 2 ^ k := Nat.two_pow_pos k
    have m1 := plan_made f vars k (v + 1) b ns (by omega) (by omega) (by omega) hok
    have hrec1 := Lib.hid (plan_any (c := c) hvars hx k (v + 1) b ns sv w (by omega) (by omega) (by omega) hok (by omega) HS)
    have hP := Lib.hid (planF.eq_2 f v b ns k)
    generalize planF f k (v + 1) b ns = X1 at m1 hrec1 hP
    obtain ⟨ns1, lo⟩ := X1
    dsimp only at m1 hrec1 hP
    have hl1 : ns1.length + 1 ≤ ns.length + 2 ^ k := m1.len
    have m2 := plan_made f vars k (v + 1) (b + 2 ^ (v - 1)) ns1 (by omega) (by omega) (by omega) m1.ok
    have hrec2 := Lib.hid (fun sv w (h : PlanS w0 sv ns1 w) => plan_any (c := c) hvars hx k (v + 1) (b + 2 ^ (v - 1)) ns1 sv w (by omega) (by omega) (by omega) m1.ok (by omega) h)
    generalize planF f k (v + 1) (b + 2 ^ (v - 1)) ns1 = X2 at m2 hrec2 hP
    obtain ⟨ns2, hi⟩ := X2
    dsimp only at m2 hrec2 hP
    have hl2 : ns2.length + 1 ≤ ns1.length + 2 ^ k := m2.len
    have hgt : ¬ (vars : Int) < (v : Int) := by omega
    have hor := or_pow hb (by omega)
    have hok2 := Lib.hid (nd_small m2.ok (by omega) (by omega))
    have hrl : 0 ≤ lo ∧ lo ≤ 1000 := ⟨m1.r0, by have := m1.r1; omega⟩
    have hrh : 0 ≤ hi ∧ hi ≤ 1000 := ⟨m2.r0, by have := m2.r1; omega⟩
    have hl3 : ns2.length ≤ 1000 := by omega
    have hv1 : (v : Int) ≤ 6 := by omega
    have hvw : IntKind.i64.wrap ((v : Int) + 1) = ((v + 1 : Nat) : Int) := by rw [IntWalk.i64_in _ (by omega)]; omega
    have hcast : ((b + 2 ^ (v - 1) : Nat) : Int) = (b : Int) + 2 ^ (v - 1) := by rw [Int.natCast_add, Int.natCast_pow]; rfl
    rw [hcast] at hrec2 hor
    obtain ⟨B0, c0, rfl, -⟩ := nd_own (HS.own (i := 0) rfl) (nd_small hok (by omega) (by omega))
    clear m1 m2 hok hl hpk hp hb hl1 hl2 HS hx
    generalize 2 ^ vars = VN at *
    go_enter Try.func82, Try.ntmps82
    go_wp2_with fail
    refine hrec1.out.mono ?_
    rintro e w1 ⟨B1, c1, rfl, HS1⟩
    have hrec3 := Lib.hid (hrec2.out _ w1 HS1)
    clear HS1 hrec1 hrec2
    go_wp2_with fail
    refine hrec3.out.mono ?_
    rintro e w2 ⟨B2, c2, rfl, HS2⟩
    obtain ⟨B, c', e', hN⟩ := nd_own (HS2.own (i := 0) rfl) hok2.out
    cases e'
    replace HS2 := Lib.hid HS2
    replace hN := Lib.hid hN
    clear hrec3
    by_cases heq : lo = hi
    · have hP2 : Hid (planF f (k + 1) v b ns = (ns2, lo)) := by unfold Hid; exact hP.out.trans (if_pos heq)
      subst heq
      clear hP hN hor
      go_wp2_with fail
      go_ret2
      exact ⟨B2, c2, by rw [hP2.out]; rfl, by rw [hP2.out]; exact HS2.out⟩
    have hP2 : Hid (planF f (k + 1) v b ns = addN ns2 ⟨v, lo, hi⟩) := by unfold Hid; exact hP.out.trans (if_neg heq)
    clear hP hor
    have HS3 := Lib.hid (HS2.out.alloc_box #[.int .i64 v, .int .i64 lo, .int .i64 hi] 67)
    replace hN := Lib.hid (hN.out.grow (bal (bb _) (.cells #[.int .i64 v, .int .i64 lo, .int .i64 hi] 67)))
    clear HS2
    go_wp2_with fail
    go_loopw [15] (fun i wr => ∃ q : Nat, q ≤ ns2.length ∧ i = .int .i64 q ∧ Hid ((⟨v, lo, hi⟩ : Nd) ∉ ns2.take q) ∧ Hid (Sp w0 wr [Box w2.heap.size 67 #[.int .i64 v, .int .i64 lo, .int .i64 hi], Own 67 3 (.slice B2 ns2.length c2) ns2.length (ns2.flatMap ndEnc)])) (fun i _ => ns2.length - (intOf i).toNat)
    case atStart => exact ⟨0, Nat.zero_le _, rfl, by unfold Hid; simp, HS3⟩
    case round =>
      obtain ⟨q, hq, rfl, HD, HS⟩ := hrel
      clear HS3 hN
      by_cases hlt : q < ns2.length
      · obtain ⟨B', c'', e', hN⟩ := nd_own (HS.out.own (i := 1) rfl) hok2.out
        cases e'
        obtain ⟨bl, off, rfl, m0, m1, m2⟩ := hN.at_ q hlt
        have k0 := cell_regrown m0
        have k1 := cell_regrown m1
        have k2 := cell_regrown m2
        have d0 := cell_regrown (HS.out.cell (i := 0) rfl (o := 0) rfl)
        have d1 := cell_regrown (HS.out.cell (i := 0) rfl (o := 1) rfl)
        have d2 := cell_regrown (HS.out.cell (i := 0) rfl (o := 2) rfl)
        have hyes := Lib.hid (idx_here hlt HD.out)
        have hno := Lib.hid (idx_next hlt HD.out)
        generalize hm : ns2[q] = m at *
        have hmem : Hid (m ∈ ns2) := by unfold Hid; rw [← hm]; exact List.getElem_mem hlt
        clear hm
        obtain ⟨v', lo', hi'⟩ := m
        dsimp only at *
        clear m0 m1 m2 hN
        have hst := nd_held
        have hgu := nd_guard
        by_cases e : (⟨v', lo', hi'⟩ : Nd) = ⟨v, lo, hi⟩
        · have hR := Lib.hid (hyes.out e)
          rw [e] at hmem
          have hid : Hid (addN ns2 ⟨v, lo, hi⟩ = (ns2, (q : Int) + 2)) := by
            unfold Hid addN
            rw [if_pos hmem.out]
            have := hR.out
            unfold idxN at this
            rw [if_pos hmem.out] at this
            rw [this]
          cases e
          have hq2 : IntKind.i64.wrap ((q : Int) + 2) = (q : Int) + 2 := IntWalk.i64_in _ (by omega)
          clear hyes hno HD hmem hR
          go_wp2_with fail
          refine wp_region_quiet_below (by kernel_rfl) (by kernel_rfl) ?_
          repeat (any_goals (go_big_quiet_step (fail)))
          refine wpQuiet_nil ?_
          rintro w3 ⟨p, rfl⟩
          have HS4 := Lib.hid (HS.out.grow (below_regrown _ p.d p.os)).tail
          clear HS k0 k1 k2 d0 d1 d2
          go_wp2_with fail
          go_ret2
          exact ⟨_, _, by rw [hP2.out, hid.out]; rfl, by rw [hP2.out, hid.out]; exact HS4.out⟩
        · have hD := Lib.hid (hno.out e)
          have hcase : (¬ (v : Int) = v') ∨ ((v : Int) = v' ∧ ¬ lo = lo') ∨ ((v : Int) = v' ∧ lo = lo' ∧ ¬ hi = hi') := by
            by_cases h1 : (v : Int) = v'
            · by_cases h2 : lo = lo'
              · exact .inr (.inr ⟨h1, h2, fun h3 => e (by rw [h1, h2, h3])⟩)
              · exact .inr (.inl ⟨h1, h2⟩)
            · exact .inl h1
          clear hyes hno HD e hmem
          rcases hcase with hne | ⟨rfl, hne⟩ | ⟨rfl, rfl, hne⟩
          all_goals
            have hne2 : ¬ (_ : Int) = _ := fun h => hne (Eq.symm h)
            go_wp2_with fail
            refine wp_region_quiet_below (by kernel_rfl) (by kernel_rfl) ?_
            repeat (any_goals (go_big_quiet_step (fail)))
            refine wpQuiet_nil ?_
            rintro w3 ⟨p, rfl⟩
            have HS4 := Lib.hid (HS.out.grow (below_regrown _ p.d p.os))
            clear HS k0 k1 k2 d0 d1 d2
            go_wp2_with fail
            go_roundw
            case rel => exact ⟨q + 1, by omega, by go_num, hD, HS4⟩
            case measure => simp [intOf]; omega
      · obtain rfl : q = ns2.length := by omega
        have hnin : (⟨v, lo, hi⟩ : Nd) ∉ ns2 := by have := HD.out; rwa [List.take_length] at this
        have hid : Hid (addN ns2 ⟨v, lo, hi⟩ = (ns2 ++ [⟨v, lo, hi⟩], ((ns2.length : Nat) : Int) + 2)) := by unfold Hid addN; rw [if_neg hnin]
        clear HD hnin
        obtain ⟨i0, hi0, hz0, hz1, hz2⟩ := info_parts infoNd
        have d0 := HS.out.cell (i := 0) rfl (o := 0) rfl
        have d1 := HS.out.cell (i := 0) rfl (o := 1) rfl
        have d2 := HS.out.cell (i := 0) rfl (o := 2) rfl
        have hlw : IntKind.i64.wrap ((ns2.length : Int) + 2) = (ns2.length : Int) + 2 := IntWalk.i64_in _ (by omega)
        have S5 := HS.out.alloc_box #[.int .i64 v, .int .i64 lo, .int .i64 hi] 67
        have hsrc := Src.three (S5.cell (i := 0) rfl (o := 0) rfl) (S5.cell (i := 0) rfl (o := 1) rfl) (S5.cell (i := 0) rfl (o := 2) rfl)
        replace S5 := Lib.hid S5
        clear HS
        go_wp2_with (at_builtin; refine wpList_append_src rfl _ _ rfl Try.underlying24 hi0 hz0 hz1 hz2 rfl (by decide) _ ns2.length _ rfl (S5.out.own (i := 2) rfl) _ 1 1 [.int .i64 v, .int .i64 lo, .int .i64 hi] rfl hsrc (by simp [Value.oneCell']) ?c3 ?c4 ?_)
        case c3 => unfold maxLen; omega
        case c4 => omega
        intro vY wY hownY hgY hatY
        have S6 := (S5.out.own_push (i := 2) rfl (bb _) hownY hgY (by simpa using hatY)).tail.tail
        obtain ⟨aY, cY, rfl⟩ := own_slice hownY
        replace S6 := Lib.hid S6
        clear S5 hsrc hownY hgY hatY d0 d1 d2
        go_wp2_with fail
        go_ret2
        refine ⟨aY, cY, by rw [hP2.out, hid.out, List.length_append]; rfl, ?_⟩
        rw [hP2.out, hid.out]
        unfold PlanS
        rw [List.length_append, List.flatMap_append]
        exact S6.out
end Go.Proofs.Ytgcdifabbaoomaa
