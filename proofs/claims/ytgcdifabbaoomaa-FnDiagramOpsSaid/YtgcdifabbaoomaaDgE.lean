/- Contracts: the plan of values, in the program. -/
import Derived.Test.YtgcdifabbaoomaaDgD
namespace Go.Proofs.Ytgcdifabbaoomaa
open Go.RowKit

/-- An own row of nodes can be read. -/
theorem nd_own {w : World} {B : Nat} {e : TypeId} {v : Value} {ns : List Nd} (h : w.ownsRow B e 3 v ns.length (ns.flatMap ndEnc)) (hok : ∀ x ∈ ns, ndOk x) : ∃ A c, v = .slice A ns.length c ∧ NdAt w A ns := by
  obtain ⟨_, ⟨rfl, h0⟩ | ⟨g, cap, cur, rfl, _, hh, _, _, hs, ht⟩⟩ := h
  · exact ⟨none, 0, by rw [h0], fun j hj => absurd hj (by omega), hok⟩
  · refine ⟨_, cap, rfl, fun j hj => ⟨g, 0, rfl, ?_⟩, hok⟩
    have key : ∀ i u, i < 3 → (ndEnc ns[j])[i]? = some u → w.cell? ⟨g, j * 3 + i, none⟩ = some u := fun i u hi hu => by
      have := Nat.mul_le_mul_right 3 (show j + 1 ≤ ns.length by omega)
      rw [hown_cell hh ht (by omega), flat_get (enc := ndEnc) (n := 3) (fun _ => rfl) ns j hj i hi, hu]
    refine ⟨?_, ?_, ?_⟩
    · have := key 0 _ (by decide) rfl; rw [Nat.zero_add]; exact this
    · have := key 1 _ (by decide) rfl; rw [Nat.zero_add]; exact this
    · have := key 2 _ (by decide) rfl; rw [Nat.zero_add]; exact this
theorem nd_small {vars : Int} {ns : List Nd} (h : OkN vars ns) (hv : vars ≤ 6) (hl : ns.length ≤ 1000000) : ∀ x ∈ ns, ndOk x := by
  intro x hx
  obtain ⟨i, hi, rfl⟩ := List.getElem_of_mem hx
  obtain ⟨h1, h2, h3, _⟩ := (ndB_get hi).1 (h i hi)
  unfold ndOk I64
  omega

theorem i64_nat (a b : Nat) (ha : a < 2 ^ 62) (hb : b < 2 ^ 62) : bits .or .i64 (a : Int) (b : Int) = ((a ||| b : Nat) : Int) ∧ bits .and .i64 (a : Int) (b : Int) = ((a &&& b : Nat) : Int) := by
  have h := bits_nat .i64 62 (by decide) (fun n h0 h1 => by rw [IntKind.wrap_i64]; have : (2 : Int) ^ 62 = 4611686018427387904 := by decide
                                                            omega) a b ha hb
  exact ⟨h.2, h.1⟩
theorem pow_small {v : Nat} (hv : v ≤ 6) : wrap64 ((2 : Int) ^ v) = ((2 ^ v : Nat) : Int) ∧ 2 ^ v ≤ 64 := by
  match v, hv with
  | 0, _ | 1, _ | 2, _ | 3, _ | 4, _ | 5, _ | 6, _ => exact ⟨by unfold wrap64; decide, by decide⟩
theorem or_pow {b u : Nat} (hb : b < 2 ^ u) (hu : u ≤ 6) : bits .or .i64 (b : Int) (wrap64 ((2 : Int) ^ u)) = ((b + 2 ^ u : Nat) : Int) := by
  obtain ⟨h1, h2⟩ := pow_small hu
  rw [h1, (i64_nat b (2 ^ u) (by omega) (by omega)).1, Nat.or_comm]
  have := Nat.two_pow_add_eq_or_of_lt hb 1
  rw [Nat.mul_one] at this
  rw [← this, Nat.add_comm]

theorem infoNd : (Try.prog.info? 67).map (fun i => (i.zero, i.size, i.bytes)) = some (some (.agg #[.int .i64 0, .int .i64 0, .int .i64 0]), 3, 24) := by kernel_rfl
theorem Src.three {w : World} {b : Nat} {x y z : Value} (h0 : w.cell? ⟨b, 0, none⟩ = some x) (h1 : w.cell? ⟨b, 1, none⟩ = some y) (h2 : w.cell? ⟨b, 2, none⟩ = some z) : Src w (some ⟨b, 0, none⟩) 1 3 [x, y, z] :=
  .inr ⟨_, rfl, rfl, fun j u hj => by
    match j, hj with
    | 0, hj => simp at hj; subst hj; rw [add_none]; exact h0
    | 1, hj => simp at hj; subst hj; rw [add_none]; exact h1
    | 2, hj => simp at hj; subst hj; rw [add_none]; exact h2⟩
theorem own_slice {w : World} {B : Nat} {e : TypeId} {size : Nat} {v : Value} {n : Nat} {xs : List Value} (h : w.ownsRow B e size v n xs) : ∃ a c, v = .slice a n c := by
  obtain ⟨_, ⟨rfl, rfl⟩ | ⟨g, cap, cur, rfl, _⟩⟩ := h
  · exact ⟨_, _, rfl⟩
  · exact ⟨_, _, rfl⟩

/-- What the plan holds while it is made. -/
abbrev PlanSp (w0 : World) (p : Nat) (vars : Nat) (g : FuncId) (cb : Array Value) (sv : Value) (ns : List Nd) (w : World) : Prop :=
  Sp w0 w [Box p 91 #[.int .i64 vars, .func (.func g) #[] cb, sv], Own 67 3 sv ns.length (ns.flatMap ndEnc)]
/-- A function of bits that only reads. -/
def FnOk (w0 : World) (vars : Nat) (g : FuncId) (cb : Array Value) (f : Nat → Bool) : Prop :=
  ∀ (b : Nat) w, b < 2 ^ vars → Below w0.heap.size w0 w → Calls Try.prog g (#[.int .i64 b] ++ cb) w fun e w' => e = .returned (.bool (f b)) ∧ Below w.heap.size w w'

set_option maxRecDepth 100000 in
set_option maxHeartbeats 8000000 in
theorem from_any {w0 : World} {p vars : Nat} {g : FuncId} {cb : Array Value} {f : Nat → Bool} (hvars : vars ≤ 6) (eg : ∀ args w, (callFunc g args).run Try.prog w = .ok (.enter g args) w) (hfn : FnOk w0 vars g cb f) :
    ∀ (k v b : Nat) (ns : List Nd) (sv : Value) (w : World), v + k = vars + 1 → 1 ≤ v → b < 2 ^ (v - 1) → OkN vars ns → ns.length + 2 ^ k ≤ 1000 → PlanSp w0 p vars g cb sv ns w →
    Calls Try.prog 79 #[.pointer (some ⟨p, 0, none⟩), .int .i64 v, .int .i64 b] w fun e w' => ∃ sv', e = .returned (.int .i64 (planF f k v b ns).2) ∧ PlanSp w0 p vars g cb sv' (planF f k v b ns).1 w'
  | 0, v, b, ns, sv, w, hk, hv, hb, hok, hl, HS => by
    have hb' : b < 2 ^ vars := by rw [show vars = v - 1 by omega]; exact hb
    have c0 := HS.cell (i := 0) rfl (o := 0) rfl
    have c1 := HS.cell (i := 0) rfl (o := 1) rfl
    have hcall := Lib.hid (hfn b w hb' HS.below)
    have hgt : (vars : Int) < (v : Int) := by omega
    clear hb hb' hok hl hk hfn
    replace HS := Lib.hid HS
    obtain ⟨q, hq⟩ : ∃ q, f b = q := ⟨_, rfl⟩
    rw [hq] at hcall
    have hP : Hid (planF f 0 v b ns = (ns, if q then 1 else 0)) := by unfold Hid; rw [planF, hq]
    cases q
    · go_enter Try.func79, Try.ntmps79
      go_wp2_with fail
      refine hcall.out.mono ?_
      rintro e w1 ⟨rfl, hb1⟩
      have HS2 := Lib.hid (HS.out.grow hb1)
      clear HS hb1 hcall
      go_wp2_with fail
      go_ret
      exact ⟨sv, ret_int (by rw [hP.out]; rfl), by rw [hP.out]; exact HS2.out⟩
    · go_enter Try.func79, Try.ntmps79
      go_wp2_with fail
      refine hcall.out.mono ?_
      rintro e w1 ⟨rfl, hb1⟩
      have HS2 := Lib.hid (HS.out.grow hb1)
      clear HS hb1 hcall
      go_wp2_with fail
      go_ret
      exact ⟨sv, ret_int (by rw [hP.out]; rfl), by rw [hP.out]; exact HS2.out⟩
  | k + 1, v, b, ns, sv, w, hk, hv, hb, hok, hl, HS => by
    have hp : 2 ^ (v + 1 - 1) = 2 ^ (v - 1) + 2 ^ (v - 1) := by
      rw [show v + 1 - 1 = (v - 1) + 1 by omega, Nat.pow_succ]; omega
    have hpk : 2 ^ (k + 1) = 2 ^ k + 2 ^ k := by rw [Nat.pow_succ]; omega
    have hpos : 0 < 2 ^ k := Nat.two_pow_pos k
    have m1 := plan_made f vars k (v + 1) b ns (by omega) (by omega) (by omega) hok
    have hrec1 := Lib.hid (from_any hvars eg hfn k (v + 1) b ns sv w (by omega) (by omega) (by omega) hok (by omega) HS)
    have hP := Lib.hid (planF.eq_2 f v b ns k)
    generalize planF f k (v + 1) b ns = X1 at m1 hrec1 hP
    obtain ⟨ns1, lo⟩ := X1
    dsimp only at m1 hrec1 hP
    have hl1 : ns1.length + 1 ≤ ns.length + 2 ^ k := m1.len
    have m2 := plan_made f vars k (v + 1) (b + 2 ^ (v - 1)) ns1 (by omega) (by omega) (by omega) m1.ok
    have hrec2 := Lib.hid (fun sv w (h : PlanSp w0 p vars g cb sv ns1 w) => from_any hvars eg hfn k (v + 1) (b + 2 ^ (v - 1)) ns1 sv w (by omega) (by omega) (by omega) m1.ok (by omega) h)
    generalize planF f k (v + 1) (b + 2 ^ (v - 1)) ns1 = X2 at m2 hrec2 hP
    obtain ⟨ns2, hi⟩ := X2
    dsimp only at m2 hrec2 hP
    have hl2 : ns2.length + 1 ≤ ns1.length + 2 ^ k := m2.len
    have c0 := HS.cell (i := 0) rfl (o := 0) rfl
    have hgt : ¬ (vars : Int) < (v : Int) := by omega
    have hor := or_pow hb (by omega)
    have hok2 := Lib.hid (nd_small m2.ok (by omega) (by omega))
    have hrl : 0 ≤ lo ∧ lo ≤ 1000 := ⟨m1.r0, by have := m1.r1; omega⟩
    have hrh : 0 ≤ hi ∧ hi ≤ 1000 := ⟨m2.r0, by have := m2.r1; omega⟩
    have hl3 : ns2.length ≤ 1000 := by omega
    have hv1 : (v : Int) ≤ 6 := by omega
    have hvw : IntKind.i64.wrap ((v : Int) + 1) = ((v + 1 : Nat) : Int) := by rw [IntWalk.i64_in _ (by omega)]; omega
    have hcast : ((b + 2 ^ (v - 1) : Nat) : Int) = (b : Int) + 2 ^ (v - 1) := by rw [Int.natCast_add, Int.natCast_pow]; rfl
    rw [hcast] at hrec2 hor
    replace HS := Lib.hid HS
    clear m1 m2 hok hl hpk hp hfn hb hl1 hl2
    go_enter Try.func79, Try.ntmps79
    go_wp2_with fail
    refine hrec1.out.mono ?_
    rintro e w1 ⟨sv1, rfl, HS1⟩
    replace HS1 := Lib.hid HS1
    clear HS hrec1 c0
    go_wp2_with fail
    refine (hrec2.out sv1 w1 HS1.out).mono ?_
    rintro e w2 ⟨sv2, rfl, HS2⟩
    obtain ⟨A, c, rfl, hN⟩ := nd_own (HS2.own (i := 1) rfl) hok2.out
    replace HS2 := Lib.hid HS2
    replace hN := Lib.hid hN
    clear HS1 hrec2
    by_cases heq : lo = hi
    · have hP2 : Hid (planF f (k + 1) v b ns = (ns2, lo)) := by unfold Hid; exact hP.out.trans (if_pos heq)
      subst heq
      clear hP hN hor
      go_wp2_with fail
      go_ret
      exact ⟨_, ret_int (by rw [hP2.out]), by rw [hP2.out]; exact HS2.out⟩
    have hP2 : Hid (planF f (k + 1) v b ns = addN ns2 ⟨v, lo, hi⟩) := by unfold Hid; exact hP.out.trans (if_neg heq)
    clear hP hor
    have HS3 := HS2.out.alloc_box #[.int .i64 v, .int .i64 lo, .int .i64 hi] 67
    have d0 := cell_regrown (HS3.cell (i := 0) rfl (o := 0) rfl)
    have d1 := cell_regrown (HS3.cell (i := 0) rfl (o := 1) rfl)
    have d2 := cell_regrown (HS3.cell (i := 0) rfl (o := 2) rfl)
    have e2 := cell_regrown (HS3.cell (i := 1) rfl (o := 2) rfl)
    have hix := Lib.hid (fun w hb => indexNd_any ⟨v, lo, hi⟩ A c ns2 w (hN.out.grow hb) (by omega))
    replace HS3 := Lib.hid HS3
    clear HS2
    have hsz : ∀ d os, («Sort».grow (redrawn (w2.alloc (.cells #[.int .i64 v, .int .i64 lo, .int .i64 hi] 67)) d) os) = («Sort».grow (redrawn (w2.alloc (.cells #[.int .i64 v, .int .i64 lo, .int .i64 hi] 67)) d) os) := fun _ _ => rfl
    clear hsz
    by_cases hin : (⟨v, lo, hi⟩ : Nd) ∈ ns2
    · have hil := List.idxOf_lt_length_of_mem hin
      have hid : Hid (addN ns2 ⟨v, lo, hi⟩ = (ns2, ((ns2.idxOf ⟨v, lo, hi⟩ : Nat) : Int) + 2)) := by unfold Hid addN; rw [if_pos hin]
      have hii : idxN ns2 ⟨v, lo, hi⟩ = ((ns2.idxOf ⟨v, lo, hi⟩ : Nat) : Int) := by unfold idxN; rw [if_pos hin]
      rw [hii] at hix
      generalize ns2.idxOf ⟨v, lo, hi⟩ = q at hil hid hix
      clear hii hin
      go_wp2_with fail
      refine wp_region_quiet_below (by kernel_rfl) (by kernel_rfl) ?_
      repeat (any_goals (go_big_quiet_step ((go_at_call 98; exact Calls.regrown_of (hix.out _ ((bal (bb _) _).trans ((below_regrown _ _ _).mono (by simp))))))))
      refine wpQuiet_nil ?_
      rintro w3 ⟨pp, rfl⟩
      have HS4 := Lib.hid (HS3.out.grow (below_regrown _ pp.d pp.os)).tail
      clear HS3 d0 d1 d2 e2 hix hN
      go_wp2_with fail
      go_ret
      exact ⟨_, ret_int (by rw [hP2.out, hid.out]), by rw [hP2.out, hid.out]; exact HS4.out⟩
    · obtain ⟨i0, hi0, hz0, hz1, hz2⟩ := info_parts infoNd
      have hid : Hid (addN ns2 ⟨v, lo, hi⟩ = (ns2 ++ [⟨v, lo, hi⟩], ((ns2.length : Nat) : Int) + 2)) := by unfold Hid addN; rw [if_neg hin]
      have hii : idxN ns2 ⟨v, lo, hi⟩ = -1 := by unfold idxN; rw [if_neg hin]
      rw [hii] at hix
      clear hii hin
      go_wp2_with fail
      refine wp_region_quiet_below (by kernel_rfl) (by kernel_rfl) ?_
      repeat (any_goals (go_big_quiet_step ((go_at_call 98; exact Calls.regrown_of (hix.out _ ((bal (bb _) _).trans ((below_regrown _ _ _).mono (by simp))))))))
      refine wpQuiet_nil ?_
      rintro w3 ⟨pp, hw3⟩
      have HS4 := HS3.out.grow (w' := w3) (hw3 ▸ below_regrown _ pp.d pp.os)
      have f0 := HS4.cell (i := 0) rfl (o := 0) rfl
      have f1 := HS4.cell (i := 0) rfl (o := 1) rfl
      have f2 := HS4.cell (i := 0) rfl (o := 2) rfl
      have g2 := HS4.cell (i := 1) rfl (o := 2) rfl
      have hpl := (HS4.box (i := 1) rfl).2.1
      replace HS4 := Lib.hid HS4
      clear hw3 HS3 d0 d1 d2 e2 hix hN
      go_wp2_with fail
      refine wp_region_tail_lit (S := (fun w' => w'.cell? ⟨p, 2, none⟩ = some (.slice A ns2.length c) ∧ w'.cell? ⟨w2.heap.size, 0, none⟩ = some (.int .i64 v) ∧ w'.cell? ⟨w2.heap.size, 1, none⟩ = some (.int .i64 lo) ∧ w'.cell? ⟨w2.heap.size, 2, none⟩ = some (.int .i64 hi))) 8 [false, false, false, false, false, false, false, false, false, false, false] (by kernel_rfl) (by kernel_rfl) (by kernel_rfl) ?_ ?_
      · exact ⟨g2, f0, f1, f2⟩
      intro hS
      (refine walkT_take (i := 0) (v := ?_) rfl (by kernel_rfl) (by decide) (by kernel_rfl) (by kernel_rfl) (fun _ _ _ h => h) (Or.inl ⟨by rfl, ?_⟩) (by assumption) ?_; rotate_left; (focus (intro w hSw; (try dsimp only at hSw); go_simp; (try with_reducible rfl); done)); (try simp only [put_rules]))
      (refine walkT_take (i := 1) (v := ?_) rfl (by kernel_rfl) (by decide) (by kernel_rfl) (by kernel_rfl) (fun _ _ _ h => h) (Or.inl ⟨by rfl, ?_⟩) (by assumption) ?_; rotate_left; (focus (intro w hSw; (try dsimp only at hSw); go_simp; (try with_reducible rfl); done)); (try simp only [put_rules]))
      (refine walkT_take (i := 2) (v := ?_) rfl (by kernel_rfl) (by decide) (by kernel_rfl) (by kernel_rfl) (fun _ _ _ h => h) (Or.inl ⟨by rfl, ?_⟩) (by assumption) ?_; rotate_left; (focus (intro w hSw; (try dsimp only at hSw); go_simp; (try with_reducible rfl); done)); (try simp only [put_rules]))
      (refine walkT_take (i := 3) (v := ?_) rfl (by kernel_rfl) (by decide) (by kernel_rfl) (by kernel_rfl) (fun _ _ _ h => h) (Or.inl ⟨by rfl, ?_⟩) (by assumption) ?_; rotate_left; (focus (intro w hSw; (try dsimp only at hSw); go_simp; (try with_reducible rfl); done)); (try simp only [put_rules]))
      (refine walkT_take (i := 4) (v := ?_) rfl (by kernel_rfl) (by decide) (by kernel_rfl) (by kernel_rfl) (fun _ _ _ h => h) (Or.inl ⟨by rfl, ?_⟩) (by assumption) ?_; rotate_left; (focus (intro w hSw; (try dsimp only at hSw); go_simp; (try with_reducible rfl); done)); (try simp only [put_rules]))
      (refine walkT_take (i := 5) (v := ?_) rfl (by kernel_rfl) (by decide) (by kernel_rfl) (by kernel_rfl) (fun _ _ _ h => h) (Or.inl ⟨by rfl, ?_⟩) (by assumption) ?_; rotate_left; (focus (intro w hSw; (try dsimp only at hSw); go_simp; (try with_reducible rfl); done)); (try simp only [put_rules]))
      (refine walkT_ready (rs := [6]) (by kernel_rfl) (by simp) (by decide) ?_; refine AllT.cons rfl (fun K hK => ?_) AllT.nil)
      go_simp
      have S5 := HS4.out.alloc_box #[.int .i64 v, .int .i64 lo, .int .i64 hi] 67
      replace S5 := Lib.hid S5
      refine hK.out _ _ ?_ (fun _ => ?_)
      · exact ⟨S5.out.cell (i := 2) rfl (o := 2) rfl, S5.out.cell (i := 1) rfl (o := 0) rfl, S5.out.cell (i := 1) rfl (o := 1) rfl, S5.out.cell (i := 1) rfl (o := 2) rfl⟩
      clear hK HS4
      (try simp only [put_rules])
      (refine walkT_ready (rs := [7]) (by kernel_rfl) (by simp) (by decide) ?_; refine AllT.cons rfl (fun K hK => ?_) AllT.nil)
      (refine step_append_src rfl _ _ rfl Try.underlying24 hi0 hz0 hz1 hz2 rfl (by decide) _ ns2.length _ rfl (S5.out.own (i := 3) rfl) _ 1 1 [.int .i64 v, .int .i64 lo, .int .i64 hi] rfl (Src.three (S5.out.cell (i := 0) rfl (o := 0) rfl) (S5.out.cell (i := 0) rfl (o := 1) rfl) (S5.out.cell (i := 0) rfl (o := 2) rfl)) (by simp [Value.oneCell']) (by unfold maxLen; omega) (by omega) ?_; intro vE wE hownE hgE hatE)
      have S6 := S5.out.drew.own_push (i := 3) rfl (bb _) hownE hgE hatE
      obtain ⟨aE, cE, rfl⟩ := own_slice hownE
      refine hK.out _ _ ?_ (fun _ => ?_)
      · exact ⟨S6.cell (i := 2) rfl (o := 2) rfl, S6.cell (i := 1) rfl (o := 0) rfl, S6.cell (i := 1) rfl (o := 1) rfl, S6.cell (i := 1) rfl (o := 2) rfl⟩
      clear hK S5 hownE hgE hatE
      have hfz := S6.frozen (i := 2) rfl 2
      have hc6 := S6.cell (i := 2) rfl (o := 2) rfl
      have S7 := Lib.hid ((S6.store (i := 2) rfl 2 (.slice aE (ns2.length + 1) cE)).tail).tail
      clear S6
      (try simp only [put_rules])
      (refine walkT_done (by kernel_rfl) ?_)
      simp only [List.drop_succ_cons, List.drop_zero]
      go_wp2_with fail
      go_ret
      refine ⟨ret_int (by rw [hP2.out, hid.out]), .slice aE (ns2.length + 1) cE, ?_⟩
      rw [hP2.out, hid.out]
      unfold PlanSp
      rw [List.length_append, List.flatMap_append]
      exact S7.out
end Go.Proofs.Ytgcdifabbaoomaa
