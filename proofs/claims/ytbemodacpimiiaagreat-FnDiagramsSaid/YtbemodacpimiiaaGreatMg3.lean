/- Lemmas and contracts for a law, put together out of several texts: DgE DgF DuA DgG DgI DgJ DgK. -/
import Derived.Test.YtbemodacpimiiaaGreatMg2
import Derived.Shelf.Abstract
/- Contracts: the plan of values, in the program. -/
namespace Go.Proofs.YtbemodacpimiiaaGreat
open Go.RowKit

/-- An own row of nodes can be read. -/
theorem nd_own {w : World} {B : Nat} {e : TypeId} {v : Value} {ns : List Nd} (h : w.ownsRow B e 3 v ns.length (ns.flatMap ndEnc)) (hok : ∀ x ∈ ns, ndOk x) : ∃ A c, v = .slice A ns.length c ∧ NdAt w A ns := by
  obtain ⟨_, ⟨rfl, h0⟩ | ⟨g, cap, cur, rfl, _, hh, _, _, hs, ht⟩⟩ := h
  · exact ⟨none, 0, by rw [h0], fun j hj => absurd hj (by omega), hok⟩
  · refine ⟨_, cap, rfl, fun j hj => ⟨g, 0, rfl, ?_⟩, hok⟩
    have key : ∀ i u, i < 3 → (ndEnc ns[j])[i]? = some u → w.cell? ⟨g, j * 3 + i, none⟩ = some u := fun i u hi hu => by
      have := Nat.mul_le_mul_right 3 (show j + 1 ≤ ns.length by omega)
      rw [hown_cell hh ht (by omega), flat_get (enc := ndEnc) (n := 3) (fun _ => rfl) ns j hj i hi, hu]
    refine ⟨?_, ?_, ?_⟩
    · have := key 0 _ (by decide) rfl; rw [Nat.zero_add]; exact this
    · have := key 1 _ (by decide) rfl; rw [Nat.zero_add]; exact this
    · have := key 2 _ (by decide) rfl; rw [Nat.zero_add]; exact this
theorem nd_small {vars : Int} {ns : List Nd} (h : OkN vars ns) (hv : vars ≤ 6) (hl : ns.length ≤ 1000000) : ∀ x ∈ ns, ndOk x := by
  intro x hx
  obtain ⟨i, hi, rfl⟩ := List.getElem_of_mem hx
  obtain ⟨h1, h2, h3, _⟩ := (ndB_get hi).1 (h i hi)
  unfold ndOk I64
  omega

theorem i64_nat (a b : Nat) (ha : a < 2 ^ 62) (hb : b < 2 ^ 62) : bits .or .i64 (a : Int) (b : Int) = ((a ||| b : Nat) : Int) ∧ bits .and .i64 (a : Int) (b : Int) = ((a &&& b : Nat) : Int) := by
  have h := bits_nat .i64 62 (by decide) (fun n h0 h1 => by rw [IntKind.wrap_i64]; have : (2 : Int) ^ 62 = 4611686018427387904 := by decide
                                                            omega) a b ha hb
  exact ⟨h.2, h.1⟩
theorem pow_small {v : Nat} (hv : v ≤ 6) : wrap64 ((2 : Int) ^ v) = ((2 ^ v : Nat) : Int) ∧ 2 ^ v ≤ 64 := by
  match v, hv with
  | 0, _ | 1, _ | 2, _ | 3, _ | 4, _ | 5, _ | 6, _ => exact ⟨by unfold wrap64; decide, by decide⟩
theorem or_pow {b u : Nat} (hb : b < 2 ^ u) (hu : u ≤ 6) : bits .or .i64 (b : Int) (wrap64 ((2 : Int) ^ u)) = ((b + 2 ^ u : Nat) : Int) := by
  obtain ⟨h1, h2⟩ := pow_small hu
  rw [h1, (i64_nat b (2 ^ u) (by omega) (by omega)).1, Nat.or_comm]
  have := Nat.two_pow_add_eq_or_of_lt hb 1
  rw [Nat.mul_one] at this
  rw [← this, Nat.add_comm]

theorem infoNd : (Tryz.prog.info? 71).map (fun i => (i.zero, i.size, i.bytes)) = some (some (.agg #[.int .i64 0, .int .i64 0, .int .i64 0]), 3, 24) := by kernel_rfl
theorem Src.three {w : World} {b : Nat} {x y z : Value} (h0 : w.cell? ⟨b, 0, none⟩ = some x) (h1 : w.cell? ⟨b, 1, none⟩ = some y) (h2 : w.cell? ⟨b, 2, none⟩ = some z) : Src w (some ⟨b, 0, none⟩) 1 3 [x, y, z] :=
  .inr ⟨_, rfl, rfl, fun j u hj => by
    match j, hj with
    | 0, hj => simp at hj; subst hj; rw [add_none]; exact h0
    | 1, hj => simp at hj; subst hj; rw [add_none]; exact h1
    | 2, hj => simp at hj; subst hj; rw [add_none]; exact h2⟩
/-- What the plan holds while it is made. -/
abbrev PlanSp (w0 : World) (p : Nat) (vars : Nat) (g : FuncId) (cb : Array Value) (sv : Value) (ns : List Nd) (w : World) : Prop :=
  Sp w0 w [Box p 113 #[.int .i64 vars, .func (.func g) #[] cb, sv], Own 71 3 sv ns.length (ns.flatMap ndEnc)]
/-- A function of bits that only reads. -/
def FnOk (w0 : World) (vars : Nat) (g : FuncId) (cb : Array Value) (f : Nat → Bool) : Prop :=
  ∀ (b : Nat) w, b < 2 ^ vars → Below w0.heap.size w0 w → Calls Tryz.prog g (#[.int .i64 b] ++ cb) w fun e w' => e = .returned (.bool (f b)) ∧ Below w.heap.size w w'

set_option maxRecDepth 100000 in
set_option maxHeartbeats 8000000 in
theorem from_any {w0 : World} {p vars : Nat} {g : FuncId} {cb : Array Value} {f : Nat → Bool} (hvars : vars ≤ 6) (eg : ∀ args w, (callFunc g args).run Tryz.prog w = .ok (.enter g args) w) (hfn : FnOk w0 vars g cb f) :
    ∀ (k v b : Nat) (ns : List Nd) (sv : Value) (w : World), v + k = vars + 1 → 1 ≤ v → b < 2 ^ (v - 1) → OkN vars ns → ns.length + 2 ^ k ≤ 1000 → PlanSp w0 p vars g cb sv ns w →
    Calls Tryz.prog 100 #[.pointer (some ⟨p, 0, none⟩), .int .i64 v, .int .i64 b] w fun e w' => ∃ sv', e = .returned (.int .i64 (planF f k v b ns).2) ∧ PlanSp w0 p vars g cb sv' (planF f k v b ns).1 w'
  | 0, v, b, ns, sv, w, hk, hv, hb, hok, hl, HS => by
    have hb' : b < 2 ^ vars := by rw [show vars = v - 1 by omega]; exact hb
    have c0 := HS.cell (i := 0) rfl (o := 0) rfl
    have c1 := HS.cell (i := 0) rfl (o := 1) rfl
    have hcall := Lib.hid (hfn b w hb' HS.below)
    have hgt : (vars : Int) < (v : Int) := by omega
    clear hb hb' hok hl hk hfn
    replace HS := Lib.hid HS
    obtain ⟨q, hq⟩ : ∃ q, f b = q := ⟨_, rfl⟩
    rw [hq] at hcall
    have hP : Hid (planF f 0 v b ns = (ns, if q then 1 else 0)) := by unfold Hid; rw [planF, hq]
    cases q
    · go_enter Tryz.func100, Tryz.ntmps100
      go_wp2_with fail
      refine hcall.out.mono ?_
      rintro e w1 ⟨rfl, hb1⟩
      have HS2 := Lib.hid (HS.out.grow hb1)
      clear HS hb1 hcall
      go_wp2_with fail
      go_ret
      exact ⟨sv, ret_int (by rw [hP.out]; rfl), by rw [hP.out]; exact HS2.out⟩
    · go_enter Tryz.func100, Tryz.ntmps100
      go_wp2_with fail
      refine hcall.out.mono ?_
      rintro e w1 ⟨rfl, hb1⟩
      have HS2 := Lib.hid (HS.out.grow hb1)
      clear HS hb1 hcall
      go_wp2_with fail
      go_ret
      exact ⟨sv, ret_int (by rw [hP.out]; rfl), by rw [hP.out]; exact HS2.out⟩
  | k + 1, v, b, ns, sv, w, hk, hv, hb, hok, hl, HS => by
    have hp : 2 ^ (v + 1 - 1) = 2 ^ (v - 1) + 2 ^ (v - 1) := by
      rw [show v + 1 - 1 = (v - 1) + 1 by omega, Nat.pow_succ]; omega
    have hpk : 2 ^ (k + 1) = 2 ^ k + 2 ^ k := by rw [Nat.pow_succ]; omega
    have hpos : 0 < 2 ^ k := Nat.two_pow_pos k
    have m1 := plan_made f vars k (v + 1) b ns (by omega) (by omega) (by omega) hok
    have hrec1 := Lib.hid (from_any hvars eg hfn k (v + 1) b ns sv w (by omega) (by omega) (by omega) hok (by omega) HS)
    have hP := Lib.hid (planF.eq_2 f v b ns k)
    generalize planF f k (v + 1) b ns = X1 at m1 hrec1 hP
    obtain ⟨ns1, lo⟩ := X1
    dsimp only at m1 hrec1 hP
    have hl1 : ns1.length + 1 ≤ ns.length + 2 ^ k := m1.len
    have m2 := plan_made f vars k (v + 1) (b + 2 ^ (v - 1)) ns1 (by omega) (by omega) (by omega) m1.ok
    have hrec2 := Lib.hid (fun sv w (h : PlanSp w0 p vars g cb sv ns1 w) => from_any hvars eg hfn k (v + 1) (b + 2 ^ (v - 1)) ns1 sv w (by omega) (by omega) (by omega) m1.ok (by omega) h)
    generalize planF f k (v + 1) (b + 2 ^ (v - 1)) ns1 = X2 at m2 hrec2 hP
    obtain ⟨ns2, hi⟩ := X2
    dsimp only at m2 hrec2 hP
    have hl2 : ns2.length + 1 ≤ ns1.length + 2 ^ k := m2.len
    have c0 := HS.cell (i := 0) rfl (o := 0) rfl
    have hgt : ¬ (vars : Int) < (v : Int) := by omega
    have hor := or_pow hb (by omega)
    have hok2 := Lib.hid (nd_small m2.ok (by omega) (by omega))
    have hrl : 0 ≤ lo ∧ lo ≤ 1000 := ⟨m1.r0, by have := m1.r1; omega⟩
    have hrh : 0 ≤ hi ∧ hi ≤ 1000 := ⟨m2.r0, by have := m2.r1; omega⟩
    have hl3 : ns2.length ≤ 1000 := by omega
    have hv1 : (v : Int) ≤ 6 := by omega
    have hvw : IntKind.i64.wrap ((v : Int) + 1) = ((v + 1 : Nat) : Int) := by rw [IntWalk.i64_in _ (by omega)]; omega
    have hcast : ((b + 2 ^ (v - 1) : Nat) : Int) = (b : Int) + 2 ^ (v - 1) := by rw [Int.natCast_add, Int.natCast_pow]; rfl
    rw [hcast] at hrec2 hor
    replace HS := Lib.hid HS
    clear m1 m2 hok hl hpk hp hfn hb hl1 hl2
    go_enter Tryz.func100, Tryz.ntmps100
    go_wp2_with fail
    refine hrec1.out.mono ?_
    rintro e w1 ⟨sv1, rfl, HS1⟩
    replace HS1 := Lib.hid HS1
    clear HS hrec1 c0
    go_wp2_with fail
    refine (hrec2.out sv1 w1 HS1.out).mono ?_
    rintro e w2 ⟨sv2, rfl, HS2⟩
    obtain ⟨A, c, rfl, hN⟩ := nd_own (HS2.own (i := 1) rfl) hok2.out
    replace HS2 := Lib.hid HS2
    replace hN := Lib.hid hN
    clear HS1 hrec2
    by_cases heq : lo = hi
    · have hP2 : Hid (planF f (k + 1) v b ns = (ns2, lo)) := by unfold Hid; exact hP.out.trans (if_pos heq)
      subst heq
      clear hP hN hor
      go_wp2_with fail
      go_ret
      exact ⟨_, ret_int (by rw [hP2.out]), by rw [hP2.out]; exact HS2.out⟩
    have hP2 : Hid (planF f (k + 1) v b ns = addN ns2 ⟨v, lo, hi⟩) := by unfold Hid; exact hP.out.trans (if_neg heq)
    clear hP hor
    have HS3 := HS2.out.alloc_box #[.int .i64 v, .int .i64 lo, .int .i64 hi] 71
    have d0 := cell_regrown (HS3.cell (i := 0) rfl (o := 0) rfl)
    have d1 := cell_regrown (HS3.cell (i := 0) rfl (o := 1) rfl)
    have d2 := cell_regrown (HS3.cell (i := 0) rfl (o := 2) rfl)
    have e2 := cell_regrown (HS3.cell (i := 1) rfl (o := 2) rfl)
    have hix := Lib.hid (fun w hb => indexNd_any ⟨v, lo, hi⟩ A c ns2 w (hN.out.grow hb) (by omega))
    replace HS3 := Lib.hid HS3
    clear HS2
    have hsz : ∀ d os, («Sort».grow (redrawn (w2.alloc (.cells #[.int .i64 v, .int .i64 lo, .int .i64 hi] 71)) d) os) = («Sort».grow (redrawn (w2.alloc (.cells #[.int .i64 v, .int .i64 lo, .int .i64 hi] 71)) d) os) := fun _ _ => rfl
    clear hsz
    by_cases hin : (⟨v, lo, hi⟩ : Nd) ∈ ns2
    · have hil := List.idxOf_lt_length_of_mem hin
      have hid : Hid (addN ns2 ⟨v, lo, hi⟩ = (ns2, ((ns2.idxOf ⟨v, lo, hi⟩ : Nat) : Int) + 2)) := by unfold Hid addN; rw [if_pos hin]
      have hii : idxN ns2 ⟨v, lo, hi⟩ = ((ns2.idxOf ⟨v, lo, hi⟩ : Nat) : Int) := by unfold idxN; rw [if_pos hin]
      rw [hii] at hix
      generalize ns2.idxOf ⟨v, lo, hi⟩ = q at hil hid hix
      clear hii hin
      go_wp2_with fail
      refine wp_region_quiet_below (by kernel_rfl) (by kernel_rfl) ?_
      repeat (any_goals (go_big_quiet_step ((go_at_call 126; exact Calls.regrown_of (hix.out _ ((bal (bb _) _).trans ((below_regrown _ _ _).mono (by simp))))))))
      refine wpQuiet_nil ?_
      rintro w3 ⟨pp, rfl⟩
      have HS4 := Lib.hid (HS3.out.grow (below_regrown _ pp.d pp.os)).tail
      clear HS3 d0 d1 d2 e2 hix hN
      go_wp2_with fail
      go_ret
      exact ⟨_, ret_int (by rw [hP2.out, hid.out]), by rw [hP2.out, hid.out]; exact HS4.out⟩
    · obtain ⟨i0, hi0, hz0, hz1, hz2⟩ := info_parts infoNd
      have hid : Hid (addN ns2 ⟨v, lo, hi⟩ = (ns2 ++ [⟨v, lo, hi⟩], ((ns2.length : Nat) : Int) + 2)) := by unfold Hid addN; rw [if_neg hin]
      have hii : idxN ns2 ⟨v, lo, hi⟩ = -1 := by unfold idxN; rw [if_neg hin]
      rw [hii] at hix
      clear hii hin
      go_wp2_with fail
      refine wp_region_quiet_below (by kernel_rfl) (by kernel_rfl) ?_
      repeat (any_goals (go_big_quiet_step ((go_at_call 126; exact Calls.regrown_of (hix.out _ ((bal (bb _) _).trans ((below_regrown _ _ _).mono (by simp))))))))
      refine wpQuiet_nil ?_
      rintro w3 ⟨pp, hw3⟩
      have HS4 := HS3.out.grow (w' := w3) (hw3 ▸ below_regrown _ pp.d pp.os)
      have f0 := HS4.cell (i := 0) rfl (o := 0) rfl
      have f1 := HS4.cell (i := 0) rfl (o := 1) rfl
      have f2 := HS4.cell (i := 0) rfl (o := 2) rfl
      have g2 := HS4.cell (i := 1) rfl (o := 2) rfl
      have hpl := (HS4.box (i := 1) rfl).2.1
      replace HS4 := Lib.hid HS4
      clear hw3 HS3 d0 d1 d2 e2 hix hN
      go_wp2_with fail
      refine wp_region_tail_lit (S := (fun w' => w'.cell? ⟨p, 2, none⟩ = some (.slice A ns2.length c) ∧ w'.cell? ⟨w2.heap.size, 0, none⟩ = some (.int .i64 v) ∧ w'.cell? ⟨w2.heap.size, 1, none⟩ = some (.int .i64 lo) ∧ w'.cell? ⟨w2.heap.size, 2, none⟩ = some (.int .i64 hi))) 8 [false, false, false, false, false, false, false, false, false, false, false] (by kernel_rfl) (by kernel_rfl) (by kernel_rfl) ?_ ?_
      · exact ⟨g2, f0, f1, f2⟩
      intro hS
      (refine walkT_take (i := 0) (v := ?_) rfl (by kernel_rfl) (by decide) (by kernel_rfl) (by kernel_rfl) (fun _ _ _ h => h) (Or.inl ⟨by rfl, ?_⟩) (by assumption) ?_; rotate_left; (focus (intro w hSw; (try dsimp only at hSw); go_simp; (try with_reducible rfl); done)); (try simp only [put_rules]))
      (refine walkT_take (i := 1) (v := ?_) rfl (by kernel_rfl) (by decide) (by kernel_rfl) (by kernel_rfl) (fun _ _ _ h => h) (Or.inl ⟨by rfl, ?_⟩) (by assumption) ?_; rotate_left; (focus (intro w hSw; (try dsimp only at hSw); go_simp; (try with_reducible rfl); done)); (try simp only [put_rules]))
      (refine walkT_take (i := 2) (v := ?_) rfl (by kernel_rfl) (by decide) (by kernel_rfl) (by kernel_rfl) (fun _ _ _ h => h) (Or.inl ⟨by rfl, ?_⟩) (by assumption) ?_; rotate_left; (focus (intro w hSw; (try dsimp only at hSw); go_simp; (try with_reducible rfl); done)); (try simp only [put_rules]))
      (refine walkT_take (i := 3) (v := ?_) rfl (by kernel_rfl) (by decide) (by kernel_rfl) (by kernel_rfl) (fun _ _ _ h => h) (Or.inl ⟨by rfl, ?_⟩) (by assumption) ?_; rotate_left; (focus (intro w hSw; (try dsimp only at hSw); go_simp; (try with_reducible rfl); done)); (try simp only [put_rules]))
      (refine walkT_take (i := 4) (v := ?_) rfl (by kernel_rfl) (by decide) (by kernel_rfl) (by kernel_rfl) (fun _ _ _ h => h) (Or.inl ⟨by rfl, ?_⟩) (by assumption) ?_; rotate_left; (focus (intro w hSw; (try dsimp only at hSw); go_simp; (try with_reducible rfl); done)); (try simp only [put_rules]))
      (refine walkT_take (i := 5) (v := ?_) rfl (by kernel_rfl) (by decide) (by kernel_rfl) (by kernel_rfl) (fun _ _ _ h => h) (Or.inl ⟨by rfl, ?_⟩) (by assumption) ?_; rotate_left; (focus (intro w hSw; (try dsimp only at hSw); go_simp; (try with_reducible rfl); done)); (try simp only [put_rules]))
      (refine walkT_ready (rs := [6]) (by kernel_rfl) (by simp) (by decide) ?_; refine AllT.cons rfl (fun K hK => ?_) AllT.nil)
      go_simp
      have S5 := HS4.out.alloc_box #[.int .i64 v, .int .i64 lo, .int .i64 hi] 71
      replace S5 := Lib.hid S5
      refine hK.out _ _ ?_ (fun _ => ?_)
      · exact ⟨S5.out.cell (i := 2) rfl (o := 2) rfl, S5.out.cell (i := 1) rfl (o := 0) rfl, S5.out.cell (i := 1) rfl (o := 1) rfl, S5.out.cell (i := 1) rfl (o := 2) rfl⟩
      clear hK HS4
      (try simp only [put_rules])
      (refine walkT_ready (rs := [7]) (by kernel_rfl) (by simp) (by decide) ?_; refine AllT.cons rfl (fun K hK => ?_) AllT.nil)
      (refine step_append_src rfl _ _ rfl Tryz.underlying24 hi0 hz0 hz1 hz2 rfl (by decide) _ ns2.length _ rfl (S5.out.own (i := 3) rfl) _ 1 1 [.int .i64 v, .int .i64 lo, .int .i64 hi] rfl (Src.three (S5.out.cell (i := 0) rfl (o := 0) rfl) (S5.out.cell (i := 0) rfl (o := 1) rfl) (S5.out.cell (i := 0) rfl (o := 2) rfl)) (by simp [Value.oneCell']) (by unfold maxLen; omega) (by omega) ?_; intro vE wE hownE hgE hatE)
      have S6 := S5.out.drew.own_push (i := 3) rfl (bb _) hownE hgE hatE
      obtain ⟨aE, cE, rfl⟩ := own_slice hownE
      refine hK.out _ _ ?_ (fun _ => ?_)
      · exact ⟨S6.cell (i := 2) rfl (o := 2) rfl, S6.cell (i := 1) rfl (o := 0) rfl, S6.cell (i := 1) rfl (o := 1) rfl, S6.cell (i := 1) rfl (o := 2) rfl⟩
      clear hK S5 hownE hgE hatE
      have hfz := S6.frozen (i := 2) rfl 2
      have hc6 := S6.cell (i := 2) rfl (o := 2) rfl
      have S7 := Lib.hid ((S6.store (i := 2) rfl 2 (.slice aE (ns2.length + 1) cE)).tail).tail
      clear S6
      (try simp only [put_rules])
      (refine walkT_done (by kernel_rfl) ?_)
      simp only [List.drop_succ_cons, List.drop_zero]
      go_wp2_with fail
      go_ret
      refine ⟨ret_int (by rw [hP2.out, hid.out]), .slice aE (ns2.length + 1) cE, ?_⟩
      rw [hP2.out, hid.out]
      unfold PlanSp
      rw [List.length_append, List.flatMap_append]
      exact S7.out
end Go.Proofs.YtbemodacpimiiaaGreat

/- Contracts: planned diagrams, in the program. -/
namespace Go.Proofs.YtbemodacpimiiaaGreat
open Go.RowKit

/-- A diagram that can be read. -/
def DgPost (w : World) (ns : List Nd) (v : Value) (w' : World) : Prop := ∃ A c, v = .slice A ns.length c ∧ NdAt w' A ns ∧ (∀ a, A = some a → w.heap.size ≤ a.block) ∧ Below w.heap.size w w'
theorem NdAt.keep {w w' : World} {A : Option Addr} {ns : List Nd} (h : NdAt w A ns) (hk : ∀ a, A = some a → w'.heap[a.block]? = w.heap[a.block]?) : NdAt w' A ns := by
  refine ⟨fun j hj => ?_, h.ok⟩
  obtain ⟨b, off, e, h1, h2, h3⟩ := h.at_ j hj
  have hc : ∀ o, w'.cell? ⟨b, o, none⟩ = w.cell? ⟨b, o, none⟩ := fun o => World.cell?_of_block (a := ⟨b, o, none⟩) (hk ⟨b, off, none⟩ e)
  exact ⟨b, off, e, (hc _).trans h1, (hc _).trans h2, (hc _).trans h3⟩
/-- A store into another block. -/
theorem NdAt.set {w : World} {A : Option Addr} {ns : List Nd} (h : NdAt w A ns) {g : Nat} (hg : ∀ a, A = some a → a.block ≠ g) (o : Nat) (u : Value) : NdAt (w.setCell ⟨g, o, none⟩ u) A ns :=
  h.keep fun a ha => Below.heap_setCell _ _ _ _ (hg a ha)
set_option maxRecDepth 100000 in
set_option maxHeartbeats 4000000 in
theorem planned_any (vars : Nat) (g : FuncId) (cb : Array Value) (f : Nat → Bool) (w : World) (hvars : vars ≤ 6) (eg : ∀ args w, (callFunc g args).run Tryz.prog w = .ok (.enter g args) w) (hfn : FnOk w vars g cb f) :
    Calls Tryz.prog 42 #[.int .i64 vars, .func (.func g) #[] cb] w fun e w' => ∃ v, e = .returned (dgV (dgR vars f) v) ∧ DgPost w (dgN vars f) v w' := by
  have HS0 := Lib.hid ((Sp.start w).alloc_box #[.int .i64 0, .slice none 0 0] 26)
  have hB0 := bal (bb w) (.cells #[.int .i64 0, .slice none 0 0] 26)
  have hfn0 : FnOk (w.alloc (.cells #[.int .i64 0, .slice none 0 0] 26)) vars g cb f := fun b w' hb hbl => hfn b w' hb (btr hB0 hbl)
  have S0 := ((Sp.start (w.alloc (.cells #[.int .i64 0, .slice none 0 0] 26))).own_nil 71 3).alloc_box #[.int .i64 vars, .func (.func g) #[] cb, .slice none 0 0] 113
  simp only [World.size_alloc] at S0
  have hm := dg_made vars f
  have hok := Lib.hid (nd_small hm.ok (by omega) (by have := dg_len f hvars; omega))
  have hcall := Lib.hid (from_any hvars eg hfn0 vars 1 0 [] (.slice none 0 0) _ (by omega) (by omega) (by decide) (fun i hi => by simp at hi) (by have : 2 ^ vars ≤ 2 ^ 6 := Nat.pow_le_pow_right (by decide) hvars; simp; omega) S0)
  have e1 : (planF f vars 1 0 []).2 = dgR vars f := rfl
  have e2 : (planF f vars 1 0 []).1 = dgN vars f := rfl
  rw [e1, e2] at hcall
  replace hB0 := Lib.hid hB0
  clear e1 e2 hm hfn hfn0 S0
  generalize dgR vars f = r at *
  generalize dgN vars f = ns at *
  go_enter Tryz.func42, Tryz.ntmps42
  go_wp2_with fail
  refine hcall.out.mono ?_
  rintro e w1 ⟨sv, rfl, HS⟩
  have HS1 : Sp w w1 [Box (w.heap.size + 1) 113 #[.int .i64 vars, .func (.func g) #[] cb, sv], Own 71 3 sv ns.length (ns.flatMap ndEnc), Box w.heap.size 26 #[.int .i64 0, .slice none 0 0]] := HS0.out.seq HS
  obtain ⟨A, c, rfl, -⟩ := nd_own (HS1.own (i := 1) rfl) hok.out
  have c2 := HS1.cell (i := 0) rfl (o := 2) rfl
  have r0 := HS1.cell (i := 2) rfl (o := 0) rfl
  have r1 := HS1.cell (i := 2) rfl (o := 1) rfl
  have f0 := HS1.frozen (i := 2) rfl 0
  have f1 := HS1.frozen (i := 2) rfl 1
  have S2 := Lib.hid ((HS1.store (i := 2) rfl 0 (.int .i64 r)).store (i := 2) rfl 1 (.slice A ns.length c))
  clear hcall HS HS0 HS1 hB0
  have j0 := S2.out.cell (i := 2) rfl (o := 0) rfl
  have j1 := S2.out.cell (i := 2) rfl (o := 1) rfl
  obtain ⟨A', c', e1, hN⟩ := nd_own (S2.out.own (i := 1) rfl) hok.out
  have hB := S2.out.below
  have hfrom := Lib.hid (own_from (S2.out.owns_end (i := 1) rfl))
  cases e1
  replace hN := Lib.hid hN
  clear S2 hok
  go_wp2_with fail
  exact bodyPost_ret (v := .agg #[.int .i64 r, .slice A ns.length c]) (by simp [results, Tryz.results42, go_sem, j0, j1]) rfl ⟨_, rfl, _, _, rfl, hN.out, hfrom.out, hB⟩
end Go.Proofs.YtbemodacpimiiaaGreat

/- Contracts: the plan of values that a method of a diagram tells, in the program. Printed by gen_dua.py. -/
namespace Go.Proofs.YtbemodacpimiiaaGreat
open Go.RowKit

/-- What the plan holds while it is made. -/
abbrev PlanSpM (w0 : World) (p : Nat) (vars : Nat) (rv : Value) (sv : Value) (ns : List Nd) (w : World) : Prop :=
  Sp w0 w [Box p 113 #[.int .i64 vars, .func (.func 43) #[rv] #[], sv], Own 71 3 sv ns.length (ns.flatMap ndEnc)]
/-- A function of bits that only reads. -/
def FnOkM (w0 : World) (vars : Nat) (rv : Value) (f : Nat → Bool) : Prop :=
  ∀ (b : Nat) w, b < 2 ^ vars → Below w0.heap.size w0 w → Calls Tryz.prog 43 #[rv, .int .i64 b] w fun e w' => e = .returned (.bool (f b)) ∧ Below w.heap.size w w'

set_option maxRecDepth 100000 in
set_option maxHeartbeats 8000000 in
theorem fromM_any {w0 : World} {p vars : Nat} {rv : Value} {f : Nat → Bool} (hvars : vars ≤ 6) (hfn : FnOkM w0 vars rv f) :
    ∀ (k v b : Nat) (ns : List Nd) (sv : Value) (w : World), v + k = vars + 1 → 1 ≤ v → b < 2 ^ (v - 1) → OkN vars ns → ns.length + 2 ^ k ≤ 1000 → PlanSpM w0 p vars rv sv ns w →
    Calls Tryz.prog 100 #[.pointer (some ⟨p, 0, none⟩), .int .i64 v, .int .i64 b] w fun e w' => ∃ sv', e = .returned (.int .i64 (planF f k v b ns).2) ∧ PlanSpM w0 p vars rv sv' (planF f k v b ns).1 w'
  | 0, v, b, ns, sv, w, hk, hv, hb, hok, hl, HS => by
    have hb' : b < 2 ^ vars := by rw [show vars = v - 1 by omega]; exact hb
    have c0 := HS.cell (i := 0) rfl (o := 0) rfl
    have c1 := HS.cell (i := 0) rfl (o := 1) rfl
    have hcall := Lib.hid (hfn b w hb' HS.below)
    have hgt : (vars : Int) < (v : Int) := by omega
    clear hb hb' hok hl hk hfn
    replace HS := Lib.hid HS
    obtain ⟨q, hq⟩ : ∃ q, f b = q := ⟨_, rfl⟩
    rw [hq] at hcall
    have hP : Hid (planF f 0 v b ns = (ns, if q then 1 else 0)) := by unfold Hid; rw [planF, hq]
    cases q
    · go_enter Tryz.func100, Tryz.ntmps100
      go_wp2_with fail
      refine hcall.out.mono ?_
      rintro e w1 ⟨rfl, hb1⟩
      have HS2 := Lib.hid (HS.out.grow hb1)
      clear HS hb1 hcall
      go_wp2_with fail
      go_ret
      exact ⟨sv, ret_int (by rw [hP.out]; rfl), by rw [hP.out]; exact HS2.out⟩
    · go_enter Tryz.func100, Tryz.ntmps100
      go_wp2_with fail
      refine hcall.out.mono ?_
      rintro e w1 ⟨rfl, hb1⟩
      have HS2 := Lib.hid (HS.out.grow hb1)
      clear HS hb1 hcall
      go_wp2_with fail
      go_ret
      exact ⟨sv, ret_int (by rw [hP.out]; rfl), by rw [hP.out]; exact HS2.out⟩
  | k + 1, v, b, ns, sv, w, hk, hv, hb, hok, hl, HS => by
    have hp : 2 ^ (v + 1 - 1) = 2 ^ (v - 1) + 2 ^ (v - 1) := by
      rw [show v + 1 - 1 = (v - 1) + 1 by omega, Nat.pow_succ]; omega
    have hpk : 2 ^ (k + 1) = 2 ^ k + 2 ^ k := by rw [Nat.pow_succ]; omega
    have hpos : 0 < 2 ^ k := Nat.two_pow_pos k
    have m1 := plan_made f vars k (v + 1) b ns (by omega) (by omega) (by omega) hok
    have hrec1 := Lib.hid (fromM_any hvars hfn k (v + 1) b ns sv w (by omega) (by omega) (by omega) hok (by omega) HS)
    have hP := Lib.hid (planF.eq_2 f v b ns k)
    generalize planF f k (v + 1) b ns = X1 at m1 hrec1 hP
    obtain ⟨ns1, lo⟩ := X1
    dsimp only at m1 hrec1 hP
    have hl1 : ns1.length + 1 ≤ ns.length + 2 ^ k := m1.len
    have m2 := plan_made f vars k (v + 1) (b + 2 ^ (v - 1)) ns1 (by omega) (by omega) (by omega) m1.ok
    have hrec2 := Lib.hid (fun sv w (h : PlanSpM w0 p vars rv sv ns1 w) => fromM_any hvars hfn k (v + 1) (b + 2 ^ (v - 1)) ns1 sv w (by omega) (by omega) (by omega) m1.ok (by omega) h)
    generalize planF f k (v + 1) (b + 2 ^ (v - 1)) ns1 = X2 at m2 hrec2 hP
    obtain ⟨ns2, hi⟩ := X2
    dsimp only at m2 hrec2 hP
    have hl2 : ns2.length + 1 ≤ ns1.length + 2 ^ k := m2.len
    have c0 := HS.cell (i := 0) rfl (o := 0) rfl
    have hgt : ¬ (vars : Int) < (v : Int) := by omega
    have hor := or_pow hb (by omega)
    have hok2 := Lib.hid (nd_small m2.ok (by omega) (by omega))
    have hrl : 0 ≤ lo ∧ lo ≤ 1000 := ⟨m1.r0, by have := m1.r1; omega⟩
    have hrh : 0 ≤ hi ∧ hi ≤ 1000 := ⟨m2.r0, by have := m2.r1; omega⟩
    have hl3 : ns2.length ≤ 1000 := by omega
    have hv1 : (v : Int) ≤ 6 := by omega
    have hvw : IntKind.i64.wrap ((v : Int) + 1) = ((v + 1 : Nat) : Int) := by rw [IntWalk.i64_in _ (by omega)]; omega
    have hcast : ((b + 2 ^ (v - 1) : Nat) : Int) = (b : Int) + 2 ^ (v - 1) := by rw [Int.natCast_add, Int.natCast_pow]; rfl
    rw [hcast] at hrec2 hor
    replace HS := Lib.hid HS
    clear m1 m2 hok hl hpk hp hfn hb hl1 hl2
    go_enter Tryz.func100, Tryz.ntmps100
    go_wp2_with fail
    refine hrec1.out.mono ?_
    rintro e w1 ⟨sv1, rfl, HS1⟩
    replace HS1 := Lib.hid HS1
    clear HS hrec1 c0
    go_wp2_with fail
    refine (hrec2.out sv1 w1 HS1.out).mono ?_
    rintro e w2 ⟨sv2, rfl, HS2⟩
    obtain ⟨A, c, rfl, hN⟩ := nd_own (HS2.own (i := 1) rfl) hok2.out
    replace HS2 := Lib.hid HS2
    replace hN := Lib.hid hN
    clear HS1 hrec2
    by_cases heq : lo = hi
    · have hP2 : Hid (planF f (k + 1) v b ns = (ns2, lo)) := by unfold Hid; exact hP.out.trans (if_pos heq)
      subst heq
      clear hP hN hor
      go_wp2_with fail
      go_ret
      exact ⟨_, ret_int (by rw [hP2.out]), by rw [hP2.out]; exact HS2.out⟩
    have hP2 : Hid (planF f (k + 1) v b ns = addN ns2 ⟨v, lo, hi⟩) := by unfold Hid; exact hP.out.trans (if_neg heq)
    clear hP hor
    have HS3 := HS2.out.alloc_box #[.int .i64 v, .int .i64 lo, .int .i64 hi] 71
    have d0 := cell_regrown (HS3.cell (i := 0) rfl (o := 0) rfl)
    have d1 := cell_regrown (HS3.cell (i := 0) rfl (o := 1) rfl)
    have d2 := cell_regrown (HS3.cell (i := 0) rfl (o := 2) rfl)
    have e2 := cell_regrown (HS3.cell (i := 1) rfl (o := 2) rfl)
    have hix := Lib.hid (fun w hb => indexNd_any ⟨v, lo, hi⟩ A c ns2 w (hN.out.grow hb) (by omega))
    replace HS3 := Lib.hid HS3
    clear HS2
    have hsz : ∀ d os, («Sort».grow (redrawn (w2.alloc (.cells #[.int .i64 v, .int .i64 lo, .int .i64 hi] 71)) d) os) = («Sort».grow (redrawn (w2.alloc (.cells #[.int .i64 v, .int .i64 lo, .int .i64 hi] 71)) d) os) := fun _ _ => rfl
    clear hsz
    by_cases hin : (⟨v, lo, hi⟩ : Nd) ∈ ns2
    · have hil := List.idxOf_lt_length_of_mem hin
      have hid : Hid (addN ns2 ⟨v, lo, hi⟩ = (ns2, ((ns2.idxOf ⟨v, lo, hi⟩ : Nat) : Int) + 2)) := by unfold Hid addN; rw [if_pos hin]
      have hii : idxN ns2 ⟨v, lo, hi⟩ = ((ns2.idxOf ⟨v, lo, hi⟩ : Nat) : Int) := by unfold idxN; rw [if_pos hin]
      rw [hii] at hix
      generalize ns2.idxOf ⟨v, lo, hi⟩ = q at hil hid hix
      clear hii hin
      go_wp2_with fail
      refine wp_region_quiet_below (by kernel_rfl) (by kernel_rfl) ?_
      repeat (any_goals (go_big_quiet_step ((go_at_call 126; exact Calls.regrown_of (hix.out _ ((bal (bb _) _).trans ((below_regrown _ _ _).mono (by simp))))))))
      refine wpQuiet_nil ?_
      rintro w3 ⟨pp, rfl⟩
      have HS4 := Lib.hid (HS3.out.grow (below_regrown _ pp.d pp.os)).tail
      clear HS3 d0 d1 d2 e2 hix hN
      go_wp2_with fail
      go_ret
      exact ⟨_, ret_int (by rw [hP2.out, hid.out]), by rw [hP2.out, hid.out]; exact HS4.out⟩
    · obtain ⟨i0, hi0, hz0, hz1, hz2⟩ := info_parts infoNd
      have hid : Hid (addN ns2 ⟨v, lo, hi⟩ = (ns2 ++ [⟨v, lo, hi⟩], ((ns2.length : Nat) : Int) + 2)) := by unfold Hid addN; rw [if_neg hin]
      have hii : idxN ns2 ⟨v, lo, hi⟩ = -1 := by unfold idxN; rw [if_neg hin]
      rw [hii] at hix
      clear hii hin
      go_wp2_with fail
      refine wp_region_quiet_below (by kernel_rfl) (by kernel_rfl) ?_
      repeat (any_goals (go_big_quiet_step ((go_at_call 126; exact Calls.regrown_of (hix.out _ ((bal (bb _) _).trans ((below_regrown _ _ _).mono (by simp))))))))
      refine wpQuiet_nil ?_
      rintro w3 ⟨pp, hw3⟩
      have HS4 := HS3.out.grow (w' := w3) (hw3 ▸ below_regrown _ pp.d pp.os)
      have f0 := HS4.cell (i := 0) rfl (o := 0) rfl
      have f1 := HS4.cell (i := 0) rfl (o := 1) rfl
      have f2 := HS4.cell (i := 0) rfl (o := 2) rfl
      have g2 := HS4.cell (i := 1) rfl (o := 2) rfl
      have hpl := (HS4.box (i := 1) rfl).2.1
      replace HS4 := Lib.hid HS4
      clear hw3 HS3 d0 d1 d2 e2 hix hN
      go_wp2_with fail
      refine wp_region_tail_lit (S := (fun w' => w'.cell? ⟨p, 2, none⟩ = some (.slice A ns2.length c) ∧ w'.cell? ⟨w2.heap.size, 0, none⟩ = some (.int .i64 v) ∧ w'.cell? ⟨w2.heap.size, 1, none⟩ = some (.int .i64 lo) ∧ w'.cell? ⟨w2.heap.size, 2, none⟩ = some (.int .i64 hi))) 8 [false, false, false, false, false, false, false, false, false, false, false] (by kernel_rfl) (by kernel_rfl) (by kernel_rfl) ?_ ?_
      · exact ⟨g2, f0, f1, f2⟩
      intro hS
      (refine walkT_take (i := 0) (v := ?_) rfl (by kernel_rfl) (by decide) (by kernel_rfl) (by kernel_rfl) (fun _ _ _ h => h) (Or.inl ⟨by rfl, ?_⟩) (by assumption) ?_; rotate_left; (focus (intro w hSw; (try dsimp only at hSw); go_simp; (try with_reducible rfl); done)); (try simp only [put_rules]))
      (refine walkT_take (i := 1) (v := ?_) rfl (by kernel_rfl) (by decide) (by kernel_rfl) (by kernel_rfl) (fun _ _ _ h => h) (Or.inl ⟨by rfl, ?_⟩) (by assumption) ?_; rotate_left; (focus (intro w hSw; (try dsimp only at hSw); go_simp; (try with_reducible rfl); done)); (try simp only [put_rules]))
      (refine walkT_take (i := 2) (v := ?_) rfl (by kernel_rfl) (by decide) (by kernel_rfl) (by kernel_rfl) (fun _ _ _ h => h) (Or.inl ⟨by rfl, ?_⟩) (by assumption) ?_; rotate_left; (focus (intro w hSw; (try dsimp only at hSw); go_simp; (try with_reducible rfl); done)); (try simp only [put_rules]))
      (refine walkT_take (i := 3) (v := ?_) rfl (by kernel_rfl) (by decide) (by kernel_rfl) (by kernel_rfl) (fun _ _ _ h => h) (Or.inl ⟨by rfl, ?_⟩) (by assumption) ?_; rotate_left; (focus (intro w hSw; (try dsimp only at hSw); go_simp; (try with_reducible rfl); done)); (try simp only [put_rules]))
      (refine walkT_take (i := 4) (v := ?_) rfl (by kernel_rfl) (by decide) (by kernel_rfl) (by kernel_rfl) (fun _ _ _ h => h) (Or.inl ⟨by rfl, ?_⟩) (by assumption) ?_; rotate_left; (focus (intro w hSw; (try dsimp only at hSw); go_simp; (try with_reducible rfl); done)); (try simp only [put_rules]))
      (refine walkT_take (i := 5) (v := ?_) rfl (by kernel_rfl) (by decide) (by kernel_rfl) (by kernel_rfl) (fun _ _ _ h => h) (Or.inl ⟨by rfl, ?_⟩) (by assumption) ?_; rotate_left; (focus (intro w hSw; (try dsimp only at hSw); go_simp; (try with_reducible rfl); done)); (try simp only [put_rules]))
      (refine walkT_ready (rs := [6]) (by kernel_rfl) (by simp) (by decide) ?_; refine AllT.cons rfl (fun K hK => ?_) AllT.nil)
      go_simp
      have S5 := HS4.out.alloc_box #[.int .i64 v, .int .i64 lo, .int .i64 hi] 71
      replace S5 := Lib.hid S5
      refine hK.out _ _ ?_ (fun _ => ?_)
      · exact ⟨S5.out.cell (i := 2) rfl (o := 2) rfl, S5.out.cell (i := 1) rfl (o := 0) rfl, S5.out.cell (i := 1) rfl (o := 1) rfl, S5.out.cell (i := 1) rfl (o := 2) rfl⟩
      clear hK HS4
      (try simp only [put_rules])
      (refine walkT_ready (rs := [7]) (by kernel_rfl) (by simp) (by decide) ?_; refine AllT.cons rfl (fun K hK => ?_) AllT.nil)
      (refine step_append_src rfl _ _ rfl Tryz.underlying24 hi0 hz0 hz1 hz2 rfl (by decide) _ ns2.length _ rfl (S5.out.own (i := 3) rfl) _ 1 1 [.int .i64 v, .int .i64 lo, .int .i64 hi] rfl (Src.three (S5.out.cell (i := 0) rfl (o := 0) rfl) (S5.out.cell (i := 0) rfl (o := 1) rfl) (S5.out.cell (i := 0) rfl (o := 2) rfl)) (by simp [Value.oneCell']) (by unfold maxLen; omega) (by omega) ?_; intro vE wE hownE hgE hatE)
      have S6 := S5.out.drew.own_push (i := 3) rfl (bb _) hownE hgE hatE
      obtain ⟨aE, cE, rfl⟩ := own_slice hownE
      refine hK.out _ _ ?_ (fun _ => ?_)
      · exact ⟨S6.cell (i := 2) rfl (o := 2) rfl, S6.cell (i := 1) rfl (o := 0) rfl, S6.cell (i := 1) rfl (o := 1) rfl, S6.cell (i := 1) rfl (o := 2) rfl⟩
      clear hK S5 hownE hgE hatE
      have hfz := S6.frozen (i := 2) rfl 2
      have hc6 := S6.cell (i := 2) rfl (o := 2) rfl
      have S7 := Lib.hid ((S6.store (i := 2) rfl 2 (.slice aE (ns2.length + 1) cE)).tail).tail
      clear S6
      (try simp only [put_rules])
      (refine walkT_done (by kernel_rfl) ?_)
      simp only [List.drop_succ_cons, List.drop_zero]
      go_wp2_with fail
      go_ret
      refine ⟨ret_int (by rw [hP2.out, hid.out]), .slice aE (ns2.length + 1) cE, ?_⟩
      rw [hP2.out, hid.out]
      unfold PlanSpM
      rw [List.length_append, List.flatMap_append]
      exact S7.out

set_option maxRecDepth 100000 in
set_option maxHeartbeats 4000000 in
theorem plannedM_any (vars : Nat) (rv : Value) (f : Nat → Bool) (w : World) (hvars : vars ≤ 6) (hfn : FnOkM w vars rv f) :
    Calls Tryz.prog 42 #[.int .i64 vars, .func (.func 43) #[rv] #[]] w fun e w' => ∃ v, e = .returned (dgV (dgR vars f) v) ∧ DgPost w (dgN vars f) v w' := by
  have HS0 := Lib.hid ((Sp.start w).alloc_box #[.int .i64 0, .slice none 0 0] 26)
  have hB0 := bal (bb w) (.cells #[.int .i64 0, .slice none 0 0] 26)
  have hfn0 : FnOkM (w.alloc (.cells #[.int .i64 0, .slice none 0 0] 26)) vars rv f := fun b w' hb hbl => hfn b w' hb (btr hB0 hbl)
  have S0 := ((Sp.start (w.alloc (.cells #[.int .i64 0, .slice none 0 0] 26))).own_nil 71 3).alloc_box #[.int .i64 vars, .func (.func 43) #[rv] #[], .slice none 0 0] 113
  simp only [World.size_alloc] at S0
  have hm := dg_made vars f
  have hok := Lib.hid (nd_small hm.ok (by omega) (by have := dg_len f hvars; omega))
  have hcall := Lib.hid (fromM_any hvars hfn0 vars 1 0 [] (.slice none 0 0) _ (by omega) (by omega) (by decide) (fun i hi => by simp at hi) (by have : 2 ^ vars ≤ 2 ^ 6 := Nat.pow_le_pow_right (by decide) hvars; simp; omega) S0)
  have e1 : (planF f vars 1 0 []).2 = dgR vars f := rfl
  have e2 : (planF f vars 1 0 []).1 = dgN vars f := rfl
  rw [e1, e2] at hcall
  replace hB0 := Lib.hid hB0
  clear e1 e2 hm hfn hfn0 S0
  generalize dgR vars f = r at *
  generalize dgN vars f = ns at *
  go_enter Tryz.func42, Tryz.ntmps42
  go_wp2_with fail
  refine hcall.out.mono ?_
  rintro e w1 ⟨sv, rfl, HS⟩
  have HS1 : Sp w w1 [Box (w.heap.size + 1) 113 #[.int .i64 vars, .func (.func 43) #[rv] #[], sv], Own 71 3 sv ns.length (ns.flatMap ndEnc), Box w.heap.size 26 #[.int .i64 0, .slice none 0 0]] := HS0.out.seq HS
  obtain ⟨A, c, rfl, -⟩ := nd_own (HS1.own (i := 1) rfl) hok.out
  have c2 := HS1.cell (i := 0) rfl (o := 2) rfl
  have r0 := HS1.cell (i := 2) rfl (o := 0) rfl
  have r1 := HS1.cell (i := 2) rfl (o := 1) rfl
  have f0 := HS1.frozen (i := 2) rfl 0
  have f1 := HS1.frozen (i := 2) rfl 1
  have S2 := Lib.hid ((HS1.store (i := 2) rfl 0 (.int .i64 r)).store (i := 2) rfl 1 (.slice A ns.length c))
  clear hcall HS HS0 HS1 hB0
  have j0 := S2.out.cell (i := 2) rfl (o := 0) rfl
  have j1 := S2.out.cell (i := 2) rfl (o := 1) rfl
  obtain ⟨A', c', e1, hN⟩ := nd_own (S2.out.own (i := 1) rfl) hok.out
  have hB := S2.out.below
  have hfrom := Lib.hid (own_from (S2.out.owns_end (i := 1) rfl))
  cases e1
  replace hN := Lib.hid hN
  clear S2 hok
  go_wp2_with fail
  exact bodyPost_ret (v := .agg #[.int .i64 r, .slice A ns.length c]) (by simp [results, Tryz.results42, go_sem, j0, j1]) rfl ⟨_, rfl, _, _, rfl, hN.out, hfrom.out, hB⟩
end Go.Proofs.YtbemodacpimiiaaGreat

/- Memory: own rows of truth values, stores into own rows, diagrams that can be read. -/
namespace Go.Proofs.YtbemodacpimiiaaGreat
open Go.RowKit

/-- Truth values. -/
def blV (n : Nat) (f : Nat → Bool) : List Value := (List.range n).map fun j => .bool (f j)
def BlAt (w : World) (A : Option Addr) (n : Nat) (f : Nat → Bool) : Prop := ∀ j, j < n → ∃ b off, A = some ⟨b, off, none⟩ ∧ w.cell? ⟨b, off + j, none⟩ = some (.bool (f j))
theorem blV_len (n : Nat) (f : Nat → Bool) : (blV n f).length = n := by simp [blV]
theorem blV_snoc (n : Nat) (f : Nat → Bool) : blV (n + 1) f = blV n f ++ [.bool (f n)] := by simp [blV, List.range_succ]
theorem blV_get {n j : Nat} (f : Nat → Bool) (h : j < n) : (blV n f)[j]? = some (.bool (f j)) := by simp [blV, h]
theorem blV_congr {n : Nat} {f g : Nat → Bool} (h : ∀ j, j < n → f j = g j) : blV n f = blV n g := by
  unfold blV
  exact List.map_congr_left fun j hj => by rw [h j (List.mem_range.1 hj)]
theorem blV_set {n k : Nat} (f : Nat → Bool) (x : Bool) : (blV n f).set k (.bool x) = blV n (fun j => if j = k then x else f j) := by
  apply List.ext_getElem?
  intro j
  rw [List.getElem?_set, blV_len]
  by_cases hj : j < n
  · rw [blV_get _ hj, blV_get _ hj]
    by_cases h : k = j
    · subst h; simp [hj]
    · rw [if_neg h, if_neg (fun e => h e.symm)]
  · rw [List.getElem?_eq_none (by rw [blV_len]; omega), List.getElem?_eq_none (by rw [blV_len]; omega)]
    split
    · rw [if_neg (by omega)]
    · rfl
theorem BlAt.grow {w w' : World} {A : Option Addr} {n : Nat} {f : Nat → Bool} (h : BlAt w A n f) (hb : Below w.heap.size w w') : BlAt w' A n f := fun j hj => by
  obtain ⟨b, off, e, hc⟩ := h j hj
  exact ⟨b, off, e, (bcell hb).1 b _ (World.block_lt_of_cell? _ _ hc) ▸ hc⟩
theorem bl_own {w : World} {B : Nat} {e : TypeId} {v : Value} {n : Nat} {f : Nat → Bool} (h : w.ownsRow B e 1 v n (blV n f)) : ∃ A c, v = .slice A n c ∧ BlAt w A n f := by
  rcases Nat.eq_zero_or_pos n with rfl | hn
  · obtain ⟨a, c, rfl⟩ := own_slice h
    exact ⟨a, c, rfl, fun j hj => absurd hj (by omega)⟩
  · obtain ⟨g, cap, cur, rfl, _, hh, _, _, _, ht⟩ := own_block h hn
    exact ⟨_, cap, rfl, fun j hj => ⟨g, 0, rfl, by rw [Nat.zero_add, hown_cell hh ht (by omega), blV_get f hj]⟩⟩
theorem infoBl : (Tryz.prog.info? 4).map (fun i => (i.zero, i.size, i.bytes)) = some (some (.bool false), 1, 1) := by kernel_rfl
/-- Two results: a diagram, and whether there is one. -/
def DgTold (w : World) (ok : Bool) (r : Int) (ns : List Nd) (e : Ending) (w' : World) : Prop := ∃ A c, e = .returned (.tuple #[dgV r (.slice A ns.length c), .bool ok]) ∧ NdAt w' A ns ∧ (∀ a, A = some a → w.heap.size ≤ a.block) ∧ Below w.heap.size w w'
def outR (ok : Bool) (vars : Int) (f : Nat → Bool) : Int := if ok then dgR vars.toNat f else 0
def outN (ok : Bool) (vars : Int) (f : Nat → Bool) : List Nd := if ok then dgN vars.toNat f else []
theorem NdAt.nil (w : World) : NdAt w none [] := ⟨fun j hj => absurd hj (by simp), by simp⟩
/-- What is known of a valid diagram. -/
theorem good_parts {vars r : Int} {ns : List Nd} (h : goodD vars r ns = true) : (0 ≤ vars ∧ vars ≤ 6) ∧ ns.length ≤ 63 ∧ (0 ≤ r ∧ r ≤ ns.length + 1) ∧ WkN ns := by
  unfold goodD at h
  rw [Bool.and_eq_true, Bool.and_eq_true, Bool.and_eq_true, inB_def, inB_def, decide_eq_true_eq, ndsB_ok] at h
  exact ⟨h.1.1.1, h.1.1.2, h.1.2, OkN.wk h.2⟩
end Go.Proofs.YtbemodacpimiiaaGreat

/- Contracts: the and, or and not of diagrams, in the program. -/
namespace Go.Proofs.YtbemodacpimiiaaGreat
open Go.RowKit

/- left out: the seat has no impl.pairDiagram$1 -/

/- left out: the seat has no impl.pairDiagram -/
end Go.Proofs.YtbemodacpimiiaaGreat

/- Contracts: bits that are set, in the program. -/
namespace Go.Proofs.YtbemodacpimiiaaGreat
open Go.RowKit

theorem set_fin : ∀ b < 64, ∀ k < 6, bits .andNot .i64 ((b : Nat) : Int) ((2 ^ k : Nat) : Int) = ((b - (if b.testBit k then 2 ^ k else 0) : Nat) : Int) := by decide +kernel
/-- Bits in which the variable of a literal is set such that the literal is true. -/
def setL (b : Nat) (l : Int) : Nat := if 0 < l then b ||| 2 ^ (l.toNat - 1) else b - (if b.testBit ((-l).toNat - 1) then 2 ^ ((-l).toNat - 1) else 0)
theorem or_set {b : Nat} {l : Int} (hb : b < 64) (h0 : 0 < l) (h1 : l ≤ 6) : bits .or .i64 (b : Int) (wrap64 (2 ^ (l.toNat - 1))) = ((setL b l : Nat) : Int) := by
  obtain ⟨e1, e2⟩ := pow_small (v := l.toNat - 1) (by omega)
  rw [e1, (i64_nat b (2 ^ (l.toNat - 1)) (by omega) (by omega)).1, setL, if_pos h0]
theorem clr_set {b : Nat} {l : Int} (hb : b < 64) (h0 : l < 0) (h1 : -6 ≤ l) : bits .andNot .i64 (b : Int) (wrap64 (2 ^ ((-l).toNat - 1))) = ((setL b l : Nat) : Int) := by
  obtain ⟨e1, e2⟩ := pow_small (v := (-l).toNat - 1) (by omega)
  rw [e1, set_fin b hb ((-l).toNat - 1) (by omega), setL, if_neg (show ¬ 0 < l by omega)]
theorem setL_lt {b vars : Nat} {l : Int} (hb : b < 2 ^ vars) (_ : l ≠ 0) (_ : -(vars : Int) ≤ l) (_ : l ≤ vars) : setL b l < 2 ^ vars := by
  unfold setL
  split
  · exact Nat.or_lt_two_pow hb (Nat.pow_lt_pow_right (by decide) (by omega))
  · omega

/- left out: the seat has no impl.setBit -/

def litD (vars l : Int) : Bool := decide (l ≠ 0) && inB l (-vars) vars
set_option maxRecDepth 100000 in
theorem isLiteralD_any (vars l : Int) (h0 : 0 ≤ vars) (h1 : vars ≤ 1000000) (w : World) : Calls Tryz.prog 114 #[.int .i64 vars, .int .i64 l] w fun e w' => e = .returned (.bool (litD vars l)) ∧ Below w.heap.size w w' := by
  have hw1 : IntKind.i64.wrap (-vars) = -vars := IntWalk.i64_in _ (by omega)
  by_cases hl : l = 0
  · have hF : Hid (litD vars l = false) := by unfold Hid litD; rw [decide_eq_false (by omega)]; rfl
    go_enter Tryz.func114, Tryz.ntmps114
    go_wp2_with fail
    go_ret
    exact ⟨ret_bool hF.out.symm, bb _⟩
  · have hF : Hid (litD vars l = inB l (-vars) vars) := by unfold Hid litD; rw [decide_eq_true hl]; rfl
    go_enter Tryz.func114, Tryz.ntmps114
    go_wp2_with (go_at_call 47; refine (within_any _ _ _ _).mono ?_; rintro e w1 ⟨rfl, rfl⟩)
    go_ret
    exact ⟨ret_bool (by rw [hF.out]; simp [hl]), bb _⟩

/- left out: the seat has no impl.SetInDiagram$1 -/

/- left out: the seat has no impl.ForgetInDiagram$1 -/
end Go.Proofs.YtbemodacpimiiaaGreat

/- Contracts: a diagram with a literal set, a diagram that forgets a variable, the count, in the program. -/
namespace Go.Proofs.YtbemodacpimiiaaGreat
open Go.RowKit

theorem isVar_b (vars l : Int) (w : World) : Calls Tryz.prog 104 #[.int .i64 vars, .int .i64 l] w fun e w' => e = .returned (.bool (inB l 1 vars)) ∧ Below w.heap.size w w' :=
  (isVar_any vars l w).mono fun e w' ⟨h1, h2⟩ => ⟨h1, h2 ▸ bb _⟩

/- left out: the seat has no impl.SetInDiagram -/

/- left out: the seat has no impl.ForgetInDiagram -/
end Go.Proofs.YtbemodacpimiiaaGreat
