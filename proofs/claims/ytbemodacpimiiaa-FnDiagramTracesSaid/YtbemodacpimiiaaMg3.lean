/- Lemmas and contracts for a law, put together out of several texts: DgE DgF DgG DgM DgI DgJ DgN DgO DgP DgQ DgR PnA PnB CnfA ClA. -/
import Derived.Test.YtbemodacpimiiaaMg2
import Derived.Shelf.Abstract
import Derived.Deep.DeepCutAuto
import Derived.Test.YtbemodacpimiiaaMg1
import Derived.Lib.Hide
/- Contracts: the plan of values, in the program. -/
namespace Go.Proofs.Ytbemodacpimiiaa
open Go.RowKit

/-- An own row of nodes can be read. -/
theorem nd_own {w : World} {B : Nat} {e : TypeId} {v : Value} {ns : List Nd} (h : w.ownsRow B e 3 v ns.length (ns.flatMap ndEnc)) (hok : ∀ x ∈ ns, ndOk x) : ∃ A c, v = .slice A ns.length c ∧ NdAt w A ns := by
  obtain ⟨_, ⟨rfl, h0⟩ | ⟨g, cap, cur, rfl, _, hh, _, _, hs, ht⟩⟩ := h
  · exact ⟨none, 0, by rw [h0], fun j hj => absurd hj (by omega), hok⟩
  · refine ⟨_, cap, rfl, fun j hj => ⟨g, 0, rfl, ?_⟩, hok⟩
    have key : ∀ i u, i < 3 → (ndEnc ns[j])[i]? = some u → w.cell? ⟨g, j * 3 + i, none⟩ = some u := fun i u hi hu => by
      have := Nat.mul_le_mul_right 3 (show j + 1 ≤ ns.length by omega)
      rw [hown_cell hh ht (by omega), flat_get (enc := ndEnc) (n := 3) (fun _ => rfl) ns j hj i hi, hu]
    refine ⟨?_, ?_, ?_⟩
    · have := key 0 _ (by decide) rfl; rw [Nat.zero_add]; exact this
    · have := key 1 _ (by decide) rfl; rw [Nat.zero_add]; exact this
    · have := key 2 _ (by decide) rfl; rw [Nat.zero_add]; exact this
theorem nd_small {vars : Int} {ns : List Nd} (h : OkN vars ns) (hv : vars ≤ 6) (hl : ns.length ≤ 1000000) : ∀ x ∈ ns, ndOk x := by
  intro x hx
  obtain ⟨i, hi, rfl⟩ := List.getElem_of_mem hx
  obtain ⟨h1, h2, h3, _⟩ := (ndB_get hi).1 (h i hi)
  unfold ndOk I64
  omega

theorem i64_nat (a b : Nat) (ha : a < 2 ^ 62) (hb : b < 2 ^ 62) : bits .or .i64 (a : Int) (b : Int) = ((a ||| b : Nat) : Int) ∧ bits .and .i64 (a : Int) (b : Int) = ((a &&& b : Nat) : Int) := by
  have h := bits_nat .i64 62 (by decide) (fun n h0 h1 => by rw [IntKind.wrap_i64]; have : (2 : Int) ^ 62 = 4611686018427387904 := by decide
                                                            omega) a b ha hb
  exact ⟨h.2, h.1⟩
theorem pow_small {v : Nat} (hv : v ≤ 6) : wrap64 ((2 : Int) ^ v) = ((2 ^ v : Nat) : Int) ∧ 2 ^ v ≤ 64 := by
  match v, hv with
  | 0, _ | 1, _ | 2, _ | 3, _ | 4, _ | 5, _ | 6, _ => exact ⟨by unfold wrap64; decide, by decide⟩
theorem or_pow {b u : Nat} (hb : b < 2 ^ u) (hu : u ≤ 6) : bits .or .i64 (b : Int) (wrap64 ((2 : Int) ^ u)) = ((b + 2 ^ u : Nat) : Int) := by
  obtain ⟨h1, h2⟩ := pow_small hu
  rw [h1, (i64_nat b (2 ^ u) (by omega) (by omega)).1, Nat.or_comm]
  have := Nat.two_pow_add_eq_or_of_lt hb 1
  rw [Nat.mul_one] at this
  rw [← this, Nat.add_comm]

theorem infoNd : (Try.prog.info? 84).map (fun i => (i.zero, i.size, i.bytes)) = some (some (.agg #[.int .i64 0, .int .i64 0, .int .i64 0]), 3, 24) := by kernel_rfl
theorem Src.three {w : World} {b : Nat} {x y z : Value} (h0 : w.cell? ⟨b, 0, none⟩ = some x) (h1 : w.cell? ⟨b, 1, none⟩ = some y) (h2 : w.cell? ⟨b, 2, none⟩ = some z) : Src w (some ⟨b, 0, none⟩) 1 3 [x, y, z] :=
  .inr ⟨_, rfl, rfl, fun j u hj => by
    match j, hj with
    | 0, hj => simp at hj; subst hj; rw [add_none]; exact h0
    | 1, hj => simp at hj; subst hj; rw [add_none]; exact h1
    | 2, hj => simp at hj; subst hj; rw [add_none]; exact h2⟩
/-- What the plan holds while it is made. -/
abbrev PlanSp (w0 : World) (p : Nat) (vars : Nat) (g : FuncId) (cb : Array Value) (sv : Value) (ns : List Nd) (w : World) : Prop :=
  Sp w0 w [Box p 153 #[.int .i64 vars, .func (.func g) #[] cb, sv], Own 84 3 sv ns.length (ns.flatMap ndEnc)]
/-- A function of bits that only reads. -/
def FnOk (w0 : World) (vars : Nat) (g : FuncId) (cb : Array Value) (f : Nat → Bool) : Prop :=
  ∀ (b : Nat) w, b < 2 ^ vars → Below w0.heap.size w0 w → Calls Try.prog g (#[.int .i64 b] ++ cb) w fun e w' => e = .returned (.bool (f b)) ∧ Below w.heap.size w w'

set_option maxRecDepth 100000 in
set_option maxHeartbeats 8000000 in
theorem from_any {w0 : World} {p vars : Nat} {g : FuncId} {cb : Array Value} {f : Nat → Bool} (hvars : vars ≤ 6) (eg : ∀ args w, (callFunc g args).run Try.prog w = .ok (.enter g args) w) (hfn : FnOk w0 vars g cb f) :
    ∀ (k v b : Nat) (ns : List Nd) (sv : Value) (w : World), v + k = vars + 1 → 1 ≤ v → b < 2 ^ (v - 1) → OkN vars ns → ns.length + 2 ^ k ≤ 1000 → PlanSp w0 p vars g cb sv ns w →
    Calls Try.prog 132 #[.pointer (some ⟨p, 0, none⟩), .int .i64 v, .int .i64 b] w fun e w' => ∃ sv', e = .returned (.int .i64 (planF f k v b ns).2) ∧ PlanSp w0 p vars g cb sv' (planF f k v b ns).1 w'
  | 0, v, b, ns, sv, w, hk, hv, hb, hok, hl, HS => by
    have hb' : b < 2 ^ vars := by rw [show vars = v - 1 by omega]; exact hb
    have c0 := HS.cell (i := 0) rfl (o := 0) rfl
    have c1 := HS.cell (i := 0) rfl (o := 1) rfl
    have hcall := Lib.hid (hfn b w hb' HS.below)
    have hgt : (vars : Int) < (v : Int) := by omega
    clear hb hb' hok hl hk hfn
    replace HS := Lib.hid HS
    obtain ⟨q, hq⟩ : ∃ q, f b = q := ⟨_, rfl⟩
    rw [hq] at hcall
    have hP : Hid (planF f 0 v b ns = (ns, if q then 1 else 0)) := by unfold Hid; rw [planF, hq]
    cases q
    · go_enter Try.func132, Try.ntmps132
      go_wp2_with fail
      refine hcall.out.mono ?_
      rintro e w1 ⟨rfl, hb1⟩
      have HS2 := Lib.hid (HS.out.grow hb1)
      clear HS hb1 hcall
      go_wp2_with fail
      go_ret
      exact ⟨sv, ret_int (by rw [hP.out]; rfl), by rw [hP.out]; exact HS2.out⟩
    · go_enter Try.func132, Try.ntmps132
      go_wp2_with fail
      refine hcall.out.mono ?_
      rintro e w1 ⟨rfl, hb1⟩
      have HS2 := Lib.hid (HS.out.grow hb1)
      clear HS hb1 hcall
      go_wp2_with fail
      go_ret
      exact ⟨sv, ret_int (by rw [hP.out]; rfl), by rw [hP.out]; exact HS2.out⟩
  | k + 1, v, b, ns, sv, w, hk, hv, hb, hok, hl, HS => by
    have hp : 2 ^ (v + 1 - 1) = 2 ^ (v - 1) + 2 ^ (v - 1) := by
      rw [show v + 1 - 1 = (v - 1) + 1 by omega, Nat.pow_succ]; omega
    have hpk : 2 ^ (k + 1) = 2 ^ k + 2 ^ k := by rw [Nat.pow_succ]; omega
    have hpos : 0 < 2 ^ k := Nat.two_pow_pos k
    have m1 := plan_made f vars k (v + 1) b ns (by omega) (by omega) (by omega) hok
    have hrec1 := Lib.hid (from_any hvars eg hfn k (v + 1) b ns sv w (by omega) (by omega) (by omega) hok (by omega) HS)
    have hP := Lib.hid (planF.eq_2 f v b ns k)
    generalize planF f k (v + 1) b ns = X1 at m1 hrec1 hP
    obtain ⟨ns1, lo⟩ := X1
    dsimp only at m1 hrec1 hP
    have hl1 : ns1.length + 1 ≤ ns.length + 2 ^ k := m1.len
    have m2 := plan_made f vars k (v + 1) (b + 2 ^ (v - 1)) ns1 (by omega) (by omega) (by omega) m1.ok
    have hrec2 := Lib.hid (fun sv w (h : PlanSp w0 p vars g cb sv ns1 w) => from_any hvars eg hfn k (v + 1) (b + 2 ^ (v - 1)) ns1 sv w (by omega) (by omega) (by omega) m1.ok (by omega) h)
    generalize planF f k (v + 1) (b + 2 ^ (v - 1)) ns1 = X2 at m2 hrec2 hP
    obtain ⟨ns2, hi⟩ := X2
    dsimp only at m2 hrec2 hP
    have hl2 : ns2.length + 1 ≤ ns1.length + 2 ^ k := m2.len
    have c0 := HS.cell (i := 0) rfl (o := 0) rfl
    have hgt : ¬ (vars : Int) < (v : Int) := by omega
    have hor := or_pow hb (by omega)
    have hok2 := Lib.hid (nd_small m2.ok (by omega) (by omega))
    have hrl : 0 ≤ lo ∧ lo ≤ 1000 := ⟨m1.r0, by have := m1.r1; omega⟩
    have hrh : 0 ≤ hi ∧ hi ≤ 1000 := ⟨m2.r0, by have := m2.r1; omega⟩
    have hl3 : ns2.length ≤ 1000 := by omega
    have hv1 : (v : Int) ≤ 6 := by omega
    have hvw : IntKind.i64.wrap ((v : Int) + 1) = ((v + 1 : Nat) : Int) := by rw [IntWalk.i64_in _ (by omega)]; omega
    have hcast : ((b + 2 ^ (v - 1) : Nat) : Int) = (b : Int) + 2 ^ (v - 1) := by rw [Int.natCast_add, Int.natCast_pow]; rfl
    rw [hcast] at hrec2 hor
    replace HS := Lib.hid HS
    clear m1 m2 hok hl hpk hp hfn hb hl1 hl2
    go_enter Try.func132, Try.ntmps132
    go_wp2_with fail
    refine hrec1.out.mono ?_
    rintro e w1 ⟨sv1, rfl, HS1⟩
    replace HS1 := Lib.hid HS1
    clear HS hrec1 c0
    go_wp2_with fail
    refine (hrec2.out sv1 w1 HS1.out).mono ?_
    rintro e w2 ⟨sv2, rfl, HS2⟩
    obtain ⟨A, c, rfl, hN⟩ := nd_own (HS2.own (i := 1) rfl) hok2.out
    replace HS2 := Lib.hid HS2
    replace hN := Lib.hid hN
    clear HS1 hrec2
    by_cases heq : lo = hi
    · have hP2 : Hid (planF f (k + 1) v b ns = (ns2, lo)) := by unfold Hid; exact hP.out.trans (if_pos heq)
      subst heq
      clear hP hN hor
      go_wp2_with fail
      go_ret
      exact ⟨_, ret_int (by rw [hP2.out]), by rw [hP2.out]; exact HS2.out⟩
    have hP2 : Hid (planF f (k + 1) v b ns = addN ns2 ⟨v, lo, hi⟩) := by unfold Hid; exact hP.out.trans (if_neg heq)
    clear hP hor
    have HS3 := HS2.out.alloc_box #[.int .i64 v, .int .i64 lo, .int .i64 hi] 84
    have d0 := cell_regrown (HS3.cell (i := 0) rfl (o := 0) rfl)
    have d1 := cell_regrown (HS3.cell (i := 0) rfl (o := 1) rfl)
    have d2 := cell_regrown (HS3.cell (i := 0) rfl (o := 2) rfl)
    have e2 := cell_regrown (HS3.cell (i := 1) rfl (o := 2) rfl)
    have hix := Lib.hid (fun w hb => indexNd_any ⟨v, lo, hi⟩ A c ns2 w (hN.out.grow hb) (by omega))
    replace HS3 := Lib.hid HS3
    clear HS2
    have hsz : ∀ d os, («Sort».grow (redrawn (w2.alloc (.cells #[.int .i64 v, .int .i64 lo, .int .i64 hi] 84)) d) os) = («Sort».grow (redrawn (w2.alloc (.cells #[.int .i64 v, .int .i64 lo, .int .i64 hi] 84)) d) os) := fun _ _ => rfl
    clear hsz
    by_cases hin : (⟨v, lo, hi⟩ : Nd) ∈ ns2
    · have hil := List.idxOf_lt_length_of_mem hin
      have hid : Hid (addN ns2 ⟨v, lo, hi⟩ = (ns2, ((ns2.idxOf ⟨v, lo, hi⟩ : Nat) : Int) + 2)) := by unfold Hid addN; rw [if_pos hin]
      have hii : idxN ns2 ⟨v, lo, hi⟩ = ((ns2.idxOf ⟨v, lo, hi⟩ : Nat) : Int) := by unfold idxN; rw [if_pos hin]
      rw [hii] at hix
      generalize ns2.idxOf ⟨v, lo, hi⟩ = q at hil hid hix
      clear hii hin
      go_wp2_with fail
      refine wp_region_quiet_below (by kernel_rfl) (by kernel_rfl) ?_
      repeat (any_goals (go_big_quiet_step ((go_at_call 174; exact Calls.regrown_of (hix.out _ ((bal (bb _) _).trans ((below_regrown _ _ _).mono (by simp))))))))
      refine wpQuiet_nil ?_
      rintro w3 ⟨pp, rfl⟩
      have HS4 := Lib.hid (HS3.out.grow (below_regrown _ pp.d pp.os)).tail
      clear HS3 d0 d1 d2 e2 hix hN
      go_wp2_with fail
      go_ret
      exact ⟨_, ret_int (by rw [hP2.out, hid.out]), by rw [hP2.out, hid.out]; exact HS4.out⟩
    · obtain ⟨i0, hi0, hz0, hz1, hz2⟩ := info_parts infoNd
      have hid : Hid (addN ns2 ⟨v, lo, hi⟩ = (ns2 ++ [⟨v, lo, hi⟩], ((ns2.length : Nat) : Int) + 2)) := by unfold Hid addN; rw [if_neg hin]
      have hii : idxN ns2 ⟨v, lo, hi⟩ = -1 := by unfold idxN; rw [if_neg hin]
      rw [hii] at hix
      clear hii hin
      go_wp2_with fail
      refine wp_region_quiet_below (by kernel_rfl) (by kernel_rfl) ?_
      repeat (any_goals (go_big_quiet_step ((go_at_call 174; exact Calls.regrown_of (hix.out _ ((bal (bb _) _).trans ((below_regrown _ _ _).mono (by simp))))))))
      refine wpQuiet_nil ?_
      rintro w3 ⟨pp, hw3⟩
      have HS4 := HS3.out.grow (w' := w3) (hw3 ▸ below_regrown _ pp.d pp.os)
      have f0 := HS4.cell (i := 0) rfl (o := 0) rfl
      have f1 := HS4.cell (i := 0) rfl (o := 1) rfl
      have f2 := HS4.cell (i := 0) rfl (o := 2) rfl
      have g2 := HS4.cell (i := 1) rfl (o := 2) rfl
      have hpl := (HS4.box (i := 1) rfl).2.1
      replace HS4 := Lib.hid HS4
      clear hw3 HS3 d0 d1 d2 e2 hix hN
      go_wp2_with fail
      refine wp_region_tail_lit (S := (fun w' => w'.cell? ⟨p, 2, none⟩ = some (.slice A ns2.length c) ∧ w'.cell? ⟨w2.heap.size, 0, none⟩ = some (.int .i64 v) ∧ w'.cell? ⟨w2.heap.size, 1, none⟩ = some (.int .i64 lo) ∧ w'.cell? ⟨w2.heap.size, 2, none⟩ = some (.int .i64 hi))) 8 [false, false, false, false, false, false, false, false, false, false, false] (by kernel_rfl) (by kernel_rfl) (by kernel_rfl) ?_ ?_
      · exact ⟨g2, f0, f1, f2⟩
      intro hS
      (refine walkT_take (i := 0) (v := ?_) rfl (by kernel_rfl) (by decide) (by kernel_rfl) (by kernel_rfl) (fun _ _ _ h => h) (Or.inl ⟨by rfl, ?_⟩) (by assumption) ?_; rotate_left; (focus (intro w hSw; (try dsimp only at hSw); go_simp; (try with_reducible rfl); done)); (try simp only [put_rules]))
      (refine walkT_take (i := 1) (v := ?_) rfl (by kernel_rfl) (by decide) (by kernel_rfl) (by kernel_rfl) (fun _ _ _ h => h) (Or.inl ⟨by rfl, ?_⟩) (by assumption) ?_; rotate_left; (focus (intro w hSw; (try dsimp only at hSw); go_simp; (try with_reducible rfl); done)); (try simp only [put_rules]))
      (refine walkT_take (i := 2) (v := ?_) rfl (by kernel_rfl) (by decide) (by kernel_rfl) (by kernel_rfl) (fun _ _ _ h => h) (Or.inl ⟨by rfl, ?_⟩) (by assumption) ?_; rotate_left; (focus (intro w hSw; (try dsimp only at hSw); go_simp; (try with_reducible rfl); done)); (try simp only [put_rules]))
      (refine walkT_take (i := 3) (v := ?_) rfl (by kernel_rfl) (by decide) (by kernel_rfl) (by kernel_rfl) (fun _ _ _ h => h) (Or.inl ⟨by rfl, ?_⟩) (by assumption) ?_; rotate_left; (focus (intro w hSw; (try dsimp only at hSw); go_simp; (try with_reducible rfl); done)); (try simp only [put_rules]))
      (refine walkT_take (i := 4) (v := ?_) rfl (by kernel_rfl) (by decide) (by kernel_rfl) (by kernel_rfl) (fun _ _ _ h => h) (Or.inl ⟨by rfl, ?_⟩) (by assumption) ?_; rotate_left; (focus (intro w hSw; (try dsimp only at hSw); go_simp; (try with_reducible rfl); done)); (try simp only [put_rules]))
      (refine walkT_take (i := 5) (v := ?_) rfl (by kernel_rfl) (by decide) (by kernel_rfl) (by kernel_rfl) (fun _ _ _ h => h) (Or.inl ⟨by rfl, ?_⟩) (by assumption) ?_; rotate_left; (focus (intro w hSw; (try dsimp only at hSw); go_simp; (try with_reducible rfl); done)); (try simp only [put_rules]))
      (refine walkT_ready (rs := [6]) (by kernel_rfl) (by simp) (by decide) ?_; refine AllT.cons rfl (fun K hK => ?_) AllT.nil)
      go_simp
      have S5 := HS4.out.alloc_box #[.int .i64 v, .int .i64 lo, .int .i64 hi] 84
      replace S5 := Lib.hid S5
      refine hK.out _ _ ?_ (fun _ => ?_)
      · exact ⟨S5.out.cell (i := 2) rfl (o := 2) rfl, S5.out.cell (i := 1) rfl (o := 0) rfl, S5.out.cell (i := 1) rfl (o := 1) rfl, S5.out.cell (i := 1) rfl (o := 2) rfl⟩
      clear hK HS4
      (try simp only [put_rules])
      (refine walkT_ready (rs := [7]) (by kernel_rfl) (by simp) (by decide) ?_; refine AllT.cons rfl (fun K hK => ?_) AllT.nil)
      (refine step_append_src rfl _ _ rfl Try.underlying32 hi0 hz0 hz1 hz2 rfl (by decide) _ ns2.length _ rfl (S5.out.own (i := 3) rfl) _ 1 1 [.int .i64 v, .int .i64 lo, .int .i64 hi] rfl (Src.three (S5.out.cell (i := 0) rfl (o := 0) rfl) (S5.out.cell (i := 0) rfl (o := 1) rfl) (S5.out.cell (i := 0) rfl (o := 2) rfl)) (by simp [Value.oneCell']) (by unfold maxLen; omega) (by omega) ?_; intro vE wE hownE hgE hatE)
      have S6 := S5.out.drew.own_push (i := 3) rfl (bb _) hownE hgE hatE
      obtain ⟨aE, cE, rfl⟩ := own_slice hownE
      refine hK.out _ _ ?_ (fun _ => ?_)
      · exact ⟨S6.cell (i := 2) rfl (o := 2) rfl, S6.cell (i := 1) rfl (o := 0) rfl, S6.cell (i := 1) rfl (o := 1) rfl, S6.cell (i := 1) rfl (o := 2) rfl⟩
      clear hK S5 hownE hgE hatE
      have hfz := S6.frozen (i := 2) rfl 2
      have hc6 := S6.cell (i := 2) rfl (o := 2) rfl
      have S7 := Lib.hid ((S6.store (i := 2) rfl 2 (.slice aE (ns2.length + 1) cE)).tail).tail
      clear S6
      (try simp only [put_rules])
      (refine walkT_done (by kernel_rfl) ?_)
      simp only [List.drop_succ_cons, List.drop_zero]
      go_wp2_with fail
      go_ret
      refine ⟨ret_int (by rw [hP2.out, hid.out]), .slice aE (ns2.length + 1) cE, ?_⟩
      rw [hP2.out, hid.out]
      unfold PlanSp
      rw [List.length_append, List.flatMap_append]
      exact S7.out
end Go.Proofs.Ytbemodacpimiiaa

/- Contracts: planned diagrams, in the program. -/
namespace Go.Proofs.Ytbemodacpimiiaa
open Go.RowKit

/-- A diagram that can be read. -/
def DgPost (w : World) (ns : List Nd) (v : Value) (w' : World) : Prop := ∃ A c, v = .slice A ns.length c ∧ NdAt w' A ns ∧ (∀ a, A = some a → w.heap.size ≤ a.block) ∧ Below w.heap.size w w'
theorem NdAt.keep {w w' : World} {A : Option Addr} {ns : List Nd} (h : NdAt w A ns) (hk : ∀ a, A = some a → w'.heap[a.block]? = w.heap[a.block]?) : NdAt w' A ns := by
  refine ⟨fun j hj => ?_, h.ok⟩
  obtain ⟨b, off, e, h1, h2, h3⟩ := h.at_ j hj
  have hc : ∀ o, w'.cell? ⟨b, o, none⟩ = w.cell? ⟨b, o, none⟩ := fun o => World.cell?_of_block (a := ⟨b, o, none⟩) (hk ⟨b, off, none⟩ e)
  exact ⟨b, off, e, (hc _).trans h1, (hc _).trans h2, (hc _).trans h3⟩
/-- A store into another block. -/
theorem NdAt.set {w : World} {A : Option Addr} {ns : List Nd} (h : NdAt w A ns) {g : Nat} (hg : ∀ a, A = some a → a.block ≠ g) (o : Nat) (u : Value) : NdAt (w.setCell ⟨g, o, none⟩ u) A ns :=
  h.keep fun a ha => Below.heap_setCell _ _ _ _ (hg a ha)
set_option maxRecDepth 100000 in
set_option maxHeartbeats 4000000 in
theorem planned_any (vars : Nat) (g : FuncId) (cb : Array Value) (f : Nat → Bool) (w : World) (hvars : vars ≤ 6) (eg : ∀ args w, (callFunc g args).run Try.prog w = .ok (.enter g args) w) (hfn : FnOk w vars g cb f) :
    Calls Try.prog 66 #[.int .i64 vars, .func (.func g) #[] cb] w fun e w' => ∃ v, e = .returned (dgV (dgR vars f) v) ∧ DgPost w (dgN vars f) v w' := by
  have HS0 := Lib.hid ((Sp.start w).alloc_box #[.int .i64 0, .slice none 0 0] 34)
  have hB0 := bal (bb w) (.cells #[.int .i64 0, .slice none 0 0] 34)
  have hfn0 : FnOk (w.alloc (.cells #[.int .i64 0, .slice none 0 0] 34)) vars g cb f := fun b w' hb hbl => hfn b w' hb (btr hB0 hbl)
  have S0 := ((Sp.start (w.alloc (.cells #[.int .i64 0, .slice none 0 0] 34))).own_nil 84 3).alloc_box #[.int .i64 vars, .func (.func g) #[] cb, .slice none 0 0] 153
  simp only [World.size_alloc] at S0
  have hm := dg_made vars f
  have hok := Lib.hid (nd_small hm.ok (by omega) (by have := dg_len f hvars; omega))
  have hcall := Lib.hid (from_any hvars eg hfn0 vars 1 0 [] (.slice none 0 0) _ (by omega) (by omega) (by decide) (fun i hi => by simp at hi) (by have : 2 ^ vars ≤ 2 ^ 6 := Nat.pow_le_pow_right (by decide) hvars; simp; omega) S0)
  have e1 : (planF f vars 1 0 []).2 = dgR vars f := rfl
  have e2 : (planF f vars 1 0 []).1 = dgN vars f := rfl
  rw [e1, e2] at hcall
  replace hB0 := Lib.hid hB0
  clear e1 e2 hm hfn hfn0 S0
  generalize dgR vars f = r at *
  generalize dgN vars f = ns at *
  go_enter Try.func66, Try.ntmps66
  go_wp2_with fail
  refine hcall.out.mono ?_
  rintro e w1 ⟨sv, rfl, HS⟩
  have HS1 : Sp w w1 [Box (w.heap.size + 1) 153 #[.int .i64 vars, .func (.func g) #[] cb, sv], Own 84 3 sv ns.length (ns.flatMap ndEnc), Box w.heap.size 34 #[.int .i64 0, .slice none 0 0]] := HS0.out.seq HS
  obtain ⟨A, c, rfl, -⟩ := nd_own (HS1.own (i := 1) rfl) hok.out
  have c2 := HS1.cell (i := 0) rfl (o := 2) rfl
  have r0 := HS1.cell (i := 2) rfl (o := 0) rfl
  have r1 := HS1.cell (i := 2) rfl (o := 1) rfl
  have f0 := HS1.frozen (i := 2) rfl 0
  have f1 := HS1.frozen (i := 2) rfl 1
  have S2 := Lib.hid ((HS1.store (i := 2) rfl 0 (.int .i64 r)).store (i := 2) rfl 1 (.slice A ns.length c))
  clear hcall HS HS0 HS1 hB0
  have j0 := S2.out.cell (i := 2) rfl (o := 0) rfl
  have j1 := S2.out.cell (i := 2) rfl (o := 1) rfl
  obtain ⟨A', c', e1, hN⟩ := nd_own (S2.out.own (i := 1) rfl) hok.out
  have hB := S2.out.below
  have hfrom := Lib.hid (own_from (S2.out.owns_end (i := 1) rfl))
  cases e1
  replace hN := Lib.hid hN
  clear S2 hok
  go_wp2_with fail
  exact bodyPost_ret (v := .agg #[.int .i64 r, .slice A ns.length c]) (by simp [results, Try.results66, go_sem, j0, j1]) rfl ⟨_, rfl, _, _, rfl, hN.out, hfrom.out, hB⟩
end Go.Proofs.Ytbemodacpimiiaa

/- Memory: own rows of truth values, stores into own rows, diagrams that can be read. -/
namespace Go.Proofs.Ytbemodacpimiiaa
open Go.RowKit

/-- Truth values. -/
def blV (n : Nat) (f : Nat → Bool) : List Value := (List.range n).map fun j => .bool (f j)
def BlAt (w : World) (A : Option Addr) (n : Nat) (f : Nat → Bool) : Prop := ∀ j, j < n → ∃ b off, A = some ⟨b, off, none⟩ ∧ w.cell? ⟨b, off + j, none⟩ = some (.bool (f j))
theorem blV_len (n : Nat) (f : Nat → Bool) : (blV n f).length = n := by simp [blV]
theorem blV_snoc (n : Nat) (f : Nat → Bool) : blV (n + 1) f = blV n f ++ [.bool (f n)] := by simp [blV, List.range_succ]
theorem blV_get {n j : Nat} (f : Nat → Bool) (h : j < n) : (blV n f)[j]? = some (.bool (f j)) := by simp [blV, h]
theorem blV_congr {n : Nat} {f g : Nat → Bool} (h : ∀ j, j < n → f j = g j) : blV n f = blV n g := by
  unfold blV
  exact List.map_congr_left fun j hj => by rw [h j (List.mem_range.1 hj)]
theorem blV_set {n k : Nat} (f : Nat → Bool) (x : Bool) : (blV n f).set k (.bool x) = blV n (fun j => if j = k then x else f j) := by
  apply List.ext_getElem?
  intro j
  rw [List.getElem?_set, blV_len]
  by_cases hj : j < n
  · rw [blV_get _ hj, blV_get _ hj]
    by_cases h : k = j
    · subst h; simp [hj]
    · rw [if_neg h, if_neg (fun e => h e.symm)]
  · rw [List.getElem?_eq_none (by rw [blV_len]; omega), List.getElem?_eq_none (by rw [blV_len]; omega)]
    split
    · rw [if_neg (by omega)]
    · rfl
theorem BlAt.grow {w w' : World} {A : Option Addr} {n : Nat} {f : Nat → Bool} (h : BlAt w A n f) (hb : Below w.heap.size w w') : BlAt w' A n f := fun j hj => by
  obtain ⟨b, off, e, hc⟩ := h j hj
  exact ⟨b, off, e, (bcell hb).1 b _ (World.block_lt_of_cell? _ _ hc) ▸ hc⟩
theorem bl_own {w : World} {B : Nat} {e : TypeId} {v : Value} {n : Nat} {f : Nat → Bool} (h : w.ownsRow B e 1 v n (blV n f)) : ∃ A c, v = .slice A n c ∧ BlAt w A n f := by
  rcases Nat.eq_zero_or_pos n with rfl | hn
  · obtain ⟨a, c, rfl⟩ := own_slice h
    exact ⟨a, c, rfl, fun j hj => absurd hj (by omega)⟩
  · obtain ⟨g, cap, cur, rfl, _, hh, _, _, _, ht⟩ := own_block h hn
    exact ⟨_, cap, rfl, fun j hj => ⟨g, 0, rfl, by rw [Nat.zero_add, hown_cell hh ht (by omega), blV_get f hj]⟩⟩
theorem infoBl : (Try.prog.info? 4).map (fun i => (i.zero, i.size, i.bytes)) = some (some (.bool false), 1, 1) := by kernel_rfl
/-- Two results: a diagram, and whether there is one. -/
def DgTold (w : World) (ok : Bool) (r : Int) (ns : List Nd) (e : Ending) (w' : World) : Prop := ∃ A c, e = .returned (.tuple #[dgV r (.slice A ns.length c), .bool ok]) ∧ NdAt w' A ns ∧ (∀ a, A = some a → w.heap.size ≤ a.block) ∧ Below w.heap.size w w'
def outR (ok : Bool) (vars : Int) (f : Nat → Bool) : Int := if ok then dgR vars.toNat f else 0
def outN (ok : Bool) (vars : Int) (f : Nat → Bool) : List Nd := if ok then dgN vars.toNat f else []
theorem NdAt.nil (w : World) : NdAt w none [] := ⟨fun j hj => absurd hj (by simp), by simp⟩
/-- What is known of a valid diagram. -/
theorem good_parts {vars r : Int} {ns : List Nd} (h : goodD vars r ns = true) : (0 ≤ vars ∧ vars ≤ 6) ∧ ns.length ≤ 63 ∧ (0 ≤ r ∧ r ≤ ns.length + 1) ∧ WkN ns := by
  unfold goodD at h
  rw [Bool.and_eq_true, Bool.and_eq_true, Bool.and_eq_true, inB_def, inB_def, decide_eq_true_eq, ndsB_ok] at h
  exact ⟨h.1.1.1, h.1.1.2, h.1.2, OkN.wk h.2⟩
end Go.Proofs.Ytbemodacpimiiaa

/- Contracts: valid diagrams, in the reference. -/
namespace Go.Proofs.Ytbemodacpimiiaa
open Go.RowKit

theorem l26Vars_any (vars : Int) (w : World) : Calls Try.prog 126 #[.int .i64 vars] w fun e w' => e = .returned (.bool (inB vars 0 6)) ∧ w = w' := by
  go_enter Try.func126, Try.ntmps126
  go_wp2_with (go_at_call 86; refine (l1In_any _ _ _ _).mono ?_; rintro e w1 ⟨rfl, rfl⟩)
  go_ret
  exact ⟨rfl, rfl⟩
theorem under_node {ns : List Nd} {m : Nat} (hm : m < ns.length) {lo : Int} (h : lo = (m : Int) + 2) (v : Int) : under ns v lo = decide (v < ns[m].v) := by
  unfold under
  rw [decide_eq_false (by omega), List.getD_eq_getElem?_getD, show (lo - 2).toNat = m by omega, List.getElem?_eq_getElem hm]
  rfl
theorem under_low {ns : List Nd} {lo : Int} (h : lo < 2) (v : Int) : under ns v lo = true := by
  unfold under
  rw [decide_eq_true h]; rfl
theorem NdAt.var {w : World} {b off : Nat} {ns : List Nd} (h : NdAt w (some ⟨b, off, none⟩) ns) {m : Nat} (hm : m < ns.length) : w.cell? ⟨b, off + m * 3, none⟩ = some (.int .i64 ns[m].v) := by
  obtain ⟨b', off', e, h1, _⟩ := h.at_ m hm
  cases e
  exact h1
theorem nds_no' {vars : Int} {ns : List Nd} {k : Nat} (hk : k < ns.length) (h : ndB vars ns k = false) : ndsB vars ns ns.length = false := by
  cases hh : ndsB vars ns ns.length
  · rfl
  · have := ndsB_ok.1 hh k hk
    rw [h] at this; cases this
theorem goodD_def' (vars r : Int) (ns : List Nd) : goodD vars r ns = (inB vars 0 6 && decide (ns.length ≤ 63) && inB r 0 (ns.length + 1) && ndsB vars ns ns.length) := rfl
theorem ndB_eq {vars : Int} {ns : List Nd} {i : Nat} (hi : i < ns.length) {v lo hi' : Int} (h : ns[i] = ⟨v, lo, hi'⟩) : ndB vars ns i = (inB v 1 vars && inB lo 0 (i + 1) && inB hi' 0 (i + 1) && under ns v lo && under ns v hi') := by
  unfold ndB
  rw [List.getD_eq_getElem?_getD, List.getElem?_eq_getElem hi, h]
  rfl
theorem NdAt.ok_at {w : World} {A : Option Addr} {ns : List Nd} (h : NdAt w A ns) {m : Nat} (hm : m < ns.length) : ndOk ns[m] := h.ok _ (List.getElem_mem hm)

/- left out: the seat has no spec.l26Good -/
end Go.Proofs.Ytbemodacpimiiaa

/- Contracts: the and, or and not of diagrams, in the program. -/
namespace Go.Proofs.Ytbemodacpimiiaa
open Go.RowKit

/-- A function of two truth values, as the closure of a pair calls it. -/
def PairOk (h : FuncId) (q : Bool → Bool → Bool) : Prop := ∀ (r r' : Int) (A A' : Option Addr) (c c' : Nat) (ns ns' : List Nd) (bits b7 b5 b6 : Nat) (w : World), NdAt w A ns → NdAt w A' ns' → ns.length ≤ 1000000 → ns'.length ≤ 1000000 → WkN ns → WkN ns' →
    0 ≤ r → r ≤ ns.length + 1 → 0 ≤ r' → r' ≤ ns'.length + 1 → bits < 2 ^ 62 →
    w.cell? ⟨b7, 0, none⟩ = some (.func (.func h) #[] #[]) → w.cell? ⟨b5, 0, none⟩ = some (.int .i64 r) → w.cell? ⟨b5, 1, none⟩ = some (.slice A ns.length c) →
    w.cell? ⟨b6, 0, none⟩ = some (.int .i64 r') → w.cell? ⟨b6, 1, none⟩ = some (.slice A' ns'.length c') →
    Calls Try.prog 135 #[.int .i64 bits, .pointer (some ⟨b7, 0, none⟩), .pointer (some ⟨b5, 0, none⟩), .pointer (some ⟨b6, 0, none⟩)] w fun e w' => e = .returned (.bool (q (valD r ns bits) (valD r' ns' bits))) ∧ Below w.heap.size w w'

set_option maxRecDepth 100000 in
set_option maxHeartbeats 4000000 in
theorem pairDiagram_any {h : FuncId} {q : Bool → Bool → Bool} (hp : PairOk h q) (vars r r' : Int) (A A' : Option Addr) (c c' : Nat) (ns ns' : List Nd) (w : World) (hx : NdAt w A ns) (hy : NdAt w A' ns') (hl : ns.length ≤ 1000000) (hl' : ns'.length ≤ 1000000) :
    Calls Try.prog 69 #[.int .i64 vars, dgV r (.slice A ns.length c), dgV r' (.slice A' ns'.length c'), .func (.func h) #[] #[]] w
      (DgTold w (goodD vars r ns && goodD vars r' ns') (outR (goodD vars r ns && goodD vars r' ns') vars fun b => q (valD r ns b) (valD r' ns' b)) (outN (goodD vars r ns && goodD vars r' ns') vars fun b => q (valD r ns b) (valD r' ns' b))) := by
  have S0 := ((((Sp.start w).alloc_box #[.int .i64 r, .slice A ns.length c] 34).alloc_box #[.int .i64 r', .slice A' ns'.length c'] 34).alloc_box #[.func (.func h) #[] #[]] 91).alloc_box #[.int .i64 0, .slice none 0 0] 34
  simp only [World.size_alloc] at S0
  have hcall := Lib.hid (isDiagram_any vars r A c ns _ (hx.grow S0.below) hl)
  have hcall2 := Lib.hid (fun W hb => isDiagram_any vars r' A' c' ns' W (hy.grow hb) hl')
  have c60 := S0.cell (i := 2) rfl (o := 0) rfl
  have c61 := S0.cell (i := 2) rfl (o := 1) rfl
  replace hx := Lib.hid hx
  replace hy := Lib.hid hy
  replace hp := Lib.hid hp
  replace S0 := Lib.hid S0
  cases h1 : goodD vars r ns
  · rw [h1] at hcall
    go_enter Try.func69, Try.ntmps69
    go_wp2_with fail
    refine hcall.out.mono ?_
    rintro e w1 ⟨rfl, hb1⟩
    have S1 := S0.out.grow hb1
    have r0 := S1.cell (i := 0) rfl (o := 0) rfl
    have r1 := S1.cell (i := 0) rfl (o := 1) rfl
    have f0 := S1.frozen (i := 0) rfl 0
    have f1 := S1.frozen (i := 0) rfl 1
    have S2 := (S1.store (i := 0) rfl 0 (.int .i64 0)).store (i := 0) rfl 1 (.slice none 0 0)
    have j0 := S2.cell (i := 0) rfl (o := 0) rfl
    have j1 := S2.cell (i := 0) rfl (o := 1) rfl
    have hB := S2.below
    clear S0 S1 S2 hcall hcall2 c60 c61 hb1
    go_wp2_with fail
    exact bodyPost_ret (v := .tuple #[.agg #[.int .i64 0, .slice none 0 0], .bool false]) (by simp [results, Try.results69, go_sem, j0, j1]) rfl ⟨none, 0, rfl, .nil _, (fun a e => by cases e), hB⟩
  cases h2 : goodD vars r' ns'
  · rw [h1] at hcall
    rw [h2] at hcall2
    go_enter Try.func69, Try.ntmps69
    go_wp2_with fail
    refine hcall.out.mono ?_
    rintro e w1 ⟨rfl, hb1⟩
    have S1 := S0.out.grow hb1
    have d60 := S1.cell (i := 2) rfl (o := 0) rfl
    have d61 := S1.cell (i := 2) rfl (o := 1) rfl
    have hcall3 := Lib.hid (hcall2.out _ S1.below)
    replace S1 := Lib.hid S1
    clear S0 hcall hcall2 c60 c61 hb1
    go_wp2_with fail
    refine hcall3.out.mono ?_
    rintro e w2 ⟨rfl, hb2⟩
    have S2 := S1.out.grow hb2
    have r0 := S2.cell (i := 0) rfl (o := 0) rfl
    have r1 := S2.cell (i := 0) rfl (o := 1) rfl
    have f0 := S2.frozen (i := 0) rfl 0
    have f1 := S2.frozen (i := 0) rfl 1
    have S3 := (S2.store (i := 0) rfl 0 (.int .i64 0)).store (i := 0) rfl 1 (.slice none 0 0)
    have j0 := S3.cell (i := 0) rfl (o := 0) rfl
    have j1 := S3.cell (i := 0) rfl (o := 1) rfl
    have hB := S3.below
    clear S1 S2 S3 hcall3 d60 d61 hb2
    go_wp2_with fail
    exact bodyPost_ret (v := .tuple #[.agg #[.int .i64 0, .slice none 0 0], .bool false]) (by simp [results, Try.results69, go_sem, j0, j1]) rfl ⟨none, 0, rfl, .nil _, (fun a e => by cases e), hB⟩
  have g1 := good_parts h1
  have g2 := good_parts h2
  rw [h1] at hcall
  rw [h2] at hcall2
  obtain ⟨n, rfl⟩ := Int.eq_ofNat_of_zero_le g1.1.1
  have hn : n ≤ 6 := by omega
  have hR : Hid (outR (true && true) (n : Int) (fun b => q (valD r ns b) (valD r' ns' b)) = dgR n (fun b => q (valD r ns b) (valD r' ns' b))) := rfl
  have hN : Hid (outN (true && true) (n : Int) (fun b => q (valD r ns b) (valD r' ns' b)) = dgN n (fun b => q (valD r ns b) (valD r' ns' b))) := rfl
  have eg : ∀ args w, (callFunc 135 args).run Try.prog w = .ok (.enter 135 args) w := enters_of Try.func135 (by kernel_rfl) rfl
  have hpl := Lib.hid (fun W => planned_any n 135 #[.pointer (some ⟨w.heap.size + 1 + 1, 0, none⟩), .pointer (some ⟨w.heap.size, 0, none⟩), .pointer (some ⟨w.heap.size + 1, 0, none⟩)] (fun b => q (valD r ns b) (valD r' ns' b)) W hn eg)
  have hfn : Hid (∀ W, Sp w W [Box (w.heap.size + 1 + 1 + 1) 34 #[.int .i64 0, .slice none 0 0], Box (w.heap.size + 1 + 1) 91 #[.func (.func h) #[] #[]], Box (w.heap.size + 1) 34 #[.int .i64 r', .slice A' ns'.length c'], Box w.heap.size 34 #[.int .i64 r, .slice A ns.length c]] →
      FnOk W n 135 #[.pointer (some ⟨w.heap.size + 1 + 1, 0, none⟩), .pointer (some ⟨w.heap.size, 0, none⟩), .pointer (some ⟨w.heap.size + 1, 0, none⟩)] (fun b => q (valD r ns b) (valD r' ns' b))) := by
    intro W S b w' hb hbl
    have S' := S.grow hbl
    have hb2 : b < 2 ^ 62 := Nat.lt_of_lt_of_le hb (Nat.pow_le_pow_right (by decide) (by omega))
    exact hp.out r r' A A' c c' ns ns' b _ _ _ w' (hx.out.grow S'.below) (hy.out.grow S'.below) hl hl' g1.2.2.2 g2.2.2.2 g1.2.2.1.1 g1.2.2.1.2 g2.2.2.1.1 g2.2.2.1.2 hb2 (S'.cell (i := 1) rfl (o := 0) rfl) (S'.cell (i := 3) rfl (o := 0) rfl) (S'.cell (i := 3) rfl (o := 1) rfl) (S'.cell (i := 2) rfl (o := 0) rfl) (S'.cell (i := 2) rfl (o := 1) rfl)
  clear g1 g2 hx hy hp eg
  go_enter Try.func69, Try.ntmps69
  go_wp2_with fail
  refine hcall.out.mono ?_
  rintro e w1 ⟨rfl, hb1⟩
  have S1 := S0.out.grow hb1
  have d60 := S1.cell (i := 2) rfl (o := 0) rfl
  have d61 := S1.cell (i := 2) rfl (o := 1) rfl
  have hcall3 := Lib.hid (hcall2.out _ S1.below)
  replace S1 := Lib.hid S1
  clear S0 hcall hcall2 c60 c61 hb1
  go_wp2_with fail
  refine hcall3.out.mono ?_
  rintro e w2 ⟨rfl, hb2⟩
  have S2 := S1.out.grow hb2
  have hpl2 := Lib.hid (hpl.out w2 (hfn.out w2 S2))
  replace S2 := Lib.hid S2
  clear S1 hcall3 d60 d61 hb2 hpl hfn
  go_wp2_with fail
  refine hpl2.out.mono ?_
  rintro e w3 ⟨v, rfl, B, k, rfl, hNd, hfr, hb3⟩
  have S3 := S2.out.grow hb3
  generalize hRn : dgR n (fun b => q (valD r ns b) (valD r' ns' b)) = rr at *
  generalize hNn : dgN n (fun b => q (valD r ns b) (valD r' ns' b)) = nn at *
  have r0 := S3.cell (i := 0) rfl (o := 0) rfl
  have r1 := S3.cell (i := 0) rfl (o := 1) rfl
  have f0 := S3.frozen (i := 0) rfl 0
  have f1 := S3.frozen (i := 0) rfl 1
  have S4 := (S3.store (i := 0) rfl 0 (.int .i64 rr)).store (i := 0) rfl 1 (.slice B nn.length k)
  have j0 := S4.cell (i := 0) rfl (o := 0) rfl
  have j1 := S4.cell (i := 0) rfl (o := 1) rfl
  have hB := S4.below
  have hlt := (S2.out.box (i := 0) rfl).2.1
  have hne : ∀ a, B = some a → a.block ≠ w.heap.size + 1 + 1 + 1 := fun a ha => by have := hfr a ha; omega
  have hNd2 := Lib.hid ((hNd.set hne 0 (.int .i64 rr)).set hne 1 (.slice B nn.length k))
  have hfr2 : Hid (∀ a, B = some a → w.heap.size ≤ a.block) := fun a ha => by have := hfr a ha; omega
  clear S2 S3 S4 hpl2 hb3 hNd hfr hne hlt
  go_wp2_with fail
  exact bodyPost_ret (v := .tuple #[.agg #[.int .i64 rr, .slice B nn.length k], .bool true]) (by simp [results, Try.results69, go_sem, j0, j1]) rfl ⟨B, k, by rw [hR.out, hN.out]; rfl, by rw [hN.out]; exact hNd2.out, hfr2.out, hB⟩
end Go.Proofs.Ytbemodacpimiiaa

/- Contracts: bits that are set, in the program. -/
namespace Go.Proofs.Ytbemodacpimiiaa
open Go.RowKit

theorem set_fin : ∀ b < 64, ∀ k < 6, bits .andNot .i64 ((b : Nat) : Int) ((2 ^ k : Nat) : Int) = ((b - (if b.testBit k then 2 ^ k else 0) : Nat) : Int) := by decide +kernel
/-- Bits in which the variable of a literal is set such that the literal is true. -/
def setL (b : Nat) (l : Int) : Nat := if 0 < l then b ||| 2 ^ (l.toNat - 1) else b - (if b.testBit ((-l).toNat - 1) then 2 ^ ((-l).toNat - 1) else 0)
theorem or_set {b : Nat} {l : Int} (hb : b < 64) (h0 : 0 < l) (h1 : l ≤ 6) : bits .or .i64 (b : Int) (wrap64 (2 ^ (l.toNat - 1))) = ((setL b l : Nat) : Int) := by
  obtain ⟨e1, e2⟩ := pow_small (v := l.toNat - 1) (by omega)
  rw [e1, (i64_nat b (2 ^ (l.toNat - 1)) (by omega) (by omega)).1, setL, if_pos h0]
theorem clr_set {b : Nat} {l : Int} (hb : b < 64) (h0 : l < 0) (h1 : -6 ≤ l) : bits .andNot .i64 (b : Int) (wrap64 (2 ^ ((-l).toNat - 1))) = ((setL b l : Nat) : Int) := by
  obtain ⟨e1, e2⟩ := pow_small (v := (-l).toNat - 1) (by omega)
  rw [e1, set_fin b hb ((-l).toNat - 1) (by omega), setL, if_neg (show ¬ 0 < l by omega)]
theorem setL_lt {b vars : Nat} {l : Int} (hb : b < 2 ^ vars) (_ : l ≠ 0) (_ : -(vars : Int) ≤ l) (_ : l ≤ vars) : setL b l < 2 ^ vars := by
  unfold setL
  split
  · exact Nat.or_lt_two_pow hb (Nat.pow_lt_pow_right (by decide) (by omega))
  · omega

/- left out: the seat has no impl.setBit -/

def litD (vars l : Int) : Bool := decide (l ≠ 0) && inB l (-vars) vars
set_option maxRecDepth 100000 in
theorem isLiteralD_any (vars l : Int) (h0 : 0 ≤ vars) (h1 : vars ≤ 1000000) (w : World) : Calls Try.prog 130 #[.int .i64 vars, .int .i64 l] w fun e w' => e = .returned (.bool (litD vars l)) ∧ Below w.heap.size w w' := by
  have hw1 : IntKind.i64.wrap (-vars) = -vars := IntWalk.i64_in _ (by omega)
  by_cases hl : l = 0
  · have hF : Hid (litD vars l = false) := by unfold Hid litD; rw [decide_eq_false (by omega)]; rfl
    go_enter Try.func130, Try.ntmps130
    go_wp2_with fail
    go_ret
    exact ⟨ret_bool hF.out.symm, bb _⟩
  · have hF : Hid (litD vars l = inB l (-vars) vars) := by unfold Hid litD; rw [decide_eq_true hl]; rfl
    go_enter Try.func130, Try.ntmps130
    go_wp2_with (go_at_call 64; refine (within_any _ _ _ _).mono ?_; rintro e w1 ⟨rfl, rfl⟩)
    go_ret
    exact ⟨ret_bool (by rw [hF.out]; simp [hl]), bb _⟩

/- left out: the seat has no impl.SetInDiagram$1 -/

/- left out: the seat has no impl.ForgetInDiagram$1 -/
end Go.Proofs.Ytbemodacpimiiaa

/- Contracts: the values of a diagram, in the reference. -/
namespace Go.Proofs.Ytbemodacpimiiaa
open Go.RowKit

set_option maxRecDepth 100000 in
set_option maxHeartbeats 4000000 in
theorem l26Values_any (n : Nat) (hn : n ≤ 6) (r : Int) (A : Option Addr) (c : Nat) (ns : List Nd) (w : World) (hx : NdAt w A ns) (hl : ns.length ≤ 1000000) (hw : WkN ns) (h0 : 0 ≤ r) (h1 : r ≤ ns.length + 1) :
    Calls Try.prog 145 #[.int .i64 n, dgV r (.slice A ns.length c)] w fun e w' => ∃ B k, e = .returned (.slice B (2 ^ n) k) ∧ Sp w w' [Own 4 1 (.slice B (2 ^ n) k) (2 ^ n) (blV (2 ^ n) (valD r ns))] := by
  obtain ⟨hsh, hp⟩ := pow_small hn
  generalize 2 ^ n = N at *
  have S0 := ((Sp.start w).alloc_box #[.int .i64 r, .slice A ns.length c] 34).own_made 4 1
  simp only [World.size_alloc] at S0
  replace S0 := Lib.hid S0
  have hN := Lib.hid hx
  replace hw := Lib.hid hw
  clear hx
  obtain ⟨i0, hi, hz0, hz1, hz2⟩ := info_parts infoBl
  go_enter Try.func145, Try.ntmps145
  go_wp2_with fail
  go_loopw [5, 6] (fun vo vi wr => ∃ (k : Nat) (B : Option Addr) (cc : Nat), k ≤ N ∧ vi = .int .i64 k ∧ vo = .slice B k cc ∧ Hid (Sp w wr [Own 4 1 (.slice B k cc) k (blV k (valD r ns)), Box w.heap.size 34 #[.int .i64 r, .slice A ns.length c]])) (fun _ vi _ => N - (intOf vi).toNat)
  case atStart => exact ⟨0, _, _, Nat.zero_le _, rfl, rfl, S0⟩
  case round =>
    obtain ⟨k, B, cc, hk, rfl, rfl, HS⟩ := hrel
    clear S0
    by_cases hlt : k < N
    · have c0 := HS.out.cell (i := 1) rfl (o := 0) rfl
      have c1 := HS.out.cell (i := 1) rfl (o := 1) rfl
      have hcall := Lib.hid (specValue_any r k A c ns wr (hN.out.grow HS.out.below) hl hw.out h0 h1 (Nat.lt_of_lt_of_le hlt (Nat.le_trans hp (by decide))))
      have hsn := Lib.hid (blV_snoc k (valD r ns))
      generalize valD r ns k = q at *
      go_wp2_with fail
      refine hcall.out.mono ?_
      rintro e w2 ⟨rfl, hb2⟩
      have HS2 := (HS.out.grow hb2).alloc_box #[.bool q] 4
      have kB := HS2.cell (i := 0) rfl (o := 0) rfl
      replace HS2 := Lib.hid HS2
      clear HS hcall hb2 c0 c1
      go_wp2_with (at_builtin; refine wpList_append_src rfl _ _ rfl Try.underlying149 hi hz0 hz1 hz2 rfl (by decide) _ _ _ rfl (HS2.out.own (i := 1) rfl) _ 1 1 [.bool q] rfl (Src.one kB) (by simp [Value.oneCell']) ?c3 ?c4 ?_)
      case c3 => unfold maxLen; omega
      case c4 => omega
      intro vY wY hownY hgY hatY
      have S4 := (HS2.out.own_push (i := 1) rfl (bb _) hownY hgY (by simpa using hatY)).tail
      obtain ⟨aY, cY, rfl⟩ := own_slice hownY
      rw [← hsn.out] at S4
      have HS3 : Hid (Sp w wY [Own 4 1 (.slice aY (k + 1) cY) (k + 1) (blV (k + 1) (valD r ns)), Box w.heap.size 34 #[.int .i64 r, .slice A ns.length c]]) := S4
      clear HS2 S4 kB hownY hgY hatY hsn
      go_wp2_with fail
      go_roundw
      case rel => exact ⟨k + 1, aY, cY, by omega, by go_num, rfl, HS3⟩
      case measure => simp [intOf]; omega
    · obtain rfl : k = N := by omega
      go_wp2_with fail
      go_ret
      exact ⟨B, cc, rfl, HS.out.swap.tail⟩

theorem pow_wrap {v : Nat} (hv : v ≤ 6) : IntKind.i64.wrap ((2 : Int) ^ v) = ((2 ^ v : Nat) : Int) := by
  match v, hv with
  | 0, _ | 1, _ | 2, _ | 3, _ | 4, _ | 5, _ | 6, _ => decide

theorem l2VarD_any (l : Int) (h0 : -6 ≤ l) (h1 : l ≤ 6) (w : World) : Calls Try.prog 151 #[.int .i64 l] w fun e w' => e = .returned (.int .i64 (if l < 0 then -l else l)) ∧ w = w' := by
  have hw1 : IntKind.i64.wrap (-l) = -l := IntWalk.i64_in _ (by omega)
  by_cases h : l < 0
  · rw [if_pos h]
    go_enter Try.func151, Try.ntmps151
    go_wp2_with fail
    go_ret
    exact ⟨rfl, rfl⟩
  · rw [if_neg h]
    go_enter Try.func151, Try.ntmps151
    go_wp2_with fail
    go_ret
    exact ⟨rfl, rfl⟩
theorem l2LitD_any (vars l : Int) (h0 : 0 ≤ vars) (h1 : vars ≤ 1000000) (w : World) : Calls Try.prog 193 #[.int .i64 vars, .int .i64 l] w fun e w' => e = .returned (.bool (litD vars l)) ∧ w = w' := by
  have hw1 : IntKind.i64.wrap (-vars) = -vars := IntWalk.i64_in _ (by omega)
  have hF : Hid (litD vars l = (inB l (-vars) vars && decide (l ≠ 0))) := by unfold Hid litD; rw [Bool.and_comm]
  cases h : inB l (-vars) vars
  all_goals
    rw [h] at hF
    go_enter Try.func193, Try.ntmps193
    go_wp2_with (go_at_call 86; refine (l1In_any _ _ _ _).mono ?_; rw [h]; rintro e w1 ⟨rfl, rfl⟩)
    go_ret
    exact ⟨ret_bool (by rw [hF.out]; first | rfl | (simp only [bne, decide_not, Bool.true_and]; by_cases e : l = 0 <;> simp [e])), rfl⟩

/- left out: the seat has no spec.l26Set -/
end Go.Proofs.Ytbemodacpimiiaa

/- Contracts: the plan of values, in the reference. -/
namespace Go.Proofs.Ytbemodacpimiiaa
open Go.RowKit

/-- The nodes of the plan while it is made. -/
abbrev PlanS (w0 : World) (sv : Value) (ns : List Nd) (w : World) : Prop := Sp w0 w [Own 84 3 sv ns.length (ns.flatMap ndEnc)]

set_option maxRecDepth 100000 in
set_option maxHeartbeats 8000000 in
theorem plan_any {w0 : World} {vars : Nat} {f : Nat → Bool} {A : Option Addr} {c : Nat} (hvars : vars ≤ 6) (hx : BlAt w0 A (2 ^ vars) f) :
    ∀ (k v b : Nat) (ns : List Nd) (sv : Value) (w : World), v + k = vars + 1 → 1 ≤ v → b < 2 ^ (v - 1) → OkN vars ns → ns.length + 2 ^ k ≤ 1000 → PlanS w0 sv ns w →
    Calls Try.prog 171 #[.int .i64 vars, .slice A (2 ^ vars) c, .int .i64 v, .int .i64 b, sv] w fun e w' => ∃ B k', e = .returned (.tuple #[.slice B (planF f k v b ns).1.length k', .int .i64 (planF f k v b ns).2]) ∧ PlanS w0 (.slice B (planF f k v b ns).1.length k') (planF f k v b ns).1 w'
  | 0, v, b, ns, sv, w, hk, hv, hb, hok, hl, HS => by
    have hb' : b < 2 ^ vars := by rw [show vars = v - 1 by omega]; exact hb
    obtain ⟨bb', off, rfl, m0⟩ := (hx.grow HS.below) b hb'
    have hgt : (vars : Int) < (v : Int) := by omega
    obtain ⟨B, c', rfl, -⟩ := nd_own (HS.own (i := 0) rfl) (nd_small hok (by omega) (by omega))
    clear hb hok hl hk hx
    replace HS := Lib.hid HS
    obtain ⟨q, hq⟩ : ∃ q, f b = q := ⟨_, rfl⟩
    rw [hq] at m0
    have hP : Hid (planF f 0 v b ns = (ns, if q then 1 else 0)) := by unfold Hid; rw [planF, hq]
    cases q
    all_goals
      go_enter Try.func171, Try.ntmps171
      go_wp2_with fail
      go_ret2
      exact ⟨B, c', by rw [hP.out]; rfl, by rw [hP.out]; exact HS.out⟩
  | k + 1, v, b, ns, sv, w, hk, hv, hb, hok, hl, HS => by
    have hp : 2 ^ (v + 1 - 1) = 2 ^ (v - 1) + 2 ^ (v - 1) := by
      rw [show v + 1 - 1 = (v - 1) + 1 by omega, Nat.pow_succ]; omega
    have hpk : 2 ^ (k + 1) = 2 ^ k + 2 ^ k := by rw [Nat.pow_succ]; omega
    have hpos : 0 < 2 ^ k := Nat.two_pow_pos k
    have m1 := plan_made f vars k (v + 1) b ns (by omega) (by omega) (by omega) hok
    have hrec1 := Lib.hid (plan_any (c := c) hvars hx k (v + 1) b ns sv w (by omega) (by omega) (by omega) hok (by omega) HS)
    have hP := Lib.hid (planF.eq_2 f v b ns k)
    generalize planF f k (v + 1) b ns = X1 at m1 hrec1 hP
    obtain ⟨ns1, lo⟩ := X1
    dsimp only at m1 hrec1 hP
    have hl1 : ns1.length + 1 ≤ ns.length + 2 ^ k := m1.len
    have m2 := plan_made f vars k (v + 1) (b + 2 ^ (v - 1)) ns1 (by omega) (by omega) (by omega) m1.ok
    have hrec2 := Lib.hid (fun sv w (h : PlanS w0 sv ns1 w) => plan_any (c := c) hvars hx k (v + 1) (b + 2 ^ (v - 1)) ns1 sv w (by omega) (by omega) (by omega) m1.ok (by omega) h)
    generalize planF f k (v + 1) (b + 2 ^ (v - 1)) ns1 = X2 at m2 hrec2 hP
    obtain ⟨ns2, hi⟩ := X2
    dsimp only at m2 hrec2 hP
    have hl2 : ns2.length + 1 ≤ ns1.length + 2 ^ k := m2.len
    have hgt : ¬ (vars : Int) < (v : Int) := by omega
    have hor := or_pow hb (by omega)
    have hok2 := Lib.hid (nd_small m2.ok (by omega) (by omega))
    have hrl : 0 ≤ lo ∧ lo ≤ 1000 := ⟨m1.r0, by have := m1.r1; omega⟩
    have hrh : 0 ≤ hi ∧ hi ≤ 1000 := ⟨m2.r0, by have := m2.r1; omega⟩
    have hl3 : ns2.length ≤ 1000 := by omega
    have hv1 : (v : Int) ≤ 6 := by omega
    have hvw : IntKind.i64.wrap ((v : Int) + 1) = ((v + 1 : Nat) : Int) := by rw [IntWalk.i64_in _ (by omega)]; omega
    have hcast : ((b + 2 ^ (v - 1) : Nat) : Int) = (b : Int) + 2 ^ (v - 1) := by rw [Int.natCast_add, Int.natCast_pow]; rfl
    rw [hcast] at hrec2 hor
    obtain ⟨B0, c0, rfl, -⟩ := nd_own (HS.own (i := 0) rfl) (nd_small hok (by omega) (by omega))
    clear m1 m2 hok hl hpk hp hb hl1 hl2 HS hx
    generalize 2 ^ vars = VN at *
    go_enter Try.func171, Try.ntmps171
    go_wp2_with fail
    refine hrec1.out.mono ?_
    rintro e w1 ⟨B1, c1, rfl, HS1⟩
    have hrec3 := Lib.hid (hrec2.out _ w1 HS1)
    clear HS1 hrec1 hrec2
    go_wp2_with fail
    refine hrec3.out.mono ?_
    rintro e w2 ⟨B2, c2, rfl, HS2⟩
    obtain ⟨B, c', e', hN⟩ := nd_own (HS2.own (i := 0) rfl) hok2.out
    cases e'
    replace HS2 := Lib.hid HS2
    replace hN := Lib.hid hN
    clear hrec3
    by_cases heq : lo = hi
    · have hP2 : Hid (planF f (k + 1) v b ns = (ns2, lo)) := by unfold Hid; exact hP.out.trans (if_pos heq)
      subst heq
      clear hP hN hor
      go_wp2_with fail
      go_ret2
      exact ⟨B2, c2, by rw [hP2.out]; rfl, by rw [hP2.out]; exact HS2.out⟩
    have hP2 : Hid (planF f (k + 1) v b ns = addN ns2 ⟨v, lo, hi⟩) := by unfold Hid; exact hP.out.trans (if_neg heq)
    clear hP hor
    have HS3 := Lib.hid (HS2.out.alloc_box #[.int .i64 v, .int .i64 lo, .int .i64 hi] 84)
    replace hN := Lib.hid (hN.out.grow (bal (bb _) (.cells #[.int .i64 v, .int .i64 lo, .int .i64 hi] 84)))
    clear HS2
    go_wp2_with fail
    go_loopw [15] (fun i wr => ∃ q : Nat, q ≤ ns2.length ∧ i = .int .i64 q ∧ Hid ((⟨v, lo, hi⟩ : Nd) ∉ ns2.take q) ∧ Hid (Sp w0 wr [Box w2.heap.size 84 #[.int .i64 v, .int .i64 lo, .int .i64 hi], Own 84 3 (.slice B2 ns2.length c2) ns2.length (ns2.flatMap ndEnc)])) (fun i _ => ns2.length - (intOf i).toNat)
    case atStart => exact ⟨0, Nat.zero_le _, rfl, by unfold Hid; simp, HS3⟩
    case round =>
      obtain ⟨q, hq, rfl, HD, HS⟩ := hrel
      clear HS3 hN
      by_cases hlt : q < ns2.length
      · obtain ⟨B', c'', e', hN⟩ := nd_own (HS.out.own (i := 1) rfl) hok2.out
        cases e'
        obtain ⟨bl, off, rfl, m0, m1, m2⟩ := hN.at_ q hlt
        have k0 := cell_regrown m0
        have k1 := cell_regrown m1
        have k2 := cell_regrown m2
        have d0 := cell_regrown (HS.out.cell (i := 0) rfl (o := 0) rfl)
        have d1 := cell_regrown (HS.out.cell (i := 0) rfl (o := 1) rfl)
        have d2 := cell_regrown (HS.out.cell (i := 0) rfl (o := 2) rfl)
        have hyes := Lib.hid (idx_here hlt HD.out)
        have hno := Lib.hid (idx_next hlt HD.out)
        generalize hm : ns2[q] = m at *
        have hmem : Hid (m ∈ ns2) := by unfold Hid; rw [← hm]; exact List.getElem_mem hlt
        clear hm
        obtain ⟨v', lo', hi'⟩ := m
        dsimp only at *
        clear m0 m1 m2 hN
        have hst := nd_held
        have hgu := nd_guard
        by_cases e : (⟨v', lo', hi'⟩ : Nd) = ⟨v, lo, hi⟩
        · have hR := Lib.hid (hyes.out e)
          rw [e] at hmem
          have hid : Hid (addN ns2 ⟨v, lo, hi⟩ = (ns2, (q : Int) + 2)) := by
            unfold Hid addN
            rw [if_pos hmem.out]
            have := hR.out
            unfold idxN at this
            rw [if_pos hmem.out] at this
            rw [this]
          cases e
          have hq2 : IntKind.i64.wrap ((q : Int) + 2) = (q : Int) + 2 := IntWalk.i64_in _ (by omega)
          clear hyes hno HD hmem hR
          go_wp2_with fail
          refine wp_region_quiet_below (by kernel_rfl) (by kernel_rfl) ?_
          repeat (any_goals (go_big_quiet_step (fail)))
          refine wpQuiet_nil ?_
          rintro w3 ⟨p, rfl⟩
          have HS4 := Lib.hid (HS.out.grow (below_regrown _ p.d p.os)).tail
          clear HS k0 k1 k2 d0 d1 d2
          go_wp2_with fail
          go_ret2
          exact ⟨_, _, by rw [hP2.out, hid.out]; rfl, by rw [hP2.out, hid.out]; exact HS4.out⟩
        · have hD := Lib.hid (hno.out e)
          have hcase : (¬ (v : Int) = v') ∨ ((v : Int) = v' ∧ ¬ lo = lo') ∨ ((v : Int) = v' ∧ lo = lo' ∧ ¬ hi = hi') := by
            by_cases h1 : (v : Int) = v'
            · by_cases h2 : lo = lo'
              · exact .inr (.inr ⟨h1, h2, fun h3 => e (by rw [h1, h2, h3])⟩)
              · exact .inr (.inl ⟨h1, h2⟩)
            · exact .inl h1
          clear hyes hno HD e hmem
          rcases hcase with hne | ⟨rfl, hne⟩ | ⟨rfl, rfl, hne⟩
          all_goals
            have hne2 : ¬ (_ : Int) = _ := fun h => hne (Eq.symm h)
            go_wp2_with fail
            refine wp_region_quiet_below (by kernel_rfl) (by kernel_rfl) ?_
            repeat (any_goals (go_big_quiet_step (fail)))
            refine wpQuiet_nil ?_
            rintro w3 ⟨p, rfl⟩
            have HS4 := Lib.hid (HS.out.grow (below_regrown _ p.d p.os))
            clear HS k0 k1 k2 d0 d1 d2
            go_wp2_with fail
            go_roundw
            case rel => exact ⟨q + 1, by omega, by go_num, hD, HS4⟩
            case measure => simp [intOf]; omega
      · obtain rfl : q = ns2.length := by omega
        have hnin : (⟨v, lo, hi⟩ : Nd) ∉ ns2 := by have := HD.out; rwa [List.take_length] at this
        have hid : Hid (addN ns2 ⟨v, lo, hi⟩ = (ns2 ++ [⟨v, lo, hi⟩], ((ns2.length : Nat) : Int) + 2)) := by unfold Hid addN; rw [if_neg hnin]
        clear HD hnin
        obtain ⟨i0, hi0, hz0, hz1, hz2⟩ := info_parts infoNd
        have d0 := HS.out.cell (i := 0) rfl (o := 0) rfl
        have d1 := HS.out.cell (i := 0) rfl (o := 1) rfl
        have d2 := HS.out.cell (i := 0) rfl (o := 2) rfl
        have hlw : IntKind.i64.wrap ((ns2.length : Int) + 2) = (ns2.length : Int) + 2 := IntWalk.i64_in _ (by omega)
        have S5 := HS.out.alloc_box #[.int .i64 v, .int .i64 lo, .int .i64 hi] 84
        have hsrc := Src.three (S5.cell (i := 0) rfl (o := 0) rfl) (S5.cell (i := 0) rfl (o := 1) rfl) (S5.cell (i := 0) rfl (o := 2) rfl)
        replace S5 := Lib.hid S5
        clear HS
        go_wp2_with (at_builtin; refine wpList_append_src rfl _ _ rfl Try.underlying32 hi0 hz0 hz1 hz2 rfl (by decide) _ ns2.length _ rfl (S5.out.own (i := 2) rfl) _ 1 1 [.int .i64 v, .int .i64 lo, .int .i64 hi] rfl hsrc (by simp [Value.oneCell']) ?c3 ?c4 ?_)
        case c3 => unfold maxLen; omega
        case c4 => omega
        intro vY wY hownY hgY hatY
        have S6 := (S5.out.own_push (i := 2) rfl (bb _) hownY hgY (by simpa using hatY)).tail.tail
        obtain ⟨aY, cY, rfl⟩ := own_slice hownY
        replace S6 := Lib.hid S6
        clear S5 hsrc hownY hgY hatY d0 d1 d2
        go_wp2_with fail
        go_ret2
        refine ⟨aY, cY, by rw [hP2.out, hid.out, List.length_append]; rfl, ?_⟩
        rw [hP2.out, hid.out]
        unfold PlanS
        rw [List.length_append, List.flatMap_append]
        exact S6.out
end Go.Proofs.Ytbemodacpimiiaa

/- Contracts: the reduced diagram of values, a literal that is set, in the reference. -/
namespace Go.Proofs.Ytbemodacpimiiaa
open Go.RowKit

set_option maxRecDepth 100000 in
set_option maxHeartbeats 4000000 in
theorem l26OfS_any (n : Nat) (hn : n ≤ 6) (f : Nat → Bool) (A : Option Addr) (c : Nat) (w : World) (hx : BlAt w A (2 ^ n) f) :
    Calls Try.prog 128 #[.int .i64 n, .slice A (2 ^ n) c] w fun e w' => ∃ B k, e = .returned (dgV (dgR n f) (.slice B (dgN n f).length k)) ∧ Sp w w' [Own 84 3 (.slice B (dgN n f).length k) (dgN n f).length ((dgN n f).flatMap ndEnc)] := by
  have HS0 := Lib.hid ((Sp.start w).alloc_box #[.int .i64 0, .slice none 0 0] 34)
  have hx0 := hx.grow (bal (bb w) (.cells #[.int .i64 0, .slice none 0 0] 34))
  have S0 := (Sp.start (w.alloc (.cells #[.int .i64 0, .slice none 0 0] 34))).own_made 84 3
  simp only [World.size_alloc] at S0
  have hm := dg_made n f
  have hok := Lib.hid (nd_small hm.ok (by omega) (by have := dg_len f hn; omega))
  have hcall := Lib.hid (plan_any (c := c) hn hx0 n 1 0 [] _ _ (by omega) (by omega) (by decide) (fun i hi => by simp at hi) (by have : 2 ^ n ≤ 2 ^ 6 := Nat.pow_le_pow_right (by decide) hn; simp; omega) S0)
  have e1 : (planF f n 1 0 []).2 = dgR n f := rfl
  have e2 : (planF f n 1 0 []).1 = dgN n f := rfl
  rw [e1, e2] at hcall
  clear e1 e2 hm S0 hx hx0
  generalize dgR n f = r at *
  generalize dgN n f = ns at *
  generalize 2 ^ n = N at *
  go_enter Try.func128, Try.ntmps128
  go_wp2_with fail
  refine hcall.out.mono ?_
  rintro e w1 ⟨B, k, rfl, HS⟩
  have HS1 : Sp w w1 [Own 84 3 (.slice B ns.length k) ns.length (ns.flatMap ndEnc), Box w.heap.size 34 #[.int .i64 0, .slice none 0 0]] := HS0.out.seq HS
  have r0 := HS1.cell (i := 1) rfl (o := 0) rfl
  have r1 := HS1.cell (i := 1) rfl (o := 1) rfl
  have f0 := HS1.frozen (i := 1) rfl 0
  have f1 := HS1.frozen (i := 1) rfl 1
  have S2 := (HS1.store (i := 1) rfl 0 (.int .i64 r)).store (i := 1) rfl 1 (.slice B ns.length k)
  have j0 := S2.cell (i := 1) rfl (o := 0) rfl
  have j1 := S2.cell (i := 1) rfl (o := 1) rfl
  have S3 := Lib.hid S2.swap.tail
  clear S2 hok hcall HS HS0 HS1
  go_wp2_with fail
  exact bodyPost_ret (v := .agg #[.int .i64 r, .slice B ns.length k]) (by simp [results, Try.results128, go_sem, j0, j1]) rfl ⟨B, k, rfl, S3.out⟩
theorem l26Of_any (n : Nat) (hn : n ≤ 6) (f : Nat → Bool) (A : Option Addr) (c : Nat) (w : World) (hx : BlAt w A (2 ^ n) f) :
    Calls Try.prog 128 #[.int .i64 n, .slice A (2 ^ n) c] w fun e w' => ∃ v, e = .returned (dgV (dgR n f) v) ∧ DgPost w (dgN n f) v w' := by
  have hm := dg_made n f
  have hok := nd_small hm.ok (by omega) (by have := dg_len f hn; omega)
  refine (l26OfS_any n hn f A c w hx).mono ?_
  rintro e w' ⟨B, k, rfl, S⟩
  obtain ⟨A', c', e1, hN⟩ := nd_own (S.own (i := 0) rfl) hok
  cases e1
  exact ⟨_, rfl, _, _, rfl, hN, own_from (S.owns_end (i := 0) rfl), S.below⟩

/- left out: the seat has no spec.SetInDiagram -/
end Go.Proofs.Ytbemodacpimiiaa

/- Contracts: and, or, forget of diagrams, in the reference. -/
namespace Go.Proofs.Ytbemodacpimiiaa
open Go.RowKit

def opB (q x y : Bool) : Bool := if q then x && y else x || y
def upto (k : Nat) (g f : Nat → Bool) (j : Nat) : Bool := if j < k then g j else f j
theorem upto_zero (N : Nat) (g f : Nat → Bool) : blV N (upto 0 g f) = blV N f := blV_congr fun j _ => by simp [upto]
theorem upto_all (N : Nat) (g f : Nat → Bool) : blV N (upto N g f) = blV N g := blV_congr fun j hj => by simp [upto, hj]
theorem upto_set (N k : Nat) (g f : Nat → Bool) : (blV N (upto k g f)).set k (.bool (g k)) = blV N (upto (k + 1) g f) := by
  rw [blV_set]
  refine blV_congr fun j _ => ?_
  unfold upto
  by_cases h : j = k
  · subst h; simp
  · rw [if_neg h]
    by_cases h2 : j < k
    · rw [if_pos h2, if_pos (by omega)]
    · rw [if_neg h2, if_neg (by omega)]
theorem upto_at (k : Nat) (g f : Nat → Bool) : upto k g f k = f k := by simp [upto]

/- left out: the seat has no spec.l26Two -/
end Go.Proofs.Ytbemodacpimiiaa

/- Contracts: and, or, forget of diagrams, in the reference; the comparison. -/
namespace Go.Proofs.Ytbemodacpimiiaa
open Go.RowKit

/- left out: the seat has no spec.AndDiagrams -/

/- left out: the seat has no spec.OrDiagrams -/

/- left out: the seat has no spec.ForgetInDiagram -/

set_option maxRecDepth 100000 in
set_option maxHeartbeats 4000000 in
/-- The same diagram twice is the same. -/
theorem vDiagram_same (r : Int) (A A' : Option Addr) (c c' : Nat) (ns : List Nd) (w : World) (hx : NdAt w A ns) (hy : NdAt w A' ns) (hl : ns.length ≤ 1000000) :
    Calls Try.prog 11 #[dgV r (.slice A ns.length c), dgV r (.slice A' ns.length c')] w fun e w' => e = .returned (.bool true) ∧ Below w.heap.size w w' := by
  have S0 := ((Sp.start w).alloc_box #[.int .i64 r, .slice A ns.length c] 34).alloc_box #[.int .i64 r, .slice A' ns.length c'] 34
  simp only [World.size_alloc] at S0
  replace S0 := Lib.hid S0
  have hN := Lib.hid hx
  have hM := Lib.hid hy
  clear hx hy
  go_enter Try.func11, Try.ntmps11
  go_wp2_with fail
  go_loopw [5] (fun i wr => ∃ k : Nat, k ≤ ns.length ∧ i = .int .i64 k ∧ Hid (Sp w wr [Box (w.heap.size + 1) 34 #[.int .i64 r, .slice A' ns.length c'], Box w.heap.size 34 #[.int .i64 r, .slice A ns.length c]])) (fun i _ => ns.length - (intOf i).toNat)
  case atStart => exact ⟨0, Nat.zero_le _, rfl, S0⟩
  case round =>
    obtain ⟨k, hk, rfl, HS⟩ := hrel
    clear S0
    by_cases hlt : k < ns.length
    · obtain ⟨b, off, rfl, m0, m1, m2⟩ := (hN.out.grow HS.out.below).at_ k hlt
      obtain ⟨b', off', rfl, p0, p1, p2⟩ := (hM.out.grow HS.out.below).at_ k hlt
      have c0 := HS.out.cell (i := 1) rfl (o := 1) rfl
      have d0 := HS.out.cell (i := 0) rfl (o := 1) rfl
      have k0 := cell_regrown m0
      have k1 := cell_regrown m1
      have k2 := cell_regrown m2
      have q0 := cell_regrown p0
      have q1 := cell_regrown p1
      have q2 := cell_regrown p2
      have a0 := cell_regrown c0
      have a1 := cell_regrown d0
      generalize ns[k].v = v at *
      generalize ns[k].lo = lo at *
      generalize ns[k].hi = hi at *
      have hst := nd_held
      have hgu := nd_guard
      clear m0 m1 m2 p0 p1 p2
      go_wp2_with fail
      refine wp_region_quiet_below (by kernel_rfl) (by kernel_rfl) ?_
      repeat (any_goals (go_big_quiet_step (fail)))
      refine wpQuiet_nil ?_
      rintro w3 ⟨p, rfl⟩
      have HS4 := Lib.hid (HS.out.grow (below_regrown _ p.d p.os))
      clear HS k0 k1 k2 q0 q1 q2 a0 a1 c0 d0
      go_wp2_with fail
      go_roundw
      case rel => exact ⟨k + 1, by omega, by go_num, HS4⟩
      case measure => simp [intOf]; omega
    · obtain rfl : k = ns.length := by omega
      have c0 := HS.out.cell (i := 1) rfl (o := 1) rfl
      have hB := HS.out.below
      go_wp2_with fail
      go_ret
      exact ⟨rfl, hB⟩
end Go.Proofs.Ytbemodacpimiiaa

/- Plain facts: inequalities over bits. No program in sight. -/
namespace Go.Proofs.Ytbemodacpimiiaa

/-- The left side of an inequality up to a place, at bits. -/
def sumK (cs : List Int) (bits : Nat) : Nat → Int
  | 0 => 0
  | k + 1 => sumK cs bits k + (if bits.testBit k then cs.getD k 0 else 0)
def holdsQ (cs : List Int) (b : Int) (bits : Nat) : Bool := decide (b ≤ sumK cs bits cs.length)
def coefB (c : Int) : Bool := inB c (-1000) 1000
def goodQ (vars b : Int) (cs : List Int) : Bool := inB vars 0 12 && decide ((cs.length : Int) = vars) && inB b (-10000) 10000 && cs.all coefB
theorem good_q {vars b : Int} {cs : List Int} (h : goodQ vars b cs = true) : (0 ≤ vars ∧ vars ≤ 12) ∧ (cs.length : Int) = vars ∧ (-10000 ≤ b ∧ b ≤ 10000) ∧ ∀ c ∈ cs, -1000 ≤ c ∧ c ≤ 1000 := by
  unfold goodQ at h
  simp only [Bool.and_eq_true, inB, decide_eq_true_eq, List.all_eq_true, coefB] at h
  obtain ⟨⟨⟨h1, h2⟩, h3⟩, h4⟩ := h
  exact ⟨by simpa using h1, h2, by simpa using h3, fun c hc => by simpa using h4 c hc⟩
theorem getD_bound {cs : List Int} {m : Int} (hm : 0 ≤ m) (h : ∀ c ∈ cs, -m ≤ c ∧ c ≤ m) (k : Nat) : -m ≤ cs.getD k 0 ∧ cs.getD k 0 ≤ m := by
  rw [List.getD_eq_getElem?_getD]
  rcases Nat.lt_or_ge k cs.length with hk | hk
  · rw [List.getElem?_eq_getElem hk]; exact h _ (List.getElem_mem hk)
  · rw [List.getElem?_eq_none hk]; simp; omega
theorem sumK_bound {cs : List Int} {m : Int} (hm : 0 ≤ m) (h : ∀ c ∈ cs, -m ≤ c ∧ c ≤ m) (bits : Nat) : ∀ k : Nat, -(m * k) ≤ sumK cs bits k ∧ sumK cs bits k ≤ m * k
  | 0 => by simp [sumK]
  | k + 1 => by
    have h1 := sumK_bound hm h bits k
    have h2 := getD_bound hm h k
    have e : m * ((k + 1 : Nat) : Int) = m * k + m := by rw [Int.natCast_add, Int.mul_add]; simp
    rw [e]
    simp only [sumK]
    split <;> omega
theorem sumK_add {cs ds es : List Int} (bits : Nat) : ∀ k : Nat, (∀ i, i < k → es.getD i 0 = cs.getD i 0 + ds.getD i 0) → sumK es bits k = sumK cs bits k + sumK ds bits k
  | 0, _ => by simp [sumK]
  | k + 1, h => by
    have h1 := sumK_add bits k (fun i hi => h i (by omega))
    have h2 := h k (by omega)
    simp only [sumK]
    rw [h1]
    split
    · rw [h2]; omega
    · omega
theorem sumK_mul {cs ds : List Int} (m : Int) (bits : Nat) : ∀ k : Nat, (∀ i, i < k → cs.getD i 0 = m * ds.getD i 0) → sumK cs bits k = m * sumK ds bits k
  | 0, _ => by simp [sumK]
  | k + 1, h => by
    have h1 := sumK_mul m bits k (fun i hi => h i (by omega))
    have h2 := h k (by omega)
    simp only [sumK]
    rw [h1, Int.mul_add]
    split
    · rw [h2]
    · simp
theorem sumK_congr {cs ds : List Int} (bits : Nat) (k : Nat) (h : ∀ i, i < k → cs.getD i 0 = ds.getD i 0) : sumK cs bits k = sumK ds bits k := by
  have := sumK_mul (cs := cs) (ds := ds) 1 bits k (fun i hi => by rw [Int.one_mul]; exact h i hi)
  rwa [Int.one_mul] at this

/-- The sum of two. -/
def addQ (cs ds : List Int) : List Int := (List.range cs.length).map fun i => cs.getD i 0 + ds.getD i 0
/-- Some times an inequality. -/
def mulQ (m : Int) (cs : List Int) : List Int := cs.map fun c => m * c
def divQ (m : Int) (cs : List Int) : List Int := cs.map fun c => c.tdiv m
theorem getD_map0 (cs : List Int) (f : Int → Int) (hf : f 0 = 0) (i : Nat) : (cs.map f).getD i 0 = f (cs.getD i 0) := by
  rw [List.getD_eq_getElem?_getD, List.getD_eq_getElem?_getD, List.getElem?_map]
  cases cs[i]? <;> simp [hf]
theorem addQ_holds {cs ds : List Int} {b e : Int} {bits : Nat} (hl : ds.length = cs.length) (h1 : holdsQ cs b bits = true) (h2 : holdsQ ds e bits = true) : holdsQ (addQ cs ds) (b + e) bits = true := by
  unfold holdsQ at *
  rw [decide_eq_true_eq] at *
  have hl2 : (addQ cs ds).length = cs.length := by simp [addQ]
  rw [hl2, sumK_add (cs := cs) (ds := ds) bits cs.length (fun i hi => by simp [addQ, List.getD_eq_getElem?_getD, hi])]
  rw [hl] at h2
  omega
theorem negQ_holds {cs : List Int} {b : Int} {bits : Nat} : holdsQ (mulQ (-1) cs) (1 - b) bits = !(holdsQ cs b bits) := by
  unfold holdsQ
  have hl : (mulQ (-1) cs).length = cs.length := by simp [mulQ]
  have hs : sumK (mulQ (-1) cs) bits cs.length = -1 * sumK cs bits cs.length := sumK_mul (-1) bits cs.length fun i _ => getD_map0 cs _ (by simp) i
  rw [hl, hs]
  by_cases h : b ≤ sumK cs bits cs.length
  · rw [decide_eq_true h, decide_eq_false (by omega)]; rfl
  · rw [decide_eq_false h, decide_eq_true (by omega)]; rfl
/-- A quotient, rounded up. -/
def upQ (b k : Int) : Int := -((-b) / k)
theorem divQ_holds {cs : List Int} {b k : Int} {bits : Nat} (hk : 0 < k) (hd : ∀ c ∈ cs, c.tmod k = 0) : holdsQ (divQ k cs) (upQ b k) bits = holdsQ cs b bits := by
  unfold holdsQ
  have hl : (divQ k cs).length = cs.length := by simp [divQ]
  have hs : sumK cs bits cs.length = k * sumK (divQ k cs) bits cs.length := by
    refine sumK_mul k bits cs.length fun i hi => ?_
    rw [show (divQ k cs).getD i 0 = (cs.getD i 0).tdiv k from getD_map0 cs _ (by simp) i]
    have hm := hd (cs.getD i 0) (by rw [List.getD_eq_getElem?_getD, List.getElem?_eq_getElem hi]; exact List.getElem_mem hi)
    have := Int.mul_tdiv_add_tmod (cs.getD i 0) k
    omega
  rw [hl, hs]
  generalize sumK (divQ k cs) bits cs.length = s
  have key : (upQ b k ≤ s) ↔ b ≤ k * s := by
    unfold upQ
    constructor
    · intro h
      have h1 : -s ≤ (-b) / k := by omega
      have h2 := (Int.le_ediv_iff_mul_le hk).1 h1
      have e : -s * k = -(k * s) := by rw [Int.neg_mul, Int.mul_comm]
      omega
    · intro h
      have e : -s * k = -(k * s) := by rw [Int.neg_mul, Int.mul_comm]
      have h1 : -s ≤ (-b) / k := (Int.le_ediv_iff_mul_le hk).2 (by omega)
      omega
  by_cases h : upQ b k ≤ s
  · rw [decide_eq_true h, decide_eq_true (key.1 h)]
  · rw [decide_eq_false h, decide_eq_false (fun hh => h (key.2 hh))]

/-- The least and the greatest left side. -/
def lowK (cs : List Int) : Nat → Int
  | 0 => 0
  | k + 1 => lowK cs k + (if cs.getD k 0 < 0 then cs.getD k 0 else 0)
def highK (cs : List Int) : Nat → Int
  | 0 => 0
  | k + 1 => highK cs k + (if 0 < cs.getD k 0 then cs.getD k 0 else 0)
theorem sum_range (cs : List Int) (bits : Nat) : ∀ k, lowK cs k ≤ sumK cs bits k ∧ sumK cs bits k ≤ highK cs k
  | 0 => by simp [sumK, lowK, highK]
  | k + 1 => by
    have h := sum_range cs bits k
    simp only [sumK, lowK, highK]
    split <;> split <;> split <;> omega

/-- Whether a clause is true at bits. -/
def litT (bits : Nat) (l : Int) : Bool := bits.testBit (l.natAbs - 1) == decide (0 < l)
def clT (c : List Int) (bits : Nat) : Bool := c.any (litT bits)
/-- The coefficients and the bound of a clause. -/
def clQ (vars : Nat) (c : List Int) : List Int × Int := c.foldl (fun q l => if 0 < l then (q.1.set (l.natAbs - 1) 1, q.2) else (q.1.set (l.natAbs - 1) (-1), q.2 - 1)) (List.replicate vars 0, 1)
theorem sumK_set {cs : List Int} {j : Nat} (x : Int) (bits : Nat) (hj : j < cs.length) : ∀ k : Nat, sumK (cs.set j x) bits k = sumK cs bits k + (if j < k ∧ bits.testBit j = true then x - cs.getD j 0 else 0)
  | 0 => by simp [sumK]
  | k + 1 => by
    have ih := sumK_set x bits hj k
    simp only [sumK]
    rw [ih]
    have hg : (cs.set j x).getD k 0 = if j = k then x else cs.getD k 0 := by
      rw [List.getD_eq_getElem?_getD, List.getD_eq_getElem?_getD, List.getElem?_set]
      by_cases e : j = k
      · subst e; simp [hj]
      · simp [e]
    rw [hg]
    by_cases ht : bits.testBit j = true
    · simp only [ht, and_true]
      by_cases e : j = k
      · subst e
        simp only [ht, if_true, Nat.lt_irrefl, if_false, Nat.lt_add_one]
        omega
      · simp only [e, if_false]
        by_cases hlt : j < k
        · simp only [hlt, if_true, (by omega : j < k + 1)]
          omega
        · rw [if_neg hlt, if_neg (show ¬ j < k + 1 by omega)]; omega
    · simp only [ht, and_false, if_false, Int.add_zero, Bool.false_eq_true]
      by_cases e : j = k
      · subst e; simp [ht]
      · simp [e]
/-- The literals of a clause lie in range and have different variables. -/
def Apart (vars : Nat) (c : List Int) : Prop := (∀ l ∈ c, l ≠ 0 ∧ l.natAbs ≤ vars) ∧ c.Pairwise (fun a b => a.natAbs ≠ b.natAbs)
/-- How many literals are true. -/
def trueN (c : List Int) (bits : Nat) : Nat := c.countP (litT bits)
theorem clQ_gen (vars bits : Nat) : ∀ (c : List Int) (q : List Int × Int), q.1.length = vars → Apart vars c → (∀ l ∈ c, q.1.getD (l.natAbs - 1) 0 = 0) →
    (c.foldl (fun q l => if 0 < l then (q.1.set (l.natAbs - 1) 1, q.2) else (q.1.set (l.natAbs - 1) (-1), q.2 - 1)) q).1.length = vars ∧
    sumK (c.foldl (fun q l => if 0 < l then (q.1.set (l.natAbs - 1) 1, q.2) else (q.1.set (l.natAbs - 1) (-1), q.2 - 1)) q).1 bits vars - (c.foldl (fun q l => if 0 < l then (q.1.set (l.natAbs - 1) 1, q.2) else (q.1.set (l.natAbs - 1) (-1), q.2 - 1)) q).2 = sumK q.1 bits vars - q.2 + trueN c bits
  | [], q, hl, _, _ => by simp [trueN, hl]
  | l :: c, q, hl, hA, hz => by
    obtain ⟨h1, h2⟩ := hA
    rw [List.pairwise_cons] at h2
    obtain ⟨hl0, hlv⟩ := h1 l (by simp)
    have hj : l.natAbs - 1 < q.1.length := by omega
    have hA' : Apart vars c := ⟨fun a ha => h1 a (by simp [ha]), h2.2⟩
    have hzl := hz l (by simp)
    have hget : ∀ x a, a ∈ c → (q.1.set (l.natAbs - 1) x).getD (a.natAbs - 1) 0 = 0 := fun x a ha => by
      have hne := h2.1 a ha
      have ha1 := h1 a (by simp [ha])
      rw [List.getD_eq_getElem?_getD, List.getElem?_set, if_neg (by omega), ← List.getD_eq_getElem?_getD]
      exact hz a (by simp [ha])
    have ht : trueN (l :: c) bits = trueN c bits + (if litT bits l then 1 else 0) := by simp [trueN, List.countP_cons]
    rw [List.foldl_cons, ht]
    by_cases hp : 0 < l
    · rw [if_pos hp]
      have ih := clQ_gen vars bits c (q.1.set (l.natAbs - 1) 1, q.2) (by simp [hl]) hA' (hget 1)
      refine ⟨ih.1, ?_⟩
      rw [ih.2, sumK_set 1 bits hj vars, hzl]
      have hlit : litT bits l = bits.testBit (l.natAbs - 1) := by simp [litT, hp]
      rw [hlit]
      by_cases hb : bits.testBit (l.natAbs - 1) = true
      · simp only [hb, and_true, if_true, (by omega : l.natAbs - 1 < vars)]; omega
      · simp only [hb, and_false, if_false, Bool.false_eq_true]; omega
    · rw [if_neg hp]
      have ih := clQ_gen vars bits c (q.1.set (l.natAbs - 1) (-1), q.2 - 1) (by simp [hl]) hA' (hget (-1))
      refine ⟨ih.1, ?_⟩
      rw [ih.2, sumK_set (-1) bits hj vars, hzl]
      have hlit : litT bits l = !(bits.testBit (l.natAbs - 1)) := by simp [litT, hp]
      rw [hlit]
      by_cases hb : bits.testBit (l.natAbs - 1) = true
      · simp only [hb, and_true, if_true, (by omega : l.natAbs - 1 < vars), Bool.not_true, Bool.false_eq_true, if_false]; omega
      · simp only [hb, and_false, if_false, Bool.false_eq_true, Bool.not_false, if_true]; omega
theorem clQ_holds {vars : Nat} {c : List Int} (h : Apart vars c) (bits : Nat) : (clQ vars c).1.length = vars ∧ holdsQ (clQ vars c).1 (clQ vars c).2 bits = clT c bits := by
  have hg := clQ_gen vars bits c (List.replicate vars 0, 1) (by simp) h (fun l hl => by
    rw [List.getD_eq_getElem?_getD, List.getElem?_replicate]
    split <;> rfl)
  have hz : ∀ k, sumK (List.replicate vars 0) bits k = 0 := fun k => by
    induction k with
    | zero => rfl
    | succ k ih =>
      simp only [sumK, ih]
      rw [List.getD_eq_getElem?_getD, List.getElem?_replicate]
      split <;> (try split) <;> rfl
  refine ⟨hg.1, ?_⟩
  have h2 := hg.2
  rw [hz] at h2
  unfold holdsQ
  have h1 : (clQ vars c).1.length = vars := hg.1
  rw [h1]
  have h3 : sumK (clQ vars c).1 bits vars - (clQ vars c).2 = 0 - 1 + (trueN c bits : Int) := h2
  have h4 : clT c bits = decide (0 < trueN c bits) := by
    unfold clT trueN
    rw [Bool.eq_iff_iff, List.any_eq_true, decide_eq_true_eq, List.countP_pos_iff]
  rw [h4]
  by_cases hp : 0 < trueN c bits
  · rw [decide_eq_true hp, decide_eq_true (by omega)]
  · rw [decide_eq_false hp, decide_eq_false (by omega)]
end Go.Proofs.Ytbemodacpimiiaa

/- Memory: rows of numbers that can be read. -/
namespace Go.Proofs.Ytbemodacpimiiaa
open Go.RowKit

/-- A row of numbers that can be read. -/
structure IntsAt (w : World) (A : Option Addr) (cs : List Int) : Prop where
  at_ : ∀ j (hj : j < cs.length), ∃ b off, A = some ⟨b, off, none⟩ ∧ w.cell? ⟨b, off + j, none⟩ = some (.int .i64 cs[j])
  ok : ∀ c ∈ cs, I64 c
theorem IntsAt.grow {w w' : World} {A : Option Addr} {cs : List Int} (h : IntsAt w A cs) (hb : Below w.heap.size w w') : IntsAt w' A cs := by
  refine ⟨fun j hj => ?_, h.ok⟩
  obtain ⟨b, off, e, h1⟩ := h.at_ j hj
  exact ⟨b, off, e, (hb.cell (World.block_lt_of_cell? _ _ h1)).trans h1⟩
theorem IntsAt.keep {w w' : World} {A : Option Addr} {cs : List Int} (h : IntsAt w A cs) (hk : ∀ a, A = some a → w'.heap[a.block]? = w.heap[a.block]?) : IntsAt w' A cs := by
  refine ⟨fun j hj => ?_, h.ok⟩
  obtain ⟨b, off, e, h1⟩ := h.at_ j hj
  exact ⟨b, off, e, (World.cell?_of_block (a := ⟨b, off + j, none⟩) (hk ⟨b, off, none⟩ e)).trans h1⟩
theorem IntsAt.set {w : World} {A : Option Addr} {cs : List Int} (h : IntsAt w A cs) {g : Nat} (hg : ∀ a, A = some a → a.block ≠ g) (o : Nat) (u : Value) : IntsAt (w.setCell ⟨g, o, none⟩ u) A cs :=
  h.keep fun a ha => Below.heap_setCell _ _ _ _ (hg a ha)
theorem IntsAt.chg {F : List Nat} {w w' : World} {A : Option Addr} {cs : List Int} (h : IntsAt w A cs) (hc : Chg F w w') (hF : ∀ a, A = some a → a.block ∉ F) : IntsAt w' A cs := by
  refine ⟨fun j hj => ?_, h.ok⟩
  obtain ⟨b, off, e, h1⟩ := h.at_ j hj
  exact ⟨b, off, e, (World.cell?_of_block (a := ⟨b, off + j, none⟩) (hc.block b (World.block_lt_of_cell? _ _ h1) (hF _ e))).trans h1⟩
theorem IntsAt.nil (w : World) (A : Option Addr) : IntsAt w A [] := ⟨fun j hj => absurd hj (by simp), by simp⟩
theorem ints_own {w : World} {B : Nat} {e : TypeId} {v : Value} {cs : List Int} (h : w.ownsRow B e 1 v cs.length (cs.map (.int .i64))) (hok : ∀ c ∈ cs, I64 c) : ∃ A c, v = .slice A cs.length c ∧ IntsAt w A cs := by
  obtain ⟨_, ⟨rfl, h0⟩ | ⟨g, cap, cur, rfl, _, hh, _, _, hs, ht⟩⟩ := h
  · exact ⟨none, 0, by rw [h0], fun j hj => absurd hj (by omega), hok⟩
  · refine ⟨_, cap, rfl, fun j hj => ⟨g, 0, rfl, ?_⟩, hok⟩
    rw [Nat.mul_one] at ht
    rw [Nat.zero_add, hown_cell hh ht hj]
    simp [hj]
theorem ints_row {wr : Bool} {w : World} {v : Value} {cs : List Int} {F : List Nat} (h : Ty.int.row wr w v cs F) : ∃ A c, v = .slice A cs.length c ∧ IntsAt w A cs := by
  obtain ⟨a, c, rfl, h1, h2, h64, h3⟩ := row_int h
  refine ⟨a, c, rfl, ⟨fun j hj => ?_, h64⟩⟩
  rcases h3 with ⟨rfl, _⟩ | ⟨_, b, off, rfl, _, hc⟩
  · exact absurd hj (by simp)
  · exact ⟨b, off, rfl, (hc j hj).1⟩
theorem IntsAt.get {w : World} {b off : Nat} {cs : List Int} (h : IntsAt w (some ⟨b, off, none⟩) cs) {j : Nat} (hj : j < cs.length) : w.cell? ⟨b, off + j, none⟩ = some (.int .i64 cs[j]) := by
  obtain ⟨b', off', e, h1⟩ := h.at_ j hj
  cases e
  exact h1
/-- A function of a number, told by what it answers. -/
def FnI (R : Int → Prop) (w0 : World) (g : FuncId) (cb : Array Value) (p : Int → Bool) : Prop :=
  ∀ (x : Int) w, R x → Below w0.heap.size w0 w → Calls Try.prog g (#[.int .i64 x] ++ cb) w fun e w' => e = .returned (.bool (p x)) ∧ Below w.heap.size w w'
/-- The function values that calls enter. -/
def Enter1 (g : FuncId) : Prop := ∀ args w, (callFunc g args).run Try.prog w = .ok (.enter g args) w
end Go.Proofs.Ytbemodacpimiiaa

/- Memory facts: rows of rows. No program in sight. -/
namespace Go.Proofs.Ytbemodacpimiiaa
open Go.RowKit

/-- A row of rows: the header of each element, and its own row. -/
theorem row_slices {α : Type} {T : Ty α} {wr : Bool} {w : World} {v : Value} {xss : List (List α)} {F : List Nat} (h : (Ty.slice T).row wr w v xss F) :
    ∃ a cap, v = .slice a xss.length cap ∧ xss.length ≤ cap ∧ cap ≤ 9223372036854775807 ∧ ((xss = [] ∧ F = []) ∨ (xss ≠ [] ∧ ∃ b off, a = some ⟨b, off, none⟩ ∧ b ∈ F ∧ ∀ k (hk : k < xss.length), ∃ u Fk, cellIs wr w b (off + k) u ∧ T.row wr w u xss[k] Fk ∧ ∀ x ∈ Fk, x ∈ F)) := by
  obtain ⟨a, cap, cs, G, rfl, h1, h2, hall, h⟩ := h
  refine ⟨a, cap, rfl, h1, h2, h.imp id ?_⟩
  rintro ⟨_, hne, b, off, rfl, rfl, hc⟩
  refine ⟨hne, b, off, rfl, List.mem_cons_self, fun k hk => ?_⟩
  obtain ⟨c, d, e, F1, F2, F3, rfl, rfl, hl, _, ⟨u, rfl, hu⟩, _⟩ := Ty.all_split hall k hk
  have hl' : c.length = k := by rw [hl]; show k * 1 = k; omega
  refine ⟨u, F2, ?_, hu, fun x hx => by simp [hx]⟩
  have := hc k (by simp; omega)
  rw [List.getElem_append_left (by simp; omega), List.getElem_append_right (by omega)] at this
  simpa [hl'] using this

/-- What a copying loop over rows has made so far. -/
def CopyAll {α : Type} (T : Ty α) (xss : List (List α)) (k : Nat) (w wr : World) : Prop :=
  ∃ (cs : List Value) (G : List Nat), (Ty.slice T).all true wr cs (xss.take k) G ∧ G.Nodup ∧ (∀ b ∈ G, w.heap.size < b) ∧
    (∀ j, j < xss.length → ∃ a n c, wr.cell? ⟨w.heap.size, j, none⟩ = some (.slice a n c) ∧ wr.frozen? ⟨w.heap.size, j, none⟩ = false ∧ (j < k → cs[j]? = some (.slice a n c))) ∧ Below w.heap.size w wr ∧ w.heap.size < wr.heap.size
theorem CopyAll.step {α : Type} {T : Ty α} {xss : List (List α)} {k : Nat} {w wr w1 : World} {a : Option Addr} {n c : Nat} {F : List Nat} (h : CopyAll T xss k w wr) (hk : k < xss.length)
    (hr : T.row true w1 (.slice a n c) xss[k] F) (hn : F.Nodup) (hF : ∀ b ∈ F, wr.heap.size ≤ b) (hb : Below wr.heap.size wr w1) : CopyAll T xss (k + 1) w (w1.setCell ⟨w.heap.size, k, none⟩ (.slice a n c)) := by
  obtain ⟨cs, G, hall, hG, hGb, hc, hB, hs⟩ := h
  have hlen : cs.length = k := by rw [Ty.all_len hall, List.length_take]; show min k xss.length * 1 = k; omega
  have hkeep : ∀ b, w.heap.size < b → (w1.setCell ⟨w.heap.size, k, none⟩ (.slice a n c)).heap[b]? = w1.heap[b]? := fun b hb => Below.heap_setCell _ _ _ _ (by simp; omega)
  have hall1 := Ty.all_keep (w' := w1) hall (fun b hb' => hb.block b (Ty.all_lt hall b hb'))
  have hall2 := Ty.all_keep (w' := w1.setCell ⟨w.heap.size, k, none⟩ (.slice a n c)) hall1 (fun b hb' => hkeep b (hGb b hb'))
  have hr2 := Ty.row_keep (w' := w1.setCell ⟨w.heap.size, k, none⟩ (.slice a n c)) hr (fun b hb' => hkeep b (Nat.lt_of_lt_of_le hs (hF b hb')))
  refine ⟨cs ++ [.slice a n c], G ++ F, ?_, ?_, ?_, ?_, ?_, ?_⟩
  · rw [List.take_succ_eq_append_getElem hk]
    exact Ty.all_snoc hall2 ⟨_, rfl, hr2⟩
  · refine List.nodup_append.2 ⟨hG, hn, fun x hx y hy e => ?_⟩
    have h1 := Ty.all_lt hall x hx
    have h2 := hF y hy
    omega
  · intro b hb'
    rcases List.mem_append.1 hb' with hb' | hb'
    · exact hGb b hb'
    · have := hF b hb'; omega
  · intro j hj
    obtain ⟨a', n', c', h1, h2, h3⟩ := hc j hj
    have h1' := ((bcell hb).1 _ j hs).trans h1
    have h2' := ((bcell hb).2 _ j hs).trans h2
    by_cases e : j = k
    · subst e
      exact ⟨a, n, c, World.cell?_setCell_same' _ _ _ (by rw [h1']; rfl), by rw [World.frozen?_setCell]; exact h2', fun _ => by rw [List.getElem?_append_right (by omega)]; simp [hlen]⟩
    · refine ⟨a', n', c', by rw [World.cell?_setCell_other w1 _ _ _ (by simp only [ne_eq, Addr.mk.injEq]; omega)]; exact h1', by rw [World.frozen?_setCell]; exact h2', fun hlt => ?_⟩
      rw [List.getElem?_append_left (by omega)]
      exact h3 (by omega)
  · exact bst (btr hB hb) (Nat.le_refl _) _
  · simp only [World.setCell, Array.size_modify]; exact Nat.lt_of_lt_of_le hs hb.size
/-- The copy of a row of rows. -/
theorem CopyAll.done {α : Type} {T : Ty α} {xss : List (List α)} {w wr : World} (h : CopyAll T xss xss.length w wr) (hm : xss.length ≤ 9223372036854775807) :
    ∃ F, (Ty.slice T).row true wr (.slice (some ⟨w.heap.size, 0, none⟩) xss.length xss.length) xss F ∧ F.Nodup ∧ (∀ b ∈ F, w.heap.size ≤ b) := by
  obtain ⟨cs, G, hall, hG, hGb, hc, hB, hs⟩ := h
  rw [List.take_length] at hall
  have hlen : cs.length = xss.length := by rw [Ty.all_len hall]; show xss.length * 1 = xss.length; omega
  by_cases hne : xss = []
  · subst hne
    exact ⟨[], Ty.row_nil _ _ _ _ _ (by simp), by simp, by simp⟩
  · refine ⟨w.heap.size :: G, ⟨_, _, cs, G, rfl, Nat.le_refl _, hm, hall, .inr ⟨Nat.zero_lt_one, hne, w.heap.size, 0, rfl, rfl, fun j hj => ?_⟩⟩, List.nodup_cons.2 ⟨fun h => by have := hGb _ h; omega, hG⟩, ?_⟩
    · obtain ⟨a, n, c, h1, h2, h3⟩ := hc j (by omega)
      have h4 := h3 (by omega)
      rw [List.getElem?_eq_getElem hj] at h4
      rw [Option.some.inj h4, Nat.zero_add]
      exact ⟨h1, fun _ => h2⟩
    · intro b hb
      rcases List.mem_cons.1 hb with rfl | hb
      · exact Nat.le_refl _
      · exact Nat.le_of_lt (hGb b hb)

/-- How many numbers, each row counted once more. -/
def bulk (xss : List (List Int)) : Nat := xss.length + (xss.map List.length).sum
end Go.Proofs.Ytbemodacpimiiaa

/- Contracts: literals and clauses, in the reference and in the program. -/
namespace Go.Proofs.Ytbemodacpimiiaa
open Go.RowKit

theorem same_below {P : Program} {f : FuncId} {args : Array Value} {w : World} {v : Value} (h : Calls P f args w fun e w' => e = .returned v ∧ w = w') : Calls P f args w fun e w' => e = .returned v ∧ Below w.heap.size w w' :=
  h.mono fun _ _ ⟨h1, h2⟩ => ⟨h1, h2 ▸ bb _⟩

/-- A negated int, as Go negates. -/
def negV (l : Int) : Int := wrap64 (-l)
theorem negV_small {l : Int} (h : I64 l) (h1 : l ≠ -9223372036854775808) : negV l = -l := by
  unfold negV I64 at *
  unfold wrap64
  omega
/-- The variable of a literal. -/
def absV (l : Int) : Int := if l < 0 then negV l else l
/-- A literal of so many variables. -/
def litB (vars l : Int) : Bool := inB l (negV vars) vars && (l != 0)
/-- Place i of a clause is as it must be. -/
def cOk (vars : Int) (c : List Int) (i : Nat) : Bool := litB vars (c.getD i 0) && (i == 0 || decide (absV (c.getD (i - 1) 0) < absV (c.getD i 0)))
def cOkTo (vars : Int) (c : List Int) (k : Nat) : Bool := (List.range k).all (cOk vars c)
theorem cOkTo_succ (vars : Int) (c : List Int) (k : Nat) : cOkTo vars c (k + 1) = (cOkTo vars c k && cOk vars c k) := by simp [cOkTo, List.range_succ]
/-- A valid clause. -/
def clauseB (vars : Int) (c : List Int) : Bool := inB vars 0 12 && cOkTo vars c c.length
theorem cOkTo_le {vars : Int} {c : List Int} {k : Nat} (hk : k ≤ c.length) (h : cOkTo vars c k = false) : cOkTo vars c c.length = false := by
  obtain ⟨d, hd⟩ : ∃ d, c.length = k + d := ⟨c.length - k, by omega⟩
  rw [hd]
  clear hd hk
  induction d with
  | zero => exact h
  | succ d ih => rw [← Nat.add_assoc, cOkTo_succ, ih]; rfl

set_option maxHeartbeats 400000 in
theorem l2Var_any (l : Int) (w : World) : Calls Try.prog 151 #[.int .i64 l] w fun e w' => e = .returned (.int .i64 (absV l)) ∧ w = w' := by
  by_cases h : l < 0
  · have hd : Hid (absV l = wrap64 (-l)) := if_pos h
    go_enter Try.func151, Try.ntmps151
    go_wp2
    go_ret
    exact ⟨ret_int hd.out.symm, rfl⟩
  · have hd : Hid (absV l = l) := if_neg h
    go_enter Try.func151, Try.ntmps151
    go_wp2
    go_ret
    exact ⟨ret_int hd.out.symm, rfl⟩

set_option maxHeartbeats 400000 in
theorem l2Vars_any (v : Int) (w : World) : Calls Try.prog 169 #[.int .i64 v] w fun e w' => e = .returned (.bool (inB v 0 12)) ∧ w = w' := by
  go_enter Try.func169, Try.ntmps169
  go_wp2_with (go_at_call 86; refine (l1In_any _ _ _ _).mono ?_; rintro e w1 ⟨rfl, rfl⟩)
  go_ret
  exact ⟨rfl, rfl⟩
set_option maxHeartbeats 400000 in
theorem varsOk_any (v : Int) (w : World) : Calls Try.prog 92 #[.int .i64 v] w fun e w' => e = .returned (.bool (inB v 0 12)) ∧ w = w' := by
  go_enter Try.func92, Try.ntmps92
  go_wp2_with (go_at_call 64; refine (within_any _ _ _ _).mono ?_; rintro e w1 ⟨rfl, rfl⟩)
  go_ret
  exact ⟨rfl, rfl⟩

set_option maxHeartbeats 400000 in
theorem l2Lit_any (v l : Int) (w : World) : Calls Try.prog 193 #[.int .i64 v, .int .i64 l] w fun e w' => e = .returned (.bool (litB v l)) ∧ w = w' := by
  have hd : Hid (litB v l = (inB l (wrap64 (-v)) v && (l != 0))) := rfl
  go_enter Try.func193, Try.ntmps193
  go_wp2_with (go_at_call 86; refine (l1In_any _ _ _ _).mono ?_; rintro e w1 ⟨rfl, rfl⟩)
  all_goals go_ret
  all_goals exact ⟨ret_bool (by rw [hd.out]; simp [*] <;> rfl), rfl⟩
set_option maxHeartbeats 400000 in
theorem isLiteral_any (v l : Int) (w : World) : Calls Try.prog 130 #[.int .i64 v, .int .i64 l] w fun e w' => e = .returned (.bool (litB v l)) ∧ w = w' := by
  have hd : Hid (litB v l = (inB l (wrap64 (-v)) v && (l != 0))) := rfl
  go_enter Try.func130, Try.ntmps130
  go_wp2_with (go_at_call 64; refine (within_any _ _ _ _).mono ?_; rintro e w1 ⟨rfl, rfl⟩)
  all_goals go_ret
  · rename_i h
    subst h
    exact ⟨ret_bool (by rw [hd.out]; simp), rfl⟩
  · exact ⟨ret_bool (by rw [hd.out]; exact Bool.and_comm _ _), rfl⟩
set_option maxHeartbeats 400000 in
theorem abs_any (l : Int) (w : World) (hl : I64 l) : Calls Try.prog 131 #[.int .i64 l] w fun e w' => e = .returned (.int .i64 (absV l)) ∧ w = w' := by
  have hd : Hid (absV l = if l < wrap64 (-l) then wrap64 (-l) else l) := by
    unfold Hid absV negV
    unfold I64 at hl
    unfold wrap64
    split <;> split <;> omega
  go_enter Try.func131, Try.ntmps131
  by_cases h : l < wrap64 (-l)
  · go_wp2
    go_ret
    exact ⟨ret_int (by first | (rw [hd.out, if_pos h]; done) | (rw [hd.out, if_pos h]; exact Int.max_eq_right (Int.le_of_lt h))), rfl⟩
  · go_wp2
    go_ret
    exact ⟨ret_int (by first | (rw [hd.out, if_neg (Int.not_lt.mpr h)]; done) | (rw [hd.out, if_neg (by omega)]; exact Int.max_eq_left (by omega))), rfl⟩
end Go.Proofs.Ytbemodacpimiiaa
