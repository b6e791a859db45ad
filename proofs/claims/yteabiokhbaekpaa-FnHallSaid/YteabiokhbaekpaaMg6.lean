/- Lemmas and contracts for a law, put together out of several texts: DuD CtF SeC SeD CtG AsF AsG AsH AsI CtH CtI SeE SeF SeI CtS CtJ CtK CtL DgA FlatC DgB DgC DgD DgE DgF. -/
import Derived.Test.YteabiokhbaekpaaMg1
import Derived.Test.YteabiokhbaekpaaMg2
import Derived.Test.YteabiokhbaekpaaMg4
import Derived.Test.YteabiokhbaekpaaMg5
import Derived.Test.YteabiokhbaekpaaMg3
import Derived.Test.YteabiokhbaekpaaShelfB
import Derived.OwnWalk
import Derived.Laws.OwnMore
import Derived.BigQuiet
import Derived.Lib.QuietBelow
import Derived.Lib.Hide
import Derived.Lib.RabinKarpLaws
import Derived.Laws.StructEq
/- Memory: rows of numbers that are only read, beside own rows of slices; contracts: a copy, negated literals. -/
namespace Go.Proofs.Yteabiokhbaekpaa
open Go.RowKit

/-- Rows of numbers that are only read, with all that they reach. -/
def IPool (K : List (Value × List Int)) : Asn where
  p w F := (∀ b ∈ F, b < w.heap.size) ∧ ∀ q ∈ K, ∃ A c, q.1 = .slice A q.2.length c ∧ IntsAt w A q.2 ∧ (q.2 ≠ [] → ∀ a, A = some a → a.block ∈ F)
  lt h := h.1
  keep := by
    rintro w w' F ⟨h1, h2⟩ hk
    refine ⟨fun b hb => ?_, fun q hq => ?_⟩
    · have := hk b hb
      rw [Array.getElem?_eq_getElem (h1 b hb)] at this
      exact (Array.getElem?_eq_some_iff.1 this).1
    · obtain ⟨A, c, e, h3, h4⟩ := h2 q hq
      refine ⟨A, c, e, ?_, h4⟩
      by_cases hn : q.2 = []
      · rw [hn]; exact IntsAt.nil _ _
      · exact h3.keep fun a ha => hk _ (h4 hn a ha)
def IOf (w : World) (q : Value × List Int) : Prop := ∃ A c, q.1 = .slice A q.2.length c ∧ IntsAt w A q.2
/-- Two parts are told as one. -/
theorem Sp.merge {w0 w : World} {q1 q2 q : Asn} {ps : List Asn} (h : Sp w0 w (q1 :: q2 :: ps)) (hm : ∀ F1 F2, q1.p w F1 → q2.p w F2 → q.p w (F1 ++ F2)) : Sp w0 w (q :: ps) := by
  obtain ⟨h1, G, ⟨F1, G1, rfl, d1, p1, F2, G2, rfl, d2, p2, h5⟩, h3⟩ := h
  refine ⟨h1, (F1 ++ F2) ++ G2, ⟨F1 ++ F2, G2, rfl, fun b hb hb2 => ?_, hm F1 F2 p1 p2, h5⟩, fun b hb => h3 b ?_⟩
  · rcases List.mem_append.1 hb with h | h
    · exact d1 b h (List.mem_append.2 (.inr hb2))
    · exact d2 b h hb2
  · simp only [List.mem_append] at hb ⊢
    rcases hb with (h | h) | h
    · exact .inl h
    · exact .inr (.inl h)
    · exact .inr (.inr h)
section
variable {w0 w w' : World} {ps : List Asn} {i : Nat} {K : List (Value × List Int)} {v : Value} {xs : List Int}
theorem Sp.ipool_nil (h : Sp w0 w ps) : Sp w0 w (IPool [] :: ps) := h.new (F := []) (bb _) ⟨by simp, by simp⟩ (by simp)
theorem Sp.ipool_at (h : Sp w0 w ps) (hi : ps[i]? = some (IPool K)) : ∀ q ∈ K, IOf w q := fun q hq => by
  obtain ⟨F, hp, _⟩ := h.get hi
  obtain ⟨A, c, e, h1, -⟩ := hp.2 q hq
  exact ⟨A, c, e, h1⟩
/-- An own row is let go: it is only read from now on. -/
theorem Sp.ipool_in (h : Sp w0 w (Own 3 1 v xs.length (xs.map (.int .i64)) :: IPool K :: ps)) (hI : ∀ x ∈ xs, I64 x) : Sp w0 w (IPool ((v, xs) :: K) :: ps) :=
  h.merge fun F1 F2 h1 h2 => by
    obtain ⟨rfl, ho⟩ := h1
    obtain ⟨A, c, rfl, hx⟩ := ints_own ho hI
    refine ⟨fun b hb => ?_, fun q hq => ?_⟩
    · rcases List.mem_append.1 hb with hb | hb
      · exact owns_lt ho (by simpa using hb)
      · exact h2.1 b hb
    · rcases List.mem_cons.1 hq with rfl | hq
      · exact ⟨A, c, rfl, hx, fun _ a ha => by subst ha; simp [Value.ownBlock]⟩
      · obtain ⟨A', c', e, h3, h4⟩ := h2.2 q hq
        exact ⟨A', c', e, h3, fun hn a ha => List.mem_append.2 (.inr (h4 hn a ha))⟩
theorem Sp.ipool_empty (h : Sp w0 w (IPool K :: ps)) : Sp w0 w (IPool ((.slice none 0 0, []) :: K) :: ps) := by
  obtain ⟨h1, G, ⟨F1, G1, rfl, d1, p1, h5⟩, h3⟩ := h
  refine ⟨h1, F1 ++ G1, ⟨F1, G1, rfl, d1, ⟨p1.1, fun q hq => ?_⟩, h5⟩, h3⟩
  rcases List.mem_cons.1 hq with rfl | hq
  · exact ⟨none, 0, rfl, IntsAt.nil _ _, fun hn => absurd rfl hn⟩
  · exact p1.2 q hq
end
/-- An own row of slices, told with what they hold. -/
abbrev SRow (v : Value) (ks : List (Value × List Int)) : Asn := Own 26 1 v ks.length (ks.map Prod.fst)
theorem cls_own {w : World} {B : Nat} {e : TypeId} {v : Value} {ks : List (Value × List Int)} (h : w.ownsRow B e 1 v ks.length (ks.map Prod.fst)) (hok : ∀ x ∈ ks, IOf w x) : ∃ A c, v = .slice A ks.length c ∧ ClsAt w A (ks.map Prod.snd) := by
  obtain ⟨_, ⟨rfl, h0⟩ | ⟨g, cap, cur, rfl, _, hh, _, _, hs, ht⟩⟩ := h
  · have : ks = [] := List.length_eq_zero_iff.1 h0
    subst this
    exact ⟨none, 0, rfl, ⟨fun j hj => absurd hj (by simp)⟩⟩
  · refine ⟨_, cap, rfl, ⟨fun j hj => ?_⟩⟩
    have hj2 : j < ks.length := by simpa using hj
    obtain ⟨A, c, e2, hN⟩ := hok ks[j] (List.getElem_mem hj2)
    refine ⟨g, 0, A, c, rfl, ?_, by simpa using hN⟩
    have := hown_cell hh ht (j := j) (by omega)
    rw [Nat.zero_add, this, List.getElem?_map, List.getElem?_eq_getElem hj2]
    simp [e2]

set_option maxRecDepth 100000 in
set_option maxHeartbeats 1000000 in
theorem cloneD_any (A : Option Addr) (cap : Nat) (xs : List Int) (w : World) (hx : IntsAt w A xs) (hl : xs.length ≤ 1000) :
    Calls Try.prog 38 #[.slice A xs.length cap] w fun e w' => ∃ B c, e = .returned (.slice B xs.length c) ∧ Sp w w' [Own 3 1 (.slice B xs.length c) xs.length (xs.map (.int .i64))] := by
  obtain ⟨i0, hi, hz0, hz1, hz2⟩ := info_parts infoInt
  have qT : ∀ (w : World) (a : Option Addr) (n c n' c' : Nat), (binOp .eql 26 (.slice a n c) (.slice none n' c')).run Try.prog w = .ok (.bool a.isNone) w := fun w a n c n' c' => Lib.run_eql_slice_nil w _ _ a n c n' c' Try.underlying26
  cases A with
  | none =>
    have he : xs = [] := by
      cases xs with
      | nil => rfl
      | cons x xs =>
        obtain ⟨b, off, e, -⟩ := hx.at_ 0 (by simp)
        cases e
    subst he
    go_enter Try.func38, Try.ntmps38
    go_wp2_with fail
    go_ret
    exact ⟨none, 0, rfl, (Sp.start w).own_nil _ _⟩
  | some ad =>
    have S0 := Lib.hid ((Sp.start w).own_made 3 1)
    have hsrc : Src (w.alloc (.cells #[] 3)) (some ad) xs.length 1 (xs.map (.int .i64)) := by
      rcases Nat.eq_zero_or_pos xs.length with h0 | h0
      · exact .inl ⟨h0, by rw [List.length_eq_zero_iff.1 h0]; rfl⟩
      · obtain ⟨b, off, e, -⟩ := hx.at_ 0 h0
        cases e
        exact .inr ⟨_, rfl, by simp, fun j u hj => by
          obtain ⟨hj1, hj2⟩ := List.getElem?_eq_some_iff.1 hj
          rw [add_none]
          have := (hx.grow (bal (bb w) (.cells #[] 3))).get (j := j) (by simpa using hj1)
          rw [this, ← hj2]; simp⟩
    have hone : ∀ u ∈ xs.map (Value.int .i64), u.oneCell' = true := fun u hu => by
      obtain ⟨x, _, rfl⟩ := List.mem_map.1 hu
      rfl
    replace hsrc := Lib.hid hsrc
    replace hone := Lib.hid hone
    generalize xs.map (Value.int .i64) = l at *
    generalize xs.length = m at *
    clear hx
    go_enter Try.func38, Try.ntmps38
    go_wp2_with (at_builtin; refine wpList_append_src rfl _ _ rfl Try.underlying26 hi hz0 hz1 hz2 rfl (by decide) _ _ _ rfl (S0.out.own (i := 0) rfl) (some ad) m cap l rfl hsrc.out hone.out ?c3 ?c4 ?_)
    case c3 => unfold maxLen; omega
    case c4 => omega
    intro v' w1 hown hg hat
    have S1 := S0.out.own_push (i := 0) rfl (bb _) hown hg (by simpa using hat)
    obtain ⟨a', c', rfl⟩ := owns_form hown
    replace S1 := Lib.hid S1
    clear S0 hown hg hat hsrc
    go_wp2_with fail
    go_ret
    exact ⟨a', c', rfl, S1.out⟩

/- left out: the seat has no impl.negated -/
end Go.Proofs.Yteabiokhbaekpaa

/- Contract: at most, in the program. -/
namespace Go.Proofs.Yteabiokhbaekpaa
open Go.RowKit

/-- What is asked of mustClause. -/
def MustC : Prop := ∀ (zs : List Int) (A : Option Addr) (cap : Nat) (w : World), IntsAt w A zs → (∀ x ∈ zs, LitS x) → zs.length ≤ 2000 → Calls Try.prog 45 #[.slice A zs.length cap] w (OneI w ((clauseR zs).getD []))

/- left out: the seat has no impl.AtMostCnf -/

/- left out: the seat has no impl.AtMostCnf -/
end Go.Proofs.Yteabiokhbaekpaa

/- Contract: the seeded Cnf, in the program. -/
namespace Go.Proofs.Yteabiokhbaekpaa
open Go.RowKit

/-- The clauses of a seed. -/
noncomputable def seedL (vars : Int) (wd : Nat) (s : Int) (k : Nat) : List (List Int) := (List.range k).map fun i => cptL (listS vars wd s i)
theorem seedL_succ (vars : Int) (wd : Nat) (s : Int) (k : Nat) : seedL vars wd s (k + 1) = seedL vars wd s k ++ [cptL (listS vars wd s k)] := by unfold seedL; rw [List.range_succ, List.map_append]; rfl
theorem seedL_next (vars : Int) (wd : Nat) (s : Int) (k : Nat) : seedL vars wd s (k + 1) = seedL vars wd s k ++ [cptL (nextS vars wd (stateS vars wd s k)).2] := seedL_succ vars wd s k
theorem stateS_succ (vars : Int) (wd : Nat) (s : Int) (k : Nat) : stateS vars wd s (k + 1) = (nextS vars wd (stateS vars wd s k)).1 := rfl
theorem leastM_pick {P : Nat → Prop} (h : ∃ n, P n) : ∃ M, P M ∧ leastM P = M := ⟨_, (leastM_spec h).1, rfl⟩
theorem seedL_len (vars : Int) (wd : Nat) (s : Int) (k : Nat) : (seedL vars wd s k).length = k := by simp [seedL]

/- left out: the seat has no impl.chooser -/

theorem has_used {vars : Int} {L : List Int} (h : DistS vars L) (hv : vars ≤ 12) (v : Int) (h1 : 1 ≤ v ∧ v ≤ vars) : hasI (varF 12 (usedB [L])) v = hasV L v := by
  rw [Bool.eq_iff_iff, hasS_iff, varF_mem, hasV_iff]
  unfold usedB
  simp only [List.any_cons, List.any_nil, Bool.or_false, List.any_eq_true, beq_iff_eq]
  constructor
  · rintro ⟨-, -, l, hl, e⟩
    exact ⟨l, hl, by rw [absV_lit (h.mem l hl).1]; omega⟩
  · rintro ⟨l, hl, e⟩
    rw [absV_lit (h.mem l hl).1] at e
    exact ⟨by omega, by omega, l, hl, by omega⟩

/-- Whether a seeded Cnf is asked for as it may be. -/
def seedOk (vars cl wd sd : Int) : Bool := inB vars 1 12 && inB cl 0 60 && inB wd 1 vars && inB sd 0 9999
/- left out: the seat has no impl.SeededCnf -/
end Go.Proofs.Yteabiokhbaekpaa

/- Contract: the seeded Cnf, in the reference. -/
namespace Go.Proofs.Yteabiokhbaekpaa
open Go.RowKit

/-- The drawing of a clause under way in the reference. -/
def SeRel2 (w : World) (vars : Int) (wd : Nat) (q : Int × List Int) (ps : List Asn) (m : Nat) (v u : Value) (W : World) : Prop :=
  ∃ st L C D dc, v = .int .i64 st ∧ u = .slice D C.length dc ∧ Hid (C = foldJ L) ∧ Runs vars wd q m (st, L) ∧ DistS vars L ∧ (0 ≤ st ∧ st < 65536) ∧ Sp w W (Own 3 1 (.slice D C.length dc) C.length (C.map (.int .i64)) :: ps)

theorem has_fold {vars : Int} {L : List Int} (h : DistS vars L) (v : Int) (h1 : 1 ≤ v) : hasV L v = (hasI (foldJ L) v || hasI (foldJ L) (-v)) := by
  rw [Bool.eq_iff_iff, hasV_iff, Bool.or_eq_true, hasS_iff, hasS_iff, foldJ_iff, foldJ_iff]
  constructor
  · rintro ⟨l, hl, e⟩
    rw [LitS.abs (h.mem l hl).1] at e
    split at e
    · right; rw [← e]; simpa using hl
    · left; rw [← e]; exact hl
  · rintro (hl | hl)
    · exact ⟨v, hl, by rw [LitS.abs (h.mem v hl).1, if_neg (by omega)]⟩
    · exact ⟨-v, hl, by rw [LitS.abs (h.mem _ hl).1, if_pos (by omega)]; omega⟩
theorem fold_len {vars : Int} {L : List Int} (h : DistS vars L) (hm : vars ≤ 1000) : (foldJ L).length = L.length := by rw [foldJ_eq h hm, (dist_clause h hm).2.2]

/- left out: the seat has no spec.SeededCnf -/
end Go.Proofs.Yteabiokhbaekpaa

/- Contract: at least, in the program. -/
namespace Go.Proofs.Yteabiokhbaekpaa
open Go.RowKit

theorem leastL_zero (n : Nat) : leastL n 0 = [] := rfl
theorem leastL_over {n k : Nat} (h : n < k) : leastL n k = [[]] := by unfold leastL; rw [if_neg (by omega), show n + 1 - k = 0 by omega, chL_zero]
theorem leastL_mid {n k : Nat} (h : 0 < k) : leastL n k = chL n (n + 1 - k) := by unfold leastL; rw [if_neg (by omega)]
theorem good_nil : GoodS [] := ⟨by simp, by simp⟩

/- left out: the seat has no impl.AtLeastCnf -/

/- left out: the seat has no impl.AtLeastCnf -/
end Go.Proofs.Yteabiokhbaekpaa

/- Contracts: literals compared and sorted, and the clause of literals, in the program. -/
namespace Go.Proofs.Yteabiokhbaekpaa
open Go.RowKit Go.Sort

def orL (x y : Int) : Int := if x = 0 then y else x
theorem cmpL_or (a b : Int) : orL (Lib.compareInt (absW a) (absW b)) (Lib.compareInt b a) = cmpL a b := by
  unfold orL cmpL Lib.compareInt
  by_cases h1 : absW a < absW b
  · simp [h1]
  · by_cases h2 : absW b < absW a
    · simp [h1, h2]
    · simp [h1, h2]
set_option maxHeartbeats 400000 in
theorem absW_any (l : Int) (w : World) : Calls Try.prog 50 #[.int .i64 l] w fun e w' => e = .returned (.int .i64 (absW l)) ∧ w = w' := by
  have hd : Hid (absW l = if l < wrap64 (-l) then wrap64 (-l) else l) := rfl
  go_enter Try.func50, Try.ntmps50
  by_cases h : l < wrap64 (-l)
  · go_wp2
    go_ret
    exact ⟨ret_int (by first | (rw [hd.out, if_pos h]; done) | (rw [hd.out, if_pos h]; exact Int.max_eq_right (Int.le_of_lt h))), rfl⟩
  · go_wp2
    go_ret
    exact ⟨ret_int (by first | (rw [hd.out, if_neg (Int.not_lt.mpr h)]; done) | (rw [hd.out, if_neg (by omega)]; exact Int.max_eq_left (by omega))), rfl⟩
set_option maxHeartbeats 1000000 in
theorem cmpOrL_any (b : Nat) (x y : Int) (w : World) (k0 : w.cell? ⟨b, 0, none⟩ = some (.int .i64 x)) (k1 : w.cell? ⟨b, 1, none⟩ = some (.int .i64 y)) :
    Calls Try.prog 81 #[.slice (some ⟨b, 0, none⟩) 2 2] w fun e w' => e = .returned (.int .i64 (orL x y)) ∧ w = w' := by
  by_cases hx : x = 0
  · have hR : Hid (orL x y = y) := by unfold Hid orL; rw [if_pos hx]
    subst hx
    by_cases hy : y = 0
    · subst hy
      go_enter Try.func81, Try.ntmps81
      go_wp2_with fail
      refine wp_loop_rounds 3 ?_
      rw [rounds_succ]
      go_wp2_with fail
      rw [rounds_succ]
      go_wp2_with fail
      rw [rounds_succ]
      go_wp2_with fail
      go_ret
      exact ⟨ret_int hR.out.symm, rfl⟩
    · have hy2 : (y != 0) = true := by simpa using hy
      go_enter Try.func81, Try.ntmps81
      go_wp2_with fail
      refine wp_loop_rounds 3 ?_
      rw [rounds_succ]
      go_wp2_with fail
      rw [rounds_succ]
      go_wp2_with fail
      go_ret
      exact ⟨ret_int hR.out.symm, rfl⟩
  · have hR : Hid (orL x y = x) := by unfold Hid orL; rw [if_neg hx]
    have hx2 : (x != 0) = true := by simpa using hx
    go_enter Try.func81, Try.ntmps81
    go_wp2_with fail
    refine wp_loop_rounds 3 ?_
    rw [rounds_succ]
    go_wp2_with fail
    go_ret
    exact ⟨ret_int hR.out.symm, rfl⟩

set_option maxHeartbeats 1000000 in
theorem compareLiterals_any (a b : Int) (W : World) :
    Calls Try.prog 68 #[.int .i64 a, .int .i64 b] W fun e w' => e = .returned (.int .i64 (cmpL a b)) ∧ ∃ q os, w' = grow (W.drewN q) os := by
  have h1 := Lib.hid (fun V => absW_any a V)
  have h2 := Lib.hid (fun V => absW_any b V)
  have h3 := Lib.hid (fun V => Try.cmp_Compare_int (absW a) (absW b) V)
  have h4 := Lib.hid (fun V => Try.cmp_Compare_int b a V)
  obtain ⟨r, hr⟩ : ∃ r, cmpL a b = r := ⟨_, rfl⟩
  have hor := cmpL_or a b
  rw [hr] at hor ⊢
  obtain ⟨x, hx⟩ : ∃ x, Lib.compareInt (absW a) (absW b) = x := ⟨_, rfl⟩
  obtain ⟨y, hy⟩ : ∃ y, Lib.compareInt b a = y := ⟨_, rfl⟩
  rw [hx] at h3 hor
  rw [hy] at h4 hor
  clear hx hy
  generalize absW a = aa at *
  generalize absW b = ab at *
  have hcO := Lib.hid (fun V k0 k1 => cmpOrL_any W.heap.size x y V k0 k1)
  rw [hor] at hcO
  clear hr hor
  go_enter Try.func68, Try.ntmps68
  go_wp2_with fail
  refine (h1.out _).mono ?_
  rintro e w1 ⟨rfl, rfl⟩
  go_wp2_with fail
  refine (h2.out _).mono ?_
  rintro e w1 ⟨rfl, rfl⟩
  go_wp2_with fail
  refine (h3.out _).mono ?_
  rintro e w1 ⟨rfl, hw⟩
  subst hw
  go_wp2_with fail
  refine (h4.out _).mono ?_
  rintro e w1 ⟨rfl, hw⟩
  subst hw
  go_wp2_with fail
  have k0 : (w1.alloc (.cells #[.int .i64 x, .int .i64 y] 3)).cell? ⟨w1.heap.size, 0, none⟩ = some (.int .i64 x) := cell_of_row _ _ _ _ _ _ (heap_alloc_new w1 _)
  have k1 : (w1.alloc (.cells #[.int .i64 x, .int .i64 y] 3)).cell? ⟨w1.heap.size, 1, none⟩ = some (.int .i64 y) := cell_of_row _ _ _ _ _ _ (heap_alloc_new w1 _)
  refine (hcO.out _ k0 k1).mono ?_
  rintro e w2 ⟨rfl, hw⟩
  clear k0 k1
  subst hw
  go_wp2_with fail
  go_ret
  exact ⟨rfl, 0, #[_], alloc_eq_grow _ _⟩

theorem ltL {x y : Int} : ltOf cmpL x y = true ↔ befL x y := by unfold ltOf; rw [decide_eq_true_eq, cmpL_neg]
theorem ltL_no {x y : Int} : ltOf cmpL x y = false ↔ ¬ befL x y := by rw [← ltL]; simp
theorem cmpL_swo : SWO (ltOf cmpL) where
  irrefl x := by rw [ltL_no]; unfold befL; omega
  trans x y z h1 h2 := by rw [ltL] at *; exact befL_trans h1 h2
  ntrans x y z h1 h2 := by rw [ltL_no] at *; unfold befL at *; omega

theorem sortFuncL_any (xs : List Int) (B : Option Addr) (cc : Nat) (w0 w : World) (ps : List Asn) (S : Sp w0 w (Own 3 1 (.slice B xs.length cc) xs.length (xs.map (.int .i64)) :: ps)) (hl : xs.length ≤ 1000000) :
    Calls Try.prog 67 #[.slice B xs.length cc, .func (.func 68) #[] #[]] w fun e w' => e = .returned (.tuple #[]) ∧ Sp w0 w' (Own 3 1 (.slice B xs.length cc) xs.length ((sortL xs).map (.int .i64)) :: ps) := by
  rcases Nat.eq_zero_or_pos xs.length with h0 | h0
  · obtain rfl : xs = [] := List.length_eq_zero_iff.1 h0
    refine Calls.mono (by first | exact Try.slices_SortFunc_none B cc _ w | exact Try.slices_SortFunc_none (α := Nat) B cc _ w) ?_
    rintro e w' ⟨rfl, rfl⟩
    refine ⟨rfl, ?_⟩
    unfold sortL
    rw [List.mergeSort_nil]
    exact S
  · have eg : ∀ args w, (callFunc 68 args).run Try.prog w = .ok (.enter 68 args) w := enters_of Try.func68 (by kernel_rfl) rfl
    obtain ⟨g, cap, cur, e1, h0', hg, hnc, hmx, hc, ht⟩ := own_block (S.own (i := 0) rfl) h0
    simp only [Value.slice.injEq] at e1
    obtain ⟨rfl, -, rfl⟩ := e1
    rw [Nat.mul_one] at ht
    have hH := holds_of_blockI hg ht
    have h := Any.slices_SortFunc_total Try.laysSlF6_f67 (Value.int .i64) (fun _ => rfl) cmpL cmpL_swo 68 #[] g 0 cc xs.toArray w eg (fun m os dk _ x y => compareLiterals_any x y _) hH (S.own (i := 0) rfl |> fun h => owns_lt h rfl) (by simp; omega) (fun x y h1 h2 => by
      rw [ltL_no] at h1 h2
      unfold befL at h1 h2
      omega)
    have hsz : xs.toArray.size = xs.length := by simp
    rw [hsz] at h
    refine Calls.mono h ?_
    rintro e w' ⟨rfl, n, os, rfl⟩
    refine ⟨rfl, ?_⟩
    have e2 : (xs.toArray.toList.mergeSort fun x y => !(ltOf cmpL) y x) = sortL xs := by
      unfold sortL ltOf; rfl
    rw [e2]
    exact S.own_push (i := 0) rfl (bb _) (ownsRow_sortedI (by unfold sortL; exact List.length_mergeSort _) (Nat.zero_le _) hg hnc hmx hc) (grownBy_sortedI _) (.inl rfl)
end Go.Proofs.Yteabiokhbaekpaa

/- Contracts: the clause of literals, literals that are set, in the program. -/
namespace Go.Proofs.Yteabiokhbaekpaa
open Go.RowKit

set_option maxRecDepth 100000 in
set_option maxHeartbeats 4000000 in
theorem clause_any (zs : List Int) (A : Option Addr) (cap : Nat) (w : World) (hx : IntsAt w A zs) (hz : ∀ x ∈ zs, LitS x) (hl : zs.length ≤ 2000) :
    Calls Try.prog 61 #[.slice A zs.length cap] w (OwnAns w (clauseR zs).isSome ((clauseR zs).getD [])) := by
  have hcl := Lib.hid (cloneA_any A cap zs w hx (by omega))
  have hsl : (sortL zs).length = zs.length := List.length_mergeSort _
  have hcpl := cptL_len zs
  have hlit := Lib.hid (fun x (h : x ∈ cptL zs) => hz x (cptL_mem.1 h))
  have hR : Hid (clauseR zs = if okTo (cptL zs) ((cptL zs).length - 1) then some (cptL zs) else none) := rfl
  have hcp : Hid (cptL zs = Lib.compact (sortL zs)) := rfl
  generalize clauseR zs = R at *
  replace hsl := Lib.hid hsl
  clear hx hz
  go_enter Try.func61, Try.ntmps61
  go_wp2_with fail
  refine hcl.out.mono ?_
  rintro e w1 ⟨D, dc, rfl, T⟩
  have hso := Lib.hid (sortFuncL_any zs D dc w w1 [] T (by omega))
  clear T hcl
  go_wp2_with fail
  refine hso.out.mono ?_
  rintro e w2 ⟨rfl, S2⟩
  rw [← hsl.out] at S2 ⊢
  have hsl2 : (sortL zs).length ≤ 1000000 := by rw [hsl.out]; omega
  have hco := Lib.hid (compactI_any _ D dc w _ [] S2 hsl2)
  rw [← hcp.out] at hco
  clear S2 hso hcp hsl2
  generalize sortL zs = sz at *
  replace hsl := Lib.hid hsl
  have hcl2 : (cptL zs).length ≤ 2000 := by omega
  clear hcpl
  generalize cptL zs = out at *
  go_wp2_with fail
  refine hco.out.mono ?_
  rintro e w3 ⟨rfl, S3⟩
  replace S3 := Lib.hid S3
  clear hco
  go_wp2_with fail
  go_loopw [5] (fun v5 wr => ∃ (k : Nat) (z : Int), k + 1 ≤ out.length + 1 ∧ 1 ≤ z ∧ z ≤ 3000 ∧ Hid ((k : Int) + 1 = z) ∧ v5 = .int .i64 z ∧ Hid (okTo out k = true) ∧ Hid (Sp w wr [Own 3 1 (.slice D out.length dc) out.length (out.map (.int .i64))])) (fun v5 _ => 4000 - (intOf v5).toNat)
  case atStart => exact ⟨0, 1, by omega, by decide, by decide, rfl, rfl, rfl, S3⟩
  case round =>
    clear S3
    obtain ⟨k, z, hk, hz1, hz2, hkz, rfl, hok, HS⟩ := hrel
    by_cases hlt : z < (out.length : Int)
    · have hk1 : k + 1 < out.length := by have := hkz.out; omega
      have hI := HS.out.ints (i := 0) rfl (fun x hx => (hlit.out x hx).i64)
      obtain ⟨b, off, rfl, m1⟩ := hI.at_ (k + 1) hk1
      obtain ⟨b', off', e1, m0⟩ := hI.at_ k (by omega)
      cases e1
      have k1 := cell_regrown m1
      have k0 := cell_regrown m0
      have hL1 := hlit.out _ (List.getElem_mem hk1)
      have hL0 := hlit.out _ (List.getElem_mem (show k < out.length by omega))
      have hneg : IntKind.i64.wrap (-out[k]) = -out[k] := IntWalk.i64_in _ (by unfold LitS at hL0; omega)
      have hzk : (z : Int) = ((k + 1 : Nat) : Int) := by have := hkz.out; omega
      have hyes := Lib.hid (fun (h : (out.getD (k + 1) 0 == -(out.getD k 0)) = true) => okTo_no (n := out.length - 1) (by omega) h)
      have hno := Lib.hid (fun (h : (out.getD (k + 1) 0 == -(out.getD k 0)) = false) => okTo_next hok.out h)
      have hg1 : out.getD (k + 1) 0 = out[k + 1] := by rw [List.getD_eq_getElem?_getD, List.getElem?_eq_getElem hk1]; rfl
      have hg0 : out.getD k 0 = out[k] := by rw [List.getD_eq_getElem?_getD, List.getElem?_eq_getElem (by omega)]; rfl
      rw [hg1, hg0] at hyes hno
      have hwz : IntKind.i64.wrap (((k + 1 : Nat) : Int) - 1) = (k : Int) := by rw [IntWalk.i64_in _ (by omega)]; omega
      have hwz2 : IntKind.i64.wrap (((k + 1 : Nat) : Int) + 1) = ((k + 1 + 1 : Nat) : Int) := by rw [IntWalk.i64_in _ (by omega)]; omega
      have hkz2 : Hid (((k + 1 : Nat) : Int) + 1 = ((k + 1 + 1 : Nat) : Int)) := rfl
      generalize out[k + 1] = y at *
      generalize out[k] = x at *
      subst hzk
      obtain ⟨q, hq⟩ : ∃ q, (y == -x) = q := ⟨_, rfl⟩
      rw [hq] at hyes hno
      clear m1 m0 hI hL1 hL0 hg1 hg0 hkz hok
      cases q
      · have hok2 := Lib.hid (hno.out rfl)
        clear hno hyes
        go_wp2_with fail
        refine wp_region_quiet_below (by kernel_rfl) (by kernel_rfl) ?_
        repeat (any_goals (go_big_quiet_step (fail)))
        refine wpQuiet_nil ?_
        rintro w4 ⟨p, rfl⟩
        have HS4 := Lib.hid (HS.out.grow (below_regrown _ p.d p.os))
        clear HS k0 k1
        go_wp2_with fail
        go_roundw
        case rel => exact ⟨k + 1, ((k + 1 + 1 : Nat) : Int), by omega, by omega, by omega, hkz2, rfl, hok2, HS4⟩
        case measure => simp [intOf]; omega
      · have hok2 := Lib.hid (hyes.out rfl)
        clear hno hyes
        go_wp2_with fail
        refine wp_region_quiet_below (by kernel_rfl) (by kernel_rfl) ?_
        repeat (any_goals (go_big_quiet_step (fail)))
        refine wpQuiet_nil ?_
        rintro w4 ⟨p, rfl⟩
        have HS4 := Lib.hid ((Sp.of_below (HS.out.grow (below_regrown _ p.d p.os)).below).own_nil 3 1)
        have hRn : Hid (R = none) := by unfold Hid; rw [hR.out, if_neg (by rw [hok2.out]; simp)]
        clear HS k0 k1 hR
        go_wp2_with fail
        go_ret2
        rw [hRn.out]
        exact ⟨none, 0, rfl, HS4.out⟩
    · have hRs : Hid (R = some out) := by
        unfold Hid
        rw [hR.out, if_pos]
        have h1 := hok.out
        have : out.length - 1 ≤ k := by have := hkz.out; omega
        unfold okTo at h1 ⊢
        rw [List.all_eq_true] at h1 ⊢
        exact fun i hi => h1 i (List.mem_range.2 (by have := List.mem_range.1 hi; omega))
      clear hR
      go_wp2_with fail
      go_ret2
      rw [hRs.out]
      exact ⟨D, dc, rfl, HS.out⟩
end Go.Proofs.Yteabiokhbaekpaa

/- Contracts: literals set, assignments merged, on both sides. -/
namespace Go.Proofs.Yteabiokhbaekpaa
open Go.RowKit

def mergeR (vars : Int) (a b : List Int) : Option (List Int) := if clauseB vars a && clauseB vars b then joinS a b else none
def setR (vars : Int) (a : List Int) (l : Int) : Option (List Int) := if clauseB vars a && litB vars l then some (setS a l) else none
theorem good_len_s {vars : Int} {c : List Int} (h : clauseB vars c = true) : c.length ≤ 1000 := (clause_s h).2
/- left out: the seat has no impl.isVar -/

set_option maxHeartbeats 1000000 in
theorem mustClause_any (zs : List Int) (A : Option Addr) (cap : Nat) (w : World) (hx : IntsAt w A zs) (hz : ∀ x ∈ zs, LitS x) (hl : zs.length ≤ 2000) :
    Calls Try.prog 45 #[.slice A zs.length cap] w (OneI w ((clauseR zs).getD [])) := by
  have hc := Lib.hid (clause_any zs A cap w hx hz hl)
  generalize (clauseR zs).getD [] = R at *
  generalize (clauseR zs).isSome = q at *
  clear hx hz
  go_enter Try.func45, Try.ntmps45
  go_wp2_with fail
  refine hc.out.mono ?_
  rintro e w1 ⟨D, dc, rfl, T⟩
  replace T := Lib.hid T
  go_wp2_with fail
  go_ret
  exact ⟨D, dc, rfl, T.out⟩

/- left out: the seat has no impl.set -/

/- left out: the seat has no spec.l3Set -/

/- left out: the seat has no impl.SetLiteral -/

/- left out: the seat has no spec.SetLiteral -/
end Go.Proofs.Yteabiokhbaekpaa

/- Contracts: assignments merged, on both sides; extended, unset, and their bits, in the program. -/
namespace Go.Proofs.Yteabiokhbaekpaa
open Go.RowKit

/- left out: the seat has no impl.MergeAssignments -/

/- left out: the seat has no spec.MergeAssignments -/

/- left out: the seat has no impl.part$1 -/

/- left out: the seat has no impl.DoesExtend -/

/- left out: the seat has no impl.UnsetVar -/
end Go.Proofs.Yteabiokhbaekpaa

/- Contracts: clauses joined and made, told as own rows, in the reference. -/
namespace Go.Proofs.Yteabiokhbaekpaa
open Go.RowKit

/-- An own row and whether it is told. -/
def OAns (w : World) (ok : Bool) (zs : List Int) (e : Ending) (w' : World) : Prop :=
  ∃ D dc, e = .returned (.tuple #[.slice D zs.length dc, .bool ok]) ∧ Sp w w' [Own 3 1 (.slice D zs.length dc) zs.length (zs.map (.int .i64))]
theorem good_take {c : List Int} (h : GoodS c) (k : Nat) : GoodS (c.take k) := ⟨fun x hx => h.mem x (List.mem_of_mem_take hx), h.asc.sublist (List.take_sublist k c)⟩
theorem join_take {c : List Int} (h : GoodS c) {k : Nat} (hk : k < c.length) : joinS (c.take k) [c[k]] = some (c.take (k + 1)) := by
  have h1 : GoodS [c[k]] := ⟨fun x hx => by
    have e : x = c[k] := by simpa using hx
    rw [e]; exact h.mem _ (List.getElem_mem hk), by simp⟩
  rw [← clauseR_join (good_take h k) h1, List.take_append_getElem hk]
  exact clauseR_self (good_take h (k + 1))
theorem good_within {c : List Int} (h : GoodS c) : Within 1000 c := fun x hx => ⟨(h.mem x hx).2.1, (h.mem x hx).2.2⟩

/- left out: the seat has no spec.l2Join -/


/- left out: the seat has no spec.l2Of -/
end Go.Proofs.Yteabiokhbaekpaa

/- Contract: a clause put behind the others, in the reference. -/
namespace Go.Proofs.Yteabiokhbaekpaa
open Go.RowKit

/-- A Cnf by value whose clauses are the walk's own. -/
def AddP (w0 : World) (ps : List Asn) (vars : Int) (xss : List (List Int)) (e : Ending) (w' : World) : Prop :=
  ∃ B' c' cs', e = .returned (.agg #[.int .i64 vars, .slice B' xss.length c']) ∧ Sp w0 w' (Rows Ty.int 26 (.slice B' xss.length c') cs' xss :: ps)

/- left out: the seat has no spec.l4Add -/
end Go.Proofs.Yteabiokhbaekpaa

/- Contracts: a clause of literals in any order, put behind the others, in the reference. -/
namespace Go.Proofs.Yteabiokhbaekpaa
open Go.RowKit

theorem putB_len (c : List Int) (l : Int) : (putB c l).length = c.length + 1 := by
  unfold putB
  rw [List.length_append, List.length_cons, List.length_take, List.length_drop]; omega
theorem foldl_putB_len : ∀ (L c : List Int), (L.foldl putB c).length = c.length + L.length
  | [], c => by simp
  | l :: L, c => by rw [List.foldl_cons, foldl_putB_len L, putB_len, List.length_cons]; omega
theorem foldJ_len (L : List Int) : (foldJ L).length = L.length := by unfold foldJ; rw [foldl_putB_len]; simp
theorem dist_within {L : List Int} (h : DistS 1000 L) : Within 1000 L := fun x hx => ⟨(h.mem x hx).1.2.1, (h.mem x hx).1.2.2⟩
theorem fold_take {zs : List Int} (h : DistS 1000 zs) {k : Nat} (hk : k < zs.length) : joinS (foldJ (zs.take k)) [zs[k]] = some (foldJ (zs.take (k + 1))) := by
  rw [List.take_succ_eq_append_getElem hk, foldJ_snoc]
  have hd := List.pairwise_iff_getElem.1 h.diff
  have hz := (h.mem zs[k] (List.getElem_mem hk)).1
  have hno : ∀ y, y ∈ zs.take k → absV y ≠ absV zs[k] := fun y hy => by
    obtain ⟨j, hj, rfl⟩ := List.getElem_of_mem hy
    rw [List.length_take] at hj
    rw [List.getElem_take]
    exact hd j k (by omega) hk (by omega)
  have hneg : absV (-zs[k]) = absV zs[k] := by
    rw [LitS.abs hz, LitS.abs (show LitS (-zs[k]) by unfold LitS at hz ⊢; omega)]
    unfold LitS at hz
    split <;> split <;> omega
  rw [joinS_put (hasS_not.2 fun hm => hno _ (foldJ_iff.1 hm) hneg) (hasS_not.2 fun hm => hno _ (foldJ_iff.1 hm) rfl)]
  rfl

/- left out: the seat has no spec.l2Of -/

/- left out: the seat has no spec.l2Of -/
end Go.Proofs.Yteabiokhbaekpaa

/- Plain facts: the clauses of a coloring; edges as they lie. -/
namespace Go.Proofs.Yteabiokhbaekpaa
open Go.RowKit

/-- A node's clause, an edge's clause, the clauses of a coloring. -/
def colC (k i : Nat) : List Int := (List.range k).map fun (c : Nat) => (i : Int) * k + ((c : Int) + 1)
def colP (k : Nat) (e : Int × Int) (c : Int) : List Int := [-((e.1 - 1) * k + c), -((e.2 - 1) * k + c)]
def edgeV (n : Int) (e : Int × Int) : Bool := inB e.1 1 n && inB e.2 1 n && !(e.1 == e.2)
def colE1 (k : Nat) (e : Int × Int) (m : Nat) : List (List Int) := (List.range m).map fun (c : Nat) => cptL (colP k e ((c : Int) + 1))
def colN (k m : Nat) : List (List Int) := (List.range m).map (colC k)
def colL (n k : Nat) (es : List (Int × Int)) (m : Nat) : List (List Int) := colN k n ++ (es.take m).flatMap fun e => colE1 k e k
theorem colN_succ (k m : Nat) : colN k (m + 1) = colN k m ++ [colC k m] := by unfold colN; rw [List.range_succ, List.map_append]; rfl
theorem colN_len (k m : Nat) : (colN k m).length = m := by simp [colN]
theorem colE1_succ (k : Nat) (e : Int × Int) (m : Nat) : colE1 k e (m + 1) = colE1 k e m ++ [cptL (colP k e ((m : Int) + 1))] := by unfold colE1; rw [List.range_succ, List.map_append]; rfl
theorem colE1_len (k : Nat) (e : Int × Int) (m : Nat) : (colE1 k e m).length = m := by simp [colE1]
theorem colL_zero (n k : Nat) (es : List (Int × Int)) : colL n k es 0 = colN k n := by simp [colL]
theorem colL_succ (n k : Nat) (es : List (Int × Int)) (m : Nat) (hm : m < es.length) : colL n k es (m + 1) = colL n k es m ++ colE1 k es[m] k := by
  unfold colL
  rw [List.take_succ_eq_append_getElem hm, List.flatMap_append, List.append_assoc]; simp
theorem colL_len {n k : Nat} (es : List (Int × Int)) : ∀ m, m ≤ es.length → (colL n k es m).length = n + m * k
  | 0, _ => by rw [colL_zero, colN_len]; simp
  | m + 1, h => by
    rw [colL_succ n k es m (by omega), List.length_append, colL_len es m (by omega), colE1_len, Nat.succ_mul]; omega
theorem mul_le12 {i k : Nat} (hi : i ≤ 12) (hk : k ≤ 12) : 0 ≤ (i : Int) * k ∧ (i : Int) * k ≤ 144 := by
  have h1 : i * k ≤ 12 * 12 := Nat.mul_le_mul hi hk
  have h2 : ((i * k : Nat) : Int) = (i : Int) * k := Int.natCast_mul i k
  omega
theorem colC_good {k i : Nat} (hk : k ≤ 12) (hi : i ≤ 12) : GoodS (colC k i) := by
  have hb := mul_le12 hi hk
  unfold colC
  generalize (i : Int) * k = z at hb
  constructor
  · intro l hl
    obtain ⟨c, hc, rfl⟩ := List.mem_map.1 hl
    have := List.mem_range.1 hc
    unfold LitS; omega
  · rw [List.pairwise_map]
    refine List.pairwise_lt_range.imp_of_mem fun {a b} ha hb' hab => ?_
    have h1 := List.mem_range.1 ha
    have h2 := List.mem_range.1 hb'
    unfold AscS
    rw [LitS.abs (show LitS (z + ((a : Int) + 1)) by unfold LitS; omega), LitS.abs (show LitS (z + ((b : Int) + 1)) by unfold LitS; omega)]
    split <;> split <;> omega
theorem edgeV_iff {n : Int} {e : Int × Int} : edgeV n e = true ↔ (1 ≤ e.1 ∧ e.1 ≤ n) ∧ (1 ≤ e.2 ∧ e.2 ≤ n) ∧ e.1 ≠ e.2 := by
  unfold edgeV inB
  simp only [Bool.and_eq_true, decide_eq_true_eq, Bool.not_eq_true', beq_eq_false_iff_ne]
  omega
theorem mul_box {a : Int} {k : Nat} (h1 : 1 ≤ a) (h2 : a ≤ 12) (hk : k ≤ 12) : 0 ≤ (a - 1) * (k : Int) ∧ (a - 1) * (k : Int) ≤ 132 := by
  obtain ⟨i, hi⟩ : ∃ i : Nat, a - 1 = i := ⟨(a - 1).toNat, by omega⟩
  rw [hi]
  have h3 : i * k ≤ 11 * 12 := Nat.mul_le_mul (by omega) hk
  have h4 : ((i * k : Nat) : Int) = (i : Int) * k := Int.natCast_mul i k
  omega
theorem mul_ne {a b c : Int} {k : Nat} (h : a ≠ b) (hk : 1 ≤ k) : (a - 1) * (k : Int) + c ≠ (b - 1) * k + c := by
  intro e
  have h1 : (a - 1) * (k : Int) = (b - 1) * k := by omega
  have h2 := Int.eq_of_mul_eq_mul_right (show (k : Int) ≠ 0 by omega) h1
  omega
theorem colP_dist {n : Int} {k : Nat} {e : Int × Int} {c : Int} (h : edgeV n e = true) (hn : n ≤ 12) (hk : 1 ≤ k ∧ k ≤ 12) (hc : 1 ≤ c ∧ c ≤ k) : DistS 1000 (colP k e c) := by
  obtain ⟨h1, h2, h3⟩ := edgeV_iff.1 h
  have b1 := mul_box h1.1 (by omega) hk.2
  have b2 := mul_box h2.1 (by omega) hk.2
  have hne := mul_ne (c := c) h3 hk.1
  unfold colP
  generalize (e.1 - 1) * (k : Int) = x at *
  generalize (e.2 - 1) * (k : Int) = y at *
  have l1 : LitS (-(x + c)) := by unfold LitS; omega
  have l2 : LitS (-(y + c)) := by unfold LitS; omega
  have a1 : absV (-(x + c)) = x + c := by rw [LitS.abs l1, if_pos (by omega)]; omega
  have a2 : absV (-(y + c)) = y + c := by rw [LitS.abs l2, if_pos (by omega)]; omega
  refine ⟨fun l hl => ?_, ?_⟩
  · simp only [List.mem_cons, List.mem_nil_iff, or_false] at hl
    rcases hl with rfl | rfl
    · exact ⟨l1, by rw [a1]; omega⟩
    · exact ⟨l2, by rw [a2]; omega⟩
  · simp only [List.pairwise_cons, List.mem_singleton, forall_eq, List.mem_nil_iff, false_implies, implies_true, List.Pairwise.nil, and_true]
    rw [a1, a2]; exact hne
/-- Whether the edges are as they may be, and what a coloring gives. -/
def colB (n k : Nat) (es : List (Int × Int)) : Bool := es.all (edgeV n) && goodB (n * k) (colL n k es es.length)
def colV (n k : Nat) (es : List (Int × Int)) : Int := if colB n k es then (n : Int) * k else 0
def colY (n k : Nat) (es : List (Int × Int)) : List (List Int) := if colB n k es then colL n k es es.length else []
/-- Edges as they lie. -/
structure EdgesAt (w : World) (A : Option Addr) (es : List (Int × Int)) : Prop where
  at_ : ∀ j (hj : j < es.length), ∃ b off, A = some ⟨b, off, none⟩ ∧ w.cell? ⟨b, off + j * 2, none⟩ = some (.int .i64 es[j].1) ∧ w.cell? ⟨b, off + j * 2 + 1, none⟩ = some (.int .i64 es[j].2)
  ok : ∀ e ∈ es, I64 e.1 ∧ I64 e.2
theorem EdgesAt.grow {w w' : World} {A : Option Addr} {es : List (Int × Int)} (h : EdgesAt w A es) (hb : Below w.heap.size w w') : EdgesAt w' A es := by
  refine ⟨fun j hj => ?_, h.ok⟩
  obtain ⟨b, off, e, h1, h2⟩ := h.at_ j hj
  exact ⟨b, off, e, (hb.cell (World.block_lt_of_cell? _ _ h1)).trans h1, (hb.cell (World.block_lt_of_cell? _ _ h2)).trans h2⟩
end Go.Proofs.Yteabiokhbaekpaa

/- Contracts: the draws of FnSeeded. -/
namespace Go.Proofs.Yteabiokhbaekpaa
open Go.RowKit

section
variable {w0 w w' w1 : World} {g cl cc A A' : Nat} {ca : Option Addr} {ps qs : List Asn}
theorem seCur_new (hc : CodeOk w ca cl) (hs : cl ≤ 65536) : CurIs 0 w.heap.size ca cl cc (w.alloc (.cells #[.slice ca cl cc, .int .i64 0, .int .u64 0] 60)) :=
  (((Sp.start w).new (q := CurA 0 w.heap.size ca cl cc) (bal (bb _) (.cells #[.slice ca cl cc, .int .i64 0, .int .u64 0] 60)) (F := [w.heap.size]) ⟨rfl, 0, 0, heap_alloc_new w _, Nat.le_refl 0, Int.le_refl 0, by omega⟩ (by simp)).cur (A' := 0) (i := 0) rfl hc hs).1
theorem seCs_sp {w w1 w' : World} {g cl cc A : Nat} {ca : Option Addr} {ps : List Asn} (h : CS w1 g ca cl cc A w' ps) (hb : Below w.heap.size w w1) (hg : w.heap.size ≤ g) : Sp w w' ps := by
  have hc := h.chg
  obtain ⟨_, _, _, F, h3, h4⟩ := h
  exact ⟨hb.trans (hc.below hb.size (by simpa using hg)), F, h3, fun b hm => Nat.le_trans hb.size (h4 b hm)⟩
/-- One of some numbers. -/
theorem among_cs {lo hi : Int} (xs : List Int) (S : CS w0 g ca cl cc A w ps) (hA : A ≤ 100000) (h0 : 0 < xs.length) (h1 : xs.length ≤ 1000) (hx : ∀ x ∈ xs, lo ≤ x ∧ x ≤ hi) :
    Calls Try.prog 55 #[.pointer (some ⟨g, 0, none⟩), .slice (some ⟨w.heap.size, 0, none⟩) xs.length xs.length] (w.alloc (.cells (xs.map (Value.int .i64)).toArray 3))
      fun e w' => ∃ x : Int, (lo ≤ x ∧ x ≤ hi) ∧ e = .returned (.int .i64 x) ∧ CS w0 g ca cl cc (A + 2) w' ps := by
  have hg := S.cur.lt
  refine (cur_among lo hi w.heap.size 0 xs.length xs.length A g ca cl cc _ (S.cur.grow (bal (bb _) _)) (by omega) h0 (by omega) (ints_new rfl fun j hj => ⟨xs[j], by simp [List.getElem?_eq_getElem hj], (hx _ (List.getElem_mem hj)).1, (hx _ (List.getElem_mem hj)).2⟩) (by omega)).mono ?_
  rintro e w1 ⟨_, ⟨n, hn0, hn1, rfl⟩, rfl, hi1, hc1⟩
  exact ⟨n, ⟨hn0, hn1⟩, rfl, (S.alloc _).turn hi1 hc1⟩
end
/- left out: the seat has no spec.l1Most -/

/- left out: the seat has no spec.DrawSeededCnf -/
end Go.Proofs.Yteabiokhbaekpaa

/- Plain: the models of at most and at least. -/
namespace Go.Proofs.Yteabiokhbaekpaa
open Go.RowKit

theorem combs_mem {m : Nat} : ∀ (k a : Nat) (l : List Nat), l.Pairwise (· < ·) → (∀ i ∈ l, a ≤ i ∧ i < m) → l.length = k → l ∈ combs m k a
  | 0, a, l, _, _, h => by
    obtain rfl := List.length_eq_zero_iff.1 h
    simp [combs]
  | k + 1, a, [], _, _, h => by simp at h
  | k + 1, a, v :: t, hp, hr, h => by
    rw [List.pairwise_cons] at hp
    have hv := hr v List.mem_cons_self
    unfold combs
    refine List.mem_flatMap.2 ⟨v, List.mem_range'_1.2 ⟨hv.1, by omega⟩, List.mem_map.2 ⟨t, combs_mem k (v + 1) t hp.2 (fun i hi => ⟨hp.1 i hi, (hr i (List.mem_cons_of_mem _ hi)).2⟩) (by simpa using h), rfl⟩⟩
theorem combs_hit {n d : Nat} (p : Nat → Bool) : (∀ l ∈ combs (n + 1) d 1, ∃ i ∈ l, p i = false) ↔ ((List.range' 1 n).filter p).length < d := by
  constructor
  · intro h
    rcases Nat.lt_or_ge ((List.range' 1 n).filter p).length d with h1 | h1
    · exact h1
    exfalso
    have hsub : (((List.range' 1 n).filter p).take d).Sublist (List.range' 1 n) := (List.take_sublist _ _).trans List.filter_sublist
    obtain ⟨i, hi, h2⟩ := h (((List.range' 1 n).filter p).take d) (combs_mem d 1 _ ((List.pairwise_lt_range' (s := 1) (n := n)).sublist hsub) (fun i hi => by
      have := List.mem_range'_1.1 (hsub.subset hi); omega) (by rw [List.length_take]; omega))
    have := (List.mem_filter.1 (List.mem_of_mem_take hi)).2
    rw [h2] at this; cases this
  · intro h l hl
    obtain ⟨h1, h2, h3⟩ := combs_asc d 1 l hl
    by_cases hno : ∃ i ∈ l, p i = false
    · exact hno
    exfalso
    have hsub : ∀ i ∈ l, i ∈ (List.range' 1 n).filter p := fun i hi => List.mem_filter.2 ⟨List.mem_range'_1.2 (by have := h2 i hi; omega), by
      cases e : p i
      · exact absurd ⟨i, hi, e⟩ hno
      · rfl⟩
    have := List.Nodup.length_le_of_subset (h1.imp fun h => Nat.ne_of_lt h) hsub
    omega
/-- The number of variables that are true. -/
def popW (n b : Nat) : Nat := ((List.range' 1 n).filter fun i => b.testBit (i - 1)).length
theorem popW_le (n b : Nat) : popW n b ≤ n := by
  have := List.length_filter_le (fun i => b.testBit (i - 1)) (List.range' 1 n)
  unfold popW; simpa using this
theorem popW_off (n b : Nat) : ((List.range' 1 n).filter fun i => !(b.testBit (i - 1))).length = n - popW n b := by
  have h := List.length_eq_countP_add_countP (fun i => b.testBit (i - 1)) (l := List.range' 1 n)
  unfold popW
  rw [← List.countP_eq_length_filter, ← List.countP_eq_length_filter]
  simp only [List.length_range'] at h
  have e : List.countP (fun i => !(b.testBit (i - 1))) (List.range' 1 n) = List.countP (fun a => decide ¬ (b.testBit (a - 1)) = true) (List.range' 1 n) := by
    congr 1; funext i; cases b.testBit (i - 1) <;> rfl
  omega
theorem clT_neg {l : List Nat} (h : ∀ i ∈ l, 1 ≤ i) (b : Nat) : clT (sgC (-1) (ofN l)) b = true ↔ ∃ i ∈ l, b.testBit (i - 1) = false := by
  unfold clT sgC ofN
  rw [List.any_eq_true]
  constructor
  · rintro ⟨x, hx, h2⟩
    rw [List.map_map, List.mem_map] at hx
    obtain ⟨i, hi, rfl⟩ := hx
    have := h i hi
    refine ⟨i, hi, ?_⟩
    simp only [Function.comp, litT] at h2
    rw [show decide (0 < -1 * (i : Int)) = false from decide_eq_false (by omega), show (-1 * (i : Int)).natAbs = i by omega] at h2
    simpa using h2
  · rintro ⟨i, hi, h2⟩
    have := h i hi
    refine ⟨-1 * (i : Int), by rw [List.map_map]; exact List.mem_map.2 ⟨i, hi, rfl⟩, ?_⟩
    unfold litT
    rw [show decide (0 < -1 * (i : Int)) = false from decide_eq_false (by omega), show (-1 * (i : Int)).natAbs = i by omega, h2]; rfl
theorem clT_pos {l : List Nat} (h : ∀ i ∈ l, 1 ≤ i) (b : Nat) : clT (ofN l) b = true ↔ ∃ i ∈ l, (!(b.testBit (i - 1))) = false := by
  unfold clT ofN
  rw [List.any_eq_true]
  constructor
  · rintro ⟨x, hx, h2⟩
    obtain ⟨i, hi, rfl⟩ := List.mem_map.1 hx
    have := h i hi
    refine ⟨i, hi, ?_⟩
    simp only [litT] at h2
    rw [show decide (0 < (i : Int)) = true from decide_eq_true (by omega), show ((i : Int)).natAbs = i by omega] at h2
    simpa using h2
  · rintro ⟨i, hi, h2⟩
    have := h i hi
    refine ⟨(i : Int), List.mem_map.2 ⟨i, hi, rfl⟩, ?_⟩
    unfold litT
    rw [show decide (0 < (i : Int)) = true from decide_eq_true (by omega), show ((i : Int)).natAbs = i by omega]
    simpa using h2
theorem mod_most {n d b : Nat} : modT ((goL (n + 1) [] d 1).map (sgC (-1))) b = true ↔ popW n b < d := by
  unfold modT popW
  rw [← combs_hit, List.all_eq_true]
  unfold goL
  constructor
  · intro h l hl
    exact (clT_neg (fun i hi => ((combs_asc d 1 l hl).2.1 i hi).1) b).1 (h _ (by rw [List.map_map]; exact List.mem_map.2 ⟨l, hl, by simp⟩))
  · intro h c hc
    rw [List.map_map, List.mem_map] at hc
    obtain ⟨l, hl, rfl⟩ := hc
    have := (clT_neg (fun i hi => ((combs_asc d 1 l hl).2.1 i hi).1) b).2 (h l hl)
    simpa using this
theorem mod_least {n d b : Nat} : modT (goL (n + 1) [] d 1) b = true ↔ n - popW n b < d := by
  rw [← popW_off]
  unfold modT
  rw [← combs_hit, List.all_eq_true]
  unfold goL
  constructor
  · intro h l hl
    exact (clT_pos (fun i hi => ((combs_asc d 1 l hl).2.1 i hi).1) b).1 (h _ (List.mem_map.2 ⟨l, hl, by simp⟩))
  · intro h c hc
    obtain ⟨l, hl, rfl⟩ := List.mem_map.1 hc
    have := (clT_pos (fun i hi => ((combs_asc d 1 l hl).2.1 i hi).1) b).2 (h l hl)
    simpa using this
theorem chL_full {n d : Nat} (h : (chL n d).length ≤ 60) : chL n d = goL (n + 1) [] d 1 := by
  unfold chL capL at h ⊢
  rw [List.length_take] at h
  exact List.take_of_length_le (by omega)
/-- At most k and at least k: just k. -/
theorem mod_both {n k b : Nat} (h1 : (mostL n k).length ≤ 60) (h2 : (leastL n k).length ≤ 60) : modT (mostL n k ++ leastL n k) b = decide (popW n b = k) := by
  have hm : modT (mostL n k) b = decide (popW n b ≤ k) := by
    unfold mostL at h1 ⊢
    rw [List.length_map] at h1
    rw [chL_full h1, Bool.eq_iff_iff, mod_most, decide_eq_true_eq]
    omega
  have hl : modT (leastL n k) b = decide (k ≤ popW n b) := by
    have hp := popW_le n b
    unfold leastL at h2 ⊢
    split
    · rename_i e; subst e; simp [modT]
    · rename_i e
      rw [if_neg e] at h2
      rw [chL_full h2, Bool.eq_iff_iff, mod_least, decide_eq_true_eq]
      omega
  show (mostL n k ++ leastL n k).all (fun c => clT c b) = _
  rw [List.all_append]
  show (modT (mostL n k) b && modT (leastL n k) b) = _
  rw [hm, hl, Bool.eq_iff_iff, Bool.and_eq_true, decide_eq_true_eq, decide_eq_true_eq, decide_eq_true_eq]
  omega
theorem cnt_split (p : Nat → Bool) (a : Nat) : ∀ c, cntP p (a + c) = cntP p a + cntP (fun i => p (a + i)) c
  | 0 => by simp [cntP]
  | c + 1 => by
    have ih := cnt_split p a c
    rw [show a + (c + 1) = (a + c) + 1 from rfl]
    cases e : p (a + c)
    · rw [cntP_no e, cntP_no (p := fun i => p (a + i)) e, ih]
    · rw [cntP_yes e, cntP_yes (p := fun i => p (a + i)) e, ih]; omega
theorem cntW_congr {p q : Nat → Bool} {N : Nat} (h : ∀ b, b < N → p b = q b) : cntP p N = cntP q N := by
  unfold cntP
  rw [List.filter_congr fun b hb => h b (List.mem_range.1 hb)]
theorem popW_low {n b : Nat} (h : b < 2 ^ n) : popW (n + 1) b = popW n b := by
  unfold popW
  rw [List.range'_concat, List.filter_append]
  simp [Nat.testBit_lt_two_pow h]
theorem popW_high {n b : Nat} (h : b < 2 ^ n) : popW (n + 1) (2 ^ n + b) = popW n b + 1 := by
  unfold popW
  rw [List.range'_concat, List.filter_append, List.length_append]
  have h1 : (2 ^ n + b).testBit n = true := by
    rw [Nat.testBit_two_pow_add_eq, Nat.testBit_lt_two_pow h]; rfl
  congr 1
  · congr 1
    apply List.filter_congr
    intro i hi
    have := List.mem_range'_1.1 hi
    rw [Nat.testBit_two_pow_add_gt (by omega)]
  · simp [h1]
/-- The number of choices. -/
def binN : Nat → Nat → Nat
  | _, 0 => 1
  | 0, _ + 1 => 0
  | n + 1, k + 1 => binN n (k + 1) + binN n k
theorem cnt_bin : ∀ (n k : Nat), cntP (fun b => decide (popW n b = k)) (2 ^ n) = binN n k
  | 0, 0 => by decide
  | 0, k + 1 => by
    unfold binN cntP popW
    simp
  | n + 1, k => by
    rw [show 2 ^ (n + 1) = 2 ^ n + 2 ^ n by rw [Nat.pow_succ]; omega, cnt_split,
      cntW_congr (q := fun b => decide (popW n b = k)) (fun b hb => by rw [popW_low hb]),
      cntW_congr (p := fun i => decide (popW (n + 1) (2 ^ n + i) = k)) (q := fun b => decide (popW n b + 1 = k)) (fun b hb => by rw [popW_high hb]), cnt_bin n k]
    cases k with
    | zero =>
      have : cntP (fun b => decide (popW n b + 1 = 0)) (2 ^ n) = 0 := by simp [cntP]
      rw [this]
      cases n <;> simp [binN]
    | succ k =>
      have : cntP (fun b => decide (popW n b + 1 = k + 1)) (2 ^ n) = binN n k := by
        rw [← cnt_bin n k]
        apply cntW_congr
        intro b _
        simp
      rw [this, binN]
/-- What the loop of the law reckons. -/
def chsI (n : Int) : Nat → Int
  | 0 => 1
  | i + 1 => (chsI n i * (n - i)).tdiv (i + 1)
theorem chs_bin : ∀ n : Nat, n < 13 → ∀ k : Nat, k < 13 → k ≤ n → chsI (n : Int) k = (binN n k : Int) := by decide
theorem bin_over : ∀ (n k : Nat), n < k → binN n k = 0
  | 0, k + 1, _ => rfl
  | n + 1, k + 1, h => by rw [binN, bin_over n (k + 1) (by omega), bin_over n k (by omega)]
theorem chs_small : ∀ n : Nat, n < 13 → ∀ k : Nat, k < 13 → -100000 ≤ chsI (n : Int) k ∧ chsI (n : Int) k ≤ 100000 := by decide
end Go.Proofs.Yteabiokhbaekpaa

/- Contract: clauses for all choices, in the reference. -/
namespace Go.Proofs.Yteabiokhbaekpaa
open Go.RowKit

/-- The clauses of the choices that begin so. -/
def gsL (s : Int) (n : Nat) (xs : List Nat) (d a : Nat) : List (List Int) := (goL (n + 1) xs d a).map (sgC s)
def ssL (s : Int) (n : Nat) (xs : List Nat) (d a v : Nat) : List (List Int) := (soL (n + 1) xs d a v).map (sgC s)
theorem gsL_zero (s : Int) (n : Nat) (xs : List Nat) (a : Nat) : gsL s n xs 0 a = [sgC s (ofN xs)] := by unfold gsL; rw [goL_zero]; rfl
theorem gsL_succ (s : Int) (n : Nat) (xs : List Nat) (d a : Nat) : gsL s n xs (d + 1) a = ssL s n xs d a (n + 1) := by unfold gsL ssL; rw [soL_all]
theorem ssL_start (s : Int) (n : Nat) (xs : List Nat) (d a : Nat) : ssL s n xs d a a = [] := by unfold ssL; rw [soL_start]; rfl
theorem ssL_next {s : Int} {n : Nat} {xs : List Nat} {d a v : Nat} (h : a ≤ v) : ssL s n xs d a (v + 1) = ssL s n xs d a v ++ gsL s n (xs ++ [v]) d (v + 1) := by
  unfold ssL gsL; rw [soL_next h, List.map_append]
theorem ssL_pre {s : Int} {n : Nat} {xs : List Nat} {d a v : Nat} (h : a ≤ v) (h2 : v ≤ n + 1) : ∃ Y, ssL s n xs d a (n + 1) = ssL s n xs d a v ++ Y := by
  obtain ⟨k, hk⟩ : ∃ k, n + 1 = v + k := ⟨n + 1 - v, by omega⟩
  have key : ∀ k, ∃ Y, ssL s n xs d a (v + k) = ssL s n xs d a v ++ Y := by
    intro k
    induction k with
    | zero => exact ⟨[], by simp⟩
    | succ k ih =>
      obtain ⟨Y, hY⟩ := ih
      exact ⟨Y ++ gsL s n (xs ++ [v + k]) d (v + k + 1), by rw [← Nat.add_assoc, ssL_next (by omega), hY, List.append_assoc]⟩
  rw [hk]; exact key k
/-- The chosen ones, as an own row. -/
abbrev Cho (s : Int) (A : Option Addr) (c : Nat) (xs : List Nat) : Asn := Own 3 1 (.slice A xs.length c) xs.length ((sgC s (ofN xs)).map (.int .i64))
theorem cho_len (s : Int) (xs : List Nat) : (sgC s (ofN xs)).length = xs.length := by simp [sgC, ofN]
theorem cho_good {s : Int} (hs : s = 1 ∨ s = -1) {n : Nat} (hn : n ≤ 12) {xs : List Nat} (h : AscN (n + 1) xs) (h1 : ∀ i ∈ xs, 1 ≤ i) : GoodS (sgC s (ofN xs)) := by
  have hm : ofN xs ∈ goL (n + 1) [] xs.length 1 := by
    unfold goL
    exact List.mem_map.2 ⟨xs, asc_combs xs 1 h.1 (fun i hi => ⟨h1 i hi, h.2 i hi⟩), by simp⟩
  exact (goL_good hn hs hm).1
theorem cho_ints {s : Int} {w0 w : World} {ps : List Asn} {i : Nat} {A : Option Addr} {c : Nat} {xs : List Nat} (h : Sp w0 w ps) (hi : ps[i]? = some (Cho s A c xs)) (hg : GoodS (sgC s (ofN xs))) : IntsAt w A (sgC s (ofN xs)) := by
  refine h.ints (i := i) (c := c) (e := 3) ?_ (fun x hx => (hg.mem x hx).i64)
  rw [cho_len]; exact hi

/- left out: the seat has no spec.l4Choose -/
end Go.Proofs.Yteabiokhbaekpaa

/- Contract: clauses for all choices, in the reference, at every depth. -/
namespace Go.Proofs.Yteabiokhbaekpaa
open Go.RowKit

/- left out: the seat has no spec.l4Choose -/
end Go.Proofs.Yteabiokhbaekpaa

/- Contracts: at most and at least, in the reference. -/
namespace Go.Proofs.Yteabiokhbaekpaa
open Go.RowKit

theorem most_gs (n k : Nat) : capL 60 ([] ++ gsL (-1) n [] (k + 1) 1) = mostL n k := by
  unfold mostL chL gsL capL; rw [List.nil_append, List.map_take]
theorem least_gs {n k : Nat} (h : 0 < k) : capL 60 ([] ++ gsL 1 n [] (n + 1 - k) 1) = leastL n k := by
  rw [leastL_mid h]; unfold chL gsL capL
  rw [List.nil_append, ← List.map_take]
  conv => rhs; rw [← List.map_id (List.take (60 + 1) (goL (n + 1) [] (n + 1 - k) 1))]
  exact List.map_congr_left fun c _ => sgC_one c
theorem good_none {n : Nat} (hn : n ≤ 12) : goodB n [] = true := by
  have h : inB (n : Int) 0 12 = true := inB_true.2 ⟨by omega, by omega⟩
  unfold goodB; rw [h]; rfl

/- left out: the seat has no spec.AtMostCnf -/

/- left out: the seat has no spec.AtLeastCnf -/

/- left out: the seat has no spec.AtMostCnf -/
end Go.Proofs.Yteabiokhbaekpaa

/- Plain facts: diagrams, their values, and the plan of values. No program in sight. -/
namespace Go.Proofs.Yteabiokhbaekpaa

/-- A node: variable, low, high. -/
structure Nd where
  v : Int
  lo : Int
  hi : Int
  deriving DecidableEq

/-- The value of a number, where the nodes have these values. -/
def pv (acc : List Bool) (k : Int) : Bool := if k < 2 then decide (k = 1) else acc.getD (k - 2).toNat false
def bitN (bits : Nat) (v : Int) : Bool := bits.testBit (v - 1).toNat
def kid (bits : Nat) (n : Nd) : Int := if bitN bits n.v then n.hi else n.lo
/-- The values of all nodes. -/
def valsN (bits : Nat) (ns : List Nd) : List Bool := ns.foldl (fun acc n => acc ++ [pv acc (kid bits n)]) []
def valD (r : Int) (ns : List Nd) (bits : Nat) : Bool := pv (valsN bits ns) r

theorem vals_snoc (bits : Nat) (ns : List Nd) (n : Nd) : valsN bits (ns ++ [n]) = valsN bits ns ++ [pv (valsN bits ns) (kid bits n)] := by
  simp [valsN]
theorem foldl_vals_len (bits : Nat) (ns : List Nd) : ∀ acc : List Bool, (ns.foldl (fun acc n => acc ++ [pv acc (kid bits n)]) acc).length = acc.length + ns.length := by
  induction ns with
  | nil => intro acc; rfl
  | cons n ns ih => intro acc; simp only [List.foldl_cons]; rw [ih]; simp; omega
theorem vals_len (bits : Nat) (ns : List Nd) : (valsN bits ns).length = ns.length := by
  unfold valsN; rw [foldl_vals_len]; simp
theorem foldl_vals_pre (bits : Nat) (ns : List Nd) : ∀ acc : List Bool, ∃ l, ns.foldl (fun acc n => acc ++ [pv acc (kid bits n)]) acc = acc ++ l := by
  induction ns with
  | nil => intro acc; exact ⟨[], by simp⟩
  | cons n ns ih =>
    intro acc
    obtain ⟨l, hl⟩ := ih (acc ++ [pv acc (kid bits n)])
    exact ⟨pv acc (kid bits n) :: l, by simp only [List.foldl_cons]; rw [hl]; simp⟩
theorem vals_pre (bits : Nat) (ns ms : List Nd) : ∃ l, valsN bits (ns ++ ms) = valsN bits ns ++ l := by
  unfold valsN
  rw [List.foldl_append]
  exact foldl_vals_pre bits ms _
theorem pv_bool (acc : List Bool) (x : Bool) : pv acc (if x then 1 else 0) = x := by cases x <;> simp [pv]
theorem pv_pre {acc l : List Bool} {k : Int} (h : k ≤ acc.length + 1) : pv (acc ++ l) k = pv acc k := by
  unfold pv
  by_cases h2 : k < 2
  · rw [if_pos h2, if_pos h2]
  · rw [if_neg h2, if_neg h2, List.getD_eq_getElem?_getD, List.getD_eq_getElem?_getD, List.getElem?_append_left (by omega)]
theorem valD_pre {r : Int} {ns ms : List Nd} {bits : Nat} (h : r ≤ ns.length + 1) : valD r (ns ++ ms) bits = valD r ns bits := by
  obtain ⟨l, hl⟩ := vals_pre bits ns ms
  unfold valD
  rw [hl, pv_pre (by rw [vals_len]; omega)]
/-- The value of a node is that of its kid. -/
theorem vals_at {ns : List Nd} {i : Nat} (hi : i < ns.length) (bits : Nat) (h : kid bits ns[i] ≤ i + 1) : valD ((i : Int) + 2) ns bits = valD (kid bits ns[i]) ns bits := by
  have h1 : ns = ns.take i ++ (ns[i] :: ns.drop (i + 1)) := by rw [List.getElem_cons_drop, List.take_append_drop]
  have h2 : ns = (ns.take i ++ [ns[i]]) ++ ns.drop (i + 1) := by rw [List.append_assoc]; exact h1
  have hl : (ns.take i).length = i := by rw [List.length_take]; omega
  have e1 : valD ((i : Int) + 2) ns bits = valD ((i : Int) + 2) (ns.take i ++ [ns[i]]) bits := by
    conv => lhs; rw [h2]
    exact valD_pre (by rw [List.length_append, hl]; simp; omega)
  have e2 : valD (kid bits ns[i]) ns bits = valD (kid bits ns[i]) (ns.take i) bits := by
    conv => lhs; arg 2; rw [h1]
    exact valD_pre (by rw [hl]; omega)
  rw [e1, e2]
  unfold valD
  rw [vals_snoc]
  unfold pv
  rw [if_neg (by omega), List.getD_eq_getElem?_getD, show ((i : Int) + 2 - 2).toNat = i by omega, List.getElem?_append_right (by rw [vals_len, hl]; omega), vals_len, hl]
  simp

/-- Whether node i is valid. -/
def under (ns : List Nd) (v k : Int) : Bool := decide (k < 2) || decide (v < (ns.getD (k - 2).toNat ⟨0, 0, 0⟩).v)
def ndB (vars : Int) (ns : List Nd) (i : Nat) : Bool :=
  let n := ns.getD i ⟨0, 0, 0⟩
  inB n.v 1 vars && inB n.lo 0 (i + 1) && inB n.hi 0 (i + 1) && under ns n.v n.lo && under ns n.v n.hi
def ndsB (vars : Int) (ns : List Nd) (k : Nat) : Bool := (List.range k).all (ndB vars ns)
def goodD (vars r : Int) (ns : List Nd) : Bool := inB vars 0 6 && decide (ns.length ≤ 63) && inB r 0 (ns.length + 1) && ndsB vars ns ns.length
theorem ndsB_succ (vars : Int) (ns : List Nd) (k : Nat) : ndsB vars ns (k + 1) = (ndsB vars ns k && ndB vars ns k) := by simp [ndsB, List.range_succ]

/-- All nodes are valid. -/
def OkN (vars : Int) (ns : List Nd) : Prop := ∀ i, i < ns.length → ndB vars ns i = true
theorem ndsB_ok {vars : Int} {ns : List Nd} : ndsB vars ns ns.length = true ↔ OkN vars ns := by
  simp [ndsB, OkN]
theorem inB_def {x a b : Int} : inB x a b = true ↔ a ≤ x ∧ x ≤ b := by simp [inB]
theorem ndB_get {vars : Int} {ns : List Nd} {i : Nat} (hi : i < ns.length) : ndB vars ns i = true ↔
    ((1 ≤ ns[i].v ∧ ns[i].v ≤ vars) ∧ (0 ≤ ns[i].lo ∧ ns[i].lo ≤ i + 1) ∧ (0 ≤ ns[i].hi ∧ ns[i].hi ≤ i + 1) ∧ under ns ns[i].v ns[i].lo = true ∧ under ns ns[i].v ns[i].hi = true) := by
  unfold ndB
  rw [List.getD_eq_getElem?_getD, List.getElem?_eq_getElem hi]
  simp only [Option.getD_some, Bool.and_eq_true, inB_def, and_assoc]
theorem kid_le {vars : Int} {ns : List Nd} (h : OkN vars ns) {i : Nat} (hi : i < ns.length) (bits : Nat) : 0 ≤ kid bits ns[i] ∧ kid bits ns[i] ≤ i + 1 := by
  obtain ⟨_, h2, h3, _⟩ := (ndB_get hi).1 (h i hi)
  unfold kid
  split
  · exact h3
  · exact h2
theorem under_pre {ns ms : List Nd} {v k : Int} (h : k ≤ ns.length + 1) : under (ns ++ ms) v k = under ns v k := by
  unfold under
  by_cases h2 : k < 2
  · simp [h2]
  · rw [List.getD_eq_getElem?_getD, List.getD_eq_getElem?_getD, List.getElem?_append_left (by omega)]
theorem OkN.snoc {vars : Int} {ns : List Nd} {n : Nd} (h : OkN vars ns) (hv : 1 ≤ n.v ∧ n.v ≤ vars) (hl : 0 ≤ n.lo ∧ n.lo ≤ ns.length + 1) (hh : 0 ≤ n.hi ∧ n.hi ≤ ns.length + 1)
    (ul : under ns n.v n.lo = true) (uh : under ns n.v n.hi = true) : OkN vars (ns ++ [n]) := by
  intro i hi
  rw [ndB_get hi]
  rw [List.length_append, List.length_singleton] at hi
  by_cases hlt : i < ns.length
  · obtain ⟨h1, h2, h3, h4, h5⟩ := (ndB_get hlt).1 (h i hlt)
    rw [List.getElem_append_left hlt]
    exact ⟨h1, h2, h3, by rw [under_pre (by omega)]; exact h4, by rw [under_pre (by omega)]; exact h5⟩
  · obtain rfl : i = ns.length := by omega
    simp only [List.getElem_concat_length]
    exact ⟨hv, hl, hh, by rw [under_pre hl.2]; exact ul, by rw [under_pre hh.2]; exact uh⟩

/-- A node that is put there, unless it is there. -/
def addN (ns : List Nd) (n : Nd) : List Nd × Int := if n ∈ ns then (ns, (ns.idxOf n : Nat) + 2) else (ns ++ [n], (ns.length : Nat) + 2)
/-- The plan of values, for the last k variables. -/
def planF (f : Nat → Bool) : Nat → Nat → Nat → List Nd → List Nd × Int
  | 0, _, bits, ns => (ns, if f bits then 1 else 0)
  | k + 1, v, bits, ns =>
    if (planF f k (v + 1) bits ns).2 = (planF f k (v + 1) (bits + 2 ^ (v - 1)) (planF f k (v + 1) bits ns).1).2 then ((planF f k (v + 1) (bits + 2 ^ (v - 1)) (planF f k (v + 1) bits ns).1).1, (planF f k (v + 1) bits ns).2)
    else addN (planF f k (v + 1) (bits + 2 ^ (v - 1)) (planF f k (v + 1) bits ns).1).1 ⟨v, (planF f k (v + 1) bits ns).2, (planF f k (v + 1) (bits + 2 ^ (v - 1)) (planF f k (v + 1) bits ns).1).2⟩
def dgR (vars : Nat) (f : Nat → Bool) : Int := (planF f vars 1 0 []).2
def dgN (vars : Nat) (f : Nat → Bool) : List Nd := (planF f vars 1 0 []).1

theorem testBit_mod (b v : Nat) (hv : 1 ≤ v) : b % 2 ^ v = b % 2 ^ (v - 1) + (if b.testBit (v - 1) then 2 ^ (v - 1) else 0) := by
  obtain ⟨u, rfl⟩ : ∃ u, v = u + 1 := ⟨v - 1, by omega⟩
  rw [Nat.add_sub_cancel, Nat.mod_pow_succ]
  have : b.testBit u = decide (b / 2 ^ u % 2 = 1) := by
    rw [Nat.testBit_eq_decide_div_mod_eq]
  rw [this]
  rcases Nat.mod_two_eq_zero_or_one (b / 2 ^ u) with h | h
  · rw [h]; simp
  · rw [h]; simp

/-- What the plan has made. -/
structure Made (vars v bits k : Nat) (f : Nat → Bool) (ns : List Nd) (ns' : List Nd) (r : Int) : Prop where
  pre : ∃ ms, ns' = ns ++ ms
  ok : OkN vars ns'
  len : ns'.length + 1 ≤ ns.length + 2 ^ k
  r0 : 0 ≤ r
  r1 : r ≤ ns'.length + 1
  up : ∀ u : Int, u < v → under ns' u r = true
  val : ∀ b, b < 2 ^ vars → b % 2 ^ (v - 1) = bits → valD r ns' b = f b

theorem plan_made (f : Nat → Bool) (vars : Nat) : ∀ (k v bits : Nat) (ns : List Nd), v + k = vars + 1 → 1 ≤ v → bits < 2 ^ (v - 1) → OkN vars ns → Made vars v bits k f ns (planF f k v bits ns).1 (planF f k v bits ns).2
  | 0, v, bits, ns, hk, hv, hb, hok => by
    obtain rfl : v = vars + 1 := by omega
    rw [Nat.add_sub_cancel] at hb
    refine ⟨⟨[], by simp [planF]⟩, hok, by simp [planF], ?_, ?_, ?_, ?_⟩
    · simp only [planF]; split <;> decide
    · simp only [planF]; split <;> omega
    · intro u _; simp only [planF, under]; split <;> simp
    · intro b hb2 he
      rw [Nat.add_sub_cancel, Nat.mod_eq_of_lt hb2] at he
      subst he
      exact pv_bool (valsN b ns) (f b)
  | k + 1, v, bits, ns, hk, hv, hb, hok => by
    have hp : 2 ^ (v + 1 - 1) = 2 ^ (v - 1) + 2 ^ (v - 1) := by
      rw [show v + 1 - 1 = (v - 1) + 1 by omega, Nat.pow_succ]; omega
    have m1 := plan_made f vars k (v + 1) bits ns (by omega) (by omega) (by omega) hok
    rw [planF]
    generalize hA : planF f k (v + 1) bits ns = A at m1 ⊢
    obtain ⟨ns1, lo⟩ := A
    have m2 := plan_made f vars k (v + 1) (bits + 2 ^ (v - 1)) ns1 (by omega) (by omega) (by omega) m1.ok
    generalize hB : planF f k (v + 1) (bits + 2 ^ (v - 1)) ns1 = B at m2 ⊢
    obtain ⟨ns2, hi⟩ := B
    clear hA hB
    dsimp only at m1 m2 ⊢
    obtain ⟨p1, hp1⟩ := m1.pre
    obtain ⟨p2, hp2⟩ := m2.pre
    have hlo1 : lo ≤ ns2.length + 1 := by
      have := m1.r1
      rw [hp2, List.length_append]; omega
    have hlen : ns2.length + 1 + 1 ≤ ns.length + 2 ^ (k + 1) := by
      have h1 := m1.len
      have h2 := m2.len
      rw [Nat.pow_succ]; omega
    have hvlo : ∀ b, valD lo ns2 b = valD lo ns1 b := fun b => by rw [hp2]; exact valD_pre m1.r1
    have hulo : ∀ u : Int, u < (v + 1 : Nat) → under ns2 u lo = true := fun u hu => by rw [hp2, under_pre m1.r1]; exact m1.up u hu
    have hval : ∀ b, b < 2 ^ vars → b % 2 ^ (v - 1) = bits → (if b.testBit (v - 1) then valD hi ns2 b else valD lo ns2 b) = f b := by
      intro b hb2 he
      have hm := testBit_mod b v hv
      rw [he] at hm
      cases ht : b.testBit (v - 1)
      · rw [ht] at hm
        simp only [Bool.false_eq_true, if_false, Nat.add_zero] at hm
        rw [if_neg (by simp), hvlo]
        exact m1.val b hb2 (by rw [Nat.add_sub_cancel]; exact hm)
      · rw [ht] at hm
        simp only [if_true] at hm
        rw [if_pos rfl]
        exact m2.val b hb2 (by rw [Nat.add_sub_cancel]; exact hm)
    by_cases e : lo = hi
    · rw [if_pos e]
      subst e
      refine ⟨⟨p1 ++ p2, by rw [← List.append_assoc, ← hp1]; exact hp2⟩, m2.ok, by dsimp only; omega, m2.r0, m2.r1, fun u hu => m2.up u (by omega), fun b hb2 he => ?_⟩
      have := hval b hb2 he
      rw [ite_self] at this
      exact this
    · rw [if_neg e]
      have hkid : ∀ b : Nat, kid b ⟨v, lo, hi⟩ = if b.testBit (v - 1) then hi else lo := fun b => by
        unfold kid bitN
        rw [show ((v : Int) - 1).toNat = v - 1 by omega]
      have hvk : ∀ b, b < 2 ^ vars → b % 2 ^ (v - 1) = bits → valD (kid b ⟨v, lo, hi⟩) ns2 b = f b := by
        intro b hb2 he
        rw [hkid, ← hval b hb2 he]
        split <;> rfl
      unfold addN
      by_cases hin : (⟨v, lo, hi⟩ : Nd) ∈ ns2
      · rw [if_pos hin]
        have hil := List.idxOf_lt_length_of_mem hin
        have hget : ns2[ns2.idxOf (⟨v, lo, hi⟩ : Nd)] = ⟨v, lo, hi⟩ := List.getElem_idxOf hil
        refine ⟨⟨p1 ++ p2, by rw [← List.append_assoc, ← hp1]; exact hp2⟩, m2.ok, by dsimp only; omega, by dsimp only; omega, by dsimp only; omega, fun u hu => ?_, fun b hb2 he => ?_⟩
        · unfold under
          rw [List.getD_eq_getElem?_getD, show (((ns2.idxOf (⟨v, lo, hi⟩ : Nd) : Nat) : Int) + 2 - 2).toNat = ns2.idxOf (⟨v, lo, hi⟩ : Nd) by omega, List.getElem?_eq_getElem hil, hget]
          simp only [Option.getD_some, Bool.or_eq_true, decide_eq_true_eq]
          omega
        · have hkl := (kid_le m2.ok hil b).2
          dsimp only
          rw [vals_at hil b hkl, hget]
          exact hvk b hb2 he
      · rw [if_neg hin]
        refine ⟨⟨p1 ++ p2 ++ [⟨v, lo, hi⟩], by dsimp only; rw [← List.append_assoc, ← List.append_assoc, ← hp1, ← hp2]⟩, ?_, by dsimp only; rw [List.length_append, List.length_singleton]; omega, by dsimp only; omega, by dsimp only; rw [List.length_append, List.length_singleton]; omega, fun u hu => ?_, fun b hb2 he => ?_⟩
        · refine m2.ok.snoc ⟨by dsimp only; omega, by dsimp only; omega⟩ ⟨m1.r0, hlo1⟩ ⟨m2.r0, m2.r1⟩ (hulo _ (by dsimp only; omega)) (m2.up _ (by dsimp only; omega))
        · unfold under
          rw [List.getD_eq_getElem?_getD, show ((ns2.length : Int) + 2 - 2).toNat = ns2.length by omega, List.getElem?_concat_length]
          simp only [Option.getD_some, Bool.or_eq_true, decide_eq_true_eq]
          omega
        · have hkl : kid b (⟨v, lo, hi⟩ : Nd) ≤ ns2.length + 1 := by
            rw [hkid]; split
            · exact m2.r1
            · exact hlo1
          have h3 := vals_at (ns := ns2 ++ [⟨v, lo, hi⟩]) (i := ns2.length) (by simp) b (by simpa using hkl)
          dsimp only
          rw [h3, List.getElem_concat_length rfl, valD_pre hkl]
          exact hvk b hb2 he

theorem plan_len (f : Nat → Bool) : ∀ (k v bits : Nat) (ns : List Nd), (planF f k v bits ns).1.length + 1 ≤ ns.length + 2 ^ k
  | 0, v, bits, ns => by simp [planF]
  | k + 1, v, bits, ns => by
    have h1 := plan_len f k (v + 1) bits ns
    rw [planF]
    generalize planF f k (v + 1) bits ns = A at h1 ⊢
    have h2 := plan_len f k (v + 1) (bits + 2 ^ (v - 1)) A.1
    generalize planF f k (v + 1) (bits + 2 ^ (v - 1)) A.1 = B at h2 ⊢
    rw [Nat.pow_succ]
    split
    · dsimp only; omega
    · unfold addN
      split
      · dsimp only; omega
      · simp only [List.length_append, List.length_singleton]; omega
theorem plan_congr {f g : Nat → Bool} (vars : Nat) (h : ∀ b, b < 2 ^ vars → f b = g b) : ∀ (k v bits : Nat) (ns : List Nd), v + k = vars + 1 → 1 ≤ v → bits < 2 ^ (v - 1) → planF f k v bits ns = planF g k v bits ns
  | 0, v, bits, ns, hk, hv, hb => by
    obtain rfl : v = vars + 1 := by omega
    rw [Nat.add_sub_cancel] at hb
    simp only [planF, h bits hb]
  | k + 1, v, bits, ns, hk, hv, hb => by
    have hp : 2 ^ (v + 1 - 1) = 2 ^ (v - 1) + 2 ^ (v - 1) := by
      rw [show v + 1 - 1 = (v - 1) + 1 by omega, Nat.pow_succ]; omega
    rw [planF, planF, plan_congr vars h k (v + 1) bits ns (by omega) (by omega) (by omega), plan_congr vars h k (v + 1) (bits + 2 ^ (v - 1)) _ (by omega) (by omega) (by omega)]

theorem dg_made (vars : Nat) (f : Nat → Bool) : Made vars 1 0 vars f [] (dgN vars f) (dgR vars f) :=
  plan_made f vars vars 1 0 [] (by omega) (by omega) (by decide) (fun i hi => by simp at hi)
theorem dg_val {vars : Nat} {f : Nat → Bool} {b : Nat} (h : b < 2 ^ vars) : valD (dgR vars f) (dgN vars f) b = f b :=
  (dg_made vars f).val b h (Nat.mod_one b)
theorem dg_len {vars : Nat} (f : Nat → Bool) (h : vars ≤ 6) : (dgN vars f).length ≤ 63 := by
  have h1 := (dg_made vars f).len
  have h2 : 2 ^ vars ≤ 2 ^ 6 := Nat.pow_le_pow_right (by decide) h
  simp at h1; omega
theorem dg_good {vars : Nat} (f : Nat → Bool) (h : vars ≤ 6) : goodD vars (dgR vars f) (dgN vars f) = true := by
  have hm := dg_made vars f
  unfold goodD
  rw [Bool.and_eq_true, Bool.and_eq_true, Bool.and_eq_true, inB_def, inB_def, decide_eq_true_eq, ndsB_ok]
  exact ⟨⟨⟨⟨by omega, by omega⟩, dg_len f h⟩, hm.r0, hm.r1⟩, hm.ok⟩
theorem dg_congr {vars : Nat} {f g : Nat → Bool} (h : ∀ b, b < 2 ^ vars → f b = g b) : dgN vars f = dgN vars g ∧ dgR vars f = dgR vars g := by
  unfold dgN dgR
  rw [plan_congr vars h vars 1 0 [] (by omega) (by omega) (by decide)]
  exact ⟨rfl, rfl⟩

/-- How often a value is true. -/
def cntB (vars : Nat) (f : Nat → Bool) : Nat := (List.range (2 ^ vars)).countP f
theorem cnt_congr {vars : Nat} {f g : Nat → Bool} (h : ∀ b, b < 2 ^ vars → f b = g b) : cntB vars f = cntB vars g := by
  unfold cntB
  exact List.countP_congr fun b hb => by rw [h b (List.mem_range.1 hb)]
theorem cnt_and_or (vars : Nat) (f g : Nat → Bool) : cntB vars f + cntB vars g = cntB vars (fun b => f b && g b) + cntB vars (fun b => f b || g b) := by
  unfold cntB
  induction List.range (2 ^ vars) with
  | nil => rfl
  | cons b l ih =>
    simp only [List.countP_cons]
    cases f b <;> cases g b <;> simp <;> omega
/-- Bits in which the variable of a literal is set such that the literal is true. -/
def setB (bits : Nat) (l : Int) : Nat := if 0 < l then bits ||| 2 ^ (l - 1).toNat else bits &&& (2 ^ 63 - 1 - 2 ^ (-l - 1).toNat)
end Go.Proofs.Yteabiokhbaekpaa

/- Memory facts: rows of flat elements that are made and then filled, element by element. No program in sight. -/
namespace Go.Proofs.Yteabiokhbaekpaa
open Go.RowKit

/-- The elements f 0, f 1, .. lie in block B, one behind the other, and may be written. -/
def FlatAt {α : Type} (enc : α → List Value) (n B len : Nat) (f : Nat → α) (w : World) : Prop := ∀ j, j < len → ∀ (i : Nat) (u : Value), (enc (f j))[i]? = some u → cellIs true w B (j * n + i) u

section
variable {α : Type} {enc : α → List Value} {n B len : Nat} {f : Nat → α} {w w' : World}
theorem FlatAt.grow (h : FlatAt enc n B len f w) (hb : Below w.heap.size w w') : FlatAt enc n B len f w' := fun j hj i u hu =>
  (h j hj i u hu).keep (hb.block B (h j hj i u hu).lt)
theorem FlatAt.mono {len' : Nat} {g : Nat → α} (h : FlatAt enc n B len f w) (hl : len' ≤ len) (hg : ∀ j, j < len' → g j = f j) : FlatAt enc n B len' g w := fun j hj i u hu =>
  h j (by omega) i u (by rw [← hg j hj]; exact hu)
theorem FlatAt.cell (h : FlatAt enc n B len f w) {j : Nat} (hj : j < len) {i : Nat} {u : Value} (hu : (enc (f j))[i]? = some u) : w.cell? ⟨B, j * n + i, none⟩ = some u := (h j hj i u hu).1
theorem FlatAt.frozen (h : FlatAt enc n B len f w) {j : Nat} (hj : j < len) {i : Nat} {u : Value} (hu : (enc (f j))[i]? = some u) : w.frozen? ⟨B, j * n + i, none⟩ = false := (h j hj i u hu).2 rfl
/-- Behind make: every element is the zero value. -/
theorem FlatAt.made {base : Nat} {e : TypeId} {cap : Nat} {z : α} {zc : Array Value} (hz : enc z = zc.toList) (hn : zc.size = n) (h : w.ownsRow base e n (.slice (some ⟨B, 0, none⟩) len cap) len (madeCells zc (len * n)).toList) : FlatAt enc n B len (fun _ => z) w := by
  intro j hj i u hu
  have hi : i < n := by
    have := (List.getElem?_eq_some_iff.1 hu).1
    rw [hz, Array.length_toList, hn] at this
    exact this
  have hlt : j * n + i < len * n := by
    have : (j + 1) * n ≤ len * n := Nat.mul_le_mul_right n hj
    rw [Nat.add_mul] at this; omega
  refine ⟨?_, fun _ => h.frozenAt _⟩
  rw [h.cellAt _ hlt, Array.getElem?_toList]
  have hm : (j * n + i) % n = i := by rw [Nat.mul_comm, Nat.mul_add_mod, Nat.mod_eq_of_lt hi]
  rw [hz, Array.getElem?_toList] at hu
  unfold madeCells
  rw [Array.getElem?_map, Array.getElem?_range, if_pos hlt]
  simp only [Option.map_some, hn, hm]
  rw [getElem!_def, hu]
/-- The finished row. -/
theorem FlatAt.row {good : α → Prop} {hne : ∀ x, (enc x).length = n} {xs : List α} {z : α} {cap : Nat} (h : FlatAt enc n B xs.length (fun j => xs.getD j z) w) (hg : ∀ x ∈ xs, good x) (h1 : xs.length ≤ cap) (h2 : cap ≤ 9223372036854775807) (hx : xs ≠ []) (h0 : 0 < n) :
    (Ty.flat n enc good hne).row true w (.slice (some ⟨B, 0, none⟩) xs.length cap) xs [B] := by
  refine row_flat_mk hg h1 h2 hx h0 fun j hj i u hu => ?_
  rw [Nat.zero_add]
  refine h j hj i u ?_
  show (enc (xs.getD j z))[i]? = some u
  rw [List.getD_eq_getElem?_getD, List.getElem?_eq_getElem hj]
  exact hu
theorem set_ne' (w : World) {b o o' : Nat} {u : Value} (h : o ≠ o') : (w.setCell ⟨b, o, none⟩ u).cell? ⟨b, o', none⟩ = w.cell? ⟨b, o', none⟩ := World.cell?_setCell_other w _ _ _ (by simp only [ne_eq, Addr.mk.injEq]; omega)
theorem set_eq' (w : World) {b o : Nat} {u v : Value} (h : w.cell? ⟨b, o, none⟩ = some v) : (w.setCell ⟨b, o, none⟩ u).cell? ⟨b, o, none⟩ = some u := World.cell?_setCell_same' _ _ _ (by rw [h]; rfl)
/-- An element of one cell is stored. -/
theorem FlatAt.set1 {f : Nat → α} (hn : ∀ x, (enc x).length = 1) (h : FlatAt enc 1 B len f w) {k : Nat} {x : α} {u0 : Value} (he : enc x = [u0]) :
    FlatAt enc 1 B len (fun j => if j = k then x else f j) (w.setCell ⟨B, k, none⟩ u0) := by
  intro j hj i u hu
  have hi : i < 1 := by have := (List.getElem?_eq_some_iff.1 hu).1; rwa [hn] at this
  obtain rfl : i = 0 := by omega
  have hold : ∃ v, (enc (f j))[0]? = some v := ⟨_, List.getElem?_eq_getElem (by rw [hn]; decide)⟩
  obtain ⟨v, hv⟩ := hold
  have hc := h j hj 0 v hv
  refine ⟨?_, fun _ => by rw [World.frozen?_setCell]; exact hc.2 rfl⟩
  by_cases e : j = k
  · subst e
    simp only [if_true, he] at hu
    simp at hu; subst hu
    have := hc.1
    rw [Nat.mul_one, Nat.add_zero] at this ⊢
    exact set_eq' w this
  · simp only [if_neg e] at hu
    rw [set_ne' w (by omega)]
    rw [hv] at hu; cases hu
    exact hc.1
/-- An element of two cells is stored. -/
theorem FlatAt.set2 {f : Nat → α} (hn : ∀ x, (enc x).length = 2) (h : FlatAt enc 2 B len f w) {k : Nat} {x : α} {u0 u1 : Value} (he : enc x = [u0, u1]) :
    FlatAt enc 2 B len (fun j => if j = k then x else f j) ((w.setCell ⟨B, k * 2, none⟩ u0).setCell ⟨B, k * 2 + 1, none⟩ u1) := by
  intro j hj i u hu
  have hi : i < 2 := by have := (List.getElem?_eq_some_iff.1 hu).1; rwa [hn] at this
  obtain ⟨v, hv⟩ : ∃ v, (enc (f j))[i]? = some v := ⟨_, List.getElem?_eq_getElem (by rw [hn]; exact hi)⟩
  have hc := h j hj i v hv
  refine ⟨?_, fun _ => by rw [World.frozen?_setCell, World.frozen?_setCell]; exact hc.2 rfl⟩
  by_cases e : j = k
  · subst e
    simp only [if_true, he] at hu
    match i, hi, hu with
    | 0, _, hu =>
      simp at hu; subst hu
      rw [set_ne' _ (by omega)]
      exact set_eq' w hc.1
    | 1, _, hu =>
      simp at hu; subst hu
      exact set_eq' _ ((set_ne' w (by omega)).trans hc.1)
  · simp only [if_neg e] at hu
    rw [set_ne' _ (by omega), set_ne' w (by omega)]
    rw [hv] at hu; cases hu
    exact hc.1
/-- An element of four cells is stored. -/
theorem FlatAt.set4 {f : Nat → α} (hn : ∀ x, (enc x).length = 4) (h : FlatAt enc 4 B len f w) {k : Nat} {x : α} {u0 u1 u2 u3 : Value} (he : enc x = [u0, u1, u2, u3]) :
    FlatAt enc 4 B len (fun j => if j = k then x else f j) ((((w.setCell ⟨B, k * 4, none⟩ u0).setCell ⟨B, k * 4 + 1, none⟩ u1).setCell ⟨B, k * 4 + 2, none⟩ u2).setCell ⟨B, k * 4 + 3, none⟩ u3) := by
  intro j hj i u hu
  have hi : i < 4 := by have := (List.getElem?_eq_some_iff.1 hu).1; rwa [hn] at this
  obtain ⟨v, hv⟩ : ∃ v, (enc (f j))[i]? = some v := ⟨_, List.getElem?_eq_getElem (by rw [hn]; exact hi)⟩
  have hc := h j hj i v hv
  refine ⟨?_, fun _ => by rw [World.frozen?_setCell, World.frozen?_setCell, World.frozen?_setCell, World.frozen?_setCell]; exact hc.2 rfl⟩
  by_cases e : j = k
  · subst e
    simp only [if_true, he] at hu
    match i, hi, hu with
    | 0, _, hu =>
      simp at hu; subst hu
      rw [set_ne' _ (by omega), set_ne' _ (by omega), set_ne' _ (by omega)]
      exact set_eq' w hc.1
    | 1, _, hu =>
      simp at hu; subst hu
      rw [set_ne' _ (by omega), set_ne' _ (by omega)]
      exact set_eq' _ ((set_ne' w (by omega)).trans hc.1)
    | 2, _, hu =>
      simp at hu; subst hu
      rw [set_ne' _ (by omega)]
      exact set_eq' _ ((set_ne' _ (by omega)).trans ((set_ne' w (by omega)).trans hc.1))
    | 3, _, hu =>
      simp at hu; subst hu
      exact set_eq' _ ((set_ne' _ (by omega)).trans ((set_ne' _ (by omega)).trans ((set_ne' w (by omega)).trans hc.1)))
  · simp only [if_neg e] at hu
    rw [set_ne' _ (by omega), set_ne' _ (by omega), set_ne' _ (by omega), set_ne' w (by omega)]
    rw [hv] at hu; cases hu
    exact hc.1
end

/-- What has been copied so far: the first k elements, zeros behind. -/
def filled {α : Type} (xs : List α) (z : α) (k : Nat) (j : Nat) : α := if j < k then xs.getD j z else z
theorem filled_zero {α : Type} (xs : List α) (z : α) : filled xs z 0 = fun _ => z := by funext j; simp [filled]
theorem filled_succ {α : Type} (xs : List α) (z : α) (k : Nat) (hk : k < xs.length) : filled xs z (k + 1) = fun j => if j = k then xs[k] else filled xs z k j := by
  funext j
  unfold filled
  by_cases e : j = k
  · subst e
    rw [if_pos (by omega), if_pos rfl, List.getD_eq_getElem?_getD, List.getElem?_eq_getElem hk]; rfl
  · rw [if_neg e]
    by_cases h : j < k
    · rw [if_pos (by omega), if_pos h]
    · rw [if_neg (by omega), if_neg h]
theorem FlatAt.done {α : Type} {enc : α → List Value} {n B : Nat} {w : World} {xs : List α} {z : α} (h : FlatAt enc n B xs.length (filled xs z xs.length) w) : FlatAt enc n B xs.length (fun j => xs.getD j z) w :=
  h.mono (Nat.le_refl _) fun j hj => by unfold filled; rw [if_pos hj]
end Go.Proofs.Yteabiokhbaekpaa

/- Contracts: diagrams in memory; valid ones; values. -/
namespace Go.Proofs.Yteabiokhbaekpaa
open Go.RowKit

/-- A node in memory: three cells. -/
def ndEnc (n : Nd) : List Value := [.int .i64 n.v, .int .i64 n.lo, .int .i64 n.hi]
def ndOk (n : Nd) : Prop := I64 n.v ∧ I64 n.lo ∧ I64 n.hi
abbrev ndTy : Ty Nd := Ty.flat 3 ndEnc ndOk (fun _ => rfl)
abbrev ndV (n : Nd) : Value := .agg #[.int .i64 n.v, .int .i64 n.lo, .int .i64 n.hi]
/-- The three cells of each node. -/
theorem row_nd {wr : Bool} {w : World} {v : Value} {xs : List Nd} {F : List Nat} (h : ndTy.row wr w v xs F) :
    ∃ a cap, v = .slice a xs.length cap ∧ xs.length ≤ cap ∧ cap ≤ 9223372036854775807 ∧ (∀ x ∈ xs, ndOk x) ∧
      ((xs = [] ∧ F = []) ∨ (xs ≠ [] ∧ ∃ b off, a = some ⟨b, off, none⟩ ∧ F = [b] ∧ ∀ j (hj : j < xs.length), cellIs wr w b (off + j * 3) (.int .i64 xs[j].v) ∧ cellIs wr w b (off + j * 3 + 1) (.int .i64 xs[j].lo) ∧ cellIs wr w b (off + j * 3 + 2) (.int .i64 xs[j].hi))) := by
  obtain ⟨a, cap, rfl, h1, h2, h3, h4⟩ := row_flat h
  refine ⟨a, cap, rfl, h1, h2, h3, h4.imp id ?_⟩
  rintro ⟨_, hne, b, off, rfl, rfl, hc⟩
  exact ⟨hne, b, off, rfl, rfl, fun j hj => ⟨hc j hj 0 _ rfl, by have := hc j hj 1 _ rfl; rwa [← Nat.add_assoc] at this, by have := hc j hj 2 _ rfl; rwa [← Nat.add_assoc] at this⟩⟩
/-- A diagram as a value. -/
abbrev dgV (r : Int) (v : Value) : Value := .agg #[.int .i64 r, v]
/-- The nodes of a slice can be read. -/
structure NdAt (w : World) (A : Option Addr) (ns : List Nd) : Prop where
  at_ : ∀ j (hj : j < ns.length), ∃ b off, A = some ⟨b, off, none⟩ ∧ w.cell? ⟨b, off + j * 3, none⟩ = some (.int .i64 ns[j].v) ∧ w.cell? ⟨b, off + j * 3 + 1, none⟩ = some (.int .i64 ns[j].lo) ∧ w.cell? ⟨b, off + j * 3 + 2, none⟩ = some (.int .i64 ns[j].hi)
  ok : ∀ x ∈ ns, ndOk x
theorem nd_at {wr : Bool} {w : World} {v : Value} {xs : List Nd} {F : List Nat} (h : ndTy.row wr w v xs F) : ∃ A c, v = .slice A xs.length c ∧ xs.length ≤ c ∧ c ≤ 9223372036854775807 ∧ NdAt w A xs := by
  obtain ⟨a, c, rfl, h1, h2, h3, h4⟩ := row_nd h
  refine ⟨a, c, rfl, h1, h2, ⟨fun j hj => ?_, h3⟩⟩
  rcases h4 with ⟨rfl, _⟩ | ⟨_, b, off, rfl, _, hc⟩
  · exact absurd hj (by simp)
  · obtain ⟨p0, p1, p2⟩ := hc j hj
    exact ⟨b, off, rfl, p0.1, p1.1, p2.1⟩
theorem NdAt.grow {w w' : World} {A : Option Addr} {ns : List Nd} (h : NdAt w A ns) (hb : Below w.heap.size w w') : NdAt w' A ns := by
  refine ⟨fun j hj => ?_, h.ok⟩
  obtain ⟨b, off, e, h1, h2, h3⟩ := h.at_ j hj
  exact ⟨b, off, e, (hb.cell (World.block_lt_of_cell? _ _ h1)).trans h1, (hb.cell (World.block_lt_of_cell? _ _ h2)).trans h2, (hb.cell (World.block_lt_of_cell? _ _ h3)).trans h3⟩

theorem within_b {x a b : Int} {q : Bool} (h : inB x a b = q) (w : World) : Calls Try.prog 28 #[.int .i64 x, .int .i64 a, .int .i64 b] w fun e w' => e = .returned (.bool q) ∧ Below w.heap.size w w' :=
  (within_any x a b w).mono fun e w' ⟨h1, h2⟩ => ⟨by rw [h1, h], h2 ▸ bb _⟩
/- left out: the seat has no impl.isVar -/

/-- Whether a number may stand in node i of this variable. -/
def kidB (ns : List Nd) (v : Int) (i : Nat) (k : Int) : Bool := inB k 0 (i + 1) && under ns v k
theorem ndB_kids {vars : Int} {ns : List Nd} {i : Nat} (hi : i < ns.length) : ndB vars ns i = (inB ns[i].v 1 vars && kidB ns ns[i].v i ns[i].lo && kidB ns ns[i].v i ns[i].hi) := by
  unfold ndB kidB
  rw [List.getD_eq_getElem?_getD, List.getElem?_eq_getElem hi]
  simp only [Option.getD_some]
  cases inB ns[i].v 1 vars <;> cases inB ns[i].lo 0 (i + 1) <;> cases inB ns[i].hi 0 (i + 1) <;> simp

/- left out: the seat has no impl.bddOk -/

theorem nds_no {vars : Int} {ns : List Nd} {k : Nat} (hk : k < ns.length) (h : ndB vars ns k = false) : ndsB vars ns ns.length = false := by
  cases hh : ndsB vars ns ns.length
  · rfl
  · have := ndsB_ok.1 hh k hk
    rw [h] at this; cases this
theorem goodD_def (vars r : Int) (ns : List Nd) : goodD vars r ns = (inB vars 0 6 && decide (ns.length ≤ 63) && inB r 0 (ns.length + 1) && ndsB vars ns ns.length) := rfl

/- left out: the seat has no impl.IsDiagram -/
end Go.Proofs.Yteabiokhbaekpaa

/- Contracts: values of diagrams. -/
namespace Go.Proofs.Yteabiokhbaekpaa
open Go.RowKit

/-- Numbers of nodes lie ahead of the nodes; variables are from 1 on. -/
def WkN (ns : List Nd) : Prop := ∀ i (h : i < ns.length), 1 ≤ ns[i].v ∧ (0 ≤ ns[i].lo ∧ ns[i].lo ≤ i + 1) ∧ (0 ≤ ns[i].hi ∧ ns[i].hi ≤ i + 1)
theorem OkN.wk {vars : Int} {ns : List Nd} (h : OkN vars ns) : WkN ns := fun i hi => by
  obtain ⟨h1, h2, h3, _⟩ := (ndB_get hi).1 (h i hi)
  exact ⟨h1.1, h2, h3⟩
/-- A bit that is shifted to the end. -/
theorem bit_end (b : Nat) (hb : b < 2 ^ 62) (v : Int) (hv : 1 ≤ v) : bits .and .i64 ((b : Int) / 2 ^ min (v.toNat - 1) 64) 1 = if bitN b v then 1 else 0 := by
  have e0 : (b : Int) / 2 ^ min (v.toNat - 1) 64 = ((b / 2 ^ min (v.toNat - 1) 64 : Nat) : Int) := by
    rw [Int.natCast_ediv, Int.natCast_pow]; rfl
  rw [e0, and_one _ (Nat.lt_of_le_of_lt (Nat.div_le_self _ _) (Nat.lt_trans hb (by decide)))]
  have h64 : ∀ s, 64 ≤ s → b.testBit s = false := fun s hs => Nat.testBit_lt_two_pow (Nat.lt_of_lt_of_le hb (Nat.pow_le_pow_right (by decide) (by omega)))
  have e : bitN b v = b.testBit (min (v.toNat - 1) 64) := by
    unfold bitN
    rw [show (v - 1).toNat = v.toNat - 1 by omega]
    rcases Nat.lt_or_ge (v.toNat - 1) 64 with h | h
    · rw [Nat.min_eq_left (by omega)]
    · rw [h64 _ h, h64 _ (by omega)]
  rw [e, Nat.testBit_eq_decide_div_mod_eq]
  rcases Nat.mod_two_eq_zero_or_one (b / 2 ^ min (v.toNat - 1) 64) with h | h
  · rw [h]; simp
  · rw [h]; simp
theorem valD_low {κ : Int} (h : κ < 2) (ns : List Nd) (b : Nat) : valD κ ns b = decide (κ = 1) := by unfold valD pv; rw [if_pos h]

/- left out: the seat has no (loop.example/g01080/impl.Diagram).value -/

/- left out: the seat has no (loop.example/g01080/impl.Diagram).valueAt -/

/- left out: the seat has no spec.l26Value -/
end Go.Proofs.Yteabiokhbaekpaa

/- Contracts: the plan of values, in the program. -/
namespace Go.Proofs.Yteabiokhbaekpaa
open Go.RowKit

def idxN (ns : List Nd) (n : Nd) : Int := if n ∈ ns then (ns.idxOf n : Nat) else -1
theorem idx_here {ns : List Nd} {n : Nd} {k : Nat} (hk : k < ns.length) (h : n ∉ ns.take k) (e : ns[k] = n) : idxN ns n = k := by
  unfold idxN
  have hmem : n ∈ ns := e ▸ List.getElem_mem hk
  rw [if_pos hmem]
  have h1 : ns.idxOf n = k := by
    have h2 : ns = ns.take k ++ ns.drop k := (List.take_append_drop k ns).symm
    rw [h2, List.idxOf_append, if_neg h, List.length_take, Nat.min_eq_left (Nat.le_of_lt hk), ← List.getElem_cons_drop hk, e]
    simp
  rw [h1]
theorem idx_next {ns : List Nd} {n : Nd} {k : Nat} (hk : k < ns.length) (h : n ∉ ns.take k) (e : ns[k] ≠ n) : n ∉ ns.take (k + 1) := by
  rw [List.take_succ_eq_append_getElem hk]
  simp only [List.mem_append, List.mem_singleton, not_or]
  exact ⟨h, fun h2 => e h2.symm⟩

theorem nd_eqB (a b : Nd) : (a.v == b.v && a.lo == b.lo && a.hi == b.hi) = decide (a = b) := by
  obtain ⟨x, y, z⟩ := a
  obtain ⟨x', y', z'⟩ := b
  simp only [Nd.mk.injEq]
  by_cases h1 : x = x' <;> by_cases h2 : y = y' <;> by_cases h3 : z = z' <;> simp [h1, h2, h3]
/- left out: the seat has no impl.BddNode -/

/- left out: the seat has no slices.Index[[]loop.example/g01080/impl.BddNode,loop.example/g01080/impl.BddNode] -/
end Go.Proofs.Yteabiokhbaekpaa

/- Contracts: the plan of values, in the program. -/
namespace Go.Proofs.Yteabiokhbaekpaa
open Go.RowKit

/-- An own row of nodes can be read. -/
theorem nd_own {w : World} {B : Nat} {e : TypeId} {v : Value} {ns : List Nd} (h : w.ownsRow B e 3 v ns.length (ns.flatMap ndEnc)) (hok : ∀ x ∈ ns, ndOk x) : ∃ A c, v = .slice A ns.length c ∧ NdAt w A ns := by
  obtain ⟨_, ⟨rfl, h0⟩ | ⟨g, cap, cur, rfl, _, hh, _, _, hs, ht⟩⟩ := h
  · exact ⟨none, 0, by rw [h0], fun j hj => absurd hj (by omega), hok⟩
  · refine ⟨_, cap, rfl, fun j hj => ⟨g, 0, rfl, ?_⟩, hok⟩
    have key : ∀ i u, i < 3 → (ndEnc ns[j])[i]? = some u → w.cell? ⟨g, j * 3 + i, none⟩ = some u := fun i u hi hu => by
      have := Nat.mul_le_mul_right 3 (show j + 1 ≤ ns.length by omega)
      rw [hown_cell hh ht (by omega), flat_get (enc := ndEnc) (n := 3) (fun _ => rfl) ns j hj i hi, hu]
    refine ⟨?_, ?_, ?_⟩
    · have := key 0 _ (by decide) rfl; rw [Nat.zero_add]; exact this
    · have := key 1 _ (by decide) rfl; rw [Nat.zero_add]; exact this
    · have := key 2 _ (by decide) rfl; rw [Nat.zero_add]; exact this
theorem nd_small {vars : Int} {ns : List Nd} (h : OkN vars ns) (hv : vars ≤ 6) (hl : ns.length ≤ 1000000) : ∀ x ∈ ns, ndOk x := by
  intro x hx
  obtain ⟨i, hi, rfl⟩ := List.getElem_of_mem hx
  obtain ⟨h1, h2, h3, _⟩ := (ndB_get hi).1 (h i hi)
  unfold ndOk I64
  omega

theorem i64_nat (a b : Nat) (ha : a < 2 ^ 62) (hb : b < 2 ^ 62) : bits .or .i64 (a : Int) (b : Int) = ((a ||| b : Nat) : Int) ∧ bits .and .i64 (a : Int) (b : Int) = ((a &&& b : Nat) : Int) := by
  have h := bits_nat .i64 62 (by decide) (fun n h0 h1 => by rw [IntKind.wrap_i64]; have : (2 : Int) ^ 62 = 4611686018427387904 := by decide
                                                            omega) a b ha hb
  exact ⟨h.2, h.1⟩
theorem pow_small {v : Nat} (hv : v ≤ 6) : wrap64 ((2 : Int) ^ v) = ((2 ^ v : Nat) : Int) ∧ 2 ^ v ≤ 64 := by
  match v, hv with
  | 0, _ | 1, _ | 2, _ | 3, _ | 4, _ | 5, _ | 6, _ => exact ⟨by unfold wrap64; decide, by decide⟩
theorem or_pow {b u : Nat} (hb : b < 2 ^ u) (hu : u ≤ 6) : bits .or .i64 (b : Int) (wrap64 ((2 : Int) ^ u)) = ((b + 2 ^ u : Nat) : Int) := by
  obtain ⟨h1, h2⟩ := pow_small hu
  rw [h1, (i64_nat b (2 ^ u) (by omega) (by omega)).1, Nat.or_comm]
  have := Nat.two_pow_add_eq_or_of_lt hb 1
  rw [Nat.mul_one] at this
  rw [← this, Nat.add_comm]

theorem Src.three {w : World} {b : Nat} {x y z : Value} (h0 : w.cell? ⟨b, 0, none⟩ = some x) (h1 : w.cell? ⟨b, 1, none⟩ = some y) (h2 : w.cell? ⟨b, 2, none⟩ = some z) : Src w (some ⟨b, 0, none⟩) 1 3 [x, y, z] :=
  .inr ⟨_, rfl, rfl, fun j u hj => by
    match j, hj with
    | 0, hj => simp at hj; subst hj; rw [add_none]; exact h0
    | 1, hj => simp at hj; subst hj; rw [add_none]; exact h1
    | 2, hj => simp at hj; subst hj; rw [add_none]; exact h2⟩
/-- A function of bits that only reads. -/
def FnOk (w0 : World) (vars : Nat) (g : FuncId) (cb : Array Value) (f : Nat → Bool) : Prop :=
  ∀ (b : Nat) w, b < 2 ^ vars → Below w0.heap.size w0 w → Calls Try.prog g (#[.int .i64 b] ++ cb) w fun e w' => e = .returned (.bool (f b)) ∧ Below w.heap.size w w'
/- left out: the seat has no impl.BddNode -/

/- left out: the seat has no (*loop.example/g01080/impl.bddPlan).from -/
end Go.Proofs.Yteabiokhbaekpaa

/- Contracts: planned diagrams, in the program. -/
namespace Go.Proofs.Yteabiokhbaekpaa
open Go.RowKit

/-- A diagram that can be read. -/
def DgPost (w : World) (ns : List Nd) (v : Value) (w' : World) : Prop := ∃ A c, v = .slice A ns.length c ∧ NdAt w' A ns ∧ (∀ a, A = some a → w.heap.size ≤ a.block) ∧ Below w.heap.size w w'
theorem NdAt.keep {w w' : World} {A : Option Addr} {ns : List Nd} (h : NdAt w A ns) (hk : ∀ a, A = some a → w'.heap[a.block]? = w.heap[a.block]?) : NdAt w' A ns := by
  refine ⟨fun j hj => ?_, h.ok⟩
  obtain ⟨b, off, e, h1, h2, h3⟩ := h.at_ j hj
  have hc : ∀ o, w'.cell? ⟨b, o, none⟩ = w.cell? ⟨b, o, none⟩ := fun o => World.cell?_of_block (a := ⟨b, o, none⟩) (hk ⟨b, off, none⟩ e)
  exact ⟨b, off, e, (hc _).trans h1, (hc _).trans h2, (hc _).trans h3⟩
/-- A store into another block. -/
theorem NdAt.set {w : World} {A : Option Addr} {ns : List Nd} (h : NdAt w A ns) {g : Nat} (hg : ∀ a, A = some a → a.block ≠ g) (o : Nat) (u : Value) : NdAt (w.setCell ⟨g, o, none⟩ u) A ns :=
  h.keep fun a ha => Below.heap_setCell _ _ _ _ (hg a ha)
/- left out: the seat has no impl.planned -/
end Go.Proofs.Yteabiokhbaekpaa
