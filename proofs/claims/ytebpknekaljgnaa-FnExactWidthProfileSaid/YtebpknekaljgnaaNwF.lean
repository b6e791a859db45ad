/- Contracts: clauses joined and resolved, in the reference. -/
import Derived.Test.YtebpknekaljgnaaNwE
namespace Go.Proofs.Ytebpknekaljgnaa
open Go.RowKit

theorem Sp.drop2 {w0 w : World} {p q : Asn} {ps : List Asn} (h : Sp w0 w (p :: q :: ps)) : Sp w0 w (p :: ps) := h.swap.tail
theorem Lit6.i64 {l : Int} (h : Lit6 l) : I64 l := by unfold Lit6 at h; unfold I64; omega
theorem Good.i64 {c : List Int} (h : Good c) : ∀ x ∈ c, I64 x := fun x hx => (h.mem x hx).i64
theorem Sp.int_row {w0 w : World} {ps : List Asn} {i : Nat} {v : Value} {ys : List Int} (h : Sp w0 w ps) (hi : ps[i]? = some (Ints v ys)) (hg : Good ys) : ∃ F, Ty.int.row false w v ys F := h.ints_row hi hg.i64

/-- A clause of its own, or none. -/
def JoinPost (w : World) (r : Option (List Int)) (e : Ending) (w' : World) : Prop :=
  ∃ v, e = .returned (.tuple #[v, .bool r.isSome]) ∧ w'.ownsRow w.heap.size 3 1 v (r.getD []).length ((r.getD []).map (.int .i64)) ∧ Below w.heap.size w w'
theorem JoinPost.mk {w w' : World} {r : Option (List Int)} {q : Bool} {c : List Int} {ps : List Asn} {v : Value} {i : Nat} (h : Sp w w' ps) (hi : ps[i]? = some (Ints v c)) (h1 : r.isSome = q) (h2 : r.getD [] = c) : JoinPost w r (.returned (.tuple #[v, .bool q])) w' := by
  subst h1 h2
  exact ⟨v, rfl, h.owns_end hi, h.below⟩
theorem joinB_step_no {out b : List Int} {l : Int} (h : hasI out (-l) = true) : joinB out (l :: b) = none := by unfold joinB; rw [if_pos h]
theorem joinB_step_has {out b : List Int} {l : Int} (h : hasI out (-l) = false) (h2 : hasI out l = true) : joinB out (l :: b) = joinB out b := by rw [joinB, if_neg (by rw [h]; simp), if_pos h2]
theorem joinB_step_put {out b : List Int} {l : Int} (h : hasI out (-l) = false) (h2 : hasI out l = false) : joinB out (l :: b) = joinB (putB out l) b := by rw [joinB, if_neg (by rw [h]; simp), if_neg (by rw [h2]; simp)]
theorem good_step {out : List Int} {l : Int} (ho : Good out) (hl : Lit6 l) (h : hasI out (-l) = false) (h2 : hasI out l = false) : Good (putB out l) := by
  rw [hasI_not] at h h2
  refine ho.put hl fun y hy e => ?_
  have hy6 := ho.mem y hy
  rw [hy6.abs, hl.abs] at e
  have : y = l ∨ y = -l := by
    have h1 := hy6; have h2 := hl
    unfold Lit6 at h1 h2
    split at e <;> split at e <;> omega
  rcases this with rfl | rfl
  · exact h2 hy
  · exact h hy

set_option maxRecDepth 100000 in
set_option maxHeartbeats 4000000 in
theorem l2Join_any (v u : Value) (a b : List Int) (F G : List Nat) (w : World) (hx : Ty.int.row false w v a F) (hy : Ty.int.row false w u b G) (ga : Good a) (gb : Good b) :
    Calls Try.prog 70 #[v, u] w (JoinPost w (joinB a b)) := by
  obtain ⟨aa, ac, rfl, _, _⟩ := Ty.row_len hx
  obtain ⟨ba, bc, rfl, hy1, hy2, _, hy3⟩ := row_int hy
  have lb := gb.len
  go_enter Try.func70, Try.ntmps70
  go_wp2_with fail
  refine (l1Own_any _ a F w hx (by have := ga.len; omega)).mono ?_
  rintro e w1 ⟨v1, rfl, ho1, hb1⟩
  have S0 := (Sp.start w).own_call hb1 ho1
  obtain ⟨a1, c1, rfl⟩ := owns_form ho1
  replace S0 := Lib.hid S0
  clear ho1 hb1
  go_wp2_with fail
  go_loopw [6, 7] (fun s i wr => ∃ (k : Nat) (out : List Int), k ≤ b.length ∧ i = .int .i64 k ∧ Hid (joinB out (b.drop k) = joinB a b ∧ Good out) ∧ Hid (Sp w wr [Ints s out])) (fun _ i _ => b.length - (intOf i).toNat)
  case atStart => exact ⟨0, a, Nat.zero_le _, rfl, ⟨rfl, ga⟩, S0⟩
  case round =>
    obtain ⟨k, out, hk, rfl, HR, HS⟩ := hrel
    clear S0
    obtain ⟨sa, sc, rfl⟩ := owns_form (HS.out.own (i := 0) rfl)
    by_cases hlt : k < b.length
    · rcases hy3 with ⟨rfl, rfl⟩ | ⟨hyn, bk, off, rfl, rfl, hyc⟩
      · exact absurd hlt (by simp)
      have hB := HS.out.below
      have k0 := ((hyc k hlt).keep (hB.block bk (hyc k hlt).lt)).1
      have hl6 := gb.mem _ (List.getElem_mem hlt)
      obtain ⟨H, hrow⟩ := HS.out.int_row (i := 0) rfl HR.out.2
      have hd := List.drop_eq_getElem_cons hlt
      obtain ⟨l, hl⟩ : ∃ l, l = b[k] := ⟨_, rfl⟩
      rw [← hl] at k0 hl6 hd
      have hneg : wrap64 (-l) = -l := by unfold wrap64; unfold Lit6 at hl6; omega
      have hl0 : -6 ≤ l := by unfold Lit6 at hl6; omega
      have hl1 : l ≤ 6 := by unfold Lit6 at hl6; omega
      obtain ⟨HR1, HR2⟩ := HR.out
      rw [hd] at HR1
      replace hd := Lib.hid hd
      replace hl := Lib.hid hl
      clear hyc hB HR hd hl
      cases hq : hasI out (-l)
      · cases hq2 : hasI out l
        · rw [joinB_step_put hq hq2] at HR1
          have HN := Lib.hid (And.intro HR1 (good_step HR2 hl6 hq hq2))
          clear HR1 HR2 hl6 hneg
          have hol : out.length ≤ 1000000000 := by have := (HN.out).2.len; have := put_len out l; omega
          go_wp2_with (first
            | (go_at_call 69; (first | (with_reducible refine (l2Has_at hrow hq).mono ?_) | (with_reducible refine (l2Has_at hrow hq2).mono ?_)); rintro e w2 ⟨rfl, rfl⟩)
            | (go_at_call 73; (with_reducible refine (l2Put_any _ out l H _ hrow hol).mono ?_); rintro e w2 ⟨v2, rfl, ho2, hb2⟩))
          have S1 := (HS.out.own_call hb2 ho2).drop2
          obtain ⟨a2, c2, rfl⟩ := owns_form ho2
          replace S1 := Lib.hid S1
          clear ho2 hb2 HS hrow
          go_wp2_with fail
          go_roundw
          case rel => exact ⟨k + 1, _, by omega, by go_num, HN, S1⟩
          case measure => simp [intOf]; omega
        · rw [joinB_step_has hq hq2] at HR1
          have HN := Lib.hid (And.intro HR1 HR2)
          clear HR1 HR2 hl6 hneg
          go_wp2_with (first
            | (go_at_call 69; (first | (with_reducible refine (l2Has_at hrow hq).mono ?_) | (with_reducible refine (l2Has_at hrow hq2).mono ?_)); rintro e w2 ⟨rfl, rfl⟩))
          go_roundw
          case rel => exact ⟨k + 1, _, by omega, by go_num, HN, HS⟩
          case measure => simp [intOf]; omega
      · rw [joinB_step_no hq] at HR1
        have HN := Lib.hid HR1.symm
        clear HR1 HR2 hl6 hneg
        go_wp2_with (first
          | (go_at_call 69; (first | (with_reducible refine (l2Has_at hrow hq).mono ?_)); rintro e w2 ⟨rfl, rfl⟩))
        have S1 := Lib.hid (HS.out.own_made 3 1)
        go_ret2
        exact JoinPost.mk (i := 0) S1.out rfl (by first | (rw [HN.out]; done) | (rw [HN.out]; rfl)) (by first | (rw [HN.out]; done) | (rw [HN.out]; rfl))
    · obtain rfl : k = b.length := by omega
      have HN := HR.out.1
      rw [List.drop_length] at HN
      replace HN := Lib.hid HN.symm
      clear HR
      go_wp2_with fail
      go_ret2
      exact JoinPost.mk (i := 0) HS.out rfl (by first | (rw [HN.out]; done) | (rw [HN.out]; rfl)) (by first | (rw [HN.out]; done) | (rw [HN.out]; rfl))

theorem resB_no1 {a b : List Int} {v : Int} (h : hasI a v = false) : resB a b v = none := by unfold resB; rw [h]; rfl
theorem resB_no2 {a b : List Int} {v : Int} (h : hasI b (-v) = false) : resB a b v = none := by unfold resB; rw [h, Bool.and_false]; rfl
theorem resB_yes {a b : List Int} {v : Int} (h : hasI a v = true) (h2 : hasI b (-v) = true) : resB a b v = joinB (withoutB a v) (withoutB b v) := by unfold resB; rw [h, h2]; rfl

set_option maxRecDepth 100000 in
set_option maxHeartbeats 4000000 in
theorem l2Resolve_any (x y : Value) (a b : List Int) (v : Int) (F G : List Nat) (w : World) (hx : Ty.int.row false w x a F) (hy : Ty.int.row false w y b G) (ga : Good a) (gb : Good b) (h0 : 1 ≤ v) (h1 : v ≤ 6) :
    Calls Try.prog 66 #[x, y, .int .i64 v] w (JoinPost w (resB a b v)) := by
  obtain ⟨aa, ac, rfl, _, _⟩ := Ty.row_len hx
  obtain ⟨ba, bc, rfl, _, _⟩ := Ty.row_len hy
  have hneg : wrap64 (-v) = -v := by unfold wrap64; omega
  cases hq : hasI a v
  · rw [resB_no1 hq]
    go_enter Try.func66, Try.ntmps66
    go_wp2_with (go_at_call 69; (with_reducible refine (l2Has_at hx hq).mono ?_); rintro e w2 ⟨rfl, rfl⟩)
    have S1 := Lib.hid ((Sp.start w).own_made 3 1)
    go_ret2
    exact JoinPost.mk (i := 0) S1.out rfl rfl rfl
  cases hq2 : hasI b (-v)
  · rw [resB_no2 hq2]
    go_enter Try.func66, Try.ntmps66
    go_wp2_with (go_at_call 69; (first | (with_reducible refine (l2Has_at hx hq).mono ?_) | (with_reducible refine (l2Has_at hy hq2).mono ?_)); rintro e w2 ⟨rfl, rfl⟩)
    have S1 := Lib.hid ((Sp.start w).own_made 3 1)
    go_ret2
    exact JoinPost.mk (i := 0) S1.out rfl rfl rfl
  rw [resB_yes hq hq2]
  have la := ga.len
  have lb := gb.len
  have g1 : Good (withoutB a v) := ga.filter _
  have g2 : Good (withoutB b v) := gb.filter _
  go_enter Try.func66, Try.ntmps66
  go_wp2_with (go_at_call 69; (first | (with_reducible refine (l2Has_at hx hq).mono ?_) | (with_reducible refine (l2Has_at hy hq2).mono ?_)); rintro e w2 ⟨rfl, rfl⟩)
  refine (l2Without_any _ a v F w hx (by omega)).mono ?_
  rintro e w1 ⟨v1, rfl, ho1, hb1⟩
  have S1 := (Sp.start w).own_call hb1 ho1
  obtain ⟨a1, c1, rfl⟩ := owns_form ho1
  replace S1 := Lib.hid S1
  clear ho1
  go_wp2_with fail
  refine (l2Without_any _ b v G w1 (Ty.row_grow hy hb1) (by omega)).mono ?_
  rintro e w2 ⟨v2, rfl, ho2, hb2⟩
  have S2 := S1.out.own_call hb2 ho2
  obtain ⟨a2, c2, rfl⟩ := owns_form ho2
  obtain ⟨H1, r1⟩ := S2.int_row (i := 1) rfl g1
  obtain ⟨H2, r2⟩ := S2.int_row (i := 0) rfl g2
  replace S2 := Lib.hid S2
  clear ho2 S1
  go_wp2_with fail
  refine (l2Join_any _ _ _ _ H1 H2 w2 r1 r2 g1 g2).mono ?_
  rintro e w3 ⟨v3, rfl, ho3, hb3⟩
  have S3 := S2.out.own_call hb3 ho3
  obtain ⟨a3, c3, rfl⟩ := owns_form ho3
  replace S3 := Lib.hid S3
  generalize (joinB (withoutB a v) (withoutB b v)) = r at *
  clear ho3 S2 r1 r2 hb3
  go_wp2_with fail
  go_ret2
  exact JoinPost.mk (i := 0) S3.out rfl rfl rfl
end Go.Proofs.Ytebpknekaljgnaa
