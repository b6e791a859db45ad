/- Contracts: the least width of a refutation, in the reference. -/
import Derived.Test.YtebpknekaljgnaaNwS
namespace Go.Proofs.Ytebpknekaljgnaa
open Go.RowKit

/-- The least width with the empty clause, as far as it has been looked for. -/
def noneTo (F0 : List (List Int)) (k : Int) : Prop := ∀ j : Int, 0 ≤ j → j < k → ¬ ∃ r, inR F0 j r []
/-- The least width or -1. -/
def LeastIs (F0 : List (List Int)) (z : Int) : Prop := (z = -1 ∧ noneTo F0 7) ∨ (0 ≤ z ∧ z ≤ 6 ∧ noneTo F0 z ∧ ∃ r, inR F0 z r [])
theorem noneTo_step {F0 : List (List Int)} {k : Int} (h : noneTo F0 k) (hn : ¬ ∃ r, inR F0 k r []) : noneTo F0 (k + 1) := fun j h0 h1 => by
  by_cases e : j = k
  · subst e; exact hn
  · exact h j h0 (by omega)

set_option maxRecDepth 100000 in
set_option maxHeartbeats 4000000 in
theorem l10Least_any (vars : Int) (v : Value) (F0 : List (List Int)) (F : List Nat) (w : World) (hx : (Ty.slice Ty.int).row false w v F0 F) (hG : GoodF vars F0) (h60 : F0.length ≤ 60) :
    Calls Try.prog 41 #[.agg #[.int .i64 vars, v]] w fun e w' => ∃ z : Int, e = .returned (.int .i64 z) ∧ LeastIs F0 z ∧ Below w.heap.size w w' := by
  obtain ⟨a, cp, rfl, _, _⟩ := Ty.row_len hx
  have S0 := (Sp.start w).alloc_box #[.int .i64 vars, .slice a F0.length cp] 29
  replace S0 := Lib.hid S0
  have hxr := Lib.hid hx
  replace hG := Lib.hid hG
  clear hx
  go_enter Try.func41, Try.ntmps41
  go_wp2_with fail
  go_loopw [3] (fun i wr => ∃ k : Nat, k ≤ 7 ∧ i = .int .i64 k ∧ Hid (noneTo F0 k) ∧ Hid (Sp w wr [Box w.heap.size 29 #[.int .i64 vars, .slice a F0.length cp]])) (fun i _ => 7 - (intOf i).toNat)
  case atStart => exact ⟨0, by omega, rfl, fun j h0 h1 => by omega, S0⟩
  case round =>
    obtain ⟨k, hk, rfl, HN, HS⟩ := hrel
    clear S0
    have c0 := HS.out.cell (i := 0) rfl (o := 0) rfl
    have c1 := HS.out.cell (i := 0) rfl (o := 1) rfl
    by_cases hlt : k ≤ 6
    · go_wp2_with fail
      refine (l10Closure_any vars k _ F0 F _ (Ty.row_below hxr.out HS.out.below (Ty.row_lt hxr.out)) hG.out (by omega) (by omega) (by omega)).mono ?_
      rintro e w3 ⟨lv, rv, av, bv, pv, sv, kl, ks, Kp, R, A, B, C, rfl, T3, hClo, hAsc, hsame, hml, hms⟩
      obtain ⟨la, lc, rfl, -, -⟩ := own_src (T3.own (i := 0) rfl)
      obtain ⟨ra, rc, rfl, -, -⟩ := own_src (T3.own (i := 1) rfl)
      obtain ⟨aa, ac, rfl, -, -⟩ := own_src (T3.own (i := 2) rfl)
      obtain ⟨ba, bc, rfl, -, -⟩ := own_src (T3.own (i := 3) rfl)
      obtain ⟨pa, pc, rfl, -, -⟩ := own_src (T3.own (i := 4) rfl)
      obtain ⟨sa, sc, rfl, -, -⟩ := own_src (T3.own (i := 5) rfl)
      obtain ⟨Fs, rs⟩ := T3.cls_row (i := 5) (j := 6) rfl rfl hms
      have S3 := HS.out.grow T3.below
      obtain ⟨q, hq, hcall⟩ := l10Empty_any _ _ _ _ rs hAsc
      have hT := (hq.trans (hsame [])).trans hClo.mem
      replace S3 := Lib.hid S3
      replace hcall := Lib.hid hcall
      clear T3 HS hClo hAsc hsame hml hms rs hq c0 c1
      have fx := fun w => work_field5 la ra aa ba pa sa kl.length R.length A.length B.length C.length ks.length lc rc ac bc pc sc w
      cases q
      · have HN2 := Lib.hid (noneTo_step HN.out (fun h => (by have := hT.2 h; cases this)))
        clear hT HN
        go_wp2_with fail
        refine hcall.out.mono ?_
        rintro e w4 ⟨rfl, rfl⟩
        go_wp2_with fail
        go_roundw
        case rel => exact ⟨k + 1, by omega, by go_num, by have := HN2.out; exact this, S3⟩
        case measure => simp [intOf]; omega
      · have hA : Hid (LeastIs F0 k) := .inr ⟨by omega, by omega, HN.out, hT.1 rfl⟩
        clear hT HN
        go_wp2_with fail
        refine hcall.out.mono ?_
        rintro e w4 ⟨rfl, rfl⟩
        go_wp2_with fail
        go_ret
        exact ⟨_, rfl, hA.out, S3.out.below⟩
    · have hA : Hid (LeastIs F0 (-1)) := .inl ⟨rfl, fun j h0 h1 => HN.out j h0 (by omega)⟩
      clear HN
      go_wp2_with fail
      go_ret
      exact ⟨_, rfl, hA.out, HS.out.below⟩

/-- The answer on the least width. -/
structure LeastAns (nar : Bool) (F0 : List (List Int)) (z : Int) (ok : Bool) : Prop where
  no : nar = false → z = 0 ∧ ok = false
  yes : nar = true → (ok = true ∧ 0 ≤ z ∧ z ≤ 6 ∧ noneTo F0 z ∧ ∃ r, inR F0 z r []) ∨ (ok = false ∧ z = 0 ∧ noneTo F0 7)
theorem LeastAns.one {nar : Bool} {F0 : List (List Int)} {z z' : Int} {ok ok' : Bool} (h : LeastAns nar F0 z ok) (h' : LeastAns nar F0 z' ok') : z = z' ∧ ok = ok' := by
  cases nar
  · obtain ⟨a, b⟩ := h.no rfl
    obtain ⟨c, d⟩ := h'.no rfl
    exact ⟨a.trans c.symm, b.trans d.symm⟩
  · rcases h.yes rfl with ⟨a, z0, z6, hn, hr⟩ | ⟨a, rfl, hn⟩ <;> rcases h'.yes rfl with ⟨b, y0, y6, hn', hr'⟩ | ⟨b, rfl, hn'⟩
    · refine ⟨?_, a.trans b.symm⟩
      rcases Int.lt_trichotomy z z' with h | h | h
      · exact absurd hr (hn' z z0 h)
      · exact h
      · exact absurd hr' (hn z' y0 h)
    · exact absurd hr (hn' z z0 (by omega))
    · exact absurd hr' (hn z' y0 (by omega))
    · exact ⟨rfl, a.trans b.symm⟩
def LeastPost (nar : Bool) (F0 : List (List Int)) (w : World) (e : Ending) (w' : World) : Prop := ∃ z ok, e = .returned (.tuple #[.int .i64 z, .bool ok]) ∧ LeastAns nar F0 z ok ∧ Below w.heap.size w w'

set_option maxRecDepth 100000 in
set_option maxHeartbeats 4000000 in
theorem specLeast_any (vars : Int) (v : Value) (F0 : List (List Int)) (F : List Nat) (w : World) (hx : (Ty.slice Ty.int).row false w v F0 F) :
    Calls Try.prog 19 #[.agg #[.int .i64 vars, v]] w (LeastPost (narB vars F0) F0 w) := by
  obtain ⟨a, cp, rfl, _, _⟩ := Ty.row_len hx
  have S0 := (Sp.start w).alloc_box #[.int .i64 vars, .slice a F0.length cp] 29
  replace S0 := Lib.hid S0
  have hxr := Lib.hid hx
  cases hq1 : narB vars F0
  · go_enter Try.func19, Try.ntmps19
    go_wp2_with fail
    refine (l10Good_any vars _ F0 F _ (Ty.row_below hxr.out S0.out.below (Ty.row_lt hxr.out))).mono ?_
    rw [hq1]
    rintro e w1 ⟨rfl, hb1⟩
    have S1 := Lib.hid (S0.out.grow hb1)
    go_wp2_with fail
    go_ret2
    exact ⟨_, _, rfl, ⟨fun _ => ⟨rfl, rfl⟩, fun h => (by cases h)⟩, S1.out.below⟩
  obtain ⟨hG, h60⟩ := nar_good hq1
  replace hG := Lib.hid hG
  go_enter Try.func19, Try.ntmps19
  go_wp2_with fail
  refine (l10Good_any vars _ F0 F _ (Ty.row_below hxr.out S0.out.below (Ty.row_lt hxr.out))).mono ?_
  rw [hq1]
  rintro e w1 ⟨rfl, hb1⟩
  have S1 := S0.out.grow hb1
  have c0 := S1.cell (i := 0) rfl (o := 0) rfl
  have d1 := S1.cell (i := 0) rfl (o := 1) rfl
  replace S1 := Lib.hid S1
  clear S0 hb1 hx
  go_wp2_with fail
  refine (l10Least_any vars _ F0 F _ (Ty.row_below hxr.out S1.out.below (Ty.row_lt hxr.out)) hG.out h60).mono ?_
  rintro e w2 ⟨z, rfl, hz, hb2⟩
  have hB := (S1.out.grow hb2).below
  rcases hz with ⟨rfl, hn⟩ | ⟨z0, z6, hn, hr⟩
  · have hA : Hid (LeastAns true F0 0 false) := ⟨fun h => (by cases h), fun _ => .inr ⟨rfl, rfl, hn⟩⟩
    clear hn
    go_wp2_with fail
    go_ret2
    exact ⟨_, _, rfl, hA.out, hB⟩
  · have hA : Hid (LeastAns true F0 z true) := ⟨fun h => (by cases h), fun _ => .inl ⟨rfl, z0, z6, hn, hr⟩⟩
    clear hn hr
    go_wp2_with fail
    go_ret2
    exact ⟨_, _, rfl, hA.out, hB⟩
end Go.Proofs.Ytebpknekaljgnaa
