/- Lemmas and contracts for a law, put together out of several texts: CoH MdQ CoU CoK CoN CoO CoJ. -/
import Derived.Test.YtmikconjhmhekaaMg7
import Derived.Test.YtmikconjhmhekaaMg4
import Derived.Test.YtmikconjhmhekaaMg9
import Derived.Test.YtmikconjhmhekaaMg5
import Derived.Laws.Append
/- Contract: the core of a Cnf, in the reference. -/
namespace Go.Proofs.Ytmikconjhmhekaa
open Go.RowKit

def lenV (v : Value) : Nat := match v with
  | .slice _ n _ => n
  | _ => 0
theorem own_cap {w : World} {B : Nat} {e : TypeId} {size n c : Nat} {A : Option Addr} {xs : List Value} (h : w.ownsRow B e size (.slice A n c) n xs) : n ≤ c := by
  obtain ⟨_, ⟨h1, _⟩ | ⟨g, cap, cur, h1, _, _, hn, _⟩⟩ := h
  · cases h1; exact Nat.le_refl _
  · cases h1; exact hn

/-- The answer's own row, where there is one. -/
def IOwn (w : World) (ok : Bool) (zs : List Int) (e : Ending) (w' : World) : Prop :=
  ∃ B cap, e = .returned (.tuple #[.slice B zs.length cap, .bool ok]) ∧ IntsAt w' B zs ∧ Below w.heap.size w w' ∧ (ok = true → Sp w w' [Own 3 1 (.slice B zs.length cap) zs.length (zs.map (.int .i64))])

set_option maxRecDepth 100000 in
set_option maxHeartbeats 8000000 in
theorem specCoreOf_own (vars : Int) (v : Value) (xss : List (List Int)) (F : List Nat) (w : World) (hx : (Ty.slice Ty.int).row false w v xss F) :
    Calls Try.prog 27 #[.agg #[.int .i64 vars, v]] w (IOwn w (coreOk vars.toNat vars xss) (if coreOk vars.toNat vars xss then ofN (coreL vars.toNat xss) else [])) := by
  obtain ⟨A, cap, rfl, hI⟩ := cls_row hx
  have S0 := (Sp.start w).alloc_box #[.int .i64 vars, .slice A xss.length cap] 26
  have hcall := Lib.hid (l2Good_any vars _ xss F _ (Ty.row_below hx S0.below (Ty.row_lt hx)))
  replace S0 := Lib.hid S0
  have c0 := S0.out.cell (i := 0) rfl (o := 0) rfl
  have c1 := S0.out.cell (i := 0) rfl (o := 1) rfl
  clear hx
  cases h1 : goodB vars xss
  · rw [h1] at hcall
    rw [show coreOk vars.toNat vars xss = false by unfold coreOk; rw [h1]; rfl]
    go_enter Try.func27, Try.ntmps27
    go_wp2_with fail
    refine hcall.out.mono ?_
    rintro e w1 ⟨rfl, hb1⟩
    have hB := Lib.hid (S0.out.grow hb1).below
    clear hcall S0 c0 c1 hb1
    go_wp2_with fail
    go_ret2
    exact ⟨_, _, rfl, ⟨fun j hj => by simp at hj, fun c hc => by simp at hc⟩, bal hB.out _, fun h => by cases h⟩
  have hg := good_cnf h1
  rw [h1] at hcall
  obtain ⟨n, rfl⟩ := Int.eq_ofNat_of_zero_le hg.1.1
  rw [show (n : Int).toNat = n by omega]
  have hn : n ≤ 12 := by omega
  have hsat := Lib.hid (fun W hb => l5Sat_any n hn xss hg.2.2.2 (by omega) A cap W (hI.grow hb))
  have hok : coreOk n n xss = !(List.range (2 ^ n)).any (modT xss) := by unfold coreOk; rw [h1, Bool.true_and]
  rw [hok]
  have hl60 := hg.2.1
  cases hq : (List.range (2 ^ n)).any (modT xss)
  case true =>
    rw [hq] at hsat
    go_enter Try.func27, Try.ntmps27
    go_wp2_with fail
    refine hcall.out.mono ?_
    rintro e w1 ⟨rfl, hb1⟩
    have S1 := Lib.hid (S0.out.grow hb1)
    clear hcall S0 c0 c1 hb1
    have c0 := S1.out.cell (i := 0) rfl (o := 0) rfl
    have c1 := S1.out.cell (i := 0) rfl (o := 1) rfl
    go_wp2_with fail
    refine (hsat.out _ S1.out.below).mono ?_
    rintro e w2 ⟨rfl, hb2⟩
    have hB := Lib.hid (S1.out.grow hb2).below
    clear hsat S1 c0 c1 hb2
    go_wp2_with fail
    go_ret2
    exact ⟨_, _, rfl, ⟨fun j hj => by simp at hj, fun c hc => by simp at hc⟩, bal hB.out _, fun h => by cases h⟩
  case false =>
    rw [hq] at hsat
    have hic := Lib.hid (fun is (hi : AscN xss.length is) D dc W (h : Below w.heap.size w W) (hy : IntsAt W D (ofN is)) => l5Core_any n hn xss hg.2.2.2 is hi.2 (by have := asc_len hi; omega) A D cap dc W (hI.grow h) hy)
    have hcL : Hid (coreGo (coreB n xss) [] (List.range xss.length) = coreL n xss) := rfl
    have has0 : Hid (AscN xss.length ([] ++ List.range xss.length)) := range_asc _
    obtain ⟨P, hP⟩ : ∃ P, coreB n xss = P := ⟨_, rfl⟩
    rw [hP] at hcL
    simp only [hP] at hic
    generalize coreL n xss = CL at *
    simp only [Bool.not_false, if_true]
    have hclen : Hid (∀ x ∈ ofN CL, I64 x) := by
      unfold Hid
      refine ofN_ok (m := xss.length) (by omega) ?_
      rw [← hcL.out]
      exact has0.out.sub (coreGo_sub P (List.range xss.length) [])
    obtain ⟨m, hm⟩ : ∃ m, xss.length = m := ⟨_, rfl⟩
    rw [hm] at S0 c1 hcall hsat hic hcL has0 hl60 ⊢
    clear hI hg h1 hq hok hP
    replace hm := Lib.hid hm
    go_enter Try.func27, Try.ntmps27
    go_wp2_with fail
    refine hcall.out.mono ?_
    rintro e w1 ⟨rfl, hb1⟩
    have S1 := Lib.hid (S0.out.grow hb1)
    clear hcall S0 c0 c1 hb1
    have c0 := S1.out.cell (i := 0) rfl (o := 0) rfl
    have c1 := S1.out.cell (i := 0) rfl (o := 1) rfl
    go_wp2_with fail
    refine (hsat.out _ S1.out.below).mono ?_
    rintro e w2 ⟨rfl, hb2⟩
    have S2 := Lib.hid (S1.out.grow hb2)
    clear hsat S1 c0 c1 hb2
    have c0 := S2.out.cell (i := 0) rfl (o := 0) rfl
    have c1 := S2.out.cell (i := 0) rfl (o := 1) rfl
    go_wp2_with fail
    refine (l5Indices_any n A m cap (by omega) _).mono ?_
    rintro e w3 ⟨B, c, rfl, T3⟩
    have hkl : Hid (([] ++ List.range m : List Nat).length = m) := by simp [Hid]
    have S3 : Hid (Sp w w3 [Own 3 1 (.slice B m c) m ((ofN ([] ++ List.range m)).map (.int .i64)), Box w.heap.size 26 #[.int .i64 n, .slice A m cap]]) := S2.out.seq T3
    clear S2 T3 c0 c1
    go_wp2_with fail
    go_loopw [4, 5, 6] (fun vc vi _ wr => ∃ (l i : Nat) (kept rest : List Nat) (B : Option Addr) (cc : Nat), i ≤ l ∧ l ≤ m ∧ vi = .int .i64 i ∧ vc = .slice B l cc ∧ Hid (kept.length = i) ∧ Hid ((kept ++ rest).length = l) ∧ Hid (coreGo P kept rest = CL) ∧ Hid (AscN m (kept ++ rest)) ∧
      Hid (Sp w wr [Own 3 1 (.slice B l cc) l ((ofN (kept ++ rest)).map (.int .i64)), Box w.heap.size 26 #[.int .i64 n, .slice A m cap]])) (fun vc vi _ _ => lenV vc - (intOf vi).toNat)
    case atStart => exact ⟨m, 0, [], _, _, c, Nat.zero_le _, Nat.le_refl _, rfl, rfl, rfl, hkl, hcL, has0, S3⟩
    case round =>
      obtain ⟨l, i, kept, rest, B, cc, hil, hlm, rfl, rfl, hki, hkl2, hgo, has, HS⟩ := hrel
      clear S3 hcL has0 hkl
      by_cases hlt : i < l
      · obtain ⟨x, rest, rfl⟩ : ∃ x r, rest = x :: r := by
          cases rest with
          | nil => have := hkl2.out; have := hki.out; rw [List.append_nil] at *; omega
          | cons x r => exact ⟨x, r, rfl⟩
        have hasH := has.out
        have hgoH := hgo.out
        have hklH := hkl2.out
        have hSH := HS.out
        have hoI := ofN_ok (by omega) hasH
        have hol : (ofN (kept ++ x :: rest)).length = l := by rw [ofN_len]; exact hklH
        have hown := hSH.own (i := 0) rfl
        have hcap := own_cap hown
        rw [← hol] at hown
        obtain ⟨B', c', e1, hT⟩ := ints_own hown hoI
        simp only [Value.slice.injEq] at e1
        obtain ⟨rfl, -, rfl⟩ := e1
        have hwo := l5Skip_any B l cc i _ wr hT hol (by omega) hlt hcap
        rw [← hki.out, ofN_erase, hki.out] at hwo
        have has2 : AscN m (kept ++ rest) := hasH.sub (List.Sublist.append_left (List.sublist_cons_self _ _) _)
        have hlen2 : (kept ++ rest).length = l - 1 := by rw [← hklH]; simp
        have hlen3 : ((kept ++ [x]) ++ rest).length = l := by rw [← hklH]; simp
        have hl2 : (ofN (kept ++ rest)).length = l - 1 := by rw [ofN_len]; exact hlen2
        have hS3 : Sp w wr [Own 3 1 (.slice B l cc) l ((ofN ((kept ++ [x]) ++ rest)).map (.int .i64)), Box w.heap.size 26 #[.int .i64 n, .slice A m cap]] := by
          rw [List.append_assoc]; exact hSH
        have has3 : AscN m ((kept ++ [x]) ++ rest) := by rw [List.append_assoc]; exact hasH
        have hki3 : (kept ++ [x]).length = i + 1 := by rw [← hki.out]; simp
        have hyes := fun (h : P (kept ++ rest) = true) => (coreGo_yes h).symm.trans hgoH
        have hno := fun (h : P (kept ++ rest) = false) => (coreGo_no h).symm.trans hgoH
        replace hwo := Lib.hid hwo
        replace hyes := Lib.hid hyes
        replace hno := Lib.hid hno
        replace has2 := Lib.hid has2
        replace has3 := Lib.hid has3
        replace hS3 := Lib.hid hS3
        replace hlen2 := Lib.hid hlen2
        replace hlen3 := Lib.hid hlen3
        replace hl2 := Lib.hid hl2
        replace hki3 := Lib.hid hki3
        have hoI2 := Lib.hid (ofN_ok (by omega) has2.out)
        clear hasH hgoH hklH hSH hgo has hkl2 HS hoI hol hown hT
        go_wp2_with fail
        refine hwo.out.mono ?_
        rintro e w5 ⟨B5, c5, rfl, T5⟩
        have S5 := hS3.out.seq T5
        have hown5 := S5.own (i := 0) rfl
        rw [← hl2.out] at hown5
        obtain ⟨B', c', e1, hT5⟩ := ints_own hown5 hoI2.out
        rw [hl2.out] at e1
        simp only [Value.slice.injEq] at e1
        obtain ⟨rfl, -, rfl⟩ := e1
        have hcc := hic.out _ has2.out B5 c5 w5 S5.below hT5
        rw [hlen2.out] at hcc
        have d0 := S5.cell (i := 2) rfl (o := 0) rfl
        have d1 := S5.cell (i := 2) rfl (o := 1) rfl
        replace S5 := Lib.hid S5
        replace hcc := Lib.hid hcc
        obtain ⟨q, hqq⟩ : ∃ q, P (kept ++ rest) = q := ⟨_, rfl⟩
        rw [hqq] at hcc
        replace hqq := Lib.hid hqq
        clear hwo hS3 T5 hown5 hT5
        go_wp2_with fail
        refine hcc.out.mono ?_
        rintro e w6 ⟨rfl, hb6⟩
        have S6 := Lib.hid (S5.out.grow hb6)
        clear hcc S5 hb6 d0 d1
        cases q
        · have hgo2 := Lib.hid (hno.out hqq.out)
          have S7 : Hid (Sp w w6 [Own 3 1 (.slice B l cc) l ((ofN ((kept ++ [x]) ++ rest)).map (.int .i64)), Box w.heap.size 26 #[.int .i64 n, .slice A m cap]]) := S6.out.tail
          clear S6 hno hyes hlen2 hl2 has2
          go_wp2_with fail
          go_roundw
          case rel => exact ⟨l, i + 1, kept ++ [x], rest, B, cc, by omega, hlm, by go_num, rfl, hki3, hlen3, hgo2, has3, S7⟩
          case measure => simp [intOf, lenV]; omega
        · have hgo2 := Lib.hid (hyes.out hqq.out)
          have S7 : Hid (Sp w w6 [Own 3 1 (.slice B5 (l - 1) c5) (l - 1) ((ofN (kept ++ rest)).map (.int .i64)), Box w.heap.size 26 #[.int .i64 n, .slice A m cap]]) := Sp.pick [0, 1] S6.out rfl
          clear S6 hno hyes hl2 has3
          go_wp2_with fail
          go_roundw
          case rel => exact ⟨l - 1, i, kept, rest, B5, c5, by omega, by omega, rfl, rfl, hki, hlen2, hgo2, has2, S7⟩
          case measure => simp [intOf, lenV]; omega
      · obtain rfl : i = l := by omega
        obtain rfl : rest = [] := by
          have h1 := hkl2.out
          have h2 := hki.out
          rw [List.length_append] at h1
          exact List.length_eq_zero_iff.1 (by omega)
        have hgo2 := hgo.out
        rw [coreGo] at hgo2
        subst hgo2
        have hS3 := HS.out
        rw [List.append_nil] at hS3
        have hol : (ofN kept).length = i := by rw [ofN_len]; exact hki.out
        have hsp := Sp.pick (qs := [Own 3 1 (.slice B i cc) i ((ofN kept).map (.int .i64))]) [0] hS3 rfl
        rw [← hol] at hsp
        replace hsp := Lib.hid hsp
        have hown := hS3.own (i := 0) rfl
        rw [← hol] at hown
        obtain ⟨B', c', e1, hT⟩ := ints_own hown hclen.out
        rw [hol] at e1
        simp only [Value.slice.injEq] at e1
        obtain ⟨rfl, -, rfl⟩ := e1
        have hB := Lib.hid hS3.below
        replace hT := Lib.hid hT
        replace hol := Lib.hid hol
        clear hS3 HS hown hkl2 hgo has hki
        go_wp2_with fail
        go_ret2
        exact ⟨B, cc, by first | (rw [hol.out]; rfl) | rw [hol.out], hT.out, hB.out, fun _ => hsp.out⟩

theorem specCoreOf_any (vars : Int) (v : Value) (xss : List (List Int)) (F : List Nat) (w : World) (hx : (Ty.slice Ty.int).row false w v xss F) :
    Calls Try.prog 27 #[.agg #[.int .i64 vars, v]] w (IAns w (coreOk vars.toNat vars xss) (if coreOk vars.toNat vars xss then ofN (coreL vars.toNat xss) else [])) :=
  (specCoreOf_own vars v xss F w hx).mono fun _ _ ⟨B, cap, h1, h2, h3, _⟩ => ⟨B, cap, h1, h2, h3⟩
end Go.Proofs.Ytmikconjhmhekaa

/- Contracts: clauses joined and resolved in the reference, told weakly. -/
namespace Go.Proofs.Ytmikconjhmhekaa
open Go.RowKit

/-- A row of its own within bounds, and a flag. -/
def JoinW (n : Nat) (w : World) (e : Ending) (w' : World) : Prop :=
  ∃ v c q, e = .returned (.tuple #[v, .bool q]) ∧ w'.ownsRow w.heap.size 3 1 v c.length (c.map (.int .i64)) ∧ c.length ≤ n ∧ Within 1000 c ∧ Below w.heap.size w w'
theorem Sp.drop2w {w0 w : World} {p q : Asn} {ps : List Asn} (h : Sp w0 w (p :: q :: ps)) : Sp w0 w (p :: ps) := h.swap.tail

set_option maxRecDepth 100000 in
set_option maxHeartbeats 4000000 in
theorem l2JoinW_any (v u : Value) (a b : List Int) (F G : List Nat) (w : World) (hx : Ty.int.row false w v a F) (hy : Ty.int.row false w u b G) (wa : Within 1000 a) (wb : Within 1000 b) (la : a.length ≤ 1000) (lb : b.length ≤ 1000) :
    Calls Try.prog 176 #[v, u] w (JoinW (a.length + b.length) w) := by
  obtain ⟨aa, ac, rfl, _, _⟩ := Ty.row_len hx
  obtain ⟨ba, bc, rfl, hy1, hy2, _, hy3⟩ := row_int hy
  go_enter Try.func176, Try.ntmps176
  go_wp2_with fail
  refine (l1Own_any _ a F w hx (by omega)).mono ?_
  rintro e w1 ⟨v1, rfl, ho1, hb1⟩
  have S0 := (Sp.start w).own_call hb1 ho1
  obtain ⟨a1, c1, rfl⟩ := owns_form ho1
  replace S0 := Lib.hid S0
  have hW0 := Lib.hid wa
  clear ho1 hb1
  go_wp2_with fail
  go_loopw [6, 7] (fun s i wr => ∃ (k : Nat) (out : List Int), k ≤ b.length ∧ i = .int .i64 k ∧ out.length ≤ a.length + k ∧ Hid (Within 1000 out) ∧ Hid (Sp w wr [Own 3 1 s out.length (out.map (.int .i64))])) (fun _ i _ => b.length - (intOf i).toNat)
  case atStart => exact ⟨0, a, Nat.zero_le _, rfl, by omega, hW0, S0⟩
  case round =>
    obtain ⟨k, out, hk, rfl, hol, HW, HS⟩ := hrel
    clear S0
    obtain ⟨sa, sc, rfl⟩ := owns_form (HS.out.own (i := 0) rfl)
    by_cases hlt : k < b.length
    · rcases hy3 with ⟨rfl, rfl⟩ | ⟨hyn, bk, off, rfl, rfl, hyc⟩
      · exact absurd hlt (by simp)
      have hB := HS.out.below
      have k0 := ((hyc k hlt).keep (hB.block bk (hyc k hlt).lt)).1
      have hl6 := wb _ (List.getElem_mem hlt)
      obtain ⟨H, hrow', -, -⟩ := own_row (HS.out.own (i := 0) rfl) (HW.out.i64 (by decide))
      have hrow := Ty.row_down hrow'
      obtain ⟨l, hl⟩ : ∃ l, l = b[k] := ⟨_, rfl⟩
      rw [← hl] at k0 hl6
      have hneg : wrap64 (-l) = -l := by unfold wrap64; omega
      have hl0 : -1000 ≤ l := hl6.1
      have hl1 : l ≤ 1000 := hl6.2
      replace hl := Lib.hid hl
      clear hyc hB hl hl6 hrow'
      cases hq : hasI out (-l)
      · cases hq2 : hasI out l
        · have HN := Lib.hid (within_put HW.out ⟨hl0, hl1⟩)
          have hpl := Lib.hid (put_len out l)
          have hol9 : out.length ≤ 1000000000 := by omega
          go_wp2_with (first
            | (go_at_call 101; (first | (with_reducible refine (l2Has_at hrow hq).mono ?_) | (with_reducible refine (l2Has_at hrow hq2).mono ?_)); rintro e w2 ⟨rfl, rfl⟩)
            | (go_at_call 203; (with_reducible refine (l2Put_any _ out l H _ hrow hol9).mono ?_); rintro e w2 ⟨v2, rfl, ho2, hb2⟩))
          have S1 := (HS.out.own_call hb2 ho2).drop2w
          obtain ⟨a2, c2, rfl⟩ := owns_form ho2
          replace S1 := Lib.hid S1
          clear ho2 hb2 HS hrow
          generalize putB out l = out2 at *
          go_wp2_with fail
          go_roundw
          case rel => exact ⟨k + 1, out2, by omega, by go_num, by rw [hpl.out]; omega, HN, S1⟩
          case measure => simp [intOf]; omega
        · go_wp2_with (first
            | (go_at_call 101; (first | (with_reducible refine (l2Has_at hrow hq).mono ?_) | (with_reducible refine (l2Has_at hrow hq2).mono ?_)); rintro e w2 ⟨rfl, rfl⟩))
          go_roundw
          case rel => exact ⟨k + 1, out, by omega, by go_num, by omega, HW, HS⟩
          case measure => simp [intOf]; omega
      · go_wp2_with (first
          | (go_at_call 101; (first | (with_reducible refine (l2Has_at hrow hq).mono ?_)); rintro e w2 ⟨rfl, rfl⟩))
        have S1 := Lib.hid (HS.out.own_made 3 1)
        go_ret2
        exact ⟨_, [], false, rfl, S1.out.owns_end (i := 0) rfl, by simp, fun x hx => by simp at hx, S1.out.below⟩
    · obtain rfl : k = b.length := by omega
      go_wp2_with fail
      go_ret2
      exact ⟨_, out, true, rfl, HS.out.owns_end (i := 0) rfl, by omega, HW.out, HS.out.below⟩

set_option maxRecDepth 100000 in
set_option maxHeartbeats 4000000 in
theorem l2ResolveW_any (x y : Value) (a b : List Int) (v : Int) (F G : List Nat) (w : World) (hx : Ty.int.row false w x a F) (hy : Ty.int.row false w y b G) (wa : Within 1000 a) (wb : Within 1000 b) (la : a.length ≤ 500) (lb : b.length ≤ 500) (h0 : -20 ≤ v) (h1 : v ≤ 20) :
    Calls Try.prog 102 #[x, y, .int .i64 v] w (JoinW (a.length + b.length) w) := by
  obtain ⟨aa, ac, rfl, _, _⟩ := Ty.row_len hx
  obtain ⟨ba, bc, rfl, _, _⟩ := Ty.row_len hy
  have hneg : wrap64 (-v) = -v := by unfold wrap64; omega
  cases hq : hasI a v
  · go_enter Try.func102, Try.ntmps102
    go_wp2_with (go_at_call 101; (with_reducible refine (l2Has_at hx hq).mono ?_); rintro e w2 ⟨rfl, rfl⟩)
    have S1 := Lib.hid ((Sp.start w).own_made 3 1)
    go_ret2
    exact ⟨_, [], false, rfl, S1.out.owns_end (i := 0) rfl, by simp, fun x hx => by simp at hx, S1.out.below⟩
  cases hq2 : hasI b (-v)
  · go_enter Try.func102, Try.ntmps102
    go_wp2_with (go_at_call 101; (first | (with_reducible refine (l2Has_at hx hq).mono ?_) | (with_reducible refine (l2Has_at hy hq2).mono ?_)); rintro e w2 ⟨rfl, rfl⟩)
    have S1 := Lib.hid ((Sp.start w).own_made 3 1)
    go_ret2
    exact ⟨_, [], false, rfl, S1.out.owns_end (i := 0) rfl, by simp, fun x hx => by simp at hx, S1.out.below⟩
  have g1 := Lib.hid (within_without wa v)
  have g2 := Lib.hid (within_without wb v)
  have l1 : (withoutB a v).length ≤ a.length := List.length_filter_le _ _
  have l2 : (withoutB b v).length ≤ b.length := List.length_filter_le _ _
  have hw1 := Lib.hid (l2Without_any _ a v F w hx (by omega))
  have hw2 := Lib.hid (fun W (h : Below w.heap.size w W) => l2Without_any _ b v G W (Ty.row_grow hy h) (by omega))
  generalize withoutB a v = a' at *
  generalize withoutB b v = b' at *
  go_enter Try.func102, Try.ntmps102
  go_wp2_with (go_at_call 101; (first | (with_reducible refine (l2Has_at hx hq).mono ?_) | (with_reducible refine (l2Has_at hy hq2).mono ?_)); rintro e w2 ⟨rfl, rfl⟩)
  refine hw1.out.mono ?_
  rintro e w1 ⟨v1, rfl, ho1, hb1⟩
  have S1 := (Sp.start w).own_call hb1 ho1
  obtain ⟨a1, c1, rfl⟩ := owns_form ho1
  replace S1 := Lib.hid S1
  clear ho1 hw1 hx hy
  go_wp2_with fail
  refine (hw2.out w1 hb1).mono ?_
  rintro e w2 ⟨v2, rfl, ho2, hb2⟩
  have S2 := S1.out.own_call hb2 ho2
  obtain ⟨a2, c2, rfl⟩ := owns_form ho2
  obtain ⟨H1, r1, -, -⟩ := own_row (S2.own (i := 1) rfl) (g1.out.i64 (by decide))
  obtain ⟨H2, r2, -, -⟩ := own_row (S2.own (i := 0) rfl) (g2.out.i64 (by decide))
  have hj := Lib.hid (l2JoinW_any _ _ _ _ H1 H2 w2 (Ty.row_down r1) (Ty.row_down r2) g1.out g2.out (by omega) (by omega))
  have hB2 := Lib.hid S2.below
  clear ho2 S1 S2 r1 r2 hw2 hb1 hb2
  go_wp2_with fail
  refine hj.out.mono ?_
  rintro e w3 ⟨v3, c, q, rfl, ho3, hc1, hc2, hb3⟩
  obtain ⟨a3, c3, rfl⟩ := owns_form ho3
  have hB3 := Lib.hid (btr hB2.out hb3)
  have hres : Hid (w3.ownsRow w.heap.size 3 1 (.slice a3 c.length c3) c.length (c.map (.int .i64))) := owns_base (owns_zero ho3) fun g hg => Nat.le_trans hB2.out.size (owns_ge ho3 g hg)
  replace hc2 := Lib.hid hc2
  clear hj ho3 hb3 hB2
  go_wp2_with fail
  go_ret2
  exact ⟨_, c, q, rfl, hres.out, by omega, hc2.out, hB3.out⟩
end Go.Proofs.Ytmikconjhmhekaa

/- Contract: the drawn Cnf of LeastCore. -/
namespace Go.Proofs.Ytmikconjhmhekaa
open Go.RowKit

def Lc5D (w : World) (e : Ending) (w' : World) : Prop := ∃ (vars : Int) (B : Option Addr) (cap : Nat) (cs : List Value) (xss : List (List Int)),
  e = .returned (.agg #[.int .i64 vars, .slice B xss.length cap]) ∧ -1 ≤ vars ∧ vars ≤ 13 ∧ xss.length ≤ 80 ∧ SmallR 13 xss ∧
  Sp w w' [Rows Ty.int 30 (.slice B xss.length cap) cs xss]

set_option maxRecDepth 100000 in
set_option maxHeartbeats 16000000 in
theorem drawLeast5_any (ca : Option Addr) (cl cc : Nat) (w : World) (hc : CodeOk w ca cl) (hs : cl ≤ 65536) : Calls Try.prog 25 #[.slice ca cl cc] w (Lc5D w) := by
  have S0 := ((Sp.start w).alloc_box #[.int .i64 0, .slice none 0 0] 26).cur_laid ca cl cc
  simp only [World.size_alloc] at S0
  have hi := Lib.hid (S0.cur (A' := 0) (i := 0) rfl hc hs).1
  obtain ⟨gc, hgc⟩ : ∃ gc, w.heap.size + 1 = gc := ⟨_, rfl⟩
  rw [hgc] at S0 hi
  replace S0 := Lib.hid S0
  have hcH := Lib.hid hc
  obtain ⟨_, cq0, cq1, cq2, cq3⟩ := info_parts infoRow
  clear hc
  go_enter Try.func25, Try.ntmps25
  go_wp2_with fail
  refine (cur_hard 0 gc ca cl cc _ hi.out (by omega)).mono ?_
  rintro e w1 ⟨vars, B, cap, cs, xss, rfl, hv0, hv1, hl, HC, T⟩
  replace HC := Lib.hid HC
  have S1 := (S0.out.cs_call T hcH.out hs).alloc_box #[.int .i64 vars, .slice B xss.length cap] 26
  clear T S0 hi
  obtain ⟨fb, hfb⟩ : ∃ fb, w1.heap.size = fb := ⟨_, rfl⟩
  rw [hfb] at S1
  have S2 : Hid (Sp w (w1.alloc (.cells #[.int .i64 vars, .slice B xss.length cap] 26)) [Box fb 26 #[.int .i64 vars, .slice B xss.length cap], Rows Ty.int 30 (.slice B xss.length cap) cs xss, CurA 400 gc ca cl cc, Box w.heap.size 26 #[.int .i64 0, .slice none 0 0]]) := S1
  clear S1
  have hcu := (S2.out.cur (A' := 410) (i := 2) rfl hcH.out hs).1
  go_wp2_with fail
  refine (cur_one 6 _ gc ca cl cc _ hcu (by omega) (by omega)).mono ?_
  rintro e w3 ⟨_, ⟨q, rfl⟩, rfl, hi3, hc3⟩
  have S4 := Lib.hid ((S2.out.cur (A' := 410) (i := 2) rfl hcH.out hs).2 w3 (hi3.mono (by omega)) hc3)
  clear S2 hcu hi3 hc3
  replace S4 : Hid (Sp w w3 [Box fb 26 #[.int .i64 vars, .slice B xss.length cap], Rows Ty.int 30 (.slice B xss.length cap) cs xss, CurA 410 gc ca cl cc, Box w.heap.size 26 #[.int .i64 0, .slice none 0 0]]) := S4
  go_upto_if 12 with fail
  go_cut [] (fun wx => ∃ (B : Option Addr) (cap : Nat) (cs : List Value) (ys : List (List Int)) (A : Nat), ys.length ≤ 80 ∧ Hid (SmallR 13 ys) ∧ Hid (Sp w wx [Box fb 26 #[.int .i64 vars, .slice B ys.length cap], Rows Ty.int 30 (.slice B ys.length cap) cs ys, CurA A gc ca cl cc, Box w.heap.size 26 #[.int .i64 0, .slice none 0 0]]))
  case first =>
    cases q
    · go_wp2_with fail
      go_meet
      exact ⟨B, cap, cs, xss, _, by omega, HC, S4⟩
    · have hcu := (S4.out.cur (A' := 420) (i := 2) rfl hcH.out hs).1
      go_wp2_with fail
      refine (cur_pick_at (lo := 0) (hi := 2) hcu (by omega) (by omega) (by omega) (by omega) (by omega)).mono ?_
      rintro e w5 ⟨_, ⟨x, hx0, hx1, rfl⟩, rfl, hi5, hc5⟩
      have S5 := Lib.hid ((S4.out.cur (A' := 420) (i := 2) rfl hcH.out hs).2 w5 (hi5.mono (by omega)) hc5)
      clear S4 hcu hi5 hc5
      replace S5 : Hid (Sp w w5 [Box fb 26 #[.int .i64 vars, .slice B xss.length cap], Rows Ty.int 30 (.slice B xss.length cap) cs xss, CurA 420 gc ca cl cc, Box w.heap.size 26 #[.int .i64 0, .slice none 0 0]]) := S5
      obtain ⟨m0, rfl⟩ := Int.eq_ofNat_of_zero_le hx0
      have hm : IntKind.i64.wrap (11 + (m0 : Int)) = 11 + m0 := IntWalk.i64_in _ (by omega)
      go_wp2_with fail
      go_loopw [] (fun wr => ∃ (B : Option Addr) (cap : Nat) (cs : List Value) (ys : List (List Int)), ys.length ≤ 80 ∧ Hid (SmallR 13 ys) ∧ wr.cell? ⟨fb, 1, none⟩ = some (.slice B ys.length cap) ∧ Hid (Sp w wr [Box fb 26 #[.int .i64 vars, .slice B ys.length cap], Rows Ty.int 30 (.slice B ys.length cap) cs ys, CurA (420 + 100 * ys.length) gc ca cl cc, Box w.heap.size 26 #[.int .i64 0, .slice none 0 0]])) (fun wr => 80 - (match wr.cell? ⟨fb, 1, none⟩ with | some (.slice _ l _) => l | _ => 0))
      case atStart => 
        refine ⟨B, cap, cs, xss, by omega, HC, S5.out.cell (i := 0) rfl (o := 1) rfl, ?_⟩
        have := (S5.out.cur (A' := 420 + 100 * xss.length) (i := 2) rfl hcH.out hs)
        exact this.2 _ (this.1.mono (by omega)) (Chg.refl _ _)
      case round =>
        clear S5 HC
        obtain ⟨B, cap, cs, ys, hyl, HC, l1, HS⟩ := hrel
        by_cases hlt : (ys.length : Int) < 11 + m0
        · have d1 : decide ((ys.length : Int) < 11 + m0) = true := decide_eq_true hlt
          have l0 := HS.out.cell (i := 0) rfl (o := 0) rfl
          go_wp2_with fail
          refine wp_region_tail_lit (S := (fun w' => w'.cell? ⟨fb, 0, none⟩ = some (.int .i64 vars) ∧ w'.cell? ⟨fb, 1, none⟩ = some (.slice B ys.length cap))) 7 [false, false, false, false, false, false, false, false, false, false] (by kernel_rfl) (by kernel_rfl) (by kernel_rfl) ?_ ?_
          · exact ⟨l0, l1⟩
          intro hSc
          (refine walkT_take (i := 0) (v := ?_) rfl (by kernel_rfl) (by decide) (by kernel_rfl) (by kernel_rfl) (fun _ _ _ h => h) (Or.inl ⟨by rfl, ?_⟩) (by assumption) ?_; rotate_left; (focus (intro w hSw; (try dsimp only at hSw); go_simp; (try with_reducible rfl); done)); (try simp only [put_rules]))
          (refine walkT_take (i := 1) (v := ?_) rfl (by kernel_rfl) (by decide) (by kernel_rfl) (by kernel_rfl) (fun _ _ _ h => h) (Or.inl ⟨by rfl, ?_⟩) (by assumption) ?_; rotate_left; (focus (intro w hSw; (try dsimp only at hSw); go_simp; (try with_reducible rfl); done)); (try simp only [put_rules]))
          (refine walkT_take (i := 2) (v := ?_) rfl (by kernel_rfl) (by decide) (by kernel_rfl) (by kernel_rfl) (fun _ _ _ h => h) (Or.inl ⟨by rfl, ?_⟩) (by assumption) ?_; rotate_left; (focus (intro w hSw; (try dsimp only at hSw); go_simp; (try with_reducible rfl); done)); (try simp only [put_rules]))
          (refine walkT_take (i := 3) (v := ?_) rfl (by kernel_rfl) (by decide) (by kernel_rfl) (by kernel_rfl) (fun _ _ _ h => h) (Or.inl ⟨by rfl, ?_⟩) (by assumption) ?_; rotate_left; (focus (intro w hSw; (try dsimp only at hSw); go_simp; (try with_reducible rfl); done)); (try simp only [put_rules]))
          (refine walkT_take (i := 4) (v := ?_) rfl (by kernel_rfl) (by decide) (by kernel_rfl) (by kernel_rfl) (fun _ _ _ h => h) (Or.inl ⟨by rfl, ?_⟩) (by assumption) ?_; rotate_left; (focus (intro w hSw; (try dsimp only at hSw); go_simp; (try with_reducible rfl); done)); (try simp only [put_rules]))
          (refine walkT_ready (rs := [5]) (by kernel_rfl) (by simp) (by decide) ?_; refine AllT.cons rfl (fun K hK => ?_) AllT.nil)
          go_simp
          go_at_call 109
          have S3 := HS.out.drew
          have hcu := (S3.cur (A' := 420 + 100 * ys.length) (i := 2) rfl hcH.out hs).1
          refine (cur_clause vars ⟨hv0, hv1⟩ _ gc ca cl cc _ hcu (by omega)).mono ?_
          rintro e w5 ⟨v, c, rfl, ho, hlc, hW, hi5, hc5⟩
          have S4 := ((S3.pick (qs := [CurA (420 + 100 * ys.length) gc ca cl cc, Box fb 26 #[.int .i64 vars, .slice B ys.length cap], Rows Ty.int 30 (.slice B ys.length cap) cs ys, Box w.heap.size 26 #[.int .i64 0, .slice none 0 0]]) [2, 0, 0, 0] rfl).cs_call (row_cs hcu hi5 hc5 ho) hcH.out hs).pick (qs := [Own 3 1 v c.length (c.map (.int .i64)), Rows Ty.int 30 (.slice B ys.length cap) cs ys, Box fb 26 #[.int .i64 vars, .slice B ys.length cap], CurA (420 + 100 * ys.length + 60) gc ca cl cc, Box w.heap.size 26 #[.int .i64 0, .slice none 0 0]]) [0, 2, 1, 0, 0] rfl
          obtain ⟨B2, cap2, rfl⟩ := own_slice ho
          have S5 := Lib.hid (Sp.own_to_row (ps := _) S4 (hW.i64 (by decide)))
          clear hcu S3 S4 HS l0 hi5 hc5 ho
          go_wp2_with fail
          refine hK.out _ _ ⟨S5.out.cell (i := 2) rfl (o := 0) rfl, S5.out.cell (i := 2) rfl (o := 1) rfl⟩ (fun hS2 => ?_)
          clear hK hSc
          (try simp only [put_rules])
          (refine walkT_ready (rs := [6]) (by kernel_rfl) (by simp) (by decide) ?_; refine AllT.cons rfl (fun K hK => ?_) AllT.nil)
          go_simp
          have hrows := Lib.hid ((S5.out.rows (i := 1) rfl).alloc (.cells #[.slice B2 c.length cap2] 30))
          have kB : (w5.alloc (.cells #[.slice B2 c.length cap2] 30)).cell? ⟨w5.heap.size, 0, none⟩ = some (.slice B2 c.length cap2) := cell_of_row _ _ _ _ _ _ (heap_alloc_new w5 _)
          have S6 := Lib.hid (S5.out.alloc (.cells #[.slice B2 c.length cap2] 30))
          refine hK.out _ _ ⟨S6.out.cell (i := 2) rfl (o := 0) rfl, S6.out.cell (i := 2) rfl (o := 1) rfl⟩ (fun hS3 => ?_)
          clear hK hS2
          (try simp only [put_rules])
          (refine walkT_done (by kernel_rfl) ?_)
          simp only [List.drop_succ_cons, List.drop_zero]
          (refine wpList_append_src rfl _ _ rfl Try.underlying24 cq0 cq1 cq2 cq3 rfl (by decide) _ ys.length _ rfl hrows.out _ 1 1 [.slice B2 c.length cap2] rfl (Src.one kB) (by simp [Value.oneCell']) (by unfold maxLen; omega) (by omega) ?_; intro vY wY hownY hgY hatY)
          have S7 := (S5.out.rows_push (bal (bb _) _) hownY hgY hatY)
          obtain ⟨aY, cY, rfl⟩ := own_slice hownY
          have b1 := S7.cell (i := 1) rfl (o := 1) rfl
          have q1 := S7.frozen (i := 1) rfl 1
          have hlen : ys.length + 1 = (ys ++ [c]).length := by simp
          have S7b := S7.store (i := 1) rfl 1 (.slice aY (ys.length + 1) cY)
          have S8 := S7b.pick (qs := [Box fb 26 #[.int .i64 vars, .slice aY (ys.length + 1) cY], Rows Ty.int 30 (.slice aY (ys.length + 1) cY) (cs ++ [.slice B2 c.length cap2]) (ys ++ [c]), CurA (420 + 100 * ys.length + 60) gc ca cl cc, Box w.heap.size 26 #[.int .i64 0, .slice none 0 0]]) [1, 0, 0, 0] rfl
          obtain ⟨wz, hwz⟩ : ∃ wz, wY.setCell ⟨fb, 1, none⟩ (.slice aY (ys.length + 1) cY) = wz := ⟨_, rfl⟩
          rw [hwz, hlen] at S8
          have S9 : Hid (Sp w wz [Box fb 26 #[.int .i64 vars, .slice aY (ys ++ [c]).length cY], Rows Ty.int 30 (.slice aY (ys ++ [c]).length cY) (cs ++ [.slice B2 c.length cap2]) (ys ++ [c]), CurA (420 + 100 * (ys ++ [c]).length) gc ca cl cc, Box w.heap.size 26 #[.int .i64 0, .slice none 0 0]]) := Lib.hid ((S8.cur (A' := 420 + 100 * (ys ++ [c]).length) (i := 2) rfl hcH.out hs).2 _ ((S8.cur (A' := 420 + 100 * (ys ++ [c]).length) (i := 2) rfl hcH.out hs).1.mono (by omega)) (Chg.refl _ _))
          have HC2 : Hid (SmallR 13 (ys ++ [c])) := fun y hy => by
            rcases List.mem_append.1 hy with hy | hy
            · exact HC.out y hy
            · obtain rfl : y = c := by simpa using hy
              exact ⟨hW.i64 (by decide), by omega⟩
          have hl1 : wz.cell? ⟨fb, 1, none⟩ = some (.slice aY (ys ++ [c]).length cY) := S8.cell (i := 0) rfl (o := 1) rfl
          clear S5 S6 S7 S7b S8 hrows hownY hgY hatY kB hW HC
          replace hlen := Lib.hid hlen
          subst hwz
          replace hl1 := Lib.hid hl1
          go_wp2_with fail
          go_roundw
          case rel => exact ⟨aY, cY, cs ++ [.slice B2 c.length cap2], ys ++ [c], by rw [← hlen.out]; omega, HC2, hl1.out, S9⟩
          case measure => rw [hl1.out, l1]; simp; omega
        · have d1 : decide ((ys.length : Int) < 11 + m0) = false := decide_eq_false hlt
          go_wp2_with fail
          go_meet
          exact ⟨B, cap, cs, ys, _, hyl, HC, HS⟩
  case rest =>
  clear S4 HC
  obtain ⟨B, cap, cs, ys, A, hyl, HC, HS⟩ := hcut
  have l0 := HS.out.cell (i := 0) rfl (o := 0) rfl
  have l1 := HS.out.cell (i := 0) rfl (o := 1) rfl
  have r0 := HS.out.cell (i := 3) rfl (o := 0) rfl
  have r1 := HS.out.cell (i := 3) rfl (o := 1) rfl
  have f0 := HS.out.frozen (i := 3) rfl 0
  have f1 := HS.out.frozen (i := 3) rfl 1
  have SF := (HS.out.store (i := 3) rfl 0 (.int .i64 vars)).store (i := 3) rfl 1 (.slice B ys.length cap)
  have j0 := SF.cell (i := 3) rfl (o := 0) rfl
  have j1 := SF.cell (i := 3) rfl (o := 1) rfl
  have hR := SF.pick [1] rfl
  clear SF HS
  go_wp2_with fail
  exact bodyPost_ret (v := .agg #[.int .i64 vars, .slice B ys.length cap]) (by simp [results, Try.results25, go_sem, j0, j1]) rfl ⟨vars, B, cap, cs, ys, rfl, hv0, hv1, hyl, HC.out, hR⟩
end Go.Proofs.Ytmikconjhmhekaa

/- The first core of a size: plain facts. -/
namespace Go.Proofs.Ytmikconjhmhekaa
open Go.RowKit

/-- All ascending lists of so many of the numbers from one on and below m, in lexicographic order. -/
def combs (m : Nat) : Nat → Nat → List (List Nat)
  | 0, _ => [[]]
  | k + 1, a => (List.range' a (m - a)).flatMap fun v => (combs m k (v + 1)).map (v :: ·)
/-- The first list that goes on from one that has begun. -/
def chF (P : List Nat → Bool) (m : Nat) : Nat → List Nat → Nat → Option (List Nat)
  | 0, begun, _ => if P begun then some begun else none
  | k + 1, begun, a => (List.range' a (m - a)).findSome? fun i => chF P m k (begun ++ [i]) (i + 1)
theorem chF_combs (P : List Nat → Bool) (m : Nat) : ∀ (k : Nat) (begun : List Nat) (a : Nat), chF P m k begun a = ((combs m k a).map (begun ++ ·)).find? P
  | 0, begun, a => by
    simp only [chF, combs, List.map_cons, List.map_nil, List.append_nil, List.find?_cons, List.find?_nil]
    cases P begun <;> rfl
  | k + 1, begun, a => by
    unfold chF combs
    rw [List.map_flatMap, List.find?_flatMap]
    congr 1
    funext i
    rw [chF_combs P m k (begun ++ [i]) (i + 1), List.map_map]
    congr 1
    apply List.map_congr_left
    intro l _
    simp
theorem chF_zero (P : List Nat → Bool) (m a : Nat) (begun : List Nat) : chF P m 0 begun a = if P begun then some begun else none := rfl
/-- What the loop has found before i. -/
def chTo (P : List Nat → Bool) (m k : Nat) (begun : List Nat) (a i : Nat) : Option (List Nat) := (List.range' a (i - a)).findSome? fun j => chF P m k (begun ++ [j]) (j + 1)
theorem chTo_next {P : List Nat → Bool} {m k : Nat} {begun : List Nat} {a i : Nat} (hi : a ≤ i) (h : chTo P m k begun a i = none) (h2 : chF P m k (begun ++ [i]) (i + 1) = none) : chTo P m k begun a (i + 1) = none := by
  unfold chTo at *
  rw [show i + 1 - a = (i - a) + 1 by omega, List.range'_concat, List.findSome?_append, h]
  simp only [Nat.one_mul, Option.none_or]
  rw [show a + (i - a) = i by omega]
  simp [h2]
theorem chTo_found {P : List Nat → Bool} {m k : Nat} {begun : List Nat} {a i : Nat} {r : List Nat} (hi : a ≤ i) (him : i < m) (h : chTo P m k begun a i = none) (h2 : chF P m k (begun ++ [i]) (i + 1) = some r) : chF P m (k + 1) begun a = some r := by
  unfold chTo at h
  rw [chF]
  have he : List.range' a (m - a) = List.range' a (i - a) ++ i :: List.range' (i + 1) (m - (i + 1)) := by
    rw [show i :: List.range' (i + 1) (m - (i + 1)) = List.range' i (m - i) by rw [show m - i = (m - (i + 1)) + 1 by omega, List.range'_succ]]
    have := List.range'_append (s := a) (m := i - a) (n := m - i) (step := 1)
    rw [Nat.one_mul, show a + (i - a) = i by omega, show i - a + (m - i) = m - a by omega] at this
    exact this.symm
  rw [he, List.findSome?_append, h, List.findSome?_cons, h2]
  rfl
theorem chTo_all {P : List Nat → Bool} {m k : Nat} {begun : List Nat} {a : Nat} (h : chTo P m k begun a m = none) : chF P m (k + 1) begun a = none := h
/-- Every list that is found goes on from what has begun, is ascending, and has its length. -/
theorem combs_asc {m : Nat} : ∀ (k a : Nat), ∀ l ∈ combs m k a, l.Pairwise (· < ·) ∧ (∀ i ∈ l, a ≤ i ∧ i < m) ∧ l.length = k
  | 0, a, l, h => by
    obtain rfl : l = [] := by simpa [combs] using h
    simp
  | k + 1, a, l, h => by
    unfold combs at h
    obtain ⟨v, hv, hl⟩ := List.mem_flatMap.1 h
    obtain ⟨t, ht, rfl⟩ := List.mem_map.1 hl
    have h1 := combs_asc k (v + 1) t ht
    have h2 := List.mem_range'_1.1 hv
    refine ⟨List.pairwise_cons.2 ⟨fun x hx => by have := (h1.2.1 x hx).1; omega, h1.1⟩, fun i hi => ?_, by simp [h1.2.2]⟩
    rcases List.mem_cons.1 hi with rfl | hi
    · omega
    · have := h1.2.1 i hi; omega
/-- Each ascending list is among them. -/
theorem asc_combs {m : Nat} : ∀ (l : List Nat) (a : Nat), l.Pairwise (· < ·) → (∀ i ∈ l, a ≤ i ∧ i < m) → l ∈ combs m l.length a
  | [], a, _, _ => by simp [combs]
  | v :: l, a, hp, hb => by
    rw [List.pairwise_cons] at hp
    have hv := hb v (by simp)
    unfold combs
    refine List.mem_flatMap.2 ⟨v, List.mem_range'_1.2 ⟨hv.1, by omega⟩, List.mem_map.2 ⟨l, asc_combs l (v + 1) hp.2 (fun i hi => ⟨hp.1 i hi, (hb i (List.mem_cons_of_mem _ hi)).2⟩), rfl⟩⟩
/-- The first core by size, then in order. -/
def leastTo (P : List Nat → Bool) (m : Nat) (N : Nat) : Option (List Nat) := (List.range N).findSome? fun k => chF P m k [] 0
theorem leastTo_next {P : List Nat → Bool} {m k : Nat} (h : leastTo P m k = none) (h2 : chF P m k [] 0 = none) : leastTo P m (k + 1) = none := by
  unfold leastTo at *
  rw [List.range_succ, List.findSome?_append, h]
  simp [h2]
theorem leastTo_found {P : List Nat → Bool} {m k N : Nat} {r : List Nat} (hk : k < N) (h : leastTo P m k = none) (h2 : chF P m k [] 0 = some r) : leastTo P m N = some r := by
  unfold leastTo at *
  obtain ⟨d, rfl⟩ : ∃ d, N = k + 1 + d := ⟨N - (k + 1), by omega⟩
  have he : ∃ t, List.range (k + 1 + d) = List.range (k + 1) ++ t := by
    rw [List.range_eq_range', List.range_eq_range']
    exact ⟨_, (by simpa using (List.range'_append (s := 0) (m := k + 1) (n := d) (step := 1)).symm)⟩
  obtain ⟨t, ht⟩ := he
  rw [ht, List.range_succ, List.findSome?_append, List.findSome?_append, h]
  simp [h2]
end Go.Proofs.Ytmikconjhmhekaa

/- Contracts: all ascending lists of a length, in the program. -/
namespace Go.Proofs.Ytmikconjhmhekaa
open Go.RowKit

theorem run_append_keep2 {P : Program} {w : World} {t ty e : TypeId} {i : TypeInfo} {z : Value} {size bytes : Nat} (ht : P.underlying t = some (.slice e)) (hi : P.info? e = some i) (hz : i.zero = some z)
    (hsize : i.size = size) (hby : i.bytes = bytes) (hzs : z.cells.size = size) (hsz : 0 < size)
    (v : Value) (n : Nat) (xs : List Value) (hown : w.ownsRow 0 e size v n xs)
    (a : Addr) (m c : Nat) (news : List Value) (hl : news.length = m * size) (hnews : ∀ j u, news[j]? = some u → w.cell? (a.add j) = some u) (h1 : ∀ u ∈ news, u.oneCell' = true)
    (h63 : n + m ≤ maxLen) (hbytes : (n + m) * bytes ≤ 140737488355328) (hm : 0 < m) :
    ∃ v' w', (Builtin.append_ #[t, t] ty #[v, .slice (some a) m c]).run P w = .ok v' w' ∧ w'.ownsRow 0 e size v' (n + m) (xs ++ news) ∧ w.grownBy w' v.ownBlock ∧
      ((∃ A cap, v = .slice A n cap ∧ v' = .slice A (n + m) cap) ∨ (v'.ownBlock = some w.heap.size ∧ Below w.heap.size w w')) := by
  obtain ⟨v', w', hr, h2, h3, _, h5⟩ := run_append_own_at (P := P) w 0 t ty e i z size bytes ht hi hz hsize hby hzs hsz v n xs hown a m c news hl hnews h1 h63 hbytes (Nat.zero_le _)
  refine ⟨v', w', hr, h2, h3, ?_⟩
  subst hsize
  subst hby
  have hsmall : n + m ≤ 9223372036854775807 := by unfold maxLen at h63; omega
  rcases id hown with ⟨hlen, ⟨rfl, rfl⟩ | ⟨g, cap, cur, rfl, hbg, hg, hnc, hcm, hcs, htake⟩⟩
  · refine .inr ⟨?_, ⟨h3.os, h3.tape, h3.output, h3.size, fun k hk => h3.block k hk (by simp [Value.ownBlock])⟩⟩
    rcases h5 with h5 | h5
    · obtain ⟨_, ⟨rfl, h0⟩ | ⟨g, cap, cur, rfl, _⟩⟩ := h2
      · omega
      · simp [Value.ownBlock] at h5
    · exact h5
  · by_cases hroom : n + m ≤ cap
    · have hfit : n * i.size + news.length ≤ cur.size := by rw [hl, hcs, ← Nat.add_mul]; exact Nat.mul_le_mul_right _ hroom
      have hr2 := run_append_room (P := P) w t ty e i ht hi g n cap cur hg a m c news hl hnews h1 hroom hfit
      rw [hr] at hr2
      injection hr2 with e1 e2
      subst e1
      exact .inl ⟨_, cap, rfl, rfl⟩
    · have holds : ∀ j u, xs[j]? = some u → w.cell? ((⟨g, 0, none⟩ : Addr).add j) = some u := hown.cells (g := g) rfl
      have hr2 := run_append_grow (P := P) w t ty e i z ht hi hz ⟨g, 0, none⟩ n cap xs hlen holds a m c news hl hnews (by omega) (by omega) (growslice_fits (by omega) hbytes)
      rw [hr] at hr2
      injection hr2 with e1 e2
      subst e2
      refine .inr ⟨?_, bal (bdr (bb w)) _⟩
      rcases h5 with h5 | h5
      · subst e1
        exact absurd h5 (by
          simp only [Value.ownBlock]
          intro h
          have hlt := owns_lt hown (g := g) rfl
          simp at h
          omega)
      · exact h5
theorem step_append_keep {P : Program} {w : World} {t e : TypeId} {i : TypeInfo} {z : Value} {size bytes : Nat} {ops : Array Oper} {o : Oper} {a : Act} {K : Act → World → Prop} {Q : Exit → Act → World → Prop} {E : Prop} (hgd : o.guard = none) (s x : Operand)
    (ho : o.op = .call { callee := .builtin .append, args := #[s, x], argTypes := #[t, t] })
    (ht : P.underlying t = some (.slice e)) (hi : P.info? e = some i) (hz : i.zero = some z) (hsize : i.size = size) (hby : i.bytes = bytes) (hzs : z.cells.size = size) (hsz : 0 < size)
    (v : Value) (n : Nat) (xs : List Value) (hs : a.eval s = v) (hown : w.ownsRow 0 e size v n xs) (ad : Addr) (m c : Nat) (news : List Value) (hx : a.eval x = .slice (some ad) m c) (hl : news.length = m * size) (hnews : ∀ j u, news[j]? = some u → w.cell? (ad.add j) = some u) (h1 : ∀ u ∈ news, u.oneCell' = true)
    (h63 : n + m ≤ maxLen) (hbytes : (n + m) * bytes ≤ 140737488355328) (hm : 0 < m)
    (h : ∀ v' w', w'.ownsRow 0 e size v' (n + m) (xs ++ news) → w.grownBy w' v.ownBlock → ((∃ A cap, v = .slice A n cap ∧ v' = .slice A (n + m) cap) ∨ (v'.ownBlock = some w.heap.size ∧ Below w.heap.size w w')) → K (a.put o.dst v') w') :
    if Region.wanted o (yielded ops a.tmps) = true then Oper.wp P o a w K Q else E := by
  have hw : Region.wanted o (yielded ops a.tmps) = true := by simp [Region.wanted, hgd]
  rw [if_pos hw]
  obtain ⟨v', w', hr, h2, h3, h4⟩ := run_append_keep2 (P := P) (w := w) (ty := o.type) ht hi hz hsize hby hzs hsz v n xs hown ad m c news hl hnews h1 h63 hbytes hm
  unfold Oper.wp execOp
  simp only [ho, resolve, invoke, builtin, Sem.run_bind, Sem.run_pure, Result.andThen_ok, List.map_toArray, List.map_cons, List.map_nil, hs, hx, hr]
  exact h v' w' h2 h3 h4

/-- The lists that go on from one. -/
def goL (M : Nat) (xs : List Nat) (d a : Nat) : List (List Int) := (combs M d a).map fun t => ofN (xs ++ t)
def soL (M : Nat) (xs : List Nat) (d a v : Nat) : List (List Int) := (List.range' a (v - a)).flatMap fun u => goL M (xs ++ [u]) d (u + 1)
theorem goL_zero (M : Nat) (xs : List Nat) (a : Nat) : goL M xs 0 a = [ofN xs] := by simp [goL, combs]
theorem soL_start (M : Nat) (xs : List Nat) (d a : Nat) : soL M xs d a a = [] := by simp [soL]
theorem soL_next {M : Nat} {xs : List Nat} {d a v : Nat} (h : a ≤ v) : soL M xs d a (v + 1) = soL M xs d a v ++ goL M (xs ++ [v]) d (v + 1) := by
  unfold soL
  rw [show v + 1 - a = (v - a) + 1 by omega, List.range'_concat, List.flatMap_append]
  simp only [Nat.one_mul, List.flatMap_cons, List.flatMap_nil, List.append_nil]
  rw [show a + (v - a) = v by omega]
theorem soL_all (M : Nat) (xs : List Nat) (d a : Nat) : goL M xs (d + 1) a = soL M xs d a M := by
  unfold goL soL combs
  rw [List.map_flatMap]
  congr 1
  funext u
  rw [List.map_map]
  unfold goL
  apply List.map_congr_left
  intro t _
  simp
theorem soL_mono {M : Nat} {xs : List Nat} {d a : Nat} : ∀ {v : Nat} (j : Nat), a ≤ v → (soL M xs d a v).length ≤ (soL M xs d a (v + j)).length
  | v, 0, _ => Nat.le_refl _
  | v, j + 1, h => by
    have := soL_mono (M := M) (xs := xs) (d := d) (v := v) j h
    rw [show v + (j + 1) = (v + j) + 1 from rfl, soL_next (by omega), List.length_append]
    omega
theorem soL_over {M : Nat} {xs : List Nat} {d a : Nat} (h : M ≤ a) : goL M xs (d + 1) a = [] := by
  rw [soL_all]
  unfold soL
  rw [show M - a = 0 by omega]; rfl
theorem combs_len (M : Nat) : ∀ (d a : Nat), (combs M d a).length ≤ 2 ^ (M - a)
  | 0, a => by simp [combs]; exact Nat.one_le_two_pow
  | d + 1, a => by
    have key : ∀ j b, j = M - b → ((List.range' b j).flatMap fun v => (combs M d (v + 1)).map (v :: ·)).length ≤ 2 ^ j := by
      intro j
      induction j with
      | zero => intro b _; simp
      | succ j ih =>
        intro b hb
        rw [List.range'_succ, List.flatMap_cons, List.length_append, List.length_map]
        have h1 := combs_len M d (b + 1)
        have h2 := ih (b + 1) (by omega)
        rw [show M - (b + 1) = j by omega] at h1
        rw [Nat.pow_succ]; omega
    exact key (M - a) a rfl
end Go.Proofs.Ytmikconjhmhekaa

/- Contract: the recursive closure that lists ascending lists, in the program. -/
namespace Go.Proofs.Ytmikconjhmhekaa
open Go.RowKit

theorem Sp.move_in {w0 w : World} {q r a b c d e f : Asn} {ps : List Asn} (h : Sp w0 w (q :: r :: a :: b :: c :: d :: e :: f :: ps)) : Sp w0 w (q :: a :: b :: c :: d :: e :: f :: r :: ps) := by
  have h1 : Sp w0 w (f :: q :: r :: a :: b :: c :: d :: e :: ps) := h.bring (i := 7) rfl
  have h2 : Sp w0 w (e :: f :: q :: r :: a :: b :: c :: d :: ps) := h1.bring (i := 7) rfl
  have h3 : Sp w0 w (d :: e :: f :: q :: r :: a :: b :: c :: ps) := h2.bring (i := 7) rfl
  have h4 : Sp w0 w (c :: d :: e :: f :: q :: r :: a :: b :: ps) := h3.bring (i := 7) rfl
  have h5 : Sp w0 w (b :: c :: d :: e :: f :: q :: r :: a :: ps) := h4.bring (i := 7) rfl
  have h6 : Sp w0 w (a :: b :: c :: d :: e :: f :: q :: r :: ps) := h5.bring (i := 7) rfl
  exact h6.bring (i := 6) rfl
theorem Sp.move_out {w0 w : World} {q r a b c d e f : Asn} {ps : List Asn} (h : Sp w0 w (q :: a :: b :: c :: d :: e :: f :: r :: ps)) : Sp w0 w (r :: a :: b :: c :: d :: e :: f :: ps) := by
  have h1 : Sp w0 w (r :: q :: a :: b :: c :: d :: e :: f :: ps) := h.bring (i := 7) rfl
  exact h1.swap.tail
theorem cloneAny (xs : List Nat) (D : Option Addr) (dc : Nat) (w : World) (hx : IntsAt w D (ofN xs)) (hl : xs.length ≤ 1000000) (hD : xs = [] → D = none) :
    Calls Try.prog 205 #[.slice D xs.length dc] w fun e w' => ∃ B c, e = .returned (.slice B xs.length c) ∧ Sp w w' [Row Ty.int (.slice B xs.length c) (ofN xs)] := by
  rcases Nat.eq_zero_or_pos xs.length with h0 | h0
  · obtain rfl : xs = [] := List.length_eq_zero_iff.1 h0
    obtain rfl := hD rfl
    have hnil := fun w : World => Lib.run_eql_slice_nil (P := Try.prog) w 30 3 none 0 dc 0 0 Try.underlying30
    clear hx hD hl h0
    go_enter Try.func205, Try.ntmps205
    go_wp2_with fail
    go_ret
    exact ⟨none, 0, rfl, (Sp.start w).row_new (F := []) (bb w) (Ty.row_nil _ _ _ _ _ (by decide)) (by simp) (by simp)⟩
  · refine (cloneI_any D xs.length dc (ofN xs) w hx (ofN_len xs) hl h0).mono ?_
    rintro e w' ⟨g, c, rfl, T⟩
    have ho := T.owns_end (i := 0) rfl
    have e2 : xs.length = (ofN xs).length := (ofN_len xs).symm
    rw [e2] at ho ⊢
    obtain ⟨F, hr, hn, hF⟩ := own_row ho hx.2
    exact ⟨_, c, rfl, (Sp.start w).row_new T.below hr hn hF⟩

/-- The closure's memory, without the list. -/
abbrev GB (po pl pm pn pg : Nat) (B : Option Addr) (c : Nat) (cs : List Value) (LI : List (List Int)) (n many lim : Nat) (ps : List Asn) : List Asn :=
  Rows Ty.int 30 (.slice B LI.length c) cs LI :: Box po 24 #[.slice B LI.length c] :: Box pl 3 #[.int .i64 lim] :: Box pm 3 #[.int .i64 many] :: Box pn 3 #[.int .i64 n] ::
    Box pg 161 #[.func (.func 208) #[] #[.pointer (some ⟨po, 0, none⟩), .pointer (some ⟨pl, 0, none⟩), .pointer (some ⟨pm, 0, none⟩), .pointer (some ⟨pn, 0, none⟩), .pointer (some ⟨pg, 0, none⟩)]] :: ps

set_option maxRecDepth 100000 in
set_option maxHeartbeats 8000000 in
theorem grow_zero (n many lim po pl pm pn pg : Nat) (hlim : lim ≤ 100000) (xs : List Nat) (a : Nat) (D : Option Addr) (dc : Nat) (B : Option Addr) (c : Nat) (cs : List Value) (LI : List (List Int)) (w0 W : World) (ps : List Asn) (hm : xs.length = many) (hmm : many ≤ 1000) (hD : xs = [] → D = none) (hI : ∀ x ∈ ofN xs, I64 x) (hL : LI.length + 1 ≤ lim)
    (S : Sp w0 W (Own 3 1 (.slice D xs.length dc) xs.length ((ofN xs).map (.int .i64)) :: GB po pl pm pn pg B c cs LI n many lim ps)) :
    Calls Try.prog 208 #[.slice D xs.length dc, .int .i64 a, .pointer (some ⟨po, 0, none⟩), .pointer (some ⟨pl, 0, none⟩), .pointer (some ⟨pm, 0, none⟩), .pointer (some ⟨pn, 0, none⟩), .pointer (some ⟨pg, 0, none⟩)] W fun e w' => e = .returned (.tuple #[]) ∧
      ∃ B' c' cs', Sp w0 w' (Own 3 1 (.slice D xs.length dc) xs.length ((ofN xs).map (.int .i64)) :: GB po pl pm pn pg B' c' cs' (LI ++ [ofN xs]) n many lim ps) := by
  obtain ⟨i0, hi, hz0, hz1, hz2⟩ := info_parts infoRow
  have c0 := S.cell (i := 2) rfl (o := 0) rfl
  have c1 := S.cell (i := 3) rfl (o := 0) rfl
  have c2 := S.cell (i := 4) rfl (o := 0) rfl
  have d0 : decide ((lim : Int) < (LI.length : Int)) = false := decide_eq_false (by omega)
  have hown := S.own (i := 0) rfl
  rw [show xs.length = (ofN xs).length from (ofN_len xs).symm] at hown
  obtain ⟨D', dc', e1, hT⟩ := ints_own hown hI
  simp only [Value.slice.injEq] at e1
  obtain ⟨rfl, -, rfl⟩ := e1
  have S1 := Lib.hid S.drew
  have hcl := Lib.hid (cloneAny xs D dc _ (hT.grow (bdr (bb W))) (by omega) hD)
  have hm2 := Lib.hid hm
  subst hm
  clear S hown hT hI hD hm2
  go_enter Try.func208, Try.ntmps208
  go_wp2_with fail
  refine wp_region_tail_lit (S := (fun w' => w'.cell? ⟨po, 0, none⟩ = some (.slice B LI.length c))) 4 [false, false, false, false, false, false] (by kernel_rfl) (by kernel_rfl) (by kernel_rfl) ?_ ?_
  · exact c0
  intro hSc
  (refine walkT_take (i := 0) (v := ?_) rfl (by kernel_rfl) (by decide) (by kernel_rfl) (by kernel_rfl) (fun _ _ _ h => h) (Or.inl ⟨by rfl, ?_⟩) (by assumption) ?_; rotate_left; (focus (intro w hSw; (try dsimp only at hSw); go_simp; (try with_reducible rfl); done)); (try simp only [put_rules]))
  (refine walkT_take (i := 1) (v := ?_) rfl (by kernel_rfl) (by decide) (by kernel_rfl) (by kernel_rfl) (fun _ _ _ h => h) (Or.inl ⟨by rfl, ?_⟩) (by assumption) ?_; rotate_left; (focus (intro w hSw; (try dsimp only at hSw); go_simp; (try with_reducible rfl); done)); (try simp only [put_rules]))
  (refine walkT_ready (rs := [2]) (by kernel_rfl) (by simp) (by decide) ?_; refine AllT.cons rfl (fun K hK => ?_) AllT.nil)
  go_simp
  go_at_call 205
  refine hcl.out.mono ?_
  rintro e w2 ⟨B2, c2', rfl, T⟩
  have S2 := Lib.hid (S1.out.seq T)
  clear hcl S1 T c0 c1 c2
  go_wp2_with fail
  refine hK.out _ _ (S2.out.cell (i := 3) rfl (o := 0) rfl) (fun hS2 => ?_)
  clear hK hSc
  (try simp only [put_rules])
  (refine walkT_ready (rs := [3]) (by kernel_rfl) (by simp) (by decide) ?_; refine AllT.cons rfl (fun K hK => ?_) AllT.nil)
  go_simp
  have hrows := Lib.hid ((S2.out.rows (i := 2) rfl))
  have S3 := S2.out.alloc_box #[.slice B2 xs.length c2'] 30
  have kB := S3.cell (i := 0) rfl (o := 0) rfl
  have hrows3 := Lib.hid (S3.rows (i := 3) rfl)
  refine hK.out _ _ (S3.cell (i := 4) rfl (o := 0) rfl) (fun hS3 => ?_)
  clear hK hS2 hrows
  (try simp only [put_rules])
  (refine walkT_done (by kernel_rfl) ?_)
  simp only [List.drop_succ_cons, List.drop_zero]
  (refine wpList_append_src rfl _ _ rfl Try.underlying24 hi hz0 hz1 hz2 rfl (by decide) _ LI.length _ rfl hrows3.out _ 1 1 [.slice B2 xs.length c2'] rfl (Src.one kB) (by simp [Value.oneCell']) (by unfold maxLen; omega) (by omega) ?_; intro vY wY hownY hgY hatY)
  have S4 := ((S2.out.bring (i := 2) rfl).swap).rows_push (bal (bb _) _) hownY hgY hatY
  obtain ⟨aY, cY, rfl⟩ := own_slice hownY
  have S5 := S4.swap
  have b1 := S5.cell (i := 2) rfl (o := 0) rfl
  have q1 := S5.frozen (i := 2) rfl 0
  have hlen : LI.length + 1 = (LI ++ [ofN xs]).length := by simp
  have S6 := S5.store (i := 2) rfl 0 (.slice aY (LI.length + 1) cY)
  have S7 : Hid (Sp w0 (wY.setCell ⟨po, 0, none⟩ (.slice aY (LI.length + 1) cY)) (Own 3 1 (.slice D xs.length dc) xs.length ((ofN xs).map (.int .i64)) :: GB po pl pm pn pg aY cY (cs ++ [.slice B2 xs.length c2']) (LI ++ [ofN xs]) n xs.length lim ps)) := by
    unfold Hid GB
    rw [← hlen]
    exact S6
  clear S2 S3 S4 S5 S6 hrows3 hownY hgY hatY kB hS3 hlen
  go_wp2_with fail
  exact bodyPost_ret (v := .tuple #[]) (by simp [results, Try.results208, go_sem]) rfl ⟨rfl, aY, cY, _, S7.out⟩
end Go.Proofs.Ytmikconjhmhekaa

/- Contracts: cores and minimal cores, on both sides. Printed by gen_coj.py. -/
namespace Go.Proofs.Ytmikconjhmhekaa
open Go.RowKit

def natL (l : List Int) : List Nat := l.map Int.toNat
theorem natL_ofN (is : List Nat) : natL (ofN is) = is := by
  unfold natL ofN
  rw [List.map_map]
  have : (Int.toNat ∘ fun (i : Nat) => (i : Int)) = id := by funext i; simp
  rw [this, List.map_id]
theorem ris_natL {m : Nat} {l : List Int} (h : risB m l = true) : l = ofN (natL l) ∧ AscN m (natL l) := by
  obtain ⟨is, rfl, h2⟩ := ris_nat h
  rw [natL_ofN]
  exact ⟨rfl, h2⟩
/-- No index is superfluous. -/
def minB (n : Nat) (xss : List (List Int)) (is : List Nat) : Bool := (List.range is.length).all fun k => !coreB n xss (is.eraseIdx k)
theorem min_no {n : Nat} {xss : List (List Int)} {is : List Nat} {k : Nat} (hk : k < is.length) (h : coreB n xss (is.eraseIdx k) = true) : minB n xss is = false := by
  unfold minB
  rw [List.all_eq_false]
  exact ⟨k, List.mem_range.2 hk, by rw [h]; decide⟩
theorem min_next {n : Nat} {xss : List (List Int)} {is : List Nat} {k : Nat} (h0 : ((List.range k).all fun k => !coreB n xss (is.eraseIdx k)) = true) (h : coreB n xss (is.eraseIdx k) = false) : ((List.range (k + 1)).all fun k => !coreB n xss (is.eraseIdx k)) = true := by
  rw [List.range_succ, List.all_append, h0]
  simp [h]
theorem ofN_eraseIdx (is : List Nat) (k : Nat) : (ofN is).eraseIdx k = ofN (is.eraseIdx k) := by
  unfold ofN
  rw [List.eraseIdx_eq_take_drop_succ, List.eraseIdx_eq_take_drop_succ, List.map_append, List.map_take, List.map_drop]
theorem AscN.erase {m : Nat} {is : List Nat} (h : AscN m is) (k : Nat) : AscN m (is.eraseIdx k) := h.sub (List.eraseIdx_sublist _ _)

set_option maxRecDepth 100000 in
set_option maxHeartbeats 4000000 in
theorem l5Takes_any (vars : Int) (v : Value) (xss : List (List Int)) (l : List Int) (D : Option Addr) (dc : Nat) (F G : List Nat) (w : World) (hx : (Ty.slice Ty.int).row false w v xss F) (hy : Ty.int.row false w (.slice D l.length dc) l G) (hl : l.length ≤ 100000) :
    Calls Try.prog 121 #[.agg #[.int .i64 vars, v], .slice D l.length dc] w fun e w' => e = .returned (.bool (goodB vars xss && risB xss.length l)) ∧ Below w.heap.size w w' := by
  obtain ⟨A, cap, rfl, hI⟩ := cls_row hx
  obtain ⟨D', dc', e', hT⟩ := ints_row hy
  cases e'
  have S0 := (Sp.start w).alloc_box #[.int .i64 vars, .slice A xss.length cap] 26
  have hcall := Lib.hid (l2Good_any vars _ xss F _ (Ty.row_below hx S0.below (Ty.row_lt hx)))
  have hris := Lib.hid (fun W (h : Below w.heap.size w W) => l1Rising_any D dc l (xss.length : Int) W (hT.grow h) (by omega))
  replace S0 := Lib.hid S0
  have c0 := S0.out.cell (i := 0) rfl (o := 0) rfl
  have c1 := S0.out.cell (i := 0) rfl (o := 1) rfl
  have hg60 := fun h => (good_cnf (vars := vars) (xss := xss) h).2.1
  generalize risB xss.length l = q2 at *
  clear hx hy hI hT
  cases h1 : goodB vars xss
  · rw [h1] at hcall
    clear hg60
    go_enter Try.func121, Try.ntmps121
    go_wp2_with fail
    refine hcall.out.mono ?_
    rintro e w1 ⟨rfl, hb1⟩
    have hB := Lib.hid (S0.out.grow hb1).below
    clear hcall S0 c0 c1 hb1
    go_wp2_with fail
    go_ret
    exact ⟨rfl, hB.out⟩
  · rw [h1] at hcall
    have hl60 := hg60 h1
    obtain ⟨hi, hhi⟩ : ∃ hi : Int, (xss.length : Int) - 1 = hi := ⟨_, rfl⟩
    have hw0 : IntKind.i64.wrap ((xss.length : Int) - 1) = hi := by rw [IntWalk.i64_in _ (by omega)]; exact hhi
    rw [hhi] at hris
    replace hhi := Lib.hid hhi
    clear hg60
    go_enter Try.func121, Try.ntmps121
    go_wp2_with fail
    refine hcall.out.mono ?_
    rintro e w1 ⟨rfl, hb1⟩
    have S1 := Lib.hid (S0.out.grow hb1)
    clear hcall S0 c0 c1 hb1
    have c1 := S1.out.cell (i := 0) rfl (o := 1) rfl
    go_wp2_with fail
    refine (hris.out _ S1.out.below).mono ?_
    rintro e w2 ⟨rfl, hb2⟩
    have hB := Lib.hid (S1.out.grow hb2).below
    clear hris S1 c1 hb2
    go_wp2_with fail
    go_ret
    exact ⟨rfl, hB.out⟩

set_option maxRecDepth 100000 in
set_option maxHeartbeats 8000000 in
theorem implIsCore_any (vars : Int) (v : Value) (xss : List (List Int)) (l : List Int) (D : Option Addr) (dc : Nat) (F G : List Nat) (w : World) (hx : (Ty.slice Ty.int).row false w v xss F) (hy : Ty.int.row false w (.slice D l.length dc) l G) (hl : l.length ≤ 100000) :
    Calls Try.prog 32 #[.agg #[.int .i64 vars, v], .slice D l.length dc] w fun e w' => e = .returned (.tuple #[.bool (goodB vars xss && risB xss.length l && coreB vars.toNat xss (natL l)), .bool (goodB vars xss && risB xss.length l)]) ∧ Below w.heap.size w w' := by
  obtain ⟨A, cap, rfl, hI⟩ := cls_row hx
  obtain ⟨D', dc', e', hT⟩ := ints_row hy
  cases e'
  obtain ⟨_, _, e', hdc, -⟩ := Ty.row_len hy
  cases e'
  have S0 := (Sp.start w).alloc_box #[.int .i64 vars, .slice A xss.length cap] 26
  have hcall := Lib.hid (implIsCnf_any vars _ xss F _ (Ty.row_below hx S0.below (Ty.row_lt hx)))
  have hris := fun W (h : Below w.heap.size w W) (hm : xss.length ≤ 1000000) => indicesOk_any vars A xss.length cap hm D dc l W (hT.grow h) (by omega)
  replace S0 := Lib.hid S0
  have c0 := S0.out.cell (i := 0) rfl (o := 0) rfl
  have c1 := S0.out.cell (i := 0) rfl (o := 1) rfl
  clear hx
  cases h1 : goodB vars xss
  · rw [h1] at hcall
    clear hris hy hI hT
    go_enter Try.func32, Try.ntmps32
    go_wp2_with fail
    refine hcall.out.mono ?_
    rintro e w1 ⟨rfl, hb1⟩
    have hB := Lib.hid (S0.out.grow hb1).below
    clear hcall S0 c0 c1 hb1
    go_wp2_with fail
    go_ret2
    exact ⟨rfl, hB.out⟩
  have hg := good_cnf h1
  rw [h1] at hcall
  cases h2 : risB xss.length l
  · have hris2 := Lib.hid (fun W h => hris W h (by omega))
    rw [h2] at hris2
    clear hris hy hI hT hg
    go_enter Try.func32, Try.ntmps32
    go_wp2_with fail
    refine hcall.out.mono ?_
    rintro e w1 ⟨rfl, hb1⟩
    have S1 := Lib.hid (S0.out.grow hb1)
    clear hcall S0 c0 c1 hb1
    have c0 := S1.out.cell (i := 0) rfl (o := 0) rfl
    have c1 := S1.out.cell (i := 0) rfl (o := 1) rfl
    go_wp2_with fail
    refine (hris2.out _ S1.out.below).mono ?_
    rintro e w2 ⟨rfl, hb2⟩
    have hB := Lib.hid (S1.out.grow hb2).below
    clear hris2 S1 c0 c1 hb2
    go_wp2_with fail
    go_ret2
    exact ⟨rfl, hB.out⟩
  obtain ⟨hln, has⟩ := ris_natL h2
  obtain ⟨is, his⟩ : ∃ is, natL l = is := ⟨_, rfl⟩
  rw [his] at hln has ⊢
  subst hln
  obtain ⟨n, rfl⟩ := Int.eq_ofNat_of_zero_le hg.1.1
  rw [show (n : Int).toNat = n by omega]
  have hn : n ≤ 12 := by omega
  rw [ofN_len] at hl hdc ⊢
  have hil := asc_len has
  have hic := fun is (hi : AscN xss.length is) E ec W (h : Below w.heap.size w W) (hy : IntsAt W E (ofN is)) => isCore_any n hn xss hg.2.2.2 is hi.2 (by have := asc_len hi; have := hg.2.1; omega) A E cap ec W (hI.grow h) hy
  have hris2 := Lib.hid (fun W h => hris W h (by have := hg.2.1; omega))
  rw [h2] at hris2
  rw [ofN_len] at hris2
  have hT2 := Lib.hid hT
  simp only [h1, h2, Bool.true_and]
  have hcc := Lib.hid (fun W h => hic is has D dc W h (hT2.out.grow h))
  generalize coreB n xss is = q at *
  clear hy hI hT hg hic has hT2 hil hris
  go_enter Try.func32, Try.ntmps32
  go_wp2_with fail
  refine hcall.out.mono ?_
  rintro e w1 ⟨rfl, hb1⟩
  have S1 := Lib.hid (S0.out.grow hb1)
  clear hcall S0 c0 c1 hb1
  have c0 := S1.out.cell (i := 0) rfl (o := 0) rfl
  have c1 := S1.out.cell (i := 0) rfl (o := 1) rfl
  go_wp2_with fail
  refine (hris2.out _ S1.out.below).mono ?_
  rintro e w2 ⟨rfl, hb2⟩
  have S2 := Lib.hid (S1.out.grow hb2)
  clear hris2 S1 c0 c1 hb2
  have c0 := S2.out.cell (i := 0) rfl (o := 0) rfl
  have c1 := S2.out.cell (i := 0) rfl (o := 1) rfl
  go_wp2_with fail
  refine (hcc.out _ S2.out.below).mono ?_
  rintro e w3 ⟨rfl, hb3⟩
  have hB := Lib.hid (S2.out.grow hb3).below
  clear hcc S2 c0 c1 hb3
  go_wp2_with fail
  go_ret2
  exact ⟨rfl, hB.out⟩

set_option maxRecDepth 100000 in
set_option maxHeartbeats 8000000 in
theorem implIsMinimal_any (vars : Int) (v : Value) (xss : List (List Int)) (l : List Int) (D : Option Addr) (dc : Nat) (F : List Nat) (w : World) (hx : (Ty.slice Ty.int).row false w v xss F) (hT : IntsAt w D l) (hdc : l.length ≤ dc) (hl : l.length ≤ 100000) :
    Calls Try.prog 30 #[.agg #[.int .i64 vars, v], .slice D l.length dc] w fun e w' => e = .returned (.tuple #[.bool (goodB vars xss && risB xss.length l && (coreB vars.toNat xss (natL l) && minB vars.toNat xss (natL l))), .bool (goodB vars xss && risB xss.length l)]) ∧ Below w.heap.size w w' := by
  obtain ⟨A, cap, rfl, hI⟩ := cls_row hx
  have S0 := (Sp.start w).alloc_box #[.int .i64 vars, .slice A xss.length cap] 26
  have hcall := Lib.hid (implIsCnf_any vars _ xss F _ (Ty.row_below hx S0.below (Ty.row_lt hx)))
  have hris := fun W (h : Below w.heap.size w W) (hm : xss.length ≤ 1000000) => indicesOk_any vars A xss.length cap hm D dc l W (hT.grow h) (by omega)
  replace S0 := Lib.hid S0
  have c0 := S0.out.cell (i := 0) rfl (o := 0) rfl
  have c1 := S0.out.cell (i := 0) rfl (o := 1) rfl
  clear hx
  cases h1 : goodB vars xss
  · rw [h1] at hcall
    clear hris hI hT
    go_enter Try.func30, Try.ntmps30
    go_wp2_with fail
    refine hcall.out.mono ?_
    rintro e w1 ⟨rfl, hb1⟩
    have hB := Lib.hid (S0.out.grow hb1).below
    clear hcall S0 c0 c1 hb1
    go_wp2_with fail
    go_ret2
    exact ⟨rfl, hB.out⟩
  have hg := good_cnf h1
  rw [h1] at hcall
  cases h2 : risB xss.length l
  · have hris2 := Lib.hid (fun W h => hris W h (by omega))
    rw [h2] at hris2
    clear hris hI hT hg
    go_enter Try.func30, Try.ntmps30
    go_wp2_with fail
    refine hcall.out.mono ?_
    rintro e w1 ⟨rfl, hb1⟩
    have S1 := Lib.hid (S0.out.grow hb1)
    clear hcall S0 c0 c1 hb1
    have c0 := S1.out.cell (i := 0) rfl (o := 0) rfl
    have c1 := S1.out.cell (i := 0) rfl (o := 1) rfl
    go_wp2_with fail
    refine (hris2.out _ S1.out.below).mono ?_
    rintro e w2 ⟨rfl, hb2⟩
    have hB := Lib.hid (S1.out.grow hb2).below
    clear hris2 S1 c0 c1 hb2
    go_wp2_with fail
    go_ret2
    exact ⟨rfl, hB.out⟩
  obtain ⟨hln, has⟩ := ris_natL h2
  obtain ⟨is, his⟩ : ∃ is, natL l = is := ⟨_, rfl⟩
  rw [his] at hln has ⊢
  subst hln
  obtain ⟨n, rfl⟩ := Int.eq_ofNat_of_zero_le hg.1.1
  rw [show (n : Int).toNat = n by omega]
  have hn : n ≤ 12 := by omega
  rw [ofN_len] at hl hdc ⊢
  have hil := asc_len has
  have hic := fun is (hi : AscN xss.length is) E ec W (h : Below w.heap.size w W) (hy : IntsAt W E (ofN is)) => isCore_any n hn xss hg.2.2.2 is hi.2 (by have := asc_len hi; have := hg.2.1; omega) A E cap ec W (hI.grow h) hy
  have hris2 := Lib.hid (fun W h => hris W h (by have := hg.2.1; omega))
  rw [h2] at hris2
  rw [ofN_len] at hris2
  have hT2 := Lib.hid hT
  simp only [h1, h2, Bool.true_and]
  have hcc := Lib.hid (fun W h => hic is has D dc W h (hT2.out.grow h))
  have hwo := Lib.hid (fun k (hk : k < is.length) W (h : Below w.heap.size w W) => withoutI_any D is.length dc k (ofN is) W (hT2.out.grow h) (ofN_len is) (by omega) hk)
  have hce := Lib.hid (fun k E ec W (h : Below w.heap.size w W) (hy : IntsAt W E (ofN (is.eraseIdx k))) => hic (is.eraseIdx k) (has.erase k) E ec W h hy)
  have hell := Lib.hid (fun k (hk : k < is.length) => List.length_eraseIdx_of_lt hk)
  have heI := Lib.hid (fun k => ofN_ok (m := xss.length) (by have := hg.2.1; omega) (has.erase k))
  have hno := Lib.hid (fun k (hk : k < is.length) h => min_no (n := n) (xss := xss) hk h)
  have hnx := Lib.hid (fun k h0 h => min_next (n := n) (xss := xss) (is := is) (k := k) h0 h)
  have hdef : Hid (minB n xss is = (List.range is.length).all fun k => !coreB n xss (is.eraseIdx k)) := rfl
  have hl3 : is.length ≤ 100000 := hl
  clear hI hT hg hic has hT2 hris
  obtain ⟨z, hz⟩ : ∃ z, minB n xss is = z := ⟨_, rfl⟩
  rw [hz]
  replace hz := Lib.hid hz
  cases hq : coreB n xss is
  · rw [hq] at hcc
    clear hwo hce hell heI hno hnx hdef
    go_enter Try.func30, Try.ntmps30
    go_wp2_with fail
    refine hcall.out.mono ?_
    rintro e w1 ⟨rfl, hb1⟩
    have S1 := Lib.hid (S0.out.grow hb1)
    clear hcall S0 c0 c1 hb1
    have c0 := S1.out.cell (i := 0) rfl (o := 0) rfl
    have c1 := S1.out.cell (i := 0) rfl (o := 1) rfl
    go_wp2_with fail
    refine (hris2.out _ S1.out.below).mono ?_
    rintro e w2 ⟨rfl, hb2⟩
    have S2 := Lib.hid (S1.out.grow hb2)
    clear hris2 S1 c0 c1 hb2
    have c0 := S2.out.cell (i := 0) rfl (o := 0) rfl
    have c1 := S2.out.cell (i := 0) rfl (o := 1) rfl
    go_wp2_with fail
    refine (hcc.out _ S2.out.below).mono ?_
    rintro e w3 ⟨rfl, hb3⟩
    have hB := Lib.hid (S2.out.grow hb3).below
    clear hcc S2 c0 c1 hb3
    go_wp2_with fail
    go_ret2
    exact ⟨rfl, hB.out⟩
  · rw [hq] at hcc
    rw [Bool.true_and]
    go_enter Try.func30, Try.ntmps30
    go_wp2_with fail
    refine hcall.out.mono ?_
    rintro e w1 ⟨rfl, hb1⟩
    have S1 := Lib.hid (S0.out.grow hb1)
    clear hcall S0 c0 c1 hb1
    have c0 := S1.out.cell (i := 0) rfl (o := 0) rfl
    have c1 := S1.out.cell (i := 0) rfl (o := 1) rfl
    go_wp2_with fail
    refine (hris2.out _ S1.out.below).mono ?_
    rintro e w2 ⟨rfl, hb2⟩
    have S2 := Lib.hid (S1.out.grow hb2)
    clear hris2 S1 c0 c1 hb2
    have c0 := S2.out.cell (i := 0) rfl (o := 0) rfl
    have c1 := S2.out.cell (i := 0) rfl (o := 1) rfl
    go_wp2_with fail
    refine (hcc.out _ S2.out.below).mono ?_
    rintro e w3 ⟨rfl, hb3⟩
    have S3 := Lib.hid (S2.out.grow hb3)
    clear hcc S2 c0 c1 hb3
    go_wp2_with fail
    go_loopw [6, 22] (fun _ vi wr => ∃ k : Nat, k ≤ is.length ∧ vi = .int .i64 k ∧ Hid (((List.range k).all fun k => !coreB n xss (is.eraseIdx k)) = true) ∧ Hid (Sp w wr [Box w.heap.size 26 #[.int .i64 n, .slice A xss.length cap]])) (fun _ vi _ => is.length - (intOf vi).toNat)
    case atStart => exact ⟨0, Nat.zero_le _, rfl, rfl, S3⟩
    case round =>
      obtain ⟨k, hk, rfl, hR, HS⟩ := hrel
      clear S3
      by_cases hlt : k < is.length
      · have c0 := HS.out.cell (i := 0) rfl (o := 0) rfl
        have c1 := HS.out.cell (i := 0) rfl (o := 1) rfl
        have S4 := Lib.hid HS.out.drew
        have hw4 := hwo.out k hlt _ S4.out.below
        rw [ofN_eraseIdx] at hw4
        replace hw4 := Lib.hid hw4
        have hno2 := Lib.hid (hno.out k hlt)
        have hnx2 := Lib.hid (hnx.out k hR.out)
        have hel := hell.out k hlt
        go_wp2_with fail
        refine wp_region_held_lit (S := (fun w' => w'.cell? ⟨w.heap.size, 0, none⟩ = some (.int .i64 n) ∧ w'.cell? ⟨w.heap.size, 1, none⟩ = some (.slice A xss.length cap))) 5 [false, false, false, false, false] (by kernel_rfl) (by kernel_rfl) (by kernel_rfl) ?_ ?_
        · exact ⟨c0, c1⟩
        intro hSc
        (refine wpAnyH_take (i := 0) (v := ?_) rfl (by kernel_rfl) (by kernel_rfl) (by kernel_rfl) (fun _ _ _ h => h) (Or.inl ⟨by rfl, ?_⟩) (by assumption) ?_; rotate_left; (focus (intro w hSw; (try dsimp only at hSw); go_simp; (try with_reducible rfl); done)); (try simp only [put_rules]))
        (refine wpAnyH_take (i := 1) (v := ?_) rfl (by kernel_rfl) (by kernel_rfl) (by kernel_rfl) (fun _ _ _ h => h) (Or.inl ⟨by rfl, ?_⟩) (by assumption) ?_; rotate_left; (focus (intro w hSw; (try dsimp only at hSw); go_simp; (try with_reducible rfl); done)); (try simp only [put_rules]))
        (refine wpAnyH_take (i := 2) (v := ?_) rfl (by kernel_rfl) (by kernel_rfl) (by kernel_rfl) (fun _ _ _ h => h) (Or.inl ⟨by rfl, ?_⟩) (by assumption) ?_; rotate_left; (focus (intro w hSw; (try dsimp only at hSw); go_simp; (try with_reducible rfl); done)); (try simp only [put_rules]))
        (refine wpAnyH_ready (rs := [3]) (by kernel_rfl) (by simp) ?_; refine AllReadyH.cons rfl (fun K hK => ?_) AllReadyH.nil)
        go_simp
        go_at_call 111
        refine hw4.out.mono ?_
        rintro e w4 ⟨E, ec, rfl, T⟩
        have S5 := S4.out.seq T
        have hown := S5.own (i := 0) rfl
        have hol : (ofN (is.eraseIdx k)).length = is.length - 1 := by rw [ofN_len, hel]
        rw [← hol] at hown
        obtain ⟨B', c', e1, hT5⟩ := ints_own hown (heI.out k)
        rw [hol] at e1
        simp only [Value.slice.injEq] at e1
        obtain ⟨rfl, -, rfl⟩ := e1
        have hcc := hce.out k E ec w4 S5.below hT5
        rw [hel] at hcc
        replace hcc := Lib.hid hcc
        replace S5 := Lib.hid S5
        obtain ⟨q, hqq⟩ : ∃ q, coreB n xss (is.eraseIdx k) = q := ⟨_, rfl⟩
        rw [hqq] at hcc
        replace hqq := Lib.hid hqq
        replace hel := Lib.hid hel
        clear hw4 S4 HS T hown hol hT5 c0 c1
        go_wp2_with fail
        refine hK.out _ _ ⟨S5.out.cell (i := 1) rfl (o := 0) rfl, S5.out.cell (i := 1) rfl (o := 1) rfl⟩ (fun hS2 => ?_)
        clear hK hSc
        (try simp only [put_rules])
        (refine wpAnyH_ready (rs := [4]) (by kernel_rfl) (by simp) ?_; refine AllReadyH.cons rfl (fun K hK => ?_) AllReadyH.nil)
        go_simp
        go_at_call 113
        refine hcc.out.mono ?_
        rintro e w5 ⟨rfl, hb5⟩
        have S6 := Lib.hid (S5.out.grow hb5)
        clear hcc S5 hb5
        go_wp2_with fail
        refine hK.out _ _ ⟨S6.out.cell (i := 1) rfl (o := 0) rfl, S6.out.cell (i := 1) rfl (o := 1) rfl⟩ (fun hS3 => ?_)
        clear hK hS2
        (try simp only [put_rules])
        (refine wpAnyH_done (by kernel_rfl) ?_ _)
        cases q
        · have hR2 := Lib.hid (hnx2.out hqq.out)
          have S7 := Lib.hid S6.out.tail
          clear S6 hno2 hnx2 hS3
          go_wp2_with fail
          go_roundw
          case rel => exact ⟨k + 1, by omega, by go_num, hR2, S7⟩
          case measure => simp [intOf]; omega
        · obtain rfl : z = false := by rw [← hz.out]; exact hno2.out hqq.out
          have hB := Lib.hid S6.out.below
          clear S6 hno2 hnx2 hS3 hz
          go_wp2_with fail
          go_ret2
          exact ⟨rfl, hB.out⟩
      · obtain rfl : k = is.length := by omega
        obtain rfl : z = true := by rw [← hz.out]; exact hdef.out.trans hR.out
        have hB := Lib.hid HS.out.below
        clear HS hz
        go_wp2_with fail
        go_ret2
        exact ⟨rfl, hB.out⟩

set_option maxRecDepth 100000 in
set_option maxHeartbeats 8000000 in
theorem specIsCore_any (vars : Int) (v : Value) (xss : List (List Int)) (l : List Int) (D : Option Addr) (dc : Nat) (F G : List Nat) (w : World) (hx : (Ty.slice Ty.int).row false w v xss F) (hy : Ty.int.row false w (.slice D l.length dc) l G) (hl : l.length ≤ 100000) :
    Calls Try.prog 33 #[.agg #[.int .i64 vars, v], .slice D l.length dc] w fun e w' => e = .returned (.tuple #[.bool (goodB vars xss && risB xss.length l && coreB vars.toNat xss (natL l)), .bool (goodB vars xss && risB xss.length l)]) ∧ Below w.heap.size w w' := by
  obtain ⟨A, cap, rfl, hI⟩ := cls_row hx
  obtain ⟨D', dc', e', hT⟩ := ints_row hy
  cases e'
  obtain ⟨_, _, e', hdc, -⟩ := Ty.row_len hy
  cases e'
  have S0 := (Sp.start w).alloc_box #[.int .i64 vars, .slice A xss.length cap] 26
  have hcall := Lib.hid (l5Takes_any vars _ xss l D dc F G _ (Ty.row_below hx S0.below (Ty.row_lt hx)) (Ty.row_below hy S0.below (Ty.row_lt hy)) hl)
  replace S0 := Lib.hid S0
  have c0 := S0.out.cell (i := 0) rfl (o := 0) rfl
  have c1 := S0.out.cell (i := 0) rfl (o := 1) rfl
  clear hx
  cases h3 : goodB vars xss && risB xss.length l
  · rw [h3] at hcall
    clear hy hI hT
    go_enter Try.func33, Try.ntmps33
    go_wp2_with fail
    refine hcall.out.mono ?_
    rintro e w1 ⟨rfl, hb1⟩
    have hB := Lib.hid (S0.out.grow hb1).below
    clear hcall S0 c0 c1 hb1
    go_wp2_with fail
    go_ret2
    exact ⟨rfl, hB.out⟩
  rw [h3] at hcall
  obtain ⟨h1, h2⟩ := Bool.and_eq_true_iff.1 h3
  have hg := good_cnf h1
  obtain ⟨hln, has⟩ := ris_natL h2
  obtain ⟨is, his⟩ : ∃ is, natL l = is := ⟨_, rfl⟩
  rw [his] at hln has ⊢
  subst hln
  obtain ⟨n, rfl⟩ := Int.eq_ofNat_of_zero_le hg.1.1
  rw [show (n : Int).toNat = n by omega]
  have hn : n ≤ 12 := by omega
  rw [ofN_len] at hl hdc hcall ⊢
  have hil := asc_len has
  have hic := fun is (hi : AscN xss.length is) E ec W (h : Below w.heap.size w W) (hy : IntsAt W E (ofN is)) => l5Core_any n hn xss hg.2.2.2 is hi.2 (by have := asc_len hi; have := hg.2.1; omega) A E cap ec W (hI.grow h) hy
  have hT2 := Lib.hid hT
  simp only [Bool.true_and]
  have hcc := Lib.hid (fun W h => hic is has D dc W h (hT2.out.grow h))
  generalize coreB n xss is = q at *
  clear hy hI hT hg hic has hT2 hil
  go_enter Try.func33, Try.ntmps33
  go_wp2_with fail
  refine hcall.out.mono ?_
  rintro e w1 ⟨rfl, hb1⟩
  have S1 := Lib.hid (S0.out.grow hb1)
  clear hcall S0 c0 c1 hb1
  have c0 := S1.out.cell (i := 0) rfl (o := 0) rfl
  have c1 := S1.out.cell (i := 0) rfl (o := 1) rfl
  have S2 := S1
  clear S1
  go_wp2_with fail
  refine (hcc.out _ S2.out.below).mono ?_
  rintro e w3 ⟨rfl, hb3⟩
  have hB := Lib.hid (S2.out.grow hb3).below
  clear hcc S2 c0 c1 hb3
  go_wp2_with fail
  go_ret2
  exact ⟨rfl, hB.out⟩

set_option maxRecDepth 100000 in
set_option maxHeartbeats 8000000 in
theorem specIsMinimal_any (vars : Int) (v : Value) (xss : List (List Int)) (l : List Int) (D : Option Addr) (dc : Nat) (F G : List Nat) (w : World) (hx : (Ty.slice Ty.int).row false w v xss F) (hy : Ty.int.row false w (.slice D l.length dc) l G) (hl : l.length ≤ 100000) :
    Calls Try.prog 34 #[.agg #[.int .i64 vars, v], .slice D l.length dc] w fun e w' => e = .returned (.tuple #[.bool (goodB vars xss && risB xss.length l && (coreB vars.toNat xss (natL l) && minB vars.toNat xss (natL l))), .bool (goodB vars xss && risB xss.length l)]) ∧ Below w.heap.size w w' := by
  obtain ⟨A, cap, rfl, hI⟩ := cls_row hx
  obtain ⟨D', dc', e', hT⟩ := ints_row hy
  cases e'
  obtain ⟨_, _, e', hdc, -⟩ := Ty.row_len hy
  cases e'
  have S0 := (Sp.start w).alloc_box #[.int .i64 vars, .slice A xss.length cap] 26
  have hcall := Lib.hid (l5Takes_any vars _ xss l D dc F G _ (Ty.row_below hx S0.below (Ty.row_lt hx)) (Ty.row_below hy S0.below (Ty.row_lt hy)) hl)
  replace S0 := Lib.hid S0
  have c0 := S0.out.cell (i := 0) rfl (o := 0) rfl
  have c1 := S0.out.cell (i := 0) rfl (o := 1) rfl
  clear hx
  cases h3 : goodB vars xss && risB xss.length l
  · rw [h3] at hcall
    clear hy hI hT
    go_enter Try.func34, Try.ntmps34
    go_wp2_with fail
    refine hcall.out.mono ?_
    rintro e w1 ⟨rfl, hb1⟩
    have hB := Lib.hid (S0.out.grow hb1).below
    clear hcall S0 c0 c1 hb1
    go_wp2_with fail
    go_ret2
    exact ⟨rfl, hB.out⟩
  rw [h3] at hcall
  obtain ⟨h1, h2⟩ := Bool.and_eq_true_iff.1 h3
  have hg := good_cnf h1
  obtain ⟨hln, has⟩ := ris_natL h2
  obtain ⟨is, his⟩ : ∃ is, natL l = is := ⟨_, rfl⟩
  rw [his] at hln has ⊢
  subst hln
  obtain ⟨n, rfl⟩ := Int.eq_ofNat_of_zero_le hg.1.1
  rw [show (n : Int).toNat = n by omega]
  have hn : n ≤ 12 := by omega
  rw [ofN_len] at hl hdc hcall ⊢
  have hil := asc_len has
  have hic := fun is (hi : AscN xss.length is) E ec W (h : Below w.heap.size w W) (hy : IntsAt W E (ofN is)) => l5Core_any n hn xss hg.2.2.2 is hi.2 (by have := asc_len hi; have := hg.2.1; omega) A E cap ec W (hI.grow h) hy
  have hT2 := Lib.hid hT
  simp only [Bool.true_and]
  have hcc := Lib.hid (fun W h => hic is has D dc W h (hT2.out.grow h))
  have hwo := Lib.hid (fun k (hk : k < is.length) W (h : Below w.heap.size w W) => l5Skip_any D is.length dc k (ofN is) W (hT2.out.grow h) (ofN_len is) (by omega) hk hdc)
  have hce := Lib.hid (fun k E ec W (h : Below w.heap.size w W) (hy : IntsAt W E (ofN (is.eraseIdx k))) => hic (is.eraseIdx k) (has.erase k) E ec W h hy)
  have hell := Lib.hid (fun k (hk : k < is.length) => List.length_eraseIdx_of_lt hk)
  have heI := Lib.hid (fun k => ofN_ok (m := xss.length) (by have := hg.2.1; omega) (has.erase k))
  have hno := Lib.hid (fun k (hk : k < is.length) h => min_no (n := n) (xss := xss) hk h)
  have hnx := Lib.hid (fun k h0 h => min_next (n := n) (xss := xss) (is := is) (k := k) h0 h)
  have hdef : Hid (minB n xss is = (List.range is.length).all fun k => !coreB n xss (is.eraseIdx k)) := rfl
  have hl3 : is.length ≤ 100000 := hl
  clear hy hI hT hg hic has hT2
  obtain ⟨z, hz⟩ : ∃ z, minB n xss is = z := ⟨_, rfl⟩
  rw [hz]
  replace hz := Lib.hid hz
  cases hq : coreB n xss is
  · rw [hq] at hcc
    clear hwo hce hell heI hno hnx hdef
    go_enter Try.func34, Try.ntmps34
    go_wp2_with fail
    refine hcall.out.mono ?_
    rintro e w1 ⟨rfl, hb1⟩
    have S1 := Lib.hid (S0.out.grow hb1)
    clear hcall S0 c0 c1 hb1
    have c0 := S1.out.cell (i := 0) rfl (o := 0) rfl
    have c1 := S1.out.cell (i := 0) rfl (o := 1) rfl
    have S2 := S1
    clear S1
    go_wp2_with fail
    refine (hcc.out _ S2.out.below).mono ?_
    rintro e w3 ⟨rfl, hb3⟩
    have hB := Lib.hid (S2.out.grow hb3).below
    clear hcc S2 c0 c1 hb3
    go_wp2_with fail
    go_ret2
    exact ⟨rfl, hB.out⟩
  · rw [hq] at hcc
    rw [Bool.true_and]
    go_enter Try.func34, Try.ntmps34
    go_wp2_with fail
    refine hcall.out.mono ?_
    rintro e w1 ⟨rfl, hb1⟩
    have S1 := Lib.hid (S0.out.grow hb1)
    clear hcall S0 c0 c1 hb1
    have c0 := S1.out.cell (i := 0) rfl (o := 0) rfl
    have c1 := S1.out.cell (i := 0) rfl (o := 1) rfl
    have S2 := S1
    clear S1
    go_wp2_with fail
    refine (hcc.out _ S2.out.below).mono ?_
    rintro e w3 ⟨rfl, hb3⟩
    have S3 := Lib.hid (S2.out.grow hb3)
    clear hcc S2 c0 c1 hb3
    go_wp2_with fail
    go_loopw [6] (fun vi wr => ∃ k : Nat, k ≤ is.length ∧ vi = .int .i64 k ∧ Hid (((List.range k).all fun k => !coreB n xss (is.eraseIdx k)) = true) ∧ Hid (Sp w wr [Box w.heap.size 26 #[.int .i64 n, .slice A xss.length cap]])) (fun vi _ => is.length - (intOf vi).toNat)
    case atStart => exact ⟨0, Nat.zero_le _, rfl, rfl, S3⟩
    case round =>
      obtain ⟨k, hk, rfl, hR, HS⟩ := hrel
      clear S3
      by_cases hlt : k < is.length
      · have c0 := HS.out.cell (i := 0) rfl (o := 0) rfl
        have c1 := HS.out.cell (i := 0) rfl (o := 1) rfl
        have S4 := Lib.hid HS.out.drew
        have hw4 := hwo.out k hlt _ S4.out.below
        rw [ofN_eraseIdx] at hw4
        replace hw4 := Lib.hid hw4
        have hno2 := Lib.hid (hno.out k hlt)
        have hnx2 := Lib.hid (hnx.out k hR.out)
        have hel := hell.out k hlt
        go_wp2_with fail
        refine wp_region_held_lit (S := (fun w' => w'.cell? ⟨w.heap.size, 0, none⟩ = some (.int .i64 n) ∧ w'.cell? ⟨w.heap.size, 1, none⟩ = some (.slice A xss.length cap))) 5 [false, false, false, false, false] (by kernel_rfl) (by kernel_rfl) (by kernel_rfl) ?_ ?_
        · exact ⟨c0, c1⟩
        intro hSc
        (refine wpAnyH_take (i := 0) (v := ?_) rfl (by kernel_rfl) (by kernel_rfl) (by kernel_rfl) (fun _ _ _ h => h) (Or.inl ⟨by rfl, ?_⟩) (by assumption) ?_; rotate_left; (focus (intro w hSw; (try dsimp only at hSw); go_simp; (try with_reducible rfl); done)); (try simp only [put_rules]))
        (refine wpAnyH_take (i := 1) (v := ?_) rfl (by kernel_rfl) (by kernel_rfl) (by kernel_rfl) (fun _ _ _ h => h) (Or.inl ⟨by rfl, ?_⟩) (by assumption) ?_; rotate_left; (focus (intro w hSw; (try dsimp only at hSw); go_simp; (try with_reducible rfl); done)); (try simp only [put_rules]))
        (refine wpAnyH_take (i := 2) (v := ?_) rfl (by kernel_rfl) (by kernel_rfl) (by kernel_rfl) (fun _ _ _ h => h) (Or.inl ⟨by rfl, ?_⟩) (by assumption) ?_; rotate_left; (focus (intro w hSw; (try dsimp only at hSw); go_simp; (try with_reducible rfl); done)); (try simp only [put_rules]))
        (refine wpAnyH_ready (rs := [3]) (by kernel_rfl) (by simp) ?_; refine AllReadyH.cons rfl (fun K hK => ?_) AllReadyH.nil)
        go_simp
        go_at_call 115
        refine hw4.out.mono ?_
        rintro e w4 ⟨E, ec, rfl, T⟩
        have S5 := S4.out.seq T
        have hown := S5.own (i := 0) rfl
        have hol : (ofN (is.eraseIdx k)).length = is.length - 1 := by rw [ofN_len, hel]
        rw [← hol] at hown
        obtain ⟨B', c', e1, hT5⟩ := ints_own hown (heI.out k)
        rw [hol] at e1
        simp only [Value.slice.injEq] at e1
        obtain ⟨rfl, -, rfl⟩ := e1
        have hcc := hce.out k E ec w4 S5.below hT5
        rw [hel] at hcc
        replace hcc := Lib.hid hcc
        replace S5 := Lib.hid S5
        obtain ⟨q, hqq⟩ : ∃ q, coreB n xss (is.eraseIdx k) = q := ⟨_, rfl⟩
        rw [hqq] at hcc
        replace hqq := Lib.hid hqq
        replace hel := Lib.hid hel
        clear hw4 S4 HS T hown hol hT5 c0 c1
        go_wp2_with fail
        refine hK.out _ _ ⟨S5.out.cell (i := 1) rfl (o := 0) rfl, S5.out.cell (i := 1) rfl (o := 1) rfl⟩ (fun hS2 => ?_)
        clear hK hSc
        (try simp only [put_rules])
        (refine wpAnyH_ready (rs := [4]) (by kernel_rfl) (by simp) ?_; refine AllReadyH.cons rfl (fun K hK => ?_) AllReadyH.nil)
        go_simp
        go_at_call 116
        refine hcc.out.mono ?_
        rintro e w5 ⟨rfl, hb5⟩
        have S6 := Lib.hid (S5.out.grow hb5)
        clear hcc S5 hb5
        go_wp2_with fail
        refine hK.out _ _ ⟨S6.out.cell (i := 1) rfl (o := 0) rfl, S6.out.cell (i := 1) rfl (o := 1) rfl⟩ (fun hS3 => ?_)
        clear hK hS2
        (try simp only [put_rules])
        (refine wpAnyH_done (by kernel_rfl) ?_ _)
        cases q
        · have hR2 := Lib.hid (hnx2.out hqq.out)
          have S7 := Lib.hid S6.out.tail
          clear S6 hno2 hnx2 hS3
          go_wp2_with fail
          go_roundw
          case rel => exact ⟨k + 1, by omega, by go_num, hR2, S7⟩
          case measure => simp [intOf]; omega
        · obtain rfl : z = false := by rw [← hz.out]; exact hno2.out hqq.out
          have hB := Lib.hid S6.out.below
          clear S6 hno2 hnx2 hS3 hz
          go_wp2_with fail
          go_ret2
          exact ⟨rfl, hB.out⟩
      · obtain rfl : k = is.length := by omega
        obtain rfl : z = true := by rw [← hz.out]; exact hdef.out.trans hR.out
        have hB := Lib.hid HS.out.below
        clear HS hz
        go_wp2_with fail
        go_ret2
        exact ⟨rfl, hB.out⟩

end Go.Proofs.Ytmikconjhmhekaa
