/- Lemmas and contracts for a law, put together out of several texts: CtH CtI CtJ CtK CtL DgA FlatC DgB DgC DgD DgE DgF DgG DgM DgS DgI DgJ DgN DgO DgP DgQ DgR DgT CtM CtN CtT CuA. -/
import Derived.Test.YtnfjgebfmnpkbaaGreatMg6
import Derived.Test.YtnfjgebfmnpkbaaGreatMg1
import Derived.Test.YtnfjgebfmnpkbaaGreatMg2
import Derived.OwnWalk
import Derived.Laws.OwnMore
import Derived.BigQuiet
import Derived.Lib.QuietBelow
import Derived.Lib.Hide
import Derived.Lib.RabinKarpLaws
import Derived.Laws.StructEq
import Derived.Test.YtnfjgebfmnpkbaaGreatMg3
import Derived.Shelf.Abstract
import Derived.Deep.DeepCutAuto
import Derived.Deep.CutBlock
/- Contracts: clauses joined and made, told as own rows, in the reference. -/
namespace Go.Proofs.YtnfjgebfmnpkbaaGreat
open Go.RowKit

/-- An own row and whether it is told. -/
def OAns (w : World) (ok : Bool) (zs : List Int) (e : Ending) (w' : World) : Prop :=
  ∃ D dc, e = .returned (.tuple #[.slice D zs.length dc, .bool ok]) ∧ Sp w w' [Own 3 1 (.slice D zs.length dc) zs.length (zs.map (.int .i64))]
theorem good_take {c : List Int} (h : GoodS c) (k : Nat) : GoodS (c.take k) := ⟨fun x hx => h.mem x (List.mem_of_mem_take hx), h.asc.sublist (List.take_sublist k c)⟩
theorem join_take {c : List Int} (h : GoodS c) {k : Nat} (hk : k < c.length) : joinS (c.take k) [c[k]] = some (c.take (k + 1)) := by
  have h1 : GoodS [c[k]] := ⟨fun x hx => by
    have e : x = c[k] := by simpa using hx
    rw [e]; exact h.mem _ (List.getElem_mem hk), by simp⟩
  rw [← clauseR_join (good_take h k) h1, List.take_append_getElem hk]
  exact clauseR_self (good_take h (k + 1))
theorem good_within {c : List Int} (h : GoodS c) : Within 1000 c := fun x hx => ⟨(h.mem x hx).2.1, (h.mem x hx).2.2⟩

set_option maxRecDepth 100000 in
set_option maxHeartbeats 4000000 in
theorem l2JoinO_any (v u : Value) (a b : List Int) (F G : List Nat) (w : World) (hx : Ty.int.row false w v a F) (hy : Ty.int.row false w u b G) (wa : Within 1000 a) (wb : Within 1000 b) (la : a.length ≤ 1000) (lb : b.length ≤ 1000) :
    Calls Tryz.prog 78 #[v, u] w (OAns w (joinS a b).isSome ((joinS a b).getD [])) := by
  obtain ⟨aa, ac, rfl, _, _⟩ := Ty.row_len hx
  obtain ⟨ba, bc, rfl, hy1, hy2, _, hy3⟩ := row_int hy
  go_enter Tryz.func78, Tryz.ntmps78
  go_wp2_with fail
  refine (l1Own_any _ a F w hx (by omega)).mono ?_
  rintro e w1 ⟨v1, rfl, ho1, hb1⟩
  have S0 := (Sp.start w).own_call hb1 ho1
  obtain ⟨a1, c1, rfl⟩ := owns_form ho1
  replace S0 := Lib.hid S0
  have hW0 := Lib.hid wa
  have hj0 : Hid (joinS a (b.drop 0) = joinS a b) := by unfold Hid; rw [List.drop_zero]
  clear ho1 hb1
  go_wp2_with fail
  go_loopw [6, 7] (fun s i wr => ∃ (k : Nat) (out : List Int), k ≤ b.length ∧ i = .int .i64 k ∧ out.length ≤ a.length + k ∧ Hid (Within 1000 out) ∧ Hid (joinS out (b.drop k) = joinS a b) ∧ Hid (Sp w wr [Own 3 1 s out.length (out.map (.int .i64))])) (fun _ i _ => b.length - (intOf i).toNat)
  case atStart => exact ⟨0, a, Nat.zero_le _, rfl, by omega, hW0, hj0, S0⟩
  case round =>
    obtain ⟨k, out, hk, rfl, hol, HW, HJ, HS⟩ := hrel
    clear hj0
    clear S0
    obtain ⟨sa, sc, rfl⟩ := owns_form (HS.out.own (i := 0) rfl)
    by_cases hlt : k < b.length
    · rcases hy3 with ⟨rfl, rfl⟩ | ⟨hyn, bk, off, rfl, rfl, hyc⟩
      · exact absurd hlt (by simp)
      have hB := HS.out.below
      have k0 := ((hyc k hlt).keep (hB.block bk (hyc k hlt).lt)).1
      have hl6 := wb _ (List.getElem_mem hlt)
      obtain ⟨H, hrow', -, -⟩ := own_row (HS.out.own (i := 0) rfl) (HW.out.i64 (by decide))
      have hrow := Ty.row_down hrow'
      have hd := List.drop_eq_getElem_cons hlt
      obtain ⟨l, hl⟩ : ∃ l, l = b[k] := ⟨_, rfl⟩
      rw [← hl] at k0 hl6 hd
      have HJ2 := HJ.out
      rw [hd] at HJ2
      replace hd := Lib.hid hd
      have hneg : wrap64 (-l) = -l := by unfold wrap64; omega
      have hl0 : -1000 ≤ l := hl6.1
      have hl1 : l ≤ 1000 := hl6.2
      replace hl := Lib.hid hl
      clear hyc hB hl hl6 hrow'
      cases hq : hasI out (-l)
      · cases hq2 : hasI out l
        · rw [joinS_put hq hq2] at HJ2
          replace HJ2 := Lib.hid HJ2
          have HN := Lib.hid (within_put HW.out ⟨hl0, hl1⟩)
          have hpl := Lib.hid (put_len out l)
          have hol9 : out.length ≤ 1000000000 := by omega
          go_wp2_with (first
            | (go_at_call 89; (first | (with_reducible refine (l2Has_at hrow hq).mono ?_) | (with_reducible refine (l2Has_at hrow hq2).mono ?_)); rintro e w2 ⟨rfl, rfl⟩)
            | (go_at_call 90; (with_reducible refine (l2Put_any _ out l H _ hrow hol9).mono ?_); rintro e w2 ⟨v2, rfl, ho2, hb2⟩))
          have S1 := (HS.out.own_call hb2 ho2).drop2w
          obtain ⟨a2, c2, rfl⟩ := owns_form ho2
          replace S1 := Lib.hid S1
          clear ho2 hb2 HS hrow HJ hd
          generalize putB out l = out2 at *
          go_wp2_with fail
          go_roundw
          case rel => exact ⟨k + 1, out2, by omega, by go_num, by rw [hpl.out]; omega, HN, HJ2, S1⟩
          case measure => simp [intOf]; omega
        · rw [joinS_has hq hq2] at HJ2
          replace HJ2 := Lib.hid HJ2
          clear HJ hd
          go_wp2_with (first
            | (go_at_call 89; (first | (with_reducible refine (l2Has_at hrow hq).mono ?_) | (with_reducible refine (l2Has_at hrow hq2).mono ?_)); rintro e w2 ⟨rfl, rfl⟩))
          go_roundw
          case rel => exact ⟨k + 1, out, by omega, by go_num, by omega, HW, HJ2, HS⟩
          case measure => simp [intOf]; omega
      · rw [joinS_no hq] at HJ2
        replace HJ2 := Lib.hid HJ2
        clear HJ hd
        go_wp2_with (first
          | (go_at_call 89; (first | (with_reducible refine (l2Has_at hrow hq).mono ?_)); rintro e w2 ⟨rfl, rfl⟩))
        have S1 := Lib.hid (HS.out.own_made 3 1)
        go_ret2
        rw [← HJ2.out]
        exact ⟨_, _, rfl, Sp.pick [0] S1.out rfl⟩
    · obtain rfl : k = b.length := by omega
      have HJ2 := HJ.out
      rw [List.drop_length] at HJ2
      replace HJ2 := Lib.hid HJ2
      clear HJ
      go_wp2_with fail
      go_ret2
      rw [← HJ2.out]
      exact ⟨_, _, rfl, HS.out⟩


set_option maxRecDepth 100000 in
set_option maxHeartbeats 4000000 in
theorem l2Of_any (zs : List Int) (A : Option Addr) (cap : Nat) (w : World) (hx : IntsAt w A zs) (hg : GoodS zs) (hl : zs.length ≤ 1000) :
    Calls Tryz.prog 67 #[.slice A zs.length cap] w (OAns w true zs) := by
  have S0 := Lib.hid ((Sp.start w).own_made 3 1)
  have hX := Lib.hid hx
  have hG := Lib.hid hg
  have hcat : Hid (∀ k (hk : k < zs.length), joinS (zs.take k) [zs[k]] = some (zs.take (k + 1))) := fun k hk => join_take hg hk
  clear hx hg
  go_enter Tryz.func67, Tryz.ntmps67
  go_wp2_with fail
  go_loopw [4, 5] (fun v4 v5 wr => ∃ (k : Nat) (D : Option Addr) (dc : Nat) (ys : List Int), k ≤ zs.length ∧ v5 = .int .i64 k ∧ v4 = .slice D ys.length dc ∧ Hid (ys = zs.take k) ∧ Hid (Sp w wr [Own 3 1 (.slice D ys.length dc) ys.length (ys.map (.int .i64))])) (fun _ v5 _ => zs.length - (intOf v5).toNat)
  case atStart => exact ⟨0, _, 0, [], Nat.zero_le _, rfl, rfl, rfl, S0⟩
  case round =>
    clear S0
    obtain ⟨k, D, dc, ys, hk, rfl, rfl, hys, HS⟩ := hrel
    by_cases hlt : k < zs.length
    · obtain ⟨ab, aoff, hA, m0⟩ := (hX.out.grow HS.out.below).at_ k hlt
      subst hA
      have hzi : Hid (∀ x ∈ zs, I64 x) := fun x hx => (hG.out.mem x hx).i64
      have hcatk := hcat.out k hlt
      have hwz : Hid (Within 1000 [zs[k]]) := fun x hx => by
        have e : x = zs[k] := by simpa using hx
        rw [e]; exact good_within hG.out _ (List.getElem_mem hlt)
      have hwy : Hid (Within 1000 ys) := fun x hx => by
        rw [hys.out] at hx; exact good_within hG.out x (List.mem_of_mem_take hx)
      have hyl : Hid (ys.length ≤ 1000) := by unfold Hid; rw [hys.out, List.length_take]; omega
      have hzk := hzi.out _ (List.getElem_mem hlt)
      rw [← hys.out] at hcatk
      replace hcatk := Lib.hid hcatk
      generalize zs[k] = z at *
      have S1 := HS.out.alloc_box #[.int .i64 z] 3
      have hu : Ty.int.row false (wr.alloc (.cells #[.int .i64 z] 3)) (.slice (some ⟨wr.heap.size, 0, none⟩) 1 1) [z] [wr.heap.size] :=
        row_int_mk (xs := [z]) (fun x hx => by have e : x = z := by simpa using hx
                                               rw [e]; exact hzk) (by simp) (by omega) (by simp) (fun j hj => by
          have e : j = 0 := by simpa using hj
          subst e
          exact ⟨S1.cell (i := 0) rfl (o := 0) rfl, fun h => by cases h⟩)
      obtain ⟨F1, hr1, -, -⟩ := own_row (S1.own (i := 1) rfl) (fun x hx => by have := hwy.out x hx; unfold I64; omega)
      have hcall := l2JoinO_any _ _ ys [z] F1 _ _ (Ty.row_down hr1) hu hwy.out hwz.out hyl.out (by simp)
      rw [hcatk.out, Option.isSome_some, Option.getD_some] at hcall
      replace hcall := Lib.hid hcall
      replace S1 := Lib.hid S1
      clear HS hr1 hu hcat hcatk hzk hwz hwy
      generalize hnx : zs.take (k + 1) = ys2 at *
      replace hnx := Lib.hid hnx
      go_wp2_with fail
      refine hcall.out.mono ?_
      rintro e w2 ⟨D2, dc2, rfl, T⟩
      have S2 := Lib.hid ((Sp.start w).grow S1.out.below |>.seq T)
      clear hcall S1 T
      go_wp2_with fail
      go_roundw
      case rel => exact ⟨k + 1, D2, dc2, ys2, by omega, by go_num, rfl, hnx.out.symm, S2⟩
      case measure => simp [intOf]; omega
    · obtain rfl : k = zs.length := by omega
      have e1 : ys = zs := by have := hys.out; rwa [List.take_length] at this
      subst e1
      go_wp2_with fail
      go_ret2
      exact ⟨D, dc, rfl, HS.out⟩
end Go.Proofs.YtnfjgebfmnpkbaaGreat

/- Contract: a clause put behind the others, in the reference. -/
namespace Go.Proofs.YtnfjgebfmnpkbaaGreat
open Go.RowKit

/-- A Cnf by value whose clauses are the walk's own. -/
def AddP (w0 : World) (ps : List Asn) (vars : Int) (xss : List (List Int)) (e : Ending) (w' : World) : Prop :=
  ∃ B' c' cs', e = .returned (.agg #[.int .i64 vars, .slice B' xss.length c']) ∧ Sp w0 w' (Rows Ty.int 33 (.slice B' xss.length c') cs' xss :: ps)

set_option maxRecDepth 100000 in
set_option maxHeartbeats 8000000 in
theorem l4Add_any (vars : Int) (B : Option Addr) (c : Nat) (cs : List Value) (xss : List (List Int)) (ps : List Asn) (w0 W : World) (zs : List Int) (A : Option Addr) (cap : Nat) (hx : IntsAt W A zs) (hg : GoodS zs) (hl : zs.length ≤ 1000) (hm : xss.length ≤ 61)
    (S : Sp w0 W (Rows Ty.int 33 (.slice B xss.length c) cs xss :: ps)) :
    Calls Tryz.prog 48 #[.agg #[.int .i64 vars, .slice B xss.length c], .slice A zs.length cap] W (AddP w0 ps vars (capL 60 (xss ++ [zs]))) := by
  have S0 := (S.alloc_box #[.int .i64 vars, .slice B xss.length c] 29).alloc_box #[.int .i64 0, .slice none 0 0] 29
  simp only [World.size_alloc] at S0
  have a0 := S0.cell (i := 1) rfl (o := 0) rfl
  have a1 := S0.cell (i := 1) rfl (o := 1) rfl
  by_cases hf : xss.length ≤ 60
  · have d0 : decide ((xss.length : Int) ≤ 60) = true := decide_eq_true (by omega)
    rw [capL_all (X := xss ++ [zs]) (by simp; omega)]
    obtain ⟨i1, hi, hz0, hz1, hz2⟩ := info_parts infoRow
    have hBW := bal (bal (bb W) (.cells #[.int .i64 vars, .slice B xss.length c] 29)) (.cells #[.int .i64 0, .slice none 0 0] 29)
    have hcall := Lib.hid (l2Of_any zs A cap _ (hx.grow hBW) hg hl)
    clear hBW
    have hI : Hid (∀ x ∈ zs, I64 x) := fun x hx => (hg.mem x hx).i64
    replace S0 := Lib.hid S0
    clear hx hg S
    go_enter Tryz.func48, Tryz.ntmps48
    go_wp2_with fail
    refine hcall.out.mono ?_
    rintro e w2 ⟨D, dc, rfl, T⟩
    have S1 := Sp.own_to_row (S0.out.seq T) hI.out
    have b0 := S1.cell (i := 2) rfl (o := 0) rfl
    have b1 := S1.cell (i := 2) rfl (o := 1) rfl
    have S2 := S1.alloc_box #[.slice D zs.length dc] 33
    have kB := S2.cell (i := 0) rfl (o := 0) rfl
    have hrows := Lib.hid (S2.rows (i := 4) rfl)
    replace S1 := Lib.hid S1
    clear S0 T hcall a0 a1 S2
    go_wp2_with (at_builtin; refine wpList_append_src rfl _ _ rfl Tryz.underlying24 hi hz0 hz1 hz2 rfl (by decide) _ xss.length _ rfl hrows.out _ 1 1 [.slice D zs.length dc] rfl (Src.one kB) (by simp [Value.oneCell']) ?c3 ?c4 ?_)
    case c3 => unfold maxLen; omega
    case c4 => omega
    intro vY wY hownY hgY hatY
    have S4 := ((S1.out.bring (i := 3) rfl).swap).rows_push (bal (bb _) _) hownY hgY (by simpa using hatY)
    obtain ⟨aY, cY, rfl⟩ := own_slice hownY
    have hlen : xss.length + 1 = (xss ++ [zs]).length := by simp
    rw [hlen] at S4 ⊢
    clear S1 hrows hownY hgY hatY kB b0 b1 hlen
    generalize xss ++ [zs] = yss at *
    have f1 := S4.frozen (i := 2) rfl 1
    have g0 := S4.cell (i := 2) rfl (o := 0) rfl
    have g1 := S4.cell (i := 2) rfl (o := 1) rfl
    have S5 := S4.store (i := 2) rfl 1 (.slice aY yss.length cY)
    have h0 := S5.cell (i := 2) rfl (o := 0) rfl
    have h1 := S5.cell (i := 2) rfl (o := 1) rfl
    have r0 := S5.cell (i := 1) rfl (o := 0) rfl
    have r1 := S5.cell (i := 1) rfl (o := 1) rfl
    have q0 := S5.frozen (i := 1) rfl 0
    have q1 := S5.frozen (i := 1) rfl 1
    have SF := (S5.store (i := 1) rfl 0 (.int .i64 vars)).store (i := 1) rfl 1 (.slice aY yss.length cY)
    have j0 := SF.cell (i := 1) rfl (o := 0) rfl
    have j1 := SF.cell (i := 1) rfl (o := 1) rfl
    have SG := Lib.hid (show Sp w0 _ (Rows Ty.int 33 (.slice aY yss.length cY) _ yss :: ps) from SF.drop2w.drop2w)
    clear S4 S5 SF
    go_wp2_with fail
    exact bodyPost_ret (v := .agg #[.int .i64 vars, .slice aY yss.length cY]) (by simp [results, Tryz.results48, go_sem, j0, j1]) rfl ⟨aY, cY, _, rfl, SG.out⟩
  · have d0 : decide ((xss.length : Int) ≤ 60) = false := decide_eq_false (by omega)
    have e1 : capL 60 (xss ++ [zs]) = xss := by rw [capL_over (X := xss) (by rw [capL_all (by omega)]; omega), capL_all (by omega)]
    rw [e1]
    have SF := (S.alloc_box #[.int .i64 vars, .slice B xss.length c] 29).alloc_box #[.int .i64 vars, .slice B xss.length c] 29
    simp only [World.size_alloc] at SF
    have j0 := SF.cell (i := 0) rfl (o := 0) rfl
    have j1 := SF.cell (i := 0) rfl (o := 1) rfl
    have SG : Hid (Sp w0 _ (Rows Ty.int 33 (.slice B xss.length c) cs xss :: ps)) := SF.tail.tail
    clear S0 SF S hx hg e1
    go_enter Tryz.func48, Tryz.ntmps48
    go_wp2_with fail
    exact bodyPost_ret (v := .agg #[.int .i64 vars, .slice B xss.length c]) (by simp [results, Tryz.results48, go_sem, j0, j1]) rfl ⟨B, c, cs, rfl, SG.out⟩
end Go.Proofs.YtnfjgebfmnpkbaaGreat

/- Contract: clauses for all choices, in the reference. -/
namespace Go.Proofs.YtnfjgebfmnpkbaaGreat
open Go.RowKit

/-- The clauses of the choices that begin so. -/
def gsL (s : Int) (n : Nat) (xs : List Nat) (d a : Nat) : List (List Int) := (goL (n + 1) xs d a).map (sgC s)
def ssL (s : Int) (n : Nat) (xs : List Nat) (d a v : Nat) : List (List Int) := (soL (n + 1) xs d a v).map (sgC s)
theorem gsL_zero (s : Int) (n : Nat) (xs : List Nat) (a : Nat) : gsL s n xs 0 a = [sgC s (ofN xs)] := by unfold gsL; rw [goL_zero]; rfl
theorem gsL_succ (s : Int) (n : Nat) (xs : List Nat) (d a : Nat) : gsL s n xs (d + 1) a = ssL s n xs d a (n + 1) := by unfold gsL ssL; rw [soL_all]
theorem ssL_start (s : Int) (n : Nat) (xs : List Nat) (d a : Nat) : ssL s n xs d a a = [] := by unfold ssL; rw [soL_start]; rfl
theorem ssL_next {s : Int} {n : Nat} {xs : List Nat} {d a v : Nat} (h : a ≤ v) : ssL s n xs d a (v + 1) = ssL s n xs d a v ++ gsL s n (xs ++ [v]) d (v + 1) := by
  unfold ssL gsL; rw [soL_next h, List.map_append]
theorem ssL_pre {s : Int} {n : Nat} {xs : List Nat} {d a v : Nat} (h : a ≤ v) (h2 : v ≤ n + 1) : ∃ Y, ssL s n xs d a (n + 1) = ssL s n xs d a v ++ Y := by
  obtain ⟨k, hk⟩ : ∃ k, n + 1 = v + k := ⟨n + 1 - v, by omega⟩
  have key : ∀ k, ∃ Y, ssL s n xs d a (v + k) = ssL s n xs d a v ++ Y := by
    intro k
    induction k with
    | zero => exact ⟨[], by simp⟩
    | succ k ih =>
      obtain ⟨Y, hY⟩ := ih
      exact ⟨Y ++ gsL s n (xs ++ [v + k]) d (v + k + 1), by rw [← Nat.add_assoc, ssL_next (by omega), hY, List.append_assoc]⟩
  rw [hk]; exact key k
/-- The chosen ones, as an own row. -/
abbrev Cho (s : Int) (A : Option Addr) (c : Nat) (xs : List Nat) : Asn := Own 3 1 (.slice A xs.length c) xs.length ((sgC s (ofN xs)).map (.int .i64))
theorem cho_len (s : Int) (xs : List Nat) : (sgC s (ofN xs)).length = xs.length := by simp [sgC, ofN]
theorem cho_good {s : Int} (hs : s = 1 ∨ s = -1) {n : Nat} (hn : n ≤ 12) {xs : List Nat} (h : AscN (n + 1) xs) (h1 : ∀ i ∈ xs, 1 ≤ i) : GoodS (sgC s (ofN xs)) := by
  have hm : ofN xs ∈ goL (n + 1) [] xs.length 1 := by
    unfold goL
    exact List.mem_map.2 ⟨xs, asc_combs xs 1 h.1 (fun i hi => ⟨h1 i hi, h.2 i hi⟩), by simp⟩
  exact (goL_good hn hs hm).1
theorem cho_ints {s : Int} {w0 w : World} {ps : List Asn} {i : Nat} {A : Option Addr} {c : Nat} {xs : List Nat} (h : Sp w0 w ps) (hi : ps[i]? = some (Cho s A c xs)) (hg : GoodS (sgC s (ofN xs))) : IntsAt w A (sgC s (ofN xs)) := by
  refine h.ints (i := i) (c := c) (e := 3) ?_ (fun x hx => (hg.mem x hx).i64)
  rw [cho_len]; exact hi

/- left out: the seat has no spec.l4Choose -/
end Go.Proofs.YtnfjgebfmnpkbaaGreat

/- Contract: clauses for all choices, in the reference, at every depth. -/
namespace Go.Proofs.YtnfjgebfmnpkbaaGreat
open Go.RowKit

/- left out: the seat has no spec.l4Choose -/
end Go.Proofs.YtnfjgebfmnpkbaaGreat

/- Contracts: at most and at least, in the reference. -/
namespace Go.Proofs.YtnfjgebfmnpkbaaGreat
open Go.RowKit

theorem most_gs (n k : Nat) : capL 60 ([] ++ gsL (-1) n [] (k + 1) 1) = mostL n k := by
  unfold mostL chL gsL capL; rw [List.nil_append, List.map_take]
theorem least_gs {n k : Nat} (h : 0 < k) : capL 60 ([] ++ gsL 1 n [] (n + 1 - k) 1) = leastL n k := by
  rw [leastL_mid h]; unfold chL gsL capL
  rw [List.nil_append, ← List.map_take]
  conv => rhs; rw [← List.map_id (List.take (60 + 1) (goL (n + 1) [] (n + 1 - k) 1))]
  exact List.map_congr_left fun c _ => sgC_one c
theorem good_none {n : Nat} (hn : n ≤ 12) : goodB n [] = true := by
  have h : inB (n : Int) 0 12 = true := inB_true.2 ⟨by omega, by omega⟩
  unfold goodB; rw [h]; rfl

/- left out: the seat has no spec.AtMostCnf -/

/- left out: the seat has no spec.AtLeastCnf -/

/- left out: the seat has no spec.AtMostCnf -/
end Go.Proofs.YtnfjgebfmnpkbaaGreat

/- Plain facts: diagrams, their values, and the plan of values. No program in sight. -/
namespace Go.Proofs.YtnfjgebfmnpkbaaGreat

/-- A node: variable, low, high. -/
structure Nd where
  v : Int
  lo : Int
  hi : Int
  deriving DecidableEq

/-- The value of a number, where the nodes have these values. -/
def pv (acc : List Bool) (k : Int) : Bool := if k < 2 then decide (k = 1) else acc.getD (k - 2).toNat false
def bitN (bits : Nat) (v : Int) : Bool := bits.testBit (v - 1).toNat
def kid (bits : Nat) (n : Nd) : Int := if bitN bits n.v then n.hi else n.lo
/-- The values of all nodes. -/
def valsN (bits : Nat) (ns : List Nd) : List Bool := ns.foldl (fun acc n => acc ++ [pv acc (kid bits n)]) []
def valD (r : Int) (ns : List Nd) (bits : Nat) : Bool := pv (valsN bits ns) r

theorem vals_snoc (bits : Nat) (ns : List Nd) (n : Nd) : valsN bits (ns ++ [n]) = valsN bits ns ++ [pv (valsN bits ns) (kid bits n)] := by
  simp [valsN]
theorem foldl_vals_len (bits : Nat) (ns : List Nd) : ∀ acc : List Bool, (ns.foldl (fun acc n => acc ++ [pv acc (kid bits n)]) acc).length = acc.length + ns.length := by
  induction ns with
  | nil => intro acc; rfl
  | cons n ns ih => intro acc; simp only [List.foldl_cons]; rw [ih]; simp; omega
theorem vals_len (bits : Nat) (ns : List Nd) : (valsN bits ns).length = ns.length := by
  unfold valsN; rw [foldl_vals_len]; simp
theorem foldl_vals_pre (bits : Nat) (ns : List Nd) : ∀ acc : List Bool, ∃ l, ns.foldl (fun acc n => acc ++ [pv acc (kid bits n)]) acc = acc ++ l := by
  induction ns with
  | nil => intro acc; exact ⟨[], by simp⟩
  | cons n ns ih =>
    intro acc
    obtain ⟨l, hl⟩ := ih (acc ++ [pv acc (kid bits n)])
    exact ⟨pv acc (kid bits n) :: l, by simp only [List.foldl_cons]; rw [hl]; simp⟩
theorem vals_pre (bits : Nat) (ns ms : List Nd) : ∃ l, valsN bits (ns ++ ms) = valsN bits ns ++ l := by
  unfold valsN
  rw [List.foldl_append]
  exact foldl_vals_pre bits ms _
theorem pv_bool (acc : List Bool) (x : Bool) : pv acc (if x then 1 else 0) = x := by cases x <;> simp [pv]
theorem pv_pre {acc l : List Bool} {k : Int} (h : k ≤ acc.length + 1) : pv (acc ++ l) k = pv acc k := by
  unfold pv
  by_cases h2 : k < 2
  · rw [if_pos h2, if_pos h2]
  · rw [if_neg h2, if_neg h2, List.getD_eq_getElem?_getD, List.getD_eq_getElem?_getD, List.getElem?_append_left (by omega)]
theorem valD_pre {r : Int} {ns ms : List Nd} {bits : Nat} (h : r ≤ ns.length + 1) : valD r (ns ++ ms) bits = valD r ns bits := by
  obtain ⟨l, hl⟩ := vals_pre bits ns ms
  unfold valD
  rw [hl, pv_pre (by rw [vals_len]; omega)]
/-- The value of a node is that of its kid. -/
theorem vals_at {ns : List Nd} {i : Nat} (hi : i < ns.length) (bits : Nat) (h : kid bits ns[i] ≤ i + 1) : valD ((i : Int) + 2) ns bits = valD (kid bits ns[i]) ns bits := by
  have h1 : ns = ns.take i ++ (ns[i] :: ns.drop (i + 1)) := by rw [List.getElem_cons_drop, List.take_append_drop]
  have h2 : ns = (ns.take i ++ [ns[i]]) ++ ns.drop (i + 1) := by rw [List.append_assoc]; exact h1
  have hl : (ns.take i).length = i := by rw [List.length_take]; omega
  have e1 : valD ((i : Int) + 2) ns bits = valD ((i : Int) + 2) (ns.take i ++ [ns[i]]) bits := by
    conv => lhs; rw [h2]
    exact valD_pre (by rw [List.length_append, hl]; simp; omega)
  have e2 : valD (kid bits ns[i]) ns bits = valD (kid bits ns[i]) (ns.take i) bits := by
    conv => lhs; arg 2; rw [h1]
    exact valD_pre (by rw [hl]; omega)
  rw [e1, e2]
  unfold valD
  rw [vals_snoc]
  unfold pv
  rw [if_neg (by omega), List.getD_eq_getElem?_getD, show ((i : Int) + 2 - 2).toNat = i by omega, List.getElem?_append_right (by rw [vals_len, hl]; omega), vals_len, hl]
  simp

/-- Whether node i is valid. -/
def under (ns : List Nd) (v k : Int) : Bool := decide (k < 2) || decide (v < (ns.getD (k - 2).toNat ⟨0, 0, 0⟩).v)
def ndB (vars : Int) (ns : List Nd) (i : Nat) : Bool :=
  let n := ns.getD i ⟨0, 0, 0⟩
  inB n.v 1 vars && inB n.lo 0 (i + 1) && inB n.hi 0 (i + 1) && under ns n.v n.lo && under ns n.v n.hi
def ndsB (vars : Int) (ns : List Nd) (k : Nat) : Bool := (List.range k).all (ndB vars ns)
def goodD (vars r : Int) (ns : List Nd) : Bool := inB vars 0 6 && decide (ns.length ≤ 63) && inB r 0 (ns.length + 1) && ndsB vars ns ns.length
theorem ndsB_succ (vars : Int) (ns : List Nd) (k : Nat) : ndsB vars ns (k + 1) = (ndsB vars ns k && ndB vars ns k) := by simp [ndsB, List.range_succ]

/-- All nodes are valid. -/
def OkN (vars : Int) (ns : List Nd) : Prop := ∀ i, i < ns.length → ndB vars ns i = true
theorem ndsB_ok {vars : Int} {ns : List Nd} : ndsB vars ns ns.length = true ↔ OkN vars ns := by
  simp [ndsB, OkN]
theorem inB_def {x a b : Int} : inB x a b = true ↔ a ≤ x ∧ x ≤ b := by simp [inB]
theorem ndB_get {vars : Int} {ns : List Nd} {i : Nat} (hi : i < ns.length) : ndB vars ns i = true ↔
    ((1 ≤ ns[i].v ∧ ns[i].v ≤ vars) ∧ (0 ≤ ns[i].lo ∧ ns[i].lo ≤ i + 1) ∧ (0 ≤ ns[i].hi ∧ ns[i].hi ≤ i + 1) ∧ under ns ns[i].v ns[i].lo = true ∧ under ns ns[i].v ns[i].hi = true) := by
  unfold ndB
  rw [List.getD_eq_getElem?_getD, List.getElem?_eq_getElem hi]
  simp only [Option.getD_some, Bool.and_eq_true, inB_def, and_assoc]
theorem kid_le {vars : Int} {ns : List Nd} (h : OkN vars ns) {i : Nat} (hi : i < ns.length) (bits : Nat) : 0 ≤ kid bits ns[i] ∧ kid bits ns[i] ≤ i + 1 := by
  obtain ⟨_, h2, h3, _⟩ := (ndB_get hi).1 (h i hi)
  unfold kid
  split
  · exact h3
  · exact h2
theorem under_pre {ns ms : List Nd} {v k : Int} (h : k ≤ ns.length + 1) : under (ns ++ ms) v k = under ns v k := by
  unfold under
  by_cases h2 : k < 2
  · simp [h2]
  · rw [List.getD_eq_getElem?_getD, List.getD_eq_getElem?_getD, List.getElem?_append_left (by omega)]
theorem OkN.snoc {vars : Int} {ns : List Nd} {n : Nd} (h : OkN vars ns) (hv : 1 ≤ n.v ∧ n.v ≤ vars) (hl : 0 ≤ n.lo ∧ n.lo ≤ ns.length + 1) (hh : 0 ≤ n.hi ∧ n.hi ≤ ns.length + 1)
    (ul : under ns n.v n.lo = true) (uh : under ns n.v n.hi = true) : OkN vars (ns ++ [n]) := by
  intro i hi
  rw [ndB_get hi]
  rw [List.length_append, List.length_singleton] at hi
  by_cases hlt : i < ns.length
  · obtain ⟨h1, h2, h3, h4, h5⟩ := (ndB_get hlt).1 (h i hlt)
    rw [List.getElem_append_left hlt]
    exact ⟨h1, h2, h3, by rw [under_pre (by omega)]; exact h4, by rw [under_pre (by omega)]; exact h5⟩
  · obtain rfl : i = ns.length := by omega
    simp only [List.getElem_concat_length]
    exact ⟨hv, hl, hh, by rw [under_pre hl.2]; exact ul, by rw [under_pre hh.2]; exact uh⟩

/-- A node that is put there, unless it is there. -/
def addN (ns : List Nd) (n : Nd) : List Nd × Int := if n ∈ ns then (ns, (ns.idxOf n : Nat) + 2) else (ns ++ [n], (ns.length : Nat) + 2)
/-- The plan of values, for the last k variables. -/
def planF (f : Nat → Bool) : Nat → Nat → Nat → List Nd → List Nd × Int
  | 0, _, bits, ns => (ns, if f bits then 1 else 0)
  | k + 1, v, bits, ns =>
    if (planF f k (v + 1) bits ns).2 = (planF f k (v + 1) (bits + 2 ^ (v - 1)) (planF f k (v + 1) bits ns).1).2 then ((planF f k (v + 1) (bits + 2 ^ (v - 1)) (planF f k (v + 1) bits ns).1).1, (planF f k (v + 1) bits ns).2)
    else addN (planF f k (v + 1) (bits + 2 ^ (v - 1)) (planF f k (v + 1) bits ns).1).1 ⟨v, (planF f k (v + 1) bits ns).2, (planF f k (v + 1) (bits + 2 ^ (v - 1)) (planF f k (v + 1) bits ns).1).2⟩
def dgR (vars : Nat) (f : Nat → Bool) : Int := (planF f vars 1 0 []).2
def dgN (vars : Nat) (f : Nat → Bool) : List Nd := (planF f vars 1 0 []).1

theorem testBit_mod (b v : Nat) (hv : 1 ≤ v) : b % 2 ^ v = b % 2 ^ (v - 1) + (if b.testBit (v - 1) then 2 ^ (v - 1) else 0) := by
  obtain ⟨u, rfl⟩ : ∃ u, v = u + 1 := ⟨v - 1, by omega⟩
  rw [Nat.add_sub_cancel, Nat.mod_pow_succ]
  have : b.testBit u = decide (b / 2 ^ u % 2 = 1) := by
    rw [Nat.testBit_eq_decide_div_mod_eq]
  rw [this]
  rcases Nat.mod_two_eq_zero_or_one (b / 2 ^ u) with h | h
  · rw [h]; simp
  · rw [h]; simp

/-- What the plan has made. -/
structure Made (vars v bits k : Nat) (f : Nat → Bool) (ns : List Nd) (ns' : List Nd) (r : Int) : Prop where
  pre : ∃ ms, ns' = ns ++ ms
  ok : OkN vars ns'
  len : ns'.length + 1 ≤ ns.length + 2 ^ k
  r0 : 0 ≤ r
  r1 : r ≤ ns'.length + 1
  up : ∀ u : Int, u < v → under ns' u r = true
  val : ∀ b, b < 2 ^ vars → b % 2 ^ (v - 1) = bits → valD r ns' b = f b

theorem plan_made (f : Nat → Bool) (vars : Nat) : ∀ (k v bits : Nat) (ns : List Nd), v + k = vars + 1 → 1 ≤ v → bits < 2 ^ (v - 1) → OkN vars ns → Made vars v bits k f ns (planF f k v bits ns).1 (planF f k v bits ns).2
  | 0, v, bits, ns, hk, hv, hb, hok => by
    obtain rfl : v = vars + 1 := by omega
    rw [Nat.add_sub_cancel] at hb
    refine ⟨⟨[], by simp [planF]⟩, hok, by simp [planF], ?_, ?_, ?_, ?_⟩
    · simp only [planF]; split <;> decide
    · simp only [planF]; split <;> omega
    · intro u _; simp only [planF, under]; split <;> simp
    · intro b hb2 he
      rw [Nat.add_sub_cancel, Nat.mod_eq_of_lt hb2] at he
      subst he
      exact pv_bool (valsN b ns) (f b)
  | k + 1, v, bits, ns, hk, hv, hb, hok => by
    have hp : 2 ^ (v + 1 - 1) = 2 ^ (v - 1) + 2 ^ (v - 1) := by
      rw [show v + 1 - 1 = (v - 1) + 1 by omega, Nat.pow_succ]; omega
    have m1 := plan_made f vars k (v + 1) bits ns (by omega) (by omega) (by omega) hok
    rw [planF]
    generalize hA : planF f k (v + 1) bits ns = A at m1 ⊢
    obtain ⟨ns1, lo⟩ := A
    have m2 := plan_made f vars k (v + 1) (bits + 2 ^ (v - 1)) ns1 (by omega) (by omega) (by omega) m1.ok
    generalize hB : planF f k (v + 1) (bits + 2 ^ (v - 1)) ns1 = B at m2 ⊢
    obtain ⟨ns2, hi⟩ := B
    clear hA hB
    dsimp only at m1 m2 ⊢
    obtain ⟨p1, hp1⟩ := m1.pre
    obtain ⟨p2, hp2⟩ := m2.pre
    have hlo1 : lo ≤ ns2.length + 1 := by
      have := m1.r1
      rw [hp2, List.length_append]; omega
    have hlen : ns2.length + 1 + 1 ≤ ns.length + 2 ^ (k + 1) := by
      have h1 := m1.len
      have h2 := m2.len
      rw [Nat.pow_succ]; omega
    have hvlo : ∀ b, valD lo ns2 b = valD lo ns1 b := fun b => by rw [hp2]; exact valD_pre m1.r1
    have hulo : ∀ u : Int, u < (v + 1 : Nat) → under ns2 u lo = true := fun u hu => by rw [hp2, under_pre m1.r1]; exact m1.up u hu
    have hval : ∀ b, b < 2 ^ vars → b % 2 ^ (v - 1) = bits → (if b.testBit (v - 1) then valD hi ns2 b else valD lo ns2 b) = f b := by
      intro b hb2 he
      have hm := testBit_mod b v hv
      rw [he] at hm
      cases ht : b.testBit (v - 1)
      · rw [ht] at hm
        simp only [Bool.false_eq_true, if_false, Nat.add_zero] at hm
        rw [if_neg (by simp), hvlo]
        exact m1.val b hb2 (by rw [Nat.add_sub_cancel]; exact hm)
      · rw [ht] at hm
        simp only [if_true] at hm
        rw [if_pos rfl]
        exact m2.val b hb2 (by rw [Nat.add_sub_cancel]; exact hm)
    by_cases e : lo = hi
    · rw [if_pos e]
      subst e
      refine ⟨⟨p1 ++ p2, by rw [← List.append_assoc, ← hp1]; exact hp2⟩, m2.ok, by dsimp only; omega, m2.r0, m2.r1, fun u hu => m2.up u (by omega), fun b hb2 he => ?_⟩
      have := hval b hb2 he
      rw [ite_self] at this
      exact this
    · rw [if_neg e]
      have hkid : ∀ b : Nat, kid b ⟨v, lo, hi⟩ = if b.testBit (v - 1) then hi else lo := fun b => by
        unfold kid bitN
        rw [show ((v : Int) - 1).toNat = v - 1 by omega]
      have hvk : ∀ b, b < 2 ^ vars → b % 2 ^ (v - 1) = bits → valD (kid b ⟨v, lo, hi⟩) ns2 b = f b := by
        intro b hb2 he
        rw [hkid, ← hval b hb2 he]
        split <;> rfl
      unfold addN
      by_cases hin : (⟨v, lo, hi⟩ : Nd) ∈ ns2
      · rw [if_pos hin]
        have hil := List.idxOf_lt_length_of_mem hin
        have hget : ns2[ns2.idxOf (⟨v, lo, hi⟩ : Nd)] = ⟨v, lo, hi⟩ := List.getElem_idxOf hil
        refine ⟨⟨p1 ++ p2, by rw [← List.append_assoc, ← hp1]; exact hp2⟩, m2.ok, by dsimp only; omega, by dsimp only; omega, by dsimp only; omega, fun u hu => ?_, fun b hb2 he => ?_⟩
        · unfold under
          rw [List.getD_eq_getElem?_getD, show (((ns2.idxOf (⟨v, lo, hi⟩ : Nd) : Nat) : Int) + 2 - 2).toNat = ns2.idxOf (⟨v, lo, hi⟩ : Nd) by omega, List.getElem?_eq_getElem hil, hget]
          simp only [Option.getD_some, Bool.or_eq_true, decide_eq_true_eq]
          omega
        · have hkl := (kid_le m2.ok hil b).2
          dsimp only
          rw [vals_at hil b hkl, hget]
          exact hvk b hb2 he
      · rw [if_neg hin]
        refine ⟨⟨p1 ++ p2 ++ [⟨v, lo, hi⟩], by dsimp only; rw [← List.append_assoc, ← List.append_assoc, ← hp1, ← hp2]⟩, ?_, by dsimp only; rw [List.length_append, List.length_singleton]; omega, by dsimp only; omega, by dsimp only; rw [List.length_append, List.length_singleton]; omega, fun u hu => ?_, fun b hb2 he => ?_⟩
        · refine m2.ok.snoc ⟨by dsimp only; omega, by dsimp only; omega⟩ ⟨m1.r0, hlo1⟩ ⟨m2.r0, m2.r1⟩ (hulo _ (by dsimp only; omega)) (m2.up _ (by dsimp only; omega))
        · unfold under
          rw [List.getD_eq_getElem?_getD, show ((ns2.length : Int) + 2 - 2).toNat = ns2.length by omega, List.getElem?_concat_length]
          simp only [Option.getD_some, Bool.or_eq_true, decide_eq_true_eq]
          omega
        · have hkl : kid b (⟨v, lo, hi⟩ : Nd) ≤ ns2.length + 1 := by
            rw [hkid]; split
            · exact m2.r1
            · exact hlo1
          have h3 := vals_at (ns := ns2 ++ [⟨v, lo, hi⟩]) (i := ns2.length) (by simp) b (by simpa using hkl)
          dsimp only
          rw [h3, List.getElem_concat_length rfl, valD_pre hkl]
          exact hvk b hb2 he

theorem plan_len (f : Nat → Bool) : ∀ (k v bits : Nat) (ns : List Nd), (planF f k v bits ns).1.length + 1 ≤ ns.length + 2 ^ k
  | 0, v, bits, ns => by simp [planF]
  | k + 1, v, bits, ns => by
    have h1 := plan_len f k (v + 1) bits ns
    rw [planF]
    generalize planF f k (v + 1) bits ns = A at h1 ⊢
    have h2 := plan_len f k (v + 1) (bits + 2 ^ (v - 1)) A.1
    generalize planF f k (v + 1) (bits + 2 ^ (v - 1)) A.1 = B at h2 ⊢
    rw [Nat.pow_succ]
    split
    · dsimp only; omega
    · unfold addN
      split
      · dsimp only; omega
      · simp only [List.length_append, List.length_singleton]; omega
theorem plan_congr {f g : Nat → Bool} (vars : Nat) (h : ∀ b, b < 2 ^ vars → f b = g b) : ∀ (k v bits : Nat) (ns : List Nd), v + k = vars + 1 → 1 ≤ v → bits < 2 ^ (v - 1) → planF f k v bits ns = planF g k v bits ns
  | 0, v, bits, ns, hk, hv, hb => by
    obtain rfl : v = vars + 1 := by omega
    rw [Nat.add_sub_cancel] at hb
    simp only [planF, h bits hb]
  | k + 1, v, bits, ns, hk, hv, hb => by
    have hp : 2 ^ (v + 1 - 1) = 2 ^ (v - 1) + 2 ^ (v - 1) := by
      rw [show v + 1 - 1 = (v - 1) + 1 by omega, Nat.pow_succ]; omega
    rw [planF, planF, plan_congr vars h k (v + 1) bits ns (by omega) (by omega) (by omega), plan_congr vars h k (v + 1) (bits + 2 ^ (v - 1)) _ (by omega) (by omega) (by omega)]

theorem dg_made (vars : Nat) (f : Nat → Bool) : Made vars 1 0 vars f [] (dgN vars f) (dgR vars f) :=
  plan_made f vars vars 1 0 [] (by omega) (by omega) (by decide) (fun i hi => by simp at hi)
theorem dg_val {vars : Nat} {f : Nat → Bool} {b : Nat} (h : b < 2 ^ vars) : valD (dgR vars f) (dgN vars f) b = f b :=
  (dg_made vars f).val b h (Nat.mod_one b)
theorem dg_len {vars : Nat} (f : Nat → Bool) (h : vars ≤ 6) : (dgN vars f).length ≤ 63 := by
  have h1 := (dg_made vars f).len
  have h2 : 2 ^ vars ≤ 2 ^ 6 := Nat.pow_le_pow_right (by decide) h
  simp at h1; omega
theorem dg_good {vars : Nat} (f : Nat → Bool) (h : vars ≤ 6) : goodD vars (dgR vars f) (dgN vars f) = true := by
  have hm := dg_made vars f
  unfold goodD
  rw [Bool.and_eq_true, Bool.and_eq_true, Bool.and_eq_true, inB_def, inB_def, decide_eq_true_eq, ndsB_ok]
  exact ⟨⟨⟨⟨by omega, by omega⟩, dg_len f h⟩, hm.r0, hm.r1⟩, hm.ok⟩
theorem dg_congr {vars : Nat} {f g : Nat → Bool} (h : ∀ b, b < 2 ^ vars → f b = g b) : dgN vars f = dgN vars g ∧ dgR vars f = dgR vars g := by
  unfold dgN dgR
  rw [plan_congr vars h vars 1 0 [] (by omega) (by omega) (by decide)]
  exact ⟨rfl, rfl⟩

/-- How often a value is true. -/
def cntB (vars : Nat) (f : Nat → Bool) : Nat := (List.range (2 ^ vars)).countP f
theorem cnt_congr {vars : Nat} {f g : Nat → Bool} (h : ∀ b, b < 2 ^ vars → f b = g b) : cntB vars f = cntB vars g := by
  unfold cntB
  exact List.countP_congr fun b hb => by rw [h b (List.mem_range.1 hb)]
theorem cnt_and_or (vars : Nat) (f g : Nat → Bool) : cntB vars f + cntB vars g = cntB vars (fun b => f b && g b) + cntB vars (fun b => f b || g b) := by
  unfold cntB
  induction List.range (2 ^ vars) with
  | nil => rfl
  | cons b l ih =>
    simp only [List.countP_cons]
    cases f b <;> cases g b <;> simp <;> omega
/-- Bits in which the variable of a literal is set such that the literal is true. -/
def setB (bits : Nat) (l : Int) : Nat := if 0 < l then bits ||| 2 ^ (l - 1).toNat else bits &&& (2 ^ 63 - 1 - 2 ^ (-l - 1).toNat)
end Go.Proofs.YtnfjgebfmnpkbaaGreat

/- Memory facts: rows of flat elements that are made and then filled, element by element. No program in sight. -/
namespace Go.Proofs.YtnfjgebfmnpkbaaGreat
open Go.RowKit

/-- The elements f 0, f 1, .. lie in block B, one behind the other, and may be written. -/
def FlatAt {α : Type} (enc : α → List Value) (n B len : Nat) (f : Nat → α) (w : World) : Prop := ∀ j, j < len → ∀ (i : Nat) (u : Value), (enc (f j))[i]? = some u → cellIs true w B (j * n + i) u

section
variable {α : Type} {enc : α → List Value} {n B len : Nat} {f : Nat → α} {w w' : World}
theorem FlatAt.grow (h : FlatAt enc n B len f w) (hb : Below w.heap.size w w') : FlatAt enc n B len f w' := fun j hj i u hu =>
  (h j hj i u hu).keep (hb.block B (h j hj i u hu).lt)
theorem FlatAt.mono {len' : Nat} {g : Nat → α} (h : FlatAt enc n B len f w) (hl : len' ≤ len) (hg : ∀ j, j < len' → g j = f j) : FlatAt enc n B len' g w := fun j hj i u hu =>
  h j (by omega) i u (by rw [← hg j hj]; exact hu)
theorem FlatAt.cell (h : FlatAt enc n B len f w) {j : Nat} (hj : j < len) {i : Nat} {u : Value} (hu : (enc (f j))[i]? = some u) : w.cell? ⟨B, j * n + i, none⟩ = some u := (h j hj i u hu).1
theorem FlatAt.frozen (h : FlatAt enc n B len f w) {j : Nat} (hj : j < len) {i : Nat} {u : Value} (hu : (enc (f j))[i]? = some u) : w.frozen? ⟨B, j * n + i, none⟩ = false := (h j hj i u hu).2 rfl
/-- Behind make: every element is the zero value. -/
theorem FlatAt.made {base : Nat} {e : TypeId} {cap : Nat} {z : α} {zc : Array Value} (hz : enc z = zc.toList) (hn : zc.size = n) (h : w.ownsRow base e n (.slice (some ⟨B, 0, none⟩) len cap) len (madeCells zc (len * n)).toList) : FlatAt enc n B len (fun _ => z) w := by
  intro j hj i u hu
  have hi : i < n := by
    have := (List.getElem?_eq_some_iff.1 hu).1
    rw [hz, Array.length_toList, hn] at this
    exact this
  have hlt : j * n + i < len * n := by
    have : (j + 1) * n ≤ len * n := Nat.mul_le_mul_right n hj
    rw [Nat.add_mul] at this; omega
  refine ⟨?_, fun _ => h.frozenAt _⟩
  rw [h.cellAt _ hlt, Array.getElem?_toList]
  have hm : (j * n + i) % n = i := by rw [Nat.mul_comm, Nat.mul_add_mod, Nat.mod_eq_of_lt hi]
  rw [hz, Array.getElem?_toList] at hu
  unfold madeCells
  rw [Array.getElem?_map, Array.getElem?_range, if_pos hlt]
  simp only [Option.map_some, hn, hm]
  rw [getElem!_def, hu]
/-- The finished row. -/
theorem FlatAt.row {good : α → Prop} {hne : ∀ x, (enc x).length = n} {xs : List α} {z : α} {cap : Nat} (h : FlatAt enc n B xs.length (fun j => xs.getD j z) w) (hg : ∀ x ∈ xs, good x) (h1 : xs.length ≤ cap) (h2 : cap ≤ 9223372036854775807) (hx : xs ≠ []) (h0 : 0 < n) :
    (Ty.flat n enc good hne).row true w (.slice (some ⟨B, 0, none⟩) xs.length cap) xs [B] := by
  refine row_flat_mk hg h1 h2 hx h0 fun j hj i u hu => ?_
  rw [Nat.zero_add]
  refine h j hj i u ?_
  show (enc (xs.getD j z))[i]? = some u
  rw [List.getD_eq_getElem?_getD, List.getElem?_eq_getElem hj]
  exact hu
theorem set_ne' (w : World) {b o o' : Nat} {u : Value} (h : o ≠ o') : (w.setCell ⟨b, o, none⟩ u).cell? ⟨b, o', none⟩ = w.cell? ⟨b, o', none⟩ := World.cell?_setCell_other w _ _ _ (by simp only [ne_eq, Addr.mk.injEq]; omega)
theorem set_eq' (w : World) {b o : Nat} {u v : Value} (h : w.cell? ⟨b, o, none⟩ = some v) : (w.setCell ⟨b, o, none⟩ u).cell? ⟨b, o, none⟩ = some u := World.cell?_setCell_same' _ _ _ (by rw [h]; rfl)
/-- An element of one cell is stored. -/
theorem FlatAt.set1 {f : Nat → α} (hn : ∀ x, (enc x).length = 1) (h : FlatAt enc 1 B len f w) {k : Nat} {x : α} {u0 : Value} (he : enc x = [u0]) :
    FlatAt enc 1 B len (fun j => if j = k then x else f j) (w.setCell ⟨B, k, none⟩ u0) := by
  intro j hj i u hu
  have hi : i < 1 := by have := (List.getElem?_eq_some_iff.1 hu).1; rwa [hn] at this
  obtain rfl : i = 0 := by omega
  have hold : ∃ v, (enc (f j))[0]? = some v := ⟨_, List.getElem?_eq_getElem (by rw [hn]; decide)⟩
  obtain ⟨v, hv⟩ := hold
  have hc := h j hj 0 v hv
  refine ⟨?_, fun _ => by rw [World.frozen?_setCell]; exact hc.2 rfl⟩
  by_cases e : j = k
  · subst e
    simp only [if_true, he] at hu
    simp at hu; subst hu
    have := hc.1
    rw [Nat.mul_one, Nat.add_zero] at this ⊢
    exact set_eq' w this
  · simp only [if_neg e] at hu
    rw [set_ne' w (by omega)]
    rw [hv] at hu; cases hu
    exact hc.1
/-- An element of two cells is stored. -/
theorem FlatAt.set2 {f : Nat → α} (hn : ∀ x, (enc x).length = 2) (h : FlatAt enc 2 B len f w) {k : Nat} {x : α} {u0 u1 : Value} (he : enc x = [u0, u1]) :
    FlatAt enc 2 B len (fun j => if j = k then x else f j) ((w.setCell ⟨B, k * 2, none⟩ u0).setCell ⟨B, k * 2 + 1, none⟩ u1) := by
  intro j hj i u hu
  have hi : i < 2 := by have := (List.getElem?_eq_some_iff.1 hu).1; rwa [hn] at this
  obtain ⟨v, hv⟩ : ∃ v, (enc (f j))[i]? = some v := ⟨_, List.getElem?_eq_getElem (by rw [hn]; exact hi)⟩
  have hc := h j hj i v hv
  refine ⟨?_, fun _ => by rw [World.frozen?_setCell, World.frozen?_setCell]; exact hc.2 rfl⟩
  by_cases e : j = k
  · subst e
    simp only [if_true, he] at hu
    match i, hi, hu with
    | 0, _, hu =>
      simp at hu; subst hu
      rw [set_ne' _ (by omega)]
      exact set_eq' w hc.1
    | 1, _, hu =>
      simp at hu; subst hu
      exact set_eq' _ ((set_ne' w (by omega)).trans hc.1)
  · simp only [if_neg e] at hu
    rw [set_ne' _ (by omega), set_ne' w (by omega)]
    rw [hv] at hu; cases hu
    exact hc.1
/-- An element of four cells is stored. -/
theorem FlatAt.set4 {f : Nat → α} (hn : ∀ x, (enc x).length = 4) (h : FlatAt enc 4 B len f w) {k : Nat} {x : α} {u0 u1 u2 u3 : Value} (he : enc x = [u0, u1, u2, u3]) :
    FlatAt enc 4 B len (fun j => if j = k then x else f j) ((((w.setCell ⟨B, k * 4, none⟩ u0).setCell ⟨B, k * 4 + 1, none⟩ u1).setCell ⟨B, k * 4 + 2, none⟩ u2).setCell ⟨B, k * 4 + 3, none⟩ u3) := by
  intro j hj i u hu
  have hi : i < 4 := by have := (List.getElem?_eq_some_iff.1 hu).1; rwa [hn] at this
  obtain ⟨v, hv⟩ : ∃ v, (enc (f j))[i]? = some v := ⟨_, List.getElem?_eq_getElem (by rw [hn]; exact hi)⟩
  have hc := h j hj i v hv
  refine ⟨?_, fun _ => by rw [World.frozen?_setCell, World.frozen?_setCell, World.frozen?_setCell, World.frozen?_setCell]; exact hc.2 rfl⟩
  by_cases e : j = k
  · subst e
    simp only [if_true, he] at hu
    match i, hi, hu with
    | 0, _, hu =>
      simp at hu; subst hu
      rw [set_ne' _ (by omega), set_ne' _ (by omega), set_ne' _ (by omega)]
      exact set_eq' w hc.1
    | 1, _, hu =>
      simp at hu; subst hu
      rw [set_ne' _ (by omega), set_ne' _ (by omega)]
      exact set_eq' _ ((set_ne' w (by omega)).trans hc.1)
    | 2, _, hu =>
      simp at hu; subst hu
      rw [set_ne' _ (by omega)]
      exact set_eq' _ ((set_ne' _ (by omega)).trans ((set_ne' w (by omega)).trans hc.1))
    | 3, _, hu =>
      simp at hu; subst hu
      exact set_eq' _ ((set_ne' _ (by omega)).trans ((set_ne' _ (by omega)).trans ((set_ne' w (by omega)).trans hc.1)))
  · simp only [if_neg e] at hu
    rw [set_ne' _ (by omega), set_ne' _ (by omega), set_ne' _ (by omega), set_ne' w (by omega)]
    rw [hv] at hu; cases hu
    exact hc.1
end

/-- What has been copied so far: the first k elements, zeros behind. -/
def filled {α : Type} (xs : List α) (z : α) (k : Nat) (j : Nat) : α := if j < k then xs.getD j z else z
theorem filled_zero {α : Type} (xs : List α) (z : α) : filled xs z 0 = fun _ => z := by funext j; simp [filled]
theorem filled_succ {α : Type} (xs : List α) (z : α) (k : Nat) (hk : k < xs.length) : filled xs z (k + 1) = fun j => if j = k then xs[k] else filled xs z k j := by
  funext j
  unfold filled
  by_cases e : j = k
  · subst e
    rw [if_pos (by omega), if_pos rfl, List.getD_eq_getElem?_getD, List.getElem?_eq_getElem hk]; rfl
  · rw [if_neg e]
    by_cases h : j < k
    · rw [if_pos (by omega), if_pos h]
    · rw [if_neg (by omega), if_neg h]
theorem FlatAt.done {α : Type} {enc : α → List Value} {n B : Nat} {w : World} {xs : List α} {z : α} (h : FlatAt enc n B xs.length (filled xs z xs.length) w) : FlatAt enc n B xs.length (fun j => xs.getD j z) w :=
  h.mono (Nat.le_refl _) fun j hj => by unfold filled; rw [if_pos hj]
end Go.Proofs.YtnfjgebfmnpkbaaGreat

/- Contracts: diagrams in memory; valid ones; values. -/
namespace Go.Proofs.YtnfjgebfmnpkbaaGreat
open Go.RowKit

/-- A node in memory: three cells. -/
def ndEnc (n : Nd) : List Value := [.int .i64 n.v, .int .i64 n.lo, .int .i64 n.hi]
def ndOk (n : Nd) : Prop := I64 n.v ∧ I64 n.lo ∧ I64 n.hi
abbrev ndTy : Ty Nd := Ty.flat 3 ndEnc ndOk (fun _ => rfl)
abbrev ndV (n : Nd) : Value := .agg #[.int .i64 n.v, .int .i64 n.lo, .int .i64 n.hi]
/-- The three cells of each node. -/
theorem row_nd {wr : Bool} {w : World} {v : Value} {xs : List Nd} {F : List Nat} (h : ndTy.row wr w v xs F) :
    ∃ a cap, v = .slice a xs.length cap ∧ xs.length ≤ cap ∧ cap ≤ 9223372036854775807 ∧ (∀ x ∈ xs, ndOk x) ∧
      ((xs = [] ∧ F = []) ∨ (xs ≠ [] ∧ ∃ b off, a = some ⟨b, off, none⟩ ∧ F = [b] ∧ ∀ j (hj : j < xs.length), cellIs wr w b (off + j * 3) (.int .i64 xs[j].v) ∧ cellIs wr w b (off + j * 3 + 1) (.int .i64 xs[j].lo) ∧ cellIs wr w b (off + j * 3 + 2) (.int .i64 xs[j].hi))) := by
  obtain ⟨a, cap, rfl, h1, h2, h3, h4⟩ := row_flat h
  refine ⟨a, cap, rfl, h1, h2, h3, h4.imp id ?_⟩
  rintro ⟨_, hne, b, off, rfl, rfl, hc⟩
  exact ⟨hne, b, off, rfl, rfl, fun j hj => ⟨hc j hj 0 _ rfl, by have := hc j hj 1 _ rfl; rwa [← Nat.add_assoc] at this, by have := hc j hj 2 _ rfl; rwa [← Nat.add_assoc] at this⟩⟩
/-- A diagram as a value. -/
abbrev dgV (r : Int) (v : Value) : Value := .agg #[.int .i64 r, v]
/-- The nodes of a slice can be read. -/
structure NdAt (w : World) (A : Option Addr) (ns : List Nd) : Prop where
  at_ : ∀ j (hj : j < ns.length), ∃ b off, A = some ⟨b, off, none⟩ ∧ w.cell? ⟨b, off + j * 3, none⟩ = some (.int .i64 ns[j].v) ∧ w.cell? ⟨b, off + j * 3 + 1, none⟩ = some (.int .i64 ns[j].lo) ∧ w.cell? ⟨b, off + j * 3 + 2, none⟩ = some (.int .i64 ns[j].hi)
  ok : ∀ x ∈ ns, ndOk x
theorem nd_at {wr : Bool} {w : World} {v : Value} {xs : List Nd} {F : List Nat} (h : ndTy.row wr w v xs F) : ∃ A c, v = .slice A xs.length c ∧ xs.length ≤ c ∧ c ≤ 9223372036854775807 ∧ NdAt w A xs := by
  obtain ⟨a, c, rfl, h1, h2, h3, h4⟩ := row_nd h
  refine ⟨a, c, rfl, h1, h2, ⟨fun j hj => ?_, h3⟩⟩
  rcases h4 with ⟨rfl, _⟩ | ⟨_, b, off, rfl, _, hc⟩
  · exact absurd hj (by simp)
  · obtain ⟨p0, p1, p2⟩ := hc j hj
    exact ⟨b, off, rfl, p0.1, p1.1, p2.1⟩
theorem NdAt.grow {w w' : World} {A : Option Addr} {ns : List Nd} (h : NdAt w A ns) (hb : Below w.heap.size w w') : NdAt w' A ns := by
  refine ⟨fun j hj => ?_, h.ok⟩
  obtain ⟨b, off, e, h1, h2, h3⟩ := h.at_ j hj
  exact ⟨b, off, e, (hb.cell (World.block_lt_of_cell? _ _ h1)).trans h1, (hb.cell (World.block_lt_of_cell? _ _ h2)).trans h2, (hb.cell (World.block_lt_of_cell? _ _ h3)).trans h3⟩

theorem within_b {x a b : Int} {q : Bool} (h : inB x a b = q) (w : World) : Calls Tryz.prog 37 #[.int .i64 x, .int .i64 a, .int .i64 b] w fun e w' => e = .returned (.bool q) ∧ Below w.heap.size w w' :=
  (within_any x a b w).mono fun e w' ⟨h1, h2⟩ => ⟨by rw [h1, h], h2 ▸ bb _⟩
/- left out: the seat has no impl.isVar -/

/-- Whether a number may stand in node i of this variable. -/
def kidB (ns : List Nd) (v : Int) (i : Nat) (k : Int) : Bool := inB k 0 (i + 1) && under ns v k
theorem ndB_kids {vars : Int} {ns : List Nd} {i : Nat} (hi : i < ns.length) : ndB vars ns i = (inB ns[i].v 1 vars && kidB ns ns[i].v i ns[i].lo && kidB ns ns[i].v i ns[i].hi) := by
  unfold ndB kidB
  rw [List.getD_eq_getElem?_getD, List.getElem?_eq_getElem hi]
  simp only [Option.getD_some]
  cases inB ns[i].v 1 vars <;> cases inB ns[i].lo 0 (i + 1) <;> cases inB ns[i].hi 0 (i + 1) <;> simp

/- left out: the seat has no impl.bddOk -/

theorem nds_no {vars : Int} {ns : List Nd} {k : Nat} (hk : k < ns.length) (h : ndB vars ns k = false) : ndsB vars ns ns.length = false := by
  cases hh : ndsB vars ns ns.length
  · rfl
  · have := ndsB_ok.1 hh k hk
    rw [h] at this; cases this
theorem goodD_def (vars r : Int) (ns : List Nd) : goodD vars r ns = (inB vars 0 6 && decide (ns.length ≤ 63) && inB r 0 (ns.length + 1) && ndsB vars ns ns.length) := rfl

/- left out: the seat has no impl.IsDiagram -/
end Go.Proofs.YtnfjgebfmnpkbaaGreat

/- Contracts: values of diagrams. -/
namespace Go.Proofs.YtnfjgebfmnpkbaaGreat
open Go.RowKit

/-- Numbers of nodes lie ahead of the nodes; variables are from 1 on. -/
def WkN (ns : List Nd) : Prop := ∀ i (h : i < ns.length), 1 ≤ ns[i].v ∧ (0 ≤ ns[i].lo ∧ ns[i].lo ≤ i + 1) ∧ (0 ≤ ns[i].hi ∧ ns[i].hi ≤ i + 1)
theorem OkN.wk {vars : Int} {ns : List Nd} (h : OkN vars ns) : WkN ns := fun i hi => by
  obtain ⟨h1, h2, h3, _⟩ := (ndB_get hi).1 (h i hi)
  exact ⟨h1.1, h2, h3⟩
/-- A bit that is shifted to the end. -/
theorem bit_end (b : Nat) (hb : b < 2 ^ 62) (v : Int) (hv : 1 ≤ v) : bits .and .i64 ((b : Int) / 2 ^ min (v.toNat - 1) 64) 1 = if bitN b v then 1 else 0 := by
  have e0 : (b : Int) / 2 ^ min (v.toNat - 1) 64 = ((b / 2 ^ min (v.toNat - 1) 64 : Nat) : Int) := by
    rw [Int.natCast_ediv, Int.natCast_pow]; rfl
  rw [e0, and_one _ (Nat.lt_of_le_of_lt (Nat.div_le_self _ _) (Nat.lt_trans hb (by decide)))]
  have h64 : ∀ s, 64 ≤ s → b.testBit s = false := fun s hs => Nat.testBit_lt_two_pow (Nat.lt_of_lt_of_le hb (Nat.pow_le_pow_right (by decide) (by omega)))
  have e : bitN b v = b.testBit (min (v.toNat - 1) 64) := by
    unfold bitN
    rw [show (v - 1).toNat = v.toNat - 1 by omega]
    rcases Nat.lt_or_ge (v.toNat - 1) 64 with h | h
    · rw [Nat.min_eq_left (by omega)]
    · rw [h64 _ h, h64 _ (by omega)]
  rw [e, Nat.testBit_eq_decide_div_mod_eq]
  rcases Nat.mod_two_eq_zero_or_one (b / 2 ^ min (v.toNat - 1) 64) with h | h
  · rw [h]; simp
  · rw [h]; simp
theorem valD_low {κ : Int} (h : κ < 2) (ns : List Nd) (b : Nat) : valD κ ns b = decide (κ = 1) := by unfold valD pv; rw [if_pos h]

/- left out: the seat has no (loop.example/g01080/impl.Diagram).value -/

/- left out: the seat has no (loop.example/g01080/impl.Diagram).valueAt -/

/- left out: the seat has no spec.l26Value -/
end Go.Proofs.YtnfjgebfmnpkbaaGreat

/- Contracts: the plan of values, in the program. -/
namespace Go.Proofs.YtnfjgebfmnpkbaaGreat
open Go.RowKit

def idxN (ns : List Nd) (n : Nd) : Int := if n ∈ ns then (ns.idxOf n : Nat) else -1
theorem idx_here {ns : List Nd} {n : Nd} {k : Nat} (hk : k < ns.length) (h : n ∉ ns.take k) (e : ns[k] = n) : idxN ns n = k := by
  unfold idxN
  have hmem : n ∈ ns := e ▸ List.getElem_mem hk
  rw [if_pos hmem]
  have h1 : ns.idxOf n = k := by
    have h2 : ns = ns.take k ++ ns.drop k := (List.take_append_drop k ns).symm
    rw [h2, List.idxOf_append, if_neg h, List.length_take, Nat.min_eq_left (Nat.le_of_lt hk), ← List.getElem_cons_drop hk, e]
    simp
  rw [h1]
theorem idx_next {ns : List Nd} {n : Nd} {k : Nat} (hk : k < ns.length) (h : n ∉ ns.take k) (e : ns[k] ≠ n) : n ∉ ns.take (k + 1) := by
  rw [List.take_succ_eq_append_getElem hk]
  simp only [List.mem_append, List.mem_singleton, not_or]
  exact ⟨h, fun h2 => e h2.symm⟩

theorem nd_eqB (a b : Nd) : (a.v == b.v && a.lo == b.lo && a.hi == b.hi) = decide (a = b) := by
  obtain ⟨x, y, z⟩ := a
  obtain ⟨x', y', z'⟩ := b
  simp only [Nd.mk.injEq]
  by_cases h1 : x = x' <;> by_cases h2 : y = y' <;> by_cases h3 : z = z' <;> simp [h1, h2, h3]
/- left out: the seat has no impl.BddNode -/

/- left out: the seat has no slices.Index[[]loop.example/g01080/impl.BddNode,loop.example/g01080/impl.BddNode] -/
end Go.Proofs.YtnfjgebfmnpkbaaGreat

/- Contracts: the plan of values, in the program. -/
namespace Go.Proofs.YtnfjgebfmnpkbaaGreat
open Go.RowKit

/-- An own row of nodes can be read. -/
theorem nd_own {w : World} {B : Nat} {e : TypeId} {v : Value} {ns : List Nd} (h : w.ownsRow B e 3 v ns.length (ns.flatMap ndEnc)) (hok : ∀ x ∈ ns, ndOk x) : ∃ A c, v = .slice A ns.length c ∧ NdAt w A ns := by
  obtain ⟨_, ⟨rfl, h0⟩ | ⟨g, cap, cur, rfl, _, hh, _, _, hs, ht⟩⟩ := h
  · exact ⟨none, 0, by rw [h0], fun j hj => absurd hj (by omega), hok⟩
  · refine ⟨_, cap, rfl, fun j hj => ⟨g, 0, rfl, ?_⟩, hok⟩
    have key : ∀ i u, i < 3 → (ndEnc ns[j])[i]? = some u → w.cell? ⟨g, j * 3 + i, none⟩ = some u := fun i u hi hu => by
      have := Nat.mul_le_mul_right 3 (show j + 1 ≤ ns.length by omega)
      rw [hown_cell hh ht (by omega), flat_get (enc := ndEnc) (n := 3) (fun _ => rfl) ns j hj i hi, hu]
    refine ⟨?_, ?_, ?_⟩
    · have := key 0 _ (by decide) rfl; rw [Nat.zero_add]; exact this
    · have := key 1 _ (by decide) rfl; rw [Nat.zero_add]; exact this
    · have := key 2 _ (by decide) rfl; rw [Nat.zero_add]; exact this
theorem nd_small {vars : Int} {ns : List Nd} (h : OkN vars ns) (hv : vars ≤ 6) (hl : ns.length ≤ 1000000) : ∀ x ∈ ns, ndOk x := by
  intro x hx
  obtain ⟨i, hi, rfl⟩ := List.getElem_of_mem hx
  obtain ⟨h1, h2, h3, _⟩ := (ndB_get hi).1 (h i hi)
  unfold ndOk I64
  omega

theorem i64_nat (a b : Nat) (ha : a < 2 ^ 62) (hb : b < 2 ^ 62) : bits .or .i64 (a : Int) (b : Int) = ((a ||| b : Nat) : Int) ∧ bits .and .i64 (a : Int) (b : Int) = ((a &&& b : Nat) : Int) := by
  have h := bits_nat .i64 62 (by decide) (fun n h0 h1 => by rw [IntKind.wrap_i64]; have : (2 : Int) ^ 62 = 4611686018427387904 := by decide
                                                            omega) a b ha hb
  exact ⟨h.2, h.1⟩
theorem pow_small {v : Nat} (hv : v ≤ 6) : wrap64 ((2 : Int) ^ v) = ((2 ^ v : Nat) : Int) ∧ 2 ^ v ≤ 64 := by
  match v, hv with
  | 0, _ | 1, _ | 2, _ | 3, _ | 4, _ | 5, _ | 6, _ => exact ⟨by unfold wrap64; decide, by decide⟩
theorem or_pow {b u : Nat} (hb : b < 2 ^ u) (hu : u ≤ 6) : bits .or .i64 (b : Int) (wrap64 ((2 : Int) ^ u)) = ((b + 2 ^ u : Nat) : Int) := by
  obtain ⟨h1, h2⟩ := pow_small hu
  rw [h1, (i64_nat b (2 ^ u) (by omega) (by omega)).1, Nat.or_comm]
  have := Nat.two_pow_add_eq_or_of_lt hb 1
  rw [Nat.mul_one] at this
  rw [← this, Nat.add_comm]

theorem Src.three {w : World} {b : Nat} {x y z : Value} (h0 : w.cell? ⟨b, 0, none⟩ = some x) (h1 : w.cell? ⟨b, 1, none⟩ = some y) (h2 : w.cell? ⟨b, 2, none⟩ = some z) : Src w (some ⟨b, 0, none⟩) 1 3 [x, y, z] :=
  .inr ⟨_, rfl, rfl, fun j u hj => by
    match j, hj with
    | 0, hj => simp at hj; subst hj; rw [add_none]; exact h0
    | 1, hj => simp at hj; subst hj; rw [add_none]; exact h1
    | 2, hj => simp at hj; subst hj; rw [add_none]; exact h2⟩
/-- A function of bits that only reads. -/
def FnOk (w0 : World) (vars : Nat) (g : FuncId) (cb : Array Value) (f : Nat → Bool) : Prop :=
  ∀ (b : Nat) w, b < 2 ^ vars → Below w0.heap.size w0 w → Calls Tryz.prog g (#[.int .i64 b] ++ cb) w fun e w' => e = .returned (.bool (f b)) ∧ Below w.heap.size w w'
/- left out: the seat has no impl.BddNode -/

/- left out: the seat has no (*loop.example/g01080/impl.bddPlan).from -/
end Go.Proofs.YtnfjgebfmnpkbaaGreat

/- Contracts: planned diagrams, in the program. -/
namespace Go.Proofs.YtnfjgebfmnpkbaaGreat
open Go.RowKit

/-- A diagram that can be read. -/
def DgPost (w : World) (ns : List Nd) (v : Value) (w' : World) : Prop := ∃ A c, v = .slice A ns.length c ∧ NdAt w' A ns ∧ (∀ a, A = some a → w.heap.size ≤ a.block) ∧ Below w.heap.size w w'
theorem NdAt.keep {w w' : World} {A : Option Addr} {ns : List Nd} (h : NdAt w A ns) (hk : ∀ a, A = some a → w'.heap[a.block]? = w.heap[a.block]?) : NdAt w' A ns := by
  refine ⟨fun j hj => ?_, h.ok⟩
  obtain ⟨b, off, e, h1, h2, h3⟩ := h.at_ j hj
  have hc : ∀ o, w'.cell? ⟨b, o, none⟩ = w.cell? ⟨b, o, none⟩ := fun o => World.cell?_of_block (a := ⟨b, o, none⟩) (hk ⟨b, off, none⟩ e)
  exact ⟨b, off, e, (hc _).trans h1, (hc _).trans h2, (hc _).trans h3⟩
/-- A store into another block. -/
theorem NdAt.set {w : World} {A : Option Addr} {ns : List Nd} (h : NdAt w A ns) {g : Nat} (hg : ∀ a, A = some a → a.block ≠ g) (o : Nat) (u : Value) : NdAt (w.setCell ⟨g, o, none⟩ u) A ns :=
  h.keep fun a ha => Below.heap_setCell _ _ _ _ (hg a ha)
/- left out: the seat has no impl.planned -/
end Go.Proofs.YtnfjgebfmnpkbaaGreat

/- Memory: own rows of truth values, stores into own rows, diagrams that can be read. -/
namespace Go.Proofs.YtnfjgebfmnpkbaaGreat
open Go.RowKit

/-- Truth values. -/
def blV (n : Nat) (f : Nat → Bool) : List Value := (List.range n).map fun j => .bool (f j)
def BlAt (w : World) (A : Option Addr) (n : Nat) (f : Nat → Bool) : Prop := ∀ j, j < n → ∃ b off, A = some ⟨b, off, none⟩ ∧ w.cell? ⟨b, off + j, none⟩ = some (.bool (f j))
theorem blV_len (n : Nat) (f : Nat → Bool) : (blV n f).length = n := by simp [blV]
theorem blV_snoc (n : Nat) (f : Nat → Bool) : blV (n + 1) f = blV n f ++ [.bool (f n)] := by simp [blV, List.range_succ]
theorem blV_get {n j : Nat} (f : Nat → Bool) (h : j < n) : (blV n f)[j]? = some (.bool (f j)) := by simp [blV, h]
theorem blV_congr {n : Nat} {f g : Nat → Bool} (h : ∀ j, j < n → f j = g j) : blV n f = blV n g := by
  unfold blV
  exact List.map_congr_left fun j hj => by rw [h j (List.mem_range.1 hj)]
theorem blV_set {n k : Nat} (f : Nat → Bool) (x : Bool) : (blV n f).set k (.bool x) = blV n (fun j => if j = k then x else f j) := by
  apply List.ext_getElem?
  intro j
  rw [List.getElem?_set, blV_len]
  by_cases hj : j < n
  · rw [blV_get _ hj, blV_get _ hj]
    by_cases h : k = j
    · subst h; simp [hj]
    · rw [if_neg h, if_neg (fun e => h e.symm)]
  · rw [List.getElem?_eq_none (by rw [blV_len]; omega), List.getElem?_eq_none (by rw [blV_len]; omega)]
    split
    · rw [if_neg (by omega)]
    · rfl
theorem BlAt.grow {w w' : World} {A : Option Addr} {n : Nat} {f : Nat → Bool} (h : BlAt w A n f) (hb : Below w.heap.size w w') : BlAt w' A n f := fun j hj => by
  obtain ⟨b, off, e, hc⟩ := h j hj
  exact ⟨b, off, e, (bcell hb).1 b _ (World.block_lt_of_cell? _ _ hc) ▸ hc⟩
theorem bl_own {w : World} {B : Nat} {e : TypeId} {v : Value} {n : Nat} {f : Nat → Bool} (h : w.ownsRow B e 1 v n (blV n f)) : ∃ A c, v = .slice A n c ∧ BlAt w A n f := by
  rcases Nat.eq_zero_or_pos n with rfl | hn
  · obtain ⟨a, c, rfl⟩ := own_slice h
    exact ⟨a, c, rfl, fun j hj => absurd hj (by omega)⟩
  · obtain ⟨g, cap, cur, rfl, _, hh, _, _, _, ht⟩ := own_block h hn
    exact ⟨_, cap, rfl, fun j hj => ⟨g, 0, rfl, by rw [Nat.zero_add, hown_cell hh ht (by omega), blV_get f hj]⟩⟩
theorem infoBl : (Tryz.prog.info? 4).map (fun i => (i.zero, i.size, i.bytes)) = some (some (.bool false), 1, 1) := by kernel_rfl
/-- Two results: a diagram, and whether there is one. -/
def DgTold (w : World) (ok : Bool) (r : Int) (ns : List Nd) (e : Ending) (w' : World) : Prop := ∃ A c, e = .returned (.tuple #[dgV r (.slice A ns.length c), .bool ok]) ∧ NdAt w' A ns ∧ (∀ a, A = some a → w.heap.size ≤ a.block) ∧ Below w.heap.size w w'
def outR (ok : Bool) (vars : Int) (f : Nat → Bool) : Int := if ok then dgR vars.toNat f else 0
def outN (ok : Bool) (vars : Int) (f : Nat → Bool) : List Nd := if ok then dgN vars.toNat f else []
theorem NdAt.nil (w : World) : NdAt w none [] := ⟨fun j hj => absurd hj (by simp), by simp⟩
/-- What is known of a valid diagram. -/
theorem good_parts {vars r : Int} {ns : List Nd} (h : goodD vars r ns = true) : (0 ≤ vars ∧ vars ≤ 6) ∧ ns.length ≤ 63 ∧ (0 ≤ r ∧ r ≤ ns.length + 1) ∧ WkN ns := by
  unfold goodD at h
  rw [Bool.and_eq_true, Bool.and_eq_true, Bool.and_eq_true, inB_def, inB_def, decide_eq_true_eq, ndsB_ok] at h
  exact ⟨h.1.1.1, h.1.1.2, h.1.2, OkN.wk h.2⟩
end Go.Proofs.YtnfjgebfmnpkbaaGreat

/- Contracts: valid diagrams, in the reference. -/
namespace Go.Proofs.YtnfjgebfmnpkbaaGreat
open Go.RowKit

theorem under_node {ns : List Nd} {m : Nat} (hm : m < ns.length) {lo : Int} (h : lo = (m : Int) + 2) (v : Int) : under ns v lo = decide (v < ns[m].v) := by
  unfold under
  rw [decide_eq_false (by omega), List.getD_eq_getElem?_getD, show (lo - 2).toNat = m by omega, List.getElem?_eq_getElem hm]
  rfl
theorem under_low {ns : List Nd} {lo : Int} (h : lo < 2) (v : Int) : under ns v lo = true := by
  unfold under
  rw [decide_eq_true h]; rfl
theorem NdAt.var {w : World} {b off : Nat} {ns : List Nd} (h : NdAt w (some ⟨b, off, none⟩) ns) {m : Nat} (hm : m < ns.length) : w.cell? ⟨b, off + m * 3, none⟩ = some (.int .i64 ns[m].v) := by
  obtain ⟨b', off', e, h1, _⟩ := h.at_ m hm
  cases e
  exact h1
theorem nds_no' {vars : Int} {ns : List Nd} {k : Nat} (hk : k < ns.length) (h : ndB vars ns k = false) : ndsB vars ns ns.length = false := by
  cases hh : ndsB vars ns ns.length
  · rfl
  · have := ndsB_ok.1 hh k hk
    rw [h] at this; cases this
theorem goodD_def' (vars r : Int) (ns : List Nd) : goodD vars r ns = (inB vars 0 6 && decide (ns.length ≤ 63) && inB r 0 (ns.length + 1) && ndsB vars ns ns.length) := rfl
theorem ndB_eq {vars : Int} {ns : List Nd} {i : Nat} (hi : i < ns.length) {v lo hi' : Int} (h : ns[i] = ⟨v, lo, hi'⟩) : ndB vars ns i = (inB v 1 vars && inB lo 0 (i + 1) && inB hi' 0 (i + 1) && under ns v lo && under ns v hi') := by
  unfold ndB
  rw [List.getD_eq_getElem?_getD, List.getElem?_eq_getElem hi, h]
  rfl
theorem NdAt.ok_at {w : World} {A : Option Addr} {ns : List Nd} (h : NdAt w A ns) {m : Nat} (hm : m < ns.length) : ndOk ns[m] := h.ok _ (List.getElem_mem hm)
/- left out: the seat has no spec.l26Vars -/

/- left out: the seat has no spec.l26Good -/
end Go.Proofs.YtnfjgebfmnpkbaaGreat

/- Contracts: numbers of variables and literals that are drawn. -/
namespace Go.Proofs.YtnfjgebfmnpkbaaGreat
open Go.RowKit

/- left out: the seat has no (*loop.example/g01080/spec.l1Cur).vars26 -/

theorem lit_three {w1 : World} {vars : Int} {g A cl cc : Nat} {ca : Option Addr} (h : CurIs A g ca cl cc w1) (hv : -1 ≤ vars ∧ vars ≤ 7) (hA : A ≤ 80000000) :
    Calls Tryz.prog 54 #[.pointer (some ⟨g, 0, none⟩), .slice (some ⟨w1.heap.size, 0, none⟩) 3 3] (w1.alloc (.cells #[.int .i64 0, .int .i64 (vars + 1), .int .i64 (-vars - 1)] 3)) (CurPost (IntIn (-8) 8) (A + 2) g ca cl cc (w1.alloc (.cells #[.int .i64 0, .int .i64 (vars + 1), .int .i64 (-vars - 1)] 3))) := by
  have hg := h.lt
  refine cur_among (-8) 8 w1.heap.size 0 3 3 A g ca cl cc _ (h.grow (bal (bb _) _)) (by omega) (by decide) (by decide) (ints_new rfl fun j hj => ?_) (by omega)
  match j, hj with
  | 0, _ => exact ⟨_, rfl, by decide, by decide⟩
  | 1, _ => exact ⟨_, rfl, by omega, by omega⟩
  | 2, _ => exact ⟨_, rfl, by omega, by omega⟩

/- left out: the seat has no (*loop.example/g01080/spec.l1Cur).lit -/
end Go.Proofs.YtnfjgebfmnpkbaaGreat

/- Contracts: the and, or and not of diagrams, in the program. -/
namespace Go.Proofs.YtnfjgebfmnpkbaaGreat
open Go.RowKit

/- left out: the seat has no impl.pairDiagram$1 -/

/- left out: the seat has no impl.pairDiagram -/
end Go.Proofs.YtnfjgebfmnpkbaaGreat

/- Contracts: bits that are set, in the program. -/
namespace Go.Proofs.YtnfjgebfmnpkbaaGreat
open Go.RowKit

theorem set_fin : ∀ b < 64, ∀ k < 6, bits .andNot .i64 ((b : Nat) : Int) ((2 ^ k : Nat) : Int) = ((b - (if b.testBit k then 2 ^ k else 0) : Nat) : Int) := by decide +kernel
/-- Bits in which the variable of a literal is set such that the literal is true. -/
def setL (b : Nat) (l : Int) : Nat := if 0 < l then b ||| 2 ^ (l.toNat - 1) else b - (if b.testBit ((-l).toNat - 1) then 2 ^ ((-l).toNat - 1) else 0)
theorem or_set {b : Nat} {l : Int} (hb : b < 64) (h0 : 0 < l) (h1 : l ≤ 6) : bits .or .i64 (b : Int) (wrap64 (2 ^ (l.toNat - 1))) = ((setL b l : Nat) : Int) := by
  obtain ⟨e1, e2⟩ := pow_small (v := l.toNat - 1) (by omega)
  rw [e1, (i64_nat b (2 ^ (l.toNat - 1)) (by omega) (by omega)).1, setL, if_pos h0]
theorem clr_set {b : Nat} {l : Int} (hb : b < 64) (h0 : l < 0) (h1 : -6 ≤ l) : bits .andNot .i64 (b : Int) (wrap64 (2 ^ ((-l).toNat - 1))) = ((setL b l : Nat) : Int) := by
  obtain ⟨e1, e2⟩ := pow_small (v := (-l).toNat - 1) (by omega)
  rw [e1, set_fin b hb ((-l).toNat - 1) (by omega), setL, if_neg (show ¬ 0 < l by omega)]
theorem setL_lt {b vars : Nat} {l : Int} (hb : b < 2 ^ vars) (_ : l ≠ 0) (_ : -(vars : Int) ≤ l) (_ : l ≤ vars) : setL b l < 2 ^ vars := by
  unfold setL
  split
  · exact Nat.or_lt_two_pow hb (Nat.pow_lt_pow_right (by decide) (by omega))
  · omega

/- left out: the seat has no impl.setBit -/

def litD (vars l : Int) : Bool := decide (l ≠ 0) && inB l (-vars) vars
set_option maxRecDepth 100000 in
theorem isLiteralD_any (vars l : Int) (h0 : 0 ≤ vars) (h1 : vars ≤ 1000000) (w : World) : Calls Tryz.prog 69 #[.int .i64 vars, .int .i64 l] w fun e w' => e = .returned (.bool (litD vars l)) ∧ Below w.heap.size w w' := by
  have hw1 : IntKind.i64.wrap (-vars) = -vars := IntWalk.i64_in _ (by omega)
  by_cases hl : l = 0
  · have hF : Hid (litD vars l = false) := by unfold Hid litD; rw [decide_eq_false (by omega)]; rfl
    go_enter Tryz.func69, Tryz.ntmps69
    go_wp2_with fail
    go_ret
    exact ⟨ret_bool hF.out.symm, bb _⟩
  · have hF : Hid (litD vars l = inB l (-vars) vars) := by unfold Hid litD; rw [decide_eq_true hl]; rfl
    go_enter Tryz.func69, Tryz.ntmps69
    go_wp2_with (go_at_call 37; refine (within_any _ _ _ _).mono ?_; rintro e w1 ⟨rfl, rfl⟩)
    go_ret
    exact ⟨ret_bool (by rw [hF.out]; simp [hl]), bb _⟩

/- left out: the seat has no impl.SetInDiagram$1 -/

/- left out: the seat has no impl.ForgetInDiagram$1 -/
end Go.Proofs.YtnfjgebfmnpkbaaGreat

/- Contracts: the values of a diagram, in the reference. -/
namespace Go.Proofs.YtnfjgebfmnpkbaaGreat
open Go.RowKit

/- left out: the seat has no spec.l26Values -/

theorem pow_wrap {v : Nat} (hv : v ≤ 6) : IntKind.i64.wrap ((2 : Int) ^ v) = ((2 ^ v : Nat) : Int) := by
  match v, hv with
  | 0, _ | 1, _ | 2, _ | 3, _ | 4, _ | 5, _ | 6, _ => decide

theorem l2VarD_any (l : Int) (h0 : -6 ≤ l) (h1 : l ≤ 6) (w : World) : Calls Tryz.prog 105 #[.int .i64 l] w fun e w' => e = .returned (.int .i64 (if l < 0 then -l else l)) ∧ w = w' := by
  have hw1 : IntKind.i64.wrap (-l) = -l := IntWalk.i64_in _ (by omega)
  by_cases h : l < 0
  · rw [if_pos h]
    go_enter Tryz.func105, Tryz.ntmps105
    go_wp2_with fail
    go_ret
    exact ⟨rfl, rfl⟩
  · rw [if_neg h]
    go_enter Tryz.func105, Tryz.ntmps105
    go_wp2_with fail
    go_ret
    exact ⟨rfl, rfl⟩
/- left out: the seat has no spec.l2Lit -/

/- left out: the seat has no spec.l26Set -/
end Go.Proofs.YtnfjgebfmnpkbaaGreat

/- Contracts: the plan of values, in the reference. -/
namespace Go.Proofs.YtnfjgebfmnpkbaaGreat
open Go.RowKit

/- left out: the seat has no impl.BddNode -/

/- left out: the seat has no spec.l26Plan -/
end Go.Proofs.YtnfjgebfmnpkbaaGreat

/- Contracts: the reduced diagram of values, a literal that is set, in the reference. -/
namespace Go.Proofs.YtnfjgebfmnpkbaaGreat
open Go.RowKit

/- left out: the seat has no spec.l26Of -/

/- left out: the seat has no spec.SetInDiagram -/
end Go.Proofs.YtnfjgebfmnpkbaaGreat

/- Contracts: and, or, forget of diagrams, in the reference. -/
namespace Go.Proofs.YtnfjgebfmnpkbaaGreat
open Go.RowKit

def opB (q x y : Bool) : Bool := if q then x && y else x || y
def upto (k : Nat) (g f : Nat → Bool) (j : Nat) : Bool := if j < k then g j else f j
theorem upto_zero (N : Nat) (g f : Nat → Bool) : blV N (upto 0 g f) = blV N f := blV_congr fun j _ => by simp [upto]
theorem upto_all (N : Nat) (g f : Nat → Bool) : blV N (upto N g f) = blV N g := blV_congr fun j hj => by simp [upto, hj]
theorem upto_set (N k : Nat) (g f : Nat → Bool) : (blV N (upto k g f)).set k (.bool (g k)) = blV N (upto (k + 1) g f) := by
  rw [blV_set]
  refine blV_congr fun j _ => ?_
  unfold upto
  by_cases h : j = k
  · subst h; simp
  · rw [if_neg h]
    by_cases h2 : j < k
    · rw [if_pos h2, if_pos (by omega)]
    · rw [if_neg h2, if_neg (by omega)]
theorem upto_at (k : Nat) (g f : Nat → Bool) : upto k g f k = f k := by simp [upto]

/- left out: the seat has no spec.l26Two -/
end Go.Proofs.YtnfjgebfmnpkbaaGreat

/- Contracts: and, or, forget of diagrams, in the reference; the comparison. -/
namespace Go.Proofs.YtnfjgebfmnpkbaaGreat
open Go.RowKit

/- left out: the seat has no spec.AndDiagrams -/

/- left out: the seat has no spec.OrDiagrams -/

/- left out: the seat has no spec.ForgetInDiagram -/

/- left out: the seat has no laws.vDiagram -/
end Go.Proofs.YtnfjgebfmnpkbaaGreat

/- Contracts: diagrams that are drawn. -/
namespace Go.Proofs.YtnfjgebfmnpkbaaGreat
open Go.RowKit

/-- Nodes as they are drawn. -/
def DrOk (ns : List Nd) : Prop := ∀ i (h : i < ns.length), (1 ≤ ns[i].v ∧ ns[i].v ≤ 6) ∧ (0 ≤ ns[i].lo ∧ ns[i].lo ≤ i + 1) ∧ (0 ≤ ns[i].hi ∧ ns[i].hi ≤ i + 1)
theorem DrOk.wk {ns : List Nd} (h : DrOk ns) : WkN ns := fun i hi => ⟨(h i hi).1.1, (h i hi).2⟩
theorem DrOk.small {ns : List Nd} (h : DrOk ns) (hl : ns.length ≤ 1000) : ∀ x ∈ ns, ndOk x := by
  intro x hx
  obtain ⟨i, hi, rfl⟩ := List.getElem_of_mem hx
  obtain ⟨h1, h2, h3⟩ := h i hi
  unfold ndOk I64
  omega
theorem DrOk.snoc {ns : List Nd} {n : Nd} (h : DrOk ns) (hv : 1 ≤ n.v ∧ n.v ≤ 6) (hl : 0 ≤ n.lo ∧ n.lo ≤ ns.length + 1) (hh : 0 ≤ n.hi ∧ n.hi ≤ ns.length + 1) : DrOk (ns ++ [n]) := by
  intro i hi
  rw [List.length_append, List.length_singleton] at hi
  by_cases hlt : i < ns.length
  · rw [List.getElem_append_left hlt]; exact h i hlt
  · obtain rfl : i = ns.length := by omega
    simp only [List.getElem_concat_length]
    exact ⟨hv, hl, hh⟩
theorem dg_dr {n : Nat} (hn : n ≤ 6) (f : Nat → Bool) : DrOk (dgN n f) := fun i hi => by
  obtain ⟨h1, h2, h3, _⟩ := (ndB_get hi).1 ((dg_made n f).ok i hi)
  exact ⟨⟨h1.1, by omega⟩, h2, h3⟩

/-- A diagram that is drawn. -/
def DrawPost (A g : Nat) (ca : Option Addr) (cl cc : Nat) (w : World) (e : Ending) (w' : World) : Prop :=
  ∃ r ns B c, e = .returned (dgV r (.slice B ns.length c)) ∧ I64 r ∧ ns.length ≤ 64 ∧ NdAt w' B ns ∧ (∀ a, B = some a → w.heap.size ≤ a.block) ∧ CurIs A g ca cl cc w' ∧ Chg [g] w w'
/- left out: the seat has no impl.Diagram -/

/-- The length of the slice that lies in a diagram. -/
def lenAt (w : World) (b : Nat) : Nat := match w.cell? ⟨b, 1, none⟩ with | some (.slice _ n _) => n | _ => 0
theorem lenAt_of {w : World} {b n c : Nat} {B : Option Addr} (h : w.cell? ⟨b, 1, none⟩ = some (.slice B n c)) : lenAt w b = n := by simp [lenAt, h]
def mostI (a b : Int) : Int := if b < a then a else b
theorem l1Most_any (a b : Int) (w : World) : Calls Tryz.prog 34 #[.int .i64 a, .int .i64 b] w fun e w' => e = .returned (.int .i64 (mostI a b)) ∧ w = w' := by
  unfold mostI
  by_cases h : b < a
  · rw [if_pos h]
    go_enter Tryz.func34, Tryz.ntmps34
    go_wp2_with fail
    go_ret
    exact ⟨rfl, rfl⟩
  · rw [if_neg h]
    go_enter Tryz.func34, Tryz.ntmps34
    go_wp2_with fail
    go_ret
    exact ⟨rfl, rfl⟩

/- left out: the seat has no (*loop.example/g01080/spec.l1Cur).diagram -/
end Go.Proofs.YtnfjgebfmnpkbaaGreat

/- Contract: at least, in the reference. -/
namespace Go.Proofs.YtnfjgebfmnpkbaaGreat
open Go.RowKit

theorem most_nat {n k : Nat} : mostI 0 ((n : Int) - k + 1) = ((n + 1 - k : Nat) : Int) := by
  unfold mostI
  by_cases h : (n : Int) - k + 1 < 0
  · rw [if_pos h]; omega
  · rw [if_neg h]; omega

/- left out: the seat has no spec.AtLeastCnf -/
end Go.Proofs.YtnfjgebfmnpkbaaGreat

/- Contract: a clause with its variables shifted, in the program. -/
namespace Go.Proofs.YtnfjgebfmnpkbaaGreat
open Go.RowKit

/-- A literal whose variable is greater. -/
def shV (k l : Int) : Int := if 0 < l then l + k else l - k

/- left out: the seat has no impl.shifted -/
end Go.Proofs.YtnfjgebfmnpkbaaGreat

/- Plain: the models of parities and of Cnfs apart. -/
namespace Go.Proofs.YtnfjgebfmnpkbaaGreat
open Go.RowKit

/-- All clauses with a literal of each of some variables. -/
def sgR : List Int → List (List Int)
  | [] => [[]]
  | v :: L => (sgR L).map (v :: ·) ++ (sgR L).map (-v :: ·)
/-- The number of negative literals. -/
def ngC (c : List Int) : Nat := (c.filter fun l => decide (l < 0)).length
def xorL (L : List Int) (odd : Bool) : List (List Int) := (sgR L).filter fun c => (ngC c % 2 == 0) == odd
/-- The parity of the variables that are true. -/
def parL (L : List Int) (b : Nat) : Bool := L.foldr (fun v q => xor (b.testBit (v.natAbs - 1)) q) false
theorem parL_cons (v : Int) (L : List Int) (b : Nat) : parL (v :: L) b = xor (b.testBit (v.natAbs - 1)) (parL L b) := rfl
theorem ng_pos {v : Int} (h : 0 < v) (c : List Int) : ngC (v :: c) = ngC c := by
  unfold ngC; rw [List.filter_cons, if_neg (by simp; omega)]
theorem ng_neg {v : Int} (h : 0 < v) (c : List Int) : ngC (-v :: c) = ngC c + 1 := by
  unfold ngC; rw [List.filter_cons, if_pos (by simp; omega)]; rfl
theorem litX_pos {v : Int} (h : 0 < v) (b : Nat) : litT b v = b.testBit (v.natAbs - 1) := by
  unfold litT; rw [show decide (0 < v) = true from decide_eq_true h]; simp
theorem litX_neg {v : Int} (h : 0 < v) (b : Nat) : litT b (-v) = !(b.testBit (v.natAbs - 1)) := by
  unfold litT; rw [show decide (0 < -v) = false from decide_eq_false (by omega), Int.natAbs_neg]; simp
theorem odd_next (n : Nat) : ((n + 1) % 2 == 0) = !(n % 2 == 0) := by
  rcases Nat.mod_two_eq_zero_or_one n with h | h
  · rw [show (n + 1) % 2 = 1 by omega, h]; rfl
  · rw [show (n + 1) % 2 = 0 by omega, h]; rfl
theorem xor_all : ∀ {L : List Int}, (∀ v ∈ L, 0 < v) → ∀ (odd : Bool) (b : Nat), (∀ c ∈ sgR L, ((ngC c % 2 == 0) == odd) = true → clT c b = true) ↔ parL L b = odd
  | [], _, odd, b => by
    simp only [sgR, List.mem_singleton, forall_eq, ngC, clT, parL]
    cases odd <;> simp
  | v :: L, h, odd, b => by
    have ih := fun q => xor_all (L := L) (fun x hx => h x (List.mem_cons_of_mem _ hx)) q b
    have hv := h v List.mem_cons_self
    have e : (∀ c ∈ sgR (v :: L), ((ngC c % 2 == 0) == odd) = true → clT c b = true) ↔ (∀ c ∈ sgR L, ((ngC c % 2 == 0) == odd) = true → clT (v :: c) b = true) ∧ (∀ c ∈ sgR L, ((ngC (-v :: c) % 2 == 0) == odd) = true → clT (-v :: c) b = true) := by
      rw [show sgR (v :: L) = (sgR L).map (v :: ·) ++ (sgR L).map (-v :: ·) from rfl]
      constructor
      · intro h2
        refine ⟨fun c hc hp => h2 _ (List.mem_append.2 (.inl (List.mem_map.2 ⟨c, hc, rfl⟩))) (by rw [ng_pos hv]; exact hp), fun c hc hp => h2 _ (List.mem_append.2 (.inr (List.mem_map.2 ⟨c, hc, rfl⟩))) hp⟩
      · rintro ⟨h2, h3⟩ c hc hp
        rcases List.mem_append.1 hc with hc | hc
        · obtain ⟨d, hd, rfl⟩ := List.mem_map.1 hc
          exact h2 d hd (by rw [ng_pos hv] at hp; exact hp)
        · obtain ⟨d, hd, rfl⟩ := List.mem_map.1 hc
          exact h3 d hd hp
    have hc1 : ∀ c, clT (v :: c) b = (b.testBit (v.natAbs - 1) || clT c b) := fun c => by unfold clT; rw [List.any_cons, litX_pos hv]
    have hc2 : ∀ c, clT (-v :: c) b = (!(b.testBit (v.natAbs - 1)) || clT c b) := fun c => by unfold clT; rw [List.any_cons, litX_neg hv]
    rw [e, parL_cons]
    cases hb : b.testBit (v.natAbs - 1)
    · simp only [hc1, hc2, hb, Bool.false_or, Bool.not_false, Bool.true_or, implies_true, and_true, Bool.false_xor]
      exact ih odd
    · simp only [hc1, hc2, hb, Bool.false_or, Bool.not_true, Bool.true_or, implies_true, true_and, Bool.true_xor, ng_neg hv, odd_next]
      have e2 : ∀ c : List Int, ((!(ngC c % 2 == 0)) == odd) = ((ngC c % 2 == 0) == !odd) := fun c => by cases (ngC c % 2 == 0) <;> cases odd <;> rfl
      simp only [e2]
      rw [ih (!odd)]
      cases parL L b <;> cases odd <;> simp
theorem mod_xor {L : List Int} (h : ∀ v ∈ L, 0 < v) (odd : Bool) (b : Nat) : modT (xorL L odd) b = (parL L b == odd) := by
  rw [Bool.eq_iff_iff, beq_iff_eq, ← xor_all h]
  unfold modT xorL
  rw [List.all_eq_true]
  constructor
  · intro h2 c hc hp; exact h2 c (List.mem_filter.2 ⟨hc, hp⟩)
  · intro h2 c hc
    obtain ⟨h3, h4⟩ := List.mem_filter.1 hc
    exact h2 c h3 h4
theorem par_low {n : Nat} : ∀ {L : List Int}, (∀ v ∈ L, 1 ≤ v ∧ v ≤ (n : Int) + 1) → L.Nodup → ∀ {b : Nat}, b < 2 ^ n → parL L (2 ^ n + b) = xor (parL L b) (decide ((n : Int) + 1 ∈ L))
  | [], _, _, b, _ => by simp [parL]
  | v :: L, h, hn, b, hb => by
    rw [List.nodup_cons] at hn
    have ih := par_low (L := L) (fun x hx => h x (List.mem_cons_of_mem _ hx)) hn.2 hb
    have hv := h v List.mem_cons_self
    rw [parL_cons, parL_cons, ih]
    by_cases e : v = (n : Int) + 1
    · have h1 : (2 ^ n + b).testBit (v.natAbs - 1) = true := by
        rw [show v.natAbs - 1 = n by omega, Nat.testBit_two_pow_add_eq, Nat.testBit_lt_two_pow hb]; rfl
      have h2 : b.testBit (v.natAbs - 1) = false := by rw [show v.natAbs - 1 = n by omega, Nat.testBit_lt_two_pow hb]
      have h3 : decide ((n : Int) + 1 ∈ L) = false := decide_eq_false (by rw [← e]; exact hn.1)
      have h4 : decide ((n : Int) + 1 ∈ v :: L) = true := decide_eq_true (by rw [e]; exact List.mem_cons_self)
      rw [h1, h2, h3, h4]
      cases parL L b <;> rfl
    · have h1 : (2 ^ n + b).testBit (v.natAbs - 1) = b.testBit (v.natAbs - 1) := Nat.testBit_two_pow_add_gt (by omega) _
      have h4 : decide ((n : Int) + 1 ∈ v :: L) = decide ((n : Int) + 1 ∈ L) := by
        simp only [List.mem_cons, show ((n : Int) + 1 = v) = False from eq_false (fun h => e h.symm), false_or]
      rw [h1, h4]
      cases b.testBit (v.natAbs - 1) <;> cases parL L b <;> cases decide ((n : Int) + 1 ∈ L) <;> rfl
theorem cntW_not (p : Nat → Bool) : ∀ N, cntP p N + cntP (fun b => !(p b)) N = N
  | 0 => by simp [cntP]
  | N + 1 => by
    have ih := cntW_not p N
    cases e : p N
    · rw [cntP_no e, cntP_yes (p := fun b => !(p b)) (by simp [e])]; omega
    · rw [cntP_yes e, cntP_no (p := fun b => !(p b)) (by simp [e])]; omega
/-- Half of the assignments have a parity. -/
theorem par_half : ∀ (n : Nat) {L : List Int}, L ≠ [] → (∀ v ∈ L, 1 ≤ v ∧ v ≤ (n : Int)) → L.Nodup → ∀ odd, 2 * cntP (fun b => parL L b == odd) (2 ^ n) = 2 ^ n
  | 0, L, hne, h, _, odd => by
    obtain ⟨v, hv⟩ := List.exists_mem_of_ne_nil L hne
    have := h v hv; omega
  | n + 1, L, hne, h, hn, odd => by
    have hp : 2 ^ (n + 1) = 2 ^ n + 2 ^ n := by rw [Nat.pow_succ]; omega
    rw [hp, cnt_split]
    have hr : ∀ v ∈ L, 1 ≤ v ∧ v ≤ (n : Int) + 1 := fun v hv => by have := h v hv; omega
    have hc := cntW_congr (p := fun i => parL L (2 ^ n + i) == odd) (q := fun b => xor (parL L b) (decide ((n : Int) + 1 ∈ L)) == odd) (N := 2 ^ n) (fun b hb => by rw [par_low hr hn hb])
    rw [hc]
    by_cases e : (n : Int) + 1 ∈ L
    · have h2 := cntW_congr (p := fun b => xor (parL L b) (decide ((n : Int) + 1 ∈ L)) == odd) (q := fun b => !(parL L b == odd)) (N := 2 ^ n) (fun b _ => by
        rw [decide_eq_true e]; cases parL L b <;> cases odd <;> rfl)
      rw [h2, cntW_not]; omega
    · have h2 := cntW_congr (p := fun b => xor (parL L b) (decide ((n : Int) + 1 ∈ L)) == odd) (q := fun b => parL L b == odd) (N := 2 ^ n) (fun b _ => by
        rw [decide_eq_false e]; cases parL L b <;> cases odd <;> rfl)
      have ih := par_half n hne (fun v hv => ⟨(hr v hv).1, by
        have h3 := (hr v hv).2
        have h4 : v ≠ (n : Int) + 1 := fun e2 => e (e2 ▸ hv)
        omega⟩) hn odd
      rw [h2]; omega
/-- The clauses of g with greater variables. -/
theorem litT_high {k : Nat} {l : Int} (h0 : l ≠ 0) (a b : Nat) (ha : a < 2 ^ k) : litT (2 ^ k * b + a) (if 0 < l then l + k else l - k) = litT b l := by
  unfold litT
  have h1 : ∀ j, (2 ^ k * b + a).testBit (k + j) = b.testBit j := fun j => by
    rw [Nat.testBit_two_pow_mul_add b ha, if_neg (by omega)]
    congr 1; omega
  split
  · rename_i h
    rw [show (l + k).natAbs - 1 = k + (l.natAbs - 1) by omega, h1, decide_eq_true h, decide_eq_true (show 0 < l + k by omega)]
  · rename_i h
    rw [show (l - k).natAbs - 1 = k + (l.natAbs - 1) by omega, h1, decide_eq_false h, decide_eq_false (show ¬ 0 < l - k by omega)]
theorem litT_low {k : Nat} {l : Int} (h0 : l ≠ 0) (h1 : l.natAbs ≤ k) (a b : Nat) (ha : a < 2 ^ k) : litT (2 ^ k * b + a) l = litT a l := by
  unfold litT
  rw [Nat.testBit_two_pow_mul_add b ha, if_pos (by omega)]
theorem cnt_apart (p q : Nat → Bool) (K : Nat) : ∀ N, cntP (fun i => q (i % K) && p (i / K)) (K * N) = cntP q K * cntP p N
  | 0 => by simp [cntP]
  | N + 1 => by
    have ih := cnt_apart p q K N
    rw [Nat.mul_succ, cnt_split, ih]
    have e : cntP (fun i => q ((K * N + i) % K) && p ((K * N + i) / K)) K = cntP (fun i => q i && p N) K := cntW_congr fun b hb => by
      rw [Nat.mul_add_mod, Nat.mod_eq_of_lt hb, Nat.mul_add_div (by omega), Nat.div_eq_of_lt hb, Nat.add_zero]
    rw [e]
    cases h : p N
    · have : cntP (fun i => q i && false) K = 0 := by simp [cntP]
      rw [cntP_no h, this]; omega
    · have : cntP (fun i => q i && true) K = cntP q K := by simp
      rw [cntP_yes h, this, Nat.mul_succ]
theorem any_congr {α : Type} {p q : α → Bool} : ∀ {l : List α}, (∀ x ∈ l, p x = q x) → l.any p = l.any q
  | [], _ => rfl
  | x :: l, h => by rw [List.any_cons, List.any_cons, h x List.mem_cons_self, any_congr fun y hy => h y (List.mem_cons_of_mem _ hy)]
theorem mod_apart {k : Nat} {xss yss : List (List Int)} (hx : ∀ c ∈ xss, ∀ l ∈ c, l ≠ 0 ∧ l.natAbs ≤ k) (hy : ∀ c ∈ yss, ∀ l ∈ c, l ≠ 0) (i : Nat) : modT (xss ++ yss.map fun c => c.map (shV k)) i = (modT xss (i % 2 ^ k) && modT yss (i / 2 ^ k)) := by
  have hlt : i % 2 ^ k < 2 ^ k := Nat.mod_lt _ (Nat.two_pow_pos k)
  have hi : 2 ^ k * (i / 2 ^ k) + i % 2 ^ k = i := Nat.div_add_mod i (2 ^ k)
  unfold modT
  rw [List.all_append, List.all_map]
  congr 1
  · rw [Bool.eq_iff_iff, List.all_eq_true, List.all_eq_true]
    have e : ∀ c ∈ xss, clT c i = clT c (i % 2 ^ k) := fun c hc => any_congr fun l hl => by
      have h := hx c hc l hl
      conv => lhs; rw [← hi]
      exact litT_low h.1 h.2 _ _ hlt
    exact ⟨fun h c hc => by rw [← e c hc]; exact h c hc, fun h c hc => by rw [e c hc]; exact h c hc⟩
  · rw [Bool.eq_iff_iff, List.all_eq_true, List.all_eq_true]
    have e : ∀ c ∈ yss, ((fun c => clT c i) ∘ fun c => List.map (shV k) c) c = clT c (i / 2 ^ k) := fun c hc => by
      show (c.map (shV k)).any (litT i) = c.any (litT (i / 2 ^ k))
      rw [List.any_map]
      exact any_congr fun l hl => by
        have h := hy c hc l hl
        show litT i (shV k l) = _
        conv => lhs; rw [← hi]
        exact litT_high h _ _ hlt
    exact ⟨fun h c hc => by rw [← e c hc]; exact h c hc, fun h c hc => by rw [e c hc]; exact h c hc⟩
end Go.Proofs.YtnfjgebfmnpkbaaGreat

/- Plain: all clauses over some variables; parities among them. -/
namespace Go.Proofs.YtnfjgebfmnpkbaaGreat
open Go.RowKit

/-- The c-th clause over the first n variables of a list: the bits of c, the last one for the last variable, tell the signs. -/
def rowG (L : List Int) (n c : Nat) : List Int := (List.range n).map fun (j : Nat) => if c.testBit (n - (j + 1)) then -(L.getD j 0) else L.getD j 0
theorem rowG_len (L : List Int) (n c : Nat) : (rowG L n c).length = n := by simp [rowG]
theorem rowG_snoc (L : List Int) (n c : Nat) : rowG L (n + 1) (2 * c) = rowG L n c ++ [L.getD n 0] ∧ rowG L (n + 1) (2 * c + 1) = rowG L n c ++ [-(L.getD n 0)] := by
  unfold rowG
  rw [List.range_succ, List.map_append, List.map_append]
  have key : ∀ (d j : Nat), j < n → d / 2 = c → d.testBit (n + 1 - (j + 1)) = c.testBit (n - (j + 1)) := fun d j hj hd => by
    rw [show n + 1 - (j + 1) = (n - (j + 1)) + 1 by omega, Nat.testBit_succ, hd]
  constructor
  · congr 1
    · exact List.map_congr_left fun j hj => by rw [key (2 * c) j (List.mem_range.1 hj) (by omega)]
    · simp [Nat.testBit_zero]
  · congr 1
    · exact List.map_congr_left fun j hj => by rw [key (2 * c + 1) j (List.mem_range.1 hj) (by omega)]
    · simp [Nat.testBit_zero]
def sgnG (L : List Int) (n : Nat) : List (List Int) := (List.range (2 ^ n)).map (rowG L n)
theorem sgnG_len (L : List Int) (n : Nat) : (sgnG L n).length = 2 ^ n := by simp [sgnG]
theorem sgnG_get {L : List Int} {n c : Nat} (h : c < (sgnG L n).length) : (sgnG L n)[c] = rowG L n c := by simp [sgnG]
def sgnH (L : List Int) (n c : Nat) : List (List Int) := (List.range c).flatMap fun i => [rowG L n i ++ [L.getD n 0], rowG L n i ++ [-(L.getD n 0)]]
theorem sgnH_zero (L : List Int) (n : Nat) : sgnH L n 0 = [] := rfl
theorem sgnH_succ (L : List Int) (n c : Nat) : sgnH L n (c + 1) = sgnH L n c ++ [rowG L n c ++ [L.getD n 0], rowG L n c ++ [-(L.getD n 0)]] := by simp [sgnH, List.range_succ]
theorem sgnH_eq (L : List Int) (n : Nat) : ∀ c, sgnH L n c = (List.range (2 * c)).map (rowG L (n + 1))
  | 0 => rfl
  | c + 1 => by
    rw [sgnH_succ, sgnH_eq L n c, show 2 * (c + 1) = 2 * c + 1 + 1 by omega, List.range_succ, List.range_succ, (rowG_snoc L n c).1.symm, (rowG_snoc L n c).2.symm]
    simp
theorem sgnH_all (L : List Int) (n : Nat) : sgnH L n (2 ^ n) = sgnG L (n + 1) := by
  rw [sgnH_eq, sgnG, Nat.pow_succ, Nat.mul_comm]
theorem rowG_cons (v : Int) (L : List Int) (n c : Nat) : rowG (v :: L) (n + 1) c = (if c.testBit n then -v else v) :: rowG L n c := by
  unfold rowG
  rw [List.range_succ_eq_map, List.map_cons, List.map_map]
  congr 1
  refine List.map_congr_left fun j hj => ?_
  simp only [Function.comp, List.getD_cons_succ]
  rw [show n + 1 - (j.succ + 1) = n - (j + 1) by omega]
theorem rowG_high (L : List Int) (n c : Nat) : rowG L n (2 ^ n + c) = rowG L n c := by
  unfold rowG
  refine List.map_congr_left fun j hj => ?_
  have := List.mem_range.1 hj
  rw [Nat.testBit_two_pow_add_gt (by omega)]
theorem range_two (n : Nat) : List.range (n + n) = List.range n ++ (List.range n).map (n + ·) := List.range_add
theorem sgnG_sgR : ∀ L : List Int, sgnG L L.length = sgR L
  | [] => by simp [sgnG, rowG, sgR]
  | v :: L => by
    rw [show sgR (v :: L) = (sgR L).map (v :: ·) ++ (sgR L).map (-v :: ·) from rfl, ← sgnG_sgR L]
    unfold sgnG
    rw [List.length_cons, show 2 ^ (L.length + 1) = 2 ^ L.length + 2 ^ L.length by rw [Nat.pow_succ]; omega, range_two, List.map_append, List.map_map, List.map_map, List.map_map]
    congr 1
    · refine List.map_congr_left fun c hc => ?_
      have hc := List.mem_range.1 hc
      rw [rowG_cons, Nat.testBit_lt_two_pow hc]; rfl
    · refine List.map_congr_left fun c hc => ?_
      have hc := List.mem_range.1 hc
      simp only [Function.comp]
      rw [rowG_cons, rowG_high, Nat.testBit_two_pow_add_eq, Nat.testBit_lt_two_pow hc]; rfl
/-- The parity clauses among the first k signings. -/
def xorK (L : List Int) (odd : Bool) (k : Nat) : List (List Int) := ((List.range k).map (rowG L L.length)).filter fun c => (ngC c % 2 == 0) == odd
theorem xorK_succ (L : List Int) (odd : Bool) (k : Nat) : xorK L odd (k + 1) = if ((ngC (rowG L L.length k) % 2 == 0) == odd) = true then xorK L odd k ++ [rowG L L.length k] else xorK L odd k := by
  unfold xorK
  rw [List.range_succ, List.map_append, List.filter_append, List.map_cons, List.map_nil, List.filter_cons]
  split
  · rfl
  · simp
theorem xorK_all (L : List Int) (odd : Bool) : xorK L odd (2 ^ L.length) = xorL L odd := by
  unfold xorK xorL
  rw [← sgnG_sgR]; rfl
theorem xorK_len (L : List Int) (odd : Bool) (k : Nat) : (xorK L odd k).length ≤ k := by
  unfold xorK
  exact Nat.le_trans (List.length_filter_le _ _) (by simp)
theorem ngC_take {c : List Int} {k : Nat} (h : k < c.length) : ngC (c.take (k + 1)) = ngC (c.take k) + if c[k] < 0 then 1 else 0 := by
  unfold ngC
  rw [List.take_succ_eq_append_getElem h, List.filter_append, List.length_append, List.filter_cons]
  by_cases h2 : c[k] < 0 <;> simp [h2]
theorem ngC_le (c : List Int) : ngC c ≤ c.length := List.length_filter_le _ _
theorem rowG_ok {L : List Int} (h : ∀ x ∈ L, 1 ≤ x ∧ x ≤ 12) (n c : Nat) : ∀ y ∈ rowG L n c, -12 ≤ y ∧ y ≤ 12 := fun y hy => by
  unfold rowG at hy
  obtain ⟨j, -, rfl⟩ := List.mem_map.1 hy
  have h2 : 0 ≤ L.getD j 0 ∧ L.getD j 0 ≤ 12 := by
    rw [List.getD_eq_getElem?_getD]
    rcases Nat.lt_or_ge j L.length with hj | hj
    · rw [List.getElem?_eq_getElem hj]
      have := h _ (List.getElem_mem hj)
      exact ⟨by simp; omega, by simp; omega⟩
    · rw [List.getElem?_eq_none hj]; simp
  split <;> omega
end Go.Proofs.YtnfjgebfmnpkbaaGreat
