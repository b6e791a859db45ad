/- Lemmas and contracts for a law, put together out of several texts: CtH CtI SeE SeF SeG SeH. -/
import Derived.Test.YtnjdmakbdhobgaaMg6
/- Contracts: clauses joined and made, told as own rows, in the reference. -/
namespace Go.Proofs.Ytnjdmakbdhobgaa
open Go.RowKit

/-- An own row and whether it is told. -/
def OAns (w : World) (ok : Bool) (zs : List Int) (e : Ending) (w' : World) : Prop :=
  ∃ D dc, e = .returned (.tuple #[.slice D zs.length dc, .bool ok]) ∧ Sp w w' [Own 3 1 (.slice D zs.length dc) zs.length (zs.map (.int .i64))]
theorem good_take {c : List Int} (h : GoodS c) (k : Nat) : GoodS (c.take k) := ⟨fun x hx => h.mem x (List.mem_of_mem_take hx), h.asc.sublist (List.take_sublist k c)⟩
theorem join_take {c : List Int} (h : GoodS c) {k : Nat} (hk : k < c.length) : joinS (c.take k) [c[k]] = some (c.take (k + 1)) := by
  have h1 : GoodS [c[k]] := ⟨fun x hx => by
    have e : x = c[k] := by simpa using hx
    rw [e]; exact h.mem _ (List.getElem_mem hk), by simp⟩
  rw [← clauseR_join (good_take h k) h1, List.take_append_getElem hk]
  exact clauseR_self (good_take h (k + 1))
theorem good_within {c : List Int} (h : GoodS c) : Within 1000 c := fun x hx => ⟨(h.mem x hx).2.1, (h.mem x hx).2.2⟩

set_option maxRecDepth 100000 in
set_option maxHeartbeats 4000000 in
theorem l2JoinO_any (v u : Value) (a b : List Int) (F G : List Nat) (w : World) (hx : Ty.int.row false w v a F) (hy : Ty.int.row false w u b G) (wa : Within 1000 a) (wb : Within 1000 b) (la : a.length ≤ 1000) (lb : b.length ≤ 1000) :
    Calls Try.prog 54 #[v, u] w (OAns w (joinS a b).isSome ((joinS a b).getD [])) := by
  obtain ⟨aa, ac, rfl, _, _⟩ := Ty.row_len hx
  obtain ⟨ba, bc, rfl, hy1, hy2, _, hy3⟩ := row_int hy
  go_enter Try.func54, Try.ntmps54
  go_wp2_with fail
  refine (l1Own_any _ a F w hx (by omega)).mono ?_
  rintro e w1 ⟨v1, rfl, ho1, hb1⟩
  have S0 := (Sp.start w).own_call hb1 ho1
  obtain ⟨a1, c1, rfl⟩ := owns_form ho1
  replace S0 := Lib.hid S0
  have hW0 := Lib.hid wa
  have hj0 : Hid (joinS a (b.drop 0) = joinS a b) := by unfold Hid; rw [List.drop_zero]
  clear ho1 hb1
  go_wp2_with fail
  go_loopw [6, 7] (fun s i wr => ∃ (k : Nat) (out : List Int), k ≤ b.length ∧ i = .int .i64 k ∧ out.length ≤ a.length + k ∧ Hid (Within 1000 out) ∧ Hid (joinS out (b.drop k) = joinS a b) ∧ Hid (Sp w wr [Own 3 1 s out.length (out.map (.int .i64))])) (fun _ i _ => b.length - (intOf i).toNat)
  case atStart => exact ⟨0, a, Nat.zero_le _, rfl, by omega, hW0, hj0, S0⟩
  case round =>
    obtain ⟨k, out, hk, rfl, hol, HW, HJ, HS⟩ := hrel
    clear hj0
    clear S0
    obtain ⟨sa, sc, rfl⟩ := owns_form (HS.out.own (i := 0) rfl)
    by_cases hlt : k < b.length
    · rcases hy3 with ⟨rfl, rfl⟩ | ⟨hyn, bk, off, rfl, rfl, hyc⟩
      · exact absurd hlt (by simp)
      have hB := HS.out.below
      have k0 := ((hyc k hlt).keep (hB.block bk (hyc k hlt).lt)).1
      have hl6 := wb _ (List.getElem_mem hlt)
      obtain ⟨H, hrow', -, -⟩ := own_row (HS.out.own (i := 0) rfl) (HW.out.i64 (by decide))
      have hrow := Ty.row_down hrow'
      have hd := List.drop_eq_getElem_cons hlt
      obtain ⟨l, hl⟩ : ∃ l, l = b[k] := ⟨_, rfl⟩
      rw [← hl] at k0 hl6 hd
      have HJ2 := HJ.out
      rw [hd] at HJ2
      replace hd := Lib.hid hd
      have hneg : wrap64 (-l) = -l := by unfold wrap64; omega
      have hl0 : -1000 ≤ l := hl6.1
      have hl1 : l ≤ 1000 := hl6.2
      replace hl := Lib.hid hl
      clear hyc hB hl hl6 hrow'
      cases hq : hasI out (-l)
      · cases hq2 : hasI out l
        · rw [joinS_put hq hq2] at HJ2
          replace HJ2 := Lib.hid HJ2
          have HN := Lib.hid (within_put HW.out ⟨hl0, hl1⟩)
          have hpl := Lib.hid (put_len out l)
          have hol9 : out.length ≤ 1000000000 := by omega
          go_wp2_with (first
            | (go_at_call 24; (first | (with_reducible refine (l2Has_at hrow hq).mono ?_) | (with_reducible refine (l2Has_at hrow hq2).mono ?_)); rintro e w2 ⟨rfl, rfl⟩)
            | (go_at_call 25; (with_reducible refine (l2Put_any _ out l H _ hrow hol9).mono ?_); rintro e w2 ⟨v2, rfl, ho2, hb2⟩))
          have S1 := (HS.out.own_call hb2 ho2).drop2w
          obtain ⟨a2, c2, rfl⟩ := owns_form ho2
          replace S1 := Lib.hid S1
          clear ho2 hb2 HS hrow HJ hd
          generalize putB out l = out2 at *
          go_wp2_with fail
          go_roundw
          case rel => exact ⟨k + 1, out2, by omega, by go_num, by rw [hpl.out]; omega, HN, HJ2, S1⟩
          case measure => simp [intOf]; omega
        · rw [joinS_has hq hq2] at HJ2
          replace HJ2 := Lib.hid HJ2
          clear HJ hd
          go_wp2_with (first
            | (go_at_call 24; (first | (with_reducible refine (l2Has_at hrow hq).mono ?_) | (with_reducible refine (l2Has_at hrow hq2).mono ?_)); rintro e w2 ⟨rfl, rfl⟩))
          go_roundw
          case rel => exact ⟨k + 1, out, by omega, by go_num, by omega, HW, HJ2, HS⟩
          case measure => simp [intOf]; omega
      · rw [joinS_no hq] at HJ2
        replace HJ2 := Lib.hid HJ2
        clear HJ hd
        go_wp2_with (first
          | (go_at_call 24; (first | (with_reducible refine (l2Has_at hrow hq).mono ?_)); rintro e w2 ⟨rfl, rfl⟩))
        have S1 := Lib.hid (HS.out.own_made 3 1)
        go_ret2
        rw [← HJ2.out]
        exact ⟨_, _, rfl, Sp.pick [0] S1.out rfl⟩
    · obtain rfl : k = b.length := by omega
      have HJ2 := HJ.out
      rw [List.drop_length] at HJ2
      replace HJ2 := Lib.hid HJ2
      clear HJ
      go_wp2_with fail
      go_ret2
      rw [← HJ2.out]
      exact ⟨_, _, rfl, HS.out⟩


set_option maxRecDepth 100000 in
set_option maxHeartbeats 4000000 in
theorem l2Of_any (zs : List Int) (A : Option Addr) (cap : Nat) (w : World) (hx : IntsAt w A zs) (hg : GoodS zs) (hl : zs.length ≤ 1000) :
    Calls Try.prog 46 #[.slice A zs.length cap] w (OAns w true zs) := by
  have S0 := Lib.hid ((Sp.start w).own_made 3 1)
  have hX := Lib.hid hx
  have hG := Lib.hid hg
  have hcat : Hid (∀ k (hk : k < zs.length), joinS (zs.take k) [zs[k]] = some (zs.take (k + 1))) := fun k hk => join_take hg hk
  clear hx hg
  go_enter Try.func46, Try.ntmps46
  go_wp2_with fail
  go_loopw [4, 5] (fun v4 v5 wr => ∃ (k : Nat) (D : Option Addr) (dc : Nat) (ys : List Int), k ≤ zs.length ∧ v5 = .int .i64 k ∧ v4 = .slice D ys.length dc ∧ Hid (ys = zs.take k) ∧ Hid (Sp w wr [Own 3 1 (.slice D ys.length dc) ys.length (ys.map (.int .i64))])) (fun _ v5 _ => zs.length - (intOf v5).toNat)
  case atStart => exact ⟨0, _, 0, [], Nat.zero_le _, rfl, rfl, rfl, S0⟩
  case round =>
    clear S0
    obtain ⟨k, D, dc, ys, hk, rfl, rfl, hys, HS⟩ := hrel
    by_cases hlt : k < zs.length
    · obtain ⟨ab, aoff, hA, m0⟩ := (hX.out.grow HS.out.below).at_ k hlt
      subst hA
      have hzi : Hid (∀ x ∈ zs, I64 x) := fun x hx => (hG.out.mem x hx).i64
      have hcatk := hcat.out k hlt
      have hwz : Hid (Within 1000 [zs[k]]) := fun x hx => by
        have e : x = zs[k] := by simpa using hx
        rw [e]; exact good_within hG.out _ (List.getElem_mem hlt)
      have hwy : Hid (Within 1000 ys) := fun x hx => by
        rw [hys.out] at hx; exact good_within hG.out x (List.mem_of_mem_take hx)
      have hyl : Hid (ys.length ≤ 1000) := by unfold Hid; rw [hys.out, List.length_take]; omega
      have hzk := hzi.out _ (List.getElem_mem hlt)
      rw [← hys.out] at hcatk
      replace hcatk := Lib.hid hcatk
      generalize zs[k] = z at *
      have S1 := HS.out.alloc_box #[.int .i64 z] 3
      have hu : Ty.int.row false (wr.alloc (.cells #[.int .i64 z] 3)) (.slice (some ⟨wr.heap.size, 0, none⟩) 1 1) [z] [wr.heap.size] :=
        row_int_mk (xs := [z]) (fun x hx => by have e : x = z := by simpa using hx
                                               rw [e]; exact hzk) (by simp) (by omega) (by simp) (fun j hj => by
          have e : j = 0 := by simpa using hj
          subst e
          exact ⟨S1.cell (i := 0) rfl (o := 0) rfl, fun h => by cases h⟩)
      obtain ⟨F1, hr1, -, -⟩ := own_row (S1.own (i := 1) rfl) (fun x hx => by have := hwy.out x hx; unfold I64; omega)
      have hcall := l2JoinO_any _ _ ys [z] F1 _ _ (Ty.row_down hr1) hu hwy.out hwz.out hyl.out (by simp)
      rw [hcatk.out, Option.isSome_some, Option.getD_some] at hcall
      replace hcall := Lib.hid hcall
      replace S1 := Lib.hid S1
      clear HS hr1 hu hcat hcatk hzk hwz hwy
      generalize hnx : zs.take (k + 1) = ys2 at *
      replace hnx := Lib.hid hnx
      go_wp2_with fail
      refine hcall.out.mono ?_
      rintro e w2 ⟨D2, dc2, rfl, T⟩
      have S2 := Lib.hid ((Sp.start w).grow S1.out.below |>.seq T)
      clear hcall S1 T
      go_wp2_with fail
      go_roundw
      case rel => exact ⟨k + 1, D2, dc2, ys2, by omega, by go_num, rfl, hnx.out.symm, S2⟩
      case measure => simp [intOf]; omega
    · obtain rfl : k = zs.length := by omega
      have e1 : ys = zs := by have := hys.out; rwa [List.take_length] at this
      subst e1
      go_wp2_with fail
      go_ret2
      exact ⟨D, dc, rfl, HS.out⟩
end Go.Proofs.Ytnjdmakbdhobgaa

/- Contract: a clause put behind the others, in the reference. -/
namespace Go.Proofs.Ytnjdmakbdhobgaa
open Go.RowKit

/-- A Cnf by value whose clauses are the walk's own. -/
def AddP (w0 : World) (ps : List Asn) (vars : Int) (xss : List (List Int)) (e : Ending) (w' : World) : Prop :=
  ∃ B' c' cs', e = .returned (.agg #[.int .i64 vars, .slice B' xss.length c']) ∧ Sp w0 w' (Rows Ty.int 33 (.slice B' xss.length c') cs' xss :: ps)

set_option maxRecDepth 100000 in
set_option maxHeartbeats 8000000 in
theorem l4Add_any (vars : Int) (B : Option Addr) (c : Nat) (cs : List Value) (xss : List (List Int)) (ps : List Asn) (w0 W : World) (zs : List Int) (A : Option Addr) (cap : Nat) (hx : IntsAt W A zs) (hg : GoodS zs) (hl : zs.length ≤ 1000) (hm : xss.length ≤ 61)
    (S : Sp w0 W (Rows Ty.int 33 (.slice B xss.length c) cs xss :: ps)) :
    Calls Try.prog 32 #[.agg #[.int .i64 vars, .slice B xss.length c], .slice A zs.length cap] W (AddP w0 ps vars (capL 60 (xss ++ [zs]))) := by
  have S0 := (S.alloc_box #[.int .i64 vars, .slice B xss.length c] 28).alloc_box #[.int .i64 0, .slice none 0 0] 28
  simp only [World.size_alloc] at S0
  have a0 := S0.cell (i := 1) rfl (o := 0) rfl
  have a1 := S0.cell (i := 1) rfl (o := 1) rfl
  by_cases hf : xss.length ≤ 60
  · have d0 : decide ((xss.length : Int) ≤ 60) = true := decide_eq_true (by omega)
    rw [capL_all (X := xss ++ [zs]) (by simp; omega)]
    obtain ⟨i1, hi, hz0, hz1, hz2⟩ := info_parts infoRow
    have hBW := bal (bal (bb W) (.cells #[.int .i64 vars, .slice B xss.length c] 28)) (.cells #[.int .i64 0, .slice none 0 0] 28)
    have hcall := Lib.hid (l2Of_any zs A cap _ (hx.grow hBW) hg hl)
    clear hBW
    have hI : Hid (∀ x ∈ zs, I64 x) := fun x hx => (hg.mem x hx).i64
    replace S0 := Lib.hid S0
    clear hx hg S
    go_enter Try.func32, Try.ntmps32
    go_wp2_with fail
    refine hcall.out.mono ?_
    rintro e w2 ⟨D, dc, rfl, T⟩
    have S1 := Sp.own_to_row (S0.out.seq T) hI.out
    have b0 := S1.cell (i := 2) rfl (o := 0) rfl
    have b1 := S1.cell (i := 2) rfl (o := 1) rfl
    have S2 := S1.alloc_box #[.slice D zs.length dc] 33
    have kB := S2.cell (i := 0) rfl (o := 0) rfl
    have hrows := Lib.hid (S2.rows (i := 4) rfl)
    replace S1 := Lib.hid S1
    clear S0 T hcall a0 a1 S2
    go_wp2_with (at_builtin; refine wpList_append_src rfl _ _ rfl Try.underlying26 hi hz0 hz1 hz2 rfl (by decide) _ xss.length _ rfl hrows.out _ 1 1 [.slice D zs.length dc] rfl (Src.one kB) (by simp [Value.oneCell']) ?c3 ?c4 ?_)
    case c3 => unfold maxLen; omega
    case c4 => omega
    intro vY wY hownY hgY hatY
    have S4 := ((S1.out.bring (i := 3) rfl).swap).rows_push (bal (bb _) _) hownY hgY (by simpa using hatY)
    obtain ⟨aY, cY, rfl⟩ := own_slice hownY
    have hlen : xss.length + 1 = (xss ++ [zs]).length := by simp
    rw [hlen] at S4 ⊢
    clear S1 hrows hownY hgY hatY kB b0 b1 hlen
    generalize xss ++ [zs] = yss at *
    have f1 := S4.frozen (i := 2) rfl 1
    have g0 := S4.cell (i := 2) rfl (o := 0) rfl
    have g1 := S4.cell (i := 2) rfl (o := 1) rfl
    have S5 := S4.store (i := 2) rfl 1 (.slice aY yss.length cY)
    have h0 := S5.cell (i := 2) rfl (o := 0) rfl
    have h1 := S5.cell (i := 2) rfl (o := 1) rfl
    have r0 := S5.cell (i := 1) rfl (o := 0) rfl
    have r1 := S5.cell (i := 1) rfl (o := 1) rfl
    have q0 := S5.frozen (i := 1) rfl 0
    have q1 := S5.frozen (i := 1) rfl 1
    have SF := (S5.store (i := 1) rfl 0 (.int .i64 vars)).store (i := 1) rfl 1 (.slice aY yss.length cY)
    have j0 := SF.cell (i := 1) rfl (o := 0) rfl
    have j1 := SF.cell (i := 1) rfl (o := 1) rfl
    have SG := Lib.hid (show Sp w0 _ (Rows Ty.int 33 (.slice aY yss.length cY) _ yss :: ps) from SF.drop2w.drop2w)
    clear S4 S5 SF
    go_wp2_with fail
    exact bodyPost_ret (v := .agg #[.int .i64 vars, .slice aY yss.length cY]) (by simp [results, Try.results32, go_sem, j0, j1]) rfl ⟨aY, cY, _, rfl, SG.out⟩
  · have d0 : decide ((xss.length : Int) ≤ 60) = false := decide_eq_false (by omega)
    have e1 : capL 60 (xss ++ [zs]) = xss := by rw [capL_over (X := xss) (by rw [capL_all (by omega)]; omega), capL_all (by omega)]
    rw [e1]
    have SF := (S.alloc_box #[.int .i64 vars, .slice B xss.length c] 28).alloc_box #[.int .i64 vars, .slice B xss.length c] 28
    simp only [World.size_alloc] at SF
    have j0 := SF.cell (i := 0) rfl (o := 0) rfl
    have j1 := SF.cell (i := 0) rfl (o := 1) rfl
    have SG : Hid (Sp w0 _ (Rows Ty.int 33 (.slice B xss.length c) cs xss :: ps)) := SF.tail.tail
    clear S0 SF S hx hg e1
    go_enter Try.func32, Try.ntmps32
    go_wp2_with fail
    exact bodyPost_ret (v := .agg #[.int .i64 vars, .slice B xss.length c]) (by simp [results, Try.results32, go_sem, j0, j1]) rfl ⟨B, c, cs, rfl, SG.out⟩
end Go.Proofs.Ytnjdmakbdhobgaa

/- Contracts: a clause of literals in any order, put behind the others, in the reference. -/
namespace Go.Proofs.Ytnjdmakbdhobgaa
open Go.RowKit

theorem putB_len (c : List Int) (l : Int) : (putB c l).length = c.length + 1 := by
  unfold putB
  rw [List.length_append, List.length_cons, List.length_take, List.length_drop]; omega
theorem foldl_putB_len : ∀ (L c : List Int), (L.foldl putB c).length = c.length + L.length
  | [], c => by simp
  | l :: L, c => by rw [List.foldl_cons, foldl_putB_len L, putB_len, List.length_cons]; omega
theorem foldJ_len (L : List Int) : (foldJ L).length = L.length := by unfold foldJ; rw [foldl_putB_len]; simp
theorem dist_within {L : List Int} (h : DistS 1000 L) : Within 1000 L := fun x hx => ⟨(h.mem x hx).1.2.1, (h.mem x hx).1.2.2⟩
theorem fold_take {zs : List Int} (h : DistS 1000 zs) {k : Nat} (hk : k < zs.length) : joinS (foldJ (zs.take k)) [zs[k]] = some (foldJ (zs.take (k + 1))) := by
  rw [List.take_succ_eq_append_getElem hk, foldJ_snoc]
  have hd := List.pairwise_iff_getElem.1 h.diff
  have hz := (h.mem zs[k] (List.getElem_mem hk)).1
  have hno : ∀ y, y ∈ zs.take k → absV y ≠ absV zs[k] := fun y hy => by
    obtain ⟨j, hj, rfl⟩ := List.getElem_of_mem hy
    rw [List.length_take] at hj
    rw [List.getElem_take]
    exact hd j k (by omega) hk (by omega)
  have hneg : absV (-zs[k]) = absV zs[k] := by
    rw [LitS.abs hz, LitS.abs (show LitS (-zs[k]) by unfold LitS at hz ⊢; omega)]
    unfold LitS at hz
    split <;> split <;> omega
  rw [joinS_put (hasS_not.2 fun hm => hno _ (foldJ_iff.1 hm) hneg) (hasS_not.2 fun hm => hno _ (foldJ_iff.1 hm) rfl)]
  rfl

set_option maxRecDepth 100000 in
set_option maxHeartbeats 4000000 in
theorem l2OfD_any (zs : List Int) (A : Option Addr) (cap : Nat) (w : World) (hx : IntsAt w A zs) (hg : DistS 1000 zs) (hl : zs.length ≤ 1000) :
    Calls Try.prog 46 #[.slice A zs.length cap] w (OAns w true (foldJ zs)) := by
  have S0 := Lib.hid ((Sp.start w).own_made 3 1)
  have hX := Lib.hid hx
  have hG := Lib.hid hg
  have hcat : Hid (∀ k (hk : k < zs.length), joinS (foldJ (zs.take k)) [zs[k]] = some (foldJ (zs.take (k + 1)))) := fun k hk => fold_take hg hk
  clear hx hg
  go_enter Try.func46, Try.ntmps46
  go_wp2_with fail
  go_loopw [4, 5] (fun v4 v5 wr => ∃ (k : Nat) (D : Option Addr) (dc : Nat) (ys : List Int), k ≤ zs.length ∧ v5 = .int .i64 k ∧ v4 = .slice D ys.length dc ∧ Hid (ys = foldJ (zs.take k)) ∧ Hid (Sp w wr [Own 3 1 (.slice D ys.length dc) ys.length (ys.map (.int .i64))])) (fun _ v5 _ => zs.length - (intOf v5).toNat)
  case atStart => exact ⟨0, _, 0, [], Nat.zero_le _, rfl, rfl, rfl, S0⟩
  case round =>
    clear S0
    obtain ⟨k, D, dc, ys, hk, rfl, rfl, hys, HS⟩ := hrel
    by_cases hlt : k < zs.length
    · obtain ⟨ab, aoff, hA, m0⟩ := (hX.out.grow HS.out.below).at_ k hlt
      subst hA
      have hzi : Hid (∀ x ∈ zs, I64 x) := fun x hx => (hG.out.mem x hx).1.i64
      have hcatk := hcat.out k hlt
      have hwz : Hid (Within 1000 [zs[k]]) := fun x hx => by
        have e : x = zs[k] := by simpa using hx
        rw [e]; exact dist_within hG.out _ (List.getElem_mem hlt)
      have hwy : Hid (Within 1000 ys) := fun x hx => by
        rw [hys.out] at hx; exact dist_within hG.out x (List.mem_of_mem_take (foldJ_iff.1 hx))
      have hyl : Hid (ys.length ≤ 1000) := by unfold Hid; rw [hys.out, foldJ_len, List.length_take]; omega
      have hzk := hzi.out _ (List.getElem_mem hlt)
      rw [← hys.out] at hcatk
      replace hcatk := Lib.hid hcatk
      generalize zs[k] = z at *
      have S1 := HS.out.alloc_box #[.int .i64 z] 3
      have hu : Ty.int.row false (wr.alloc (.cells #[.int .i64 z] 3)) (.slice (some ⟨wr.heap.size, 0, none⟩) 1 1) [z] [wr.heap.size] :=
        row_int_mk (xs := [z]) (fun x hx => by have e : x = z := by simpa using hx
                                               rw [e]; exact hzk) (by simp) (by omega) (by simp) (fun j hj => by
          have e : j = 0 := by simpa using hj
          subst e
          exact ⟨S1.cell (i := 0) rfl (o := 0) rfl, fun h => by cases h⟩)
      obtain ⟨F1, hr1, -, -⟩ := own_row (S1.own (i := 1) rfl) (fun x hx => by have := hwy.out x hx; unfold I64; omega)
      have hcall := l2JoinO_any _ _ ys [z] F1 _ _ (Ty.row_down hr1) hu hwy.out hwz.out hyl.out (by simp)
      rw [hcatk.out, Option.isSome_some, Option.getD_some] at hcall
      replace hcall := Lib.hid hcall
      replace S1 := Lib.hid S1
      clear HS hr1 hu hcat hcatk hzk hwz hwy
      generalize hnx : foldJ (zs.take (k + 1)) = ys2 at *
      replace hnx := Lib.hid hnx
      go_wp2_with fail
      refine hcall.out.mono ?_
      rintro e w2 ⟨D2, dc2, rfl, T⟩
      have S2 := Lib.hid ((Sp.start w).grow S1.out.below |>.seq T)
      clear hcall S1 T
      go_wp2_with fail
      go_roundw
      case rel => exact ⟨k + 1, D2, dc2, ys2, by omega, by go_num, rfl, hnx.out.symm, S2⟩
      case measure => simp [intOf]; omega
    · obtain rfl : k = zs.length := by omega
      have e1 : Hid (ys = foldJ zs) := by have := hys.out; rwa [List.take_length] at this
      go_wp2_with fail
      go_ret2
      rw [← e1.out]
      exact ⟨D, dc, rfl, HS.out⟩

set_option maxRecDepth 100000 in
set_option maxHeartbeats 8000000 in
theorem l4AddD_any (vars : Int) (B : Option Addr) (c : Nat) (cs : List Value) (xss : List (List Int)) (ps : List Asn) (w0 W : World) (zs : List Int) (A : Option Addr) (cap : Nat) (R : List Int) (hcl : ∀ W', Below W.heap.size W W' → Calls Try.prog 46 #[.slice A zs.length cap] W' (OAns W' true R)) (hI0 : ∀ x ∈ R, I64 x) (hm : xss.length ≤ 61)
    (S : Sp w0 W (Rows Ty.int 33 (.slice B xss.length c) cs xss :: ps)) :
    Calls Try.prog 32 #[.agg #[.int .i64 vars, .slice B xss.length c], .slice A zs.length cap] W (AddP w0 ps vars (capL 60 (xss ++ [R]))) := by
  have S0 := (S.alloc_box #[.int .i64 vars, .slice B xss.length c] 28).alloc_box #[.int .i64 0, .slice none 0 0] 28
  simp only [World.size_alloc] at S0
  have a0 := S0.cell (i := 1) rfl (o := 0) rfl
  have a1 := S0.cell (i := 1) rfl (o := 1) rfl
  by_cases hf : xss.length ≤ 60
  · have d0 : decide ((xss.length : Int) ≤ 60) = true := decide_eq_true (by omega)
    rw [capL_all (X := xss ++ [R]) (by simp; omega)]
    obtain ⟨i1, hi, hz0, hz1, hz2⟩ := info_parts infoRow
    have hBW := bal (bal (bb W) (.cells #[.int .i64 vars, .slice B xss.length c] 28)) (.cells #[.int .i64 0, .slice none 0 0] 28)
    have hcall := Lib.hid (hcl _ hBW)
    clear hBW
    have hI : Hid (∀ x ∈ R, I64 x) := hI0
    replace S0 := Lib.hid S0
    clear hcl hI0 S
    go_enter Try.func32, Try.ntmps32
    go_wp2_with fail
    refine hcall.out.mono ?_
    rintro e w2 ⟨D, dc, rfl, T⟩
    have S1 := Sp.own_to_row (S0.out.seq T) hI.out
    have b0 := S1.cell (i := 2) rfl (o := 0) rfl
    have b1 := S1.cell (i := 2) rfl (o := 1) rfl
    have S2 := S1.alloc_box #[.slice D R.length dc] 33
    have kB := S2.cell (i := 0) rfl (o := 0) rfl
    have hrows := Lib.hid (S2.rows (i := 4) rfl)
    replace S1 := Lib.hid S1
    clear S0 T hcall a0 a1 S2
    go_wp2_with (at_builtin; refine wpList_append_src rfl _ _ rfl Try.underlying26 hi hz0 hz1 hz2 rfl (by decide) _ xss.length _ rfl hrows.out _ 1 1 [.slice D R.length dc] rfl (Src.one kB) (by simp [Value.oneCell']) ?c3 ?c4 ?_)
    case c3 => unfold maxLen; omega
    case c4 => omega
    intro vY wY hownY hgY hatY
    have S4 := ((S1.out.bring (i := 3) rfl).swap).rows_push (bal (bb _) _) hownY hgY (by simpa using hatY)
    obtain ⟨aY, cY, rfl⟩ := own_slice hownY
    have hlen : xss.length + 1 = (xss ++ [R]).length := by simp
    rw [hlen] at S4 ⊢
    clear S1 hrows hownY hgY hatY kB b0 b1 hlen
    generalize xss ++ [R] = yss at *
    have f1 := S4.frozen (i := 2) rfl 1
    have g0 := S4.cell (i := 2) rfl (o := 0) rfl
    have g1 := S4.cell (i := 2) rfl (o := 1) rfl
    have S5 := S4.store (i := 2) rfl 1 (.slice aY yss.length cY)
    have h0 := S5.cell (i := 2) rfl (o := 0) rfl
    have h1 := S5.cell (i := 2) rfl (o := 1) rfl
    have r0 := S5.cell (i := 1) rfl (o := 0) rfl
    have r1 := S5.cell (i := 1) rfl (o := 1) rfl
    have q0 := S5.frozen (i := 1) rfl 0
    have q1 := S5.frozen (i := 1) rfl 1
    have SF := (S5.store (i := 1) rfl 0 (.int .i64 vars)).store (i := 1) rfl 1 (.slice aY yss.length cY)
    have j0 := SF.cell (i := 1) rfl (o := 0) rfl
    have j1 := SF.cell (i := 1) rfl (o := 1) rfl
    have SG := Lib.hid (show Sp w0 _ (Rows Ty.int 33 (.slice aY yss.length cY) _ yss :: ps) from SF.drop2w.drop2w)
    clear S4 S5 SF
    go_wp2_with fail
    exact bodyPost_ret (v := .agg #[.int .i64 vars, .slice aY yss.length cY]) (by simp [results, Try.results32, go_sem, j0, j1]) rfl ⟨aY, cY, _, rfl, SG.out⟩
  · have d0 : decide ((xss.length : Int) ≤ 60) = false := decide_eq_false (by omega)
    have e1 : capL 60 (xss ++ [R]) = xss := by rw [capL_over (X := xss) (by rw [capL_all (by omega)]; omega), capL_all (by omega)]
    rw [e1]
    have SF := (S.alloc_box #[.int .i64 vars, .slice B xss.length c] 28).alloc_box #[.int .i64 vars, .slice B xss.length c] 28
    simp only [World.size_alloc] at SF
    have j0 := SF.cell (i := 0) rfl (o := 0) rfl
    have j1 := SF.cell (i := 0) rfl (o := 1) rfl
    have SG : Hid (Sp w0 _ (Rows Ty.int 33 (.slice B xss.length c) cs xss :: ps)) := SF.tail.tail
    clear S0 SF S hcl hI0 e1
    go_enter Try.func32, Try.ntmps32
    go_wp2_with fail
    exact bodyPost_ret (v := .agg #[.int .i64 vars, .slice B xss.length c]) (by simp [results, Try.results32, go_sem, j0, j1]) rfl ⟨B, c, cs, rfl, SG.out⟩
end Go.Proofs.Ytnjdmakbdhobgaa

/- Plain facts: the clauses of a coloring; edges as they lie. -/
namespace Go.Proofs.Ytnjdmakbdhobgaa
open Go.RowKit

/-- A node's clause, an edge's clause, the clauses of a coloring. -/
def colC (k i : Nat) : List Int := (List.range k).map fun (c : Nat) => (i : Int) * k + ((c : Int) + 1)
def colP (k : Nat) (e : Int × Int) (c : Int) : List Int := [-((e.1 - 1) * k + c), -((e.2 - 1) * k + c)]
def edgeV (n : Int) (e : Int × Int) : Bool := inB e.1 1 n && inB e.2 1 n && !(e.1 == e.2)
def colE1 (k : Nat) (e : Int × Int) (m : Nat) : List (List Int) := (List.range m).map fun (c : Nat) => cptL (colP k e ((c : Int) + 1))
def colN (k m : Nat) : List (List Int) := (List.range m).map (colC k)
def colL (n k : Nat) (es : List (Int × Int)) (m : Nat) : List (List Int) := colN k n ++ (es.take m).flatMap fun e => colE1 k e k
theorem colN_succ (k m : Nat) : colN k (m + 1) = colN k m ++ [colC k m] := by unfold colN; rw [List.range_succ, List.map_append]; rfl
theorem colN_len (k m : Nat) : (colN k m).length = m := by simp [colN]
theorem colE1_succ (k : Nat) (e : Int × Int) (m : Nat) : colE1 k e (m + 1) = colE1 k e m ++ [cptL (colP k e ((m : Int) + 1))] := by unfold colE1; rw [List.range_succ, List.map_append]; rfl
theorem colE1_len (k : Nat) (e : Int × Int) (m : Nat) : (colE1 k e m).length = m := by simp [colE1]
theorem colL_zero (n k : Nat) (es : List (Int × Int)) : colL n k es 0 = colN k n := by simp [colL]
theorem colL_succ (n k : Nat) (es : List (Int × Int)) (m : Nat) (hm : m < es.length) : colL n k es (m + 1) = colL n k es m ++ colE1 k es[m] k := by
  unfold colL
  rw [List.take_succ_eq_append_getElem hm, List.flatMap_append, List.append_assoc]; simp
theorem colL_len {n k : Nat} (es : List (Int × Int)) : ∀ m, m ≤ es.length → (colL n k es m).length = n + m * k
  | 0, _ => by rw [colL_zero, colN_len]; simp
  | m + 1, h => by
    rw [colL_succ n k es m (by omega), List.length_append, colL_len es m (by omega), colE1_len, Nat.succ_mul]; omega
theorem mul_le12 {i k : Nat} (hi : i ≤ 12) (hk : k ≤ 12) : 0 ≤ (i : Int) * k ∧ (i : Int) * k ≤ 144 := by
  have h1 : i * k ≤ 12 * 12 := Nat.mul_le_mul hi hk
  have h2 : ((i * k : Nat) : Int) = (i : Int) * k := Int.natCast_mul i k
  omega
theorem colC_good {k i : Nat} (hk : k ≤ 12) (hi : i ≤ 12) : GoodS (colC k i) := by
  have hb := mul_le12 hi hk
  unfold colC
  generalize (i : Int) * k = z at hb
  constructor
  · intro l hl
    obtain ⟨c, hc, rfl⟩ := List.mem_map.1 hl
    have := List.mem_range.1 hc
    unfold LitS; omega
  · rw [List.pairwise_map]
    refine List.pairwise_lt_range.imp_of_mem fun {a b} ha hb' hab => ?_
    have h1 := List.mem_range.1 ha
    have h2 := List.mem_range.1 hb'
    unfold AscS
    rw [LitS.abs (show LitS (z + ((a : Int) + 1)) by unfold LitS; omega), LitS.abs (show LitS (z + ((b : Int) + 1)) by unfold LitS; omega)]
    split <;> split <;> omega
theorem edgeV_iff {n : Int} {e : Int × Int} : edgeV n e = true ↔ (1 ≤ e.1 ∧ e.1 ≤ n) ∧ (1 ≤ e.2 ∧ e.2 ≤ n) ∧ e.1 ≠ e.2 := by
  unfold edgeV inB
  simp only [Bool.and_eq_true, decide_eq_true_eq, Bool.not_eq_true', beq_eq_false_iff_ne]
  omega
theorem mul_box {a : Int} {k : Nat} (h1 : 1 ≤ a) (h2 : a ≤ 12) (hk : k ≤ 12) : 0 ≤ (a - 1) * (k : Int) ∧ (a - 1) * (k : Int) ≤ 132 := by
  obtain ⟨i, hi⟩ : ∃ i : Nat, a - 1 = i := ⟨(a - 1).toNat, by omega⟩
  rw [hi]
  have h3 : i * k ≤ 11 * 12 := Nat.mul_le_mul (by omega) hk
  have h4 : ((i * k : Nat) : Int) = (i : Int) * k := Int.natCast_mul i k
  omega
theorem mul_ne {a b c : Int} {k : Nat} (h : a ≠ b) (hk : 1 ≤ k) : (a - 1) * (k : Int) + c ≠ (b - 1) * k + c := by
  intro e
  have h1 : (a - 1) * (k : Int) = (b - 1) * k := by omega
  have h2 := Int.eq_of_mul_eq_mul_right (show (k : Int) ≠ 0 by omega) h1
  omega
theorem colP_dist {n : Int} {k : Nat} {e : Int × Int} {c : Int} (h : edgeV n e = true) (hn : n ≤ 12) (hk : 1 ≤ k ∧ k ≤ 12) (hc : 1 ≤ c ∧ c ≤ k) : DistS 1000 (colP k e c) := by
  obtain ⟨h1, h2, h3⟩ := edgeV_iff.1 h
  have b1 := mul_box h1.1 (by omega) hk.2
  have b2 := mul_box h2.1 (by omega) hk.2
  have hne := mul_ne (c := c) h3 hk.1
  unfold colP
  generalize (e.1 - 1) * (k : Int) = x at *
  generalize (e.2 - 1) * (k : Int) = y at *
  have l1 : LitS (-(x + c)) := by unfold LitS; omega
  have l2 : LitS (-(y + c)) := by unfold LitS; omega
  have a1 : absV (-(x + c)) = x + c := by rw [LitS.abs l1, if_pos (by omega)]; omega
  have a2 : absV (-(y + c)) = y + c := by rw [LitS.abs l2, if_pos (by omega)]; omega
  refine ⟨fun l hl => ?_, ?_⟩
  · simp only [List.mem_cons, List.mem_nil_iff, or_false] at hl
    rcases hl with rfl | rfl
    · exact ⟨l1, by rw [a1]; omega⟩
    · exact ⟨l2, by rw [a2]; omega⟩
  · simp only [List.pairwise_cons, List.mem_singleton, forall_eq, List.mem_nil_iff, false_implies, implies_true, List.Pairwise.nil, and_true]
    rw [a1, a2]; exact hne
/-- Whether the edges are as they may be, and what a coloring gives. -/
def colB (n k : Nat) (es : List (Int × Int)) : Bool := es.all (edgeV n) && goodB (n * k) (colL n k es es.length)
def colV (n k : Nat) (es : List (Int × Int)) : Int := if colB n k es then (n : Int) * k else 0
def colY (n k : Nat) (es : List (Int × Int)) : List (List Int) := if colB n k es then colL n k es es.length else []
/-- Edges as they lie. -/
structure EdgesAt (w : World) (A : Option Addr) (es : List (Int × Int)) : Prop where
  at_ : ∀ j (hj : j < es.length), ∃ b off, A = some ⟨b, off, none⟩ ∧ w.cell? ⟨b, off + j * 2, none⟩ = some (.int .i64 es[j].1) ∧ w.cell? ⟨b, off + j * 2 + 1, none⟩ = some (.int .i64 es[j].2)
  ok : ∀ e ∈ es, I64 e.1 ∧ I64 e.2
theorem EdgesAt.grow {w w' : World} {A : Option Addr} {es : List (Int × Int)} (h : EdgesAt w A es) (hb : Below w.heap.size w w') : EdgesAt w' A es := by
  refine ⟨fun j hj => ?_, h.ok⟩
  obtain ⟨b, off, e, h1, h2⟩ := h.at_ j hj
  exact ⟨b, off, e, (hb.cell (World.block_lt_of_cell? _ _ h1)).trans h1, (hb.cell (World.block_lt_of_cell? _ _ h2)).trans h2⟩
end Go.Proofs.Ytnjdmakbdhobgaa

/- Contract: the Cnf of a coloring, in the program. -/
namespace Go.Proofs.Ytnjdmakbdhobgaa
open Go.RowKit

set_option maxRecDepth 100000 in
set_option maxHeartbeats 8000000 in
theorem coloringYes_any (hmc : MustC) (n k : Nat) (es : List (Int × Int)) (A : Option Addr) (cap : Nat) (w : World) (hn : 1 ≤ n ∧ n ≤ 12) (hk : 1 ≤ k ∧ k ≤ 12) (he : EdgesAt w A es) (hl : es.length ≤ 30) :
    Calls Try.prog 11 #[.int .i64 n, .slice A es.length cap, .int .i64 k] w (CnfR w (colV n k es) (colY n k es) (colB n k es)) := by
  obtain ⟨i0, hi0, hy0, hy1, hy2⟩ := info_parts infoInt
  have h1 := Lib.hid (fun W => within_any n 1 12 W)
  have h2 := Lib.hid (fun W => within_any k 1 12 W)
  rw [inB_true.2 ⟨by omega, by omega⟩] at h1 h2
  have hnk := mul_le12 hn.2 hk.2
  have hik := fun i (h : i ≤ 12) => mul_le12 (i := i) h hk.2
  have hVk : Hid (∀ es, colV n k es = if colB n k es then (n : Int) * k else 0) := fun _ => rfl
  have hBk : Hid (∀ es, colB n k es = (es.all (edgeV n) && goodB ((n : Int) * k) (colL n k es es.length))) := fun _ => rfl
  obtain ⟨V, hV⟩ : ∃ V, (n : Int) * k = V := ⟨_, rfl⟩
  rw [hV] at hnk hVk hBk
  have S0 := (((Sp.start w).alloc_box #[.int .i64 0, .slice none 0 0] 28).alloc_box #[.int .i64 V, .slice none 0 0] 52).rows_nil Ty.int 33
  simp only [World.size_alloc] at S0
  replace S0 := Lib.hid S0
  replace hik := Lib.hid hik
  have hE := Lib.hid he
  replace hmc := Lib.hid hmc
  clear he
  go_enter Try.func11, Try.ntmps11
  go_wp2_with fail
  refine (h1.out _).mono ?_
  rintro e w1 ⟨rfl, rfl⟩
  go_wp2_with fail
  refine (h2.out _).mono ?_
  rintro e w1 ⟨rfl, rfl⟩
  clear h1 h2
  go_wp2_with fail
  replace hV := Lib.hid hV
  go_loopw [35] (fun v35 wr => ∃ (i : Nat) (B' : Option Addr) (c' : Nat) (cs' : List Value), i ≤ n ∧ v35 = .int .i64 i ∧ Hid (Sp w wr (FamP (w.heap.size + 1) V B' c' cs' (colN k i) [Box w.heap.size 28 #[.int .i64 0, .slice none 0 0]]))) (fun v35 _ => n - (intOf v35).toNat)
  case atStart => exact ⟨0, none, 0, [], Nat.zero_le _, rfl, S0⟩
  case round =>
    clear S0
    obtain ⟨i, B', c', cs', hi, rfl, HS⟩ := hrel
    by_cases hlt : i < n
    · --{ one
      obtain ⟨z, hz⟩ : ∃ z, (i : Int) * k = z := ⟨_, rfl⟩
      have hzb := hik.out i (by omega)
      rw [hz] at hzb
      have hcg := Lib.hid (colC_good (k := k) (i := i) hk.2 (by omega))
      have hcC : Hid (∀ m, (List.range (m + 1)).map (fun (c : Nat) => (i : Int) * k + ((c : Int) + 1)) = (List.range m).map (fun (c : Nat) => (i : Int) * k + ((c : Int) + 1)) ++ [z + ((m : Int) + 1)]) := fun m => by rw [List.range_succ, List.map_append, ← hz]; rfl
      have hcE : Hid ((List.range k).map (fun (c : Nat) => (i : Int) * k + ((c : Int) + 1)) = colC k i) := rfl
      have hXl := Lib.hid (colN_len k i)
      have hXs := Lib.hid (colN_succ k i)
      have hc0 : Hid ((List.range 0).map (fun (c : Nat) => (i : Int) * k + ((c : Int) + 1)) = []) := rfl
      have hcl : Hid (∀ m, ((List.range m).map (fun (c : Nat) => (i : Int) * k + ((c : Int) + 1))).length = m) := fun m => by simp
      generalize (fun (c : Nat) => (i : Int) * k + ((c : Int) + 1)) = f at *
      generalize colC k i = CC at *
      generalize colN k i = X at *
      generalize hPS : FamP (w.heap.size + 1) V B' c' cs' X [Box w.heap.size 28 #[.int .i64 0, .slice none 0 0]] = PS at *
      replace hPS := Lib.hid hPS
      have S2 := Lib.hid (HS.out.own_nil 3 1)
      clear HS
      rename World => wo
      go_wp2_with fail
      go_loopw [10, 11] (fun v10 v11 wr => ∃ (c : Nat) (D : Option Addr) (dc : Nat) (ys : List Int), c ≤ k ∧ v11 = .int .i64 ((c : Int) + 1) ∧ v10 = .slice D ys.length dc ∧ Hid (ys = (List.range c).map f) ∧ Hid (Sp w wr (Own 3 1 (.slice D ys.length dc) ys.length (ys.map (.int .i64)) :: PS))) (fun _ v11 _ => k + 1 - (intOf v11).toNat)
      case atStart => exact ⟨0, none, 0, [], Nat.zero_le _, rfl, rfl, hc0.out.symm, S2⟩
      case round =>
        clear S2
        obtain ⟨c, D, dc, ys, hc, rfl, rfl, hys, HS⟩ := hrel
        by_cases hlt2 : c < k
        · have hnx : Hid (ys ++ [z + ((c : Int) + 1)] = (List.range (c + 1)).map f) := by unfold Hid; rw [hys.out, hcC.out]
          have hyl : ys.length ≤ 12 := by rw [hys.out, hcl.out]; omega
          have hle : (c : Int) + 1 ≤ k := by omega
          have S3 := HS.out.alloc_box #[.int .i64 (z + ((c : Int) + 1))] 3
          have kB := S3.cell (i := 0) rfl (o := 0) rfl
          replace S3 := Lib.hid S3
          clear HS
          go_wp2_with (at_builtin; refine wpList_append_src rfl _ _ rfl Try.underlying33 hi0 hy0 hy1 hy2 rfl (by decide) _ _ _ rfl (S3.out.own (i := 1) rfl) _ 1 1 [.int .i64 (z + ((c : Int) + 1))] rfl (Src.one kB) (by simp [Value.oneCell']) ?c3 ?c4 ?_)
          case c3 => unfold maxLen; omega
          case c4 => omega
          intro vY wY hownY hgY hatY
          have S4 := (S3.out.own_push (i := 1) rfl (bb _) hownY hgY (by simpa using hatY)).tail
          obtain ⟨aY, cY, rfl⟩ := own_slice hownY
          have S5 := Lib.hid (ownI_snoc (d := ys) (x := (z + ((c : Int) + 1))) S4)
          clear S3 S4 kB hownY hgY hatY
          have hlen : ys.length + 1 = (ys ++ [(z + ((c : Int) + 1))]).length := by simp
          rw [hlen]
          replace hlen := Lib.hid hlen
          go_wp2_with fail
          go_roundw
          case rel => exact ⟨c + 1, aY, cY, _, by omega, by go_num, rfl, hnx, S5⟩
          case measure => simp [intOf]; omega
        · obtain rfl : c = k := by omega
          rw [hcE.out] at hys
          have hys' := hys.out
          subst hys'
          have hPS' := hPS.out
          subst hPS'
          have hgt : ¬ (c : Int) + 1 ≤ c := by omega
          have hLi := HS.out.ints (i := 0) rfl (fun x hx => (hcg.out.mem x hx).i64)
          have hmu := fun W' (h : Below wr.heap.size wr W') => hmc.out ys D dc W' (hLi.grow h) hcg.out.mem (by rw [← hcE.out, hcl.out]; omega)
          rw [clauseR_self hcg.out, Option.getD_some] at hmu
          have hadd := Lib.hid (famAdd_any (w.heap.size + 1) V B' c' cs' X [Box w.heap.size 28 #[.int .i64 0, .slice none 0 0]] w wr ys D ys.length dc hmu (fun x hx => (hcg.out.mem x hx).i64) (by rw [hXl.out]; omega) HS.out.tail)
          rw [← hXs.out] at hadd
          clear hmu hLi HS hPS
          go_wp2_with fail
          refine hadd.out.mono ?_
          rintro e w3 ⟨rfl, B3, c3, cs3, S4⟩
          replace S4 := Lib.hid S4
          clear hadd
          go_wp2_with fail
          go_roundw
          case rel => exact ⟨i + 1, B3, c3, cs3, by omega, by go_num, S4⟩
          case measure => simp [intOf]; omega
      --} one
    · obtain rfl : i = n := by omega
      --{ two
      have S2 : Hid (Sp w wr (FamP (w.heap.size + 1) V B' c' cs' (colL i k es 0) [Box w.heap.size 28 #[.int .i64 0, .slice none 0 0]])) := by rw [colL_zero]; exact HS
      clear HS hik
      rename World => wo
      go_wp2_with fail
      go_loopw [57] (fun v57 wr => ∃ (j : Nat) (B' : Option Addr) (c' : Nat) (cs' : List Value), j ≤ es.length ∧ v57 = .int .i64 j ∧ Hid (∀ e ∈ es.take j, edgeV i e = true) ∧ Hid (Sp w wr (FamP (w.heap.size + 1) V B' c' cs' (colL i k es j) [Box w.heap.size 28 #[.int .i64 0, .slice none 0 0]]))) (fun v57 _ => es.length - (intOf v57).toNat)
      case atStart => exact ⟨0, B', c', cs', Nat.zero_le _, rfl, (fun e h => by simp at h), S2⟩
      case round =>
        clear S2
        obtain ⟨j, B', c', cs', hj, rfl, hall, HS⟩ := hrel
        by_cases hlt : j < es.length
        · have hb1 := Lib.hid (fun W => within_any es[j].1 1 i W)
          have hb2 := Lib.hid (fun W => within_any es[j].2 1 i W)
          obtain ⟨eb, eo, hA, k0, k1⟩ := (hE.out.grow HS.out.below).at_ j hlt
          have hij := (hE.out.ok _ (List.getElem_mem hlt))
          have hLn := colL_len (n := i) (k := k) es j (by omega)
          have hLs := Lib.hid (colL_succ i k es j hlt)
          cases hev : edgeV i es[j]
          · --{ bad
            have hno : colB i k es = false := by
              rw [hBk.out]
              have : es.all (edgeV i) = false := by rw [List.all_eq_false]; exact ⟨_, List.getElem_mem hlt, by rw [hev]; simp⟩
              rw [this]; rfl
            have hvz : colV i k es = 0 := by rw [hVk.out, hno]; rfl
            have hyz : colY i k es = [] := by unfold colY; rw [hno]; rfl
            rw [hno, hvz, hyz]
            unfold edgeV at hev
            have SE := HS.out.alloc_box #[.int .i64 es[j].1, .int .i64 es[j].2] 64
            have hB := Lib.hid ((SE.store (i := 3) rfl 0 (.int .i64 0)).store (i := 3) rfl 1 (.slice none 0 0)).below
            have r0 := SE.cell (i := 3) rfl (o := 0) rfl
            have r1 := SE.cell (i := 3) rfl (o := 1) rfl
            have f0 := SE.frozen (i := 3) rfl 0
            have f1 := SE.frozen (i := 3) rfl 1
            have j0 := ((SE.store (i := 3) rfl 0 (.int .i64 0)).store (i := 3) rfl 1 (.slice none 0 0)).cell (i := 3) rfl (o := 0) rfl
            have j1 := ((SE.store (i := 3) rfl 0 (.int .i64 0)).store (i := 3) rfl 1 (.slice none 0 0)).cell (i := 3) rfl (o := 1) rfl
            have q0 := SE.cell (i := 0) rfl (o := 0) rfl
            have q1 := SE.cell (i := 0) rfl (o := 1) rfl
            generalize es[j].1 = a at *
            generalize es[j].2 = b at *
            generalize inB a 1 i = b1 at *
            generalize inB b 1 i = b2 at *
            subst hA
            clear HS hall hE hno hvz hyz hmc hVk hBk SE hLn hLs
            cases b1
            · go_wp2_with fail
              refine (hb1.out _).mono ?_
              rintro e w3 ⟨rfl, rfl⟩
              go_wp2_with fail
              exact bodyPost_ret (v := .tuple #[.agg #[.int .i64 0, .slice none 0 0], .bool false]) (by simp [results, Try.results11, go_sem, j0, j1]) rfl ⟨none, 0, [], rfl, Ty.row_nil _ _ _ _ _ (by decide), hB.out⟩
            cases b2
            · go_wp2_with fail
              refine (hb1.out _).mono ?_
              rintro e w3 ⟨rfl, rfl⟩
              go_wp2_with fail
              refine (hb2.out _).mono ?_
              rintro e w3 ⟨rfl, rfl⟩
              go_wp2_with fail
              exact bodyPost_ret (v := .tuple #[.agg #[.int .i64 0, .slice none 0 0], .bool false]) (by simp [results, Try.results11, go_sem, j0, j1]) rfl ⟨none, 0, [], rfl, Ty.row_nil _ _ _ _ _ (by decide), hB.out⟩
            · obtain rfl : a = b := by simpa using hev
              go_wp2_with fail
              refine (hb1.out _).mono ?_
              rintro e w3 ⟨rfl, rfl⟩
              go_wp2_with fail
              refine (hb2.out _).mono ?_
              rintro e w3 ⟨rfl, rfl⟩
              go_wp2_with fail
              exact bodyPost_ret (v := .tuple #[.agg #[.int .i64 0, .slice none 0 0], .bool false]) (by simp [results, Try.results11, go_sem, j0, j1]) rfl ⟨none, 0, [], rfl, Ty.row_nil _ _ _ _ _ (by decide), hB.out⟩
            --} bad
          · --{ good
            have hall2 : Hid (∀ e ∈ es.take (j + 1), edgeV i e = true) := fun e h => by
              rw [List.take_succ_eq_append_getElem hlt, List.mem_append, List.mem_singleton] at h
              rcases h with h | rfl
              · exact hall.out e h
              · exact hev
            obtain ⟨e1, e2, e3⟩ := edgeV_iff.1 hev
            have hd := Lib.hid (fun (c : Nat) (h : c < k) => colP_dist (c := (c : Int) + 1) hev (by omega) hk ⟨by omega, by omega⟩)
            rw [inB_true.2 e1] at hb1
            rw [inB_true.2 e2] at hb2
            have z1b := mul_box e1.1 (by omega) hk.2
            have z2b := mul_box e2.1 (by omega) hk.2
            have SE := Lib.hid (HS.out.alloc_box #[.int .i64 es[j].1, .int .i64 es[j].2] 64)
            have q0 := SE.out.cell (i := 0) rfl (o := 0) rfl
            have q1 := SE.out.cell (i := 0) rfl (o := 1) rfl
            have hes := Lib.hid (colE1_succ k es[j])
            have hel := Lib.hid (colE1_len k es[j])
            have he0 : Hid (colE1 k es[j] 0 = []) := rfl
            have hPd : Hid (∀ c, colP k es[j] c = [-((es[j].1 - 1) * k + c), -((es[j].2 - 1) * k + c)]) := fun _ => rfl
            generalize colE1 k es[j] = E1 at *
            generalize colP k es[j] = P at *
            generalize es[j].1 = a at *
            generalize es[j].2 = b at *
            have hee : (a == b) = false := beq_eq_false_iff_ne.2 e3
            obtain ⟨z1, hz1⟩ : ∃ z, (a - 1) * (k : Int) = z := ⟨_, rfl⟩
            obtain ⟨z2, hz2⟩ : ∃ z, (b - 1) * (k : Int) = z := ⟨_, rfl⟩
            rw [hz1] at z1b hPd
            rw [hz2] at z2b hPd
            generalize colL i k es j = X at *
            subst hA
            replace hev := Lib.hid hev
            replace hLn := Lib.hid hLn
            replace hz1 := Lib.hid hz1
            replace hz2 := Lib.hid hz2
            clear HS hall
            go_wp2_with fail
            refine (hb1.out _).mono ?_
            rintro e w3 ⟨rfl, rfl⟩
            go_wp2_with fail
            refine (hb2.out _).mono ?_
            rintro e w3 ⟨rfl, rfl⟩
            obtain ⟨g, hg⟩ : ∃ g, wr.heap.size = g := ⟨_, rfl⟩
            have S3 : Hid (Sp w (wr.alloc (.cells #[.int .i64 a, .int .i64 b] 64)) (FamP (w.heap.size + 1) V B' c' cs' (X ++ E1 0) [Box g 64 #[.int .i64 a, .int .i64 b], Box w.heap.size 28 #[.int .i64 0, .slice none 0 0]])) := by
              rw [he0.out, List.append_nil, ← hg]; exact Sp.pick [1, 1, 0, 0] SE.out rfl
            rw [hg] at q0 q1
            clear SE hb1 hb2 k0 k1
            go_wp2_with fail
            go_loopw [14] (fun v14 wr => ∃ (m : Nat) (B' : Option Addr) (c' : Nat) (cs' : List Value), m ≤ k ∧ v14 = .int .i64 ((m : Int) + 1) ∧ Hid (Sp w wr (FamP (w.heap.size + 1) V B' c' cs' (X ++ E1 m) [Box g 64 #[.int .i64 a, .int .i64 b], Box w.heap.size 28 #[.int .i64 0, .slice none 0 0]]))) (fun v14 _ => k + 1 - (intOf v14).toNat)
            case atStart => exact ⟨0, B', c', cs', Nat.zero_le _, rfl, S3⟩
            case round =>
              clear S3
              rename World => wo2
              obtain ⟨m, B2, c2, cs2, hm, rfl, HS⟩ := hrel
              by_cases hlt2 : m < k
              · have hle : (m : Int) + 1 ≤ k := by omega
                have hdd := hd.out m hlt2
                have hci := dist_clause hdd (by decide)
                have hPe := hPd.out ((m : Int) + 1)
                have hz1' := hz1.out
                have hz2' := hz2.out
                have q0 := HS.out.cell (i := 2) rfl (o := 0) rfl
                have q1 := HS.out.cell (i := 2) rfl (o := 1) rfl
                have hes' := hes.out m
                rw [hPe] at hdd hci hes'
                have hXm : Hid ((X ++ E1 m).length ≤ 1000) := by
                  unfold Hid
                  rw [List.length_append, hLn.out, hel.out]
                  have := Nat.mul_le_mul (show j ≤ 30 by omega) hk.2
                  omega
                have hXn : Hid (X ++ E1 m ++ [cptL [-(z1 + ((m : Int) + 1)), -(z2 + ((m : Int) + 1))]] = X ++ E1 (m + 1)) := by unfold Hid; rw [hes', List.append_assoc]
                have S4 := HS.out.alloc_box #[.int .i64 (-(z1 + ((m : Int) + 1))), .int .i64 (-(z2 + ((m : Int) + 1)))] 3
                have kA := S4.cell (i := 0) rfl (o := 0) rfl
                have kB := S4.cell (i := 0) rfl (o := 1) rfl
                have hI2 : IntsAt _ (some ⟨wo2.heap.size, 0, none⟩) [-(z1 + ((m : Int) + 1)), -(z2 + ((m : Int) + 1))] := ⟨fun t ht => by
                  have : t = 0 ∨ t = 1 := by simp at ht; omega
                  rcases this with rfl | rfl
                  · exact ⟨_, 0, rfl, kA⟩
                  · exact ⟨_, 0, rfl, kB⟩, fun x hx => (hdd.lit (by decide) x hx).i64⟩
                have hmu := fun W' (h : Below (wo2.alloc (.cells #[.int .i64 (-(z1 + ((m : Int) + 1))), .int .i64 (-(z2 + ((m : Int) + 1)))] 3)).heap.size _ W') => hmc.out _ (some ⟨wo2.heap.size, 0, none⟩) 2 W' (hI2.grow h) (hdd.lit (by decide)) (by simp)
                rw [hci.1, Option.getD_some] at hmu
                have hadd := Lib.hid (famAdd_any (w.heap.size + 1) V B2 c2 cs2 (X ++ E1 m) [Box g 64 #[.int .i64 a, .int .i64 b], Box w.heap.size 28 #[.int .i64 0, .slice none 0 0]] w _ (cptL [-(z1 + ((m : Int) + 1)), -(z2 + ((m : Int) + 1))]) (some ⟨wo2.heap.size, 0, none⟩) 2 2 hmu (fun x hx => (hci.2.1.mem x hx).i64) hXm.out S4.tail)
                rw [hXn.out] at hadd
                clear hdd hci hPe hes' S4 kA kB hI2 hmu HS
                go_wp2_with fail
                refine hadd.out.mono ?_
                rintro e w4 ⟨rfl, B3, c3, cs3, S5⟩
                replace S5 := Lib.hid S5
                clear hadd
                go_wp2_with fail
                go_roundw
                case rel => exact ⟨m + 1, B3, c3, cs3, by omega, by go_num, S5⟩
                case measure => simp [intOf]; omega
              · obtain rfl : m = k := by omega
                have hgt : ¬ (m : Int) + 1 ≤ m := by omega
                have S4 := Lib.hid (Sp.pick (qs := FamP (w.heap.size + 1) V B2 c2 cs2 (X ++ E1 m) [Box w.heap.size 28 #[.int .i64 0, .slice none 0 0]]) [0, 0, 1] HS.out rfl)
                rw [← hLs.out] at S4
                clear HS
                go_wp2_with fail
                go_roundw
                case rel => exact ⟨j + 1, B2, c2, cs2, by omega, by go_num, hall2, S4⟩
                case measure => simp [intOf]; omega
            --} good
        · obtain rfl : j = es.length := by omega
          have hal : es.all (edgeV i) = true := by rw [List.all_eq_true]; intro e h; exact hall.out e (by rw [List.take_length]; exact h)
          have hB2 : colB i k es = goodB V (colL i k es es.length) := by rw [hBk.out, hal]; rfl
          have hV2 : colV i k es = giveV V (colL i k es es.length) := by rw [hVk.out, hB2]; unfold giveV; rfl
          have hY2 : colY i k es = giveL V (colL i k es es.length) := by unfold colY; rw [hB2]; unfold giveL; rfl
          replace hB2 := Lib.hid hB2
          replace hV2 := Lib.hid hV2
          replace hY2 := Lib.hid hY2
          clear hal hall hVk hBk hmc hE
          generalize colL i k es es.length = xss at *
          have p0 := HS.out.cell (i := 1) rfl (o := 0) rfl
          have p1 := HS.out.cell (i := 1) rfl (o := 1) rfl
          obtain ⟨F, hr, -, -⟩ := HS.out.rows_done (i := 0) rfl
          have hcn := Lib.hid (famCnf_any (w.heap.size + 1) V B' c' xss F wr p0 p1 (Ty.row_down hr))
          have HS2 := Lib.hid HS.out
          clear HS hr p0 p1
          go_wp2_with fail
          refine hcn.out.mono ?_
          rintro e w2 ⟨va, A', n', c'', rfl, hb4, h1, h2⟩
          have S5 := HS2.out.grow hb4
          replace h1 := Lib.hid h1
          replace h2 := Lib.hid h2
          have r0 := S5.cell (i := 2) rfl (o := 0) rfl
          have r1 := S5.cell (i := 2) rfl (o := 1) rfl
          have f0 := S5.frozen (i := 2) rfl 0
          have f1 := S5.frozen (i := 2) rfl 1
          have SF := (S5.store (i := 2) rfl 0 (.int .i64 va)).store (i := 2) rfl 1 (.slice A' n' c'')
          have j0 := SF.cell (i := 2) rfl (o := 0) rfl
          have j1 := SF.cell (i := 2) rfl (o := 1) rfl
          have SF2 := Lib.hid (Sp.pick [0] SF rfl)
          clear HS2 S5 SF hcn hb4
          generalize hgo : goodB V xss = g at *
          go_wp2_with fail
          subst hgo
          exact bodyPost_ret (v := .tuple #[.agg #[.int .i64 va, .slice A' n' c''], .bool (goodB V xss)]) (by simp [results, Try.results11, go_sem, j0, j1]) rfl (by rw [hB2.out, hV2.out, hY2.out]; exact CnfR.of SF2.out h1.out h2.out)
      --} two
set_option maxRecDepth 100000 in
set_option maxHeartbeats 4000000 in
theorem coloringNo_any (n k : Int) (m cap : Nat) (A : Option Addr) (w : World) (hq : (inB n 1 12 && inB k 1 12 && decide (m ≤ 30)) = false) :
    Calls Try.prog 11 #[.int .i64 n, .slice A m cap, .int .i64 k] w (CnfR w 0 [] false) := by
  have k1 := Lib.hid (fun W => within_any n 1 12 W)
  have k2 := Lib.hid (fun W => within_any k 1 12 W)
  have SF := (Sp.start w).alloc_box #[.int .i64 0, .slice none 0 0] 28
  have j0 := SF.cell (i := 0) rfl (o := 0) rfl
  have j1 := SF.cell (i := 0) rfl (o := 1) rfl
  have hB := Lib.hid SF.below
  clear SF
  generalize inB n 1 12 = b1 at *
  generalize inB k 1 12 = b2 at *
  cases b1
  · clear hq
    go_enter Try.func11, Try.ntmps11
    go_wp2_with fail
    refine (k1.out _).mono ?_
    rintro e w1 ⟨rfl, rfl⟩
    go_wp2_with fail
    exact bodyPost_ret (v := .tuple #[.agg #[.int .i64 0, .slice none 0 0], .bool false]) (by simp [results, Try.results11, go_sem, j0, j1]) rfl ⟨none, 0, [], rfl, Ty.row_nil _ _ _ _ _ (by decide), hB.out⟩
  cases b2
  · clear hq
    go_enter Try.func11, Try.ntmps11
    go_wp2_with fail
    refine (k1.out _).mono ?_
    rintro e w1 ⟨rfl, rfl⟩
    go_wp2_with fail
    refine (k2.out _).mono ?_
    rintro e w1 ⟨rfl, rfl⟩
    go_wp2_with fail
    exact bodyPost_ret (v := .tuple #[.agg #[.int .i64 0, .slice none 0 0], .bool false]) (by simp [results, Try.results11, go_sem, j0, j1]) rfl ⟨none, 0, [], rfl, Ty.row_nil _ _ _ _ _ (by decide), hB.out⟩
  · have hm : ¬ (m : Int) ≤ 30 := by simp at hq; omega
    have hm2 : decide ((30 : Int) < (m : Int)) = true := decide_eq_true (by omega)
    clear hq
    go_enter Try.func11, Try.ntmps11
    go_wp2_with fail
    refine (k1.out _).mono ?_
    rintro e w1 ⟨rfl, rfl⟩
    go_wp2_with fail
    refine (k2.out _).mono ?_
    rintro e w1 ⟨rfl, rfl⟩
    go_wp2_with fail
    exact bodyPost_ret (v := .tuple #[.agg #[.int .i64 0, .slice none 0 0], .bool false]) (by simp [results, Try.results11, go_sem, j0, j1]) rfl ⟨none, 0, [], rfl, Ty.row_nil _ _ _ _ _ (by decide), hB.out⟩
end Go.Proofs.Ytnjdmakbdhobgaa

/- Contract: the Cnf of a coloring, in the reference. -/
namespace Go.Proofs.Ytnjdmakbdhobgaa
open Go.RowKit

theorem good_cap (v : Int) (X : List (List Int)) : goodB v (capL 60 X) = goodB v X ∧ giveL v (capL 60 X) = giveL v X ∧ giveV v (capL 60 X) = giveV v X := by
  rcases Nat.lt_or_ge 61 X.length with h | h
  · have h1 : goodB v X = false := by unfold goodB; rw [decide_eq_false (by omega : ¬ X.length ≤ 60)]; simp
    have h2 : goodB v (capL 60 X) = false := by unfold goodB; rw [decide_eq_false (by unfold capL; rw [List.length_take]; omega : ¬ (capL 60 X).length ≤ 60)]; simp
    unfold giveL giveV
    rw [h1, h2]; exact ⟨rfl, rfl, rfl⟩
  · rw [capL_all h]; exact ⟨rfl, rfl, rfl⟩
theorem colP_neg {k : Nat} {e : Int × Int} {c y1 y2 : Int} (h1 : -(e.1 - 1) * (k : Int) = y1) (h2 : -(e.2 - 1) * (k : Int) = y2) : colP k e c = [y1 - c, y2 - c] := by
  unfold colP
  rw [← h1, ← h2, Int.neg_mul, Int.neg_mul]
  congr 1
  · omega
  · congr 1; omega

set_option maxRecDepth 100000 in
set_option maxHeartbeats 8000000 in
theorem specColoringYes_any (n k : Nat) (es : List (Int × Int)) (A : Option Addr) (cap : Nat) (w : World) (hn : 1 ≤ n ∧ n ≤ 12) (hk : 1 ≤ k ∧ k ≤ 12) (he : EdgesAt w A es) (hl : es.length ≤ 30) :
    Calls Try.prog 12 #[.int .i64 n, .slice A es.length cap, .int .i64 k] w (CnfR w (colV n k es) (colY n k es) (colB n k es)) := by
  obtain ⟨i0, hi0, hy0, hy1, hy2⟩ := info_parts infoInt
  have h1 := Lib.hid (fun W => l1In_any n 1 12 W)
  have h2 := Lib.hid (fun W => l1In_any k 1 12 W)
  rw [inB_true.2 ⟨by omega, by omega⟩] at h1 h2
  have hnk := mul_le12 hn.2 hk.2
  have hik := fun i (h : i ≤ 12) => mul_le12 (i := i) h hk.2
  have hVk : Hid (∀ es, colV n k es = if colB n k es then (n : Int) * k else 0) := fun _ => rfl
  have hBk : Hid (∀ es, colB n k es = (es.all (edgeV n) && goodB ((n : Int) * k) (colL n k es es.length))) := fun _ => rfl
  obtain ⟨V, hV⟩ : ∃ V, (n : Int) * k = V := ⟨_, rfl⟩
  rw [hV] at hnk hVk hBk
  have S0 := Lib.hid ((Sp.start w).alloc_box #[.int .i64 0, .slice none 0 0] 28)
  replace hik := Lib.hid hik
  have hE := Lib.hid he
  clear he
  by_cases hbig : 12 < V
  · have hno : colB n k es = false := by
      rw [hBk.out]
      have : inB V 0 12 = false := by unfold inB; simp; omega
      unfold goodB; rw [this]; simp
    have hvz : colV n k es = 0 := by rw [hVk.out, hno]; rfl
    have hyz : colY n k es = [] := by unfold colY; rw [hno]; rfl
    rw [hno, hvz, hyz]
    have j0 := S0.out.cell (i := 0) rfl (o := 0) rfl
    have j1 := S0.out.cell (i := 0) rfl (o := 1) rfl
    have hB := Lib.hid S0.out.below
    clear S0 hno hvz hyz hVk hBk hik hE
    go_enter Try.func12, Try.ntmps12
    go_wp2_with fail
    refine (h1.out _).mono ?_
    rintro e w1 ⟨rfl, rfl⟩
    go_wp2_with fail
    refine (h2.out _).mono ?_
    rintro e w1 ⟨rfl, rfl⟩
    go_wp2_with fail
    exact bodyPost_ret (v := .tuple #[.agg #[.int .i64 0, .slice none 0 0], .bool false]) (by simp [results, Try.results12, go_sem, j0, j1]) rfl ⟨none, 0, [], rfl, Ty.row_nil _ _ _ _ _ (by decide), hB.out⟩
  have hn4 := Lib.hid (fun W => l4New_any V W)
  go_enter Try.func12, Try.ntmps12
  go_wp2_with fail
  refine (h1.out _).mono ?_
  rintro e w1 ⟨rfl, rfl⟩
  go_wp2_with fail
  refine (h2.out _).mono ?_
  rintro e w1 ⟨rfl, rfl⟩
  clear h1 h2
  go_wp2_with fail
  go_loopw [8] (fun v8 wr => ∃ j : Nat, j ≤ es.length ∧ v8 = .int .i64 j ∧ Hid (∀ e ∈ es.take j, edgeV n e = true) ∧ Hid (Sp w wr [Box w.heap.size 28 #[.int .i64 0, .slice none 0 0]])) (fun v8 _ => es.length - (intOf v8).toNat)
  case atStart => exact ⟨0, Nat.zero_le _, rfl, (fun e h => by simp at h), S0⟩
  case round =>
    clear S0
    obtain ⟨j, hj, rfl, hall, HS⟩ := hrel
    by_cases hlt : j < es.length
    · --{ check
      have hb1 := Lib.hid (fun W => same_below (l1In_any es[j].1 1 n W))
      have hb2 := Lib.hid (fun W => same_below (l1In_any es[j].2 1 n W))
      obtain ⟨eb, eo, hA, k0, k1⟩ := (hE.out.grow HS.out.below).at_ j hlt
      replace k0 := cell_regrown k0
      replace k1 := cell_regrown k1
      have hij := (hE.out.ok _ (List.getElem_mem hlt))
      cases hev : edgeV n es[j]
      · --{ bad
        have hno : colB n k es = false := by
          rw [hBk.out]
          have : es.all (edgeV n) = false := by rw [List.all_eq_false]; exact ⟨_, List.getElem_mem hlt, by rw [hev]; simp⟩
          rw [this]; rfl
        have hvz : Hid (colV n k es = 0) := by unfold Hid; rw [hVk.out, hno]; rfl
        have hyz : Hid (colY n k es = []) := by unfold Hid colY; rw [hno]; rfl
        replace hno := Lib.hid hno
        unfold edgeV at hev
        generalize es[j].1 = a at *
        generalize es[j].2 = b at *
        generalize inB a 1 n = b1 at *
        generalize inB b 1 n = b2 at *
        subst hA
        clear hall hE hVk hBk
        cases b1
        · go_wp2_with fail
          refine wp_region_quiet_below (by kernel_rfl) (by kernel_rfl) ?_
          repeat (any_goals (first | go_big_quiet_step ((go_at_call 22; first | (with_reducible exact Calls.regrown_of (hb1.out _)) | (with_reducible exact Calls.regrown_of (hb2.out _))))))
          refine wpQuiet_nil ?_
          rintro w3 ⟨p, rfl⟩
          have S3 := HS.out.grow (below_regrown _ p.d p.os)
          have r0 := S3.cell (i := 0) rfl (o := 0) rfl
          have r1 := S3.cell (i := 0) rfl (o := 1) rfl
          have f0 := S3.frozen (i := 0) rfl 0
          have f1 := S3.frozen (i := 0) rfl 1
          have SF := (S3.store (i := 0) rfl 0 (.int .i64 0)).store (i := 0) rfl 1 (.slice none 0 0)
          have j0 := SF.cell (i := 0) rfl (o := 0) rfl
          have j1 := SF.cell (i := 0) rfl (o := 1) rfl
          have hB := Lib.hid SF.below
          clear S3 SF HS
          go_wp2_with fail
          exact bodyPost_ret (v := .tuple #[.agg #[.int .i64 0, .slice none 0 0], .bool false]) (by simp [results, Try.results12, go_sem, j0, j1]) rfl (by rw [hno.out, hvz.out, hyz.out]; exact ⟨none, 0, [], rfl, Ty.row_nil _ _ _ _ _ (by decide), hB.out⟩)
        cases b2
        · go_wp2_with fail
          refine wp_region_quiet_below (by kernel_rfl) (by kernel_rfl) ?_
          repeat (any_goals (first | go_big_quiet_step ((go_at_call 22; first | (with_reducible exact Calls.regrown_of (hb1.out _)) | (with_reducible exact Calls.regrown_of (hb2.out _))))))
          refine wpQuiet_nil ?_
          rintro w3 ⟨p, rfl⟩
          have S3 := HS.out.grow (below_regrown _ p.d p.os)
          have r0 := S3.cell (i := 0) rfl (o := 0) rfl
          have r1 := S3.cell (i := 0) rfl (o := 1) rfl
          have f0 := S3.frozen (i := 0) rfl 0
          have f1 := S3.frozen (i := 0) rfl 1
          have SF := (S3.store (i := 0) rfl 0 (.int .i64 0)).store (i := 0) rfl 1 (.slice none 0 0)
          have j0 := SF.cell (i := 0) rfl (o := 0) rfl
          have j1 := SF.cell (i := 0) rfl (o := 1) rfl
          have hB := Lib.hid SF.below
          clear S3 SF HS
          go_wp2_with fail
          exact bodyPost_ret (v := .tuple #[.agg #[.int .i64 0, .slice none 0 0], .bool false]) (by simp [results, Try.results12, go_sem, j0, j1]) rfl (by rw [hno.out, hvz.out, hyz.out]; exact ⟨none, 0, [], rfl, Ty.row_nil _ _ _ _ _ (by decide), hB.out⟩)
        · obtain rfl : a = b := by simpa using hev
          go_wp2_with fail
          refine wp_region_quiet_below (by kernel_rfl) (by kernel_rfl) ?_
          repeat (any_goals (first | go_big_quiet_step ((go_at_call 22; first | (with_reducible exact Calls.regrown_of (hb1.out _)) | (with_reducible exact Calls.regrown_of (hb2.out _))))))
          refine wpQuiet_nil ?_
          rintro w3 ⟨p, rfl⟩
          have S3 := HS.out.grow (below_regrown _ p.d p.os)
          have r0 := S3.cell (i := 0) rfl (o := 0) rfl
          have r1 := S3.cell (i := 0) rfl (o := 1) rfl
          have f0 := S3.frozen (i := 0) rfl 0
          have f1 := S3.frozen (i := 0) rfl 1
          have SF := (S3.store (i := 0) rfl 0 (.int .i64 0)).store (i := 0) rfl 1 (.slice none 0 0)
          have j0 := SF.cell (i := 0) rfl (o := 0) rfl
          have j1 := SF.cell (i := 0) rfl (o := 1) rfl
          have hB := Lib.hid SF.below
          clear S3 SF HS
          go_wp2_with fail
          exact bodyPost_ret (v := .tuple #[.agg #[.int .i64 0, .slice none 0 0], .bool false]) (by simp [results, Try.results12, go_sem, j0, j1]) rfl (by rw [hno.out, hvz.out, hyz.out]; exact ⟨none, 0, [], rfl, Ty.row_nil _ _ _ _ _ (by decide), hB.out⟩)
        --} bad
      · --{ good
        have hall2 : Hid (∀ e ∈ es.take (j + 1), edgeV n e = true) := fun e h => by
          rw [List.take_succ_eq_append_getElem hlt, List.mem_append, List.mem_singleton] at h
          rcases h with h | rfl
          · exact hall.out e h
          · exact hev
        obtain ⟨e1, e2, e3⟩ := edgeV_iff.1 hev
        rw [inB_true.2 e1] at hb1
        rw [inB_true.2 e2] at hb2
        generalize es[j].1 = a at *
        generalize es[j].2 = b at *
        have hee : (a == b) = false := beq_eq_false_iff_ne.2 e3
        subst hA
        clear hev hall
        go_wp2_with fail
        refine wp_region_quiet_below (by kernel_rfl) (by kernel_rfl) ?_
        repeat (any_goals (first | go_big_quiet_step ((go_at_call 22; first | (with_reducible exact Calls.regrown_of (hb1.out _)) | (with_reducible exact Calls.regrown_of (hb2.out _))))))
        refine wpQuiet_nil ?_
        rintro w3 ⟨p, rfl⟩
        have S3 := HS.out.grow (below_regrown _ p.d p.os)
        replace S3 := Lib.hid S3
        clear HS k0 k1
        go_wp2_with fail
        go_roundw
        case rel => exact ⟨j + 1, by omega, by go_num, hall2, S3⟩
        case measure => simp [intOf]; omega
        --} good
        --} check
    · obtain rfl : j = es.length := by omega
      --{ build
      have hal : Hid (es.all (edgeV n) = true) := by unfold Hid; rw [List.all_eq_true]; intro e h; exact hall.out e (by rw [List.take_length]; exact h)
      have hV' := Lib.hid hV
      rename World => wa
      clear hall hlt hj
      go_wp2_with fail
      refine (hn4.out _).mono ?_
      rintro e w2 ⟨B0, cc0, rfl, T⟩
      have S1 := (HS.out.seq T).alloc_box #[.int .i64 V, .slice B0 0 cc0] 28
      obtain ⟨g, hg⟩ : ∃ g, w2.heap.size = g := ⟨_, rfl⟩
      have S2 : Hid (Sp w (w2.alloc (.cells #[.int .i64 V, .slice B0 0 cc0] 28)) (Rows Ty.int 33 (.slice B0 (capL 60 (colN k 0)).length cc0) [] (capL 60 (colN k 0)) :: [Box g 28 #[.int .i64 V, .slice B0 (capL 60 (colN k 0)).length cc0], Box w.heap.size 28 #[.int .i64 0, .slice none 0 0]])) := by
        rw [← hg]; exact Sp.pick [1, 0, 0] S1 rfl
      clear S1 T HS hn4
      go_wp2_with fail
      clear hg
      replace hV := Lib.hid hV
      go_loopw [10] (fun v10 wr => ∃ (i : Nat) (B' : Option Addr) (c' : Nat) (cs' : List Value), i ≤ n ∧ v10 = .int .i64 i ∧ Hid (Sp w wr (Rows Ty.int 33 (.slice B' (capL 60 (colN k i)).length c') cs' (capL 60 (colN k i)) :: [Box g 28 #[.int .i64 V, .slice B' (capL 60 (colN k i)).length c'], Box w.heap.size 28 #[.int .i64 0, .slice none 0 0]]))) (fun v10 _ => n - (intOf v10).toNat)
      case atStart => exact ⟨0, B0, cc0, [], Nat.zero_le _, rfl, S2⟩
      case round =>
        clear S2
        obtain ⟨i, B', c', cs', hi, rfl, HS⟩ := hrel
        by_cases hlt : i < n
        · --{ one
          obtain ⟨z, hz⟩ : ∃ z, (i : Int) * k = z := ⟨_, rfl⟩
          have hzb := hik.out i (by omega)
          rw [hz] at hzb
          have hcg := Lib.hid (colC_good (k := k) (i := i) hk.2 (by omega))
          have hcC : Hid (∀ m, (List.range (m + 1)).map (fun (c : Nat) => (i : Int) * k + ((c : Int) + 1)) = (List.range m).map (fun (c : Nat) => (i : Int) * k + ((c : Int) + 1)) ++ [z + ((m : Int) + 1)]) := fun m => by rw [List.range_succ, List.map_append, ← hz]; rfl
          have hcE : Hid ((List.range k).map (fun (c : Nat) => (i : Int) * k + ((c : Int) + 1)) = colC k i) := rfl
          have hXs : Hid (capL 60 (capL 60 (colN k i) ++ [colC k i]) = capL 60 (colN k (i + 1))) := by unfold Hid; rw [capL_step, ← colN_succ]
          have hXl : Hid ((capL 60 (colN k i)).length ≤ 61) := capL_len _
          have hc0 : Hid ((List.range 0).map (fun (c : Nat) => (i : Int) * k + ((c : Int) + 1)) = []) := rfl
          have hcl : Hid (∀ m, ((List.range m).map (fun (c : Nat) => (i : Int) * k + ((c : Int) + 1))).length = m) := fun m => by simp
          generalize (fun (c : Nat) => (i : Int) * k + ((c : Int) + 1)) = f at *
          generalize colC k i = CC at *
          generalize capL 60 (colN k i) = X at *
          generalize hPS : Rows Ty.int 33 (.slice B' X.length c') cs' X :: [Box g 28 #[.int .i64 V, .slice B' X.length c'], Box w.heap.size 28 #[.int .i64 0, .slice none 0 0]] = PS at *
          replace hPS := Lib.hid hPS
          have S2 := Lib.hid (HS.out.own_made 3 1)
          clear HS
          rename World => wo
          go_wp2_with fail
          go_loopw [11, 12] (fun v10 v11 wr => ∃ (c : Nat) (D : Option Addr) (dc : Nat) (ys : List Int), c ≤ k ∧ v11 = .int .i64 ((c : Int) + 1) ∧ v10 = .slice D ys.length dc ∧ Hid (ys = (List.range c).map f) ∧ Hid (Sp w wr (Own 3 1 (.slice D ys.length dc) ys.length (ys.map (.int .i64)) :: PS))) (fun _ v11 _ => k + 1 - (intOf v11).toNat)
          case atStart => exact ⟨0, _, 0, [], Nat.zero_le _, rfl, rfl, hc0.out.symm, S2⟩
          case round =>
            clear S2
            obtain ⟨c, D, dc, ys, hc, rfl, rfl, hys, HS⟩ := hrel
            by_cases hlt2 : c < k
            · have hnx : Hid (ys ++ [z + ((c : Int) + 1)] = (List.range (c + 1)).map f) := by unfold Hid; rw [hys.out, hcC.out]
              have hyl : ys.length ≤ 12 := by rw [hys.out, hcl.out]; omega
              have hle : (c : Int) + 1 ≤ k := by omega
              have S3 := HS.out.alloc_box #[.int .i64 (z + ((c : Int) + 1))] 3
              have kB := S3.cell (i := 0) rfl (o := 0) rfl
              replace S3 := Lib.hid S3
              clear HS
              go_wp2_with (at_builtin; refine wpList_append_src rfl _ _ rfl Try.underlying33 hi0 hy0 hy1 hy2 rfl (by decide) _ _ _ rfl (S3.out.own (i := 1) rfl) _ 1 1 [.int .i64 (z + ((c : Int) + 1))] rfl (Src.one kB) (by simp [Value.oneCell']) ?c3 ?c4 ?_)
              case c3 => unfold maxLen; omega
              case c4 => omega
              intro vY wY hownY hgY hatY
              have S4 := (S3.out.own_push (i := 1) rfl (bb _) hownY hgY (by simpa using hatY)).tail
              obtain ⟨aY, cY, rfl⟩ := own_slice hownY
              have S5 := Lib.hid (ownI_snoc (d := ys) (x := (z + ((c : Int) + 1))) S4)
              clear S3 S4 kB hownY hgY hatY
              have hlen : ys.length + 1 = (ys ++ [(z + ((c : Int) + 1))]).length := by simp
              rw [hlen]
              replace hlen := Lib.hid hlen
              go_wp2_with fail
              go_roundw
              case rel => exact ⟨c + 1, aY, cY, _, by omega, by go_num, rfl, hnx, S5⟩
              case measure => simp [intOf]; omega
            · obtain rfl : c = k := by omega
              rw [hcE.out] at hys
              have hys' := hys.out
              subst hys'
              have hPS' := hPS.out
              subst hPS'
              have hgt : ¬ (c : Int) + 1 ≤ c := by omega
              have hLi := HS.out.ints (i := 0) rfl (fun x hx => (hcg.out.mem x hx).i64)
              have g0 := HS.out.cell (i := 2) rfl (o := 0) rfl
              have g1 := HS.out.cell (i := 2) rfl (o := 1) rfl
              have hadd := Lib.hid (l4Add_any V B' c' cs' X [Box g 28 #[.int .i64 V, .slice B' X.length c'], Box w.heap.size 28 #[.int .i64 0, .slice none 0 0]] w wr ys D dc hLi hcg.out (by rw [← hcE.out, hcl.out]; omega) hXl.out HS.out.tail)
              rw [hXs.out] at hadd
              clear hLi HS hPS hXs
              go_wp2_with fail
              refine hadd.out.mono ?_
              rintro e w3 ⟨B3, c3, cs3, rfl, S4⟩
              have f0 := S4.frozen (i := 1) rfl 0
              have f1 := S4.frozen (i := 1) rfl 1
              have m0 := S4.cell (i := 1) rfl (o := 0) rfl
              have m1 := S4.cell (i := 1) rfl (o := 1) rfl
              have S5 := Lib.hid ((S4.store (i := 1) rfl 0 (.int .i64 V)).store (i := 1) rfl 1 (.slice B3 (capL 60 (colN c (i + 1))).length c3))
              clear hadd S4 g0 g1
              go_wp2_with fail
              go_roundw
              case rel => exact ⟨i + 1, B3, c3, cs3, by omega, by go_num, S5⟩
              case measure => simp [intOf]; omega
          --} one
        · obtain rfl : i = n := by omega
          --{ two
          have S2 : Hid (Sp w wr (Rows Ty.int 33 (.slice B' (capL 60 (colL i k es 0)).length c') cs' (capL 60 (colL i k es 0)) :: [Box g 28 #[.int .i64 V, .slice B' (capL 60 (colL i k es 0)).length c'], Box w.heap.size 28 #[.int .i64 0, .slice none 0 0]])) := by rw [colL_zero]; exact HS
          clear HS hik
          rename World => wo
          go_wp2_with fail
          go_loopw [13] (fun v13 wr => ∃ (j : Nat) (B' : Option Addr) (c' : Nat) (cs' : List Value), j ≤ es.length ∧ v13 = .int .i64 j ∧ Hid (Sp w wr (Rows Ty.int 33 (.slice B' (capL 60 (colL i k es j)).length c') cs' (capL 60 (colL i k es j)) :: [Box g 28 #[.int .i64 V, .slice B' (capL 60 (colL i k es j)).length c'], Box w.heap.size 28 #[.int .i64 0, .slice none 0 0]]))) (fun v13 _ => es.length - (intOf v13).toNat)
          case atStart => exact ⟨0, B', c', cs', Nat.zero_le _, rfl, S2⟩
          case round =>
            clear S2
            obtain ⟨j, B', c', cs', hj, rfl, HS⟩ := hrel
            by_cases hlt : j < es.length
            · --{ edge
              have hev := List.all_eq_true.1 hal.out _ (List.getElem_mem hlt)
              obtain ⟨e1, e2, e3⟩ := edgeV_iff.1 hev
              obtain ⟨eb, eo, hA, -, -⟩ := (hE.out.grow HS.out.below).at_ j hlt
              subst hA
              have hcell : Hid (∀ W, Below w.heap.size w W → W.cell? ⟨eb, eo + j * 2, none⟩ = some (.int .i64 es[j].1) ∧ W.cell? ⟨eb, eo + j * 2 + 1, none⟩ = some (.int .i64 es[j].2)) := fun W h => by
                obtain ⟨b, o, e, h1, h2⟩ := (hE.out.grow h).at_ j hlt
                cases e; exact ⟨h1, h2⟩
              have hij := (hE.out.ok _ (List.getElem_mem hlt))
              have hd := Lib.hid (fun (c : Nat) (h : c < k) => colP_dist (c := (c : Int) + 1) hev (by omega) hk ⟨by omega, by omega⟩)
              have z1b := mul_box e1.1 (by omega) hk.2
              have z2b := mul_box e2.1 (by omega) hk.2
              have hes := Lib.hid (colE1_succ k es[j])
              have he0 : Hid (colE1 k es[j] 0 = []) := rfl
              obtain ⟨y1, hy1⟩ : ∃ z, -(es[j].1 - 1) * (k : Int) = z := ⟨_, rfl⟩
              obtain ⟨y2, hy2⟩ : ∃ z, -(es[j].2 - 1) * (k : Int) = z := ⟨_, rfl⟩
              have hPd := Lib.hid (fun c => colP_neg (c := c) hy1 hy2)
              have y1b : -132 ≤ y1 ∧ y1 ≤ 0 := by rw [Int.neg_mul] at hy1; omega
              have y2b : -132 ≤ y2 ∧ y2 ≤ 0 := by rw [Int.neg_mul] at hy2; omega
              have hLs := Lib.hid (colL_succ i k es j hlt)
              have S3 : Hid (Sp w wr (Rows Ty.int 33 (.slice B' (capL 60 (colL i k es j ++ colE1 k es[j] 0)).length c') cs' (capL 60 (colL i k es j ++ colE1 k es[j] 0)) :: [Box g 28 #[.int .i64 V, .slice B' (capL 60 (colL i k es j ++ colE1 k es[j] 0)).length c'], Box w.heap.size 28 #[.int .i64 0, .slice none 0 0]])) := by rw [he0.out, List.append_nil]; exact HS
              generalize colE1 k es[j] = E1 at *
              generalize colP k es[j] = P at *
              generalize colL i k es j = X at *
              generalize es[j].1 = a at *
              generalize es[j].2 = b at *
              replace hy1 := Lib.hid hy1
              replace hy2 := Lib.hid hy2
              clear HS hev z1b z2b
              rename World => wo1
              go_wp2_with fail
              go_loopw [14] (fun v14 wr => ∃ (m : Nat) (B' : Option Addr) (c' : Nat) (cs' : List Value), m ≤ k ∧ v14 = .int .i64 ((m : Int) + 1) ∧ Hid (Sp w wr (Rows Ty.int 33 (.slice B' (capL 60 (X ++ E1 m)).length c') cs' (capL 60 (X ++ E1 m)) :: [Box g 28 #[.int .i64 V, .slice B' (capL 60 (X ++ E1 m)).length c'], Box w.heap.size 28 #[.int .i64 0, .slice none 0 0]]))) (fun v14 _ => k + 1 - (intOf v14).toNat)
              case atStart => exact ⟨0, B', c', cs', Nat.zero_le _, rfl, S3⟩
              case round =>
                clear S3
                obtain ⟨m, B2, c2, cs2, hm, rfl, HS⟩ := hrel
                by_cases hlt2 : m < k
                · have hle : (m : Int) + 1 ≤ k := by omega
                  have hdd := hd.out m hlt2
                  have hci := dist_clause hdd (by decide)
                  have hPe := hPd.out ((m : Int) + 1)
                  have hes' := hes.out m
                  have hfe := foldJ_eq hdd (by decide)
                  rw [hPe] at hdd hci hes' hfe
                  have hXn : Hid (capL 60 (capL 60 (X ++ E1 m) ++ [cptL [y1 - ((m : Int) + 1), y2 - ((m : Int) + 1)]]) = capL 60 (X ++ E1 (m + 1))) := by unfold Hid; rw [capL_step, hes', List.append_assoc]
                  have hXl : Hid ((capL 60 (X ++ E1 m)).length ≤ 61) := capL_len _
                  have hy1' := hy1.out
                  have hy2' := hy2.out
                  have k01 := hcell.out wr HS.out.below
                  have g0 := HS.out.cell (i := 1) rfl (o := 0) rfl
                  have g1 := HS.out.cell (i := 1) rfl (o := 1) rfl
                  generalize capL 60 (X ++ E1 m) = Xm at *
                  go_wp2_with fail
                  refine wp_region_tail_lit (S := (fun w' => (w'.cell? ⟨eb, eo + j * 2, none⟩ = some (.int .i64 a) ∧ w'.cell? ⟨eb, eo + j * 2 + 1, none⟩ = some (.int .i64 b)) ∧ w'.cell? ⟨g, 0, none⟩ = some (.int .i64 V) ∧ w'.cell? ⟨g, 1, none⟩ = some (.slice B2 Xm.length c2))) 25 [false, false, false, false, false, false, false, false, false, false, false, false, false, false, false, false, false, false, false, false, false, false, false, false, false, false] (by kernel_rfl) (by kernel_rfl) (by kernel_rfl) ?_ ?_
                  · exact ⟨k01, g0, g1⟩
                  intro hSc
                  (refine walkT_take (i := 0) (v := ?_) rfl (by kernel_rfl) (by decide) (by kernel_rfl) (by kernel_rfl) (fun _ _ _ h => h) (Or.inl ⟨by rfl, ?_⟩) (by assumption) ?_; rotate_left; (focus (intro w hSw; (try dsimp only at hSw); go_simp; (try with_reducible rfl); done)); (try simp only [put_rules]))
                  (refine walkT_take (i := 1) (v := ?_) rfl (by kernel_rfl) (by decide) (by kernel_rfl) (by kernel_rfl) (fun _ _ _ h => h) (Or.inl ⟨by rfl, ?_⟩) (by assumption) ?_; rotate_left; (focus (intro w hSw; (try dsimp only at hSw); go_simp; (try with_reducible rfl); done)); (try simp only [put_rules]))
                  (refine walkT_take (i := 2) (v := ?_) rfl (by kernel_rfl) (by decide) (by kernel_rfl) (by kernel_rfl) (fun _ _ _ h => h) (Or.inl ⟨by rfl, ?_⟩) (by assumption) ?_; rotate_left; (focus (intro w hSw; (try dsimp only at hSw); go_simp; (try with_reducible rfl); done)); (try simp only [put_rules]))
                  (refine walkT_take (i := 3) (v := ?_) rfl (by kernel_rfl) (by decide) (by kernel_rfl) (by kernel_rfl) (fun _ _ _ h => h) (Or.inl ⟨by rfl, ?_⟩) (by assumption) ?_; rotate_left; (focus (intro w hSw; (try dsimp only at hSw); go_simp; (try with_reducible rfl); done)); (try simp only [put_rules]))
                  (refine walkT_take (i := 4) (v := ?_) rfl (by kernel_rfl) (by decide) (by kernel_rfl) (by kernel_rfl) (fun _ _ _ h => h) (Or.inl ⟨by rfl, ?_⟩) (by assumption) ?_; rotate_left; (focus (intro w hSw; (try dsimp only at hSw); go_simp; (try with_reducible rfl); done)); (try simp only [put_rules]))
                  (refine walkT_take (i := 5) (v := ?_) rfl (by kernel_rfl) (by decide) (by kernel_rfl) (by kernel_rfl) (fun _ _ _ h => h) (Or.inl ⟨by rfl, ?_⟩) (by assumption) ?_; rotate_left; (focus (intro w hSw; (try dsimp only at hSw); go_simp; (try with_reducible rfl); done)); (try simp only [put_rules]))
                  (refine walkT_take (i := 6) (v := ?_) rfl (by kernel_rfl) (by decide) (by kernel_rfl) (by kernel_rfl) (fun _ _ _ h => h) (Or.inl ⟨by rfl, ?_⟩) (by assumption) ?_; rotate_left; (focus (intro w hSw; (try dsimp only at hSw); go_simp; (try with_reducible rfl); done)); (try simp only [put_rules]))
                  (refine walkT_take (i := 7) (v := ?_) rfl (by kernel_rfl) (by decide) (by kernel_rfl) (by kernel_rfl) (fun _ _ _ h => h) (Or.inl ⟨by rfl, ?_⟩) (by assumption) ?_; rotate_left; (focus (intro w hSw; (try dsimp only at hSw); go_simp; (try with_reducible rfl); done)); (try simp only [put_rules]))
                  (refine walkT_take (i := 8) (v := ?_) rfl (by kernel_rfl) (by decide) (by kernel_rfl) (by kernel_rfl) (fun _ _ _ h => h) (Or.inl ⟨by rfl, ?_⟩) (by assumption) ?_; rotate_left; (focus (intro w hSw; (try dsimp only at hSw); go_simp; (try with_reducible rfl); done)); (try simp only [put_rules]))
                  (refine walkT_take (i := 9) (v := ?_) rfl (by kernel_rfl) (by decide) (by kernel_rfl) (by kernel_rfl) (fun _ _ _ h => h) (Or.inl ⟨by rfl, ?_⟩) (by assumption) ?_; rotate_left; (focus (intro w hSw; (try dsimp only at hSw); go_simp; (try with_reducible rfl); done)); (try simp only [put_rules]))
                  (refine walkT_take (i := 10) (v := ?_) rfl (by kernel_rfl) (by decide) (by kernel_rfl) (by kernel_rfl) (fun _ _ _ h => h) (Or.inl ⟨by rfl, ?_⟩) (by assumption) ?_; rotate_left; (focus (intro w hSw; (try dsimp only at hSw); go_simp; (try with_reducible rfl); done)); (try simp only [put_rules]))
                  (refine walkT_take (i := 11) (v := ?_) rfl (by kernel_rfl) (by decide) (by kernel_rfl) (by kernel_rfl) (fun _ _ _ h => h) (Or.inl ⟨by rfl, ?_⟩) (by assumption) ?_; rotate_left; (focus (intro w hSw; (try dsimp only at hSw); go_simp; (try with_reducible rfl); done)); (try simp only [put_rules]))
                  (refine walkT_take (i := 12) (v := ?_) rfl (by kernel_rfl) (by decide) (by kernel_rfl) (by kernel_rfl) (fun _ _ _ h => h) (Or.inl ⟨by rfl, ?_⟩) (by assumption) ?_; rotate_left; (focus (intro w hSw; (try dsimp only at hSw); go_simp; (try with_reducible rfl); done)); (try simp only [put_rules]))
                  (refine walkT_take (i := 13) (v := ?_) rfl (by kernel_rfl) (by decide) (by kernel_rfl) (by kernel_rfl) (fun _ _ _ h => h) (Or.inl ⟨by rfl, ?_⟩) (by assumption) ?_; rotate_left; (focus (intro w hSw; (try dsimp only at hSw); go_simp; (try with_reducible rfl); done)); (try simp only [put_rules]))
                  (refine walkT_take (i := 14) (v := ?_) rfl (by kernel_rfl) (by decide) (by kernel_rfl) (by kernel_rfl) (fun _ _ _ h => h) (Or.inl ⟨by rfl, ?_⟩) (by assumption) ?_; rotate_left; (focus (intro w hSw; (try dsimp only at hSw); go_simp; (try with_reducible rfl); done)); (try simp only [put_rules]))
                  (refine walkT_take (i := 15) (v := ?_) rfl (by kernel_rfl) (by decide) (by kernel_rfl) (by kernel_rfl) (fun _ _ _ h => h) (Or.inl ⟨by rfl, ?_⟩) (by assumption) ?_; rotate_left; (focus (intro w hSw; (try dsimp only at hSw); go_simp; (try with_reducible rfl); done)); (try simp only [put_rules]))
                  (refine walkT_take (i := 16) (v := ?_) rfl (by kernel_rfl) (by decide) (by kernel_rfl) (by kernel_rfl) (fun _ _ _ h => h) (Or.inl ⟨by rfl, ?_⟩) (by assumption) ?_; rotate_left; (focus (intro w hSw; (try dsimp only at hSw); go_simp; (try with_reducible rfl); done)); (try simp only [put_rules]))
                  (refine walkT_take (i := 17) (v := ?_) rfl (by kernel_rfl) (by decide) (by kernel_rfl) (by kernel_rfl) (fun _ _ _ h => h) (Or.inl ⟨by rfl, ?_⟩) (by assumption) ?_; rotate_left; (focus (intro w hSw; (try dsimp only at hSw); go_simp; (try with_reducible rfl); done)); (try simp only [put_rules]))
                  (refine walkT_take (i := 18) (v := ?_) rfl (by kernel_rfl) (by decide) (by kernel_rfl) (by kernel_rfl) (fun _ _ _ h => h) (Or.inl ⟨by rfl, ?_⟩) (by assumption) ?_; rotate_left; (focus (intro w hSw; (try dsimp only at hSw); go_simp; (try with_reducible rfl); done)); (try simp only [put_rules]))
                  (refine walkT_take (i := 19) (v := ?_) rfl (by kernel_rfl) (by decide) (by kernel_rfl) (by kernel_rfl) (fun _ _ _ h => h) (Or.inl ⟨by rfl, ?_⟩) (by assumption) ?_; rotate_left; (focus (intro w hSw; (try dsimp only at hSw); go_simp; (try with_reducible rfl); done)); (try simp only [put_rules]))
                  (refine walkT_take (i := 20) (v := ?_) rfl (by kernel_rfl) (by decide) (by kernel_rfl) (by kernel_rfl) (fun _ _ _ h => h) (Or.inl ⟨by rfl, ?_⟩) (by assumption) ?_; rotate_left; (focus (intro w hSw; (try dsimp only at hSw); go_simp; (try with_reducible rfl); done)); (try simp only [put_rules]))
                  (refine walkT_take (i := 21) (v := ?_) rfl (by kernel_rfl) (by decide) (by kernel_rfl) (by kernel_rfl) (fun _ _ _ h => h) (Or.inl ⟨by rfl, ?_⟩) (by assumption) ?_; rotate_left; (focus (intro w hSw; (try dsimp only at hSw); go_simp; (try with_reducible rfl); done)); (try simp only [put_rules]))
                  (refine walkT_take (i := 22) (v := ?_) rfl (by kernel_rfl) (by decide) (by kernel_rfl) (by kernel_rfl) (fun _ _ _ h => h) (Or.inl ⟨by rfl, ?_⟩) (by assumption) ?_; rotate_left; (focus (intro w hSw; (try dsimp only at hSw); go_simp; (try with_reducible rfl); done)); (try simp only [put_rules]))
                  (refine walkT_ready (rs := [23]) (by kernel_rfl) (by simp) (by decide) ?_; refine AllT.cons rfl (fun K hK => ?_) AllT.nil)
                  go_simp
                  have x1 : IntKind.i64.wrap (IntKind.i64.wrap (IntKind.i64.wrap (-IntKind.i64.wrap (a - 1)) * (k : Int)) - ((m : Int) + 1)) = y1 - ((m : Int) + 1) := by
                    rw [IntWalk.i64_in (a - 1) (by omega), IntWalk.i64_in (-(a - 1)) (by omega), hy1', IntWalk.i64_in y1 (by omega), IntWalk.i64_in _ (by omega)]
                  have x2 : IntKind.i64.wrap (IntKind.i64.wrap (IntKind.i64.wrap (-IntKind.i64.wrap (b - 1)) * (k : Int)) - ((m : Int) + 1)) = y2 - ((m : Int) + 1) := by
                    rw [IntWalk.i64_in (b - 1) (by omega), IntWalk.i64_in (-(b - 1)) (by omega), hy2', IntWalk.i64_in y2 (by omega), IntWalk.i64_in _ (by omega)]
                  rw [x1, x2]
                  have S4 := (HS.out.alloc_box #[.int .i64 (y1 - ((m : Int) + 1)), .int .i64 (y2 - ((m : Int) + 1))] 3).drew
                  refine hK.out _ _ ⟨hcell.out _ S4.below, S4.cell (i := 2) rfl (o := 0) rfl, S4.cell (i := 2) rfl (o := 1) rfl⟩ (fun hS2 => ?_)
                  clear hK hSc
                  (try simp only [put_rules])
                  have kA := S4.cell (i := 0) rfl (o := 0) rfl
                  have kB := S4.cell (i := 0) rfl (o := 1) rfl
                  have hI2 : IntsAt _ (some ⟨wr.heap.size, 0, none⟩) [y1 - ((m : Int) + 1), y2 - ((m : Int) + 1)] := ⟨fun t ht => by
                    have : t = 0 ∨ t = 1 := by simp at ht; omega
                    rcases this with rfl | rfl
                    · exact ⟨_, 0, rfl, kA⟩
                    · exact ⟨_, 0, rfl, kB⟩, fun x hx => (hdd.lit (by decide) x hx).i64⟩
                  have hof := fun W' (h : Below (wr.alloc (.cells #[.int .i64 (y1 - ((m : Int) + 1)), .int .i64 (y2 - ((m : Int) + 1))] 3)).drew.heap.size _ W') => l2OfD_any _ (some ⟨wr.heap.size, 0, none⟩) 2 W' (hI2.grow h) hdd (by simp)
                  rw [hfe] at hof
                  have hadd := Lib.hid (l4AddD_any V B2 c2 cs2 Xm [Box g 28 #[.int .i64 V, .slice B2 Xm.length c2], Box w.heap.size 28 #[.int .i64 0, .slice none 0 0]] w _ _ (some ⟨wr.heap.size, 0, none⟩) 2 (cptL [y1 - ((m : Int) + 1), y2 - ((m : Int) + 1)]) hof (fun x hx => (hci.2.1.mem x hx).i64) hXl.out S4.tail)
                  rw [hXn.out] at hadd
                  dsimp only [List.length_cons, List.length_nil, Nat.zero_add, Nat.reduceAdd] at hadd
                  clear hdd hci hPe hes' hfe kA kB hI2 hof S4 HS
                  (refine walkT_ready (rs := [24]) (by kernel_rfl) (by simp) (by decide) ?_; refine AllT.cons rfl (fun K hK => ?_) AllT.nil)
                  go_simp
                  go_at_call 32
                  refine hadd.out.mono ?_
                  rintro e w3 ⟨B3, c3, cs3, rfl, S5⟩
                  go_wp2_with fail
                  refine hK.out _ _ ⟨hcell.out _ S5.below, S5.cell (i := 1) rfl (o := 0) rfl, S5.cell (i := 1) rfl (o := 1) rfl⟩ (fun hS3 => ?_)
                  clear hK hS2 hadd
                  (try simp only [put_rules])
                  have f0 := S5.frozen (i := 1) rfl 0
                  have f1 := S5.frozen (i := 1) rfl 1
                  have m0 := S5.cell (i := 1) rfl (o := 0) rfl
                  have m1 := S5.cell (i := 1) rfl (o := 1) rfl
                  have S6 := Lib.hid ((S5.store (i := 1) rfl 0 (.int .i64 V)).store (i := 1) rfl 1 (.slice B3 (capL 60 (X ++ E1 (m + 1))).length c3))
                  clear S5 hS3 k01 g0 g1 x1 x2
                  (refine walkT_done (by kernel_rfl) ?_)
                  simp only [List.drop_succ_cons, List.drop_zero]
                  go_wp2_with fail
                  go_roundw
                  case rel => exact ⟨m + 1, B3, c3, cs3, by omega, by go_num, S6⟩
                  case measure => simp [intOf]; omega
                · obtain rfl : m = k := by omega
                  have hgt : ¬ (m : Int) + 1 ≤ m := by omega
                  rw [← hLs.out] at HS
                  go_wp2_with fail
                  go_roundw
                  case rel => exact ⟨j + 1, B2, c2, cs2, by omega, by go_num, HS⟩
                  case measure => simp [intOf]; omega
              --} edge
            · obtain rfl : j = es.length := by omega
              have hB2 : Hid (colB i k es = goodB V (capL 60 (colL i k es es.length))) := by unfold Hid; rw [hBk.out, hal.out, (good_cap _ _).1]; rfl
              have hV2 : Hid (colV i k es = giveV V (capL 60 (colL i k es es.length))) := by unfold Hid; rw [hVk.out, hB2.out]; unfold giveV; rfl
              have hY2 : Hid (colY i k es = giveL V (capL 60 (colL i k es es.length))) := by unfold Hid colY; rw [hB2.out, (good_cap _ _).1, (good_cap _ _).2.1]; unfold giveL; rfl
              clear hal hVk hBk hE
              generalize capL 60 (colL i k es es.length) = xss at *
              have p0 := HS.out.cell (i := 1) rfl (o := 0) rfl
              have p1 := HS.out.cell (i := 1) rfl (o := 1) rfl
              obtain ⟨F, hr, -, -⟩ := HS.out.rows_done (i := 0) rfl
              have hcn := Lib.hid (l4Give_any V B' c' xss F wr (Ty.row_down hr))
              have HS2 := Lib.hid HS.out
              clear HS hr
              go_wp2_with fail
              refine hcn.out.mono ?_
              rintro e w2 ⟨va, A', n', c'', rfl, hb4, h1, h2⟩
              have S5 := HS2.out.grow hb4
              replace h1 := Lib.hid h1
              replace h2 := Lib.hid h2
              have r0 := S5.cell (i := 2) rfl (o := 0) rfl
              have r1 := S5.cell (i := 2) rfl (o := 1) rfl
              have f0 := S5.frozen (i := 2) rfl 0
              have f1 := S5.frozen (i := 2) rfl 1
              have SF := (S5.store (i := 2) rfl 0 (.int .i64 va)).store (i := 2) rfl 1 (.slice A' n' c'')
              have j0 := SF.cell (i := 2) rfl (o := 0) rfl
              have j1 := SF.cell (i := 2) rfl (o := 1) rfl
              have SF2 := Lib.hid (Sp.pick [0] SF rfl)
              clear HS2 S5 SF hcn hb4 p0 p1
              generalize hgo : goodB V xss = gb at *
              go_wp2_with fail
              subst hgo
              exact bodyPost_ret (v := .tuple #[.agg #[.int .i64 va, .slice A' n' c''], .bool (goodB V xss)]) (by simp [results, Try.results12, go_sem, j0, j1]) rfl (by rw [hB2.out, hV2.out, hY2.out]; exact CnfR.of SF2.out h1.out h2.out)
          --} two
      --} build

set_option maxRecDepth 100000 in
set_option maxHeartbeats 4000000 in
theorem specColoringNo_any (n k : Int) (m cap : Nat) (A : Option Addr) (w : World) (hq : (inB n 1 12 && inB k 1 12 && decide (m ≤ 30)) = false) :
    Calls Try.prog 12 #[.int .i64 n, .slice A m cap, .int .i64 k] w (CnfR w 0 [] false) := by
  have k1 := Lib.hid (fun W => l1In_any n 1 12 W)
  have k2 := Lib.hid (fun W => l1In_any k 1 12 W)
  have SF := (Sp.start w).alloc_box #[.int .i64 0, .slice none 0 0] 28
  have j0 := SF.cell (i := 0) rfl (o := 0) rfl
  have j1 := SF.cell (i := 0) rfl (o := 1) rfl
  have hB := Lib.hid SF.below
  clear SF
  generalize inB n 1 12 = b1 at *
  generalize inB k 1 12 = b2 at *
  cases b1
  · clear hq
    go_enter Try.func12, Try.ntmps12
    go_wp2_with fail
    refine (k1.out _).mono ?_
    rintro e w1 ⟨rfl, rfl⟩
    go_wp2_with fail
    all_goals exact bodyPost_ret (v := .tuple #[.agg #[.int .i64 0, .slice none 0 0], .bool false]) (by simp [results, Try.results12, go_sem, j0, j1]) rfl ⟨none, 0, [], rfl, Ty.row_nil _ _ _ _ _ (by decide), hB.out⟩
  cases b2
  · clear hq
    go_enter Try.func12, Try.ntmps12
    go_wp2_with fail
    refine (k1.out _).mono ?_
    rintro e w1 ⟨rfl, rfl⟩
    go_wp2_with fail
    refine (k2.out _).mono ?_
    rintro e w1 ⟨rfl, rfl⟩
    go_wp2_with fail
    all_goals exact bodyPost_ret (v := .tuple #[.agg #[.int .i64 0, .slice none 0 0], .bool false]) (by simp [results, Try.results12, go_sem, j0, j1]) rfl ⟨none, 0, [], rfl, Ty.row_nil _ _ _ _ _ (by decide), hB.out⟩
  · have hm : ¬ (m : Int) ≤ 30 := by simp at hq; omega
    have hm2 : decide ((30 : Int) < (m : Int)) = true := decide_eq_true (by omega)
    clear hq
    go_enter Try.func12, Try.ntmps12
    go_wp2_with fail
    refine (k1.out _).mono ?_
    rintro e w1 ⟨rfl, rfl⟩
    go_wp2_with fail
    refine (k2.out _).mono ?_
    rintro e w1 ⟨rfl, rfl⟩
    go_wp2_with fail
    all_goals exact bodyPost_ret (v := .tuple #[.agg #[.int .i64 0, .slice none 0 0], .bool false]) (by simp [results, Try.results12, go_sem, j0, j1]) rfl ⟨none, 0, [], rfl, Ty.row_nil _ _ _ _ _ (by decide), hB.out⟩
end Go.Proofs.Ytnjdmakbdhobgaa
