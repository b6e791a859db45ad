/- Lemmas and contracts for a law, put together out of several texts: AsG AsH AsI CtH CtI CtJ CtK CtL DgA FlatC DgB DgC DgD DgE DgF. -/
import Derived.Test.YtahbepajeplcmaaGreatMg6
import Derived.Test.YtahbepajeplcmaaGreatMg1
import Derived.Test.YtahbepajeplcmaaGreatMg2
import Derived.OwnWalk
import Derived.Laws.OwnMore
import Derived.BigQuiet
import Derived.Lib.QuietBelow
import Derived.Lib.Hide
import Derived.Lib.RabinKarpLaws
import Derived.Laws.StructEq
/- Contracts: the clause of literals, literals that are set, in the program. -/
namespace Go.Proofs.YtahbepajeplcmaaGreat
open Go.RowKit

set_option maxRecDepth 100000 in
set_option maxHeartbeats 4000000 in
theorem clause_any (zs : List Int) (A : Option Addr) (cap : Nat) (w : World) (hx : IntsAt w A zs) (hz : ∀ x ∈ zs, LitS x) (hl : zs.length ≤ 2000) :
    Calls Tryz.prog 69 #[.slice A zs.length cap] w (OwnAns w (clauseR zs).isSome ((clauseR zs).getD [])) := by
  have hcl := Lib.hid (cloneA_any A cap zs w hx (by omega))
  have hsl : (sortL zs).length = zs.length := List.length_mergeSort _
  have hcpl := cptL_len zs
  have hlit := Lib.hid (fun x (h : x ∈ cptL zs) => hz x (cptL_mem.1 h))
  have hR : Hid (clauseR zs = if okTo (cptL zs) ((cptL zs).length - 1) then some (cptL zs) else none) := rfl
  have hcp : Hid (cptL zs = Lib.compact (sortL zs)) := rfl
  generalize clauseR zs = R at *
  replace hsl := Lib.hid hsl
  clear hx hz
  go_enter Tryz.func69, Tryz.ntmps69
  go_wp2_with fail
  refine hcl.out.mono ?_
  rintro e w1 ⟨D, dc, rfl, T⟩
  have hso := Lib.hid (sortFuncL_any zs D dc w w1 [] T (by omega))
  clear T hcl
  go_wp2_with fail
  refine hso.out.mono ?_
  rintro e w2 ⟨rfl, S2⟩
  rw [← hsl.out] at S2 ⊢
  have hsl2 : (sortL zs).length ≤ 1000000 := by rw [hsl.out]; omega
  have hco := Lib.hid (compactI_any _ D dc w _ [] S2 hsl2)
  rw [← hcp.out] at hco
  clear S2 hso hcp hsl2
  generalize sortL zs = sz at *
  replace hsl := Lib.hid hsl
  have hcl2 : (cptL zs).length ≤ 2000 := by omega
  clear hcpl
  generalize cptL zs = out at *
  go_wp2_with fail
  refine hco.out.mono ?_
  rintro e w3 ⟨rfl, S3⟩
  replace S3 := Lib.hid S3
  clear hco
  go_wp2_with fail
  go_loopw [5] (fun v5 wr => ∃ (k : Nat) (z : Int), k + 1 ≤ out.length + 1 ∧ 1 ≤ z ∧ z ≤ 3000 ∧ Hid ((k : Int) + 1 = z) ∧ v5 = .int .i64 z ∧ Hid (okTo out k = true) ∧ Hid (Sp w wr [Own 3 1 (.slice D out.length dc) out.length (out.map (.int .i64))])) (fun v5 _ => 4000 - (intOf v5).toNat)
  case atStart => exact ⟨0, 1, by omega, by decide, by decide, rfl, rfl, rfl, S3⟩
  case round =>
    clear S3
    obtain ⟨k, z, hk, hz1, hz2, hkz, rfl, hok, HS⟩ := hrel
    by_cases hlt : z < (out.length : Int)
    · have hk1 : k + 1 < out.length := by have := hkz.out; omega
      have hI := HS.out.ints (i := 0) rfl (fun x hx => (hlit.out x hx).i64)
      obtain ⟨b, off, rfl, m1⟩ := hI.at_ (k + 1) hk1
      obtain ⟨b', off', e1, m0⟩ := hI.at_ k (by omega)
      cases e1
      have k1 := cell_regrown m1
      have k0 := cell_regrown m0
      have hL1 := hlit.out _ (List.getElem_mem hk1)
      have hL0 := hlit.out _ (List.getElem_mem (show k < out.length by omega))
      have hneg : IntKind.i64.wrap (-out[k]) = -out[k] := IntWalk.i64_in _ (by unfold LitS at hL0; omega)
      have hzk : (z : Int) = ((k + 1 : Nat) : Int) := by have := hkz.out; omega
      have hyes := Lib.hid (fun (h : (out.getD (k + 1) 0 == -(out.getD k 0)) = true) => okTo_no (n := out.length - 1) (by omega) h)
      have hno := Lib.hid (fun (h : (out.getD (k + 1) 0 == -(out.getD k 0)) = false) => okTo_next hok.out h)
      have hg1 : out.getD (k + 1) 0 = out[k + 1] := by rw [List.getD_eq_getElem?_getD, List.getElem?_eq_getElem hk1]; rfl
      have hg0 : out.getD k 0 = out[k] := by rw [List.getD_eq_getElem?_getD, List.getElem?_eq_getElem (by omega)]; rfl
      rw [hg1, hg0] at hyes hno
      have hwz : IntKind.i64.wrap (((k + 1 : Nat) : Int) - 1) = (k : Int) := by rw [IntWalk.i64_in _ (by omega)]; omega
      have hwz2 : IntKind.i64.wrap (((k + 1 : Nat) : Int) + 1) = ((k + 1 + 1 : Nat) : Int) := by rw [IntWalk.i64_in _ (by omega)]; omega
      have hkz2 : Hid (((k + 1 : Nat) : Int) + 1 = ((k + 1 + 1 : Nat) : Int)) := rfl
      generalize out[k + 1] = y at *
      generalize out[k] = x at *
      subst hzk
      obtain ⟨q, hq⟩ : ∃ q, (y == -x) = q := ⟨_, rfl⟩
      rw [hq] at hyes hno
      clear m1 m0 hI hL1 hL0 hg1 hg0 hkz hok
      cases q
      · have hok2 := Lib.hid (hno.out rfl)
        clear hno hyes
        go_wp2_with fail
        refine wp_region_quiet_below (by kernel_rfl) (by kernel_rfl) ?_
        repeat (any_goals (go_big_quiet_step (fail)))
        refine wpQuiet_nil ?_
        rintro w4 ⟨p, rfl⟩
        have HS4 := Lib.hid (HS.out.grow (below_regrown _ p.d p.os))
        clear HS k0 k1
        go_wp2_with fail
        go_roundw
        case rel => exact ⟨k + 1, ((k + 1 + 1 : Nat) : Int), by omega, by omega, by omega, hkz2, rfl, hok2, HS4⟩
        case measure => simp [intOf]; omega
      · have hok2 := Lib.hid (hyes.out rfl)
        clear hno hyes
        go_wp2_with fail
        refine wp_region_quiet_below (by kernel_rfl) (by kernel_rfl) ?_
        repeat (any_goals (go_big_quiet_step (fail)))
        refine wpQuiet_nil ?_
        rintro w4 ⟨p, rfl⟩
        have HS4 := Lib.hid ((Sp.of_below (HS.out.grow (below_regrown _ p.d p.os)).below).own_nil 3 1)
        have hRn : Hid (R = none) := by unfold Hid; rw [hR.out, if_neg (by rw [hok2.out]; simp)]
        clear HS k0 k1 hR
        go_wp2_with fail
        go_ret2
        rw [hRn.out]
        exact ⟨none, 0, rfl, HS4.out⟩
    · have hRs : Hid (R = some out) := by
        unfold Hid
        rw [hR.out, if_pos]
        have h1 := hok.out
        have : out.length - 1 ≤ k := by have := hkz.out; omega
        unfold okTo at h1 ⊢
        rw [List.all_eq_true] at h1 ⊢
        exact fun i hi => h1 i (List.mem_range.2 (by have := List.mem_range.1 hi; omega))
      clear hR
      go_wp2_with fail
      go_ret2
      rw [hRs.out]
      exact ⟨D, dc, rfl, HS.out⟩
end Go.Proofs.YtahbepajeplcmaaGreat

/- Contracts: literals set, assignments merged, on both sides. -/
namespace Go.Proofs.YtahbepajeplcmaaGreat
open Go.RowKit

def mergeR (vars : Int) (a b : List Int) : Option (List Int) := if clauseB vars a && clauseB vars b then joinS a b else none
def setR (vars : Int) (a : List Int) (l : Int) : Option (List Int) := if clauseB vars a && litB vars l then some (setS a l) else none
theorem good_len_s {vars : Int} {c : List Int} (h : clauseB vars c = true) : c.length ≤ 1000 := (clause_s h).2
/- left out: the seat has no impl.isVar -/

set_option maxHeartbeats 1000000 in
theorem mustClause_any (zs : List Int) (A : Option Addr) (cap : Nat) (w : World) (hx : IntsAt w A zs) (hz : ∀ x ∈ zs, LitS x) (hl : zs.length ≤ 2000) :
    Calls Tryz.prog 55 #[.slice A zs.length cap] w (OneI w ((clauseR zs).getD [])) := by
  have hc := Lib.hid (clause_any zs A cap w hx hz hl)
  generalize (clauseR zs).getD [] = R at *
  generalize (clauseR zs).isSome = q at *
  clear hx hz
  go_enter Tryz.func55, Tryz.ntmps55
  go_wp2_with fail
  refine hc.out.mono ?_
  rintro e w1 ⟨D, dc, rfl, T⟩
  replace T := Lib.hid T
  go_wp2_with fail
  go_ret
  exact ⟨D, dc, rfl, T.out⟩

/- left out: the seat has no impl.set -/

/- left out: the seat has no spec.l3Set -/

/- left out: the seat has no impl.SetLiteral -/

/- left out: the seat has no spec.SetLiteral -/
end Go.Proofs.YtahbepajeplcmaaGreat

/- Contracts: assignments merged, on both sides; extended, unset, and their bits, in the program. -/
namespace Go.Proofs.YtahbepajeplcmaaGreat
open Go.RowKit

/- left out: the seat has no impl.MergeAssignments -/

/- left out: the seat has no spec.MergeAssignments -/

/- left out: the seat has no impl.part$1 -/

/- left out: the seat has no impl.DoesExtend -/

/- left out: the seat has no impl.UnsetVar -/
end Go.Proofs.YtahbepajeplcmaaGreat

/- Contracts: clauses joined and made, told as own rows, in the reference. -/
namespace Go.Proofs.YtahbepajeplcmaaGreat
open Go.RowKit

/-- An own row and whether it is told. -/
def OAns (w : World) (ok : Bool) (zs : List Int) (e : Ending) (w' : World) : Prop :=
  ∃ D dc, e = .returned (.tuple #[.slice D zs.length dc, .bool ok]) ∧ Sp w w' [Own 3 1 (.slice D zs.length dc) zs.length (zs.map (.int .i64))]
theorem good_take {c : List Int} (h : GoodS c) (k : Nat) : GoodS (c.take k) := ⟨fun x hx => h.mem x (List.mem_of_mem_take hx), h.asc.sublist (List.take_sublist k c)⟩
theorem join_take {c : List Int} (h : GoodS c) {k : Nat} (hk : k < c.length) : joinS (c.take k) [c[k]] = some (c.take (k + 1)) := by
  have h1 : GoodS [c[k]] := ⟨fun x hx => by
    have e : x = c[k] := by simpa using hx
    rw [e]; exact h.mem _ (List.getElem_mem hk), by simp⟩
  rw [← clauseR_join (good_take h k) h1, List.take_append_getElem hk]
  exact clauseR_self (good_take h (k + 1))
theorem good_within {c : List Int} (h : GoodS c) : Within 1000 c := fun x hx => ⟨(h.mem x hx).2.1, (h.mem x hx).2.2⟩

set_option maxRecDepth 100000 in
set_option maxHeartbeats 4000000 in
theorem l2JoinO_any (v u : Value) (a b : List Int) (F G : List Nat) (w : World) (hx : Ty.int.row false w v a F) (hy : Ty.int.row false w u b G) (wa : Within 1000 a) (wb : Within 1000 b) (la : a.length ≤ 1000) (lb : b.length ≤ 1000) :
    Calls Tryz.prog 82 #[v, u] w (OAns w (joinS a b).isSome ((joinS a b).getD [])) := by
  obtain ⟨aa, ac, rfl, _, _⟩ := Ty.row_len hx
  obtain ⟨ba, bc, rfl, hy1, hy2, _, hy3⟩ := row_int hy
  go_enter Tryz.func82, Tryz.ntmps82
  go_wp2_with fail
  refine (l1Own_any _ a F w hx (by omega)).mono ?_
  rintro e w1 ⟨v1, rfl, ho1, hb1⟩
  have S0 := (Sp.start w).own_call hb1 ho1
  obtain ⟨a1, c1, rfl⟩ := owns_form ho1
  replace S0 := Lib.hid S0
  have hW0 := Lib.hid wa
  have hj0 : Hid (joinS a (b.drop 0) = joinS a b) := by unfold Hid; rw [List.drop_zero]
  clear ho1 hb1
  go_wp2_with fail
  go_loopw [6, 7] (fun s i wr => ∃ (k : Nat) (out : List Int), k ≤ b.length ∧ i = .int .i64 k ∧ out.length ≤ a.length + k ∧ Hid (Within 1000 out) ∧ Hid (joinS out (b.drop k) = joinS a b) ∧ Hid (Sp w wr [Own 3 1 s out.length (out.map (.int .i64))])) (fun _ i _ => b.length - (intOf i).toNat)
  case atStart => exact ⟨0, a, Nat.zero_le _, rfl, by omega, hW0, hj0, S0⟩
  case round =>
    obtain ⟨k, out, hk, rfl, hol, HW, HJ, HS⟩ := hrel
    clear hj0
    clear S0
    obtain ⟨sa, sc, rfl⟩ := owns_form (HS.out.own (i := 0) rfl)
    by_cases hlt : k < b.length
    · rcases hy3 with ⟨rfl, rfl⟩ | ⟨hyn, bk, off, rfl, rfl, hyc⟩
      · exact absurd hlt (by simp)
      have hB := HS.out.below
      have k0 := ((hyc k hlt).keep (hB.block bk (hyc k hlt).lt)).1
      have hl6 := wb _ (List.getElem_mem hlt)
      obtain ⟨H, hrow', -, -⟩ := own_row (HS.out.own (i := 0) rfl) (HW.out.i64 (by decide))
      have hrow := Ty.row_down hrow'
      have hd := List.drop_eq_getElem_cons hlt
      obtain ⟨l, hl⟩ : ∃ l, l = b[k] := ⟨_, rfl⟩
      rw [← hl] at k0 hl6 hd
      have HJ2 := HJ.out
      rw [hd] at HJ2
      replace hd := Lib.hid hd
      have hneg : wrap64 (-l) = -l := by unfold wrap64; omega
      have hl0 : -1000 ≤ l := hl6.1
      have hl1 : l ≤ 1000 := hl6.2
      replace hl := Lib.hid hl
      clear hyc hB hl hl6 hrow'
      cases hq : hasI out (-l)
      · cases hq2 : hasI out l
        · rw [joinS_put hq hq2] at HJ2
          replace HJ2 := Lib.hid HJ2
          have HN := Lib.hid (within_put HW.out ⟨hl0, hl1⟩)
          have hpl := Lib.hid (put_len out l)
          have hol9 : out.length ≤ 1000000000 := by omega
          go_wp2_with (first
            | (go_at_call 96; (first | (with_reducible refine (l2Has_at hrow hq).mono ?_) | (with_reducible refine (l2Has_at hrow hq2).mono ?_)); rintro e w2 ⟨rfl, rfl⟩)
            | (go_at_call 90; (with_reducible refine (l2Put_any _ out l H _ hrow hol9).mono ?_); rintro e w2 ⟨v2, rfl, ho2, hb2⟩))
          have S1 := (HS.out.own_call hb2 ho2).drop2w
          obtain ⟨a2, c2, rfl⟩ := owns_form ho2
          replace S1 := Lib.hid S1
          clear ho2 hb2 HS hrow HJ hd
          generalize putB out l = out2 at *
          go_wp2_with fail
          go_roundw
          case rel => exact ⟨k + 1, out2, by omega, by go_num, by rw [hpl.out]; omega, HN, HJ2, S1⟩
          case measure => simp [intOf]; omega
        · rw [joinS_has hq hq2] at HJ2
          replace HJ2 := Lib.hid HJ2
          clear HJ hd
          go_wp2_with (first
            | (go_at_call 96; (first | (with_reducible refine (l2Has_at hrow hq).mono ?_) | (with_reducible refine (l2Has_at hrow hq2).mono ?_)); rintro e w2 ⟨rfl, rfl⟩))
          go_roundw
          case rel => exact ⟨k + 1, out, by omega, by go_num, by omega, HW, HJ2, HS⟩
          case measure => simp [intOf]; omega
      · rw [joinS_no hq] at HJ2
        replace HJ2 := Lib.hid HJ2
        clear HJ hd
        go_wp2_with (first
          | (go_at_call 96; (first | (with_reducible refine (l2Has_at hrow hq).mono ?_)); rintro e w2 ⟨rfl, rfl⟩))
        have S1 := Lib.hid (HS.out.own_made 3 1)
        go_ret2
        rw [← HJ2.out]
        exact ⟨_, _, rfl, Sp.pick [0] S1.out rfl⟩
    · obtain rfl : k = b.length := by omega
      have HJ2 := HJ.out
      rw [List.drop_length] at HJ2
      replace HJ2 := Lib.hid HJ2
      clear HJ
      go_wp2_with fail
      go_ret2
      rw [← HJ2.out]
      exact ⟨_, _, rfl, HS.out⟩


set_option maxRecDepth 100000 in
set_option maxHeartbeats 4000000 in
theorem l2Of_any (zs : List Int) (A : Option Addr) (cap : Nat) (w : World) (hx : IntsAt w A zs) (hg : GoodS zs) (hl : zs.length ≤ 1000) :
    Calls Tryz.prog 70 #[.slice A zs.length cap] w (OAns w true zs) := by
  have S0 := Lib.hid ((Sp.start w).own_made 3 1)
  have hX := Lib.hid hx
  have hG := Lib.hid hg
  have hcat : Hid (∀ k (hk : k < zs.length), joinS (zs.take k) [zs[k]] = some (zs.take (k + 1))) := fun k hk => join_take hg hk
  clear hx hg
  go_enter Tryz.func70, Tryz.ntmps70
  go_wp2_with fail
  go_loopw [4, 5] (fun v4 v5 wr => ∃ (k : Nat) (D : Option Addr) (dc : Nat) (ys : List Int), k ≤ zs.length ∧ v5 = .int .i64 k ∧ v4 = .slice D ys.length dc ∧ Hid (ys = zs.take k) ∧ Hid (Sp w wr [Own 3 1 (.slice D ys.length dc) ys.length (ys.map (.int .i64))])) (fun _ v5 _ => zs.length - (intOf v5).toNat)
  case atStart => exact ⟨0, _, 0, [], Nat.zero_le _, rfl, rfl, rfl, S0⟩
  case round =>
    clear S0
    obtain ⟨k, D, dc, ys, hk, rfl, rfl, hys, HS⟩ := hrel
    by_cases hlt : k < zs.length
    · obtain ⟨ab, aoff, hA, m0⟩ := (hX.out.grow HS.out.below).at_ k hlt
      subst hA
      have hzi : Hid (∀ x ∈ zs, I64 x) := fun x hx => (hG.out.mem x hx).i64
      have hcatk := hcat.out k hlt
      have hwz : Hid (Within 1000 [zs[k]]) := fun x hx => by
        have e : x = zs[k] := by simpa using hx
        rw [e]; exact good_within hG.out _ (List.getElem_mem hlt)
      have hwy : Hid (Within 1000 ys) := fun x hx => by
        rw [hys.out] at hx; exact good_within hG.out x (List.mem_of_mem_take hx)
      have hyl : Hid (ys.length ≤ 1000) := by unfold Hid; rw [hys.out, List.length_take]; omega
      have hzk := hzi.out _ (List.getElem_mem hlt)
      rw [← hys.out] at hcatk
      replace hcatk := Lib.hid hcatk
      generalize zs[k] = z at *
      have S1 := HS.out.alloc_box #[.int .i64 z] 3
      have hu : Ty.int.row false (wr.alloc (.cells #[.int .i64 z] 3)) (.slice (some ⟨wr.heap.size, 0, none⟩) 1 1) [z] [wr.heap.size] :=
        row_int_mk (xs := [z]) (fun x hx => by have e : x = z := by simpa using hx
                                               rw [e]; exact hzk) (by simp) (by omega) (by simp) (fun j hj => by
          have e : j = 0 := by simpa using hj
          subst e
          exact ⟨S1.cell (i := 0) rfl (o := 0) rfl, fun h => by cases h⟩)
      obtain ⟨F1, hr1, -, -⟩ := own_row (S1.own (i := 1) rfl) (fun x hx => by have := hwy.out x hx; unfold I64; omega)
      have hcall := l2JoinO_any _ _ ys [z] F1 _ _ (Ty.row_down hr1) hu hwy.out hwz.out hyl.out (by simp)
      rw [hcatk.out, Option.isSome_some, Option.getD_some] at hcall
      replace hcall := Lib.hid hcall
      replace S1 := Lib.hid S1
      clear HS hr1 hu hcat hcatk hzk hwz hwy
      generalize hnx : zs.take (k + 1) = ys2 at *
      replace hnx := Lib.hid hnx
      go_wp2_with fail
      refine hcall.out.mono ?_
      rintro e w2 ⟨D2, dc2, rfl, T⟩
      have S2 := Lib.hid ((Sp.start w).grow S1.out.below |>.seq T)
      clear hcall S1 T
      go_wp2_with fail
      go_roundw
      case rel => exact ⟨k + 1, D2, dc2, ys2, by omega, by go_num, rfl, hnx.out.symm, S2⟩
      case measure => simp [intOf]; omega
    · obtain rfl : k = zs.length := by omega
      have e1 : ys = zs := by have := hys.out; rwa [List.take_length] at this
      subst e1
      go_wp2_with fail
      go_ret2
      exact ⟨D, dc, rfl, HS.out⟩
end Go.Proofs.YtahbepajeplcmaaGreat

/- Contract: a clause put behind the others, in the reference. -/
namespace Go.Proofs.YtahbepajeplcmaaGreat
open Go.RowKit

/-- A Cnf by value whose clauses are the walk's own. -/
def AddP (w0 : World) (ps : List Asn) (vars : Int) (xss : List (List Int)) (e : Ending) (w' : World) : Prop :=
  ∃ B' c' cs', e = .returned (.agg #[.int .i64 vars, .slice B' xss.length c']) ∧ Sp w0 w' (Rows Ty.int 35 (.slice B' xss.length c') cs' xss :: ps)

set_option maxRecDepth 100000 in
set_option maxHeartbeats 8000000 in
theorem l4Add_any (vars : Int) (B : Option Addr) (c : Nat) (cs : List Value) (xss : List (List Int)) (ps : List Asn) (w0 W : World) (zs : List Int) (A : Option Addr) (cap : Nat) (hx : IntsAt W A zs) (hg : GoodS zs) (hl : zs.length ≤ 1000) (hm : xss.length ≤ 61)
    (S : Sp w0 W (Rows Ty.int 35 (.slice B xss.length c) cs xss :: ps)) :
    Calls Tryz.prog 56 #[.agg #[.int .i64 vars, .slice B xss.length c], .slice A zs.length cap] W (AddP w0 ps vars (capL 60 (xss ++ [zs]))) := by
  have S0 := (S.alloc_box #[.int .i64 vars, .slice B xss.length c] 28).alloc_box #[.int .i64 0, .slice none 0 0] 28
  simp only [World.size_alloc] at S0
  have a0 := S0.cell (i := 1) rfl (o := 0) rfl
  have a1 := S0.cell (i := 1) rfl (o := 1) rfl
  by_cases hf : xss.length ≤ 60
  · have d0 : decide ((xss.length : Int) ≤ 60) = true := decide_eq_true (by omega)
    rw [capL_all (X := xss ++ [zs]) (by simp; omega)]
    obtain ⟨i1, hi, hz0, hz1, hz2⟩ := info_parts infoRow
    have hBW := bal (bal (bb W) (.cells #[.int .i64 vars, .slice B xss.length c] 28)) (.cells #[.int .i64 0, .slice none 0 0] 28)
    have hcall := Lib.hid (l2Of_any zs A cap _ (hx.grow hBW) hg hl)
    clear hBW
    have hI : Hid (∀ x ∈ zs, I64 x) := fun x hx => (hg.mem x hx).i64
    replace S0 := Lib.hid S0
    clear hx hg S
    go_enter Tryz.func56, Tryz.ntmps56
    go_wp2_with fail
    refine hcall.out.mono ?_
    rintro e w2 ⟨D, dc, rfl, T⟩
    have S1 := Sp.own_to_row (S0.out.seq T) hI.out
    have b0 := S1.cell (i := 2) rfl (o := 0) rfl
    have b1 := S1.cell (i := 2) rfl (o := 1) rfl
    have S2 := S1.alloc_box #[.slice D zs.length dc] 35
    have kB := S2.cell (i := 0) rfl (o := 0) rfl
    have hrows := Lib.hid (S2.rows (i := 4) rfl)
    replace S1 := Lib.hid S1
    clear S0 T hcall a0 a1 S2
    go_wp2_with (at_builtin; refine wpList_append_src rfl _ _ rfl Tryz.underlying26 hi hz0 hz1 hz2 rfl (by decide) _ xss.length _ rfl hrows.out _ 1 1 [.slice D zs.length dc] rfl (Src.one kB) (by simp [Value.oneCell']) ?c3 ?c4 ?_)
    case c3 => unfold maxLen; omega
    case c4 => omega
    intro vY wY hownY hgY hatY
    have S4 := ((S1.out.bring (i := 3) rfl).swap).rows_push (bal (bb _) _) hownY hgY (by simpa using hatY)
    obtain ⟨aY, cY, rfl⟩ := own_slice hownY
    have hlen : xss.length + 1 = (xss ++ [zs]).length := by simp
    rw [hlen] at S4 ⊢
    clear S1 hrows hownY hgY hatY kB b0 b1 hlen
    generalize xss ++ [zs] = yss at *
    have f1 := S4.frozen (i := 2) rfl 1
    have g0 := S4.cell (i := 2) rfl (o := 0) rfl
    have g1 := S4.cell (i := 2) rfl (o := 1) rfl
    have S5 := S4.store (i := 2) rfl 1 (.slice aY yss.length cY)
    have h0 := S5.cell (i := 2) rfl (o := 0) rfl
    have h1 := S5.cell (i := 2) rfl (o := 1) rfl
    have r0 := S5.cell (i := 1) rfl (o := 0) rfl
    have r1 := S5.cell (i := 1) rfl (o := 1) rfl
    have q0 := S5.frozen (i := 1) rfl 0
    have q1 := S5.frozen (i := 1) rfl 1
    have SF := (S5.store (i := 1) rfl 0 (.int .i64 vars)).store (i := 1) rfl 1 (.slice aY yss.length cY)
    have j0 := SF.cell (i := 1) rfl (o := 0) rfl
    have j1 := SF.cell (i := 1) rfl (o := 1) rfl
    have SG := Lib.hid (show Sp w0 _ (Rows Ty.int 35 (.slice aY yss.length cY) _ yss :: ps) from SF.drop2w.drop2w)
    clear S4 S5 SF
    go_wp2_with fail
    exact bodyPost_ret (v := .agg #[.int .i64 vars, .slice aY yss.length cY]) (by simp [results, Tryz.results56, go_sem, j0, j1]) rfl ⟨aY, cY, _, rfl, SG.out⟩
  · have d0 : decide ((xss.length : Int) ≤ 60) = false := decide_eq_false (by omega)
    have e1 : capL 60 (xss ++ [zs]) = xss := by rw [capL_over (X := xss) (by rw [capL_all (by omega)]; omega), capL_all (by omega)]
    rw [e1]
    have SF := (S.alloc_box #[.int .i64 vars, .slice B xss.length c] 28).alloc_box #[.int .i64 vars, .slice B xss.length c] 28
    simp only [World.size_alloc] at SF
    have j0 := SF.cell (i := 0) rfl (o := 0) rfl
    have j1 := SF.cell (i := 0) rfl (o := 1) rfl
    have SG : Hid (Sp w0 _ (Rows Ty.int 35 (.slice B xss.length c) cs xss :: ps)) := SF.tail.tail
    clear S0 SF S hx hg e1
    go_enter Tryz.func56, Tryz.ntmps56
    go_wp2_with fail
    exact bodyPost_ret (v := .agg #[.int .i64 vars, .slice B xss.length c]) (by simp [results, Tryz.results56, go_sem, j0, j1]) rfl ⟨B, c, cs, rfl, SG.out⟩
end Go.Proofs.YtahbepajeplcmaaGreat

/- Contract: clauses for all choices, in the reference. -/
namespace Go.Proofs.YtahbepajeplcmaaGreat
open Go.RowKit

/-- The clauses of the choices that begin so. -/
def gsL (s : Int) (n : Nat) (xs : List Nat) (d a : Nat) : List (List Int) := (goL (n + 1) xs d a).map (sgC s)
def ssL (s : Int) (n : Nat) (xs : List Nat) (d a v : Nat) : List (List Int) := (soL (n + 1) xs d a v).map (sgC s)
theorem gsL_zero (s : Int) (n : Nat) (xs : List Nat) (a : Nat) : gsL s n xs 0 a = [sgC s (ofN xs)] := by unfold gsL; rw [goL_zero]; rfl
theorem gsL_succ (s : Int) (n : Nat) (xs : List Nat) (d a : Nat) : gsL s n xs (d + 1) a = ssL s n xs d a (n + 1) := by unfold gsL ssL; rw [soL_all]
theorem ssL_start (s : Int) (n : Nat) (xs : List Nat) (d a : Nat) : ssL s n xs d a a = [] := by unfold ssL; rw [soL_start]; rfl
theorem ssL_next {s : Int} {n : Nat} {xs : List Nat} {d a v : Nat} (h : a ≤ v) : ssL s n xs d a (v + 1) = ssL s n xs d a v ++ gsL s n (xs ++ [v]) d (v + 1) := by
  unfold ssL gsL; rw [soL_next h, List.map_append]
theorem ssL_pre {s : Int} {n : Nat} {xs : List Nat} {d a v : Nat} (h : a ≤ v) (h2 : v ≤ n + 1) : ∃ Y, ssL s n xs d a (n + 1) = ssL s n xs d a v ++ Y := by
  obtain ⟨k, hk⟩ : ∃ k, n + 1 = v + k := ⟨n + 1 - v, by omega⟩
  have key : ∀ k, ∃ Y, ssL s n xs d a (v + k) = ssL s n xs d a v ++ Y := by
    intro k
    induction k with
    | zero => exact ⟨[], by simp⟩
    | succ k ih =>
      obtain ⟨Y, hY⟩ := ih
      exact ⟨Y ++ gsL s n (xs ++ [v + k]) d (v + k + 1), by rw [← Nat.add_assoc, ssL_next (by omega), hY, List.append_assoc]⟩
  rw [hk]; exact key k
/-- The chosen ones, as an own row. -/
abbrev Cho (s : Int) (A : Option Addr) (c : Nat) (xs : List Nat) : Asn := Own 3 1 (.slice A xs.length c) xs.length ((sgC s (ofN xs)).map (.int .i64))
theorem cho_len (s : Int) (xs : List Nat) : (sgC s (ofN xs)).length = xs.length := by simp [sgC, ofN]
theorem cho_good {s : Int} (hs : s = 1 ∨ s = -1) {n : Nat} (hn : n ≤ 12) {xs : List Nat} (h : AscN (n + 1) xs) (h1 : ∀ i ∈ xs, 1 ≤ i) : GoodS (sgC s (ofN xs)) := by
  have hm : ofN xs ∈ goL (n + 1) [] xs.length 1 := by
    unfold goL
    exact List.mem_map.2 ⟨xs, asc_combs xs 1 h.1 (fun i hi => ⟨h1 i hi, h.2 i hi⟩), by simp⟩
  exact (goL_good hn hs hm).1
theorem cho_ints {s : Int} {w0 w : World} {ps : List Asn} {i : Nat} {A : Option Addr} {c : Nat} {xs : List Nat} (h : Sp w0 w ps) (hi : ps[i]? = some (Cho s A c xs)) (hg : GoodS (sgC s (ofN xs))) : IntsAt w A (sgC s (ofN xs)) := by
  refine h.ints (i := i) (c := c) (e := 3) ?_ (fun x hx => (hg.mem x hx).i64)
  rw [cho_len]; exact hi

set_option maxRecDepth 100000 in
set_option maxHeartbeats 8000000 in
theorem choose_zero (s : Int) (n : Nat) (B : Option Addr) (c : Nat) (cs : List Value) (LI : List (List Int)) (A : Option Addr) (ac a : Nat) (xs : List Nat) (ps : List Asn) (w0 W : World) (hg : GoodS (sgC s (ofN xs))) (hx : xs.length ≤ 1000) (hm : LI.length ≤ 61)
    (S : Sp w0 W (Rows Ty.int 35 (.slice B LI.length c) cs LI :: Cho s A ac xs :: ps)) :
    Calls Tryz.prog 28 #[.agg #[.int .i64 n, .slice B LI.length c], .int .i64 a, .int .i64 0, .int .i64 s, .slice A xs.length ac] W (AddP w0 (Cho s A ac xs :: ps) n (capL 60 (LI ++ gsL s n xs 0 a))) := by
  rw [gsL_zero]
  have S0 := (S.alloc_box #[.int .i64 n, .slice B LI.length c] 28).alloc_box #[.int .i64 0, .slice none 0 0] 28
  simp only [World.size_alloc] at S0
  have a0 := S0.cell (i := 1) rfl (o := 0) rfl
  have a1 := S0.cell (i := 1) rfl (o := 1) rfl
  have hcall := l4Add_any n B c cs LI _ w0 _ (sgC s (ofN xs)) A ac (cho_ints (i := 3) S0 rfl hg) hg (by rw [cho_len]; exact hx) hm (S0.bring (i := 2) rfl)
  rw [cho_len] at hcall
  replace hcall := Lib.hid hcall
  clear S S0 hg hm
  generalize capL 60 (LI ++ [sgC s (ofN xs)]) = R at *
  go_enter Tryz.func28, Tryz.ntmps28
  go_wp2_with fail
  refine hcall.out.mono ?_
  rintro e w2 ⟨B', c', cs', rfl, S1⟩
  have r0 := S1.cell (i := 1) rfl (o := 0) rfl
  have r1 := S1.cell (i := 1) rfl (o := 1) rfl
  have q0 := S1.frozen (i := 1) rfl 0
  have q1 := S1.frozen (i := 1) rfl 1
  have SF := (S1.store (i := 1) rfl 0 (.int .i64 n)).store (i := 1) rfl 1 (.slice B' R.length c')
  have j0 := SF.cell (i := 1) rfl (o := 0) rfl
  have j1 := SF.cell (i := 1) rfl (o := 1) rfl
  have SG := Lib.hid (show Sp w0 _ (Rows Ty.int 35 (.slice B' R.length c') cs' R :: Cho s A ac xs :: ps) from SF.drop2w.drop2w)
  clear hcall S1 SF a0 a1
  go_wp2_with fail
  exact bodyPost_ret (v := .agg #[.int .i64 n, .slice B' R.length c']) (by simp [results, Tryz.results28, go_sem, j0, j1]) rfl ⟨B', c', cs', rfl, SG.out⟩
end Go.Proofs.YtahbepajeplcmaaGreat

/- Contract: clauses for all choices, in the reference, at every depth. -/
namespace Go.Proofs.YtahbepajeplcmaaGreat
open Go.RowKit

set_option maxRecDepth 100000 in
set_option maxHeartbeats 16000000 in
theorem choose_any (s : Int) (hs : s = 1 ∨ s = -1) (n : Nat) (hn : n ≤ 12) : ∀ (d : Nat), d ≤ 20 → ∀ (xs : List Nat) (a : Nat) (A : Option Addr) (ac : Nat) (B : Option Addr) (c : Nat) (cs : List Value) (LI : List (List Int)) (w0 W : World) (ps : List Asn), 1 ≤ a → a ≤ n + 1 → AscN (n + 1) xs → (∀ i ∈ xs, 1 ≤ i) → nextA xs ≤ a → LI.length ≤ 61 →
    Sp w0 W (Rows Ty.int 35 (.slice B LI.length c) cs LI :: Cho s A ac xs :: ps) →
    Calls Tryz.prog 28 #[.agg #[.int .i64 n, .slice B LI.length c], .int .i64 a, .int .i64 d, .int .i64 s, .slice A xs.length ac] W (AddP w0 (Cho s A ac xs :: ps) n (capL 60 (LI ++ gsL s n xs d a))) := by
  obtain ⟨i0, hi, hz0, hz1, hz2⟩ := info_parts infoInt
  intro d
  induction d with
  | zero =>
    intro hd xs a A ac B c cs LI w0 W ps ha1 ha has hx1 hna hm S
    exact choose_zero s n B c cs LI A ac a xs ps w0 W (cho_good hs hn has hx1) (by have := asc_len has; omega) hm S
  | succ d ih =>
    intro hd xs a A ac B c cs LI w0 W ps ha1 ha has hx1 hna hm S
    have hxl := asc_len has
    have hg := Lib.hid (cho_good hs hn has hx1)
    have hall := Lib.hid (gsL_succ s n xs d a)
    have hnx := Lib.hid (fun v (h : a ≤ v) => show capL 60 (LI ++ ssL s n xs d a (v + 1)) = capL 60 (capL 60 (LI ++ ssL s n xs d a v) ++ gsL s n (xs ++ [v]) d (v + 1)) by
      rw [ssL_next h, capL_step, List.append_assoc])
    have hov := Lib.hid (fun v (h : a ≤ v) (h2 : v ≤ n + 1) (h3 : 60 < (capL 60 (LI ++ ssL s n xs d a v)).length) => show capL 60 (LI ++ ssL s n xs d a (n + 1)) = capL 60 (LI ++ ssL s n xs d a v) by
      obtain ⟨Y, hY⟩ := ssL_pre (s := s) (n := n) (xs := xs) (d := d) h h2
      rw [hY, ← List.append_assoc, capL_over h3])
    have hih := Lib.hid (fun v (h : a ≤ v) (h2 : v < n + 1) A2 ac2 B2 c2 cs2 LI2 W2 ps2 (hL2 : LI2.length ≤ 61) S2 => ih (by omega) (xs ++ [v]) (v + 1) A2 ac2 B2 c2 cs2 LI2 w0 W2 ps2 (by omega) (by omega) (asc_snoc has (Nat.le_trans hna h) h2) (fun i hi => by
      rcases List.mem_append.1 hi with hi | hi
      · exact hx1 i hi
      · have : i = v := by simpa using hi
        omega) (by rw [nextA_snoc]; omega) hL2 S2)
    have hsl : ∀ v : Nat, (xs ++ [v]).length = xs.length + 1 := by simp
    have hsv : ∀ v : Nat, (sgC s (ofN (xs ++ [v]))).map (Value.int .i64) = (sgC s (ofN xs)).map (.int .i64) ++ [.int .i64 (s * (v : Int))] := by intro v; unfold ofN sgC; simp
    have hst : capL 60 (LI ++ ssL s n xs d a a) = LI := by rw [ssL_start, List.append_nil, capL_all hm]
    unfold Cho at hih
    simp only [hsl, hsv] at hih
    rw [gsL_succ]
    have hd1 : ((d + 1 : Nat) : Int) = (d : Int) + 1 := rfl
    rw [hd1]
    have hd0 : ((d : Int) + 1 == 0) = false := beq_eq_false_iff_ne.2 (by omega)
    have hd2 : decide ((d : Int) + 1 = 0) = false := decide_eq_false (by omega)
    have hwd : IntKind.i64.wrap (d : Int) = (d : Int) := IntWalk.i64_in _ (by omega)
    have S0 := ((S.alloc_box #[.int .i64 n, .slice B LI.length c] 28).alloc_box #[.int .i64 0, .slice none 0 0] 28).bring (i := 2) rfl
    simp only [World.size_alloc] at S0
    have hS0 : Hid (Sp w0 ((W.alloc (.cells #[.int .i64 n, .slice B LI.length c] 28)).alloc (.cells #[.int .i64 0, .slice none 0 0] 28)) (Rows Ty.int 35 (.slice B (capL 60 (LI ++ ssL s n xs d a a)).length c) cs (capL 60 (LI ++ ssL s n xs d a a)) :: Box (W.heap.size + 1) 28 #[.int .i64 0, .slice none 0 0] :: Box W.heap.size 28 #[.int .i64 n, .slice B (capL 60 (LI ++ ssL s n xs d a a)).length c] :: Cho s A ac xs :: ps)) := by
      unfold Hid; rw [hst]; exact S0
    have hch : Hid (∀ wr ps', Sp w0 wr ps' → ∀ i, ps'[i]? = some (Cho s A ac xs) → IntsAt wr A (sgC s (ofN xs))) := fun wr ps' h i hi => cho_ints h hi hg.out
    have hcl := cho_len s xs
    clear ih hst S S0 has hx1 hna hsl hsv hd1
    go_enter Tryz.func28, Tryz.ntmps28
    go_wp2_with fail
    go_loopw [11] (fun v11 wr => ∃ (v : Nat) (B : Option Addr) (c : Nat) (cs : List Value) (LV : List (List Int)), a ≤ v ∧ v ≤ n + 1 ∧ v11 = .int .i64 v ∧ Hid (capL 60 (LI ++ ssL s n xs d a v) = LV) ∧ Hid (Sp w0 wr (Rows Ty.int 35 (.slice B LV.length c) cs LV :: Box (W.heap.size + 1) 28 #[.int .i64 0, .slice none 0 0] :: Box W.heap.size 28 #[.int .i64 n, .slice B LV.length c] :: Cho s A ac xs :: ps))) (fun v11 _ => n + 1 - (intOf v11).toNat)
    case atStart => exact ⟨a, B, c, cs, _, Nat.le_refl _, ha, rfl, rfl, hS0⟩
    case round =>
      obtain ⟨v, B, c, cs, LV, hav, hvn, rfl, hLV, HS⟩ := hrel
      clear hS0
      have hLl : LV.length ≤ 61 := by rw [← hLV.out]; exact capL_len _
      have c0 := HS.out.cell (i := 2) rfl (o := 0) rfl
      have c1 := HS.out.cell (i := 2) rfl (o := 1) rfl
      by_cases hlt : v ≤ n ∧ LV.length ≤ 60
      · obtain ⟨hlt, hl60⟩ := hlt
        have d3 : decide ((v : Int) ≤ (n : Int)) = true := decide_eq_true (by omega)
        have d4 : decide ((LV.length : Int) ≤ 60) = true := decide_eq_true (by omega)
        have hnxv := Lib.hid (hnx.out v hav)
        have hw1 : IntKind.i64.wrap ((v : Int) + 1) = ((v + 1 : Nat) : Int) := by rw [IntWalk.i64_in _ (by omega)]; rfl
        have hsv : -1000 ≤ s * (v : Int) ∧ s * (v : Int) ≤ 1000 := by rcases hs with rfl | rfl <;> omega
        have hwm : IntKind.i64.wrap (s * (v : Int)) = s * (v : Int) := IntWalk.i64_in _ (by omega)
        have hcall := Lib.hid (fun A2 ac2 W2 S2 => hih.out v hav (by omega) A2 ac2 B c cs LV W2 (Box (W.heap.size + 1) 28 #[.int .i64 0, .slice none 0 0] :: Box W.heap.size 28 #[.int .i64 n, .slice B LV.length c] :: Cho s A ac xs :: ps) hLl S2)
        rw [hLV.out] at hnxv
        simp only [← hnxv.out] at hcall
        clear hnxv
        have S1 := Lib.hid HS.out.drew
        have Sx := S1.out.alloc_box #[.int .i64 (s * (v : Int))] 3
        have hown := l1OwnI_any A ac (sgC s (ofN xs)) _ (hch.out _ _ S1.out 3 rfl) (by rw [hcl]; omega)
        have hownB := l1OwnI_any A ac (sgC s (ofN xs)) _ (hch.out _ _ Sx 4 rfl) (by rw [hcl]; omega)
        unfold OneI at hown hownB
        rw [hcl] at hown hownB
        replace hown := Lib.hid hown
        replace hownB := Lib.hid hownB
        have x0 := Sx.cell (i := 3) rfl (o := 0) rfl
        have x1 := Sx.cell (i := 3) rfl (o := 1) rfl
        replace Sx := Lib.hid Sx
        generalize hso : capL 60 (LI ++ ssL s n xs d a (v + 1)) = SV2 at *
        replace hso := Lib.hid hso
        rw [show ((v + 1 : Nat) : Int) = (v : Int) + 1 from rfl] at hcall
        go_wp2_with fail
        refine wp_region_tail_lit (S := (fun w' => w'.cell? ⟨W.heap.size, 0, none⟩ = some (.int .i64 n) ∧ w'.cell? ⟨W.heap.size, 1, none⟩ = some (.slice B LV.length c))) 14 [false, false, false, false, false, false, false, false, false, false, false, false, false, false, false] (by kernel_rfl) (by kernel_rfl) (by kernel_rfl) ?_ ?_
        · exact ⟨c0, c1⟩
        intro hSc
        (refine walkT_take (i := 0) (v := ?_) rfl (by kernel_rfl) (by decide) (by kernel_rfl) (by kernel_rfl) (fun _ _ _ h => h) (Or.inl ⟨by rfl, ?_⟩) (by assumption) ?_; rotate_left; (focus (intro w hSw; (try dsimp only at hSw); go_simp; (try with_reducible rfl); done)); (try simp only [put_rules]))
        (refine walkT_take (i := 1) (v := ?_) rfl (by kernel_rfl) (by decide) (by kernel_rfl) (by kernel_rfl) (fun _ _ _ h => h) (Or.inl ⟨by rfl, ?_⟩) (by assumption) ?_; rotate_left; (focus (intro w hSw; (try dsimp only at hSw); go_simp; (try with_reducible rfl); done)); (try simp only [put_rules]))
        (refine walkT_take (i := 2) (v := ?_) rfl (by kernel_rfl) (by decide) (by kernel_rfl) (by kernel_rfl) (fun _ _ _ h => h) (Or.inl ⟨by rfl, ?_⟩) (by assumption) ?_; rotate_left; (focus (intro w hSw; (try dsimp only at hSw); go_simp; (try with_reducible rfl); done)); (try simp only [put_rules]))
        (refine walkT_take (i := 3) (v := ?_) rfl (by kernel_rfl) (by decide) (by kernel_rfl) (by kernel_rfl) (fun _ _ _ h => h) (Or.inl ⟨by rfl, ?_⟩) (by assumption) ?_; rotate_left; (focus (intro w hSw; (try dsimp only at hSw); go_simp; (try with_reducible rfl); done)); (try simp only [put_rules]))
        (refine walkT_take (i := 4) (v := ?_) rfl (by kernel_rfl) (by decide) (by kernel_rfl) (by kernel_rfl) (fun _ _ _ h => h) (Or.inl ⟨by rfl, ?_⟩) (by assumption) ?_; rotate_left; (focus (intro w hSw; (try dsimp only at hSw); go_simp; (try with_reducible rfl); done)); (try simp only [put_rules]))
        (refine walkT_take (i := 5) (v := ?_) rfl (by kernel_rfl) (by decide) (by kernel_rfl) (by kernel_rfl) (fun _ _ _ h => h) (Or.inl ⟨by rfl, ?_⟩) (by assumption) ?_; rotate_left; (focus (intro w hSw; (try dsimp only at hSw); go_simp; (try with_reducible rfl); done)); (try simp only [put_rules]))
        (refine walkT_take (i := 6) (v := ?_) rfl (by kernel_rfl) (by decide) (by kernel_rfl) (by kernel_rfl) (fun _ _ _ h => h) (Or.inl ⟨by rfl, ?_⟩) (by assumption) ?_; rotate_left; (focus (intro w hSw; (try dsimp only at hSw); go_simp; (try with_reducible rfl); done)); (try simp only [put_rules]))
        (refine walkT_take (i := 8) (v := ?_) rfl (by kernel_rfl) (by decide) (by kernel_rfl) (by kernel_rfl) (fun _ _ _ h => h) (Or.inl ⟨by rfl, ?_⟩) (by assumption) ?_; rotate_left; (focus (intro w hSw; (try dsimp only at hSw); go_simp; (try with_reducible rfl); done)); (try simp only [put_rules]))
        (refine walkT_take (i := 9) (v := ?_) rfl (by kernel_rfl) (by decide) (by kernel_rfl) (by kernel_rfl) (fun _ _ _ h => h) (Or.inl ⟨by rfl, ?_⟩) (by assumption) ?_; rotate_left; (focus (intro w hSw; (try dsimp only at hSw); go_simp; (try with_reducible rfl); done)); (try simp only [put_rules]))
        (refine walkT_take (i := 10) (v := ?_) rfl (by kernel_rfl) (by decide) (by kernel_rfl) (by kernel_rfl) (fun _ _ _ h => h) (Or.inl ⟨by rfl, ?_⟩) (by assumption) ?_; rotate_left; (focus (intro w hSw; (try dsimp only at hSw); go_simp; (try with_reducible rfl); done)); (try simp only [put_rules]))
        (refine walkT_ready (rs := [7, 11]) (by kernel_rfl) (by simp) (by decide) ?_; refine AllT.cons rfl (fun K hK => ?_) (AllT.cons rfl (fun K hK => ?_) AllT.nil))
        · clear hownB x0 x1 Sx
          go_simp
          go_at_call 57
          refine hown.out.mono ?_
          rintro e w2 ⟨D, dc, rfl, T⟩
          have S2 := Lib.hid (S1.out.seq T)
          clear hown S1 T HS c0 c1
          go_wp2_with fail
          refine hK.out _ _ ⟨S2.out.cell (i := 3) rfl (o := 0) rfl, S2.out.cell (i := 3) rfl (o := 1) rfl⟩ (fun _ => ?_)
          clear hK hSc
          (try simp only [put_rules])
          (refine walkT_ready (rs := [11]) (by kernel_rfl) (by simp) (by decide) ?_; refine AllT.cons rfl (fun K hK => ?_) AllT.nil)
          go_simp
          have S3 := Lib.hid (S2.out.alloc_box #[.int .i64 (s * (v : Int))] 3)
          refine hK.out _ _ ⟨S3.out.cell (i := 4) rfl (o := 0) rfl, S3.out.cell (i := 4) rfl (o := 1) rfl⟩ (fun _ => ?_)
          clear hK
          (try simp only [put_rules])
          (refine walkT_ready (rs := [12]) (by kernel_rfl) (by simp) (by decide) ?_; refine AllT.cons rfl (fun K hK => ?_) AllT.nil)
          (refine step_append_src rfl _ _ rfl Tryz.underlying35 hi hz0 hz1 hz2 rfl (by decide) _ xs.length _ rfl (S3.out.own (i := 1) rfl) _ 1 1 [.int .i64 (s * (v : Int))] rfl (Src.one (S3.out.cell (i := 0) rfl (o := 0) rfl)) (by simp [Value.oneCell']) (by unfold maxLen; omega) (by omega) ?_; intro vE wE hownE hgE hatE)
          have S4 := (S3.out.own_push (i := 1) rfl (bb _) hownE hgE hatE).tail
          obtain ⟨aE, cE, rfl⟩ := own_slice hownE
          have S5 := hcall.out aE cE wE S4.swap
          have k0 := S4.cell (i := 3) rfl (o := 0) rfl
          have k1 := S4.cell (i := 3) rfl (o := 1) rfl
          replace S5 := Lib.hid S5
          refine hK.out _ _ ⟨k0, k1⟩ (fun _ => ?_)
          clear hK S2 S3 S4 hownE hgE hatE hcall k0 k1
          (try simp only [put_rules])
          (refine walkT_ready (rs := [13]) (by kernel_rfl) (by simp) (by decide) ?_; refine AllT.cons rfl (fun K hK => ?_) AllT.nil)
          go_simp
          go_at_call 28
          refine S5.out.mono ?_
          rintro e w4 ⟨B', c', cs', rfl, S6⟩
          have k0 := S6.cell (i := 3) rfl (o := 0) rfl
          have k1 := S6.cell (i := 3) rfl (o := 1) rfl
          have S7 := S6.drop2w
          have f0 := S7.frozen (i := 2) rfl 0
          have f1 := S7.frozen (i := 2) rfl 1
          have g0 := S7.cell (i := 2) rfl (o := 0) rfl
          have g1 := S7.cell (i := 2) rfl (o := 1) rfl
          have S8 := Lib.hid ((S7.store (i := 2) rfl 0 (.int .i64 n)).store (i := 2) rfl 1 (.slice B' SV2.length c'))
          clear S5 S6 S7
          go_wp2_with fail
          refine hK.out _ _ ⟨k0, k1⟩ (fun _ => ?_)
          clear hK k0 k1
          (try simp only [put_rules])
          (refine walkT_done (by kernel_rfl) ?_)
          simp only [List.drop_succ_cons, List.drop_zero]
          go_wp2_with fail
          go_roundw
          case rel => exact ⟨v + 1, B', c', cs', SV2, by omega, by omega, by go_num, hso, S8⟩
          case measure => simp [intOf]; omega
        · clear hown
          go_simp
          refine hK.out _ _ ⟨x0, x1⟩ (fun _ => ?_)
          clear hK hSc x0 x1
          (try simp only [put_rules])
          (refine walkT_ready (rs := [7]) (by kernel_rfl) (by simp) (by decide) ?_; refine AllT.cons rfl (fun K hK => ?_) AllT.nil)
          go_simp
          go_at_call 57
          refine hownB.out.mono ?_
          rintro e w2 ⟨D, dc, rfl, T⟩
          have S2 := Lib.hid (Sx.out.seq T)
          have S3 := Lib.hid S2.out.swap
          clear hownB S1 Sx T HS c0 c1
          go_wp2_with fail
          refine hK.out _ _ ⟨S3.out.cell (i := 4) rfl (o := 0) rfl, S3.out.cell (i := 4) rfl (o := 1) rfl⟩ (fun _ => ?_)
          clear hK
          (try simp only [put_rules])
          (refine walkT_ready (rs := [12]) (by kernel_rfl) (by simp) (by decide) ?_; refine AllT.cons rfl (fun K hK => ?_) AllT.nil)
          (refine step_append_src rfl _ _ rfl Tryz.underlying35 hi hz0 hz1 hz2 rfl (by decide) _ xs.length _ rfl (S3.out.own (i := 1) rfl) _ 1 1 [.int .i64 (s * (v : Int))] rfl (Src.one (S3.out.cell (i := 0) rfl (o := 0) rfl)) (by simp [Value.oneCell']) (by unfold maxLen; omega) (by omega) ?_; intro vE wE hownE hgE hatE)
          have S4 := (S3.out.own_push (i := 1) rfl (bb _) hownE hgE hatE).tail
          obtain ⟨aE, cE, rfl⟩ := own_slice hownE
          have S5 := hcall.out aE cE wE S4.swap
          have k0 := S4.cell (i := 3) rfl (o := 0) rfl
          have k1 := S4.cell (i := 3) rfl (o := 1) rfl
          replace S5 := Lib.hid S5
          refine hK.out _ _ ⟨k0, k1⟩ (fun _ => ?_)
          clear hK S2 S3 S4 hownE hgE hatE hcall k0 k1
          (try simp only [put_rules])
          (refine walkT_ready (rs := [13]) (by kernel_rfl) (by simp) (by decide) ?_; refine AllT.cons rfl (fun K hK => ?_) AllT.nil)
          go_simp
          go_at_call 28
          refine S5.out.mono ?_
          rintro e w4 ⟨B', c', cs', rfl, S6⟩
          have k0 := S6.cell (i := 3) rfl (o := 0) rfl
          have k1 := S6.cell (i := 3) rfl (o := 1) rfl
          have S7 := S6.drop2w
          have f0 := S7.frozen (i := 2) rfl 0
          have f1 := S7.frozen (i := 2) rfl 1
          have g0 := S7.cell (i := 2) rfl (o := 0) rfl
          have g1 := S7.cell (i := 2) rfl (o := 1) rfl
          have S8 := Lib.hid ((S7.store (i := 2) rfl 0 (.int .i64 n)).store (i := 2) rfl 1 (.slice B' SV2.length c'))
          clear S5 S6 S7
          go_wp2_with fail
          refine hK.out _ _ ⟨k0, k1⟩ (fun _ => ?_)
          clear hK k0 k1
          (try simp only [put_rules])
          (refine walkT_done (by kernel_rfl) ?_)
          simp only [List.drop_succ_cons, List.drop_zero]
          go_wp2_with fail
          go_roundw
          case rel => exact ⟨v + 1, B', c', cs', SV2, by omega, by omega, by go_num, hso, S8⟩
          case measure => simp [intOf]; omega
      · have hend : capL 60 (LI ++ ssL s n xs d a (n + 1)) = LV := by
          rcases Nat.lt_or_ge n v with h | h
          · obtain rfl : v = n + 1 := by omega
            exact hLV.out
          · rw [hov.out v hav hvn (by rw [hLV.out]; omega), hLV.out]
        replace hend := Lib.hid hend
        clear hov hnx hih hall hch hLV
        rcases Nat.lt_or_ge n v with h | h
        · have d3 : decide ((v : Int) ≤ (n : Int)) = false := decide_eq_false (by omega)
          have r0 := HS.out.cell (i := 1) rfl (o := 0) rfl
          have r1 := HS.out.cell (i := 1) rfl (o := 1) rfl
          have q0 := HS.out.frozen (i := 1) rfl 0
          have q1 := HS.out.frozen (i := 1) rfl 1
          have SF := (HS.out.store (i := 1) rfl 0 (.int .i64 n)).store (i := 1) rfl 1 (.slice B LV.length c)
          have j0 := SF.cell (i := 1) rfl (o := 0) rfl
          have j1 := SF.cell (i := 1) rfl (o := 1) rfl
          have SG := Lib.hid (show Sp w0 _ (Rows Ty.int 35 (.slice B LV.length c) cs LV :: Cho s A ac xs :: ps) from SF.drop2w.drop2w)
          clear HS SF
          go_wp2_with fail
          exact bodyPost_ret (v := .agg #[.int .i64 n, .slice B LV.length c]) (by simp [results, Tryz.results28, go_sem, j0, j1]) rfl (by rw [hend.out]; exact ⟨B, c, cs, rfl, SG.out⟩)
        · have d3 : decide ((v : Int) ≤ (n : Int)) = true := decide_eq_true (by omega)
          have d4 : decide ((LV.length : Int) ≤ 60) = false := decide_eq_false (by omega)
          have r0 := HS.out.cell (i := 1) rfl (o := 0) rfl
          have r1 := HS.out.cell (i := 1) rfl (o := 1) rfl
          have q0 := HS.out.frozen (i := 1) rfl 0
          have q1 := HS.out.frozen (i := 1) rfl 1
          have SF := (HS.out.store (i := 1) rfl 0 (.int .i64 n)).store (i := 1) rfl 1 (.slice B LV.length c)
          have j0 := SF.cell (i := 1) rfl (o := 0) rfl
          have j1 := SF.cell (i := 1) rfl (o := 1) rfl
          have SG := Lib.hid (show Sp w0 _ (Rows Ty.int 35 (.slice B LV.length c) cs LV :: Cho s A ac xs :: ps) from SF.drop2w.drop2w)
          clear HS SF
          go_wp2_with fail
          exact bodyPost_ret (v := .agg #[.int .i64 n, .slice B LV.length c]) (by simp [results, Tryz.results28, go_sem, j0, j1]) rfl (by rw [hend.out]; exact ⟨B, c, cs, rfl, SG.out⟩)
end Go.Proofs.YtahbepajeplcmaaGreat

/- Contracts: at most and at least, in the reference. -/
namespace Go.Proofs.YtahbepajeplcmaaGreat
open Go.RowKit

theorem most_gs (n k : Nat) : capL 60 ([] ++ gsL (-1) n [] (k + 1) 1) = mostL n k := by
  unfold mostL chL gsL capL; rw [List.nil_append, List.map_take]
theorem least_gs {n k : Nat} (h : 0 < k) : capL 60 ([] ++ gsL 1 n [] (n + 1 - k) 1) = leastL n k := by
  rw [leastL_mid h]; unfold chL gsL capL
  rw [List.nil_append, ← List.map_take]
  conv => rhs; rw [← List.map_id (List.take (60 + 1) (goL (n + 1) [] (n + 1 - k) 1))]
  exact List.map_congr_left fun c _ => sgC_one c
theorem good_none {n : Nat} (hn : n ≤ 12) : goodB n [] = true := by
  have h : inB (n : Int) 0 12 = true := inB_true.2 ⟨by omega, by omega⟩
  unfold goodB; rw [h]; rfl

set_option maxRecDepth 100000 in
set_option maxHeartbeats 4000000 in
theorem specAtMostNo_any (n k : Int) (w : World) (hq : (inB n 0 12 && inB k 0 12) = false) :
    Calls Tryz.prog 7 #[.int .i64 n, .int .i64 k] w (CnfR w 0 [] false) := by
  have hn := Lib.hid (fun W => l1In_any n 0 12 W)
  have hk := Lib.hid (fun W => l1In_any k 0 12 W)
  have SF := (Sp.start w).alloc_box #[.int .i64 0, .slice none 0 0] 28
  have j0 := SF.cell (i := 0) rfl (o := 0) rfl
  have j1 := SF.cell (i := 0) rfl (o := 1) rfl
  have hB := Lib.hid SF.below
  clear SF
  cases h1 : inB n 0 12 with
  | false =>
    rw [h1] at hn
    clear hq h1
    go_enter Tryz.func7, Tryz.ntmps7
    go_wp2_with fail
    refine (hn.out _).mono ?_
    rintro e w1 ⟨rfl, rfl⟩
    go_wp2_with fail
    exact bodyPost_ret (v := .tuple #[.agg #[.int .i64 0, .slice none 0 0], .bool false]) (by simp [results, Tryz.results7, go_sem, j0, j1]) rfl ⟨none, 0, [], rfl, Ty.row_nil _ _ _ _ _ (by decide), hB.out⟩
  | true =>
    rw [h1, Bool.true_and] at hq
    rw [h1] at hn
    rw [hq] at hk
    clear hq h1
    go_enter Tryz.func7, Tryz.ntmps7
    go_wp2_with fail
    refine (hn.out _).mono ?_
    rintro e w1 ⟨rfl, rfl⟩
    go_wp2_with fail
    refine (hk.out _).mono ?_
    rintro e w1 ⟨rfl, rfl⟩
    go_wp2_with fail
    exact bodyPost_ret (v := .tuple #[.agg #[.int .i64 0, .slice none 0 0], .bool false]) (by simp [results, Tryz.results7, go_sem, j0, j1]) rfl ⟨none, 0, [], rfl, Ty.row_nil _ _ _ _ _ (by decide), hB.out⟩

set_option maxRecDepth 100000 in
set_option maxHeartbeats 4000000 in
theorem specAtLeastNo_any (n k : Int) (w : World) (hq : (inB n 0 12 && inB k 0 12) = false) :
    Calls Tryz.prog 10 #[.int .i64 n, .int .i64 k] w (CnfR w 0 [] false) := by
  have hn := Lib.hid (fun W => l1In_any n 0 12 W)
  have hk := Lib.hid (fun W => l1In_any k 0 12 W)
  have SF := (Sp.start w).alloc_box #[.int .i64 0, .slice none 0 0] 28
  have j0 := SF.cell (i := 0) rfl (o := 0) rfl
  have j1 := SF.cell (i := 0) rfl (o := 1) rfl
  have hB := Lib.hid SF.below
  clear SF
  cases h1 : inB n 0 12 with
  | false =>
    rw [h1] at hn
    clear hq h1
    go_enter Tryz.func10, Tryz.ntmps10
    go_wp2_with fail
    refine (hn.out _).mono ?_
    rintro e w1 ⟨rfl, rfl⟩
    go_wp2_with fail
    exact bodyPost_ret (v := .tuple #[.agg #[.int .i64 0, .slice none 0 0], .bool false]) (by simp [results, Tryz.results10, go_sem, j0, j1]) rfl ⟨none, 0, [], rfl, Ty.row_nil _ _ _ _ _ (by decide), hB.out⟩
  | true =>
    rw [h1, Bool.true_and] at hq
    rw [h1] at hn
    rw [hq] at hk
    clear hq h1
    go_enter Tryz.func10, Tryz.ntmps10
    go_wp2_with fail
    refine (hn.out _).mono ?_
    rintro e w1 ⟨rfl, rfl⟩
    go_wp2_with fail
    refine (hk.out _).mono ?_
    rintro e w1 ⟨rfl, rfl⟩
    go_wp2_with fail
    exact bodyPost_ret (v := .tuple #[.agg #[.int .i64 0, .slice none 0 0], .bool false]) (by simp [results, Tryz.results10, go_sem, j0, j1]) rfl ⟨none, 0, [], rfl, Ty.row_nil _ _ _ _ _ (by decide), hB.out⟩

set_option maxRecDepth 100000 in
set_option maxHeartbeats 8000000 in
theorem specAtMostYes_any (n k : Nat) (w : World) (hn12 : n ≤ 12) (hk12 : k ≤ 12) :
    Calls Tryz.prog 7 #[.int .i64 n, .int .i64 k] w (CnfR w (giveV n (mostL n k)) (giveL n (mostL n k)) (goodB n (mostL n k))) := by
  have hn := Lib.hid (fun W => l1In_any n 0 12 W)
  have hk := Lib.hid (fun W => l1In_any k 0 12 W)
  rw [show inB (n : Int) 0 12 = true from inB_true.2 ⟨by omega, by omega⟩] at hn
  rw [show inB (k : Int) 0 12 = true from inB_true.2 ⟨by omega, by omega⟩] at hk
  have S0 := (Sp.start w).alloc_box #[.int .i64 0, .slice none 0 0] 28
  replace S0 := Lib.hid S0
  have hnew := Lib.hid (l4New_any n (w.alloc (.cells #[.int .i64 0, .slice none 0 0] 28)))
  have hw1 : IntKind.i64.wrap ((k : Int) + 1) = (k : Int) + 1 := IntWalk.i64_in _ (by omega)
  go_enter Tryz.func7, Tryz.ntmps7
  go_wp2_with fail
  refine (hn.out _).mono ?_
  rintro e w1 ⟨rfl, rfl⟩
  go_wp2_with fail
  refine (hk.out _).mono ?_
  rintro e w1 ⟨rfl, rfl⟩
  clear hn hk
  go_wp2_with fail
  refine hnew.out.mono ?_
  rintro e w1 ⟨B, c, rfl, T⟩
  have S1 := S0.out.seq T
  have S2 := (S1.own_made 3 1).swap
  have hch := choose_any (-1) (.inr rfl) n hn12 (k + 1) (by omega) [] 1 (some ⟨w1.heap.size, 0, none⟩) 0 B c [] [] w _ [Box w.heap.size 28 #[.int .i64 0, .slice none 0 0]] (by omega) (by omega) ⟨by simp, by simp⟩ (by simp) (by rw [nextA_nil]; omega) (by simp) S2
  rw [most_gs, show ((k + 1 : Nat) : Int) = (k : Int) + 1 from rfl] at hch
  simp only [List.length_nil, show ((1 : Nat) : Int) = 1 from rfl] at hch
  replace hch := Lib.hid hch
  have S3 := Lib.hid S1
  clear hnew S0 T S1 S2
  generalize hML : mostL n k = ML at *
  go_wp2_with fail
  refine hch.out.mono ?_
  rintro e w2 ⟨B', c', cs', rfl, S4⟩
  obtain ⟨F, hr, -, -⟩ := S4.rows_done (i := 0) rfl
  have hgv := Lib.hid (l4Give_any n B' c' ML F w2 (Ty.row_down hr))
  replace S4 := Lib.hid S4
  clear hch hr S3
  go_wp2_with fail
  refine hgv.out.mono ?_
  rintro e w3 ⟨va, A', n', c'', rfl, hb4, h1, h2⟩
  have S5 := S4.out.grow hb4
  replace h1 := Lib.hid h1
  replace h2 := Lib.hid h2
  have r0 := S5.cell (i := 2) rfl (o := 0) rfl
  have r1 := S5.cell (i := 2) rfl (o := 1) rfl
  have f0 := S5.frozen (i := 2) rfl 0
  have f1 := S5.frozen (i := 2) rfl 1
  have SF := (S5.store (i := 2) rfl 0 (.int .i64 va)).store (i := 2) rfl 1 (.slice A' n' c'')
  have j0 := SF.cell (i := 2) rfl (o := 0) rfl
  have j1 := SF.cell (i := 2) rfl (o := 1) rfl
  have SF2 := Lib.hid (Sp.pick [0] SF rfl)
  clear S4 S5 SF hgv hb4
  generalize hgo : goodB (n : Int) ML = g at *
  go_wp2_with fail
  subst hgo
  exact bodyPost_ret (v := .tuple #[.agg #[.int .i64 va, .slice A' n' c''], .bool (goodB n ML)]) (by simp [results, Tryz.results7, go_sem, j0, j1]) rfl (CnfR.of SF2.out h1.out h2.out)
end Go.Proofs.YtahbepajeplcmaaGreat

/- Plain facts: diagrams, their values, and the plan of values. No program in sight. -/
namespace Go.Proofs.YtahbepajeplcmaaGreat

/-- A node: variable, low, high. -/
structure Nd where
  v : Int
  lo : Int
  hi : Int
  deriving DecidableEq

/-- The value of a number, where the nodes have these values. -/
def pv (acc : List Bool) (k : Int) : Bool := if k < 2 then decide (k = 1) else acc.getD (k - 2).toNat false
def bitN (bits : Nat) (v : Int) : Bool := bits.testBit (v - 1).toNat
def kid (bits : Nat) (n : Nd) : Int := if bitN bits n.v then n.hi else n.lo
/-- The values of all nodes. -/
def valsN (bits : Nat) (ns : List Nd) : List Bool := ns.foldl (fun acc n => acc ++ [pv acc (kid bits n)]) []
def valD (r : Int) (ns : List Nd) (bits : Nat) : Bool := pv (valsN bits ns) r

theorem vals_snoc (bits : Nat) (ns : List Nd) (n : Nd) : valsN bits (ns ++ [n]) = valsN bits ns ++ [pv (valsN bits ns) (kid bits n)] := by
  simp [valsN]
theorem foldl_vals_len (bits : Nat) (ns : List Nd) : ∀ acc : List Bool, (ns.foldl (fun acc n => acc ++ [pv acc (kid bits n)]) acc).length = acc.length + ns.length := by
  induction ns with
  | nil => intro acc; rfl
  | cons n ns ih => intro acc; simp only [List.foldl_cons]; rw [ih]; simp; omega
theorem vals_len (bits : Nat) (ns : List Nd) : (valsN bits ns).length = ns.length := by
  unfold valsN; rw [foldl_vals_len]; simp
theorem foldl_vals_pre (bits : Nat) (ns : List Nd) : ∀ acc : List Bool, ∃ l, ns.foldl (fun acc n => acc ++ [pv acc (kid bits n)]) acc = acc ++ l := by
  induction ns with
  | nil => intro acc; exact ⟨[], by simp⟩
  | cons n ns ih =>
    intro acc
    obtain ⟨l, hl⟩ := ih (acc ++ [pv acc (kid bits n)])
    exact ⟨pv acc (kid bits n) :: l, by simp only [List.foldl_cons]; rw [hl]; simp⟩
theorem vals_pre (bits : Nat) (ns ms : List Nd) : ∃ l, valsN bits (ns ++ ms) = valsN bits ns ++ l := by
  unfold valsN
  rw [List.foldl_append]
  exact foldl_vals_pre bits ms _
theorem pv_bool (acc : List Bool) (x : Bool) : pv acc (if x then 1 else 0) = x := by cases x <;> simp [pv]
theorem pv_pre {acc l : List Bool} {k : Int} (h : k ≤ acc.length + 1) : pv (acc ++ l) k = pv acc k := by
  unfold pv
  by_cases h2 : k < 2
  · rw [if_pos h2, if_pos h2]
  · rw [if_neg h2, if_neg h2, List.getD_eq_getElem?_getD, List.getD_eq_getElem?_getD, List.getElem?_append_left (by omega)]
theorem valD_pre {r : Int} {ns ms : List Nd} {bits : Nat} (h : r ≤ ns.length + 1) : valD r (ns ++ ms) bits = valD r ns bits := by
  obtain ⟨l, hl⟩ := vals_pre bits ns ms
  unfold valD
  rw [hl, pv_pre (by rw [vals_len]; omega)]
/-- The value of a node is that of its kid. -/
theorem vals_at {ns : List Nd} {i : Nat} (hi : i < ns.length) (bits : Nat) (h : kid bits ns[i] ≤ i + 1) : valD ((i : Int) + 2) ns bits = valD (kid bits ns[i]) ns bits := by
  have h1 : ns = ns.take i ++ (ns[i] :: ns.drop (i + 1)) := by rw [List.getElem_cons_drop, List.take_append_drop]
  have h2 : ns = (ns.take i ++ [ns[i]]) ++ ns.drop (i + 1) := by rw [List.append_assoc]; exact h1
  have hl : (ns.take i).length = i := by rw [List.length_take]; omega
  have e1 : valD ((i : Int) + 2) ns bits = valD ((i : Int) + 2) (ns.take i ++ [ns[i]]) bits := by
    conv => lhs; rw [h2]
    exact valD_pre (by rw [List.length_append, hl]; simp; omega)
  have e2 : valD (kid bits ns[i]) ns bits = valD (kid bits ns[i]) (ns.take i) bits := by
    conv => lhs; arg 2; rw [h1]
    exact valD_pre (by rw [hl]; omega)
  rw [e1, e2]
  unfold valD
  rw [vals_snoc]
  unfold pv
  rw [if_neg (by omega), List.getD_eq_getElem?_getD, show ((i : Int) + 2 - 2).toNat = i by omega, List.getElem?_append_right (by rw [vals_len, hl]; omega), vals_len, hl]
  simp

/-- Whether node i is valid. -/
def under (ns : List Nd) (v k : Int) : Bool := decide (k < 2) || decide (v < (ns.getD (k - 2).toNat ⟨0, 0, 0⟩).v)
def ndB (vars : Int) (ns : List Nd) (i : Nat) : Bool :=
  let n := ns.getD i ⟨0, 0, 0⟩
  inB n.v 1 vars && inB n.lo 0 (i + 1) && inB n.hi 0 (i + 1) && under ns n.v n.lo && under ns n.v n.hi
def ndsB (vars : Int) (ns : List Nd) (k : Nat) : Bool := (List.range k).all (ndB vars ns)
def goodD (vars r : Int) (ns : List Nd) : Bool := inB vars 0 6 && decide (ns.length ≤ 63) && inB r 0 (ns.length + 1) && ndsB vars ns ns.length
theorem ndsB_succ (vars : Int) (ns : List Nd) (k : Nat) : ndsB vars ns (k + 1) = (ndsB vars ns k && ndB vars ns k) := by simp [ndsB, List.range_succ]

/-- All nodes are valid. -/
def OkN (vars : Int) (ns : List Nd) : Prop := ∀ i, i < ns.length → ndB vars ns i = true
theorem ndsB_ok {vars : Int} {ns : List Nd} : ndsB vars ns ns.length = true ↔ OkN vars ns := by
  simp [ndsB, OkN]
theorem inB_def {x a b : Int} : inB x a b = true ↔ a ≤ x ∧ x ≤ b := by simp [inB]
theorem ndB_get {vars : Int} {ns : List Nd} {i : Nat} (hi : i < ns.length) : ndB vars ns i = true ↔
    ((1 ≤ ns[i].v ∧ ns[i].v ≤ vars) ∧ (0 ≤ ns[i].lo ∧ ns[i].lo ≤ i + 1) ∧ (0 ≤ ns[i].hi ∧ ns[i].hi ≤ i + 1) ∧ under ns ns[i].v ns[i].lo = true ∧ under ns ns[i].v ns[i].hi = true) := by
  unfold ndB
  rw [List.getD_eq_getElem?_getD, List.getElem?_eq_getElem hi]
  simp only [Option.getD_some, Bool.and_eq_true, inB_def, and_assoc]
theorem kid_le {vars : Int} {ns : List Nd} (h : OkN vars ns) {i : Nat} (hi : i < ns.length) (bits : Nat) : 0 ≤ kid bits ns[i] ∧ kid bits ns[i] ≤ i + 1 := by
  obtain ⟨_, h2, h3, _⟩ := (ndB_get hi).1 (h i hi)
  unfold kid
  split
  · exact h3
  · exact h2
theorem under_pre {ns ms : List Nd} {v k : Int} (h : k ≤ ns.length + 1) : under (ns ++ ms) v k = under ns v k := by
  unfold under
  by_cases h2 : k < 2
  · simp [h2]
  · rw [List.getD_eq_getElem?_getD, List.getD_eq_getElem?_getD, List.getElem?_append_left (by omega)]
theorem OkN.snoc {vars : Int} {ns : List Nd} {n : Nd} (h : OkN vars ns) (hv : 1 ≤ n.v ∧ n.v ≤ vars) (hl : 0 ≤ n.lo ∧ n.lo ≤ ns.length + 1) (hh : 0 ≤ n.hi ∧ n.hi ≤ ns.length + 1)
    (ul : under ns n.v n.lo = true) (uh : under ns n.v n.hi = true) : OkN vars (ns ++ [n]) := by
  intro i hi
  rw [ndB_get hi]
  rw [List.length_append, List.length_singleton] at hi
  by_cases hlt : i < ns.length
  · obtain ⟨h1, h2, h3, h4, h5⟩ := (ndB_get hlt).1 (h i hlt)
    rw [List.getElem_append_left hlt]
    exact ⟨h1, h2, h3, by rw [under_pre (by omega)]; exact h4, by rw [under_pre (by omega)]; exact h5⟩
  · obtain rfl : i = ns.length := by omega
    simp only [List.getElem_concat_length]
    exact ⟨hv, hl, hh, by rw [under_pre hl.2]; exact ul, by rw [under_pre hh.2]; exact uh⟩

/-- A node that is put there, unless it is there. -/
def addN (ns : List Nd) (n : Nd) : List Nd × Int := if n ∈ ns then (ns, (ns.idxOf n : Nat) + 2) else (ns ++ [n], (ns.length : Nat) + 2)
/-- The plan of values, for the last k variables. -/
def planF (f : Nat → Bool) : Nat → Nat → Nat → List Nd → List Nd × Int
  | 0, _, bits, ns => (ns, if f bits then 1 else 0)
  | k + 1, v, bits, ns =>
    if (planF f k (v + 1) bits ns).2 = (planF f k (v + 1) (bits + 2 ^ (v - 1)) (planF f k (v + 1) bits ns).1).2 then ((planF f k (v + 1) (bits + 2 ^ (v - 1)) (planF f k (v + 1) bits ns).1).1, (planF f k (v + 1) bits ns).2)
    else addN (planF f k (v + 1) (bits + 2 ^ (v - 1)) (planF f k (v + 1) bits ns).1).1 ⟨v, (planF f k (v + 1) bits ns).2, (planF f k (v + 1) (bits + 2 ^ (v - 1)) (planF f k (v + 1) bits ns).1).2⟩
def dgR (vars : Nat) (f : Nat → Bool) : Int := (planF f vars 1 0 []).2
def dgN (vars : Nat) (f : Nat → Bool) : List Nd := (planF f vars 1 0 []).1

theorem testBit_mod (b v : Nat) (hv : 1 ≤ v) : b % 2 ^ v = b % 2 ^ (v - 1) + (if b.testBit (v - 1) then 2 ^ (v - 1) else 0) := by
  obtain ⟨u, rfl⟩ : ∃ u, v = u + 1 := ⟨v - 1, by omega⟩
  rw [Nat.add_sub_cancel, Nat.mod_pow_succ]
  have : b.testBit u = decide (b / 2 ^ u % 2 = 1) := by
    rw [Nat.testBit_eq_decide_div_mod_eq]
  rw [this]
  rcases Nat.mod_two_eq_zero_or_one (b / 2 ^ u) with h | h
  · rw [h]; simp
  · rw [h]; simp

/-- What the plan has made. -/
structure Made (vars v bits k : Nat) (f : Nat → Bool) (ns : List Nd) (ns' : List Nd) (r : Int) : Prop where
  pre : ∃ ms, ns' = ns ++ ms
  ok : OkN vars ns'
  len : ns'.length + 1 ≤ ns.length + 2 ^ k
  r0 : 0 ≤ r
  r1 : r ≤ ns'.length + 1
  up : ∀ u : Int, u < v → under ns' u r = true
  val : ∀ b, b < 2 ^ vars → b % 2 ^ (v - 1) = bits → valD r ns' b = f b

theorem plan_made (f : Nat → Bool) (vars : Nat) : ∀ (k v bits : Nat) (ns : List Nd), v + k = vars + 1 → 1 ≤ v → bits < 2 ^ (v - 1) → OkN vars ns → Made vars v bits k f ns (planF f k v bits ns).1 (planF f k v bits ns).2
  | 0, v, bits, ns, hk, hv, hb, hok => by
    obtain rfl : v = vars + 1 := by omega
    rw [Nat.add_sub_cancel] at hb
    refine ⟨⟨[], by simp [planF]⟩, hok, by simp [planF], ?_, ?_, ?_, ?_⟩
    · simp only [planF]; split <;> decide
    · simp only [planF]; split <;> omega
    · intro u _; simp only [planF, under]; split <;> simp
    · intro b hb2 he
      rw [Nat.add_sub_cancel, Nat.mod_eq_of_lt hb2] at he
      subst he
      exact pv_bool (valsN b ns) (f b)
  | k + 1, v, bits, ns, hk, hv, hb, hok => by
    have hp : 2 ^ (v + 1 - 1) = 2 ^ (v - 1) + 2 ^ (v - 1) := by
      rw [show v + 1 - 1 = (v - 1) + 1 by omega, Nat.pow_succ]; omega
    have m1 := plan_made f vars k (v + 1) bits ns (by omega) (by omega) (by omega) hok
    rw [planF]
    generalize hA : planF f k (v + 1) bits ns = A at m1 ⊢
    obtain ⟨ns1, lo⟩ := A
    have m2 := plan_made f vars k (v + 1) (bits + 2 ^ (v - 1)) ns1 (by omega) (by omega) (by omega) m1.ok
    generalize hB : planF f k (v + 1) (bits + 2 ^ (v - 1)) ns1 = B at m2 ⊢
    obtain ⟨ns2, hi⟩ := B
    clear hA hB
    dsimp only at m1 m2 ⊢
    obtain ⟨p1, hp1⟩ := m1.pre
    obtain ⟨p2, hp2⟩ := m2.pre
    have hlo1 : lo ≤ ns2.length + 1 := by
      have := m1.r1
      rw [hp2, List.length_append]; omega
    have hlen : ns2.length + 1 + 1 ≤ ns.length + 2 ^ (k + 1) := by
      have h1 := m1.len
      have h2 := m2.len
      rw [Nat.pow_succ]; omega
    have hvlo : ∀ b, valD lo ns2 b = valD lo ns1 b := fun b => by rw [hp2]; exact valD_pre m1.r1
    have hulo : ∀ u : Int, u < (v + 1 : Nat) → under ns2 u lo = true := fun u hu => by rw [hp2, under_pre m1.r1]; exact m1.up u hu
    have hval : ∀ b, b < 2 ^ vars → b % 2 ^ (v - 1) = bits → (if b.testBit (v - 1) then valD hi ns2 b else valD lo ns2 b) = f b := by
      intro b hb2 he
      have hm := testBit_mod b v hv
      rw [he] at hm
      cases ht : b.testBit (v - 1)
      · rw [ht] at hm
        simp only [Bool.false_eq_true, if_false, Nat.add_zero] at hm
        rw [if_neg (by simp), hvlo]
        exact m1.val b hb2 (by rw [Nat.add_sub_cancel]; exact hm)
      · rw [ht] at hm
        simp only [if_true] at hm
        rw [if_pos rfl]
        exact m2.val b hb2 (by rw [Nat.add_sub_cancel]; exact hm)
    by_cases e : lo = hi
    · rw [if_pos e]
      subst e
      refine ⟨⟨p1 ++ p2, by rw [← List.append_assoc, ← hp1]; exact hp2⟩, m2.ok, by dsimp only; omega, m2.r0, m2.r1, fun u hu => m2.up u (by omega), fun b hb2 he => ?_⟩
      have := hval b hb2 he
      rw [ite_self] at this
      exact this
    · rw [if_neg e]
      have hkid : ∀ b : Nat, kid b ⟨v, lo, hi⟩ = if b.testBit (v - 1) then hi else lo := fun b => by
        unfold kid bitN
        rw [show ((v : Int) - 1).toNat = v - 1 by omega]
      have hvk : ∀ b, b < 2 ^ vars → b % 2 ^ (v - 1) = bits → valD (kid b ⟨v, lo, hi⟩) ns2 b = f b := by
        intro b hb2 he
        rw [hkid, ← hval b hb2 he]
        split <;> rfl
      unfold addN
      by_cases hin : (⟨v, lo, hi⟩ : Nd) ∈ ns2
      · rw [if_pos hin]
        have hil := List.idxOf_lt_length_of_mem hin
        have hget : ns2[ns2.idxOf (⟨v, lo, hi⟩ : Nd)] = ⟨v, lo, hi⟩ := List.getElem_idxOf hil
        refine ⟨⟨p1 ++ p2, by rw [← List.append_assoc, ← hp1]; exact hp2⟩, m2.ok, by dsimp only; omega, by dsimp only; omega, by dsimp only; omega, fun u hu => ?_, fun b hb2 he => ?_⟩
        · unfold under
          rw [List.getD_eq_getElem?_getD, show (((ns2.idxOf (⟨v, lo, hi⟩ : Nd) : Nat) : Int) + 2 - 2).toNat = ns2.idxOf (⟨v, lo, hi⟩ : Nd) by omega, List.getElem?_eq_getElem hil, hget]
          simp only [Option.getD_some, Bool.or_eq_true, decide_eq_true_eq]
          omega
        · have hkl := (kid_le m2.ok hil b).2
          dsimp only
          rw [vals_at hil b hkl, hget]
          exact hvk b hb2 he
      · rw [if_neg hin]
        refine ⟨⟨p1 ++ p2 ++ [⟨v, lo, hi⟩], by dsimp only; rw [← List.append_assoc, ← List.append_assoc, ← hp1, ← hp2]⟩, ?_, by dsimp only; rw [List.length_append, List.length_singleton]; omega, by dsimp only; omega, by dsimp only; rw [List.length_append, List.length_singleton]; omega, fun u hu => ?_, fun b hb2 he => ?_⟩
        · refine m2.ok.snoc ⟨by dsimp only; omega, by dsimp only; omega⟩ ⟨m1.r0, hlo1⟩ ⟨m2.r0, m2.r1⟩ (hulo _ (by dsimp only; omega)) (m2.up _ (by dsimp only; omega))
        · unfold under
          rw [List.getD_eq_getElem?_getD, show ((ns2.length : Int) + 2 - 2).toNat = ns2.length by omega, List.getElem?_concat_length]
          simp only [Option.getD_some, Bool.or_eq_true, decide_eq_true_eq]
          omega
        · have hkl : kid b (⟨v, lo, hi⟩ : Nd) ≤ ns2.length + 1 := by
            rw [hkid]; split
            · exact m2.r1
            · exact hlo1
          have h3 := vals_at (ns := ns2 ++ [⟨v, lo, hi⟩]) (i := ns2.length) (by simp) b (by simpa using hkl)
          dsimp only
          rw [h3, List.getElem_concat_length rfl, valD_pre hkl]
          exact hvk b hb2 he

theorem plan_len (f : Nat → Bool) : ∀ (k v bits : Nat) (ns : List Nd), (planF f k v bits ns).1.length + 1 ≤ ns.length + 2 ^ k
  | 0, v, bits, ns => by simp [planF]
  | k + 1, v, bits, ns => by
    have h1 := plan_len f k (v + 1) bits ns
    rw [planF]
    generalize planF f k (v + 1) bits ns = A at h1 ⊢
    have h2 := plan_len f k (v + 1) (bits + 2 ^ (v - 1)) A.1
    generalize planF f k (v + 1) (bits + 2 ^ (v - 1)) A.1 = B at h2 ⊢
    rw [Nat.pow_succ]
    split
    · dsimp only; omega
    · unfold addN
      split
      · dsimp only; omega
      · simp only [List.length_append, List.length_singleton]; omega
theorem plan_congr {f g : Nat → Bool} (vars : Nat) (h : ∀ b, b < 2 ^ vars → f b = g b) : ∀ (k v bits : Nat) (ns : List Nd), v + k = vars + 1 → 1 ≤ v → bits < 2 ^ (v - 1) → planF f k v bits ns = planF g k v bits ns
  | 0, v, bits, ns, hk, hv, hb => by
    obtain rfl : v = vars + 1 := by omega
    rw [Nat.add_sub_cancel] at hb
    simp only [planF, h bits hb]
  | k + 1, v, bits, ns, hk, hv, hb => by
    have hp : 2 ^ (v + 1 - 1) = 2 ^ (v - 1) + 2 ^ (v - 1) := by
      rw [show v + 1 - 1 = (v - 1) + 1 by omega, Nat.pow_succ]; omega
    rw [planF, planF, plan_congr vars h k (v + 1) bits ns (by omega) (by omega) (by omega), plan_congr vars h k (v + 1) (bits + 2 ^ (v - 1)) _ (by omega) (by omega) (by omega)]

theorem dg_made (vars : Nat) (f : Nat → Bool) : Made vars 1 0 vars f [] (dgN vars f) (dgR vars f) :=
  plan_made f vars vars 1 0 [] (by omega) (by omega) (by decide) (fun i hi => by simp at hi)
theorem dg_val {vars : Nat} {f : Nat → Bool} {b : Nat} (h : b < 2 ^ vars) : valD (dgR vars f) (dgN vars f) b = f b :=
  (dg_made vars f).val b h (Nat.mod_one b)
theorem dg_len {vars : Nat} (f : Nat → Bool) (h : vars ≤ 6) : (dgN vars f).length ≤ 63 := by
  have h1 := (dg_made vars f).len
  have h2 : 2 ^ vars ≤ 2 ^ 6 := Nat.pow_le_pow_right (by decide) h
  simp at h1; omega
theorem dg_good {vars : Nat} (f : Nat → Bool) (h : vars ≤ 6) : goodD vars (dgR vars f) (dgN vars f) = true := by
  have hm := dg_made vars f
  unfold goodD
  rw [Bool.and_eq_true, Bool.and_eq_true, Bool.and_eq_true, inB_def, inB_def, decide_eq_true_eq, ndsB_ok]
  exact ⟨⟨⟨⟨by omega, by omega⟩, dg_len f h⟩, hm.r0, hm.r1⟩, hm.ok⟩
theorem dg_congr {vars : Nat} {f g : Nat → Bool} (h : ∀ b, b < 2 ^ vars → f b = g b) : dgN vars f = dgN vars g ∧ dgR vars f = dgR vars g := by
  unfold dgN dgR
  rw [plan_congr vars h vars 1 0 [] (by omega) (by omega) (by decide)]
  exact ⟨rfl, rfl⟩

/-- How often a value is true. -/
def cntB (vars : Nat) (f : Nat → Bool) : Nat := (List.range (2 ^ vars)).countP f
theorem cnt_congr {vars : Nat} {f g : Nat → Bool} (h : ∀ b, b < 2 ^ vars → f b = g b) : cntB vars f = cntB vars g := by
  unfold cntB
  exact List.countP_congr fun b hb => by rw [h b (List.mem_range.1 hb)]
theorem cnt_and_or (vars : Nat) (f g : Nat → Bool) : cntB vars f + cntB vars g = cntB vars (fun b => f b && g b) + cntB vars (fun b => f b || g b) := by
  unfold cntB
  induction List.range (2 ^ vars) with
  | nil => rfl
  | cons b l ih =>
    simp only [List.countP_cons]
    cases f b <;> cases g b <;> simp <;> omega
/-- Bits in which the variable of a literal is set such that the literal is true. -/
def setB (bits : Nat) (l : Int) : Nat := if 0 < l then bits ||| 2 ^ (l - 1).toNat else bits &&& (2 ^ 63 - 1 - 2 ^ (-l - 1).toNat)
end Go.Proofs.YtahbepajeplcmaaGreat

/- Memory facts: rows of flat elements that are made and then filled, element by element. No program in sight. -/
namespace Go.Proofs.YtahbepajeplcmaaGreat
open Go.RowKit

/-- The elements f 0, f 1, .. lie in block B, one behind the other, and may be written. -/
def FlatAt {α : Type} (enc : α → List Value) (n B len : Nat) (f : Nat → α) (w : World) : Prop := ∀ j, j < len → ∀ (i : Nat) (u : Value), (enc (f j))[i]? = some u → cellIs true w B (j * n + i) u

section
variable {α : Type} {enc : α → List Value} {n B len : Nat} {f : Nat → α} {w w' : World}
theorem FlatAt.grow (h : FlatAt enc n B len f w) (hb : Below w.heap.size w w') : FlatAt enc n B len f w' := fun j hj i u hu =>
  (h j hj i u hu).keep (hb.block B (h j hj i u hu).lt)
theorem FlatAt.mono {len' : Nat} {g : Nat → α} (h : FlatAt enc n B len f w) (hl : len' ≤ len) (hg : ∀ j, j < len' → g j = f j) : FlatAt enc n B len' g w := fun j hj i u hu =>
  h j (by omega) i u (by rw [← hg j hj]; exact hu)
theorem FlatAt.cell (h : FlatAt enc n B len f w) {j : Nat} (hj : j < len) {i : Nat} {u : Value} (hu : (enc (f j))[i]? = some u) : w.cell? ⟨B, j * n + i, none⟩ = some u := (h j hj i u hu).1
theorem FlatAt.frozen (h : FlatAt enc n B len f w) {j : Nat} (hj : j < len) {i : Nat} {u : Value} (hu : (enc (f j))[i]? = some u) : w.frozen? ⟨B, j * n + i, none⟩ = false := (h j hj i u hu).2 rfl
/-- Behind make: every element is the zero value. -/
theorem FlatAt.made {base : Nat} {e : TypeId} {cap : Nat} {z : α} {zc : Array Value} (hz : enc z = zc.toList) (hn : zc.size = n) (h : w.ownsRow base e n (.slice (some ⟨B, 0, none⟩) len cap) len (madeCells zc (len * n)).toList) : FlatAt enc n B len (fun _ => z) w := by
  intro j hj i u hu
  have hi : i < n := by
    have := (List.getElem?_eq_some_iff.1 hu).1
    rw [hz, Array.length_toList, hn] at this
    exact this
  have hlt : j * n + i < len * n := by
    have : (j + 1) * n ≤ len * n := Nat.mul_le_mul_right n hj
    rw [Nat.add_mul] at this; omega
  refine ⟨?_, fun _ => h.frozenAt _⟩
  rw [h.cellAt _ hlt, Array.getElem?_toList]
  have hm : (j * n + i) % n = i := by rw [Nat.mul_comm, Nat.mul_add_mod, Nat.mod_eq_of_lt hi]
  rw [hz, Array.getElem?_toList] at hu
  unfold madeCells
  rw [Array.getElem?_map, Array.getElem?_range, if_pos hlt]
  simp only [Option.map_some, hn, hm]
  rw [getElem!_def, hu]
/-- The finished row. -/
theorem FlatAt.row {good : α → Prop} {hne : ∀ x, (enc x).length = n} {xs : List α} {z : α} {cap : Nat} (h : FlatAt enc n B xs.length (fun j => xs.getD j z) w) (hg : ∀ x ∈ xs, good x) (h1 : xs.length ≤ cap) (h2 : cap ≤ 9223372036854775807) (hx : xs ≠ []) (h0 : 0 < n) :
    (Ty.flat n enc good hne).row true w (.slice (some ⟨B, 0, none⟩) xs.length cap) xs [B] := by
  refine row_flat_mk hg h1 h2 hx h0 fun j hj i u hu => ?_
  rw [Nat.zero_add]
  refine h j hj i u ?_
  show (enc (xs.getD j z))[i]? = some u
  rw [List.getD_eq_getElem?_getD, List.getElem?_eq_getElem hj]
  exact hu
theorem set_ne' (w : World) {b o o' : Nat} {u : Value} (h : o ≠ o') : (w.setCell ⟨b, o, none⟩ u).cell? ⟨b, o', none⟩ = w.cell? ⟨b, o', none⟩ := World.cell?_setCell_other w _ _ _ (by simp only [ne_eq, Addr.mk.injEq]; omega)
theorem set_eq' (w : World) {b o : Nat} {u v : Value} (h : w.cell? ⟨b, o, none⟩ = some v) : (w.setCell ⟨b, o, none⟩ u).cell? ⟨b, o, none⟩ = some u := World.cell?_setCell_same' _ _ _ (by rw [h]; rfl)
/-- An element of one cell is stored. -/
theorem FlatAt.set1 {f : Nat → α} (hn : ∀ x, (enc x).length = 1) (h : FlatAt enc 1 B len f w) {k : Nat} {x : α} {u0 : Value} (he : enc x = [u0]) :
    FlatAt enc 1 B len (fun j => if j = k then x else f j) (w.setCell ⟨B, k, none⟩ u0) := by
  intro j hj i u hu
  have hi : i < 1 := by have := (List.getElem?_eq_some_iff.1 hu).1; rwa [hn] at this
  obtain rfl : i = 0 := by omega
  have hold : ∃ v, (enc (f j))[0]? = some v := ⟨_, List.getElem?_eq_getElem (by rw [hn]; decide)⟩
  obtain ⟨v, hv⟩ := hold
  have hc := h j hj 0 v hv
  refine ⟨?_, fun _ => by rw [World.frozen?_setCell]; exact hc.2 rfl⟩
  by_cases e : j = k
  · subst e
    simp only [if_true, he] at hu
    simp at hu; subst hu
    have := hc.1
    rw [Nat.mul_one, Nat.add_zero] at this ⊢
    exact set_eq' w this
  · simp only [if_neg e] at hu
    rw [set_ne' w (by omega)]
    rw [hv] at hu; cases hu
    exact hc.1
/-- An element of two cells is stored. -/
theorem FlatAt.set2 {f : Nat → α} (hn : ∀ x, (enc x).length = 2) (h : FlatAt enc 2 B len f w) {k : Nat} {x : α} {u0 u1 : Value} (he : enc x = [u0, u1]) :
    FlatAt enc 2 B len (fun j => if j = k then x else f j) ((w.setCell ⟨B, k * 2, none⟩ u0).setCell ⟨B, k * 2 + 1, none⟩ u1) := by
  intro j hj i u hu
  have hi : i < 2 := by have := (List.getElem?_eq_some_iff.1 hu).1; rwa [hn] at this
  obtain ⟨v, hv⟩ : ∃ v, (enc (f j))[i]? = some v := ⟨_, List.getElem?_eq_getElem (by rw [hn]; exact hi)⟩
  have hc := h j hj i v hv
  refine ⟨?_, fun _ => by rw [World.frozen?_setCell, World.frozen?_setCell]; exact hc.2 rfl⟩
  by_cases e : j = k
  · subst e
    simp only [if_true, he] at hu
    match i, hi, hu with
    | 0, _, hu =>
      simp at hu; subst hu
      rw [set_ne' _ (by omega)]
      exact set_eq' w hc.1
    | 1, _, hu =>
      simp at hu; subst hu
      exact set_eq' _ ((set_ne' w (by omega)).trans hc.1)
  · simp only [if_neg e] at hu
    rw [set_ne' _ (by omega), set_ne' w (by omega)]
    rw [hv] at hu; cases hu
    exact hc.1
/-- An element of four cells is stored. -/
theorem FlatAt.set4 {f : Nat → α} (hn : ∀ x, (enc x).length = 4) (h : FlatAt enc 4 B len f w) {k : Nat} {x : α} {u0 u1 u2 u3 : Value} (he : enc x = [u0, u1, u2, u3]) :
    FlatAt enc 4 B len (fun j => if j = k then x else f j) ((((w.setCell ⟨B, k * 4, none⟩ u0).setCell ⟨B, k * 4 + 1, none⟩ u1).setCell ⟨B, k * 4 + 2, none⟩ u2).setCell ⟨B, k * 4 + 3, none⟩ u3) := by
  intro j hj i u hu
  have hi : i < 4 := by have := (List.getElem?_eq_some_iff.1 hu).1; rwa [hn] at this
  obtain ⟨v, hv⟩ : ∃ v, (enc (f j))[i]? = some v := ⟨_, List.getElem?_eq_getElem (by rw [hn]; exact hi)⟩
  have hc := h j hj i v hv
  refine ⟨?_, fun _ => by rw [World.frozen?_setCell, World.frozen?_setCell, World.frozen?_setCell, World.frozen?_setCell]; exact hc.2 rfl⟩
  by_cases e : j = k
  · subst e
    simp only [if_true, he] at hu
    match i, hi, hu with
    | 0, _, hu =>
      simp at hu; subst hu
      rw [set_ne' _ (by omega), set_ne' _ (by omega), set_ne' _ (by omega)]
      exact set_eq' w hc.1
    | 1, _, hu =>
      simp at hu; subst hu
      rw [set_ne' _ (by omega), set_ne' _ (by omega)]
      exact set_eq' _ ((set_ne' w (by omega)).trans hc.1)
    | 2, _, hu =>
      simp at hu; subst hu
      rw [set_ne' _ (by omega)]
      exact set_eq' _ ((set_ne' _ (by omega)).trans ((set_ne' w (by omega)).trans hc.1))
    | 3, _, hu =>
      simp at hu; subst hu
      exact set_eq' _ ((set_ne' _ (by omega)).trans ((set_ne' _ (by omega)).trans ((set_ne' w (by omega)).trans hc.1)))
  · simp only [if_neg e] at hu
    rw [set_ne' _ (by omega), set_ne' _ (by omega), set_ne' _ (by omega), set_ne' w (by omega)]
    rw [hv] at hu; cases hu
    exact hc.1
end

/-- What has been copied so far: the first k elements, zeros behind. -/
def filled {α : Type} (xs : List α) (z : α) (k : Nat) (j : Nat) : α := if j < k then xs.getD j z else z
theorem filled_zero {α : Type} (xs : List α) (z : α) : filled xs z 0 = fun _ => z := by funext j; simp [filled]
theorem filled_succ {α : Type} (xs : List α) (z : α) (k : Nat) (hk : k < xs.length) : filled xs z (k + 1) = fun j => if j = k then xs[k] else filled xs z k j := by
  funext j
  unfold filled
  by_cases e : j = k
  · subst e
    rw [if_pos (by omega), if_pos rfl, List.getD_eq_getElem?_getD, List.getElem?_eq_getElem hk]; rfl
  · rw [if_neg e]
    by_cases h : j < k
    · rw [if_pos (by omega), if_pos h]
    · rw [if_neg (by omega), if_neg h]
theorem FlatAt.done {α : Type} {enc : α → List Value} {n B : Nat} {w : World} {xs : List α} {z : α} (h : FlatAt enc n B xs.length (filled xs z xs.length) w) : FlatAt enc n B xs.length (fun j => xs.getD j z) w :=
  h.mono (Nat.le_refl _) fun j hj => by unfold filled; rw [if_pos hj]
end Go.Proofs.YtahbepajeplcmaaGreat

/- Contracts: diagrams in memory; valid ones; values. -/
namespace Go.Proofs.YtahbepajeplcmaaGreat
open Go.RowKit

/-- A node in memory: three cells. -/
def ndEnc (n : Nd) : List Value := [.int .i64 n.v, .int .i64 n.lo, .int .i64 n.hi]
def ndOk (n : Nd) : Prop := I64 n.v ∧ I64 n.lo ∧ I64 n.hi
abbrev ndTy : Ty Nd := Ty.flat 3 ndEnc ndOk (fun _ => rfl)
abbrev ndV (n : Nd) : Value := .agg #[.int .i64 n.v, .int .i64 n.lo, .int .i64 n.hi]
/-- The three cells of each node. -/
theorem row_nd {wr : Bool} {w : World} {v : Value} {xs : List Nd} {F : List Nat} (h : ndTy.row wr w v xs F) :
    ∃ a cap, v = .slice a xs.length cap ∧ xs.length ≤ cap ∧ cap ≤ 9223372036854775807 ∧ (∀ x ∈ xs, ndOk x) ∧
      ((xs = [] ∧ F = []) ∨ (xs ≠ [] ∧ ∃ b off, a = some ⟨b, off, none⟩ ∧ F = [b] ∧ ∀ j (hj : j < xs.length), cellIs wr w b (off + j * 3) (.int .i64 xs[j].v) ∧ cellIs wr w b (off + j * 3 + 1) (.int .i64 xs[j].lo) ∧ cellIs wr w b (off + j * 3 + 2) (.int .i64 xs[j].hi))) := by
  obtain ⟨a, cap, rfl, h1, h2, h3, h4⟩ := row_flat h
  refine ⟨a, cap, rfl, h1, h2, h3, h4.imp id ?_⟩
  rintro ⟨_, hne, b, off, rfl, rfl, hc⟩
  exact ⟨hne, b, off, rfl, rfl, fun j hj => ⟨hc j hj 0 _ rfl, by have := hc j hj 1 _ rfl; rwa [← Nat.add_assoc] at this, by have := hc j hj 2 _ rfl; rwa [← Nat.add_assoc] at this⟩⟩
/-- A diagram as a value. -/
abbrev dgV (r : Int) (v : Value) : Value := .agg #[.int .i64 r, v]
/-- The nodes of a slice can be read. -/
structure NdAt (w : World) (A : Option Addr) (ns : List Nd) : Prop where
  at_ : ∀ j (hj : j < ns.length), ∃ b off, A = some ⟨b, off, none⟩ ∧ w.cell? ⟨b, off + j * 3, none⟩ = some (.int .i64 ns[j].v) ∧ w.cell? ⟨b, off + j * 3 + 1, none⟩ = some (.int .i64 ns[j].lo) ∧ w.cell? ⟨b, off + j * 3 + 2, none⟩ = some (.int .i64 ns[j].hi)
  ok : ∀ x ∈ ns, ndOk x
theorem nd_at {wr : Bool} {w : World} {v : Value} {xs : List Nd} {F : List Nat} (h : ndTy.row wr w v xs F) : ∃ A c, v = .slice A xs.length c ∧ xs.length ≤ c ∧ c ≤ 9223372036854775807 ∧ NdAt w A xs := by
  obtain ⟨a, c, rfl, h1, h2, h3, h4⟩ := row_nd h
  refine ⟨a, c, rfl, h1, h2, ⟨fun j hj => ?_, h3⟩⟩
  rcases h4 with ⟨rfl, _⟩ | ⟨_, b, off, rfl, _, hc⟩
  · exact absurd hj (by simp)
  · obtain ⟨p0, p1, p2⟩ := hc j hj
    exact ⟨b, off, rfl, p0.1, p1.1, p2.1⟩
theorem NdAt.grow {w w' : World} {A : Option Addr} {ns : List Nd} (h : NdAt w A ns) (hb : Below w.heap.size w w') : NdAt w' A ns := by
  refine ⟨fun j hj => ?_, h.ok⟩
  obtain ⟨b, off, e, h1, h2, h3⟩ := h.at_ j hj
  exact ⟨b, off, e, (hb.cell (World.block_lt_of_cell? _ _ h1)).trans h1, (hb.cell (World.block_lt_of_cell? _ _ h2)).trans h2, (hb.cell (World.block_lt_of_cell? _ _ h3)).trans h3⟩

theorem within_b {x a b : Int} {q : Bool} (h : inB x a b = q) (w : World) : Calls Tryz.prog 21 #[.int .i64 x, .int .i64 a, .int .i64 b] w fun e w' => e = .returned (.bool q) ∧ Below w.heap.size w w' :=
  (within_any x a b w).mono fun e w' ⟨h1, h2⟩ => ⟨by rw [h1, h], h2 ▸ bb _⟩
/- left out: the seat has no impl.isVar -/

/-- Whether a number may stand in node i of this variable. -/
def kidB (ns : List Nd) (v : Int) (i : Nat) (k : Int) : Bool := inB k 0 (i + 1) && under ns v k
theorem ndB_kids {vars : Int} {ns : List Nd} {i : Nat} (hi : i < ns.length) : ndB vars ns i = (inB ns[i].v 1 vars && kidB ns ns[i].v i ns[i].lo && kidB ns ns[i].v i ns[i].hi) := by
  unfold ndB kidB
  rw [List.getD_eq_getElem?_getD, List.getElem?_eq_getElem hi]
  simp only [Option.getD_some]
  cases inB ns[i].v 1 vars <;> cases inB ns[i].lo 0 (i + 1) <;> cases inB ns[i].hi 0 (i + 1) <;> simp

/- left out: the seat has no impl.bddOk -/

theorem nds_no {vars : Int} {ns : List Nd} {k : Nat} (hk : k < ns.length) (h : ndB vars ns k = false) : ndsB vars ns ns.length = false := by
  cases hh : ndsB vars ns ns.length
  · rfl
  · have := ndsB_ok.1 hh k hk
    rw [h] at this; cases this
theorem goodD_def (vars r : Int) (ns : List Nd) : goodD vars r ns = (inB vars 0 6 && decide (ns.length ≤ 63) && inB r 0 (ns.length + 1) && ndsB vars ns ns.length) := rfl

/- left out: the seat has no impl.IsDiagram -/
end Go.Proofs.YtahbepajeplcmaaGreat

/- Contracts: values of diagrams. -/
namespace Go.Proofs.YtahbepajeplcmaaGreat
open Go.RowKit

/-- Numbers of nodes lie ahead of the nodes; variables are from 1 on. -/
def WkN (ns : List Nd) : Prop := ∀ i (h : i < ns.length), 1 ≤ ns[i].v ∧ (0 ≤ ns[i].lo ∧ ns[i].lo ≤ i + 1) ∧ (0 ≤ ns[i].hi ∧ ns[i].hi ≤ i + 1)
theorem OkN.wk {vars : Int} {ns : List Nd} (h : OkN vars ns) : WkN ns := fun i hi => by
  obtain ⟨h1, h2, h3, _⟩ := (ndB_get hi).1 (h i hi)
  exact ⟨h1.1, h2, h3⟩
/-- A bit that is shifted to the end. -/
theorem bit_end (b : Nat) (hb : b < 2 ^ 62) (v : Int) (hv : 1 ≤ v) : bits .and .i64 ((b : Int) / 2 ^ min (v.toNat - 1) 64) 1 = if bitN b v then 1 else 0 := by
  have e0 : (b : Int) / 2 ^ min (v.toNat - 1) 64 = ((b / 2 ^ min (v.toNat - 1) 64 : Nat) : Int) := by
    rw [Int.natCast_ediv, Int.natCast_pow]; rfl
  rw [e0, and_one _ (Nat.lt_of_le_of_lt (Nat.div_le_self _ _) (Nat.lt_trans hb (by decide)))]
  have h64 : ∀ s, 64 ≤ s → b.testBit s = false := fun s hs => Nat.testBit_lt_two_pow (Nat.lt_of_lt_of_le hb (Nat.pow_le_pow_right (by decide) (by omega)))
  have e : bitN b v = b.testBit (min (v.toNat - 1) 64) := by
    unfold bitN
    rw [show (v - 1).toNat = v.toNat - 1 by omega]
    rcases Nat.lt_or_ge (v.toNat - 1) 64 with h | h
    · rw [Nat.min_eq_left (by omega)]
    · rw [h64 _ h, h64 _ (by omega)]
  rw [e, Nat.testBit_eq_decide_div_mod_eq]
  rcases Nat.mod_two_eq_zero_or_one (b / 2 ^ min (v.toNat - 1) 64) with h | h
  · rw [h]; simp
  · rw [h]; simp
theorem valD_low {κ : Int} (h : κ < 2) (ns : List Nd) (b : Nat) : valD κ ns b = decide (κ = 1) := by unfold valD pv; rw [if_pos h]

/- left out: the seat has no (loop.example/g01080/impl.Diagram).value -/

/- left out: the seat has no (loop.example/g01080/impl.Diagram).valueAt -/

/- left out: the seat has no spec.l26Value -/
end Go.Proofs.YtahbepajeplcmaaGreat

/- Contracts: the plan of values, in the program. -/
namespace Go.Proofs.YtahbepajeplcmaaGreat
open Go.RowKit

def idxN (ns : List Nd) (n : Nd) : Int := if n ∈ ns then (ns.idxOf n : Nat) else -1
theorem idx_here {ns : List Nd} {n : Nd} {k : Nat} (hk : k < ns.length) (h : n ∉ ns.take k) (e : ns[k] = n) : idxN ns n = k := by
  unfold idxN
  have hmem : n ∈ ns := e ▸ List.getElem_mem hk
  rw [if_pos hmem]
  have h1 : ns.idxOf n = k := by
    have h2 : ns = ns.take k ++ ns.drop k := (List.take_append_drop k ns).symm
    rw [h2, List.idxOf_append, if_neg h, List.length_take, Nat.min_eq_left (Nat.le_of_lt hk), ← List.getElem_cons_drop hk, e]
    simp
  rw [h1]
theorem idx_next {ns : List Nd} {n : Nd} {k : Nat} (hk : k < ns.length) (h : n ∉ ns.take k) (e : ns[k] ≠ n) : n ∉ ns.take (k + 1) := by
  rw [List.take_succ_eq_append_getElem hk]
  simp only [List.mem_append, List.mem_singleton, not_or]
  exact ⟨h, fun h2 => e h2.symm⟩

/- left out: the seat has no impl.BddNode -/

/- left out: the seat has no slices.Index[[]loop.example/g01080/impl.BddNode,loop.example/g01080/impl.BddNode] -/
end Go.Proofs.YtahbepajeplcmaaGreat

/- Contracts: the plan of values, in the program. -/
namespace Go.Proofs.YtahbepajeplcmaaGreat
open Go.RowKit

/-- An own row of nodes can be read. -/
theorem nd_own {w : World} {B : Nat} {e : TypeId} {v : Value} {ns : List Nd} (h : w.ownsRow B e 3 v ns.length (ns.flatMap ndEnc)) (hok : ∀ x ∈ ns, ndOk x) : ∃ A c, v = .slice A ns.length c ∧ NdAt w A ns := by
  obtain ⟨_, ⟨rfl, h0⟩ | ⟨g, cap, cur, rfl, _, hh, _, _, hs, ht⟩⟩ := h
  · exact ⟨none, 0, by rw [h0], fun j hj => absurd hj (by omega), hok⟩
  · refine ⟨_, cap, rfl, fun j hj => ⟨g, 0, rfl, ?_⟩, hok⟩
    have key : ∀ i u, i < 3 → (ndEnc ns[j])[i]? = some u → w.cell? ⟨g, j * 3 + i, none⟩ = some u := fun i u hi hu => by
      have := Nat.mul_le_mul_right 3 (show j + 1 ≤ ns.length by omega)
      rw [hown_cell hh ht (by omega), flat_get (enc := ndEnc) (n := 3) (fun _ => rfl) ns j hj i hi, hu]
    refine ⟨?_, ?_, ?_⟩
    · have := key 0 _ (by decide) rfl; rw [Nat.zero_add]; exact this
    · have := key 1 _ (by decide) rfl; rw [Nat.zero_add]; exact this
    · have := key 2 _ (by decide) rfl; rw [Nat.zero_add]; exact this
theorem nd_small {vars : Int} {ns : List Nd} (h : OkN vars ns) (hv : vars ≤ 6) (hl : ns.length ≤ 1000000) : ∀ x ∈ ns, ndOk x := by
  intro x hx
  obtain ⟨i, hi, rfl⟩ := List.getElem_of_mem hx
  obtain ⟨h1, h2, h3, _⟩ := (ndB_get hi).1 (h i hi)
  unfold ndOk I64
  omega

theorem i64_nat (a b : Nat) (ha : a < 2 ^ 62) (hb : b < 2 ^ 62) : bits .or .i64 (a : Int) (b : Int) = ((a ||| b : Nat) : Int) ∧ bits .and .i64 (a : Int) (b : Int) = ((a &&& b : Nat) : Int) := by
  have h := bits_nat .i64 62 (by decide) (fun n h0 h1 => by rw [IntKind.wrap_i64]; have : (2 : Int) ^ 62 = 4611686018427387904 := by decide
                                                            omega) a b ha hb
  exact ⟨h.2, h.1⟩
theorem pow_small {v : Nat} (hv : v ≤ 6) : wrap64 ((2 : Int) ^ v) = ((2 ^ v : Nat) : Int) ∧ 2 ^ v ≤ 64 := by
  match v, hv with
  | 0, _ | 1, _ | 2, _ | 3, _ | 4, _ | 5, _ | 6, _ => exact ⟨by unfold wrap64; decide, by decide⟩
theorem or_pow {b u : Nat} (hb : b < 2 ^ u) (hu : u ≤ 6) : bits .or .i64 (b : Int) (wrap64 ((2 : Int) ^ u)) = ((b + 2 ^ u : Nat) : Int) := by
  obtain ⟨h1, h2⟩ := pow_small hu
  rw [h1, (i64_nat b (2 ^ u) (by omega) (by omega)).1, Nat.or_comm]
  have := Nat.two_pow_add_eq_or_of_lt hb 1
  rw [Nat.mul_one] at this
  rw [← this, Nat.add_comm]

/- left out: the seat has no impl.BddNode -/

/- left out: the seat has no (*loop.example/g01080/impl.bddPlan).from -/
end Go.Proofs.YtahbepajeplcmaaGreat

/- Contracts: planned diagrams, in the program. -/
namespace Go.Proofs.YtahbepajeplcmaaGreat
open Go.RowKit

/-- A diagram that can be read. -/
def DgPost (w : World) (ns : List Nd) (v : Value) (w' : World) : Prop := ∃ A c, v = .slice A ns.length c ∧ NdAt w' A ns ∧ (∀ a, A = some a → w.heap.size ≤ a.block) ∧ Below w.heap.size w w'
theorem NdAt.keep {w w' : World} {A : Option Addr} {ns : List Nd} (h : NdAt w A ns) (hk : ∀ a, A = some a → w'.heap[a.block]? = w.heap[a.block]?) : NdAt w' A ns := by
  refine ⟨fun j hj => ?_, h.ok⟩
  obtain ⟨b, off, e, h1, h2, h3⟩ := h.at_ j hj
  have hc : ∀ o, w'.cell? ⟨b, o, none⟩ = w.cell? ⟨b, o, none⟩ := fun o => World.cell?_of_block (a := ⟨b, o, none⟩) (hk ⟨b, off, none⟩ e)
  exact ⟨b, off, e, (hc _).trans h1, (hc _).trans h2, (hc _).trans h3⟩
/-- A store into another block. -/
theorem NdAt.set {w : World} {A : Option Addr} {ns : List Nd} (h : NdAt w A ns) {g : Nat} (hg : ∀ a, A = some a → a.block ≠ g) (o : Nat) (u : Value) : NdAt (w.setCell ⟨g, o, none⟩ u) A ns :=
  h.keep fun a ha => Below.heap_setCell _ _ _ _ (hg a ha)
/- left out: the seat has no impl.planned -/
end Go.Proofs.YtahbepajeplcmaaGreat
