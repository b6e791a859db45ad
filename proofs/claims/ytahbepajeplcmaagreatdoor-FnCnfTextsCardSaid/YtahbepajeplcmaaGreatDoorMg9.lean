/- Lemmas and contracts for a law, put together out of several texts: CxG MdA MdB MdC MdD MdE MdF MdP MdT CoA CoB CoC MdR CoD SdA SdB OwnS SdC CoE CoI. -/
import Derived.Test.YtahbepajeplcmaaGreatDoorMg8
import Derived.Test.YtahbepajeplcmaaGreatDoorMg4
import Derived.Deep.DeepCutAuto
import Derived.Test.YtahbepajeplcmaaGreatDoorMg3
import Derived.Lib.SliceRun
import Derived.Lib.Hide
import Derived.Test.YtahbepajeplcmaaGreatDoorMg7
import Derived.Test.YtahbepajeplcmaaGreatDoorMg2
import Derived.Shelf.SlicesE.Kit
import Derived.Shelf.SlicesE.Delete
import Derived.Test.YtahbepajeplcmaaGreatDoorShelf
import Derived.Sort.OwnSortedInts
import Derived.Lib.SlicesCompact
import Derived.Lib.RowBridge
/- Contracts: clauses that are part of another one, and the clauses that no other one is a part of, in the reference. -/
namespace Go.Proofs.YtahbepajeplcmaaGreatDoor
open Go.RowKit

set_option maxHeartbeats 2000000 in
theorem l2Sub_any (x y : Value) (a b : List Int) (F G : List Nat) (w : World) (hx : Ty.int.row false w x a F) (hy : Ty.int.row false w y b G) (la : a.length ≤ 1000000) :
    Calls Tryz.prog 121 #[x, y] w fun e w' => e = .returned (.bool (a.all (hasI b))) ∧ w = w' := by
  obtain ⟨A, cap, rfl, hI⟩ := ints_row hx
  have hN := Lib.hid hI
  have hhas := Lib.hid (fun z => l2Has_at (x := z) hy rfl)
  clear hx hI hy
  go_enter Tryz.func121, Tryz.ntmps121
  go_wp2_with fail
  go_loopw [5] (fun i wr => ∃ k : Nat, k ≤ a.length ∧ i = .int .i64 k ∧ Hid ((a.take k).all (hasI b) = true) ∧ w = wr) (fun i _ => a.length - (intOf i).toNat)
  case atStart => exact ⟨0, Nat.zero_le _, rfl, by simp [Hid], rfl⟩
  case round =>
    obtain ⟨k, hk, rfl, HR, rfl⟩ := hrel
    by_cases hlt : k < a.length
    · obtain ⟨c, off, rfl, m0⟩ := hN.out.at_ k hlt
      have hh := Lib.hid (hhas.out a[k])
      have hstep : Hid ((a.take (k + 1)).all (hasI b) = hasI b a[k]) := by
        unfold Hid
        rw [List.take_succ_eq_append_getElem hlt, List.all_append, HR.out]; simp
      have hno : Hid (hasI b a[k] = false → a.all (hasI b) = false) := fun h => by
        rw [List.all_eq_false]
        exact ⟨_, List.getElem_mem hlt, by rw [h]; simp⟩
      generalize a[k] = z at *
      obtain ⟨q, hq⟩ : ∃ q, hasI b z = q := ⟨_, rfl⟩
      rw [hq] at hh hstep hno
      clear hq
      cases q
      · have hf := Lib.hid (hno.out rfl)
        go_wp2_with fail
        refine hh.out.mono ?_
        rintro e w2 ⟨rfl, rfl⟩
        go_wp2_with fail
        go_ret
        exact ⟨ret_bool hf.out.symm, rfl⟩
      · go_wp2_with fail
        refine hh.out.mono ?_
        rintro e w2 ⟨rfl, rfl⟩
        go_wp2_with fail
        go_roundw
        case rel => exact ⟨k + 1, by omega, by go_num, hstep, by trivial⟩
        case measure => simp [intOf]; omega
    · obtain rfl : k = a.length := by omega
      rw [List.take_length] at HR
      go_wp2_with fail
      go_ret
      exact ⟨ret_bool HR.out.symm, rfl⟩

/-- A clause is left out: another one is a part of it, or it came before. -/
def weakQ (xss : List (List Int)) (i j : Nat) : Bool := (xss.getD j []).all (hasI (xss.getD i [])) && (!(decide (xss.getD j [] = xss.getD i [])) || decide (j < i))
def weakTo (xss : List (List Int)) (i k : Nat) : Bool := (List.range k).any (weakQ xss i)
theorem weakTo_succ (xss : List (List Int)) (i k : Nat) : weakTo xss i (k + 1) = (weakTo xss i k || weakQ xss i k) := by simp [weakTo, List.range_succ, List.any_append]
/-- The clauses that stay, of the first k. -/
def leastK (xss : List (List Int)) (k : Nat) : List (List Int) := ((List.range k).filter fun i => !(weakTo xss i xss.length)).map fun i => xss.getD i []
theorem leastK_weak {xss : List (List Int)} {k : Nat} (h : weakTo xss k xss.length = true) : leastK xss (k + 1) = leastK xss k := by simp [leastK, List.range_succ, List.filter_append, h]
theorem leastK_keep {xss : List (List Int)} {k : Nat} (h : weakTo xss k xss.length = false) : leastK xss (k + 1) = leastK xss k ++ [xss.getD k []] := by simp [leastK, List.range_succ, List.filter_append, h]
theorem leastK_len (xss : List (List Int)) (k : Nat) : (leastK xss k).length ≤ k := by
  unfold leastK
  rw [List.length_map]
  have := List.length_filter_le (fun i => !(weakTo xss i xss.length)) (List.range k)
  rw [List.length_range] at this
  exact this
/-- The Cnf without weaker clauses. -/
def leastN (vars : Int) (xss : List (List Int)) : (Int × List (List Int)) × Bool := if goodB vars xss then ((vars, leastK xss xss.length), true) else ((0, []), false)

/-- Where the rows of a list lie. -/
theorem cls_cells {w : World} {A : Option Addr} {cap : Nat} {xss : List (List Int)} {F : List Nat} (h : (Ty.slice Ty.int).row false w (.slice A xss.length cap) xss F) :
    ∀ j (hj : j < xss.length), ∃ b off Bi ci Fj, A = some ⟨b, off, none⟩ ∧ w.cell? ⟨b, off + j, none⟩ = some (.slice Bi xss[j].length ci) ∧ Ty.int.row false w (.slice Bi xss[j].length ci) xss[j] Fj := by
  obtain ⟨a, c, e, h1, h2, h3⟩ := row_slices h
  cases e
  intro j hj
  rcases h3 with ⟨rfl, -⟩ | ⟨hne, b, off, rfl, -, hc⟩
  · simp at hj
  obtain ⟨u, Fk, hcell, hr, -⟩ := hc j hj
  obtain ⟨ua, uc, rfl, -, -⟩ := Ty.row_len hr
  exact ⟨b, off, ua, uc, Fk, rfl, hcell.1, hr⟩
theorem getD_at {xss : List (List Int)} {j : Nat} (h : j < xss.length) : xss.getD j [] = xss[j] := by rw [List.getD_eq_getElem?_getD, List.getElem?_eq_getElem h]; rfl

set_option maxRecDepth 100000 in
set_option maxHeartbeats 8000000 in
theorem specDropWeaker_any (vars : Int) (v : Value) (xss : List (List Int)) (F : List Nat) (w : World) (hx : (Ty.slice Ty.int).row false w v xss F) :
    Calls Tryz.prog 48 #[.agg #[.int .i64 vars, v]] w (CnfP (leastN vars xss) w) := by
  obtain ⟨A, cap, rfl, hI⟩ := cls_row hx
  obtain ⟨i1, hi, hz0, hz1, hz2⟩ := info_parts infoRow
  have S0 := ((Sp.start w).alloc_box #[.int .i64 vars, .slice A xss.length cap] 61).alloc_box #[.int .i64 0, .slice none 0 0] 61
  simp only [World.size_alloc] at S0
  have hgood := Lib.hid (l2Good_any vars _ xss F _ (Ty.row_below hx S0.below (Ty.row_lt hx)))
  have hcells := Lib.hid (cls_cells hx)
  have c0 := S0.cell (i := 1) rfl (o := 0) rfl
  have c1 := S0.cell (i := 1) rfl (o := 1) rfl
  replace S0 := Lib.hid S0
  clear hx hI
  cases h1 : goodB vars xss
  · have hR := Lib.hid (show leastN vars xss = ((0, []), false) from if_neg (by rw [h1]; decide))
    rw [h1] at hgood
    go_enter Tryz.func48, Tryz.ntmps48
    go_wp2_with fail
    refine hgood.out.mono ?_
    rintro e w1 ⟨rfl, hb1⟩
    have S1 := Lib.hid (S0.out.grow hb1)
    clear S0 hgood hb1 c0 c1 hcells
    have r0 := S1.out.cell (i := 0) rfl (o := 0) rfl
    have r1 := S1.out.cell (i := 0) rfl (o := 1) rfl
    have f0 := S1.out.frozen (i := 0) rfl 0
    have f1 := S1.out.frozen (i := 0) rfl 1
    have SF := (S1.out.store (i := 0) rfl 0 (.int .i64 0)).store (i := 0) rfl 1 (.slice none 0 0)
    have j0 := SF.cell (i := 0) rfl (o := 0) rfl
    have j1 := SF.cell (i := 0) rfl (o := 1) rfl
    have hB := Lib.hid SF.below
    clear SF
    go_wp2_with fail
    exact bodyPost_ret (v := .tuple #[.agg #[.int .i64 0, .slice none 0 0], .bool false]) (by simp [results, Tryz.results48, go_sem, j0, j1]) rfl (cnfP_no hR.out hB.out)
  · have hR := Lib.hid (show leastN vars xss = if true = true then ((vars, leastK xss xss.length), true) else ((0, []), false) from (if_pos h1).trans (if_pos rfl).symm)
    rw [h1] at hgood
    have hml := Lib.hid (good_mildC h1)
    obtain ⟨g1, g2, -⟩ := goodN_parts h1
    clear g1 h1
    go_enter Tryz.func48, Tryz.ntmps48
    go_wp2_with fail
    refine hgood.out.mono ?_
    rintro e w1 ⟨rfl, hb1⟩
    have S1 := Lib.hid (S0.out.grow hb1)
    clear S0 hgood hb1 c0 c1
    have c0 := S1.out.cell (i := 1) rfl (o := 0) rfl
    have S2 := ((S1.out.rows_made Ty.int 43).alloc_box #[.int .i64 vars, .slice (some ⟨w1.heap.size, 0, none⟩) 0 0] 61)
    simp only [World.size_alloc] at S2
    obtain ⟨ob, hob⟩ : ∃ ob, w1.heap.size + 1 = ob := ⟨_, rfl⟩
    obtain ⟨rb, hrb⟩ : ∃ rb, w.heap.size + 1 = rb := ⟨_, rfl⟩
    rw [hob, hrb] at S2
    have S3 : Hid (Sp w _ [Rows Ty.int 43 (.slice (some ⟨w1.heap.size, 0, none⟩) ([] : List (List Int)).length 0) [] ([] : List (List Int)), Box ob 61 #[.int .i64 vars, .slice (some ⟨w1.heap.size, 0, none⟩) ([] : List (List Int)).length 0], Box rb 61 #[.int .i64 0, .slice none 0 0], Box w.heap.size 61 #[.int .i64 vars, .slice A xss.length cap]]) := S2.swap
    clear S1 S2
    go_wp2_with fail
    go_loopw [5, 6, 7, 8] (fun vi _ _ _ wr => ∃ (k : Nat) (ys : List (List Int)) (cs : List Value) (B : Option Addr) (bc : Nat), k ≤ xss.length ∧ vi = .int .i64 k ∧ Hid (ys = leastK xss k) ∧ Hid (Sp w wr [Rows Ty.int 43 (.slice B ys.length bc) cs ys, Box ob 61 #[.int .i64 vars, .slice B ys.length bc], Box rb 61 #[.int .i64 0, .slice none 0 0], Box w.heap.size 61 #[.int .i64 vars, .slice A xss.length cap]])) (fun vi _ _ _ _ => xss.length - (intOf vi).toNat)
    case atStart => exact ⟨0, [], [], _, _, Nat.zero_le _, rfl, rfl, S3⟩
    case round =>
      obtain ⟨k, ys, cs, B, bc, hk, rfl, hys, HS⟩ := hrel
      clear S3
      have c1 := HS.out.cell (i := 3) rfl (o := 1) rfl
      by_cases hlt : k < xss.length
      · obtain ⟨b, off, Bk, ck, Fk, rfl, m0, hrk⟩ := hcells.out k hlt
        have hlk := (hml.out _ (List.getElem_mem hlt)).2
        replace m0 := Lib.hid m0
        replace hrk := Lib.hid hrk
        have hS0 := HS
        go_wp2_with fail
        go_loopw [6, 7, 8] (fun vt vj _ wr => ∃ (j : Nat), j ≤ xss.length ∧ vj = .int .i64 j ∧ vt = .bool (!(weakTo xss k j)) ∧ Hid (Sp w wr [Rows Ty.int 43 (.slice B ys.length bc) cs ys, Box ob 61 #[.int .i64 vars, .slice B ys.length bc], Box rb 61 #[.int .i64 0, .slice none 0 0], Box w.heap.size 61 #[.int .i64 vars, .slice (some ⟨b, off, none⟩) xss.length cap]])) (fun _ vj _ _ => xss.length - (intOf vj).toNat)
        case atStart => exact ⟨0, Nat.zero_le _, rfl, rfl, hS0⟩
        case round =>
          clear HS hS0 c1
          obtain ⟨j, hj, rfl, rfl, HT⟩ := hrel
          have c1 := HT.out.cell (i := 3) rfl (o := 1) rfl
          by_cases hjl : j < xss.length
          · obtain ⟨b', off', Bj, cj, Fj, e', m1, hrj⟩ := hcells.out j hjl
            cases e'
            have n0 := (HT.out.below.cell (World.block_lt_of_cell? _ _ m0.out)).trans m0.out
            have n1 := (HT.out.below.cell (World.block_lt_of_cell? _ _ m1)).trans m1
            have rk := Ty.row_grow hrk.out HT.out.below
            have rj := Ty.row_grow hrj HT.out.below
            have hlj := (hml.out _ (List.getElem_mem hjl)).2
            have hsame := Lib.hid (fun W (h : Below wr.heap.size wr W) => l1Same_any _ _ xss[j] xss[k] Fj Fk W (Ty.row_below rj h (Ty.row_lt rj)) (Ty.row_below rk h (Ty.row_lt rk)))
            have hsub := Lib.hid (fun W (h : Below wr.heap.size wr W) => same_below (l2Sub_any _ _ xss[j] xss[k] Fj Fk W (Ty.row_below rj h (Ty.row_lt rj)) (Ty.row_below rk h (Ty.row_lt rk)) (by omega)))
            have hstep := Lib.hid (weakTo_succ xss k j)
            unfold weakQ at hstep
            rw [getD_at hlt, getD_at hjl] at hstep
            obtain ⟨q1, hq1⟩ : ∃ q, decide (xss[j] = xss[k]) = q := ⟨_, rfl⟩
            obtain ⟨q2, hq2⟩ : ∃ q, xss[j].all (hasI xss[k]) = q := ⟨_, rfl⟩
            rw [hq1] at hsame hstep
            rw [hq2] at hsub hstep
            clear hq1 hq2 m1 hrj rk rj
            have k0 := cell_regrown n0
            have k1 := cell_regrown n1
            have k2 := cell_regrown c1
            go_wp2_with fail
            refine wp_region_quiet_below (by kernel_rfl) (by kernel_rfl) ?_
            repeat (any_goals (first | go_big_quiet_step ((go_at_call 120; exact Calls.regrown_of (hsame.out _ (below_regrown _ _ _))))))
            refine wpQuiet_nil ?_
            rintro w3 ⟨pp, hw3⟩
            have hb3 := Lib.hid (hw3 ▸ below_regrown _ _ _ : Below wr.heap.size wr w3)
            have S4 := Lib.hid (HT.out.grow hb3.out)
            have k0 := cell_regrown (hb3.out.cell (World.block_lt_of_cell? _ _ n0) |>.trans n0)
            have k1 := cell_regrown (hb3.out.cell (World.block_lt_of_cell? _ _ n1) |>.trans n1)
            have k2 := cell_regrown (hb3.out.cell (World.block_lt_of_cell? _ _ c1) |>.trans c1)
            obtain ⟨q3, hq3⟩ : ∃ q, decide (j < k) = q := ⟨_, rfl⟩
            have d3 : decide ((j : Int) < (k : Int)) = q3 := by rw [← hq3]; exact decide_eq_decide.2 (by omega)
            rw [hq3] at hstep
            have d4 : decide (j < k) = q3 := hq3
            obtain ⟨q0, hq0⟩ : ∃ q, weakTo xss k j = q := ⟨_, rfl⟩
            rw [hq0] at hstep ⊢
            clear hw3 n0 n1 c1 HT hsame hq3 hq0
            cases q1 <;> cases q2 <;> cases q3
            all_goals
              go_wp2_with fail
              refine wp_region_quiet_below (by kernel_rfl) (by kernel_rfl) ?_
              repeat (any_goals (first | go_big_quiet_step ((go_at_call 121; exact Calls.regrown_of (hsub.out _ (btr hb3.out (below_regrown _ _ _)))))))
              refine wpQuiet_nil ?_
              rintro w5 ⟨pp, hw5⟩
              have hb5 := Lib.hid (hw5 ▸ below_regrown _ _ _ : Below w3.heap.size w3 w5)
              have S6 := Lib.hid (S4.out.grow hb5.out)
              clear hw5 k0 k1 k2 S4
              go_wp2_with fail
              go_roundw
              case rel => exact ⟨j + 1, by omega, by go_num, by rw [hstep.out]; cases q0 <;> rfl, S6⟩
              case measure => simp [intOf]; omega
          · obtain rfl : j = xss.length := by omega
            obtain ⟨q, hq⟩ : ∃ q, weakTo xss k xss.length = q := ⟨_, rfl⟩
            rw [hq]
            cases q
            · have hnx := Lib.hid (leastK_keep hq)
              clear hq
              clear m0 hrk
              obtain ⟨b', off', Bk', ck', Fk', e', m0, hrk⟩ := hcells.out k hlt
              cases e'
              rw [getD_at hlt] at hnx
              have n0 := (HT.out.below.cell (World.block_lt_of_cell? _ _ m0)).trans m0
              have rk := Ty.row_grow hrk HT.out.below
              have l1 := HT.out.cell (i := 1) rfl (o := 1) rfl
              have c1 := HT.out.cell (i := 3) rfl (o := 1) rfl
              have hyl : ys.length ≤ k := by rw [hys.out]; exact leastK_len xss k
              have hck : ∀ x ∈ xss[k], I64 x := fun x hx => by have := (hml.out _ (List.getElem_mem hlt)).1 x hx; unfold I64; omega
              have hown := Lib.hid (fun W (h : Below w.heap.size w W) => l1Own_any _ xss[k] _ W (Ty.row_below hrk h (Ty.row_lt hrk)) (by omega))
              replace hnx : Hid (leastK xss (k + 1) = ys ++ [xss[k]]) := by unfold Hid; rw [hnx.out, hys.out]
              generalize xss[k] = c at *
              replace m0 := Lib.hid m0
              clear hrk rk hys
              go_wp2_with fail
              refine wp_region_tail_lit (S := (fun w' => w'.cell? ⟨ob, 1, none⟩ = some (.slice B ys.length bc) ∧ w'.cell? ⟨w.heap.size, 1, none⟩ = some (.slice (some ⟨b, off, none⟩) xss.length cap) ∧ w'.cell? ⟨b, off + k, none⟩ = some (.slice Bk' c.length ck'))) 9 [false, false, false, false, false, false, false, false, false, false, false, false] (by kernel_rfl) (by kernel_rfl) (by kernel_rfl) ?_ ?_
              · exact ⟨l1, c1, n0⟩
              intro hSc
              (refine walkT_take (i := 0) (v := ?_) rfl (by kernel_rfl) (by decide) (by kernel_rfl) (by kernel_rfl) (fun _ _ _ h => h) (Or.inl ⟨by rfl, ?_⟩) (by assumption) ?_; rotate_left; (focus (intro w hSw; (try dsimp only at hSw); go_simp; (try with_reducible rfl); done)); (try simp only [put_rules]))
              (refine walkT_take (i := 1) (v := ?_) rfl (by kernel_rfl) (by decide) (by kernel_rfl) (by kernel_rfl) (fun _ _ _ h => h) (Or.inl ⟨by rfl, ?_⟩) (by assumption) ?_; rotate_left; (focus (intro w hSw; (try dsimp only at hSw); go_simp; (try with_reducible rfl); done)); (try simp only [put_rules]))
              (refine walkT_take (i := 2) (v := ?_) rfl (by kernel_rfl) (by decide) (by kernel_rfl) (by kernel_rfl) (fun _ _ _ h => h) (Or.inl ⟨by rfl, ?_⟩) (by assumption) ?_; rotate_left; (focus (intro w hSw; (try dsimp only at hSw); go_simp; (try with_reducible rfl); done)); (try simp only [put_rules]))
              (refine walkT_take (i := 3) (v := ?_) rfl (by kernel_rfl) (by decide) (by kernel_rfl) (by kernel_rfl) (fun _ _ _ h => h) (Or.inl ⟨by rfl, ?_⟩) (by assumption) ?_; rotate_left; (focus (intro w hSw; (try dsimp only at hSw); go_simp; (try with_reducible rfl); done)); (try simp only [put_rules]))
              (refine walkT_take (i := 4) (v := ?_) rfl (by kernel_rfl) (by decide) (by kernel_rfl) (by kernel_rfl) (fun _ _ _ h => h) (Or.inl ⟨by rfl, ?_⟩) (by assumption) ?_; rotate_left; (focus (intro w hSw; (try dsimp only at hSw); go_simp; (try with_reducible rfl); done)); (try simp only [put_rules]))
              (refine walkT_take (i := 5) (v := ?_) rfl (by kernel_rfl) (by decide) (by kernel_rfl) (by kernel_rfl) (fun _ _ _ h => h) (Or.inl ⟨by rfl, ?_⟩) (by assumption) ?_; rotate_left; (focus (intro w hSw; (try dsimp only at hSw); go_simp; (try with_reducible rfl); done)); (try simp only [put_rules]))
              (refine walkT_take (i := 6) (v := ?_) rfl (by kernel_rfl) (by decide) (by kernel_rfl) (by kernel_rfl) (fun _ _ _ h => h) (Or.inl ⟨by rfl, ?_⟩) (by assumption) ?_; rotate_left; (focus (intro w hSw; (try dsimp only at hSw); go_simp; (try with_reducible rfl); done)); (try simp only [put_rules]))
              (refine walkT_ready (rs := [7]) (by kernel_rfl) (by simp) (by decide) ?_; refine AllT.cons rfl (fun K hK => ?_) AllT.nil)
              go_simp
              go_at_call 116
              have S3 := HT.out.drew
              refine (hown.out _ S3.below).mono ?_
              rintro e w3 ⟨v3, rfl, ho, hb3⟩
              have S4 := S3.own_call hb3 ho
              obtain ⟨B2, cap2, rfl⟩ := own_slice ho
              have S5 := Lib.hid (S4.own_to_row hck)
              clear S3 S4 ho hb3 hown HT l1 c1 n0
              go_wp2_with fail
              refine hK.out _ _ ⟨S5.out.cell (i := 2) rfl (o := 1) rfl, S5.out.cell (i := 4) rfl (o := 1) rfl, (S5.out.below.cell (World.block_lt_of_cell? _ _ m0.out)).trans m0.out⟩ (fun hS2 => ?_)
              clear hK hSc
              (try simp only [put_rules])
              (refine walkT_ready (rs := [8]) (by kernel_rfl) (by simp) (by decide) ?_; refine AllT.cons rfl (fun K hK => ?_) AllT.nil)
              go_simp
              have hrows := Lib.hid ((S5.out.rows (i := 1) rfl).alloc (.cells #[.slice B2 c.length cap2] 43))
              have kB : (w3.alloc (.cells #[.slice B2 c.length cap2] 43)).cell? ⟨w3.heap.size, 0, none⟩ = some (.slice B2 c.length cap2) := cell_of_row _ _ _ _ _ _ (heap_alloc_new w3 _)
              have S6 := Lib.hid (S5.out.alloc (.cells #[.slice B2 c.length cap2] 43))
              refine hK.out _ _ ⟨S6.out.cell (i := 2) rfl (o := 1) rfl, S6.out.cell (i := 4) rfl (o := 1) rfl, (S6.out.below.cell (World.block_lt_of_cell? _ _ m0.out)).trans m0.out⟩ (fun hS3 => ?_)
              clear hK hS2
              (try simp only [put_rules])
              (refine walkT_done (by kernel_rfl) ?_)
              simp only [List.drop_succ_cons, List.drop_zero]
              (refine wpList_append_src rfl _ _ rfl Tryz.underlying59 hi hz0 hz1 hz2 rfl (by decide) _ ys.length _ rfl hrows.out _ 1 1 [.slice B2 c.length cap2] rfl (Src.one kB) (by simp [Value.oneCell']) (by unfold maxLen; omega) (by omega) ?_; intro vY wY hownY hgY hatY)
              have S7 := S5.out.rows_push (bal (bb _) _) hownY hgY hatY
              obtain ⟨aY, cY, rfl⟩ := own_slice hownY
              have b1 := S7.cell (i := 1) rfl (o := 1) rfl
              have q1 := S7.frozen (i := 1) rfl 1
              have hlen : ys.length + 1 = (ys ++ [c]).length := by simp
              have S8 : Hid (Sp w (wY.setCell ⟨ob, 1, none⟩ (.slice aY (ys.length + 1) cY)) [Rows Ty.int 43 (.slice aY (ys ++ [c]).length cY) (cs ++ [.slice B2 c.length cap2]) (ys ++ [c]), Box ob 61 #[.int .i64 vars, .slice aY (ys ++ [c]).length cY], Box rb 61 #[.int .i64 0, .slice none 0 0], Box w.heap.size 61 #[.int .i64 vars, .slice (some ⟨b, off, none⟩) xss.length cap]]) := by
                unfold Hid; rw [← hlen]
                have := S7.store (i := 1) rfl 1 (.slice aY (ys.length + 1) cY)
                rw [hlen] at this ⊢
                exact this
              clear S5 S6 S7 hrows hownY hgY hatY kB hS3
              replace hlen := Lib.hid hlen
              go_wp2_with fail
              go_roundw
              case rel => exact ⟨k + 1, ys ++ [c], cs ++ [.slice B2 c.length cap2], aY, cY, by omega, by go_num, hnx.out.symm, S8⟩
              case measure => simp [intOf]; omega
            · have hnx : Hid (ys = leastK xss (k + 1)) := by unfold Hid; rw [leastK_weak hq]; exact hys.out
              clear hq
              go_wp2_with fail
              go_roundw
              case rel => exact ⟨k + 1, ys, cs, B, bc, by omega, by go_num, hnx, HT⟩
              case measure => simp [intOf]; omega
      · obtain rfl : k = xss.length := by omega
        have hR2 := hR.out
        rw [← hys.out] at hR2
        replace hR2 := Lib.hid hR2
        have l0 := HS.out.cell (i := 1) rfl (o := 0) rfl
        have l1 := HS.out.cell (i := 1) rfl (o := 1) rfl
        have r0 := HS.out.cell (i := 2) rfl (o := 0) rfl
        have r1 := HS.out.cell (i := 2) rfl (o := 1) rfl
        have f0 := HS.out.frozen (i := 2) rfl 0
        have f1 := HS.out.frozen (i := 2) rfl 1
        have SF := (HS.out.store (i := 2) rfl 0 (.int .i64 vars)).store (i := 2) rfl 1 (.slice B ys.length bc)
        have j0 := SF.cell (i := 2) rfl (o := 0) rfl
        have j1 := SF.cell (i := 2) rfl (o := 1) rfl
        have hS := Lib.hid (Sp.front (qs := [_]) SF)
        clear SF HS hys hR hcells hml
        go_wp2_with fail
        exact bodyPost_ret (v := .tuple #[.agg #[.int .i64 vars, .slice B ys.length bc], .bool true]) (by simp [results, Tryz.results48, go_sem, j0, j1]) rfl (cnfP_yes hR2.out hS.out)
end Go.Proofs.YtahbepajeplcmaaGreatDoor

/- Contracts: clauses and Cnfs at bits, in the reference. -/
namespace Go.Proofs.YtahbepajeplcmaaGreatDoor
open Go.RowKit

theorem cl_next {c : List Int} {k : Nat} (hk : k < c.length) (b : Nat) : clT (c.take (k + 1)) b = (clT (c.take k) b || litT b c[k]) := by
  unfold clT
  rw [List.take_succ_eq_append_getElem hk, List.any_append]
  simp
theorem cl_take {c : List Int} {k b : Nat} (h : clT (c.take k) b = true) : clT c b = true := by
  unfold clT at *
  rw [List.any_eq_true] at *
  obtain ⟨x, hx, h⟩ := h
  exact ⟨x, List.mem_of_mem_take hx, h⟩
theorem md_next {xss : List (List Int)} {j : Nat} (hj : j < xss.length) (b : Nat) : modT (xss.take (j + 1)) b = (modT (xss.take j) b && clT xss[j] b) := by
  unfold modT
  rw [List.take_succ_eq_append_getElem hj, List.all_append]
  simp
theorem md_take {xss : List (List Int)} {j b : Nat} (h : modT (xss.take j) b = false) : modT xss b = false := by
  unfold modT at *
  rw [List.all_eq_false] at *
  obtain ⟨x, hx, h⟩ := h
  exact ⟨x, List.mem_of_mem_take hx, h⟩

/- left out: the seat has no spec.l5True -/

/- left out: the seat has no spec.l5All -/
end Go.Proofs.YtahbepajeplcmaaGreatDoor

/- Contracts: models that are counted and the least one, in the reference. -/
namespace Go.Proofs.YtahbepajeplcmaaGreatDoor
open Go.RowKit

def cntP (p : Nat → Bool) (k : Nat) : Nat := ((List.range k).filter p).length
theorem cntP_no {p : Nat → Bool} {k : Nat} (h : p k = false) : cntP p (k + 1) = cntP p k := by simp [cntP, List.range_succ, List.filter_append, h]
theorem cntP_yes {p : Nat → Bool} {k : Nat} (h : p k = true) : cntP p (k + 1) = cntP p k + 1 := by simp [cntP, List.range_succ, List.filter_append, h]
theorem cntP_le (p : Nat → Bool) (k : Nat) : cntP p k ≤ k := Nat.le_trans (List.length_filter_le _ _) (by simp)

/- left out: the seat has no spec.l5Models -/
end Go.Proofs.YtahbepajeplcmaaGreatDoor

/- Contracts: the least model, satisfiability and implied clauses, in the reference. -/
namespace Go.Proofs.YtahbepajeplcmaaGreatDoor
open Go.RowKit

theorem first_at {p : Nat → Bool} {k N : Nat} (hk : k < N) (h0 : (List.range k).any p = false) (h1 : p k = true) : idxP p (List.range N) = (k : Int) := by
  unfold idxP
  have ha : (List.range N).any p = true := List.any_eq_true.2 ⟨k, List.mem_range.2 hk, h1⟩
  rw [if_pos ha]
  have hl : k < (List.range N).length := by simpa using hk
  have : (List.range N).findIdx p = k := (List.findIdx_eq hl).2 ⟨by simpa using h1, fun j hj => by
    rw [List.any_eq_false] at h0
    have := h0 j (List.mem_range.2 hj)
    simpa using this⟩
  rw [this]
theorem first_no {p : Nat → Bool} {N : Nat} (h0 : (List.range N).any p = false) : idxP p (List.range N) = -1 := by
  unfold idxP
  rw [if_neg (by rw [h0]; decide)]
theorem rany_next {p : Nat → Bool} {k : Nat} : (List.range (k + 1)).any p = ((List.range k).any p || p k) := by
  simp [List.range_succ, List.any_append]
theorem rany_yes {p : Nat → Bool} {k N : Nat} (hk : k < N) (h : p k = true) : (List.range N).any p = true := List.any_eq_true.2 ⟨k, List.mem_range.2 hk, h⟩

/- left out: the seat has no spec.l5First -/

/- left out: the seat has no spec.l5Sat -/

/- left out: the seat has no spec.l5Implies -/
end Go.Proofs.YtahbepajeplcmaaGreatDoor

/- Contracts: counted and listed models, and implied clauses, of a Cnf in the reference. -/
namespace Go.Proofs.YtahbepajeplcmaaGreatDoor
open Go.RowKit

/-- Numbers that are told, and whether they are. -/
def IAns (w : World) (ok : Bool) (zs : List Int) (e : Ending) (w' : World) : Prop :=
  ∃ B cap, e = .returned (.tuple #[.slice B zs.length cap, .bool ok]) ∧ IntsAt w' B zs ∧ Below w.heap.size w w'
def allN (p : Nat → Bool) (k : Nat) : List Int := ((List.range k).filter p).map fun (m : Nat) => (m : Int)
theorem allN_no {p : Nat → Bool} {k : Nat} (h : p k = false) : allN p (k + 1) = allN p k := by simp [allN, List.range_succ, List.filter_append, h]
theorem allN_yes {p : Nat → Bool} {k : Nat} (h : p k = true) : allN p (k + 1) = allN p k ++ [(k : Int)] := by simp [allN, List.range_succ, List.filter_append, h]
theorem allN_len (p : Nat → Bool) (k : Nat) : (allN p k).length = cntP p k := by simp [allN, cntP]
theorem allN_ok (p : Nat → Bool) {k : Nat} (hk : k ≤ 4096) : ∀ x ∈ allN p k, I64 x := by
  intro x hx
  unfold allN at hx
  rw [List.mem_map] at hx
  obtain ⟨m, hm, rfl⟩ := hx
  have := List.mem_range.1 (List.mem_filter.1 hm).1
  unfold I64; omega

/- left out: the seat has no spec.CountCnfModels -/

/- left out: the seat has no spec.AllModels -/
end Go.Proofs.YtahbepajeplcmaaGreatDoor

/- Contract: an implied clause of a Cnf in the reference. -/
namespace Go.Proofs.YtahbepajeplcmaaGreatDoor
open Go.RowKit

/-- A clause is true for all models. -/
def impB (n : Nat) (xss : List (List Int)) (d : List Int) : Bool := !((List.range (2 ^ n)).any fun b => !clT d b && modT xss b)
theorem ints_lone {w : World} {b : Nat} {z : Int} (h : w.cell? ⟨b, 0, none⟩ = some (.int .i64 z)) (hz : I64 z) : IntsAt w (some ⟨b, 0, none⟩) [z] :=
  ⟨fun j hj => by
    obtain rfl : j = 0 := by simpa using hj
    exact ⟨b, 0, rfl, h⟩, fun c hc => by
    obtain rfl : c = z := by simpa using hc
    exact hz⟩

/- left out: the seat has no spec.ImpliesClause -/
end Go.Proofs.YtahbepajeplcmaaGreatDoor

/- Contract: the backbone of a Cnf in the reference. -/
namespace Go.Proofs.YtahbepajeplcmaaGreatDoor
open Go.RowKit

/-- The literals of the first variables that are true for all models. -/
def boneTo (n : Nat) (xss : List (List Int)) : Nat → List Int
  | 0 => []
  | k + 1 => boneTo n xss k ++ ((if impB n xss [(k : Int) + 1] then [(k : Int) + 1] else []) ++ (if impB n xss [-((k : Int) + 1)] then [-((k : Int) + 1)] else []))
theorem bone_len (n : Nat) (xss : List (List Int)) : ∀ k, (boneTo n xss k).length ≤ 2 * k
  | 0 => by simp [boneTo]
  | k + 1 => by
    have := bone_len n xss k
    unfold boneTo
    rw [List.length_append, List.length_append]
    split <;> split <;> simp <;> omega
theorem bone_ok (n : Nat) (xss : List (List Int)) : ∀ k, k ≤ 1000 → ∀ x ∈ boneTo n xss k, I64 x
  | 0, _ => by simp [boneTo]
  | k + 1, h => by
    have := bone_ok n xss k (by omega)
    unfold boneTo
    intro x hx
    rcases List.mem_append.1 hx with hx | hx
    · exact this x hx
    · rcases List.mem_append.1 hx with hx | hx
      · split at hx
        · obtain rfl : x = (k : Int) + 1 := by simpa using hx
          unfold I64; omega
        · simp at hx
      · split at hx
        · obtain rfl : x = -((k : Int) + 1) := by simpa using hx
          unfold I64; omega
        · simp at hx
theorem cls_lone {z : Int} (h0 : z ≠ 0) (h1 : -1000 ≤ z) (h2 : z ≤ 1000) : ClS [z] := ⟨fun l hl => by
  obtain rfl : l = z := by simpa using hl
  exact ⟨h0, h1, h2⟩, by simp⟩

/- left out: the seat has no spec.BackboneOf -/
end Go.Proofs.YtahbepajeplcmaaGreatDoor

/- Plain facts on models, backbones and implied clauses. -/
namespace Go.Proofs.YtahbepajeplcmaaGreatDoor
open Go.RowKit

theorem bone_next (n : Nat) (xss : List (List Int)) (k : Nat) : boneTo n xss (k + 1) = boneTo n xss k ++ ((if impB n xss [(k : Int) + 1] then [(k : Int) + 1] else []) ++ (if impB n xss [-((k : Int) + 1)] then [-((k : Int) + 1)] else [])) := rfl
theorem bone_mem (n : Nat) (xss : List (List Int)) : ∀ (k : Nat) (x : Int), x ∈ boneTo n xss k ↔ (x ≠ 0 ∧ x.natAbs ≤ k ∧ impB n xss [x] = true)
  | 0, x => by
    simp only [boneTo, List.not_mem_nil, false_iff]
    omega
  | k + 1, x => by
    rw [bone_next, List.mem_append, List.mem_append, bone_mem n xss k x]
    have a1 : x ∈ (if impB n xss [(k : Int) + 1] then [(k : Int) + 1] else []) ↔ x = (k : Int) + 1 ∧ impB n xss [x] = true := by
      split
      · rename_i h
        rw [List.mem_singleton]
        exact ⟨fun e => ⟨e, by rw [e]; exact h⟩, fun e => e.1⟩
      · rename_i h
        simp only [List.not_mem_nil, false_iff]
        rintro ⟨rfl, h2⟩
        exact h h2
    have a2 : x ∈ (if impB n xss [-((k : Int) + 1)] then [-((k : Int) + 1)] else []) ↔ x = -((k : Int) + 1) ∧ impB n xss [x] = true := by
      split
      · rename_i h
        rw [List.mem_singleton]
        exact ⟨fun e => ⟨e, by rw [e]; exact h⟩, fun e => e.1⟩
      · rename_i h
        simp only [List.not_mem_nil, false_iff]
        rintro ⟨rfl, h2⟩
        exact h h2
    rw [a1, a2]
    constructor
    · rintro (⟨h1, h2, h3⟩ | ⟨h1, h3⟩ | ⟨h1, h3⟩)
      · exact ⟨h1, by omega, h3⟩
      · exact ⟨by omega, by omega, h3⟩
      · exact ⟨by omega, by omega, h3⟩
    · rintro ⟨h1, h2, h3⟩
      by_cases h : x.natAbs ≤ k
      · exact .inl ⟨h1, h, h3⟩
      · by_cases hx : x = (k : Int) + 1
        · exact .inr (.inl ⟨hx, h3⟩)
        · exact .inr (.inr ⟨by omega, h3⟩)
theorem bone_contains {n : Nat} {xss : List (List Int)} {x : Int} (h0 : x ≠ 0) (h1 : x.natAbs ≤ n) : (boneTo n xss n).contains x = impB n xss [x] := by
  rw [Bool.eq_iff_iff, List.contains_iff_mem, bone_mem]
  exact ⟨fun h => h.2.2, fun h => ⟨h0, h1, h⟩⟩
theorem cl_one (x : Int) (b : Nat) : clT [x] b = litT b x := by simp [clT]
theorem lit_pos (k b : Nat) : litT b ((k : Int) + 1) = b.testBit k := by
  unfold litT
  rw [show ((k : Int) + 1).natAbs - 1 = k by omega, decide_eq_true (by omega : (0 : Int) < (k : Int) + 1)]
  simp
theorem lit_neg (k b : Nat) : litT b (-((k : Int) + 1)) = !b.testBit k := by
  unfold litT
  rw [show (-((k : Int) + 1)).natAbs - 1 = k by omega, decide_eq_false (by omega : ¬ (0 : Int) < -((k : Int) + 1))]
  cases b.testBit k <;> rfl
/-- The models in their order. -/
def mods (p : Nat → Bool) (N : Nat) : List Nat := (List.range N).filter p
theorem allN_eq (p : Nat → Bool) (N : Nat) : allN p N = (mods p N).map fun (m : Nat) => (m : Int) := rfl
theorem imp_mods (n : Nat) (xss : List (List Int)) (d : List Int) : impB n xss d = (mods (modT xss) (2 ^ n)).all (clT d) := by
  rw [Bool.eq_iff_iff]
  unfold impB mods
  rw [Bool.not_eq_true', List.any_eq_false, List.all_eq_true]
  constructor
  · intro h b hb
    have h1 := List.mem_filter.1 hb
    have h2 := h b h1.1
    rw [h1.2, Bool.and_true] at h2
    simpa using h2
  · intro h b hb
    cases hm : modT xss b
    · simp
    · rw [h b (List.mem_filter.2 ⟨hb, hm⟩)]
      simp
theorem bone_yes {n : Nat} {xss : List (List Int)} {k : Nat} (hk : k < n) : (boneTo n xss n).contains ((k : Int) + 1) = (mods (modT xss) (2 ^ n)).all fun b => b.testBit k := by
  rw [bone_contains (by omega) (by omega), imp_mods]
  congr 1
  funext b
  rw [cl_one, lit_pos]
theorem bone_no {n : Nat} {xss : List (List Int)} {k : Nat} (hk : k < n) : (boneTo n xss n).contains (-((k : Int) + 1)) = (mods (modT xss) (2 ^ n)).all fun b => !b.testBit k := by
  rw [bone_contains (by omega) (by omega), imp_mods]
  congr 1
  funext b
  rw [cl_one, lit_neg]
theorem mod_snoc (xss : List (List Int)) (d : List Int) (b : Nat) : modT (xss ++ [d]) b = (modT xss b && clT d b) := by simp [modT, List.all_append]
theorem equiv_imp (n : Nat) (xss : List (List Int)) (d : List Int) : ((List.range (2 ^ n)).all fun b => modT xss b == modT (xss ++ [d]) b) = impB n xss d := by
  rw [Bool.eq_iff_iff]
  unfold impB
  rw [Bool.not_eq_true', List.any_eq_false, List.all_eq_true]
  constructor
  · intro h b hb
    have h2 := h b hb
    rw [mod_snoc] at h2
    cases hm : modT xss b <;> cases hc : clT d b <;> simp_all
  · intro h b hb
    have h2 := h b hb
    rw [mod_snoc]
    cases hm : modT xss b <;> cases hc : clT d b <;> simp_all
theorem good_snoc {vars : Int} {xss : List (List Int)} {d : List Int} (h : goodB vars xss = true) (hc : clauseB vars d = true) (hl : xss.length < 60) : goodB vars (xss ++ [d]) = true := by
  unfold goodB at *
  simp only [Bool.and_eq_true, decide_eq_true_eq] at *
  refine ⟨⟨h.1.1, by simp; omega⟩, ?_⟩
  rw [List.all_append, h.2]
  simp [hc]
theorem all_first {p : Nat → Bool} {N : Nat} (h : (List.range N).any p = true) : ∃ m, (allN p N)[0]? = some (m : Int) ∧ idxP p (List.range N) = (m : Int) := by
  have hf : idxP p (List.range N) = ((List.range N).findIdx p : Nat) := by unfold idxP; rw [if_pos h]
  have hlt : (List.range N).findIdx p < (List.range N).length := List.findIdx_lt_length_of_exists (by simpa using List.any_eq_true.1 h)
  refine ⟨(List.range N).findIdx p, ?_, hf⟩
  have hfd : (List.range N).find? p = some ((List.range N).findIdx p) := by
    rw [List.find?_eq_some_iff_getElem]
    refine ⟨?_, _, hlt, by simp, fun j hj => ?_⟩
    · have := List.findIdx_getElem (w := hlt)
      simpa using this
    · have := List.not_of_lt_findIdx (xs := List.range N) (p := p) (i := j) hj
      simpa using this
  unfold allN
  rw [List.getElem?_map, ← List.head?_eq_getElem?, List.head?_filter, hfd]
  rfl
theorem cnt_pos {p : Nat → Bool} {N : Nat} : decide (0 < cntP p N) = (List.range N).any p := by
  rw [Bool.eq_iff_iff, decide_eq_true_eq, List.any_eq_true]
  unfold cntP
  rw [List.length_pos_iff_exists_mem]
  exact ⟨fun ⟨m, hm⟩ => ⟨m, (List.mem_filter.1 hm).1, (List.mem_filter.1 hm).2⟩, fun ⟨m, h1, h2⟩ => ⟨m, List.mem_filter.2 ⟨h1, h2⟩⟩⟩
/-- What the law's loop over the models has told of a bit. -/
theorem all_take_next {p : Nat → Bool} {ms : List Nat} {i : Nat} (hi : i < ms.length) : (ms.take (i + 1)).all p = ((ms.take i).all p && p ms[i]) := by
  rw [List.take_succ_eq_append_getElem hi, List.all_append]
  simp
end Go.Proofs.YtahbepajeplcmaaGreatDoor

/- Contracts: implied clauses, in the program. -/
namespace Go.Proofs.YtahbepajeplcmaaGreatDoor
open Go.RowKit

/-- Values of clauses that can be read. -/
def ClsV (w : World) (us : List Value) (xss : List (List Int)) : Prop := us.length = xss.length ∧ ∀ j (hj : j < xss.length), ∃ B c, us[j]? = some (.slice B xss[j].length c) ∧ IntsAt w B xss[j]
theorem cls_src {w : World} {A : Option Addr} {xss : List (List Int)} (h : ClsAt w A xss) : ∃ us, ClsV w us xss ∧ Src w A xss.length 1 us ∧ ∀ u ∈ us, u.oneCell' = true := by
  rcases Nat.eq_zero_or_pos xss.length with h0 | h0
  · obtain rfl : xss = [] := List.length_eq_zero_iff.1 h0
    exact ⟨[], ⟨rfl, fun j hj => absurd hj (by simp)⟩, .inl ⟨rfl, rfl⟩, by simp⟩
  · obtain ⟨b, off, -, -, rfl, -, -⟩ := h.at_ 0 h0
    have hat : ∀ j (hj : j < xss.length), ∃ B c, w.cell? ⟨b, off + j, none⟩ = some (.slice B xss[j].length c) ∧ IntsAt w B xss[j] := fun j hj => by
      obtain ⟨b', off', B, c, e, h1, h2⟩ := h.at_ j hj
      cases e
      exact ⟨B, c, h1, h2⟩
    refine ⟨(List.range xss.length).map fun j => (w.cell? ⟨b, off + j, none⟩).getD (.bool false), ⟨by simp, fun j hj => ?_⟩, .inr ⟨_, rfl, by simp, fun j u hu => ?_⟩, fun u hu => ?_⟩
    · obtain ⟨B, c, h1, h2⟩ := hat j hj
      exact ⟨B, c, by simp [List.getElem?_map, List.getElem?_range hj, h1], h2⟩
    · have hj : j < xss.length := by
        have := (List.getElem?_eq_some_iff.1 hu).1
        simpa using this
      obtain ⟨B, c, h1, h2⟩ := hat j hj
      rw [List.getElem?_map, List.getElem?_range hj] at hu
      simp only [Option.map_some, h1, Option.getD_some, Option.some.injEq] at hu
      rw [add_none, h1, hu]
    · obtain ⟨j, hj, rfl⟩ := List.mem_map.1 hu
      obtain ⟨B, c, h1, h2⟩ := hat j (List.mem_range.1 hj)
      rw [h1]; rfl
theorem ClsV.keep {w w' : World} {us : List Value} {xss : List (List Int)} (h : ClsV w us xss) (hb : Below w.heap.size w w') : ClsV w' us xss :=
  ⟨h.1, fun j hj => by
    obtain ⟨B, c, h1, h2⟩ := h.2 j hj
    exact ⟨B, c, h1, h2.grow hb⟩⟩
theorem ClsV.append {w : World} {us vs : List Value} {xss yss : List (List Int)} (h : ClsV w us xss) (k : ClsV w vs yss) : ClsV w (us ++ vs) (xss ++ yss) :=
  ⟨by simp [h.1, k.1], fun j hj => by
    by_cases hlt : j < xss.length
    · obtain ⟨B, c, h1, h2⟩ := h.2 j hlt
      rw [List.getElem_append_left hlt]
      exact ⟨B, c, by rw [List.getElem?_append_left (by rw [h.1]; exact hlt)]; exact h1, h2⟩
    · have hj2 : j - xss.length < yss.length := by rw [List.length_append] at hj; omega
      obtain ⟨B, c, h1, h2⟩ := k.2 _ hj2
      rw [List.getElem_append_right (by omega)]
      exact ⟨B, c, by rw [List.getElem?_append_right (by rw [h.1]; omega), h.1]; exact h1, h2⟩⟩
theorem ClsV.own {w : World} {B : Nat} {e : TypeId} {A : Option Addr} {c : Nat} {us : List Value} {xss : List (List Int)} (h : ClsV w us xss) (ho : w.ownsRow B e 1 (.slice A xss.length c) xss.length us) : ClsAt w A xss := ⟨fun j hj => by
  obtain ⟨g, cap, cur, e1, -, hh, -, -, -, ht⟩ := own_block ho (by omega)
  simp only [Value.slice.injEq] at e1
  obtain ⟨rfl, -, rfl⟩ := e1
  obtain ⟨B', c', h1, h2⟩ := h.2 j hj
  exact ⟨g, 0, B', c', rfl, by rw [Nat.zero_add, (own_at hh ht (o := j) (by omega)).1]; exact h1, h2⟩⟩

/- left out: the seat has no slices.Clone[[][]int,[]int] -/

abbrev oneP (r : Nat × Int) : Asn := Box r.1 3 #[.int .i64 r.2]
abbrev oneV (r : Nat × Int) : Value := .slice (some ⟨r.1, 0, none⟩) 1 1
theorem ones_cls {w0 w : World} {q : Asn} {rs : List (Nat × Int)} (h : Sp w0 w (q :: rs.map oneP)) (hI : ∀ r ∈ rs, I64 r.2) : ClsV w (rs.reverse.map oneV) (rs.reverse.map fun r => [r.2]) :=
  ⟨by simp, fun j hj => by
    have hj2 : j < rs.length := by simpa using hj
    have hk : (rs.reverse)[j]? = some (rs.reverse[j]'(by simpa using hj2)) := List.getElem?_eq_getElem _
    obtain ⟨r, hr⟩ : ∃ r, rs.reverse[j]'(by simpa using hj2) = r := ⟨_, rfl⟩
    rw [hr] at hk
    have hk2 : rs[rs.length - 1 - j]? = some r := by rw [List.getElem?_reverse hj2] at hk; exact hk
    have hb := h.box (i := rs.length - 1 - j + 1) (b := r.1) (t := 3) (cs := #[.int .i64 r.2]) (by rw [List.getElem?_cons_succ, List.getElem?_map, hk2]; rfl)
    have hmem : r ∈ rs := List.mem_of_getElem? hk2
    refine ⟨some ⟨r.1, 0, none⟩, 1, by rw [List.getElem?_map, hk]; simp, ?_⟩
    simp only [List.getElem_map, hr]
    exact ints_lone (by simp [World.cell?, hb.2.2]) (hI r hmem)⟩
theorem any_same {α : Type} {p q : α → Bool} {l : List α} (h : ∀ x ∈ l, p x = q x) : l.any p = l.any q := by
  rw [Bool.eq_iff_iff, List.any_eq_true, List.any_eq_true]
  exact ⟨fun ⟨x, h1, h2⟩ => ⟨x, h1, by rw [← h x h1]; exact h2⟩, fun ⟨x, h1, h2⟩ => ⟨x, h1, by rw [h x h1]; exact h2⟩⟩
theorem mod_negs {xss : List (List Int)} {c : List Int} {b : Nat} (hc : ∀ l ∈ c, l ≠ 0) : modT (xss ++ c.map fun l => [-l]) b = (!clT c b && modT xss b) := by
  have h2 : modT (c.map fun l => [-l]) b = !clT c b := by
    unfold modT clT
    rw [List.all_map, List.all_eq_not_any_not]
    congr 1
    refine any_same fun l hl => ?_
    · have h0 := hc l hl
      simp only [Function.comp, List.any_cons, List.any_nil, Bool.or_false]
      unfold litT
      rw [Int.natAbs_neg]
      by_cases hp : 0 < l
      · rw [decide_eq_true hp, decide_eq_false (by omega)]
        cases b.testBit (l.natAbs - 1) <;> rfl
      · rw [decide_eq_false hp, decide_eq_true (by omega)]
        cases b.testBit (l.natAbs - 1) <;> rfl
  have h3 : modT (xss ++ c.map fun l => [-l]) b = (modT xss b && modT (c.map fun l => [-l]) b) := by
    unfold modT
    rw [List.all_append]
  rw [h3, h2, Bool.and_comm]

/- left out: the seat has no impl.implies -/

/- left out: the seat has no impl.ImpliesClause -/
end Go.Proofs.YtahbepajeplcmaaGreatDoor

/- Contracts: chosen clauses of a Cnf, and whether they are a core. -/
namespace Go.Proofs.YtahbepajeplcmaaGreatDoor
open Go.RowKit

/-- The clauses with some indices. -/
def pickC (xss : List (List Int)) (is : List Nat) : List (List Int) := is.map fun i => xss.getD i []
def ofN (is : List Nat) : List Int := is.map fun (i : Nat) => (i : Int)
/-- The clauses with some indices have no model. -/
def coreB (n : Nat) (xss : List (List Int)) (is : List Nat) : Bool := !(List.range (2 ^ n)).any (modT (pickC xss is))
theorem ofN_len (is : List Nat) : (ofN is).length = is.length := by simp [ofN]
theorem ofN_get {is : List Nat} {k : Nat} (hk : k < is.length) : (ofN is)[k]'(by rw [ofN_len]; exact hk) = (is[k] : Int) := by simp [ofN]
theorem pick_len (xss : List (List Int)) (is : List Nat) : (pickC xss is).length = is.length := by simp [pickC]
theorem pick_take {xss : List (List Int)} {is : List Nat} {k : Nat} (hk : k < is.length) : pickC xss (is.take (k + 1)) = pickC xss (is.take k) ++ [xss.getD is[k] []] := by
  unfold pickC
  rw [List.take_succ_eq_append_getElem hk, List.map_append]; rfl
theorem pick_cls {xss : List (List Int)} {is : List Nat} (hc : ∀ c ∈ xss, ClS c) (hi : ∀ i ∈ is, i < xss.length) : ∀ c ∈ pickC xss is, ClS c := by
  intro c hc'
  obtain ⟨i, hm, rfl⟩ := List.mem_map.1 hc'
  have hlt := hi i hm
  rw [List.getD_eq_getElem?_getD, List.getElem?_eq_getElem hlt]
  exact hc _ (List.getElem_mem hlt)
theorem ClsV.snoc {w : World} {us : List Value} {xss yss : List (List Int)} {i : Nat} {B : Option Addr} {c : Nat} (h : ClsV w us yss) (hi : i < xss.length) (hI : IntsAt w B xss[i]) : ClsV w (us ++ [.slice B xss[i].length c]) (yss ++ [xss.getD i []]) := by
  have hg : xss.getD i [] = xss[i] := by rw [List.getD_eq_getElem?_getD, List.getElem?_eq_getElem hi]; rfl
  rw [hg]
  exact h.append ⟨rfl, fun j hj => by
    obtain rfl : j = 0 := by simpa using hj
    exact ⟨B, c, rfl, hI⟩⟩
/-- What 'chosen' gives. -/
def PickD (w : World) (xss : List (List Int)) (is : List Nat) (e : Ending) (w' : World) : Prop :=
  ∃ E ec us, e = .returned (.slice E is.length ec) ∧ ClsV w us (pickC xss is) ∧ Sp w w' [Own 43 1 (.slice E is.length ec) is.length us]
theorem PickD.cls {w w' : World} {xss : List (List Int)} {is : List Nat} {E : Option Addr} {ec : Nat} {us : List Value} (h : ClsV w us (pickC xss is)) (S : Sp w w' [Own 43 1 (.slice E is.length ec) is.length us]) : ClsAt w' E (pickC xss is) := by
  have h2 := S.own (i := 0) rfl
  rw [← pick_len xss is] at h2
  exact (h.keep S.below).own h2

/- left out: the seat has no impl.chosen -/

end Go.Proofs.YtahbepajeplcmaaGreatDoor

/- Contracts: chosen clauses in the reference; cores on both sides. -/
namespace Go.Proofs.YtahbepajeplcmaaGreatDoor
open Go.RowKit

/- left out: the seat has no spec.l5Some -/

/- left out: the seat has no impl.isCore -/

/- left out: the seat has no spec.l5Core -/
end Go.Proofs.YtahbepajeplcmaaGreatDoor

/- Cores without superfluous clauses: plain facts. -/
namespace Go.Proofs.YtahbepajeplcmaaGreatDoor
open Go.RowKit

/-- Each index in turn is left out if the rest is still a core. -/
def coreGo (P : List Nat → Bool) : List Nat → List Nat → List Nat
  | kept, [] => kept
  | kept, i :: rest => if P (kept ++ rest) then coreGo P kept rest else coreGo P (kept ++ [i]) rest
theorem coreGo_yes {P : List Nat → Bool} {kept rest : List Nat} {i : Nat} (h : P (kept ++ rest) = true) : coreGo P kept (i :: rest) = coreGo P kept rest := by rw [coreGo, if_pos h]
theorem coreGo_no {P : List Nat → Bool} {kept rest : List Nat} {i : Nat} (h : P (kept ++ rest) = false) : coreGo P kept (i :: rest) = coreGo P (kept ++ [i]) rest := by rw [coreGo, if_neg (by rw [h]; decide)]
theorem skip_mid {kept rest : List Nat} {i : Nat} : (kept ++ i :: rest).eraseIdx kept.length = kept ++ rest := by
  rw [List.eraseIdx_append_of_length_le (Nat.le_refl _), Nat.sub_self]; rfl
/-- A list is ascending, within a range. -/
def AscN (m : Nat) (l : List Nat) : Prop := l.Pairwise (· < ·) ∧ ∀ i ∈ l, i < m
theorem AscN.sub {m : Nat} {l l' : List Nat} (h : AscN m l) (hs : l'.Sublist l) : AscN m l' := ⟨h.1.sublist hs, fun i hi => h.2 i (hs.subset hi)⟩
theorem coreGo_sub (P : List Nat → Bool) : ∀ (rest kept : List Nat), (coreGo P kept rest).Sublist (kept ++ rest)
  | [], kept => by rw [coreGo, List.append_nil]; exact List.Sublist.refl _
  | i :: rest, kept => by
    rw [coreGo]
    split
    · exact (coreGo_sub P rest kept).trans (List.Sublist.append_left (List.sublist_cons_self _ _) _)
    · have := coreGo_sub P rest (kept ++ [i])
      rwa [List.append_assoc] at this
theorem coreGo_kept (P : List Nat → Bool) : ∀ (rest kept : List Nat), ∃ t, coreGo P kept rest = kept ++ t ∧ t.Sublist rest
  | [], kept => ⟨[], by rw [coreGo, List.append_nil], List.Sublist.refl _⟩
  | i :: rest, kept => by
    rw [coreGo]
    split
    · obtain ⟨t, h1, h2⟩ := coreGo_kept P rest kept
      exact ⟨t, h1, h2.trans (List.sublist_cons_self _ _)⟩
    · obtain ⟨t, h1, h2⟩ := coreGo_kept P rest (kept ++ [i])
      exact ⟨i :: t, by rw [h1, List.append_assoc]; rfl, h2.cons_cons i⟩
/-- What is left is a core, if all was. -/
theorem coreGo_core {P : List Nat → Bool} : ∀ (rest kept : List Nat), P (kept ++ rest) = true → P (coreGo P kept rest) = true
  | [], kept, h => by rw [coreGo]; rwa [List.append_nil] at h
  | i :: rest, kept, h => by
    rw [coreGo]
    split
    · rename_i h2; exact coreGo_core rest kept h2
    · refine coreGo_core rest (kept ++ [i]) ?_
      rwa [List.append_assoc]
/-- None of what is left is superfluous. -/
theorem coreGo_min {P : List Nat → Bool} (hP : ∀ a b : List Nat, a.Sublist b → P a = true → P b = true) : ∀ (rest kept : List Nat), (∀ k, k < kept.length → ∀ t, t.Sublist rest → P (kept.eraseIdx k ++ t) = false) →
    ∀ k, k < (coreGo P kept rest).length → P ((coreGo P kept rest).eraseIdx k) = false
  | [], kept, h, k, hk => by
    rw [coreGo] at hk ⊢
    have := h k hk [] (List.Sublist.refl _)
    rwa [List.append_nil] at this
  | i :: rest, kept, h, k, hk => by
    rw [coreGo] at hk ⊢
    split
    · rename_i h2
      rw [if_pos h2] at hk
      exact coreGo_min hP rest kept (fun j hj t ht => h j hj t (ht.trans (List.sublist_cons_self _ _))) k hk
    · rename_i h2
      rw [if_neg h2] at hk
      refine coreGo_min hP rest (kept ++ [i]) (fun j hj t ht => ?_) k hk
      rw [List.length_append] at hj
      by_cases hjl : j < kept.length
      · rw [List.eraseIdx_append_of_lt_length hjl, List.append_assoc]
        exact h j hjl (i :: t) (ht.cons_cons i)
      · obtain rfl : j = kept.length := by simp at hj; omega
        rw [skip_mid (rest := []), List.append_nil]
        cases hb : P (kept ++ t)
        · rfl
        · exact absurd (hP _ _ (List.Sublist.append_left ht kept) hb) h2
theorem core_mono {n : Nat} {xss : List (List Int)} {a b : List Nat} (h : a.Sublist b) (ha : coreB n xss a = true) : coreB n xss b = true := by
  unfold coreB at *
  rw [Bool.not_eq_true', List.any_eq_false] at *
  intro m hm
  have h2 := ha m hm
  intro hb
  refine h2 ?_
  unfold modT pickC at *
  rw [List.all_eq_true] at *
  intro c hc
  obtain ⟨i, hi, rfl⟩ := List.mem_map.1 hc
  exact hb _ (List.mem_map.2 ⟨i, h.subset hi, rfl⟩)
theorem pick_range (xss : List (List Int)) : pickC xss (List.range xss.length) = xss := by
  unfold pickC
  apply List.ext_getElem
  · simp
  · intro i h1 h2
    simp [List.getD_eq_getElem?_getD, h2]
theorem core_all {n : Nat} {xss : List (List Int)} : coreB n xss (List.range xss.length) = !(List.range (2 ^ n)).any (modT xss) := by
  unfold coreB
  rw [pick_range]
theorem range_asc (m : Nat) : AscN m (List.range m) := ⟨List.pairwise_lt_range, fun _ hi => List.mem_range.1 hi⟩
end Go.Proofs.YtahbepajeplcmaaGreatDoor

/- Contract: slices.DeleteFunc at an own row of numbers, with a function that may make memory. -/
namespace Go.Proofs.YtahbepajeplcmaaGreatDoor
open Go.RowKit

theorem set_get {α : Type} {l : List α} {i : Nat} {q : α} (h : l[i]? = some q) : l.set i q = l := by
  apply List.ext_getElem?
  intro j
  rw [List.getElem?_set]
  split
  · rename_i e
    subst e
    have := (List.getElem?_eq_some_iff.1 h).1
    rw [if_pos this, h]
  · rfl
theorem set_at {α : Type} {l : List α} {i : Nat} {q : α} (h : l[i]? = some q) (p : α) : (l.set i p)[i]? = some p := by
  have := (List.getElem?_eq_some_iff.1 h).1
  rw [List.getElem?_set_self this]
theorem Sp.own_puts {w0 : World} {g cap n size : Nat} {e : TypeId} {i : Nat} : ∀ (us : List Value) (o : Nat) (w : World) (ps : List Asn) (xs : List Value), Sp w0 w ps → ps[i]? = some (Own e size (.slice (some ⟨g, 0, none⟩) n cap) n xs) → o + us.length ≤ n * size →
    ∃ xs', Sp w0 (w.setCells g o us) (ps.set i (Own e size (.slice (some ⟨g, 0, none⟩) n cap) n xs')) ∧ xs'.take o = xs.take o ∧ Chg [g] w (w.setCells g o us)
  | [], o, w, ps, xs, h, hi, _ => ⟨xs, by rw [set_get hi]; exact h, rfl, Chg.refl _ _⟩
  | u :: us, o, w, ps, xs, h, hi, hl => by
    have h1 := h.own_put hi u (o := o) (by simp at hl; omega)
    obtain ⟨xs', h2, h3, h4⟩ := Sp.own_puts us (o + 1) _ _ _ h1 (set_at hi _) (by simp at hl; omega)
    refine ⟨xs', by rw [World.setCells]; rwa [List.set_set] at h2, ?_, by rw [World.setCells]; exact ((Chg.refl [g] w).set (p := ⟨g, o, none⟩) (by simp) u).trans h4⟩
    have := congrArg (List.take o) h3
    rw [List.take_take, List.take_take, Nat.min_eq_left (by omega)] at this
    rw [this, List.take_set_of_le (Nat.le_refl _)]
theorem Sp.own_cut {w0 w : World} {g cap n m : Nat} {e : TypeId} {i : Nat} {ps : List Asn} {xs : List Value} (h : Sp w0 w ps) (hi : ps[i]? = some (Own e 1 (.slice (some ⟨g, 0, none⟩) n cap) n xs)) (hm : m ≤ n) : Sp w0 w (ps.set i (Own e 1 (.slice (some ⟨g, 0, none⟩) m cap) m (xs.take m))) := by
  obtain ⟨F, ⟨rfl, hl, hh⟩, hF, hall⟩ := h.upd hi
  refine hall _ _ [g] (Chg.refl _ _) ⟨rfl, by rw [List.length_take, hl]; omega, .inr ?_⟩ (fun b hb => .inl hb)
  rcases hh with ⟨h1, _⟩ | ⟨g', cap', cur, e1, h0, hg, hn, hmx, hc, ht⟩
  · cases h1
  · simp only [Value.slice.injEq, Option.some.injEq, Addr.mk.injEq] at e1
    obtain ⟨⟨rfl, _⟩, _, rfl⟩ := e1
    refine ⟨g, cap, cur, rfl, Nat.zero_le _, hg, by omega, hmx, hc, ?_⟩
    rw [← ht, List.take_take, Nat.mul_one, Nat.mul_one, Nat.min_eq_left hm]
/-- The state of DeleteFunc's loop: i kept elements stand ahead, from j on nothing has turned. -/
def DelInv (p : Int → Bool) (xs : List Int) (i j : Nat) (ys : List Value) : Prop :=
  i < j ∧ ys.length = xs.length ∧ ys.take i = ((xs.take j).filter fun x => !p x).map (.int .i64) ∧ i = ((xs.take j).filter fun x => !p x).length ∧ ∀ k, j ≤ k → ys[k]? = (xs.map (Value.int .i64))[k]?
theorem DelInv.start {p : Int → Bool} {xs : List Int} {k : Nat} (hk : k < xs.length) (h1 : p xs[k] = true) (h0 : (xs.take k).any p = false) : DelInv p xs k (k + 1) (xs.map (.int .i64)) := by
  have hf : ((xs.take (k + 1)).filter fun x => !p x) = xs.take k := by
    rw [List.take_succ_eq_append_getElem hk, List.filter_append, List.filter_eq_self.2]
    · simp [h1]
    · intro x hx
      have := List.any_eq_false.1 h0 x hx
      simpa using this
  exact ⟨by omega, by simp, by rw [hf, List.map_take], by rw [hf, List.length_take]; omega, fun _ _ => rfl⟩
theorem DelInv.keep {p : Int → Bool} {xs : List Int} {i j : Nat} {ys : List Value} (h : DelInv p xs i j ys) (hj : j < xs.length) (h1 : p xs[j] = false) : DelInv p xs (i + 1) (j + 1) (ys.set i (.int .i64 xs[j])) := by
  obtain ⟨a1, a2, a3, a4, a5⟩ := h
  have hf : ((xs.take (j + 1)).filter fun x => !p x) = ((xs.take j).filter fun x => !p x) ++ [xs[j]] := by
    rw [List.take_succ_eq_append_getElem hj, List.filter_append]
    simp [h1]
  refine ⟨by omega, by simp [a2], ?_, by rw [hf]; simp [← a4], fun k hk => ?_⟩
  · rw [hf, List.map_append, ← a3, List.take_succ_eq_append_getElem (by simp; omega), List.take_set_of_le (Nat.le_refl _)]
    simp
  · rw [List.getElem?_set_ne (by omega)]
    exact a5 k (by omega)
theorem DelInv.skip {p : Int → Bool} {xs : List Int} {i j : Nat} {ys : List Value} (h : DelInv p xs i j ys) (hj : j < xs.length) (h1 : p xs[j] = true) : DelInv p xs i (j + 1) ys := by
  obtain ⟨a1, a2, a3, a4, a5⟩ := h
  have hf : ((xs.take (j + 1)).filter fun x => !p x) = ((xs.take j).filter fun x => !p x) := by
    rw [List.take_succ_eq_append_getElem hj, List.filter_append]
    simp [h1]
  exact ⟨by omega, a2, by rw [hf]; exact a3, by rw [hf]; exact a4, fun k hk => a5 k (by omega)⟩

set_option maxRecDepth 100000 in
set_option maxHeartbeats 4000000 in
theorem deleteFuncI_any {g : FuncId} {cb : Array Value} {p : Int → Bool} {R : Int → Prop} (eg : Enter1 g) (xs : List Int) (B : Option Addr) (cc : Nat) (w0 w : World) (ps : List Asn)
    (S : Sp w0 w (Own 3 1 (.slice B xs.length cc) xs.length (xs.map (.int .i64)) :: ps)) (hI : ∀ x ∈ xs, I64 x) (hl : xs.length ≤ 1000000) (hR : ∀ x ∈ xs, R x)
    (hf : ∀ (x : Int) (ys : List Value) (W : World), R x → Sp w0 W (Own 3 1 (.slice B xs.length cc) xs.length ys :: ps) → Calls Tryz.prog g (#[.int .i64 x] ++ cb) W fun e w' => e = .returned (.bool (p x)) ∧ Below W.heap.size W w') :
    Calls Tryz.prog 148 #[.slice B xs.length cc, .func (.func g) #[] cb] w fun e w' => e = .returned (.slice B (xs.filter fun x => !p x).length cc) ∧
      Sp w0 w' (Own 3 1 (.slice B (xs.filter fun x => !p x).length cc) (xs.filter fun x => !p x).length ((xs.filter fun x => !p x).map (.int .i64)) :: ps) ∧ Chg (Value.slice B xs.length cc).ownBlock.toList w w' := by
  have hF : FnI R w g cb p := fun x W hx hb => hf x _ W hx (S.grow hb)
  obtain ⟨A, c, e1, hIn⟩ := ints_own (S.own (i := 0) rfl) hI
  cases e1
  have hix := Lib.hid (indexFuncI_any eg xs B cc w hIn hl hR hF)
  have eg2 := eg
  unfold Enter1 at eg2
  clear hIn hF
  cases hq : xs.any p
  · have hid : idxP p xs = -1 := by unfold idxP; rw [hq]; rfl
    have hfx : (xs.filter fun x => !p x) = xs := by
      rw [List.filter_eq_self]
      intro x hx
      have := List.any_eq_false.1 hq x hx
      simpa using this
    rw [hid] at hix
    rw [hfx]
    replace S := Lib.hid S
    clear hid hfx hf hR
    go_enter Tryz.func148, Tryz.ntmps148
    go_wp2_with fail
    refine hix.out.mono ?_
    rintro e w1 ⟨rfl, hb1⟩
    have S1 := Lib.hid (S.out.grow hb1)
    have hch := Lib.hid (Chg.of_below (F := (Value.slice B xs.length cc).ownBlock.toList) hb1)
    clear hix hb1 S
    go_wp2_with fail
    go_ret
    exact ⟨rfl, S1.out, hch.out⟩
  · have hlt : xs.findIdx p < xs.length := List.findIdx_lt_length_of_exists (by simpa using List.any_eq_true.1 hq)
    have hid : idxP p xs = (xs.findIdx p : Int) := by unfold idxP; rw [if_pos hq]
    have hyes : p xs[xs.findIdx p] = true := List.findIdx_getElem (w := hlt)
    have hbef : (xs.take (xs.findIdx p)).any p = false := by
      rw [List.any_eq_false]
      intro x hx
      obtain ⟨j, hj, rfl⟩ := List.mem_take_iff_getElem.1 hx
      have := List.not_of_lt_findIdx (xs := xs) (p := p) (i := j) (by omega)
      simpa using this
    have HD := DelInv.start hlt hyes hbef
    rw [hid] at hix
    generalize xs.findIdx p = k0 at *
    obtain ⟨gx, cap', cur, e1, -⟩ := own_block (S.own (i := 0) rfl) (by omega)
    simp only [Value.slice.injEq] at e1
    obtain ⟨rfl, -, rfl⟩ := e1
    have hcc : xs.length ≤ cc ∧ cc ≤ 9223372036854775807 := by
      obtain ⟨g', cap', cur, e1, -, -, hn, hm, -⟩ := own_block (S.own (i := 0) rfl) (by omega)
      simp only [Value.slice.injEq] at e1
      obtain ⟨-, -, rfl⟩ := e1
      exact ⟨hn, by unfold maxLen at hm; omega⟩
    have hne1 : ((k0 : Int) == -1) = false := beq_eq_false_iff_ne.2 (by omega)
    obtain ⟨n, hn⟩ : ∃ n, xs.length = n := ⟨_, rfl⟩
    rw [hn] at S hix hf hlt hl hcc ⊢
    obtain ⟨zs, hzs⟩ : ∃ zs, (xs.filter fun x => !p x) = zs := ⟨_, rfl⟩
    rw [hzs]
    replace S := Lib.hid S
    replace hf := Lib.hid hf
    replace HD := Lib.hid HD
    replace hn := Lib.hid hn
    replace hzs := Lib.hid hzs
    have hRR := Lib.hid hR
    clear hid hyes hbef hq hR hI
    go_enter Tryz.func148, Tryz.ntmps148
    go_wp2_with fail
    refine hix.out.mono ?_
    rintro e w1 ⟨rfl, hb1⟩
    have S1 := Lib.hid (S.out.grow hb1)
    have hch := Lib.hid (Chg.of_below (F := [gx]) hb1)
    clear hix hb1 S
    go_wp2_with fail
    go_loopw [5, 6, 7] (fun vi vj _ wr => ∃ (i j : Nat) (ys : List Value), i < j ∧ j ≤ n ∧ vi = .int .i64 i ∧ vj = .int .i64 j ∧ Hid (DelInv p xs i j ys) ∧ Hid (Sp w0 wr (Own 3 1 (.slice (some ⟨gx, 0, none⟩) n cc) n ys :: ps)) ∧ Hid (Chg [gx] w wr)) (fun _ vj _ _ => n - (intOf vj).toNat)
    case atStart => exact ⟨k0, k0 + 1, _, by omega, by omega, rfl, by go_num, HD, S1, hch⟩
    case round =>
      obtain ⟨i, j, ys, hij, hjn, rfl, rfl, HI, HS, HC⟩ := hrel
      clear S1 hch HD hlt hne1
      by_cases hlt : j < n
      · have hltz : decide ((j : Int) < (n : Int)) = true := decide_eq_true (Int.ofNat_lt.2 hlt)
        have hjx : j < xs.length := by rw [hn.out]; exact hlt
        obtain ⟨g', cap', cur, e1, -, hh, -, -, -, ht⟩ := own_block (HS.out.own (i := 0) rfl) (by omega)
        simp only [Value.slice.injEq, Option.some.injEq, Addr.mk.injEq] at e1
        obtain ⟨⟨rfl, -⟩, -, rfl⟩ := e1
        have m0 := (own_at hh ht (o := j) (by omega)).1
        rw [HI.out.2.2.2.2 j (Nat.le_refl _), List.getElem?_map, List.getElem?_eq_getElem hjx] at m0
        have f0 := (own_at hh ht (o := i) (by omega)).2
        have hil : i < ys.length := by rw [HI.out.2.1, hn.out]; omega
        have n0 := (own_at hh ht (o := i) (by omega)).1
        rw [List.getElem?_eq_getElem hil] at n0
        obtain ⟨x, hx⟩ : ∃ x, xs[j] = x := ⟨_, rfl⟩
        have hRx := hRR.out _ (List.getElem_mem hjx)
        have hkp := fun h => HI.out.keep hjx h
        have hsk := fun h => HI.out.skip hjx h
        rw [hx] at m0 hRx hkp hsk
        have hcall := Lib.hid (hf.out x ys wr hRx HS.out)
        have hS2 := Lib.hid (fun W (h : Below wr.heap.size wr W) => (HS.out.grow h).own_put (i := 0) rfl (.int .i64 x) (o := i) (by omega))
        replace hkp := Lib.hid hkp
        replace hsk := Lib.hid hsk
        replace hx := Lib.hid hx
        simp only [Option.map_some] at m0
        generalize ys[i] = old at n0
        generalize p x = q at *
        clear hh ht hil hRx
        cases q
        · have HI2 := Lib.hid (hkp.out rfl)
          clear hkp hsk
          go_wp2_with fail
          refine hcall.out.mono ?_
          rintro e w2 ⟨rfl, hb2⟩
          have S3 := Lib.hid (hS2.out _ hb2)
          have n2 := ((bcell hb2).1 _ _ (World.block_lt_of_cell? _ _ n0)).trans n0
          have f2 := ((bcell hb2).2 gx i (World.block_lt_of_cell? _ _ n0)).trans f0
          have HC2 := Lib.hid ((HC.out.then hb2).set (p := ⟨gx, i, none⟩) (by simp) (.int .i64 x))
          clear hcall hb2 HS HC hS2 m0 n0 f0
          go_wp2_with fail
          go_roundw
          case rel => exact ⟨i + 1, j + 1, _, by omega, by omega, by go_num, by go_num, HI2, S3, HC2⟩
          case measure => simp [intOf]; omega
        · have HI2 := Lib.hid (hsk.out rfl)
          clear hkp hsk
          go_wp2_with fail
          refine hcall.out.mono ?_
          rintro e w2 ⟨rfl, hb2⟩
          have S3 := Lib.hid (HS.out.grow hb2)
          have HC2 := Lib.hid (HC.out.then hb2)
          clear hcall hb2 HS HC hS2 m0 n0 f0
          go_wp2_with fail
          go_roundw
          case rel => exact ⟨i, j + 1, _, by omega, by omega, rfl, by go_num, HI2, S3, HC2⟩
          case measure => simp [intOf]; omega
      · obtain rfl : j = n := by omega
        have hltz : decide ((j : Int) < (j : Int)) = false := by simp
        obtain ⟨g', cap', cur, e1, -, hh, -, -, -, ht⟩ := own_block (HS.out.own (i := 0) rfl) (by omega)
        simp only [Value.slice.injEq, Option.some.injEq, Addr.mk.injEq] at e1
        obtain ⟨⟨rfl, -⟩, -, rfl⟩ := e1
        have hcl : ∀ ty, (Builtin.clear_ #[43] ty #[.slice (some ⟨gx, i, none⟩) (j - i) (cc - i)]).run Tryz.prog wr = .ok (.tuple #[]) (wr.setCells gx i (List.replicate (j - i) (.int .i64 0))) := fun ty =>
          Lib.run_clear_slice wr _ _ ty _ Tryz.underlying43 Tryz.zeroValue3 (by simp [Value.cells]) rfl gx i _ _ (by omega)
            (fun t ht' => by
              have hlen : i + t < ys.length := by rw [HI.out.2.1, hn.out]; omega
              rw [(own_at hh ht (o := i + t) (by omega)).1, List.getElem?_eq_getElem hlen]; rfl)
            (fun t ht' => (own_at hh ht (o := i + t) (by omega)).2)
        obtain ⟨ys', S2, hy2, hc2⟩ := HS.out.own_puts (i := 0) (List.replicate (j - i) (.int .i64 0)) i wr _ _ rfl (by simp; omega)
        have S3 := S2.own_cut (i := 0) (m := i) rfl (by omega)
        obtain ⟨a1, a2, a3, a4, a5⟩ := HI.out
        have htk : xs.take j = xs := by rw [← hn.out, List.take_length]
        rw [hy2, a3, htk, hzs.out] at S3
        rw [htk, hzs.out] at a4
        have hzl := Lib.hid a4
        have hch2 := Lib.hid (HC.out.trans hc2)
        replace S3 := Lib.hid S3
        clear HI HS HC hh ht S2 hy2 hc2 a1 a2 a3 a4 a5 htk
        go_wp2_with fail
        go_ret
        exact ⟨by rw [← hzl.out]; rfl, by rw [← hzl.out]; exact S3.out, hch2.out⟩
end Go.Proofs.YtahbepajeplcmaaGreatDoor

/- Contracts: lists of indices in the program: all of them, one left out, the place of one. -/
namespace Go.Proofs.YtahbepajeplcmaaGreatDoor
open Go.RowKit Go.Shelf

/- left out: the seat has no slices.Delete[[]int,int] -/

/- left out: the seat has no slices.Delete[[]int,int] -/

theorem putCells_take {α : Type} [Inhabited α] (enc : α → Value) (d : Array α) (c : Array Value) {m : Nat} (hm : m ≤ d.size) (hd : d.size ≤ c.size) : (Sort.putCells enc 0 d c).toList.take m = (d.toList.map enc).take m := by
  unfold Sort.putCells
  apply List.ext_getElem
  · simp; omega
  · intro i h1 h2
    have hi : i < m := by simp at h1; omega
    have hid : i < d.size := by omega
    simp [hid]
/-- A row that is laid anew and cut. -/
theorem Sp.own_putRow {α : Type} [Inhabited α] {w0 w : World} {g cap n m q i : Nat} {e : TypeId} {ps : List Asn} {xs : List Value} (enc : α → Value) (d : Array α) (h : Sp w0 w ps) (hi : ps[i]? = some (Own e 1 (.slice (some ⟨g, 0, none⟩) n cap) n xs)) (hd : d.size ≤ n) (hm : m ≤ d.size) (hn : 0 < n) :
    Sp w0 (Sort.putRow enc (Sort.ahead w q) g 0 d) (ps.set i (Own e 1 (.slice (some ⟨g, 0, none⟩) m cap) m ((d.toList.map enc).take m))) := by
  obtain ⟨F, ⟨rfl, hh⟩, hF, hall⟩ := h.upd hi
  obtain ⟨g', cap', cur, e1, h0, hg, hnc, hmx, hc, ht⟩ := own_block hh hn
  simp only [Value.slice.injEq, Option.some.injEq, Addr.mk.injEq] at e1
  obtain ⟨⟨rfl, _⟩, _, rfl⟩ := e1
  refine hall _ _ [g] ⟨rfl, rfl, rfl, by simp [Sort.putRow, Sort.mapBlock, Sort.ahead], fun k _ hk => ?_⟩ ⟨rfl, ?_, .inr ⟨g, cap, Sort.putCells enc 0 d cur, rfl, Nat.zero_le _, ?_, by omega, hmx, ?_, ?_⟩⟩ (fun b hb => .inl hb)
  · have hne : g ≠ k := fun e => hk (by simp [Value.ownBlock, e])
    simp only [Sort.putRow, Sort.mapBlock, Sort.ahead, Array.getElem?_modify]
    rw [if_neg hne]
  · rw [List.length_take, List.length_map, Array.length_toList]; omega
  · simp only [Sort.putRow, Sort.mapBlock, Sort.ahead, Array.getElem?_modify, if_true, hg, Option.map_some, Sort.onCells]
  · unfold Sort.putCells; simp [hc]
  · rw [Nat.mul_one]
    exact putCells_take enc d cur hm (by omega)

set_option maxRecDepth 100000 in
set_option maxHeartbeats 4000000 in
theorem cloneI_any (A : Option Addr) (n cap : Nat) (xs : List Int) (w : World) (hx : IntsAt w A xs) (hn : xs.length = n) (hl : n ≤ 1000000) (h0 : 0 < n) :
    Calls Tryz.prog 78 #[.slice A n cap] w fun e w' => ∃ g c, e = .returned (.slice (some ⟨g, 0, none⟩) n c) ∧ Sp w w' [Own 3 1 (.slice (some ⟨g, 0, none⟩) n c) n (xs.map (.int .i64))] := by
  obtain ⟨i0, hi, hz0, hz1, hz2⟩ := info_parts infoInt
  obtain ⟨b, off, rfl, -⟩ := hx.at_ 0 (by omega)
  have hs : Src w (some ⟨b, off, none⟩) n 1 (xs.map (.int .i64)) := .inr ⟨_, rfl, by simp [hn], fun j u hu => by
    rw [List.getElem?_map] at hu
    have hj : j < xs.length := by
      rcases Nat.lt_or_ge j xs.length with h | h
      · exact h
      · rw [List.getElem?_eq_none h] at hu; cases hu
    rw [List.getElem?_eq_getElem hj] at hu
    simp only [Option.map_some, Option.some.injEq] at hu
    rw [add_none, hx.get hj, hu]⟩
  have hnil := fun w : World => Lib.run_eql_slice_nil (P := Tryz.prog) w 43 3 (some ⟨b, off, none⟩) n cap 0 0 Tryz.underlying43
  have S0 := Lib.hid ((Sp.start w).own_made 3 1)
  have hs2 := Lib.hid (hs.grow (bal (bb w) (.cells #[] 3)))
  have h1H : Hid (∀ u ∈ xs.map (Value.int .i64), u.oneCell' = true) := fun u hu => by
    obtain ⟨x, -, rfl⟩ := List.mem_map.1 hu
    rfl
  simp only [Option.isNone_some] at hnil
  clear hx hs hn
  go_enter Tryz.func78, Tryz.ntmps78
  go_wp2_with (at_builtin; refine wpList_append_src rfl _ _ rfl Tryz.underlying43 hi hz0 hz1 hz2 rfl (by decide) _ _ _ rfl (S0.out.own (i := 0) rfl) _ n cap _ rfl hs2.out h1H.out ?c3 ?c4 ?_)
  case c3 => unfold maxLen; omega
  case c4 => omega
  intro v' w' hown hg hat
  have S1 := S0.out.own_push (i := 0) rfl (bb _) hown hg (by simpa using hat)
  obtain ⟨g, c, cur, rfl, -⟩ := own_block hown (by omega)
  replace S1 := Lib.hid S1
  clear hown hg hat S0 hs2 hnil
  go_wp2_with fail
  go_ret
  exact ⟨g, c, rfl, S1.out⟩

/- left out: the seat has no impl.without[int] -/

set_option maxRecDepth 100000 in
set_option maxHeartbeats 4000000 in
theorem indexI_any (A : Option Addr) (n cap p : Nat) (xs : List Int) (x : Int) (w : World) (hx : IntsAt w A xs) (hn : xs.length = n) (hl : n ≤ 1000000) (hp : xs[p]? = some x) (hno : ∀ j, j < p → xs[j]? ≠ some x) :
    Calls Tryz.prog 182 #[.slice A n cap, .int .i64 x] w fun e w' => e = .returned (.int .i64 p) ∧ w' = w := by
  have hpl : p < n := by rw [← hn]; exact (List.getElem?_eq_some_iff.1 hp).1
  have hI := Lib.hid hx
  have hnH := Lib.hid hn
  have hpH := Lib.hid hp
  have hnoH := Lib.hid hno
  clear hx hn hp hno
  go_enter Tryz.func182, Tryz.ntmps182
  go_wp2_with fail
  go_loopw [5, 8] (fun _ vi wr => ∃ k : Nat, k ≤ p ∧ vi = .int .i64 k ∧ wr = w) (fun _ vi _ => n - (intOf vi).toNat)
  case atStart => exact ⟨0, Nat.zero_le _, rfl, rfl⟩
  case round =>
    obtain ⟨k, hk, rfl, rfl⟩ := hrel
    have hkn : k < n := by omega
    have hkx : k < xs.length := by rw [hnH.out]; exact hkn
    obtain ⟨b, off, rfl, m0⟩ := hI.out.at_ k hkx
    by_cases hkp : k = p
    · subst hkp
      have hv : xs[k] = x := by have := hpH.out; rw [List.getElem?_eq_getElem hkx] at this; simpa using this
      rw [hv] at m0
      have d1 : (x == x) = true := by simp
      clear hv
      go_wp2_with fail
      go_ret
      exact ⟨rfl, rfl⟩
    · have hv : xs[k] ≠ x := fun e => hnoH.out k (by omega) (by rw [List.getElem?_eq_getElem hkx, e])
      generalize xs[k] = y at *
      have d1 : (x == y) = false := by simpa using fun e => hv e.symm
      have d2 : decide (x = y) = false := decide_eq_false fun e => hv e.symm
      clear hv
      go_wp2_with fail
      go_roundw
      case rel => exact ⟨k + 1, by omega, by go_num, by first | rfl | trivial⟩
      case measure => simp [intOf]; omega
end Go.Proofs.YtahbepajeplcmaaGreatDoor

/- Contracts: numbers sorted and without repetitions, in the library. -/
namespace Go.Proofs.YtahbepajeplcmaaGreatDoor
open Go.RowKit Go.Sort

/- left out: the seat has no slices.Sort[[]int,int] -/

theorem compactI_any (xs : List Int) (B : Option Addr) (cc : Nat) (w0 w : World) (ps : List Asn) (S : Sp w0 w (Own 3 1 (.slice B xs.length cc) xs.length (xs.map (.int .i64)) :: ps)) (hl : xs.length ≤ 1000000) :
    Calls Tryz.prog 144 #[.slice B xs.length cc] w fun e w' => e = .returned (.slice B (Lib.compact xs).length cc) ∧ Sp w0 w' (Own 3 1 (.slice B (Lib.compact xs).length cc) (Lib.compact xs).length ((Lib.compact xs).map (.int .i64)) :: ps) := by
  rcases Nat.eq_zero_or_pos xs.length with h0 | h0
  · obtain rfl : xs = [] := List.length_eq_zero_iff.1 h0
    refine (Tryz.slices_Compact_int_empty B cc w).mono ?_
    rintro e w' ⟨rfl, rfl⟩
    exact ⟨rfl, S⟩
  · obtain ⟨g, cap, cur, e1, h0', hg, hnc, hmx, hc, ht⟩ := own_block (S.own (i := 0) rfl) h0
    simp only [Value.slice.injEq] at e1
    obtain ⟨rfl, -, rfl⟩ := e1
    rw [Nat.mul_one] at ht
    have hH := holds_of_blockI hg ht
    have hcl : (Lib.compact xs).length ≤ xs.length := Lib.compact_length_le xs
    refine (Tryz.slices_Compact_int g 0 cc xs w hH (by omega) hnc).mono ?_
    rintro e w' ⟨rfl, q, rfl⟩
    have h := S.own_putRow (i := 0) (q := q) (m := (Lib.compact xs).length) (Value.int .i64) (Lib.compact xs ++ List.replicate (xs.length - (Lib.compact xs).length) 0).toArray rfl (by simp; omega) (by simp) h0
    refine ⟨rfl, ?_⟩
    have e2 : (((Lib.compact xs ++ List.replicate (xs.length - (Lib.compact xs).length) 0).toArray.toList.map (Value.int .i64)).take (Lib.compact xs).length) = (Lib.compact xs).map (.int .i64) := by
      rw [List.toList_toArray, List.map_append, List.take_append_of_le_length (by simp), List.take_of_length_le (by simp)]
    rw [e2] at h
    exact h
end Go.Proofs.YtahbepajeplcmaaGreatDoor

/- Plain facts: the variables of clauses, in ascending order. No program in sight. -/
namespace Go.Proofs.YtahbepajeplcmaaGreatDoor
open Go.RowKit

theorem ascI_ext : ∀ {a b : List Int}, a.Pairwise (· < ·) → b.Pairwise (· < ·) → (∀ x, x ∈ a ↔ x ∈ b) → a = b
  | [], [], _, _, _ => rfl
  | [], y :: b, _, _, h => absurd ((h y).2 (List.mem_cons_self ..)) (by simp)
  | x :: a, [], _, _, h => absurd ((h x).1 (List.mem_cons_self ..)) (by simp)
  | x :: a, y :: b, ha, hb, h => by
    rw [List.pairwise_cons] at ha hb
    have e : x = y := by
      rcases List.mem_cons.1 ((h x).1 (List.mem_cons_self ..)) with e | hx
      · exact e
      rcases List.mem_cons.1 ((h y).2 (List.mem_cons_self ..)) with e | hy
      · exact e.symm
      have := hb.1 x hx; have := ha.1 y hy; omega
    subst e
    congr 1
    refine ascI_ext ha.2 hb.2 fun z => ⟨fun hz => ?_, fun hz => ?_⟩
    · rcases List.mem_cons.1 ((h z).1 (List.mem_cons_of_mem _ hz)) with e | h2
      · have := ha.1 z hz; omega
      · exact h2
    · rcases List.mem_cons.1 ((h z).2 (List.mem_cons_of_mem _ hz)) with e | h2
      · have := hb.1 z hz; omega
      · exact h2
theorem bangI {l : List Int} {j : Nat} (h : j < l.length) : l.toArray[j]! = l[j] := by rw [getElem!_pos l.toArray j (by simpa using h)]; simp
theorem compactI_mem {l : List Int} {x : Int} : x ∈ Lib.compact l ↔ x ∈ l := by
  unfold Lib.compact Lib.compactUpTo
  rw [List.mem_map]
  constructor
  · rintro ⟨j, hj, rfl⟩
    have hjl := List.mem_range.1 (List.mem_filter.1 hj).1
    rw [bangI hjl]
    exact List.getElem_mem hjl
  · intro hx
    obtain ⟨j, hj, rfl⟩ := List.getElem_of_mem hx
    have key : ∀ j (hj : j < l.length), ∃ i, i ∈ (List.range l.length).filter (Lib.keeps l.toArray) ∧ l.toArray[i]! = l[j] := by
      intro j
      induction j with
      | zero => exact fun hj => ⟨0, List.mem_filter.2 ⟨List.mem_range.2 hj, by simp [Lib.keeps]⟩, bangI hj⟩
      | succ j ih =>
        intro hj
        by_cases e : l[j + 1] = l[j]
        · obtain ⟨i, hi, h2⟩ := ih (by omega)
          exact ⟨i, hi, by rw [h2, e]⟩
        · refine ⟨j + 1, List.mem_filter.2 ⟨List.mem_range.2 hj, ?_⟩, bangI hj⟩
          refine Lib.keeps_pos ?_
          rw [Nat.add_sub_cancel, bangI hj, bangI (by omega)]
          exact e
    exact key j hj
theorem compactI_asc {l : List Int} (h : l.Pairwise (· ≤ ·)) : (Lib.compact l).Pairwise (· < ·) := by
  unfold Lib.compact Lib.compactUpTo
  rw [List.pairwise_map]
  have hr : ((List.range l.length).filter (Lib.keeps l.toArray)).Pairwise (· < ·) := List.Pairwise.filter _ List.pairwise_lt_range
  refine hr.imp_of_mem fun {i j} hi hj hij => ?_
  have hil := List.mem_range.1 (List.mem_filter.1 hi).1
  have hjl := List.mem_range.1 (List.mem_filter.1 hj).1
  have hk := (List.mem_filter.1 hj).2
  rw [bangI hil, bangI hjl]
  have hget := List.pairwise_iff_getElem.1 h
  have hne : l[j] ≠ l[j - 1]'(by omega) := fun e => by
    have : Lib.keeps l.toArray j = false := Lib.keeps_neg (by omega) (by rw [bangI hjl, bangI (by omega)]; exact e)
    rw [this] at hk; cases hk
  have h1 : l[j - 1]'(by omega) ≤ l[j] := hget (j - 1) j (by omega) hjl (by omega)
  by_cases e : i = j - 1
  · subst e; omega
  · have := hget i (j - 1) hil (by omega) (by omega); omega
theorem sorted_le (l : List Int) : (l.mergeSort fun x y => decide (x ≤ y)).Pairwise (· ≤ ·) := by
  have h := List.pairwise_mergeSort (le := fun x y : Int => decide (x ≤ y)) (fun a b c h1 h2 => by simp at *; omega) (fun a b => by simp; omega) l
  exact h.imp fun h => by simpa using h
/-- A list in ascending order, without repetitions. -/
def ascL (l : List Int) : List Int := Lib.compact (l.mergeSort fun x y => decide (x ≤ y))
theorem ascL_asc (l : List Int) : (ascL l).Pairwise (· < ·) := compactI_asc (sorted_le l)
theorem ascL_mem {l : List Int} {x : Int} : x ∈ ascL l ↔ x ∈ l := by unfold ascL; rw [compactI_mem, List.mem_mergeSort]
theorem ascL_eq {l m : List Int} (hm : m.Pairwise (· < ·)) (h : ∀ x, x ∈ l ↔ x ∈ m) : ascL l = m := ascI_ext (ascL_asc l) hm fun x => by rw [ascL_mem, h]

/-- The variables up to n with a property. -/
def varF (n : Nat) (p : Nat → Bool) : List Int := ((List.range' 1 n).filter p).map fun (v : Nat) => (v : Int)
theorem varF_asc (n : Nat) (p : Nat → Bool) : (varF n p).Pairwise (· < ·) := by
  unfold varF
  rw [List.pairwise_map]
  exact (List.Pairwise.filter _ (List.pairwise_lt_range' (s := 1) (n := n))).imp fun h => by omega
theorem varF_mem {n : Nat} {p : Nat → Bool} {x : Int} : x ∈ varF n p ↔ 1 ≤ x ∧ x ≤ n ∧ p x.toNat = true := by
  unfold varF
  simp only [List.mem_map, List.mem_filter, List.mem_range'_1]
  constructor
  · rintro ⟨v, ⟨⟨h1, h2⟩, h3⟩, rfl⟩
    exact ⟨by omega, by omega, by simpa using h3⟩
  · rintro ⟨h1, h2, h3⟩
    exact ⟨x.toNat, ⟨⟨by omega, by omega⟩, h3⟩, by omega⟩
theorem varF_len (n : Nat) (p : Nat → Bool) : (varF n p).length ≤ n := by
  unfold varF
  rw [List.length_map]
  exact Nat.le_trans (List.length_filter_le _ _) (by simp)
theorem varF_snoc (n : Nat) (p : Nat → Bool) : varF (n + 1) p = varF n p ++ (if p (n + 1) = true then [((n + 1 : Nat) : Int)] else []) := by
  unfold varF
  rw [List.range'_concat, List.filter_append, List.map_append]
  congr 1
  rw [Nat.one_mul, Nat.add_comm 1 n]
  by_cases h : p (n + 1) = true <;> simp [h]
theorem varF_sub (n : Nat) (p q : Nat → Bool) : (varF n p).filter (fun x => q x.toNat) = varF n fun v => p v && q v := by
  unfold varF
  rw [List.filter_map, List.filter_filter]
  congr 1
  apply List.filter_congr
  intro v _
  simp [Function.comp, Bool.and_comm]
theorem varF_split (n : Nat) (p q : Nat → Bool) : (varF n fun v => p v && !q v).length + (varF n fun v => q v && !p v).length + (varF n fun v => p v && q v).length = (varF n fun v => p v || q v).length := by
  unfold varF
  simp only [List.length_map]
  induction List.range' 1 n with
  | nil => rfl
  | cons v l ih =>
    simp only [List.filter_cons]
    cases p v <;> cases q v <;> simp <;> omega
theorem varF_congr {n : Nat} {p q : Nat → Bool} (h : ∀ v, 1 ≤ v → v ≤ n → p v = q v) : varF n p = varF n q := by
  unfold varF
  congr 1
  apply List.filter_congr
  intro v hv
  rw [List.mem_range'_1] at hv
  exact h v hv.1 (by omega)

/-- A variable is in some clause. -/
def usedB (cls : List (List Int)) (v : Nat) : Bool := cls.any fun c => c.any fun l => l.natAbs == v
/-- All literals' variables. -/
def flatA (cls : List (List Int)) : List Int := cls.flatMap fun c => c.map fun l => (l.natAbs : Int)
theorem flatA_take {cls : List (List Int)} {k : Nat} (h : k < cls.length) : flatA (cls.take (k + 1)) = flatA (cls.take k) ++ cls[k].map fun l => (l.natAbs : Int) := by
  unfold flatA
  rw [List.take_succ_eq_append_getElem h, List.flatMap_append]
  simp
theorem used_asc {cls : List (List Int)} {n : Nat} (h : ∀ c ∈ cls, ∀ l ∈ c, l ≠ 0 ∧ l.natAbs ≤ n) : ascL (flatA cls) = varF n (usedB cls) := by
  refine ascL_eq (varF_asc _ _) fun x => ?_
  rw [varF_mem]
  unfold flatA usedB
  simp only [List.mem_flatMap, List.mem_map, List.any_eq_true, beq_iff_eq]
  constructor
  · rintro ⟨c, hc, l, hl, rfl⟩
    have := h c hc l hl
    exact ⟨by omega, by omega, c, hc, l, hl, by simp⟩
  · rintro ⟨h1, -, c, hc, l, hl, h2⟩
    exact ⟨c, hc, l, hl, by omega⟩
theorem flatA_len {cls : List (List Int)} {m : Nat} (h : ∀ c ∈ cls, c.length ≤ m) : (flatA cls).length ≤ m * cls.length := by
  unfold flatA
  induction cls with
  | nil => simp
  | cons c cls ih =>
    rw [List.flatMap_cons, List.length_append, List.length_map, List.length_cons, Nat.mul_add]
    have := h c (List.mem_cons_self ..)
    have := ih fun d hd => h d (List.mem_cons_of_mem _ hd)
    omega
end Go.Proofs.YtahbepajeplcmaaGreatDoor

/- An own row of numbers with one more. No program in sight. -/
namespace Go.Proofs.YtahbepajeplcmaaGreatDoor
open Go.RowKit

theorem ownI_snoc {w0 w : World} {ps : List Asn} {e : TypeId} {d : List Int} {x : Int} {A : Option Addr} {c : Nat} (S : Sp w0 w (Own e 1 (.slice A (d.length + 1) c) (d.length + 1) (d.map (.int .i64) ++ [.int .i64 x]) :: ps)) :
    Sp w0 w (Own e 1 (.slice A (d ++ [x]).length c) (d ++ [x]).length ((d ++ [x]).map (.int .i64)) :: ps) := by
  rw [List.map_append, List.length_append]; exact S
theorem ownI_snocC {w0 w : World} {g cl cc A0 : Nat} {ca : Option Addr} {ps : List Asn} {e : TypeId} {d : List Int} {x : Int} {A : Option Addr} {c : Nat} (S : CS w0 g ca cl cc A0 w (Own e 1 (.slice A (d.length + 1) c) (d.length + 1) (d.map (.int .i64) ++ [.int .i64 x]) :: ps)) :
    CS w0 g ca cl cc A0 w (Own e 1 (.slice A (d ++ [x]).length c) (d ++ [x]).length ((d ++ [x]).map (.int .i64)) :: ps) := by
  rw [List.map_append, List.length_append]; exact S
end Go.Proofs.YtahbepajeplcmaaGreatDoor

/- Contract: the variables of clauses, in the program. -/
namespace Go.Proofs.YtahbepajeplcmaaGreatDoor
open Go.RowKit

theorem flatA_small {cls : List (List Int)} (hc : ∀ c ∈ cls, ClS c) : ∀ x ∈ flatA cls, 0 ≤ x ∧ x ≤ 1000 := fun x hx => by
  unfold flatA at hx
  obtain ⟨c, hcm, hx⟩ := List.mem_flatMap.1 hx
  obtain ⟨l, hl, rfl⟩ := List.mem_map.1 hx
  have := (hc c hcm).1 l hl
  unfold LitS at this
  omega
theorem flatA_in {cls : List (List Int)} {k j : Nat} (hk : k < cls.length) (hj : j < cls[k].length) : flatA (cls.take k) ++ (cls[k].take (j + 1)).map (fun l => (l.natAbs : Int)) = flatA (cls.take k) ++ (cls[k].take j).map (fun l => (l.natAbs : Int)) ++ [(cls[k][j].natAbs : Int)] := by
  rw [List.take_succ_eq_append_getElem hj, List.map_append, List.append_assoc]
  rfl

/- left out: the seat has no impl.varsOf -/
end Go.Proofs.YtahbepajeplcmaaGreatDoor

/- Contract: numbers from one on; plain facts on lists of indices. -/
namespace Go.Proofs.YtahbepajeplcmaaGreatDoor
open Go.RowKit

/- left out: the seat has no impl.upTo -/

/-- The first k numbers made less by one. -/
def decL (n k : Nat) : List Value := (List.range n).map fun (j : Nat) => .int .i64 (if j < k then (j : Int) else (j : Int) + 1)
theorem decL_zero (n : Nat) : decL n 0 = (List.range n).map fun (j : Nat) => .int .i64 ((j : Int) + 1) := by simp [decL]
theorem decL_all (n : Nat) : decL n n = (ofN (List.range n)).map (.int .i64) := by
  unfold decL ofN
  rw [List.map_map]
  apply List.map_congr_left
  intro j hj
  have := List.mem_range.1 hj
  simp [this]
theorem decL_len (n k : Nat) : (decL n k).length = n := by simp [decL]
theorem decL_at {n k : Nat} (h : k < n) : (decL n k)[k]? = some (.int .i64 ((k : Int) + 1)) := by simp [decL, h]
theorem decL_set {n k : Nat} (h : k < n) : (decL n k).set k (.int .i64 (k : Int)) = decL n (k + 1) := by
  apply List.ext_getElem?
  intro j
  rw [List.getElem?_set]
  by_cases hj : k = j
  · subst hj
    simp [decL, h]
  · rw [if_neg hj]
    by_cases hjn : j < n
    · simp only [decL, List.getElem?_map, List.getElem?_range hjn, Option.map_some]
      by_cases hjk : j < k
      · rw [if_pos hjk, if_pos (by omega)]
      · rw [if_neg hjk, if_neg (by omega)]
    · rw [List.getElem?_eq_none (by rw [decL_len]; omega), List.getElem?_eq_none (by rw [decL_len]; omega)]
/-- What is told of a core. -/
def coreOk (n : Nat) (vars : Int) (xss : List (List Int)) : Bool := goodB vars xss && !(List.range (2 ^ n)).any (modT xss)
def coreL (n : Nat) (xss : List (List Int)) : List Nat := coreGo (coreB n xss) [] (List.range xss.length)
theorem ofN_ok {m : Nat} (hm : m ≤ 1000000) {l : List Nat} (h : AscN m l) : ∀ x ∈ ofN l, I64 x := by
  intro x hx
  obtain ⟨i, hi, rfl⟩ := List.mem_map.1 hx
  have := h.2 i hi
  unfold I64; omega
theorem mid_at {kept rest : List Nat} {i : Nat} : (ofN (kept ++ i :: rest))[kept.length]? = some (i : Int) := by
  unfold ofN
  rw [List.getElem?_map, List.getElem?_append_right (Nat.le_refl _), Nat.sub_self]; rfl
theorem mid_no {m : Nat} {kept rest : List Nat} {i : Nat} (h : AscN m (kept ++ i :: rest)) : ∀ j, j < kept.length → (ofN (kept ++ i :: rest))[j]? ≠ some (i : Int) := by
  intro j hj e
  have hlt : kept[j] < i := (List.pairwise_append.1 h.1).2.2 _ (List.getElem_mem hj) i (by simp)
  unfold ofN at e
  rw [List.getElem?_map, List.getElem?_append_left hj, List.getElem?_eq_getElem hj] at e
  simp only [Option.map_some, Option.some.injEq, Int.natCast_inj] at e
  omega
theorem ofN_erase {kept rest : List Nat} {i : Nat} : (ofN (kept ++ i :: rest)).eraseIdx kept.length = ofN (kept ++ rest) := by
  unfold ofN
  rw [List.map_append, List.map_cons, List.map_append]
  have h : ((kept.map fun (i : Nat) => (i : Int)) ++ (i : Int) :: rest.map fun (i : Nat) => (i : Int)).eraseIdx (kept.map fun (i : Nat) => (i : Int)).length = (kept.map fun (i : Nat) => (i : Int)) ++ rest.map fun (i : Nat) => (i : Int) := by
    rw [List.eraseIdx_append_of_length_le (Nat.le_refl _), Nat.sub_self]; rfl
  rwa [List.length_map] at h
theorem range_front {n i : Nat} (h : i < n) : List.range' i (n - i) = i :: List.range' (i + 1) (n - (i + 1)) := by
  rw [show n - i = (n - (i + 1)) + 1 by omega, List.range'_succ]
theorem asc_len_from {m : Nat} : ∀ (l : List Nat) (a : Nat), l.Pairwise (· < ·) → (∀ x ∈ l, a ≤ x ∧ x < m) → a ≤ m → l.length + a ≤ m
  | [], a, _, _, h => by simpa using h
  | x :: l, a, hp, hx, _ => by
    rw [List.pairwise_cons] at hp
    have h0 := hx x (by simp)
    have := asc_len_from l (x + 1) hp.2 (fun y hy => ⟨hp.1 y hy, (hx y (List.mem_cons_of_mem _ hy)).2⟩) h0.2
    rw [List.length_cons]; omega
theorem asc_len {m : Nat} {l : List Nat} (h : AscN m l) : l.length ≤ m := by
  have := asc_len_from l 0 h.1 (fun x hx => ⟨Nat.zero_le _, h.2 x hx⟩) (Nat.zero_le _)
  omega
/-- A row of numbers with room, and whether it is told. -/
def IAnsC (w : World) (ok : Bool) (zs : List Int) (e : Ending) (w' : World) : Prop :=
  ∃ B cap, e = .returned (.tuple #[.slice B zs.length cap, .bool ok]) ∧ IntsAt w' B zs ∧ zs.length ≤ cap ∧ Below w.heap.size w w'
end Go.Proofs.YtahbepajeplcmaaGreatDoor

/- Contracts: lists of indices in ascending order, on both sides. -/
namespace Go.Proofs.YtahbepajeplcmaaGreatDoor
open Go.RowKit

/-- An index that fits, above the one ahead of it. -/
def rOk (m : Int) (l : List Int) (i : Nat) : Bool := inB (l.getD i 0) 0 (m - 1) && (i == 0 || decide (l.getD (i - 1) 0 < l.getD i 0))
def rOkTo (m : Int) (l : List Int) (k : Nat) : Bool := (List.range k).all (rOk m l)
theorem rOkTo_succ (m : Int) (l : List Int) (k : Nat) : rOkTo m l (k + 1) = (rOkTo m l k && rOk m l k) := by simp [rOkTo, List.range_succ]
def risB (m : Int) (l : List Int) : Bool := rOkTo m l l.length
theorem ris_no {m : Int} {l : List Int} {k : Nat} (hk : k < l.length) (h : rOk m l k = false) : risB m l = false := by
  unfold risB rOkTo
  rw [List.all_eq_false]
  exact ⟨k, List.mem_range.2 hk, by rw [h]; decide⟩
theorem ris_step {m : Int} {l : List Int} {k : Nat} (h0 : rOkTo m l k = true) (h : rOk m l k = true) : rOkTo m l (k + 1) = true := by rw [rOkTo_succ, h0, h]; rfl
theorem rOk_zero (m : Int) (l : List Int) (h : 0 < l.length) : rOk m l 0 = inB l[0] 0 (m - 1) := by simp [rOk, List.getD_eq_getElem?_getD, List.getElem?_eq_getElem h]
theorem rOk_succ (m : Int) (l : List Int) (k : Nat) (h : k + 1 < l.length) : rOk m l (k + 1) = (inB l[k + 1] 0 (m - 1) && decide ((l[k]'(by omega)) < l[k + 1])) := by
  simp [rOk, List.getD_eq_getElem?_getD, List.getElem?_eq_getElem h, List.getElem?_eq_getElem (show k < l.length by omega)]
theorem l1InB {x lo hi : Int} {q : Bool} (h : inB x lo hi = q) (w : World) : Calls Tryz.prog 88 #[.int .i64 x, .int .i64 lo, .int .i64 hi] w fun e w' => e = .returned (.bool q) ∧ Below w.heap.size w w' := h ▸ same_below (l1In_any x lo hi w)
theorem withinB {x lo hi : Int} {q : Bool} (h : inB x lo hi = q) (w : World) : Calls Tryz.prog 57 #[.int .i64 x, .int .i64 lo, .int .i64 hi] w fun e w' => e = .returned (.bool q) ∧ Below w.heap.size w w' := h ▸ same_below (within_any x lo hi w)

/- left out: the seat has no spec.l1Rising -/

/- left out: the seat has no impl.indicesOk -/

theorem ris_bound {m : Int} {l : List Int} (h : risB m l = true) {i : Nat} (hi : i < l.length) : 0 ≤ l[i] ∧ l[i] ≤ m - 1 := by
  have h2 := List.all_eq_true.1 h i (List.mem_range.2 hi)
  unfold rOk at h2
  rw [Bool.and_eq_true, List.getD_eq_getElem?_getD, List.getElem?_eq_getElem hi] at h2
  exact inB_true.1 h2.1
theorem ris_lt {m : Int} {l : List Int} (h : risB m l = true) {i : Nat} (hi : i + 1 < l.length) : l[i]'(by omega) < l[i + 1] := by
  have h2 := List.all_eq_true.1 h (i + 1) (List.mem_range.2 hi)
  rw [rOk_succ _ _ _ hi, Bool.and_eq_true] at h2
  exact of_decide_eq_true h2.2
/-- A list of indices that is valid, as natural numbers. -/
theorem ris_nat {m : Nat} {l : List Int} (h : risB m l = true) : ∃ is : List Nat, l = ofN is ∧ AscN m is := by
  refine ⟨l.map Int.toNat, ?_, ?_, ?_⟩
  · unfold ofN
    rw [List.map_map]
    apply List.ext_getElem
    · simp
    · intro i h1 h2
      have := ris_bound h h1
      simp only [List.getElem_map, Function.comp]
      omega
  · have hp : l.Pairwise (fun a b => a.toNat < b.toNat) := by
      have hmono : ∀ d i, i + d + 1 < l.length → ∀ (h1 : i < l.length) (h2 : i + d + 1 < l.length), l[i] < l[i + d + 1] := by
        intro d
        induction d with
        | zero => intro i _ h1 h2; exact ris_lt h h2
        | succ d ih =>
          intro i hh h1 h2
          have a := ih i (by omega) h1 (by omega)
          have b := ris_lt h (i := i + d + 1) (by omega)
          exact Int.lt_trans a b
      rw [List.pairwise_iff_getElem]
      intro i j hi hj hij
      have a := hmono (j - i - 1) i (by omega) hi (by omega)
      have e : i + (j - i - 1) + 1 = j := by omega
      simp only [e] at a
      have b1 := ris_bound h hi
      have b2 := ris_bound h hj
      omega
    exact List.pairwise_map.2 hp
  · intro i hi
    obtain ⟨x, hx, rfl⟩ := List.mem_map.1 hi
    obtain ⟨j, hj, rfl⟩ := List.getElem_of_mem hx
    have := ris_bound h hj
    omega
end Go.Proofs.YtahbepajeplcmaaGreatDoor
