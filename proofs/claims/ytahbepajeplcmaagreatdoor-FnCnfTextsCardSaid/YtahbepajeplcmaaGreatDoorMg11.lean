/- Lemmas and contracts for a law, put together out of several texts: CxH CxI RsB MdL CxL CxJ ClP NxA. -/
import Derived.Test.YtahbepajeplcmaaGreatDoorMg9
import Derived.Test.YtahbepajeplcmaaGreatDoorMg10
import Derived.Test.YtahbepajeplcmaaGreatDoorMg8
import Derived.Test.YtahbepajeplcmaaGreatDoorMg3
import Derived.Test.YtahbepajeplcmaaGreatDoorMg2
/- Contracts: rows among others, in the program. -/
namespace Go.Proofs.YtahbepajeplcmaaGreatDoor
open Go.RowKit

set_option maxHeartbeats 2000000 in
theorem equalR_any (A B : Option Addr) (ac bc : Nat) (xs ys : List Int) (w : World) (hx : IntsAt w A xs) (hy : IntsAt w B ys) (hbx : xs.length ≤ 1000000) :
    Calls Tryz.prog 114 #[.slice A xs.length ac, .slice B ys.length bc] w fun e w' => e = .returned (.bool (decide (xs = ys))) ∧ Below w.heap.size w w' := by
  have hX := Lib.hid hx
  have hY := Lib.hid hy
  clear hx hy
  by_cases hl : xs.length = ys.length
  case neg =>
    have hne : ((xs.length : Int) == (ys.length : Int)) = false := by simp; omega
    have hd : Hid (decide (xs = ys) = false) := by unfold Hid; simp; rintro rfl; exact hl rfl
    clear hl
    go_enter Tryz.func114, Tryz.ntmps114
    go_wp2_with fail
    go_ret
    exact ⟨ret_bool hd.out.symm, bb _⟩
  have hne : ((xs.length : Int) == (ys.length : Int)) = true := by simp; omega
  replace hl := (show Hid (xs.length = ys.length) from hl)
  go_enter Tryz.func114, Tryz.ntmps114
  go_wp2_with fail
  go_loopw [5, 13] (fun _ i wr => ∃ k : Nat, k ≤ xs.length ∧ i = .int .i64 k ∧ Hid (xs.take k = ys.take k) ∧ Hid (Below w.heap.size w wr)) (fun _ i _ => xs.length - (intOf i).toNat)
  case atStart => exact ⟨0, Nat.zero_le _, rfl, by simp [Hid], bb _⟩
  case round =>
    obtain ⟨k, hk, rfl, HR, hB⟩ := hrel
    by_cases hlt : k < xs.length
    · have hlt' : k < ys.length := by have := hl.out; omega
      obtain ⟨b, off, rfl, m0⟩ := hX.out.at_ k hlt
      obtain ⟨b', off', rfl, m1⟩ := hY.out.at_ k hlt'
      have k0 := cell_regrown ((hB.out.cell (World.block_lt_of_cell? _ _ m0)).trans m0)
      have k1 := cell_regrown ((hB.out.cell (World.block_lt_of_cell? _ _ m1)).trans m1)
      have HS : Hid (xs.take (k + 1) = ys.take (k + 1) ↔ xs[k] = ys[k]) := by
        unfold Hid
        rw [List.take_succ_eq_append_getElem hlt, List.take_succ_eq_append_getElem hlt', HR.out]
        exact ⟨fun h => by have := List.append_cancel_left h; simpa using this, fun h => by rw [h]⟩
      by_cases he : xs[k] = ys[k]
      · have he' : (xs[k] != ys[k]) = false := by simpa using he
        have HN : Hid (xs.take (k + 1) = ys.take (k + 1)) := HS.out.2 he
        clear he HS m0 m1
        go_wp2_with fail
        refine wp_region_quiet_below (by kernel_rfl) (by kernel_rfl) ?_
        repeat (any_goals (go_big_quiet_step (fail)))
        refine wpQuiet_nil ?_
        rintro w1 ⟨p, hw1⟩
        have hb1 := Lib.hid (hB.out.trans ((hw1 ▸ below_regrown _ _ _ : Below wr.heap.size wr w1).mono hB.out.size))
        clear hw1 k0 k1
        go_wp2_with fail
        go_roundw
        case rel => exact ⟨k + 1, by omega, by go_num, HN, hb1⟩
        case measure => simp [intOf]; omega
      · have he' : (xs[k] != ys[k]) = true := by simpa using he
        have HN : Hid (decide (xs = ys) = false) := by
          unfold Hid
          simp only [decide_eq_false_iff_not]
          rintro rfl
          exact he rfl
        clear he HS m0 m1
        go_wp2_with fail
        refine wp_region_quiet_below (by kernel_rfl) (by kernel_rfl) ?_
        repeat (any_goals (go_big_quiet_step (fail)))
        refine wpQuiet_nil ?_
        rintro w1 ⟨p, hw1⟩
        have hb1 := Lib.hid (hB.out.trans ((hw1 ▸ below_regrown _ _ _ : Below wr.heap.size wr w1).mono hB.out.size))
        clear hw1 k0 k1
        go_wp2_with fail
        go_ret
        exact ⟨ret_bool HN.out.symm, hb1.out⟩
    · obtain rfl : k = xs.length := by omega
      have HN : Hid (decide (xs = ys) = true) := by
        have h := HR.out
        have h2 := hl.out
        rw [List.take_length, h2, List.take_length] at h
        exact decide_eq_true h
      go_wp2_with fail
      go_ret
      exact ⟨ret_bool HN.out.symm, hB.out⟩

set_option maxHeartbeats 1000000 in
theorem indexOf1_any (xs : List Int) (A : Option Addr) (ac : Nat) (rb : Nat) (R : Option Addr) (rc : Nat) (rs : List Int) (w : World) (c0 : w.cell? ⟨rb, 0, none⟩ = some (.slice R rs.length rc)) (hx : IntsAt w A xs) (hR : IntsAt w R rs) (lr : rs.length ≤ 1000000) :
    Calls Tryz.prog 199 #[.slice A xs.length ac, .pointer (some ⟨rb, 0, none⟩)] w fun e w' => e = .returned (.bool (decide (rs = xs))) ∧ Below w.heap.size w w' := by
  have hc := Lib.hid (equalR_any R A rc ac rs xs w hR hx lr)
  clear hR hx
  go_enter Tryz.func199, Tryz.ntmps199
  go_wp2_with fail
  refine hc.out.mono ?_
  rintro e w1 ⟨rfl, hb1⟩
  replace hb1 := Lib.hid hb1
  go_wp2_with fail
  go_ret
  exact ⟨rfl, hb1.out⟩
set_option maxHeartbeats 1000000 in
theorem hasList_any (xss : List (List Int)) (c : List Int) (A B : Option Addr) (ac bc : Nat) (w : World) (hx : ClsAt w A xss) (hy : IntsAt w B c) (hl : xss.length ≤ 1000000) (lc : c.length ≤ 1000000) :
    Calls Tryz.prog 117 #[.slice A xss.length ac, .slice B c.length bc] w fun e w' => e = .returned (.bool (xss.any fun y => decide (c = y))) ∧ Below w.heap.size w w' := by
  have hidx : ∀ W, Below w.heap.size w W → Calls Tryz.prog 161 #[.slice A xss.length ac, .slice B c.length bc] W fun e w' => e = .returned (.int .i64 (idxP (fun y => decide (c = y)) xss)) ∧ Below W.heap.size W w' := fun W hW => by
    have eg : Enter1 199 := enters_of Tryz.func199 (by kernel_rfl) rfl
    have S0 := (Sp.start W).alloc_box #[.slice B c.length bc] 43
    have c0 := S0.cell (i := 0) rfl (o := 0) rfl
    have hXW := hx.grow hW
    have hYW := hy.grow hW
    have hcon := Lib.hid (indexFuncS_any (cb := #[.pointer (some ⟨W.heap.size, 0, none⟩)]) (p := fun y => decide (c = y)) (R := fun _ => True) eg xss A ac _ (hXW.grow S0.below) hl (fun _ _ => trivial) fun x X k V hV _ hb => indexOf1_any x X k W.heap.size B bc c V (cell_below c0 hb) hV ((hYW.grow S0.below).grow hb) lc)
    generalize idxP (fun y => decide (c = y)) xss = q at *
    replace S0 := Lib.hid S0
    clear hx hy c0 hXW hYW
    go_enter Tryz.func161, Tryz.ntmps161
    go_wp2_with fail
    refine hcon.out.mono ?_
    rintro e w1 ⟨rfl, hb1⟩
    have hB := Lib.hid (S0.out.grow hb1).below
    clear hcon S0 hb1
    go_wp2_with fail
    go_ret
    exact ⟨rfl, hB.out⟩
  have hi := Lib.hid (hidx w (bb w))
  have hge := Lib.hid (idxP_ge (fun y => decide (c = y)) xss)
  generalize idxP (fun y => decide (c = y)) xss = q at *
  clear hidx hx hy
  go_enter Tryz.func117, Tryz.ntmps117
  go_wp2_with fail
  refine hi.out.mono ?_
  rintro e w1 ⟨rfl, hb1⟩
  replace hb1 := Lib.hid hb1
  go_wp2_with fail
  go_ret
  exact ⟨ret_bool hge.out, hb1.out⟩
set_option maxHeartbeats 1000000 in
theorem dropWeaker1_any (xs : List Int) (A : Option Addr) (ac : Nat) (rb : Nat) (R : Option Addr) (rc : Nat) (rs : List Int) (w : World) (c0 : w.cell? ⟨rb, 0, none⟩ = some (.slice R rs.length rc)) (hx : IntsAt w A xs) (hR : IntsAt w R rs) (la : xs.length ≤ 1000) (lb : rs.length ≤ 1000) :
    Calls Tryz.prog 119 #[.slice A xs.length ac, .pointer (some ⟨rb, 0, none⟩)] w fun e w' => e = .returned (.bool (xs.all (hasI rs) && !(rs.all (hasI xs)))) ∧ Below w.heap.size w w' := by
  have h1 := Lib.hid (part_any xs rs A R ac rc w hx hR la lb)
  have h2 := Lib.hid (fun W (h : Below w.heap.size w W) => part_any rs xs R A rc ac W (hR.grow h) (hx.grow h) lb la)
  clear hR hx
  obtain ⟨q1, hq1⟩ : ∃ q, xs.all (hasI rs) = q := ⟨_, rfl⟩
  obtain ⟨q2, hq2⟩ : ∃ q, rs.all (hasI xs) = q := ⟨_, rfl⟩
  rw [hq1] at h1 ⊢
  rw [hq2] at h2 ⊢
  clear hq1 hq2
  cases q1
  · go_enter Tryz.func119, Tryz.ntmps119
    go_wp2_with fail
    refine h1.out.mono ?_
    rintro e w1 ⟨rfl, hb1⟩
    replace hb1 := Lib.hid hb1
    clear h1 h2
    go_wp2_with fail
    go_ret
    exact ⟨rfl, hb1.out⟩
  · go_enter Tryz.func119, Tryz.ntmps119
    go_wp2_with fail
    refine h1.out.mono ?_
    rintro e w1 ⟨rfl, hb1⟩
    have k0 := (hb1.cell (World.block_lt_of_cell? _ _ c0)).trans c0
    have h3 := Lib.hid (h2.out w1 hb1)
    replace hb1 := Lib.hid hb1
    clear h1 h2 c0
    go_wp2_with fail
    refine h3.out.mono ?_
    rintro e w2 ⟨rfl, hb2⟩
    have hB := Lib.hid (btr hb1.out hb2)
    clear hb1 hb2 h3
    go_wp2_with fail
    go_ret
    exact ⟨rfl, hB.out⟩
end Go.Proofs.YtahbepajeplcmaaGreatDoor

/- Contract: the clauses that no other one is a part of, in the program. -/
namespace Go.Proofs.YtahbepajeplcmaaGreatDoor
open Go.RowKit

/-- The program's test for a weaker clause. -/
def weakI (xss : List (List Int)) (k : Nat) (c : List Int) : Bool := ((xss.take k).any fun y => decide (c = y)) || (xss.any fun d => d.all (hasI c) && !(c.all (hasI d)))
theorem weak_same {xss : List (List Int)} (hg : ∀ c ∈ xss, GoodS c) {k : Nat} (hk : k < xss.length) : weakTo xss k xss.length = weakI xss k xss[k] := by
  rw [Bool.eq_iff_iff]
  unfold weakTo weakI weakQ
  rw [List.any_eq_true, Bool.or_eq_true, List.any_eq_true, List.any_eq_true]
  have hgk := hg _ (List.getElem_mem hk)
  constructor
  · rintro ⟨j, hj, h⟩
    have hj := List.mem_range.1 hj
    rw [getD_at hk, getD_at hj, Bool.and_eq_true, Bool.or_eq_true, Bool.not_eq_true', decide_eq_false_iff_not, decide_eq_true_eq] at h
    obtain ⟨h1, h2⟩ := h
    by_cases he : xss[j] = xss[k]
    · have hjk : j < k := h2.resolve_left fun h => h he
      refine .inl ⟨xss[j], ?_, by rw [he]; simp⟩
      rw [List.mem_take_iff_getElem]
      exact ⟨j, by omega, rfl⟩
    · refine .inr ⟨xss[j], List.getElem_mem hj, ?_⟩
      rw [Bool.and_eq_true, Bool.not_eq_true']
      refine ⟨h1, ?_⟩
      cases h3 : xss[k].all (hasI xss[j]) with
      | false => rfl
      | true =>
        rw [List.all_eq_true] at h1 h3
        exact absurd ((hg _ (List.getElem_mem hj)).ext hgk fun x => ⟨fun hx => hasS_iff.1 (h1 x hx), fun hx => hasS_iff.1 (h3 x hx)⟩) he
  · rintro (⟨y, hy, h⟩ | ⟨d, hd, h⟩)
    · rw [List.mem_take_iff_getElem] at hy
      obtain ⟨j, hj, rfl⟩ := hy
      have he := of_decide_eq_true h
      refine ⟨j, List.mem_range.2 (by omega), ?_⟩
      rw [getD_at hk, getD_at (by omega), ← he, Bool.and_eq_true, Bool.or_eq_true]
      refine ⟨?_, .inr (decide_eq_true (by omega))⟩
      rw [List.all_eq_true]
      exact fun x hx => hasS_iff.2 hx
    · obtain ⟨j, hj, rfl⟩ := List.mem_iff_getElem.1 hd
      rw [Bool.and_eq_true, Bool.not_eq_true'] at h
      refine ⟨j, List.mem_range.2 hj, ?_⟩
      rw [getD_at hk, getD_at hj, Bool.and_eq_true, Bool.or_eq_true, Bool.not_eq_true', decide_eq_false_iff_not]
      refine ⟨h.1, .inl fun he => ?_⟩
      rw [he] at h
      have := h.2
      rw [List.all_eq_false] at this
      obtain ⟨x, hx, h2⟩ := this
      exact h2 (hasS_iff.2 hx)

set_option maxRecDepth 100000 in
set_option maxHeartbeats 8000000 in
theorem implDropWeaker_any (vars : Int) (v : Value) (xss : List (List Int)) (F : List Nat) (w : World) (hx : (Ty.slice Ty.int).row false w v xss F) :
    Calls Tryz.prog 47 #[.agg #[.int .i64 vars, v]] w (CnfP (leastN vars xss) w) := by
  obtain ⟨A, cap, rfl, hI⟩ := cls_row hx
  obtain ⟨i1, hi, hz0, hz1, hz2⟩ := info_parts infoRow
  have S0 := ((Sp.start w).alloc_box #[.int .i64 vars, .slice A xss.length cap] 61).alloc_box #[.int .i64 0, .slice none 0 0] 61
  simp only [World.size_alloc] at S0
  have hgood := Lib.hid (implIsCnf_any vars _ xss F _ (Ty.row_below hx S0.below (Ty.row_lt hx)))
  have hcap : xss.length ≤ cap := (Ty.row_len hx).elim fun _ h => h.elim fun _ h => by obtain ⟨h1, h2, -⟩ := h; cases h1; exact h2
  have hN := Lib.hid hI
  have hrows0 := Lib.hid hx
  have c0 := S0.cell (i := 1) rfl (o := 0) rfl
  have c1 := S0.cell (i := 1) rfl (o := 1) rfl
  replace S0 := Lib.hid S0
  clear hx hI
  cases h1 : goodB vars xss
  · have hR := Lib.hid (show leastN vars xss = ((0, []), false) from if_neg (by rw [h1]; decide))
    rw [h1] at hgood
    go_enter Tryz.func47, Tryz.ntmps47
    go_wp2_with fail
    refine hgood.out.mono ?_
    rintro e w1 ⟨rfl, hb1⟩
    have S1 := Lib.hid (S0.out.grow hb1)
    clear S0 hgood hb1 c0 c1 hN hrows0
    have r0 := S1.out.cell (i := 0) rfl (o := 0) rfl
    have r1 := S1.out.cell (i := 0) rfl (o := 1) rfl
    have f0 := S1.out.frozen (i := 0) rfl 0
    have f1 := S1.out.frozen (i := 0) rfl 1
    have SF := (S1.out.store (i := 0) rfl 0 (.int .i64 0)).store (i := 0) rfl 1 (.slice none 0 0)
    have j0 := SF.cell (i := 0) rfl (o := 0) rfl
    have j1 := SF.cell (i := 0) rfl (o := 1) rfl
    have hB := Lib.hid SF.below
    clear SF
    go_wp2_with fail
    exact bodyPost_ret (v := .tuple #[.agg #[.int .i64 0, .slice none 0 0], .bool false]) (by simp [results, Tryz.results47, go_sem, j0, j1]) rfl (cnfP_no hR.out hB.out)
  · have hR := Lib.hid (show leastN vars xss = if true = true then ((vars, leastK xss xss.length), true) else ((0, []), false) from (if_pos h1).trans (if_pos rfl).symm)
    rw [h1] at hgood
    have hml := Lib.hid (good_mildC h1)
    obtain ⟨g1, g2, g3⟩ := goodN_parts h1
    have hwq := Lib.hid (fun k hk => weak_same (xss := xss) (fun c hc => good_s (g3 c hc)) (k := k) hk)
    clear g1 g3 h1
    go_enter Tryz.func47, Tryz.ntmps47
    go_wp2_with fail
    refine hgood.out.mono ?_
    rintro e w1 ⟨rfl, hb1⟩
    have S1 := Lib.hid (S0.out.grow hb1)
    clear S0 hgood hb1 c0 c1
    have c0 := S1.out.cell (i := 1) rfl (o := 0) rfl
    have c1 := S1.out.cell (i := 1) rfl (o := 1) rfl
    have S2 := ((S1.out.rows_nil Ty.int 43).alloc_box #[.int .i64 vars, .slice none 0 0] 61)
    obtain ⟨ob, hob⟩ : ∃ ob, w1.heap.size = ob := ⟨_, rfl⟩
    obtain ⟨rb, hrb⟩ : ∃ rb, w.heap.size + 1 = rb := ⟨_, rfl⟩
    rw [hob, hrb] at S2
    have S3 : Hid (Sp w _ [Rows Ty.int 43 (.slice none ([] : List (List Int)).length 0) [] ([] : List (List Int)), Box ob 61 #[.int .i64 vars, .slice none ([] : List (List Int)).length 0], Box rb 61 #[.int .i64 0, .slice none 0 0], Box w.heap.size 61 #[.int .i64 vars, .slice A xss.length cap]]) := S2.swap
    have d1 := S3.out.cell (i := 3) rfl (o := 1) rfl
    clear S1 S2
    go_wp2_with fail
    go_loopw [5, 6, 7, 18] (fun _ _ _ vi wr => ∃ (k : Nat) (ys : List (List Int)) (cs : List Value) (B : Option Addr) (bc : Nat), k ≤ xss.length ∧ vi = .int .i64 k ∧ Hid (ys = leastK xss k) ∧ Hid (Sp w wr [Rows Ty.int 43 (.slice B ys.length bc) cs ys, Box ob 61 #[.int .i64 vars, .slice B ys.length bc], Box rb 61 #[.int .i64 0, .slice none 0 0], Box w.heap.size 61 #[.int .i64 vars, .slice A xss.length cap]])) (fun _ _ _ vi _ => xss.length - (intOf vi).toNat)
    case atStart => exact ⟨0, [], [], _, _, Nat.zero_le _, rfl, rfl, S3⟩
    case round =>
      obtain ⟨k, ys, cs, B, bc, hk, rfl, hys, HS⟩ := hrel
      clear S3
      have c1 := HS.out.cell (i := 3) rfl (o := 1) rfl
      by_cases hlt : k < xss.length
      · have hlk := (hml.out _ (List.getElem_mem hlt)).2
        have hwk := (hml.out _ (List.getElem_mem hlt)).1
        have hweak := Lib.hid (hwq.out k hlt)
        have hkeep := Lib.hid (fun h => leastK_keep (xss := xss) (k := k) h)
        have hdrop := Lib.hid (fun h => leastK_weak (xss := xss) (k := k) h)
        rw [getD_at hlt] at hkeep
        obtain ⟨b, off, Bk, ck, rfl, m0, hIk⟩ := hN.out.at_ k hlt
        have n0 := (HS.out.below.cell (World.block_lt_of_cell? _ _ m0)).trans m0
        have hyl : ys.length ≤ k := by rw [hys.out]; exact leastK_len xss k
        have hcc : k ≤ cap := by omega
        obtain ⟨c, hc⟩ : ∃ c, xss[k] = c := ⟨_, rfl⟩
        rw [hc] at hlk hwk hweak hkeep n0 m0 hIk
        replace m0 := Lib.hid m0
        have S4 := (HS.out.alloc_box #[.slice Bk c.length ck] 43)
        obtain ⟨cb, hcb⟩ : ∃ cb, wr.heap.size = cb := ⟨_, rfl⟩
        rw [hcb] at S4
        have k0 := cell_regrown (S4.cell (i := 0) rfl (o := 0) rfl)
        have k1 := cell_regrown (S4.cell (i := 4) rfl (o := 1) rfl)
        have cc0 := Lib.hid (S4.cell (i := 0) rfl (o := 0) rfl)
        have hB4 := Lib.hid S4.below
        obtain ⟨W4, hW4⟩ : ∃ W4, wr.alloc (.cells #[.slice Bk c.length ck] 43) = W4 := ⟨_, rfl⟩
        have hN4 := Lib.hid (hN.out.grow hB4.out)
        have hI4 := Lib.hid (hIk.grow hB4.out)
        replace S4 := Lib.hid S4
        have htk : (xss.take k).length = k := by rw [List.length_take]; omega
        have HL := Lib.hid (fun W (h : Below W4.heap.size W4 W) => hasList_any (xss.take k) c (some ⟨b, off, none⟩) Bk cap ck W (((hW4 ▸ hN4.out : ClsAt W4 (some ⟨b, off, none⟩) xss).to k).grow h) ((hW4 ▸ hI4.out : IntsAt W4 Bk c).grow h) (by omega) (by omega))
        rw [htk] at HL
        have eg : Enter1 119 := enters_of Tryz.func119 (by kernel_rfl) rfl
        have HC := Lib.hid (fun W (h : Below W4.heap.size W4 W) => containsS_any (cb := #[.pointer (some ⟨cb, 0, none⟩)]) (p := fun d => d.all (hasI c) && !(c.all (hasI d))) (R := fun d => d.length ≤ 1000) eg xss (some ⟨b, off, none⟩) cap W ((hW4 ▸ hN4.out : ClsAt W4 (some ⟨b, off, none⟩) xss).grow h) (by omega) (fun d hd => by have := (hml.out d hd).2; omega) fun x X kx V hV hx hb => dropWeaker1_any x X kx cb Bk ck c V (cell_below (cell_below (hW4 ▸ cc0.out : W4.cell? ⟨cb, 0, none⟩ = some (.slice Bk c.length ck)) h) hb) hV (((hW4 ▸ hI4.out : IntsAt W4 Bk c).grow h).grow hb) hx (by omega))
        unfold weakI at hweak
        obtain ⟨q1, hq1⟩ : ∃ q, ((xss.take k).any fun y => decide (c = y)) = q := ⟨_, rfl⟩
        obtain ⟨q2, hq2⟩ : ∃ q, (xss.any fun d => d.all (hasI c) && !(c.all (hasI d))) = q := ⟨_, rfl⟩
        rw [hq1] at HL hweak
        rw [hq2] at HC hweak
        replace hIk := Lib.hid hIk
        clear HS hq1 hq2 htk eg hN4 hI4 hB4 cc0 hc
        go_wp2_with fail
        rw [hW4] at k0 k1 S4
        clear hW4
        cases q1
        · cases q2
          · refine wp_region_quiet_below (by kernel_rfl) (by kernel_rfl) ?_
            repeat (any_goals (first | go_big_quiet_step (first | (go_at_call 117; exact Calls.regrown_of (HL.out _ (below_regrown _ _ _))) | (go_at_call 118; exact Calls.regrown_of (HC.out _ (below_regrown _ _ _))))))
            refine wpQuiet_nil ?_
            rintro w3 ⟨pp, hw3⟩
            have hb3 := Lib.hid (hw3 ▸ below_regrown _ _ _ : Below W4.heap.size W4 w3)
            have S5 := Lib.hid ((S4.out.grow hb3.out).pick (qs := [Rows Ty.int 43 (.slice B ys.length bc) cs ys, Box ob 61 #[.int .i64 vars, .slice B ys.length bc], Box rb 61 #[.int .i64 0, .slice none 0 0], Box w.heap.size 61 #[.int .i64 vars, .slice (some ⟨b, off, none⟩) xss.length cap], Box cb 43 #[.slice Bk c.length ck]]) [1, 1, 1, 1, 0] rfl)
            clear hw3 hb3 S4 k0 k1 HL HC
            have hnx : Hid (leastK xss (k + 1) = ys ++ [c]) := by unfold Hid; rw [hkeep.out (by rw [hweak.out]; rfl), hys.out]
            have l1 := S5.out.cell (i := 1) rfl (o := 1) rfl
            have c0 := S5.out.cell (i := 4) rfl (o := 0) rfl
            have hcl := Lib.hid (fun W (h : Below w.heap.size w W) => cloneA_any Bk ck c W (hIk.out.grow h) (by omega))
            have hck : ∀ x ∈ c, I64 x := fun x hx => by have := hwk x hx; unfold I64; omega
            clear hkeep hdrop hweak hys
            go_wp2_with fail
            refine wp_region_tail_lit (S := (fun w' => w'.cell? ⟨ob, 1, none⟩ = some (.slice B ys.length bc) ∧ w'.cell? ⟨cb, 0, none⟩ = some (.slice Bk c.length ck))) 5 [false, false, false, false, false, false, false, false] (by kernel_rfl) (by kernel_rfl) (by kernel_rfl) ?_ ?_
            · exact ⟨l1, c0⟩
            intro hSc
            (refine walkT_take (i := 0) (v := ?_) rfl (by kernel_rfl) (by decide) (by kernel_rfl) (by kernel_rfl) (fun _ _ _ h => h) (Or.inl ⟨by rfl, ?_⟩) (by assumption) ?_; rotate_left; (focus (intro w hSw; (try dsimp only at hSw); go_simp; (try with_reducible rfl); done)); (try simp only [put_rules]))
            (refine walkT_take (i := 1) (v := ?_) rfl (by kernel_rfl) (by decide) (by kernel_rfl) (by kernel_rfl) (fun _ _ _ h => h) (Or.inl ⟨by rfl, ?_⟩) (by assumption) ?_; rotate_left; (focus (intro w hSw; (try dsimp only at hSw); go_simp; (try with_reducible rfl); done)); (try simp only [put_rules]))
            (refine walkT_take (i := 2) (v := ?_) rfl (by kernel_rfl) (by decide) (by kernel_rfl) (by kernel_rfl) (fun _ _ _ h => h) (Or.inl ⟨by rfl, ?_⟩) (by assumption) ?_; rotate_left; (focus (intro w hSw; (try dsimp only at hSw); go_simp; (try with_reducible rfl); done)); (try simp only [put_rules]))
            (refine walkT_ready (rs := [3]) (by kernel_rfl) (by simp) (by decide) ?_; refine AllT.cons rfl (fun K hK => ?_) AllT.nil)
            go_simp
            go_at_call 78
            have S3 := S5.out.drew
            refine (hcl.out _ S3.below).mono ?_
            rintro e w5 ⟨B2, cap2, rfl, T⟩
            have S6 := Lib.hid ((S3.seq T).own_to_row hck)
            clear S3 T hcl S5 l1 c0
            go_wp2_with fail
            refine hK.out _ _ ⟨S6.out.cell (i := 2) rfl (o := 1) rfl, S6.out.cell (i := 5) rfl (o := 0) rfl⟩ (fun hS2 => ?_)
            clear hK hSc
            (try simp only [put_rules])
            (refine walkT_ready (rs := [4]) (by kernel_rfl) (by simp) (by decide) ?_; refine AllT.cons rfl (fun K hK => ?_) AllT.nil)
            go_simp
            have hrows := Lib.hid ((S6.out.rows (i := 1) rfl).alloc (.cells #[.slice B2 c.length cap2] 43))
            have kB : (w5.alloc (.cells #[.slice B2 c.length cap2] 43)).cell? ⟨w5.heap.size, 0, none⟩ = some (.slice B2 c.length cap2) := cell_of_row _ _ _ _ _ _ (heap_alloc_new w5 _)
            have S7 := Lib.hid (S6.out.alloc (.cells #[.slice B2 c.length cap2] 43))
            refine hK.out _ _ ⟨S7.out.cell (i := 2) rfl (o := 1) rfl, S7.out.cell (i := 5) rfl (o := 0) rfl⟩ (fun hS3 => ?_)
            clear hK hS2
            (try simp only [put_rules])
            (refine walkT_done (by kernel_rfl) ?_)
            simp only [List.drop_succ_cons, List.drop_zero]
            (refine wpList_append_src rfl _ _ rfl Tryz.underlying59 hi hz0 hz1 hz2 rfl (by decide) _ ys.length _ rfl hrows.out _ 1 1 [.slice B2 c.length cap2] rfl (Src.one kB) (by simp [Value.oneCell']) (by unfold maxLen; omega) (by omega) ?_; intro vY wY hownY hgY hatY)
            have S9 := S6.out.rows_push (bal (bb _) _) hownY hgY hatY
            obtain ⟨aY, cY, rfl⟩ := own_slice hownY
            have b1 := S9.cell (i := 1) rfl (o := 1) rfl
            have q1 := S9.frozen (i := 1) rfl 1
            have hlen : ys.length + 1 = (ys ++ [c]).length := by simp
            have S8 : Hid (Sp w (wY.setCell ⟨ob, 1, none⟩ (.slice aY (ys.length + 1) cY)) [Rows Ty.int 43 (.slice aY (ys ++ [c]).length cY) (cs ++ [.slice B2 c.length cap2]) (ys ++ [c]), Box ob 61 #[.int .i64 vars, .slice aY (ys ++ [c]).length cY], Box rb 61 #[.int .i64 0, .slice none 0 0], Box w.heap.size 61 #[.int .i64 vars, .slice (some ⟨b, off, none⟩) xss.length cap]]) := by
              unfold Hid; rw [← hlen]
              have := Sp.front (qs := [_, _, _, _]) (S9.store (i := 1) rfl 1 (.slice aY (ys.length + 1) cY))
              rw [hlen] at this ⊢
              exact this
            clear S6 S7 S9 hrows hownY hgY hatY kB hS3
            replace hlen := Lib.hid hlen
            go_wp2_with fail
            go_roundw
            case rel => exact ⟨k + 1, ys ++ [c], cs ++ [.slice B2 c.length cap2], aY, cY, by omega, by go_num, hnx.out.symm, S8⟩
            case measure => simp [intOf]; omega
          · refine wp_region_quiet_below (by kernel_rfl) (by kernel_rfl) ?_
            repeat (any_goals (first | go_big_quiet_step (first | (go_at_call 117; exact Calls.regrown_of (HL.out _ (below_regrown _ _ _))) | (go_at_call 118; exact Calls.regrown_of (HC.out _ (below_regrown _ _ _))))))
            refine wpQuiet_nil ?_
            rintro w3 ⟨pp, hw3⟩
            have hb3 := Lib.hid (hw3 ▸ below_regrown _ _ _ : Below W4.heap.size W4 w3)
            have S5 := Lib.hid ((S4.out.grow hb3.out).pick (qs := [Rows Ty.int 43 (.slice B ys.length bc) cs ys, Box ob 61 #[.int .i64 vars, .slice B ys.length bc], Box rb 61 #[.int .i64 0, .slice none 0 0], Box w.heap.size 61 #[.int .i64 vars, .slice (some ⟨b, off, none⟩) xss.length cap], Box cb 43 #[.slice Bk c.length ck]]) [1, 1, 1, 1, 0] rfl)
            clear hw3 hb3 S4 k0 k1 HL HC
            have hnx : Hid (ys = leastK xss (k + 1)) := by unfold Hid; rw [hdrop.out (by rw [hweak.out]; rfl)]; exact hys.out
            have S6 := Lib.hid (Sp.front (qs := [_, _, _, _]) S5.out)
            clear S5 hkeep hdrop hweak
            go_wp2_with fail
            go_roundw
            case rel => exact ⟨k + 1, ys, cs, B, bc, by omega, by go_num, hnx, S6⟩
            case measure => simp [intOf]; omega
        · refine wp_region_quiet_below (by kernel_rfl) (by kernel_rfl) ?_
          repeat (any_goals (first | go_big_quiet_step (first | (go_at_call 117; exact Calls.regrown_of (HL.out _ (below_regrown _ _ _))) | (go_at_call 118; exact Calls.regrown_of (HC.out _ (below_regrown _ _ _))))))
          refine wpQuiet_nil ?_
          rintro w3 ⟨pp, hw3⟩
          have hb3 := Lib.hid (hw3 ▸ below_regrown _ _ _ : Below W4.heap.size W4 w3)
          have S5 := Lib.hid ((S4.out.grow hb3.out).pick (qs := [Rows Ty.int 43 (.slice B ys.length bc) cs ys, Box ob 61 #[.int .i64 vars, .slice B ys.length bc], Box rb 61 #[.int .i64 0, .slice none 0 0], Box w.heap.size 61 #[.int .i64 vars, .slice (some ⟨b, off, none⟩) xss.length cap], Box cb 43 #[.slice Bk c.length ck]]) [1, 1, 1, 1, 0] rfl)
          clear hw3 hb3 S4 k0 k1 HL HC
          have hnx : Hid (ys = leastK xss (k + 1)) := by unfold Hid; rw [hdrop.out (by rw [hweak.out]; rfl)]; exact hys.out
          have S6 := Lib.hid (Sp.front (qs := [_, _, _, _]) S5.out)
          clear S5 hkeep hdrop hweak
          go_wp2_with fail
          go_roundw
          case rel => exact ⟨k + 1, ys, cs, B, bc, by omega, by go_num, hnx, S6⟩
          case measure => simp [intOf]; omega
      · obtain rfl : k = xss.length := by omega
        have hR2 := hR.out
        rw [← hys.out] at hR2
        replace hR2 := Lib.hid hR2
        have l0 := HS.out.cell (i := 1) rfl (o := 0) rfl
        have l1 := HS.out.cell (i := 1) rfl (o := 1) rfl
        have r0 := HS.out.cell (i := 2) rfl (o := 0) rfl
        have r1 := HS.out.cell (i := 2) rfl (o := 1) rfl
        have f0 := HS.out.frozen (i := 2) rfl 0
        have f1 := HS.out.frozen (i := 2) rfl 1
        have SF := (HS.out.store (i := 2) rfl 0 (.int .i64 vars)).store (i := 2) rfl 1 (.slice B ys.length bc)
        have j0 := SF.cell (i := 2) rfl (o := 0) rfl
        have j1 := SF.cell (i := 2) rfl (o := 1) rfl
        have hS := Lib.hid (Sp.front (qs := [_]) SF)
        clear SF HS hys hR hN hml hrows0 hwq
        go_wp2_with fail
        exact bodyPost_ret (v := .tuple #[.agg #[.int .i64 vars, .slice B ys.length bc], .bool true]) (by simp [results, Tryz.results47, go_sem, j0, j1]) rfl (cnfP_yes hR2.out hS.out)
end Go.Proofs.YtahbepajeplcmaaGreatDoor

/- Contract: a number among numbers, in the laws. -/
namespace Go.Proofs.YtahbepajeplcmaaGreatDoor
open Go.RowKit

theorem contains_next {xs : List Int} {k : Nat} (hk : k < xs.length) (x : Int) : (xs.take (k + 1)).contains x = ((xs.take k).contains x || (x == xs[k])) := by
  rw [List.take_succ_eq_append_getElem hk, List.contains_append]
  congr 1
  rw [Bool.eq_iff_iff]
  simp
theorem contains_take {xs : List Int} {k : Nat} {x : Int} (h : (xs.take k).contains x = true) : xs.contains x = true := by
  rw [List.contains_iff_mem] at *
  exact List.mem_of_mem_take h

/- left out: the seat has no laws.rHas -/
end Go.Proofs.YtahbepajeplcmaaGreatDoor

/- Contract: Cnfs with the same models, in the program, where both are valid. -/
namespace Go.Proofs.YtahbepajeplcmaaGreatDoor
open Go.RowKit

theorem all_next {p : Nat → Bool} {k : Nat} : (List.range (k + 1)).all p = ((List.range k).all p && p k) := by
  simp [List.range_succ, List.all_append]
theorem all_no {p : Nat → Bool} {k N : Nat} (hk : k < N) (h : p k = false) : (List.range N).all p = false := by
  rw [List.all_eq_false]
  exact ⟨k, List.mem_range.2 hk, by rw [h]; decide⟩

set_option maxRecDepth 100000 in
set_option maxHeartbeats 4000000 in
theorem areEquivalent_any (n : Nat) (v u : Value) (xss yss : List (List Int)) (F G : List Nat) (w : World) (hx : (Ty.slice Ty.int).row false w v xss F) (hy : (Ty.slice Ty.int).row false w u yss G) (h1 : goodB n xss = true) (h2 : goodB n yss = true) :
    Calls Tryz.prog 49 #[.agg #[.int .i64 n, v], .agg #[.int .i64 n, u]] w fun e w' => e = .returned (.tuple #[.bool ((List.range (2 ^ n)).all fun b => modT xss b == modT yss b), .bool true]) ∧ Below w.heap.size w w' := by
  obtain ⟨A, cap, rfl, hI⟩ := cls_row hx
  obtain ⟨C, dap, rfl, hJ⟩ := cls_row hy
  have S0 := ((Sp.start w).alloc_box #[.int .i64 n, .slice A xss.length cap] 61).alloc_box #[.int .i64 n, .slice C yss.length dap] 61
  simp only [World.size_alloc] at S0
  have hg := good_cnf h1
  have hh := good_cnf h2
  have hn : n ≤ 12 := by omega
  obtain ⟨hsh, hp⟩ := pow12 hn
  have g1 := Lib.hid (fun W (h : Below w.heap.size w W) => h1 ▸ implIsCnf_any n _ xss F W (Ty.row_below hx h (Ty.row_lt hx)))
  have g2 := Lib.hid (fun W (h : Below w.heap.size w W) => h2 ▸ implIsCnf_any n _ yss G W (Ty.row_below hy h (Ty.row_lt hy)))
  have m1 := Lib.hid (fun b (hb : b < 4096) W (h : Below w.heap.size w W) => isModel_any xss hg.2.2.2 (by omega) A cap b (Nat.lt_trans hb (by decide)) W (hI.grow h))
  have m2 := Lib.hid (fun b (hb : b < 4096) W (h : Below w.heap.size w W) => isModel_any yss hh.2.2.2 (by omega) C dap b (Nat.lt_trans hb (by decide)) W (hJ.grow h))
  have c0 := S0.cell (i := 0) rfl (o := 0) rfl
  have c1 := S0.cell (i := 0) rfl (o := 1) rfl
  have d0 := S0.cell (i := 1) rfl (o := 0) rfl
  have d1 := S0.cell (i := 1) rfl (o := 1) rfl
  replace S0 := Lib.hid S0
  clear hx hy hI hJ hg hh h1 h2
  obtain ⟨z, hz⟩ : ∃ z, ((List.range (2 ^ n)).all fun b => modT xss b == modT yss b) = z := ⟨_, rfl⟩
  rw [hz]
  replace hz := Lib.hid hz
  generalize 2 ^ n = N at *
  go_enter Tryz.func49, Tryz.ntmps49
  go_wp2_with fail
  refine (g1.out _ S0.out.below).mono ?_
  rintro e w1 ⟨rfl, hb1⟩
  have S1 := Lib.hid (S0.out.grow hb1)
  clear S0 g1 hb1 c0 c1 d0 d1
  have c0 := S1.out.cell (i := 0) rfl (o := 0) rfl
  have c1 := S1.out.cell (i := 0) rfl (o := 1) rfl
  go_wp2_with fail
  refine (g2.out _ S1.out.below).mono ?_
  rintro e w2 ⟨rfl, hb2⟩
  have S2 := Lib.hid (S1.out.grow hb2)
  clear S1 g2 hb2 c0 c1
  have c0 := S2.out.cell (i := 0) rfl (o := 0) rfl
  have d0 := S2.out.cell (i := 1) rfl (o := 0) rfl
  have e0 : ((n : Int) != (n : Int)) = false := by simp
  go_wp2_with fail
  rw [hsh]
  go_loopw [6, 25] (fun _ vi wr => ∃ k : Nat, k ≤ N ∧ vi = .int .i64 k ∧ Hid ((List.range k).all (fun b => modT xss b == modT yss b) = true) ∧ Hid (Sp w wr [Box (w.heap.size + 1) 61 #[.int .i64 n, .slice C yss.length dap], Box w.heap.size 61 #[.int .i64 n, .slice A xss.length cap]])) (fun _ vi _ => N - (intOf vi).toNat)
  case atStart => exact ⟨0, Nat.zero_le _, rfl, rfl, S2⟩
  case round =>
    obtain ⟨k, hk, rfl, hall, HS⟩ := hrel
    clear S2 c0 d0
    by_cases hlt : k < N
    · have t0 : decide ((k : Int) < (N : Int)) = true := decide_eq_true (Int.ofNat_lt.2 hlt)
      have hk4 : k < 4096 := Nat.lt_of_lt_of_le hlt hp
      have k1 := cell_regrown (HS.out.cell (i := 0) rfl (o := 1) rfl)
      have k2 := cell_regrown (HS.out.cell (i := 1) rfl (o := 1) rfl)
      have hbel := Lib.hid HS.out.below
      have f1 := Lib.hid (fun W h => m1.out k hk4 W h)
      have f2 := Lib.hid (fun W h => m2.out k hk4 W h)
      have hnx := Lib.hid (all_next (p := fun b => modT xss b == modT yss b) (k := k))
      rw [hall.out, Bool.true_and] at hnx
      have hno := Lib.hid (fun h => all_no (p := fun b => modT xss b == modT yss b) hlt h)
      generalize modT xss k = q1 at *
      generalize modT yss k = q2 at *
      cases q1 <;> cases q2
      · go_wp2_with fail
        refine wp_region_quiet_below (by kernel_rfl) (by kernel_rfl) ?_
        repeat (any_goals (first | go_big_quiet_step ((go_at_call 122; first | exact Calls.regrown_of (f1.out _ (btr hbel.out (below_regrown _ _ _))) | exact Calls.regrown_of (f2.out _ (btr hbel.out (below_regrown _ _ _)))))))
        refine wpQuiet_nil ?_
        rintro w3 ⟨p, rfl⟩
        have HS4 := Lib.hid (HS.out.grow (below_regrown _ p.d p.os))
        clear HS k1 k2 f1 f2 hbel
        have hal2 : Hid ((List.range (k + 1)).all (fun b => modT xss b == modT yss b) = true) := hnx.out
        clear hnx hno
        go_wp2_with fail
        go_roundw
        case rel => exact ⟨k + 1, by omega, by go_num, hal2, HS4⟩
        case measure => simp [intOf]; omega
      · go_wp2_with fail
        refine wp_region_quiet_below (by kernel_rfl) (by kernel_rfl) ?_
        repeat (any_goals (first | go_big_quiet_step ((go_at_call 122; first | exact Calls.regrown_of (f1.out _ (btr hbel.out (below_regrown _ _ _))) | exact Calls.regrown_of (f2.out _ (btr hbel.out (below_regrown _ _ _)))))))
        refine wpQuiet_nil ?_
        rintro w3 ⟨p, rfl⟩
        have HS4 := Lib.hid (HS.out.grow (below_regrown _ p.d p.os))
        clear HS k1 k2 f1 f2 hbel
        have hz2 := hno.out (by decide)
        obtain rfl : z = false := by rw [← hz.out]; exact hz2
        have hB := Lib.hid HS4.out.below
        clear hnx hno hz2 HS4
        go_wp2_with fail
        go_ret2
        exact ⟨rfl, hB.out⟩
      · go_wp2_with fail
        refine wp_region_quiet_below (by kernel_rfl) (by kernel_rfl) ?_
        repeat (any_goals (first | go_big_quiet_step ((go_at_call 122; first | exact Calls.regrown_of (f1.out _ (btr hbel.out (below_regrown _ _ _))) | exact Calls.regrown_of (f2.out _ (btr hbel.out (below_regrown _ _ _)))))))
        refine wpQuiet_nil ?_
        rintro w3 ⟨p, rfl⟩
        have HS4 := Lib.hid (HS.out.grow (below_regrown _ p.d p.os))
        clear HS k1 k2 f1 f2 hbel
        have hz2 := hno.out (by decide)
        obtain rfl : z = false := by rw [← hz.out]; exact hz2
        have hB := Lib.hid HS4.out.below
        clear hnx hno hz2 HS4
        go_wp2_with fail
        go_ret2
        exact ⟨rfl, hB.out⟩
      · go_wp2_with fail
        refine wp_region_quiet_below (by kernel_rfl) (by kernel_rfl) ?_
        repeat (any_goals (first | go_big_quiet_step ((go_at_call 122; first | exact Calls.regrown_of (f1.out _ (btr hbel.out (below_regrown _ _ _))) | exact Calls.regrown_of (f2.out _ (btr hbel.out (below_regrown _ _ _)))))))
        refine wpQuiet_nil ?_
        rintro w3 ⟨p, rfl⟩
        have HS4 := Lib.hid (HS.out.grow (below_regrown _ p.d p.os))
        clear HS k1 k2 f1 f2 hbel
        have hal2 : Hid ((List.range (k + 1)).all (fun b => modT xss b == modT yss b) = true) := hnx.out
        clear hnx hno
        go_wp2_with fail
        go_roundw
        case rel => exact ⟨k + 1, by omega, by go_num, hal2, HS4⟩
        case measure => simp [intOf]; omega
    · obtain rfl : k = N := by omega
      have t0 : decide ((k : Int) < (k : Int)) = false := by simp
      obtain rfl : z = true := by rw [← hz.out]; exact hall.out
      have hB := Lib.hid HS.out.below
      clear HS
      go_wp2_with fail
      go_ret2
      exact ⟨rfl, hB.out⟩
end Go.Proofs.YtahbepajeplcmaaGreatDoor

/- Plain facts: what the law of texts of Cnfs asks of the clauses that stay. -/
namespace Go.Proofs.YtahbepajeplcmaaGreatDoor
open Go.RowKit

theorem least_mem {xss : List (List Int)} {y : List Int} {k : Nat} : y ∈ leastK xss k ↔ ∃ i, i < k ∧ weakTo xss i xss.length = false ∧ xss.getD i [] = y := by
  unfold leastK
  rw [List.mem_map]
  constructor
  · rintro ⟨i, hi, rfl⟩
    rw [List.mem_filter, List.mem_range, Bool.not_eq_true'] at hi
    exact ⟨i, hi.1, hi.2, rfl⟩
  · rintro ⟨i, h1, h2, rfl⟩
    exact ⟨i, by rw [List.mem_filter, List.mem_range, Bool.not_eq_true']; exact ⟨h1, h2⟩, rfl⟩
theorem least_sub {xss : List (List Int)} {y : List Int} (h : y ∈ leastK xss xss.length) : y ∈ xss := by
  obtain ⟨i, h1, -, rfl⟩ := least_mem.1 h
  rw [getD_at h1]
  exact List.getElem_mem h1
theorem countP_lt {α : Type} {p q : α → Bool} : ∀ {l : List α}, (∀ x ∈ l, p x = true → q x = true) → (∃ x ∈ l, q x = true ∧ p x = false) → l.countP p < l.countP q
  | [], _, ⟨x, hx, _⟩ => by simp at hx
  | a :: l, h, ⟨x, hx, h1, h2⟩ => by
    have hle : l.countP p ≤ l.countP q := List.countP_mono_left fun y hy => h y (List.mem_cons_of_mem _ hy)
    rw [List.countP_cons, List.countP_cons]
    rcases List.mem_cons.1 hx with rfl | hx
    · rw [h1, h2]; simp; omega
    · have ih := countP_lt (fun y hy => h y (List.mem_cons_of_mem _ hy)) ⟨x, hx, h1, h2⟩
      have ha := h a List.mem_cons_self
      cases hp : p a
      · cases q a <;> simp <;> omega
      · rw [ha hp]; simp; omega
/-- How many literals a clause has. -/
def sizeC (c : List Int) : Nat := (List.range 30).countP fun (i : Nat) => hasI c ((i : Int) - 15)
theorem sizeC_lt {c d : List Int} (hc : ∀ x ∈ c, -12 ≤ x ∧ x ≤ 12) (h1 : d.all (hasI c) = true) (h2 : c.all (hasI d) = false) : sizeC d < sizeC c := by
  rw [List.all_eq_true] at h1
  rw [List.all_eq_false] at h2
  obtain ⟨x, hx, hx2⟩ := h2
  refine countP_lt (fun i _ h => h1 _ (hasS_iff.1 h)) ⟨(x + 15).toNat, ?_, ?_, ?_⟩
  · have := hc x hx
    rw [List.mem_range]; omega
  · have := hc x hx
    rw [show (((x + 15).toNat : Nat) : Int) - 15 = x by omega]
    exact hasS_iff.2 hx
  · have := hc x hx
    rw [show (((x + 15).toNat : Nat) : Int) - 15 = x by omega]
    simpa using hx2
theorem least_part {vars : Int} {xss : List (List Int)} (hg : ∀ c ∈ xss, clauseB vars c = true) : ∀ (n : Nat) (c : List Int), sizeC c = n → c ∈ xss → ∃ d ∈ leastK xss xss.length, d.all (hasI c) = true := by
  intro n
  induction n using Nat.strongRecOn with
  | ind n ih =>
    intro c hn hc
    have hself : c.all (hasI c) = true := by rw [List.all_eq_true]; exact fun x hx => hasS_iff.2 hx
    obtain ⟨k, hk, hkc⟩ := List.mem_iff_getElem.1 hc
    -- the first of equal ones
    have hfirst : ∃ k0, ∃ h0 : k0 < xss.length, xss[k0] = c ∧ ∀ j (hj : j < xss.length), j < k0 → xss[j] ≠ c := by
      clear ih
      induction k using Nat.strongRecOn with
      | ind k ih2 =>
        by_cases h : ∃ j, ∃ hj : j < xss.length, j < k ∧ xss[j] = c
        · obtain ⟨j, hj, hjk, hjc⟩ := h
          exact ih2 j hjk hj hjc
        · exact ⟨k, hk, hkc, fun j hj hjk hjc => h ⟨j, hj, hjk, hjc⟩⟩
    obtain ⟨k0, h0, h0c, hno⟩ := hfirst
    cases hw : weakTo xss k0 xss.length with
    | false => exact ⟨c, least_mem.2 ⟨k0, h0, hw, by rw [getD_at h0, h0c]⟩, hself⟩
    | true =>
      rw [weak_same (fun c hc => good_s (hg c hc)) h0, h0c] at hw
      unfold weakI at hw
      rw [Bool.or_eq_true, List.any_eq_true, List.any_eq_true] at hw
      rcases hw with ⟨y, hy, he⟩ | ⟨d, hd, he⟩
      · rw [List.mem_take_iff_getElem] at hy
        obtain ⟨j, hj, rfl⟩ := hy
        exact absurd (of_decide_eq_true he).symm (hno j (by omega) (by omega))
      · rw [Bool.and_eq_true, Bool.not_eq_true'] at he
        have hlt := sizeC_lt (fun x hx => clause_small (hg c hc) x hx) he.1 he.2
        obtain ⟨e, h1, h2⟩ := ih (sizeC d) (by omega) d rfl hd
        refine ⟨e, h1, ?_⟩
        rw [List.all_eq_true] at h2 he ⊢
        exact fun x hx => he.1 x (hasS_iff.1 (h2 x hx))
theorem clT_sub {c d : List Int} {b : Nat} (h : d.all (hasI c) = true) (hd : clT d b = true) : clT c b = true := by
  unfold clT at *
  rw [List.any_eq_true] at *
  obtain ⟨l, h1, h2⟩ := hd
  rw [List.all_eq_true] at h
  exact ⟨l, hasS_iff.1 (h l h1), h2⟩
theorem least_good {vars : Int} {xss : List (List Int)} (h : goodB vars xss = true) : goodB vars (leastK xss xss.length) = true := by
  obtain ⟨h1, h2, h3⟩ := goodN_parts h
  exact goodN_mk h1 (by have := leastK_len xss xss.length; omega) fun c hc => h3 c (least_sub hc)
theorem least_models {vars : Int} {xss : List (List Int)} (h : goodB vars xss = true) (b : Nat) : modT (leastK xss xss.length) b = modT xss b := by
  obtain ⟨-, -, h3⟩ := goodN_parts h
  rw [Bool.eq_iff_iff]
  unfold modT
  rw [List.all_eq_true, List.all_eq_true]
  constructor
  · intro h4 c hc
    obtain ⟨d, hd, hs⟩ := least_part h3 _ c rfl hc
    exact clT_sub hs (h4 d hd)
  · exact fun h4 c hc => h4 c (least_sub hc)
/-- The same clauses: the same models. -/
theorem same_models {xss yss : List (List Int)} (h : ∀ c, c ∈ xss ↔ c ∈ yss) (b : Nat) : modT xss b = modT yss b := by
  rw [Bool.eq_iff_iff]
  unfold modT
  rw [List.all_eq_true, List.all_eq_true]
  exact ⟨fun h4 c hc => h4 c ((h c).2 hc), fun h4 c hc => h4 c ((h c).1 hc)⟩
theorem same_good {vars : Int} {xss yss : List (List Int)} (h : ∀ c, c ∈ xss ↔ c ∈ yss) (hl : yss.length ≤ xss.length) (hg : goodB vars xss = true) : goodB vars yss = true := by
  obtain ⟨h1, h2, h3⟩ := goodN_parts hg
  exact goodN_mk h1 (by omega) fun c hc => h3 c ((h c).2 hc)
theorem models_eq {xss yss : List (List Int)} (h : ∀ b, modT yss b = modT xss b) (N : Nat) : ((List.range N).all fun b => modT xss b == modT yss b) = true := by
  rw [List.all_eq_true]
  exact fun b _ => by rw [h b]; simp
end Go.Proofs.YtahbepajeplcmaaGreatDoor

/- Contracts: clauses compared, in the program. -/
namespace Go.Proofs.YtahbepajeplcmaaGreatDoor
open Go.RowKit Go.Sort

/-- A world that drew and laid blocks, no more. -/
def Gr (w w' : World) : Prop := ∃ (q : Nat) (os : Array Obj), w' = grow (w.drewN q) os
theorem Gr.refl (w : World) : Gr w w := ⟨0, #[], by rw [grow_empty]; rfl⟩
theorem Gr.below {w w' : World} (h : Gr w w') : Below w.heap.size w w' := by
  obtain ⟨q, os, rfl⟩ := h
  exact below_regrown w (w.drewN q).drawn os
theorem Gr.trans {w w1 w2 : World} (h : Gr w w1) (k : Gr w1 w2) : Gr w w2 := by
  obtain ⟨q, os, rfl⟩ := h
  obtain ⟨q2, os2, rfl⟩ := k
  refine ⟨q + q2, os ++ os2, ?_⟩
  show grow (grow ((w.drewN q).drewN q2) os) os2 = _
  rw [grow_grow, World.drewN_drewN]
theorem Gr.alloc {w w' : World} (h : Gr w w') (o : Obj) : Gr w (w'.alloc o) := h.trans ⟨0, #[o], alloc_eq_grow _ _⟩
/-- The order of the program's clauses. -/
def cmpF : List Int → List Int → Int
  | [], [] => 0
  | [], _ :: _ => -1
  | _ :: _, [] => 1
  | x :: a, y :: b => if cmpL x y = 0 then cmpF a b else cmpL x y
def cmpC (a b : List Int) : Int := orL (Lib.compareInt a.length b.length) (cmpF a b)
theorem cmpF_step {a b : List Int} {k : Nat} (ha : k < a.length) (hb : k < b.length) : cmpF (a.drop k) (b.drop k) = if cmpL a[k] b[k] = 0 then cmpF (a.drop (k + 1)) (b.drop (k + 1)) else cmpL a[k] b[k] := by
  rw [List.drop_eq_getElem_cons ha, List.drop_eq_getElem_cons hb, cmpF]
theorem cmpF_right {a b : List Int} {k : Nat} (ha : k < a.length) (hb : k = b.length) : cmpF (a.drop k) (b.drop k) = 1 := by
  have h2 : b.drop k = [] := by rw [hb, List.drop_length]
  rw [h2, List.drop_eq_getElem_cons ha, cmpF]
theorem cmpF_left {a b : List Int} {k : Nat} (ha : k = a.length) (hb : k < b.length) : cmpF (a.drop k) (b.drop k) = -1 := by
  have h1 : a.drop k = [] := by rw [ha, List.drop_length]
  rw [h1, List.drop_eq_getElem_cons hb, cmpF]
theorem cmpF_end {a b : List Int} {k : Nat} (ha : k = a.length) (hb : k = b.length) : cmpF (a.drop k) (b.drop k) = 0 := by
  have h1 : a.drop k = [] := by rw [ha, List.drop_length]
  have h2 : b.drop k = [] := by rw [hb, List.drop_length]
  rw [h1, h2, cmpF]

set_option maxRecDepth 100000 in
set_option maxHeartbeats 4000000 in
theorem compareFunc_any (a b : List Int) (A B : Option Addr) (ac bc : Nat) (w : World) (hx : IntsAt w A a) (hy : IntsAt w B b) (la : a.length ≤ 1000000) (lb : b.length ≤ 1000000) :
    Calls Tryz.prog 159 #[.slice A a.length ac, .slice B b.length bc, .func (.func 143) #[] #[]] w fun e w' => e = .returned (.int .i64 (cmpF a b)) ∧ Gr w w' := by
  have eg : Enter1 143 := enters_of Tryz.func143 (by kernel_rfl) rfl
  unfold Enter1 at eg
  have hX := Lib.hid hx
  have hY := Lib.hid hy
  have HB0 := Lib.hid (Gr.refl w)
  clear hx hy
  go_enter Tryz.func159, Tryz.ntmps159
  go_wp2_with fail
  go_loopw [7, 8, 9, 10, 13] (fun _ _ _ _ i wr => ∃ k : Nat, k ≤ a.length ∧ k ≤ b.length ∧ i = .int .i64 k ∧ Hid (cmpF (a.drop k) (b.drop k) = cmpF a b) ∧ Hid (Gr w wr)) (fun _ _ _ _ i _ => a.length - (intOf i).toNat)
  case atStart => exact ⟨0, Nat.zero_le _, Nat.zero_le _, rfl, rfl, HB0⟩
  case round =>
    obtain ⟨k, hk, hkb, rfl, HD, HB⟩ := hrel
    clear HB0
    by_cases hlt : k < a.length
    · obtain ⟨ab, ao, rfl, m0⟩ := (hX.out.grow HB.out.below).at_ k hlt
      by_cases hlb : k < b.length
      · obtain ⟨bb', bo, rfl, m1⟩ := (hY.out.grow HB.out.below).at_ k hlb
        have hst := cmpF_step hlt hlb
        rw [HD.out] at hst
        have hcall := Lib.hid (compareLiterals_any a[k] b[k] wr)
        obtain ⟨r, hr⟩ : ∃ r, cmpL a[k] b[k] = r := ⟨_, rfl⟩
        rw [hr] at hst hcall
        generalize a[k] = x at *
        generalize b[k] = y at *
        clear HD hr
        by_cases h0 : r = 0
        · rw [if_pos h0] at hst
          have hst2 := Lib.hid hst.symm
          subst h0
          clear hst
          go_wp2_with fail
          refine hcall.out.mono ?_
          rintro e w1 ⟨rfl, hg1⟩
          have HB2 := Lib.hid (HB.out.trans hg1)
          clear hcall hg1 HB m0 m1
          go_wp2_with fail
          go_roundw
          case rel => exact ⟨k + 1, by omega, by omega, by go_num, hst2, HB2⟩
          case measure => simp [intOf]; omega
        · rw [if_neg h0] at hst
          have hst2 := Lib.hid hst
          have hne : (r != 0) = true := by simpa using h0
          clear hst h0
          go_wp2_with fail
          refine hcall.out.mono ?_
          rintro e w1 ⟨rfl, hg1⟩
          have HB2 := Lib.hid (HB.out.trans hg1)
          clear hcall hg1 HB m0 m1
          go_wp2_with fail
          go_ret
          exact ⟨ret_int hst2.out.symm, HB2.out⟩
      · have hst := cmpF_right hlt (show k = b.length by omega)
        rw [HD.out] at hst
        replace hst := Lib.hid hst
        clear HD
        go_wp2_with fail
        go_ret
        exact ⟨ret_int hst.out.symm, HB.out⟩
    · obtain rfl : k = a.length := by omega
      by_cases hlb : a.length < b.length
      · have hst := cmpF_left (a := a) rfl hlb
        rw [HD.out] at hst
        replace hst := Lib.hid hst
        have d1 : decide ((a.length : Int) < (b.length : Int)) = true := decide_eq_true (by omega)
        have d2 : decide (a.length < b.length) = true := decide_eq_true hlb
        clear HD
        go_wp2_with fail
        go_ret
        exact ⟨ret_int hst.out.symm, HB.out⟩
      · have hst := cmpF_end (a := a) (b := b) rfl (by omega)
        rw [HD.out] at hst
        replace hst := Lib.hid hst
        have d1 : decide ((a.length : Int) < (b.length : Int)) = false := decide_eq_false (by omega)
        have d2 : decide (a.length < b.length) = false := decide_eq_false hlb
        clear HD
        go_wp2_with fail
        go_ret
        exact ⟨ret_int hst.out.symm, HB.out⟩

set_option maxHeartbeats 4000000 in
theorem compareClauses_any (a b : List Int) (A B : Option Addr) (ac bc : Nat) (w : World) (hx : IntsAt w A a) (hy : IntsAt w B b) (la : a.length ≤ 1000000) (lb : b.length ≤ 1000000) :
    Calls Tryz.prog 112 #[.slice A a.length ac, .slice B b.length bc] w fun e w' => e = .returned (.int .i64 (cmpC a b)) ∧ Gr w w' := by
  have h1 := Lib.hid (fun V => Tryz.cmp_Compare_int (a.length : Int) (b.length : Int) V)
  have h2 := Lib.hid (compareFunc_any a b A B ac bc w hx hy la lb)
  obtain ⟨r, hr⟩ : ∃ r, cmpC a b = r := ⟨_, rfl⟩
  have hor : orL (Lib.compareInt (a.length : Int) (b.length : Int)) (cmpF a b) = r := hr
  rw [hr]
  obtain ⟨x, hxx⟩ : ∃ x, Lib.compareInt (a.length : Int) (b.length : Int) = x := ⟨_, rfl⟩
  obtain ⟨y, hyy⟩ : ∃ y, cmpF a b = y := ⟨_, rfl⟩
  rw [hxx] at h1 hor
  rw [hyy] at h2 hor
  have hcO := Lib.hid (fun g V k0 k1 => cmpOrL_any g x y V k0 k1)
  rw [hor] at hcO
  clear hxx hyy hx hy hr hor
  go_enter Tryz.func112, Tryz.ntmps112
  go_wp2_with fail
  refine (h1.out _).mono ?_
  rintro e w1 ⟨rfl, hw⟩
  subst hw
  go_wp2_with fail
  refine h2.out.mono ?_
  rintro e w2 ⟨rfl, hg2⟩
  replace hg2 := Lib.hid hg2
  go_wp2_with fail
  have k0 : (w2.alloc (.cells #[.int .i64 x, .int .i64 y] 3)).cell? ⟨w2.heap.size, 0, none⟩ = some (.int .i64 x) := cell_of_row _ _ _ _ _ _ (heap_alloc_new w2 _)
  have k1 : (w2.alloc (.cells #[.int .i64 x, .int .i64 y] 3)).cell? ⟨w2.heap.size, 1, none⟩ = some (.int .i64 y) := cell_of_row _ _ _ _ _ _ (heap_alloc_new w2 _)
  refine (hcO.out _ _ k0 k1).mono ?_
  rintro e w3 ⟨rfl, hw⟩
  clear k0 k1
  subst hw
  go_wp2_with fail
  go_ret
  exact ⟨rfl, hg2.out.alloc _⟩
end Go.Proofs.YtahbepajeplcmaaGreatDoor

/- Contracts: the place of a clause in a list, in the reference. -/
namespace Go.Proofs.YtahbepajeplcmaaGreatDoor
open Go.RowKit

/-- The search by halves. -/
def bsB (L : List (List Int)) (c : List Int) : Nat → Nat → Nat → Nat
  | 0, lo, _ => lo
  | f + 1, lo, hi => if lo < hi then (if beforeB (L[(lo + hi) / 2]?.getD []) c then bsB L c f ((lo + hi) / 2 + 1) hi else bsB L c f lo ((lo + hi) / 2)) else lo
def placeB (L : List (List Int)) (c : List Int) : Nat := bsB L c (L.length + 1) 0 L.length
theorem bsB_le (L : List (List Int)) (c : List Int) : ∀ (f lo hi : Nat), lo ≤ hi → bsB L c f lo hi ≤ hi
  | 0, lo, hi, h => h
  | f + 1, lo, hi, h => by
    rw [bsB]
    split
    · split
      · exact bsB_le L c f _ _ (by omega)
      · exact Nat.le_trans (bsB_le L c f _ _ (by omega)) (by omega)
    · exact h
theorem placeB_le (L : List (List Int)) (c : List Int) : placeB L c ≤ L.length := bsB_le _ _ _ _ _ (Nat.zero_le _)
theorem bsB_up {L : List (List Int)} {c : List Int} {f lo hi : Nat} (h : lo < hi) (hb : beforeB (L[(lo + hi) / 2]?.getD []) c = true) : bsB L c (f + 1) lo hi = bsB L c f ((lo + hi) / 2 + 1) hi := by rw [bsB, if_pos h, hb]; rfl
theorem bsB_down {L : List (List Int)} {c : List Int} {f lo hi : Nat} (h : lo < hi) (hb : beforeB (L[(lo + hi) / 2]?.getD []) c = false) : bsB L c (f + 1) lo hi = bsB L c f lo ((lo + hi) / 2) := by rw [bsB, if_pos h, hb]; rfl
theorem bsB_end {L : List (List Int)} {c : List Int} {f lo hi : Nat} (h : ¬ lo < hi) : bsB L c f lo hi = lo := by
  cases f with
  | zero => rfl
  | succ f => rw [bsB, if_neg h]

theorem l2Before_at {v u : Value} {xs ys : List Int} {F G : List Nat} {w : World} {q : Bool} (hx : Ty.int.row false w v xs F) (hy : Ty.int.row false w u ys G) (mx : Mild xs) (my : Mild ys) (h : beforeB xs ys = q) :
    Calls Tryz.prog 198 #[v, u] w fun e w' => e = .returned (.bool q) ∧ Below w.heap.size w w' := h ▸ l2Before_any v u xs ys F G w hx hy mx my

set_option maxHeartbeats 2000000 in
theorem l2Place_any (v u : Value) (L : List (List Int)) (c : List Int) (F G : List Nat) (w : World) (hx : (Ty.slice Ty.int).row false w v L F) (hy : Ty.int.row false w u c G) (mL : ∀ x ∈ L, Mild x) (mc : Mild c) (hl : L.length ≤ 1000000000) :
    Calls Tryz.prog 160 #[v, u] w fun e w' => e = .returned (.int .i64 (placeB L c)) ∧ Below w.heap.size w w' := by
  obtain ⟨a, cap, rfl, hx1, hx2, hx3⟩ := row_slices hx
  obtain ⟨ua, uc, rfl, _, _⟩ := Ty.row_len hy
  go_enter Tryz.func160, Tryz.ntmps160
  go_wp2_with fail
  go_loopw [5, 6] (fun i j wr => ∃ lo hi f : Nat, lo ≤ hi ∧ hi ≤ L.length ∧ hi - lo < f ∧ i = .int .i64 lo ∧ j = .int .i64 hi ∧ Hid (bsB L c f lo hi = placeB L c) ∧ Below w.heap.size w wr) (fun i j _ => (intOf j).toNat - (intOf i).toNat)
  case atStart => exact ⟨0, L.length, L.length + 1, Nat.zero_le _, Nat.le_refl _, by omega, rfl, rfl, rfl, bb _⟩
  case round =>
    obtain ⟨lo, hi, f, h1, h2, h3, rfl, rfl, HR, hB⟩ := hrel
    by_cases hlt : lo < hi
    · rcases hx3 with ⟨rfl, rfl⟩ | ⟨hxn, b, off, rfl, _, hxc⟩
      · simp at h2; omega
      obtain ⟨f, rfl⟩ : ∃ f', f = f' + 1 := ⟨f - 1, by omega⟩
      have hm : (lo + hi) / 2 < L.length := by omega
      obtain ⟨x, Fk, hc, hr, _⟩ := hxc ((lo + hi) / 2) hm
      have hr' := Ty.row_below hr hB (Ty.row_lt hr)
      have hy' := Ty.row_below hy hB (Ty.row_lt hy)
      obtain ⟨xa, xc, rfl, _, _⟩ := Ty.row_len hr
      have k0 := (hc.keep (hB.block b hc.lt)).1
      have hmx := mL _ (List.getElem_mem hm)
      have hi1 : (((lo : Int) + (hi : Int)) / 2).toNat = (lo + hi) / 2 := by omega
      have hi0 : (0 : Int) ≤ ((lo : Int) + (hi : Int)) / 2 := by omega
      have hi2 : ((lo : Int) + (hi : Int)) / 2 < (L.length : Int) := by omega
      have hi3 : ((lo : Int) + (hi : Int)) / 2 = (((lo + hi) / 2 : Nat) : Int) := by omega
      have he : L[(lo + hi) / 2]?.getD [] = L[(lo + hi) / 2] := by rw [List.getElem?_eq_getElem hm]; rfl
      have hm1 : lo ≤ (lo + hi) / 2 := by omega
      have hm2 : (lo + hi) / 2 < hi := by omega
      cases hq : beforeB L[(lo + hi) / 2] c
      · have HN : Hid (bsB L c f lo ((lo + hi) / 2) = placeB L c) := by unfold Hid; rw [← HR.out, bsB_down hlt (by rw [he]; exact hq)]
        have HC : Hid (∀ w', Below wr.heap.size wr w' → Calls Tryz.prog 198 #[.slice xa L[(lo + hi) / 2].length xc, .slice ua c.length uc] w' fun e w'' => e = .returned (.bool false) ∧ Below w'.heap.size w' w'') := fun w' hb => l2Before_at (Ty.row_grow hr' hb) (Ty.row_grow hy' hb) hmx mc hq
        generalize (lo + hi) / 2 = mid at *
        generalize L[mid].length = lm at *
        clear he hq HR hr hr' hy' hc hxc hmx
        go_wp2_with (go_at_call 198; (with_reducible refine (HC.out _ (bb _)).mono ?_); rintro e w1 ⟨rfl, hb1⟩)
        have hB1 := btr hB hb1
        go_roundw
        case rel => exact ⟨lo, mid, f, hm1, by omega, by omega, rfl, rfl, HN, hB1⟩
        case measure => simp [intOf]; omega
      · have HN : Hid (bsB L c f ((lo + hi) / 2 + 1) hi = placeB L c) := by unfold Hid; rw [← HR.out, bsB_up hlt (by rw [he]; exact hq)]
        have HC : Hid (∀ w', Below wr.heap.size wr w' → Calls Tryz.prog 198 #[.slice xa L[(lo + hi) / 2].length xc, .slice ua c.length uc] w' fun e w'' => e = .returned (.bool true) ∧ Below w'.heap.size w' w'') := fun w' hb => l2Before_at (Ty.row_grow hr' hb) (Ty.row_grow hy' hb) hmx mc hq
        generalize (lo + hi) / 2 = mid at *
        generalize L[mid].length = lm at *
        clear he hq HR hr hr' hy' hc hxc hmx
        go_wp2_with (go_at_call 198; (with_reducible refine (HC.out _ (bb _)).mono ?_); rintro e w1 ⟨rfl, hb1⟩)
        have hB1 := btr hB hb1
        go_roundw
        case rel => exact ⟨mid + 1, hi, f, by omega, h2, by omega, by go_num, rfl, HN, hB1⟩
        case measure => simp [intOf]; omega
    · have HN : Hid (lo = placeB L c) := by unfold Hid; rw [← HR.out, bsB_end hlt]
      clear HR
      go_wp2_with fail
      go_ret
      exact ⟨by rw [HN.out]; rfl, hB⟩

/-- Where a clause stands in a list, or -1. -/
def atB (L : List (List Int)) (c : List Int) : Int := if L[placeB L c]? = some c then (placeB L c : Int) else -1
theorem atB_no {L : List (List Int)} {c : List Int} (h : ¬ placeB L c < L.length) : atB L c = -1 := by
  unfold atB
  rw [List.getElem?_eq_none (by omega), if_neg (by simp)]
theorem atB_at {L : List (List Int)} {c : List Int} (h : placeB L c < L.length) : atB L c = if L[placeB L c] = c then (placeB L c : Int) else -1 := by
  unfold atB
  rw [List.getElem?_eq_getElem h]
  simp

/- left out: the seat has no spec.l2At -/
end Go.Proofs.YtahbepajeplcmaaGreatDoor

/- (Printed by gen_nx.py.) Plain facts on clauses of at most six variables: their order, resolvents, masks. No program in sight. -/
namespace Go.Proofs.YtahbepajeplcmaaGreatDoor
open Go.RowKit

/-! Lists in an order. -/
theorem asc_ext {α : Type} {R : α → α → Prop} (hR : ∀ x y, R x y → ¬ R y x) : ∀ {a b : List α}, a.Pairwise R → b.Pairwise R → (∀ x, x ∈ a ↔ x ∈ b) → a = b
  | [], [], _, _, _ => rfl
  | [], y :: b, _, _, h => absurd ((h y).2 List.mem_cons_self) (by simp)
  | x :: a, [], _, _, h => absurd ((h x).1 List.mem_cons_self) (by simp)
  | x :: a, y :: b, ha, hb, h => by
    rw [List.pairwise_cons] at ha hb
    have hxy : x = y := by
      rcases List.mem_cons.1 ((h x).1 List.mem_cons_self) with e | e
      · exact e
      · rcases List.mem_cons.1 ((h y).2 List.mem_cons_self) with e2 | e2
        · exact e2.symm
        · exact absurd (hb.1 x e) (hR _ _ (ha.1 y e2))
    subst hxy
    have hx1 : x ∉ a := fun hm => hR _ _ (ha.1 x hm) (ha.1 x hm)
    have hx2 : x ∉ b := fun hm => hR _ _ (hb.1 x hm) (hb.1 x hm)
    rw [asc_ext hR ha.2 hb.2 fun z => ⟨fun hz => (List.mem_cons.1 ((h z).1 (List.mem_cons_of_mem _ hz))).resolve_left (fun e => hx1 (e ▸ hz)), fun hz => (List.mem_cons.1 ((h z).2 (List.mem_cons_of_mem _ hz))).resolve_left (fun e => hx2 (e ▸ hz))⟩]
theorem nodup_len {α : Type} : ∀ {a b : List α}, a.Nodup → (∀ x, x ∈ a → x ∈ b) → a.length ≤ b.length
  | [], _, _, _ => Nat.zero_le _
  | x :: a, b, ha, h => by
    rw [List.nodup_cons] at ha
    obtain ⟨s, t, rfl⟩ := List.append_of_mem (h x List.mem_cons_self)
    have := nodup_len (b := s ++ t) ha.2 fun z hz => by
      have hz2 := h z (List.mem_cons_of_mem _ hz)
      have hne : z ≠ x := fun e => ha.1 (e ▸ hz)
      simp only [List.mem_append, List.mem_cons] at hz2 ⊢
      rcases hz2 with h | h | h
      · exact .inl h
      · exact absurd h hne
      · exact .inr h
    simp only [List.length_append, List.length_cons] at this ⊢
    omega
theorem nodup_same {α : Type} {a b : List α} (ha : a.Nodup) (hb : b.Nodup) (h : ∀ x, x ∈ a ↔ x ∈ b) : a.length = b.length :=
  Nat.le_antisymm (nodup_len ha fun x hx => (h x).1 hx) (nodup_len hb fun x hx => (h x).2 hx)
theorem asc_nodup {α : Type} {R : α → α → Prop} (hR : ∀ x y, R x y → ¬ R y x) {a : List α} (h : a.Pairwise R) : a.Nodup :=
  h.imp fun {x y} hxy e => by subst e; exact hR _ _ hxy hxy

/-! Clauses. -/
theorem absV_small {l : Int} (h0 : -1000 ≤ l) (h1 : l ≤ 1000) : absV l = if l < 0 then -l else l := by
  unfold absV
  split
  · rw [negV_small ⟨by omega, by omega⟩ (by omega)]
  · rfl
theorem hasI_iff {xs : List Int} {x : Int} : hasI xs x = true ↔ x ∈ xs := by unfold hasI; simp
theorem hasI_not {xs : List Int} {x : Int} : hasI xs x = false ↔ x ∉ xs := by rw [← hasI_iff]; simp
/-- A literal of at most six variables. -/
def Lit6 (l : Int) : Prop := l ≠ 0 ∧ -6 ≤ l ∧ l ≤ 6
abbrev AscV (a b : Int) : Prop := absV a < absV b
/-- A clause of at most six variables. -/
structure Good (c : List Int) : Prop where
  mem : ∀ l ∈ c, Lit6 l
  asc : c.Pairwise AscV
theorem Lit6.abs {l : Int} (h : Lit6 l) : absV l = if l < 0 then -l else l := absV_small (by have := h.2.1; omega) (by have := h.2.2; omega)
theorem ascV_asym (x y : Int) (h : AscV x y) : ¬ AscV y x := by unfold AscV at *; omega
theorem Good.nil : Good [] := ⟨by simp, by simp⟩
theorem Good.ext {a b : List Int} (ha : Good a) (hb : Good b) (h : ∀ x, x ∈ a ↔ x ∈ b) : a = b := asc_ext ascV_asym ha.asc hb.asc h
theorem Good.one {c : List Int} (h : Good c) {x y : Int} (hx : x ∈ c) (hy : y ∈ c) (e : absV x = absV y) : x = y := by
  obtain ⟨i, hi, rfl⟩ := List.getElem_of_mem hx
  obtain ⟨j, hj, rfl⟩ := List.getElem_of_mem hy
  have hp := List.pairwise_iff_getElem.1 h.asc
  rcases Nat.lt_trichotomy i j with hlt | rfl | hlt
  · have := hp i j hi hj hlt; unfold AscV at this; omega
  · rfl
  · have := hp j i hj hi hlt; unfold AscV at this; omega
theorem Good.clash {c : List Int} (h : Good c) {x : Int} (hx : x ∈ c) (hy : -x ∈ c) : False := by
  have h1 := h.mem _ hx
  have h2 := h.mem _ hy
  have := h.one hx hy (by rw [h1.abs, h2.abs]; obtain ⟨_, _, _⟩ := h1; split <;> split <;> omega)
  have := h1.1
  omega
theorem Good.mild {c : List Int} (h : Good c) : Mild c := fun x hx => by obtain ⟨_, _, _⟩ := h.mem x hx; omega
theorem Good.filter {c : List Int} (h : Good c) (p : Int → Bool) : Good (c.filter p) := ⟨fun l hl => h.mem l (List.mem_filter.1 hl).1, h.asc.filter _⟩
theorem Good.len {c : List Int} (h : Good c) : c.length ≤ 6 := by
  have h1 : (c.map absV).Nodup := by
    rw [List.nodup_iff_pairwise_ne, List.pairwise_map]
    exact h.asc.imp fun {a b} hab => by unfold AscV at hab; omega
  have := nodup_len (b := [1, 2, 3, 4, 5, 6]) h1 fun x hx => by
    obtain ⟨l, hl, rfl⟩ := List.mem_map.1 hx
    have h2 := h.mem l hl
    rw [h2.abs]
    obtain ⟨a, b, c⟩ := h2
    simp only [List.mem_cons, List.not_mem_nil, or_false]
    split <;> omega
  simpa using this
theorem good_of {vars : Int} {c : List Int} (h : clauseB vars c = true) (h6 : vars ≤ 6) : Good c ∧ ∀ l ∈ c, -vars ≤ l ∧ l ≤ vars := by
  unfold clauseB at h
  rw [Bool.and_eq_true, inB_true] at h
  obtain ⟨⟨h0, _⟩, h⟩ := h
  unfold cOkTo at h
  rw [List.all_eq_true] at h
  have hlit : ∀ i (hi : i < c.length), c[i] ≠ 0 ∧ -vars ≤ c[i] ∧ c[i] ≤ vars := by
    intro i hi
    have := h i (by simpa using hi)
    unfold cOk litB at this
    rw [List.getD_eq_getElem?_getD, List.getElem?_eq_getElem hi] at this
    simp only [Option.getD_some, Bool.and_eq_true, inB_true, bne_iff_ne, ne_eq] at this
    obtain ⟨⟨⟨a, b⟩, d⟩, _⟩ := this
    rw [negV_small ⟨by omega, by omega⟩ (by omega)] at a
    exact ⟨d, a, b⟩
  have hasc : ∀ i (hi : i + 1 < c.length), absV (c[i]'(by omega)) < absV c[i + 1] := by
    intro i hi
    have := h (i + 1) (by simpa using hi)
    unfold cOk at this
    rw [Bool.and_eq_true] at this
    have := this.2
    rw [List.getD_eq_getElem?_getD, List.getD_eq_getElem?_getD, List.getElem?_eq_getElem hi, Nat.add_sub_cancel, List.getElem?_eq_getElem (show i < c.length by omega)] at this
    simpa using this
  have hup : ∀ d i (hi : i + d + 1 < c.length), absV (c[i]'(by omega)) < absV c[i + d + 1] := by
    intro d
    induction d with
    | zero => intro i hi; exact hasc i hi
    | succ d ih => intro i hi; exact Int.lt_trans (ih i (by omega)) (hasc (i + d + 1) (by omega))
  refine ⟨⟨fun l hl => ?_, List.pairwise_iff_getElem.2 fun i j hi hj hij => ?_⟩, fun l hl => ?_⟩
  · obtain ⟨i, hi, rfl⟩ := List.getElem_of_mem hl
    have := hlit i hi
    exact ⟨this.1, by omega, by omega⟩
  · obtain ⟨d, rfl⟩ : ∃ d, j = i + d + 1 := ⟨j - i - 1, by omega⟩
    exact hup d i hj
  · obtain ⟨i, hi, rfl⟩ := List.getElem_of_mem hl
    exact (hlit i hi).2

theorem mem_putB {c : List Int} {l x : Int} : x ∈ putB c l ↔ x = l ∨ x ∈ c := by
  unfold putB
  rw [List.mem_append, List.mem_cons]
  conv => rhs; rw [← List.take_append_drop (litAt c l) c, List.mem_append]
  exact ⟨fun h => by rcases h with h | h | h <;> simp [h], fun h => by rcases h with h | h | h <;> simp [h]⟩
theorem Good.put {c : List Int} (h : Good c) {l : Int} (hl : Lit6 l) (hn : ∀ y ∈ c, absV y ≠ absV l) : Good (putB c l) := by
  refine ⟨fun x hx => ?_, ?_⟩
  · rcases mem_putB.1 hx with rfl | hx
    · exact hl
    · exact h.mem x hx
  · have e0 := List.takeWhile_append_dropWhile (p := fun x => decide (absV x < absV l)) (l := c)
    have e1 : c.take (litAt c l) = c.takeWhile (fun x => decide (absV x < absV l)) := by
      have := congrArg (List.take (litAt c l)) e0
      rw [← this]; exact List.take_left' rfl
    have e2 : c.drop (litAt c l) = c.dropWhile (fun x => decide (absV x < absV l)) := by
      have := congrArg (List.drop (litAt c l)) e0
      rw [← this]; exact List.drop_left' rfl
    unfold putB
    rw [List.pairwise_append, List.pairwise_cons]
    have hd : ∀ y ∈ c.drop (litAt c l), absV l < absV y := by
      intro y hy
      have hne := hn y (List.mem_of_mem_drop hy)
      rw [e2] at hy
      have hp : (c.dropWhile (fun x => decide (absV x < absV l))).Pairwise AscV := by rw [← e2]; exact h.asc.drop
      cases hdw : c.dropWhile (fun x => decide (absV x < absV l)) with
      | nil => rw [hdw] at hy; cases hy
      | cons z t =>
        have hz : ¬ absV z < absV l := by
          have := List.head_dropWhile_not (fun x => decide (absV x < absV l)) (l := c) (by rw [hdw]; simp)
          simp only [hdw, List.head_cons] at this
          simpa using this
        rw [hdw] at hy hp
        rcases List.mem_cons.1 hy with rfl | hy
        · omega
        · have := (List.pairwise_cons.1 hp).1 y hy
          unfold AscV at this; omega
    have ht : ∀ y ∈ c.take (litAt c l), absV y < absV l := by
      intro y hy
      rw [e1] at hy
      simpa using List.all_eq_true.1 (List.all_takeWhile (p := fun x => decide (absV x < absV l)) (l := c)) y hy
    exact ⟨h.asc.take, ⟨hd, h.asc.drop⟩, fun a ha b hb => by
      rcases List.mem_cons.1 hb with rfl | hb
      · exact ht a ha
      · have := ht a ha; have := hd b hb; show absV a < absV b; omega⟩

/-- Joining clauses. -/
def joinBN (out : List Int) : List Int → Option (List Int)
  | [] => some out
  | l :: b => if hasI out (-l) then none else joinBN (if hasI out l then out else putB out l) b
theorem joinB_spec : ∀ {b out : List Int}, Good out → Good b →
    (joinBN out b = none ∧ ∃ l ∈ b, -l ∈ out) ∨ (∃ c, joinBN out b = some c ∧ Good c ∧ (∀ x, x ∈ c ↔ x ∈ out ∨ x ∈ b) ∧ ∀ l ∈ b, -l ∉ out)
  | [], out, ho, _ => .inr ⟨out, rfl, ho, by simp, by simp⟩
  | l :: b, out, ho, hb => by
    have hl := hb.mem l List.mem_cons_self
    have hb2 : Good b := ⟨fun x hx => hb.mem x (List.mem_cons_of_mem _ hx), (List.pairwise_cons.1 hb.asc).2⟩
    have hlb : ∀ x ∈ b, absV l < absV x := (List.pairwise_cons.1 hb.asc).1
    unfold joinBN
    by_cases hc : -l ∈ out
    · rw [if_pos (hasI_iff.2 hc)]
      exact .inl ⟨rfl, l, List.mem_cons_self, hc⟩
    · rw [if_neg (by rw [hasI_iff]; exact hc)]
      have hout : ∃ out', (if hasI out l then out else putB out l) = out' ∧ Good out' ∧ ∀ x, x ∈ out' ↔ x = l ∨ x ∈ out := by
        by_cases h : l ∈ out
        · rw [if_pos (hasI_iff.2 h)]
          exact ⟨_, rfl, ho, fun x => ⟨.inr, fun hx => by rcases hx with rfl | hx; exact h; exact hx⟩⟩
        · rw [if_neg (by rw [hasI_iff]; exact h)]
          refine ⟨_, rfl, ho.put hl fun y hy e => ?_, fun x => mem_putB⟩
          have hy6 := ho.mem y hy
          rw [hy6.abs, hl.abs] at e
          have : y = l ∨ y = -l := by
            have h1 := hy6; have h2 := hl
            unfold Lit6 at h1 h2
            split at e <;> split at e <;> omega
          rcases this with rfl | rfl
          · exact h hy
          · exact hc hy
      obtain ⟨out', he, hg, hm⟩ := hout
      rw [he]
      rcases joinB_spec hg hb2 with ⟨h1, x, hx, hx2⟩ | ⟨c, h1, h2, h3, h4⟩
      · refine .inl ⟨h1, x, List.mem_cons_of_mem _ hx, ?_⟩
        rcases (hm _).1 hx2 with e | e
        · exfalso
          have h5 := hlb x hx
          have h6 := hb.mem x (List.mem_cons_of_mem _ hx)
          rw [hl.abs, h6.abs] at h5
          unfold Lit6 at h6 hl
          split at h5 <;> split at h5 <;> omega
        · exact e
      · refine .inr ⟨c, h1, h2, fun x => ?_, fun x hx => ?_⟩
        · rw [h3, hm, List.mem_cons]
          exact ⟨fun h => by rcases h with (h | h) | h <;> simp [h], fun h => by rcases h with h | h | h <;> simp [h]⟩
        · rcases List.mem_cons.1 hx with rfl | hx
          · exact hc
          · exact fun h => h4 x hx ((hm _).2 (.inr h))

/-- The resolvent on a variable. -/
def resB (a b : List Int) (v : Int) : Option (List Int) := if hasI a v && hasI b (-v) then joinBN (withoutB a v) (withoutB b v) else none
theorem mem_without {a : List Int} (ha : Good a) {v x : Int} (hv : 1 ≤ v) : x ∈ withoutB a v ↔ x ∈ a ∧ x ≠ v ∧ x ≠ -v := by
  unfold withoutB
  rw [List.mem_filter]
  refine and_congr_right fun hx => ?_
  have h6 := ha.mem x hx
  have h := h6.abs
  unfold Lit6 at h6
  simp only [Bool.not_eq_true', beq_eq_false_iff_ne, ne_eq]
  rw [h]
  split <;> omega
theorem resB_iff {a b c : List Int} (ha : Good a) (hb : Good b) {v : Int} (hv : 1 ≤ v) :
    resB a b v = some c ↔ v ∈ a ∧ -v ∈ b ∧ (∀ l ∈ b, -l ∈ a → l = -v) ∧ Good c ∧ ∀ x, x ∈ c ↔ (x ∈ a ∨ x ∈ b) ∧ x ≠ v ∧ x ≠ -v := by
  unfold resB
  by_cases h1 : v ∈ a
  case neg => rw [hasI_not.2 h1]; simp [h1]
  by_cases h2 : -v ∈ b
  case neg => rw [hasI_not.2 h2]; simp [h2]
  rw [hasI_iff.2 h1, hasI_iff.2 h2]
  simp only [Bool.and_self, if_true]
  have m1 := fun x => mem_without (x := x) ha hv
  have m2 := fun x => mem_without (x := x) hb hv
  have g1 : Good (withoutB a v) := ha.filter _
  have g2 : Good (withoutB b v) := hb.filter _
  have hclash : (∀ l ∈ b, -l ∈ a → l = -v) ↔ ∀ l ∈ withoutB b v, -l ∉ withoutB a v := by
    constructor
    · intro h l hl hla
      rw [m2] at hl
      rw [m1] at hla
      exact hl.2.2 (h l hl.1 hla.1)
    · intro h l hl hla
      by_cases e : l = -v
      · exact e
      · exfalso
        by_cases e2 : l = v
        · subst e2; exact ha.clash h1 hla
        · exact h l ((m2 l).2 ⟨hl, e2, e⟩) ((m1 _).2 ⟨hla, by omega, by omega⟩)
  have hmem : ∀ x, (x ∈ withoutB a v ∨ x ∈ withoutB b v) ↔ (x ∈ a ∨ x ∈ b) ∧ x ≠ v ∧ x ≠ -v := fun x => by
    rw [m1, m2]
    exact ⟨fun h => by rcases h with ⟨h, h2⟩ | ⟨h, h2⟩ <;> simp [h, h2], fun h => by rcases h with ⟨h | h, h2⟩ <;> simp [h, h2]⟩
  rcases joinB_spec g1 g2 with ⟨e, x, hx, hx2⟩ | ⟨d, e, hd, hm, hn⟩
  · rw [e]
    refine ⟨fun h => (by cases h), fun ⟨_, _, h, _⟩ => absurd hx2 (hclash.1 h x hx)⟩
  · rw [e, Option.some.injEq]
    constructor
    · rintro rfl
      exact ⟨h1, h2, hclash.2 hn, hd, fun x => (hm x).trans (hmem x)⟩
    · rintro ⟨_, _, _, hg, hc⟩
      exact hd.ext hg fun x => ((hm x).trans (hmem x)).trans (hc x).symm
theorem resB_some {a b : List Int} (ha : Good a) (hb : Good b) {v : Int} (hv : 1 ≤ v) (h1 : v ∈ a) (h2 : -v ∈ b) (h3 : ∀ l ∈ b, -l ∈ a → l = -v) : ∃ c, resB a b v = some c := by
  have m1 := fun x => mem_without (x := x) ha hv
  have m2 := fun x => mem_without (x := x) hb hv
  have g1 : Good (withoutB a v) := ha.filter _
  have g2 : Good (withoutB b v) := hb.filter _
  unfold resB
  rw [hasI_iff.2 h1, hasI_iff.2 h2]
  simp only [Bool.and_self, if_true]
  rcases joinB_spec g1 g2 with ⟨e, x, hx, hx2⟩ | ⟨d, e, _⟩
  · exfalso
    rw [m2] at hx
    rw [m1] at hx2
    exact hx.2.2 (h3 x hx.1 hx2.1)
  · exact ⟨d, e⟩
theorem resB_good {a b c : List Int} (ha : Good a) (hb : Good b) {v : Int} (hv : 1 ≤ v) (h : resB a b v = some c) : Good c := ((resB_iff ha hb hv).1 h).2.2.2.1
theorem resB_self {a c : List Int} (ha : Good a) {v : Int} (hv : 1 ≤ v) : resB a a v ≠ some c := fun h => by
  obtain ⟨h1, h2, _⟩ := (resB_iff ha ha hv).1 h
  exact ha.clash h1 h2

/-! The order of clauses. -/
theorem keyL_inj {x y : Int} (h : keyL x = keyL y) : x = y := by unfold keyL at h; split at h <;> split at h <;> omega
theorem lex_asym : ∀ {a b : List Int}, lexB a b = true → lexB b a = true → False
  | x :: a, y :: b, h, k => by
    unfold lexB at h k
    by_cases e : x = y
    · subst e; rw [if_pos rfl] at h k; exact lex_asym h k
    · rw [if_neg e] at h; rw [if_neg (Ne.symm e)] at k; simp at h k; omega
  | [], _, h, _ => by simp [lexB] at h
  | _ :: _, [], h, _ => by simp [lexB] at h
theorem lex_trans : ∀ {a b c : List Int}, lexB a b = true → lexB b c = true → lexB a c = true
  | x :: a, y :: b, z :: c, h, k => by
    unfold lexB at h k ⊢
    by_cases e : x = y
    · subst e
      rw [if_pos rfl] at h
      by_cases e2 : x = z
      · rw [if_pos e2] at k ⊢; exact lex_trans h k
      · rw [if_neg e2] at k ⊢; exact k
    · rw [if_neg e] at h
      by_cases e2 : y = z
      · subst e2; rw [if_neg e]; exact h
      · rw [if_neg e2] at k
        simp at h k
        have e3 : x ≠ z := fun e3 => by subst e3; omega
        rw [if_neg e3]; simp; omega
  | [], _, _, h, _ => by simp [lexB] at h
  | _ :: _, [], _, h, _ => by simp [lexB] at h
  | _ :: _, _ :: _, [], _, k => by simp [lexB] at k
theorem lex_total : ∀ {a b : List Int}, a.length = b.length → a ≠ b → lexB a b = true ∨ lexB b a = true
  | [], [], _, h => absurd rfl h
  | x :: a, y :: b, hl, h => by
    unfold lexB
    by_cases e : x = y
    · subst e
      rw [if_pos rfl, if_pos rfl]
      exact lex_total (by simpa using hl) (fun e => h (by rw [e]))
    · rw [if_neg e, if_neg (Ne.symm e)]
      have : keyL x ≠ keyL y := fun h => e (keyL_inj h)
      simp; omega
  | [], _ :: _, h, _ => by simp at h
  | _ :: _, [], h, _ => by simp at h
abbrev Bef (a b : List Int) : Prop := beforeB a b = true
theorem bef_asym (a b : List Int) (h : Bef a b) : ¬ Bef b a := fun k => by
  unfold Bef beforeB at h k
  by_cases e : a.length = b.length
  · rw [if_pos e] at h; rw [if_pos e.symm] at k; exact lex_asym h k
  · rw [if_neg e] at h; rw [if_neg (Ne.symm e)] at k; simp at h k; omega
theorem bef_trans {a b c : List Int} (h : Bef a b) (k : Bef b c) : Bef a c := by
  unfold Bef beforeB at *
  by_cases e : a.length = b.length
  · rw [if_pos e] at h
    by_cases e2 : b.length = c.length
    · rw [if_pos e2] at k; rw [if_pos (e.trans e2)]; exact lex_trans h k
    · rw [if_neg e2] at k; rw [if_neg (by omega)]; simp at k ⊢; omega
  · rw [if_neg e] at h
    simp at h
    by_cases e2 : b.length = c.length
    · rw [if_neg (by omega)]; simp; omega
    · rw [if_neg e2] at k; simp at k; rw [if_neg (by omega)]; simp; omega
theorem bef_total {a b : List Int} (h : a ≠ b) : Bef a b ∨ Bef b a := by
  unfold Bef beforeB
  by_cases e : a.length = b.length
  · rw [if_pos e, if_pos e.symm]; exact lex_total e h
  · rw [if_neg e, if_neg (Ne.symm e)]; simp; omega
/-- Ascending lists of clauses. -/
abbrev Asc (L : List (List Int)) : Prop := L.Pairwise Bef
theorem Asc.nodup {L : List (List Int)} (h : Asc L) : L.Nodup := asc_nodup bef_asym h
theorem Asc.ext {L M : List (List Int)} (h : Asc L) (k : Asc M) (e : ∀ c, c ∈ L ↔ c ∈ M) : L = M := asc_ext bef_asym h k e
theorem Asc.get {L : List (List Int)} (h : Asc L) {i j : Nat} (hij : i < j) (hj : j < L.length) : Bef (L[i]'(by omega)) L[j] := List.pairwise_iff_getElem.1 h i j (by omega) hj hij

theorem bsB_spec {L : List (List Int)} (hs : Asc L) (c : List Int) : ∀ (f lo hi : Nat), hi - lo < f → lo ≤ hi → hi ≤ L.length → (∀ i (h : i < L.length), i < lo → Bef L[i] c) → (∀ i (h : i < L.length), hi ≤ i → ¬ Bef L[i] c) →
    (∀ i (h : i < L.length), i < bsB L c f lo hi → Bef L[i] c) ∧ (∀ i (h : i < L.length), bsB L c f lo hi ≤ i → ¬ Bef L[i] c)
  | 0, _, _, h, _, _, _, _ => by omega
  | f + 1, lo, hi, hf, h1, h2, h3, h4 => by
    by_cases hlt : lo < hi
    · have hm : (lo + hi) / 2 < L.length := by omega
      have he : L[(lo + hi) / 2]?.getD [] = L[(lo + hi) / 2] := by rw [List.getElem?_eq_getElem hm]; rfl
      cases hq : beforeB L[(lo + hi) / 2] c
      · rw [bsB_down hlt (by rw [he]; exact hq)]
        refine bsB_spec hs c f lo _ (by omega) (by omega) (by omega) h3 fun i hi' hle hb => ?_
        rcases Nat.lt_or_eq_of_le hle with h | h
        · have := bef_trans (hs.get h hi') hb
          unfold Bef at this; rw [hq] at this; cases this
        · subst h; unfold Bef at hb; rw [hq] at hb; cases hb
      · rw [bsB_up hlt (by rw [he]; exact hq)]
        refine bsB_spec hs c f _ hi (by omega) (by omega) h2 (fun i hi' hle => ?_) h4
        rcases Nat.lt_or_eq_of_le (show i ≤ (lo + hi) / 2 by omega) with h | h
        · exact bef_trans (hs.get h hm) hq
        · subst h; exact hq
    · rw [bsB_end hlt]
      exact ⟨h3, fun i h hle => h4 i h (by omega)⟩
theorem placeB_spec {L : List (List Int)} (hs : Asc L) (c : List Int) : (∀ i (h : i < L.length), i < placeB L c → Bef L[i] c) ∧ (∀ i (h : i < L.length), placeB L c ≤ i → ¬ Bef L[i] c) :=
  bsB_spec hs c _ _ _ (by omega) (by omega) (Nat.le_refl _) (fun i _ h => by omega) (fun i h h' => by omega)
theorem placeB_mem {L : List (List Int)} (hs : Asc L) {c : List Int} : L[placeB L c]? = some c ↔ c ∈ L := by
  constructor
  · intro h; exact List.mem_of_getElem? h
  · intro h
    obtain ⟨i, hi, rfl⟩ := List.getElem_of_mem h
    obtain ⟨h1, h2⟩ := placeB_spec hs L[i]
    have hle : placeB L L[i] ≤ i := Nat.le_of_not_lt fun h => bef_asym _ _ (h1 i hi h) (h1 i hi h)
    rcases Nat.lt_or_eq_of_le hle with h | h
    · exact absurd (hs.get h hi) (h2 _ (by omega) (Nat.le_refl _))
    · rw [h, List.getElem?_eq_getElem hi]
theorem atB_iff {L : List (List Int)} (hs : Asc L) {c : List Int} : 0 ≤ atB L c ↔ c ∈ L := by
  unfold atB
  by_cases h : L[placeB L c]? = some c
  · rw [if_pos h]; exact ⟨fun _ => (placeB_mem hs).1 h, fun _ => by omega⟩
  · rw [if_neg h]; exact ⟨fun h => by omega, fun hm => absurd ((placeB_mem hs).2 hm) h⟩
/-- A clause put to its place. -/
def insB (L : List (List Int)) (c : List Int) : List (List Int) := L.take (placeB L c) ++ c :: L.drop (placeB L c)
theorem mem_insB {L : List (List Int)} {c x : List Int} : x ∈ insB L c ↔ x = c ∨ x ∈ L := by
  unfold insB
  rw [List.mem_append, List.mem_cons]
  conv => rhs; rw [← List.take_append_drop (placeB L c) L, List.mem_append]
  exact ⟨fun h => by rcases h with h | h | h <;> simp [h], fun h => by rcases h with h | h | h <;> simp [h]⟩
theorem insB_len (L : List (List Int)) (c : List Int) : (insB L c).length = L.length + 1 := by
  unfold insB
  have := placeB_le L c
  rw [List.length_append, List.length_cons, List.length_take, List.length_drop]; omega
theorem Asc.ins {L : List (List Int)} (hs : Asc L) {c : List Int} (hn : c ∉ L) : Asc (insB L c) := by
  obtain ⟨h1, h2⟩ := placeB_spec hs c
  have ht : ∀ y ∈ L.take (placeB L c), Bef y c := by
    intro y hy
    obtain ⟨i, hi, rfl⟩ := List.getElem_of_mem hy
    rw [List.getElem_take]
    rw [List.length_take] at hi
    exact h1 i (by omega) (by omega)
  have hd : ∀ y ∈ L.drop (placeB L c), Bef c y := by
    intro y hy
    obtain ⟨i, hi, rfl⟩ := List.getElem_of_mem hy
    rw [List.length_drop] at hi
    rw [List.getElem_drop]
    have hlt : placeB L c + i < L.length := by omega
    exact (bef_total (fun e => hn (by rw [e]; exact List.getElem_mem hlt))).resolve_right (h2 _ hlt (by omega))
  unfold insB
  refine List.pairwise_append.2 ⟨hs.take, List.pairwise_cons.2 ⟨hd, hs.drop⟩, fun a ha b hb => ?_⟩
  rcases List.mem_cons.1 hb with rfl | hb
  · exact ht a ha
  · exact bef_trans (ht a ha) (hd b hb)
theorem Asc.empty {L : List (List Int)} (hs : Asc L) : [] ∈ L ↔ ∃ h : 0 < L.length, L[0] = [] := by
  constructor
  · intro h
    obtain ⟨i, hi, e⟩ := List.getElem_of_mem h
    refine ⟨by omega, ?_⟩
    rcases Nat.eq_zero_or_pos i with rfl | hp
    · exact e
    · have := hs.get hp hi
      rw [e] at this
      unfold Bef beforeB at this
      cases hc : L[0] with
      | nil => rfl
      | cons x t => rw [hc] at this; simp at this
  · rintro ⟨h, e⟩
    exact e ▸ List.getElem_mem h
end Go.Proofs.YtahbepajeplcmaaGreatDoor
