/- Lemmas and contracts for a law, put together out of several texts: WalkSeeded. -/
import Derived.Test.YtnjdmakbdhobgaaMg8
import Derived.Test.YtnjdmakbdhobgaaMg6
import Derived.Test.YtnjdmakbdhobgaaMg5
import Derived.Deep.DeepCutAuto
import Derived.Deep.CutBlock
/- The walk of FnSeeded. -/
namespace Go.Proofs.Ytnjdmakbdhobgaa
open Go.RowKit

theorem vBigE_any (ca : Option Addr) (cl cc : Nat) (w : World) : Calls Try.prog 4 #[.slice ca cl cc] w fun e w' => e = .returned (.bool (decide ((65536 : Int) < (cl : Int)))) ∧ w' = w := by
  go_enter Try.func4, Try.ntmps4
  go_wp2_with fail
  go_ret
  exact ⟨rfl, rfl⟩
theorem mustC : MustC := fun zs A cap w hx hz hl => mustClause_any zs A cap w hx hz hl
theorem sd_facts {vars cl wd sd : Int} (h : seedOk vars cl wd sd = true) : goodB (sdV vars cl wd sd) (sdY vars cl wd sd) = true ∧ ((sdY vars cl wd sd).length : Int) = cl ∧ ∀ c ∈ sdY vars cl wd sd, (c.length : Int) = wd := by
  obtain ⟨hv, hc, hw, hs⟩ := seedOk_parts h
  unfold sdV sdY
  rw [h, if_pos rfl, if_pos rfl]
  have hw2 : ((wd.toNat : Nat) : Int) ≤ vars := by omega
  refine ⟨seed_good hv hw2 hs (by omega), by rw [seedL_len]; omega, fun c hc => ?_⟩
  have := (seed_clause hv hw2 hs hc).2
  omega
theorem sd_small (vars cl wd sd : Int) : (sdY vars cl wd sd).length ≤ 1000000 ∧ ∀ c ∈ sdY vars cl wd sd, c.length ≤ 1000000 := by
  cases h : seedOk vars cl wd sd with
  | false => unfold sdY; rw [h]; exact ⟨by simp, by simp⟩
  | true =>
    obtain ⟨hv, hc, hw, hs⟩ := seedOk_parts h
    obtain ⟨-, h2, h3⟩ := sd_facts h
    exact ⟨by omega, fun c hc => by have := h3 c hc; omega⟩
theorem col_small (n k : Nat) (es : List (Int × Int)) : (colGY n k es).length ≤ 1000000 ∧ ∀ c ∈ colGY n k es, c.length ≤ 1000000 := by
  cases h : colGB n k es with
  | false => unfold colGY; rw [h]; exact ⟨by simp, by simp⟩
  | true =>
    have hg := colG_good h
    unfold goodB at hg
    simp only [Bool.and_eq_true, List.all_eq_true, decide_eq_true_eq] at hg
    exact ⟨by omega, fun c hc => by have := good_len_s (hg.2 c hc); omega⟩

set_option maxRecDepth 100000 in
set_option maxHeartbeats 16000000 in
theorem FnSeeded_walk (ca : Option Addr) (cl cc : Nat) (w : World) (hc : CodeOk w ca cl) :
    Calls Try.prog 3 #[.slice ca cl cc] w fun e w' => e = .returned (.bool true) ∧ Below w.heap.size w w' := by
  have hcH := Lib.hid hc
  clear hc
  by_cases hbig : (65536 : Int) < (cl : Int)
  · go_enter Try.func3, Try.ntmps3
    go_wp2_with fail
    refine (vBigE_any _ _ _ _).mono ?_
    rintro e w1 ⟨rfl, rfl⟩
    rw [decide_eq_true hbig]
    go_wp2_with fail
    go_ret
    exact ⟨rfl, bb _⟩
  have hsm : cl ≤ 65536 := by omega
  have hv := Lib.hid (decide_eq_false hbig)
  clear hbig
  go_enter Try.func3, Try.ntmps3
  go_wp2_with fail
  refine (vBigE_any _ _ _ _).mono ?_
  rintro e w1 ⟨rfl, rfl⟩
  rw [hv.out]
  clear hv
  go_wp2_with fail
  refine (drawSeeded_any ca cl cc w1 hcH.out hsm).mono ?_
  rintro e w2 ⟨vars, c, wd, sd, rfl, hb2⟩
  have S2 := Lib.hid (Sp.of_below hb2)
  have hc2 := Lib.hid (hcH.out.grow hb2)
  have hi := Lib.hid (fun W => implSeeded_any vars c wd sd W mustC)
  have hs := Lib.hid (fun W => specSeeded_any vars c wd sd W)
  have hf := Lib.hid (sd_facts (vars := vars) (cl := c) (wd := wd) (sd := sd))
  have hsz := Lib.hid (sd_small vars c wd sd)
  generalize sdV vars c wd sd = va at *
  generalize sdY vars c wd sd = ys at *
  generalize seedOk vars c wd sd = ok at *
  clear hb2
  go_wp2_with fail
  refine (hi.out _).mono ?_
  rintro e w3 ⟨B3, c3, F3, rfl, hr3, hb3⟩
  have S3 := Lib.hid ((S2.out.grow hb3).alloc_box #[.int .i64 va, .slice B3 ys.length c3] 28)
  have hx3 := Lib.hid (fun W (h : Below w3.heap.size w3 W) => Ty.row_below hr3 h (Ty.row_lt hr3))
  have hB3 := Lib.hid (bal (bb w3) (.cells #[.int .i64 va, .slice B3 ys.length c3] 28))
  clear S2 hr3 hb3 hi
  go_wp2_with fail
  refine (hs.out _).mono ?_
  rintro e w4 ⟨B4, c4, F4, rfl, hr4, hb4⟩
  have S4 := Lib.hid ((S3.out.grow hb4).alloc_box #[.int .i64 va, .slice B4 ys.length c4] 28)
  have hx4 := Lib.hid (fun W (h : Below w4.heap.size w4 W) => Ty.row_below hr4 h (Ty.row_lt hr4))
  have hB4 := Lib.hid (bal (bb w4) (.cells #[.int .i64 va, .slice B4 ys.length c4] 28))
  have hB34 := Lib.hid (bal (btr hB3.out hb4) (.cells #[.int .i64 va, .slice B4 ys.length c4] 28))
  obtain ⟨_, _, e3, hC3⟩ := cls_row (hx3.out _ hB34.out)
  obtain ⟨_, _, e4, hC4⟩ := cls_row (hx4.out _ hB4.out)
  cases e3
  cases e4
  have hyl : ys.length ≤ 1000000 := hsz.out.1
  have hvc := Lib.hid (vCnf_same va B3 B4 c3 c4 ys _ hC3 hC4 hsz.out.1 hsz.out.2)
  have k0 := S4.out.cell (i := 1) rfl (o := 0) rfl
  have k1 := S4.out.cell (i := 1) rfl (o := 1) rfl
  have j0 := S4.out.cell (i := 0) rfl (o := 0) rfl
  have j1 := S4.out.cell (i := 0) rfl (o := 1) rfl
  clear S3 hr4 hb4 hs hx4 hB4 hC3 hC4 hsz hB3
  go_wp2_with fail
  refine hvc.out.mono ?_
  rintro e w5 ⟨rfl, hb5⟩
  have S5 := Lib.hid (S4.out.grow hb5)
  have hB5 := Lib.hid (btr hB34.out hb5)
  clear S4 hb5 hvc k0 k1 j0 j1 hB34
  go_upto_if 59 with fail
  go_cut [11] (fun _ wx => Hid (Below w1.heap.size w1 wx))
  case first =>
    cases ok
    · have hB := Lib.hid S5.out.below
      clear S5 hB5 hx3 hf
      go_wp2_with fail
      go_meet
      exact hB
    obtain ⟨hg, hl, hwd⟩ := hf.out rfl
    subst hl
    have hic := implIsCnf_any va (.slice B3 ys.length c3) ys F3 w5 (hx3.out _ hB5.out)
    rw [hg] at hic
    replace hic := Lib.hid hic
    have k0 := S5.out.cell (i := 1) rfl (o := 0) rfl
    have k1 := S5.out.cell (i := 1) rfl (o := 1) rfl
    replace hwd := Lib.hid hwd
    clear hf hg
    go_wp2_with fail
    refine hic.out.mono ?_
    rintro e w6 ⟨rfl, hb6⟩
    have S6 := Lib.hid (S5.out.grow hb6)
    have hB6 := Lib.hid (btr hB5.out hb6)
    have k2 := S6.out.cell (i := 1) rfl (o := 1) rfl
    clear S5 hB5 hb6 hic k0 k1
    go_wp2_with fail
    clear k2
    go_loopw [11] (fun vi wr => ∃ t : Nat, t ≤ ys.length ∧ vi = .int .i64 t ∧ Hid (Below w3.heap.size w3 wr) ∧ Hid (Sp w1 wr [Box w4.heap.size 28 #[.int .i64 va, .slice B4 ys.length c4], Box w3.heap.size 28 #[.int .i64 va, .slice B3 ys.length c3]])) (fun vi _ => ys.length - (intOf vi).toNat)
    case atStart => exact ⟨0, Nat.zero_le _, rfl, hB6, S6⟩
    case round =>
      clear S6 hB6
      obtain ⟨t, ht, rfl, HB, HS⟩ := hrel
      have k2 := HS.out.cell (i := 1) rfl (o := 1) rfl
      by_cases hlt : t < ys.length
      · obtain ⟨_, _, e3, hC⟩ := cls_row (hx3.out _ HB.out)
        cases e3
        obtain ⟨b, off, D, dc, hD, m0, -⟩ := hC.at_ t hlt
        have hwt := hwd.out _ (List.getElem_mem hlt)
        generalize ys[t].length = L at m0 hwt
        subst hwt
        subst hD
        have hlt' := Lib.hid hlt
        clear hC
        go_wp2_with fail
        go_roundw
        case rel => exact ⟨t + 1, by have := hlt'.out; omega, by go_num, HB, HS⟩
        case measure => have := hlt'.out; simp [intOf]; omega
      · obtain rfl : t = ys.length := by omega
        have hB := Lib.hid HS.out.below
        clear HS HB
        go_wp2_with fail
        go_meet
        exact hB
  case rest =>
    clear S5 hB5 hx3 hf
    have hc6 := drawColoring_any ca cl cc _ (hcH.out.grow hcut.out) hsm
    have hBw := hcut
    clear hc2 hcut
    go_wp2_with fail
    refine hc6.mono ?_
    rintro e w6 ⟨n, k, es, A, cap, rfl, hn, hk, hel, hAll, T6⟩
    obtain ⟨n, rfl⟩ : ∃ m : Nat, n = m := ⟨n.toNat, by omega⟩
    obtain ⟨k, rfl⟩ : ∃ m : Nat, k = m := ⟨k.toNat, by omega⟩
    have hE := Lib.hid (T6.edges (i := 0) rfl hAll)
    have S6 := Lib.hid (Sp.of_below (btr hBw.out T6.below))
    have hi := Lib.hid (fun W (h : Below w6.heap.size w6 W) => implColoring_any n k es A cap W mustC (hE.out.grow h))
    have hi2 := Lib.hid (fun W (h : Below w6.heap.size w6 W) => implColoring_any n (k + 1) es A cap W mustC (hE.out.grow h))
    rw [show ((k + 1 : Nat) : Int) = (k : Int) + 1 from rfl] at hi2
    have hs := Lib.hid (fun W (h : Below w6.heap.size w6 W) => specColoring_any n k es A cap W (hE.out.grow h))
    have hsz := Lib.hid (col_small n k es)
    have hg1 := Lib.hid (colG_good (n := n) (k := k) (es := es))
    have hg2 := Lib.hid (colG_good (n := n) (k := k + 1) (es := es))
    have hmore := Lib.hid (col_more (n := n) (k := k) (es := es))
    generalize colGV n k es = va1 at *
    generalize colGY n k es = ys1 at *
    generalize colGB n k es = fine at *
    generalize colGV n (k + 1) es = va2 at *
    generalize colGY n (k + 1) es = ys2 at *
    generalize colGB n (k + 1) es = one at *
    clear hE hAll T6 hc6 hBw
    go_wp2_with fail
    refine (hi.out _ (bb _)).mono ?_
    rintro e w7 ⟨B7, c7, F7, rfl, hr7, hb7⟩
    have S7 := Lib.hid ((S6.out.grow hb7).alloc_box #[.int .i64 va1, .slice B7 ys1.length c7] 28)
    have hx7 := Lib.hid (fun W (h : Below w7.heap.size w7 W) => Ty.row_below hr7 h (Ty.row_lt hr7))
    have hB7 := Lib.hid (bal (bb w7) (.cells #[.int .i64 va1, .slice B7 ys1.length c7] 28))
    have hD7 := Lib.hid (bal hb7 (.cells #[.int .i64 va1, .slice B7 ys1.length c7] 28))
    clear S6 hr7 hb7 hi
    go_wp2_with fail
    refine (hs.out _ hD7.out).mono ?_
    rintro e w8 ⟨B8, c8, F8, rfl, hr8, hb8⟩
    have S8 := Lib.hid ((S7.out.grow hb8).alloc_box #[.int .i64 va1, .slice B8 ys1.length c8] 28)
    have hx8 := Lib.hid (fun W (h : Below w8.heap.size w8 W) => Ty.row_below hr8 h (Ty.row_lt hr8))
    have hB8 := Lib.hid (bal (bb w8) (.cells #[.int .i64 va1, .slice B8 ys1.length c8] 28))
    have hB78 := Lib.hid (bal (btr hB7.out hb8) (.cells #[.int .i64 va1, .slice B8 ys1.length c8] 28))
    have hD8 := Lib.hid (bal (btr hD7.out hb8) (.cells #[.int .i64 va1, .slice B8 ys1.length c8] 28))
    obtain ⟨_, _, e7, hC7⟩ := cls_row (hx7.out _ hB78.out)
    obtain ⟨_, _, e8, hC8⟩ := cls_row (hx8.out _ hB8.out)
    cases e7
    cases e8
    have hvc := Lib.hid (vCnf_same va1 B7 B8 c7 c8 ys1 _ hC7 hC8 hsz.out.1 hsz.out.2)
    have k0 := S8.out.cell (i := 1) rfl (o := 0) rfl
    have k1 := S8.out.cell (i := 1) rfl (o := 1) rfl
    have j0 := S8.out.cell (i := 0) rfl (o := 0) rfl
    have j1 := S8.out.cell (i := 0) rfl (o := 1) rfl
    clear S7 hr8 hb8 hs hx8 hB8 hC7 hC8 hsz hB7 hD7
    go_wp2_with fail
    refine hvc.out.mono ?_
    rintro e w9 ⟨rfl, hb9⟩
    have S9 := Lib.hid (S8.out.grow hb9)
    have hB9 := Lib.hid (btr hB78.out hb9)
    have hD9 := Lib.hid (btr hD8.out hb9)
    clear S8 hb9 hvc k0 k1 j0 j1 hB78 hD8
    cases fine
    · have hZ := Lib.hid S9.out.below
      clear S9 hB9 hD9 hx7
      go_wp2_with fail
      go_ret
      exact ⟨rfl, hZ.out⟩
    have hgd1 := Lib.hid (hg1.out rfl)
    have hco := Lib.hid (hi2.out _ hD9.out)
    clear hg1 hi2
    go_wp2_with fail
    refine hco.out.mono ?_
    rintro e w10 ⟨B10, c10, F10, rfl, hr10, hb10⟩
    have S10 := Lib.hid ((S9.out.grow hb10).alloc_box #[.int .i64 va2, .slice B10 ys2.length c10] 28)
    have hx10 := Lib.hid (fun W (h : Below w10.heap.size w10 W) => Ty.row_below hr10 h (Ty.row_lt hr10))
    have hB10 := Lib.hid (bal (bb w10) (.cells #[.int .i64 va2, .slice B10 ys2.length c10] 28))
    have hB710 := Lib.hid (bal (btr hB9.out hb10) (.cells #[.int .i64 va2, .slice B10 ys2.length c10] 28))
    have hs1 := isSatisfiable_any va1 (.slice B7 ys1.length c7) ys1 F7 _ (hx7.out _ hB710.out)
    rw [hgd1.out, Bool.true_and] at hs1
    replace hs1 := Lib.hid hs1
    have k0 := S10.out.cell (i := 2) rfl (o := 0) rfl
    have k1 := S10.out.cell (i := 2) rfl (o := 1) rfl
    clear S9 hr10 hb10 hco hB9 hD9
    generalize (List.range (2 ^ va1.toNat)).any (modT ys1) = x at *
    go_wp2_with fail
    refine hs1.out.mono ?_
    rintro e w11 ⟨rfl, hb11⟩
    have S11 := Lib.hid (S10.out.grow hb11)
    have hB11 := Lib.hid (btr hB10.out hb11)
    have hs2 := isSatisfiable_any va2 (.slice B10 ys2.length c10) ys2 F10 _ (hx10.out _ hB11.out)
    replace hs2 := Lib.hid hs2
    have m0 := S11.out.cell (i := 0) rfl (o := 0) rfl
    have m1 := S11.out.cell (i := 0) rfl (o := 1) rfl
    clear S10 hB10 hb11 hs1 k0 k1
    go_wp2_with fail
    refine hs2.out.mono ?_
    rintro e w12 ⟨rfl, hb12⟩
    have hZ := Lib.hid (S11.out.grow hb12).below
    clear S11 hB11 hb12 hs2 m0 m1
    cases one
    · go_wp2_with fail
      go_ret
      exact ⟨rfl, hZ.out⟩
    have hgd2 := hg2.out rfl
    rw [hgd2, Bool.true_and]
    cases x
    · go_wp2_with fail
      go_ret
      exact ⟨rfl, hZ.out⟩
    · rw [hmore.out (by trivial) (by trivial) (by trivial)]
      go_wp2_with fail
      go_ret
      exact ⟨rfl, hZ.out⟩
end Go.Proofs.Ytnjdmakbdhobgaa
