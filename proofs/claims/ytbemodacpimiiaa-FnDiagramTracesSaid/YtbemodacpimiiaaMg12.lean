/- Lemmas and contracts for a law, put together out of several texts: DtJ DgU DgV OpenB DtK. -/
import Derived.Test.YtbemodacpimiiaaMg10
import Derived.Test.YtbemodacpimiiaaMg11
import Derived.Test.YtbemodacpimiiaaMg7
import Derived.Test.YtbemodacpimiiaaMg1
import Derived.Test.YtbemodacpimiiaaMg9
/- Contracts: the drawn trace. Printed by gen_dtj.py. -/
namespace Go.Proofs.Ytbemodacpimiiaa
open Go.RowKit

theorem DgsAt.from1 {w : World} {A : Option Addr} {ds : List (Int × List Nd)} {cap : Nat} (h : DgsAt w A ds) (hc : ds.length ≤ cap) : DgsAt w (cutA A cap 1 2) (ds.drop 1) := ⟨fun j hj => by
  have hj2 : 1 + j < ds.length := by rw [List.length_drop] at hj; omega
  obtain ⟨b, off, B, c, rfl, h1, h2, h3⟩ := h.at_ (1 + j) hj2
  rw [List.getElem_drop]
  refine ⟨b, off + 2, B, c, ?_, ?_, ?_, h3⟩
  · unfold cutA
    rw [if_neg (by omega)]
    simp only [Option.map_some, add_none]
  · rw [show off + 2 + j * 2 = off + (1 + j) * 2 by omega]; exact h1
  · rw [show off + 2 + j * 2 + 1 = off + (1 + j) * 2 + 1 by omega]; exact h2⟩
theorem dk_set (r : Int) (v : Value) (ns : List Nd) : ∀ (ks : List Dk) (j : Nat), j < ks.length → (((ks.flatMap dkEnc).set (j * 2) (.int .i64 r)).set (j * 2 + 1) v) = (ks.set j ⟨r, v, ns⟩).flatMap dkEnc
  | k :: ks, 0, _ => by simp [dkEnc]
  | k :: ks, j + 1, h => by
    have ih := dk_set r v ns ks j (by simpa using h)
    rw [List.set_cons_succ, List.flatMap_cons, List.flatMap_cons, ← ih]
    have e : (dkEnc k).length = 2 := rfl
    rw [List.set_append_right _ _ (by rw [e]; omega), List.set_append_right _ _ (by rw [e]; omega), e, show (j + 1) * 2 - 2 = j * 2 by omega, show (j + 1) * 2 + 1 - 2 = j * 2 + 1 by omega]
/-- A drawn Cnf and a drawn list of diagrams. -/
def TrD (w : World) (e : Ending) (w' : World) : Prop := ∃ (vars : Int) (B : Option Addr) (cap : Nat) (xss : List (List Int)) (F : List Nat) (A' : Option Addr) (c' : Nat) (es : List (Int × List Nd)),
  e = .returned (.tuple #[.agg #[.int .i64 vars, .slice B xss.length cap], .slice A' es.length c']) ∧ -1 ≤ vars ∧ vars ≤ 13 ∧ xss.length ≤ 62 ∧ SmallR 13 xss ∧ (Ty.slice Ty.int).row false w' (.slice B xss.length cap) xss F ∧ DgsAt w' A' es ∧ es.length ≤ 100 ∧ (∀ d ∈ es, d.2.length ≤ 64) ∧ Below w.heap.size w w'
theorem dgs_nil {n : Nat} {w w' : World} (_ : Below n w w') (A : Option Addr) : DgsAt w' A [] := DgsAt.nil _ _
theorem small_of {es L : List (Int × List Nd)} (h : ∀ d ∈ L, d.2.length ≤ 63) (hs : ∀ d ∈ es, d ∈ L) : ∀ d ∈ es, d.2.length ≤ 64 := fun d hd => by have := h d (hs d hd); omega

set_option maxRecDepth 100000 in
set_option maxHeartbeats 8000000 in
theorem drawIsConjTrace_any (ca : Option Addr) (cl cc : Nat) (w : World) (hc : CodeOk w ca cl) (hs : cl ≤ 65536) : Calls Try.prog 21 #[.slice ca cl cc] w (TrD w) := by
  have S0 := ((Sp.start w).alloc_box #[.int .i64 0, .slice none 0 0] 26).cur_laid ca cl cc
  simp only [World.size_alloc] at S0
  have hi := Lib.hid (S0.cur (A' := 0) (i := 0) rfl hc hs).1
  obtain ⟨i0, hi0, hz0, hz1, hz2⟩ := info_parts infoDg
  replace S0 := Lib.hid S0
  go_enter Try.func21, Try.ntmps21
  go_wp2_with fail
  refine (cur_cnf 0 (w.heap.size + 1) ca cl cc _ hi.out (by omega)).mono ?_
  rintro e w1 ⟨vars, B, cap, cs, xss, rfl, hv0, hv1, hl, HC, T⟩
  replace HC := Lib.hid HC
  have S1 := (((S0.out.cs_call T hc hs).alloc_box #[.int .i64 vars, .slice B xss.length cap] 26).pick [2, 1, 0, 0] rfl).own_made 34 2
  simp only [World.size_alloc] at S1
  clear T S0 hi
  have hrow : ∃ F, (Ty.slice Ty.int).row false ((w1.alloc (.cells #[.int .i64 vars, .slice B xss.length cap] 26)).alloc (.cells #[] 34)) (.slice B xss.length cap) xss F := by
    obtain ⟨F, hr, -, -⟩ := S1.rows_done (i := 2) rfl
    exact ⟨F, Ty.row_down hr⟩
  obtain ⟨F0, hrow⟩ := hrow
  have hask := Lib.hid (l26Asked_any vars _ xss F0 _ hrow)
  have a0 := S1.cell (i := 3) rfl (o := 0) rfl
  have a1 := S1.cell (i := 3) rfl (o := 1) rfl
  obtain ⟨Ac, capc, ec, hcap, hI⟩ := cnf_row (vars := vars) hrow
  cases ec
  replace hI := Lib.hid hI
  replace S1 := Lib.hid S1
  clear hrow
  go_wp2_with fail
  refine hask.out.mono ?_
  rintro e w2 ⟨rfl, hb2⟩
  have S2 := S1.out.grow hb2
  replace hI := Lib.hid (hI.out.grow hb2)
  clear S1 hask hb2 a0 a1
  have b0 := S2.cell (i := 3) rfl (o := 0) rfl
  have b1 := S2.cell (i := 3) rfl (o := 1) rfl
  cases h1 : dCnf vars xss
  · clear hI
    have e0 := S2.cell (i := 3) rfl (o := 0) rfl
    have e1 := S2.cell (i := 3) rfl (o := 1) rfl
    have r0 := S2.cell (i := 4) rfl (o := 0) rfl
    have r1 := S2.cell (i := 4) rfl (o := 1) rfl
    have f0 := S2.frozen (i := 4) rfl 0
    have f1 := S2.frozen (i := 4) rfl 1
    have SF := (S2.store (i := 4) rfl 0 (.int .i64 vars)).store (i := 4) rfl 1 (.slice B xss.length cap)
    have j0 := SF.cell (i := 4) rfl (o := 0) rfl
    have j1 := SF.cell (i := 4) rfl (o := 1) rfl
    obtain ⟨F9, hrF, -, -⟩ := SF.rows_done (i := 2) rfl
    have hrowF := Ty.row_down hrF
    clear hrF
    have hBF := SF.below

    have hdF := Lib.hid (dgs_nil hBF (some ⟨w1.heap.size + 1, 0, none⟩))
    have hsF := Lib.hid ((show ∀ d ∈ ([] : List (Int × List Nd)), d.2.length ≤ 64 from fun d hd => by cases hd))
    have hlF : Hid (_ ≤ 100) := (by unfold Hid; exact Nat.zero_le _ : Hid (([] : List (Int × List Nd)).length ≤ 100))
    replace hrowF := Lib.hid hrowF
    replace hBF := Lib.hid hBF
    clear SF S2
    go_wp2_with fail
    exact bodyPost_ret (v := .tuple #[.agg #[.int .i64 vars, .slice B xss.length cap], .slice (some ⟨w1.heap.size + 1, 0, none⟩) ([] : List (Int × List Nd)).length 0]) (by simp [results, Try.results21, go_sem, j0, j1]) rfl ⟨_, B, cap, xss, F9, _, _, _, by first | rfl | (rw [← hLm.out]) | (rw [← hLm.out, hm00.out]) | (rw [List.length_drop, ← hLm.out]) | (rw [hdrop.out, hm1.out]; rfl) | (rw [hel.out]), hv0, hv1, hl, HC.out, hrowF.out, hdF.out, hlF.out, hsF.out, hBF.out⟩
  unfold dCnf at h1
  rw [Bool.and_eq_true, inB_def] at h1
  obtain ⟨⟨hv2, hv3⟩, hg⟩ := h1
  have hgc := good_cnf hg
  obtain ⟨n, rfl⟩ := Int.eq_ofNat_of_zero_le hv2
  have hn : n ≤ 6 := by omega
  have htr := Lib.hid (l26Trace_any n hn xss hgc.2.2.1 (by omega) B cap w2 hI.out)
  have hsm := Lib.hid (tr_small hn xss xss.length)
  obtain ⟨L, hL⟩ : ∃ L, trL n xss xss.length = L := ⟨_, rfl⟩
  have hLl : L.length ≤ 60 := by rw [← hL, trL_len]; exact hgc.2.1
  rw [hL] at htr hsm
  replace S2 := Lib.hid S2
  clear hgc hg hI hv2 hL hcap
  go_wp2_with fail
  refine htr.out.mono ?_
  rintro e w3 ⟨v, rfl, D, k, ks, rfl, hL, T⟩
  have S3 := (S2.out.seq T).pick [0, 0, 1, 1, 1, 1] rfl
  have hlen : ks.length = L.length := by rw [← hL, List.length_map]
  replace hL := Lib.hid hL
  obtain ⟨m, hm⟩ : ∃ m, ks.length = m := ⟨_, rfl⟩
  have hm60 : m ≤ 60 := by omega
  have hkL : Hid (L.length = m) := by unfold Hid; omega
  rw [hm] at S3 ⊢
  clear S2 T htr b0 b1 hlen
  replace hm := Lib.hid hm
  by_cases hm0 : m = 0
  · have hmi : ¬ (0 : Int) < m := by omega
    replace hm0 := Lib.hid hm0
    have hm00 := hm0

    have e0 := S3.cell (i := 4) rfl (o := 0) rfl
    have e1 := S3.cell (i := 4) rfl (o := 1) rfl
    have r0 := S3.cell (i := 5) rfl (o := 0) rfl
    have r1 := S3.cell (i := 5) rfl (o := 1) rfl
    have f0 := S3.frozen (i := 5) rfl 0
    have f1 := S3.frozen (i := 5) rfl 1
    have SF := (S3.store (i := 5) rfl 0 (.int .i64 n)).store (i := 5) rfl 1 (.slice B xss.length cap)
    have j0 := SF.cell (i := 5) rfl (o := 0) rfl
    have j1 := SF.cell (i := 5) rfl (o := 1) rfl
    obtain ⟨F9, hrF, -, -⟩ := SF.rows_done (i := 3) rfl
    have hrowF := Ty.row_down hrF
    clear hrF
    have hBF := SF.below
    obtain ⟨_, _, eF, hdF⟩ := dgs_own (ks := ks) (by rw [hm.out]; exact SF.own (i := 0) rfl) (SF.ndpool_at (i := 1) rfl)
    rw [hm.out] at eF
    cases eF
    rw [hL.out] at hdF
    have hLm : Hid (m = L.length) := hkL.out.symm
    have hdF := Lib.hid (hdF)
    have hsF := Lib.hid ((small_of hsm.out fun d hd => hd))
    have hlF : Hid (_ ≤ 100) := (by unfold Hid; rw [← hLm.out]; omega : Hid (L.length ≤ 100))
    replace hrowF := Lib.hid hrowF
    replace hBF := Lib.hid hBF
    clear SF S3
    go_wp2_with fail
    exact bodyPost_ret (v := .tuple #[.agg #[.int .i64 n, .slice B xss.length cap], .slice D m k]) (by simp [results, Try.results21, go_sem, j0, j1]) rfl ⟨_, B, cap, xss, F9, _, _, _, by first | rfl | (rw [← hLm.out]) | (rw [← hLm.out, hm00.out]) | (rw [List.length_drop, ← hLm.out]) | (rw [hdrop.out, hm1.out]; rfl) | (rw [hel.out]), hv0, hv1, hl, HC.out, hrowF.out, hdF.out, hlF.out, hsF.out, hBF.out⟩
  obtain ⟨hi3, hk3⟩ := S3.cur (A' := 2002) (i := 2) rfl hc hs
  replace hk3 := Lib.hid hk3
  replace hi3 := Lib.hid hi3
  have hmi : (0 : Int) < m := by omega
  clear S3
  go_wp2_with fail
  refine (cur_one 3 _ (w.heap.size + 1) ca cl cc _ hi3.out (by omega) (by omega)).mono ?_
  rintro e w4 ⟨_, ⟨q, rfl⟩, rfl, hi4, hc4⟩
  have S4 := hk3.out w4 (hi4.mono (by omega)) hc4
  clear hk3 hi3 hi4 hc4
  cases q
  · skip
    have e0 := S4.cell (i := 4) rfl (o := 0) rfl
    have e1 := S4.cell (i := 4) rfl (o := 1) rfl
    have r0 := S4.cell (i := 5) rfl (o := 0) rfl
    have r1 := S4.cell (i := 5) rfl (o := 1) rfl
    have f0 := S4.frozen (i := 5) rfl 0
    have f1 := S4.frozen (i := 5) rfl 1
    have SF := (S4.store (i := 5) rfl 0 (.int .i64 n)).store (i := 5) rfl 1 (.slice B xss.length cap)
    have j0 := SF.cell (i := 5) rfl (o := 0) rfl
    have j1 := SF.cell (i := 5) rfl (o := 1) rfl
    obtain ⟨F9, hrF, -, -⟩ := SF.rows_done (i := 3) rfl
    have hrowF := Ty.row_down hrF
    clear hrF
    have hBF := SF.below
    obtain ⟨_, _, eF, hdF⟩ := dgs_own (ks := ks) (by rw [hm.out]; exact SF.own (i := 0) rfl) (SF.ndpool_at (i := 1) rfl)
    rw [hm.out] at eF
    cases eF
    rw [hL.out] at hdF
    have hLm : Hid (m = L.length) := hkL.out.symm
    have hdF := Lib.hid (hdF)
    have hsF := Lib.hid ((small_of hsm.out fun d hd => hd))
    have hlF : Hid (_ ≤ 100) := (by unfold Hid; rw [← hLm.out]; omega : Hid (L.length ≤ 100))
    replace hrowF := Lib.hid hrowF
    replace hBF := Lib.hid hBF
    clear SF S4
    go_wp2_with fail
    exact bodyPost_ret (v := .tuple #[.agg #[.int .i64 n, .slice B xss.length cap], .slice D m k]) (by simp [results, Try.results21, go_sem, j0, j1]) rfl ⟨_, B, cap, xss, F9, _, _, _, by first | rfl | (rw [← hLm.out]) | (rw [← hLm.out, hm00.out]) | (rw [List.length_drop, ← hLm.out]) | (rw [hdrop.out, hm1.out]; rfl) | (rw [hel.out]), hv0, hv1, hl, HC.out, hrowF.out, hdF.out, hlF.out, hsF.out, hBF.out⟩
  obtain ⟨hi5, hk5⟩ := S4.cur (A' := 2004) (i := 2) rfl hc hs
  replace hk5 := Lib.hid hk5
  replace hi5 := Lib.hid hi5
  clear S4
  go_wp2_with fail
  refine (cur_pick_at (lo := 0) (hi := 2) hi5.out (by omega) (by omega) (by omega) (by omega) (by omega)).mono ?_
  rintro e w5 ⟨_, ⟨x, hx0, hx1, rfl⟩, rfl, hi6, hc6⟩
  have S6 := hk5.out w5 (hi6.mono (by omega)) hc6
  clear hk5 hi5 hi6 hc6
  have hx3 : x = 0 ∨ x = 1 ∨ x = 2 := by omega
  clear hx0 hx1
  obtain ⟨gD, cap', cur', e1, -, -, hcapD, -⟩ := own_block (S6.own (i := 0) rfl) (by omega)
  cases e1
  clear cur'
  rcases hx3 with rfl | rfl | rfl
  · by_cases hk1 : k = 1
    · have hm1 : m = 1 := by omega
      have hdrop : L.drop 1 = [] := List.drop_eq_nil_of_le (by have := hkL.out; omega)
      replace hdrop := Lib.hid hdrop
      replace hm1 := Lib.hid hm1
      have e0 := S6.cell (i := 4) rfl (o := 0) rfl
      have e1 := S6.cell (i := 4) rfl (o := 1) rfl
      have r0 := S6.cell (i := 5) rfl (o := 0) rfl
      have r1 := S6.cell (i := 5) rfl (o := 1) rfl
      have f0 := S6.frozen (i := 5) rfl 0
      have f1 := S6.frozen (i := 5) rfl 1
      have SF := (S6.store (i := 5) rfl 0 (.int .i64 n)).store (i := 5) rfl 1 (.slice B xss.length cap)
      have j0 := SF.cell (i := 5) rfl (o := 0) rfl
      have j1 := SF.cell (i := 5) rfl (o := 1) rfl
      obtain ⟨F9, hrF, -, -⟩ := SF.rows_done (i := 3) rfl
      have hrowF := Ty.row_down hrF
      clear hrF
      have hBF := SF.below

      have hdF := Lib.hid ((show DgsAt _ _ (L.drop 1) from by rw [hdrop.out]; exact dgs_nil hBF (some ⟨gD, 0, none⟩)))
      have hsF := Lib.hid ((small_of (es := L.drop 1) hsm.out fun d hd => List.mem_of_mem_drop hd))
      have hlF : Hid (_ ≤ 100) := (by unfold Hid; rw [hdrop.out]; exact Nat.zero_le _ : Hid ((L.drop 1).length ≤ 100))
      replace hrowF := Lib.hid hrowF
      replace hBF := Lib.hid hBF
      clear SF S6
      go_wp2_with fail
      exact bodyPost_ret (v := .tuple #[.agg #[.int .i64 n, .slice B xss.length cap], .slice (some ⟨gD, 0, none⟩) (m - 1) 0]) (by simp [results, Try.results21, go_sem, j0, j1]) rfl ⟨_, B, cap, xss, F9, _, _, _, by first | rfl | (rw [← hLm.out]) | (rw [← hLm.out, hm00.out]) | (rw [List.length_drop, ← hLm.out]) | (rw [hdrop.out, hm1.out]; rfl) | (rw [hel.out]), hv0, hv1, hl, HC.out, hrowF.out, hdF.out, hlF.out, hsF.out, hBF.out⟩
    · have hcut : cutA (some ⟨gD, 0, none⟩) k 1 2 = some ⟨gD, 2, none⟩ := by
        unfold cutA
        rw [if_neg hk1]
        simp [add_none]
      have e0 := S6.cell (i := 4) rfl (o := 0) rfl
      have e1 := S6.cell (i := 4) rfl (o := 1) rfl
      have r0 := S6.cell (i := 5) rfl (o := 0) rfl
      have r1 := S6.cell (i := 5) rfl (o := 1) rfl
      have f0 := S6.frozen (i := 5) rfl 0
      have f1 := S6.frozen (i := 5) rfl 1
      have SF := (S6.store (i := 5) rfl 0 (.int .i64 n)).store (i := 5) rfl 1 (.slice B xss.length cap)
      have j0 := SF.cell (i := 5) rfl (o := 0) rfl
      have j1 := SF.cell (i := 5) rfl (o := 1) rfl
      obtain ⟨F9, hrF, -, -⟩ := SF.rows_done (i := 3) rfl
      have hrowF := Ty.row_down hrF
      clear hrF
      have hBF := SF.below
      obtain ⟨_, _, eF, hdF⟩ := dgs_own (ks := ks) (by rw [hm.out]; exact SF.own (i := 0) rfl) (SF.ndpool_at (i := 1) rfl)
      rw [hm.out] at eF
      cases eF
      rw [hL.out] at hdF
      have hLm : Hid (m = L.length) := hkL.out.symm
      replace hdF := hdF.from1 (cap := k) (by rw [← hLm.out]; exact hcapD)
      rw [hcut] at hdF
      have hdF := Lib.hid (hdF)
      have hsF := Lib.hid ((small_of (es := L.drop 1) hsm.out fun d hd => List.mem_of_mem_drop hd))
      have hlF : Hid (_ ≤ 100) := (by unfold Hid; rw [List.length_drop, ← hLm.out]; omega : Hid ((L.drop 1).length ≤ 100))
      replace hrowF := Lib.hid hrowF
      replace hBF := Lib.hid hBF
      clear SF S6
      go_wp2_with fail
      exact bodyPost_ret (v := .tuple #[.agg #[.int .i64 n, .slice B xss.length cap], .slice (some ⟨gD, 2, none⟩) (m - 1) (k - 1)]) (by simp [results, Try.results21, go_sem, j0, j1]) rfl ⟨_, B, cap, xss, F9, _, _, _, by first | rfl | (rw [← hLm.out]) | (rw [← hLm.out, hm00.out]) | (rw [List.length_drop, ← hLm.out]) | (rw [hdrop.out, hm1.out]; rfl) | (rw [hel.out]), hv0, hv1, hl, HC.out, hrowF.out, hdF.out, hlF.out, hsF.out, hBF.out⟩
  · obtain ⟨hi7, hk7⟩ := S6.cur (A' := 2006) (i := 2) rfl hc hs
    have hfb := S6.cell (i := 4) rfl (o := 0) rfl
    replace hk7 := Lib.hid hk7
    replace hi7 := Lib.hid hi7
    clear S6
    go_wp2_with fail
    refine wp_region_held_lit (S := (fun w' => w'.cell? ⟨w1.heap.size, 0, none⟩ = some (.int .i64 n))) 11 [false, false, false, false, false, false, false, false, false, false, false] (by kernel_rfl) (by kernel_rfl) (by kernel_rfl) ?_ ?_
    · exact hfb
    intro hSc
    (refine wpAnyH_take (i := 0) (v := ?_) rfl (by kernel_rfl) (by kernel_rfl) (by kernel_rfl) (fun _ _ _ h => h) (Or.inl ⟨by rfl, ?_⟩) (by assumption) ?_; rotate_left; (focus (intro w hSw; (try dsimp only at hSw); go_simp; (try with_reducible rfl); done)); (try simp only [put_rules]))
    (refine wpAnyH_take (i := 1) (v := ?_) rfl (by kernel_rfl) (by kernel_rfl) (by kernel_rfl) (fun _ _ _ h => h) (Or.inl ⟨by rfl, ?_⟩) (by assumption) ?_; rotate_left; (focus (intro w hSw; (try dsimp only at hSw); go_simp; (try with_reducible rfl); done)); (try simp only [put_rules]))
    (refine wpAnyH_take (i := 2) (v := ?_) rfl (by kernel_rfl) (by kernel_rfl) (by kernel_rfl) (fun _ _ _ h => h) (Or.inl ⟨by rfl, ?_⟩) (by assumption) ?_; rotate_left; (focus (intro w hSw; (try dsimp only at hSw); go_simp; (try with_reducible rfl); done)); (try simp only [put_rules]))
    (refine wpAnyH_take (i := 3) (v := ?_) rfl (by kernel_rfl) (by kernel_rfl) (by kernel_rfl) (fun _ _ _ h => h) (Or.inl ⟨by rfl, ?_⟩) (by assumption) ?_; rotate_left; (focus (intro w hSw; (try dsimp only at hSw); go_simp; (try with_reducible rfl); done)); (try simp only [put_rules]))
    (refine wpAnyH_take (i := 5) (v := ?_) rfl (by kernel_rfl) (by kernel_rfl) (by kernel_rfl) (fun _ _ _ h => h) (Or.inl ⟨by rfl, ?_⟩) (by assumption) ?_; rotate_left; (focus (intro w hSw; (try dsimp only at hSw); go_simp; (try with_reducible rfl); done)); (try simp only [put_rules]))
    (refine wpAnyH_take (i := 6) (v := ?_) rfl (by kernel_rfl) (by kernel_rfl) (by kernel_rfl) (fun _ _ _ h => h) (Or.inl ⟨by rfl, ?_⟩) (by assumption) ?_; rotate_left; (focus (intro w hSw; (try dsimp only at hSw); go_simp; (try with_reducible rfl); done)); (try simp only [put_rules]))
    (refine wpAnyH_take (i := 7) (v := ?_) rfl (by kernel_rfl) (by kernel_rfl) (by kernel_rfl) (fun _ _ _ h => h) (Or.inl ⟨by rfl, ?_⟩) (by assumption) ?_; rotate_left; (focus (intro w hSw; (try dsimp only at hSw); go_simp; (try with_reducible rfl); done)); (try simp only [put_rules]))
    (refine wpAnyH_ready (rs := [4]) (by kernel_rfl) (by simp) ?_; refine AllReadyH.cons rfl (fun K hK => ?_) AllReadyH.nil)
    go_simp
    go_at_call 77
    refine (cur_pick_at (lo := 0) (hi := (m : Int) - 1) (hi7.out.grow (bdr (bb _))) (by omega) (by omega) (by omega) (by omega) (by omega)).mono ?_
    rintro e w7 ⟨_, ⟨x, hx0, hx1, rfl⟩, rfl, hi8, hc8⟩
    replace hcapD := Lib.hid hcapD
    obtain ⟨j, rfl⟩ := Int.eq_ofNat_of_zero_le hx0
    have hjm : j < m := by omega
    have S8 := hk7.out w7 (hi8.mono (by omega)) (Chg.trans (Chg.of_below (bdr (bb _))) hc8)
    clear hk7 hi7 hi8 hc8 hx0 hx1
    obtain ⟨hi9, hk9⟩ := S8.cur (A' := 4000) (i := 2) rfl hc hs
    have hs8 := hi9.lt
    have hgx : gD < w7.heap.size := owns_lt (S8.own (i := 0) rfl) rfl
    replace hk9 := Lib.hid hk9
    replace hi9 := Lib.hid hi9
    have hfb8 := S8.cell (i := 4) rfl (o := 0) rfl
    have hji : (j : Int) < m := by omega
    clear S8
    go_wp2_with fail
    refine hK.out _ _ hfb8 (fun hSd => ?_)
    clear hK hSc
    (try simp only [put_rules])
    (refine wpAnyH_ready (rs := [8]) (by kernel_rfl) (by simp) ?_; refine AllReadyH.cons rfl (fun K hK => ?_) AllReadyH.nil)
    go_simp
    go_at_call 78
    refine (cur_diagram (n : Int) (by omega) _ (w.heap.size + 1) ca cl cc _ hi9.out (by omega)).mono ?_
    rintro e w8 ⟨r, nn, Bn, cn, rfl, hr, hnl, hNn, hfr, hiA, hcA⟩
    have S9 := hk9.out w8 (hiA.mono (by omega)) hcA
    have hlr := (S9.box (i := 5) rfl).2.1
    have hfb9 := S9.cell (i := 4) rfl (o := 0) rfl
    have hneR : Hid (∀ a, Bn = some a → a.block ≠ w.heap.size) := fun a ha => by have := hfr a ha; omega
    have hneG : Hid (∀ a, Bn = some a → a.block ≠ gD) := fun a ha => by have := hfr a ha; omega
    replace hNn := Lib.hid hNn
    obtain ⟨gy, cap9, cur9, e9, -, hh9, -, -, -, ht9⟩ := own_block (S9.own (i := 0) rfl) (by omega)
    cases e9
    have hflen : (ks.flatMap dkEnc).length = m * 2 := (S9.own (i := 0) rfl).1
    have p0 := (own_at hh9 ht9 (o := j * 2) (by omega)).1
    have q0 := (own_at hh9 ht9 (o := j * 2) (by omega)).2
    have p1 := (own_at hh9 ht9 (o := j * 2 + 1) (by omega)).1
    have q1 := (own_at hh9 ht9 (o := j * 2 + 1) (by omega)).2
    rw [List.getElem?_eq_getElem (by omega)] at p0 p1
    have T0 := S9.own_put (i := 0) rfl (.int .i64 r) (o := j * 2) (by omega)
    have T1 := T0.own_put (i := 0) rfl (.slice Bn nn.length cn) (o := j * 2 + 1) (by omega)
    (try simp only [List.set_cons_zero] at T1)
    rw [dk_set r (.slice Bn nn.length cn) nn ks j (by rw [hm.out]; exact hjm)] at T1
    have hfbT := T1.cell (i := 4) rfl (o := 0) rfl
    generalize hu0 : (ks.flatMap dkEnc)[j * 2]'_ = u0 at p0
    generalize hu1 : (ks.flatMap dkEnc)[j * 2 + 1]'_ = u1 at p1
    replace T1 := Lib.hid T1
    clear hu0 hu1 T0 S9 hk9 hi9 hiA hcA hh9 ht9 hflen hfr
    go_wp2_with fail
    refine hK.out _ _ hfb9 (fun hSe => ?_)
    clear hK hSd
    (try simp only [put_rules])
    (refine wpAnyH_take (i := 9) (v := ?_) rfl (by kernel_rfl) (by kernel_rfl) (by kernel_rfl) (fun _ _ _ h => h) (Or.inl ⟨by rfl, ?_⟩) (by assumption) ?_; rotate_left; (focus (intro w hSw; (try dsimp only at hSw); go_simp; (try with_reducible rfl); done)); (try simp only [put_rules]))
    (refine wpAnyH_ready (rs := [10]) (by kernel_rfl) (by simp) ?_; refine AllReadyH.cons rfl (fun K hK => ?_) AllReadyH.nil)
    go_simp
    refine hK.out _ _ hfbT (fun hSf => ?_)
    clear hK hSe p0 p1 q0 q1 hfb9
    (try simp only [put_rules])
    (refine wpAnyH_done (by kernel_rfl) ?_ _)
    have hel : Hid (((ks.set j (⟨r, .slice Bn nn.length cn, nn⟩ : Dk)).map Dk.d).length = m) := by unfold Hid; rw [List.length_map, List.length_set, hm.out]
    have hkd : Hid (∀ d ∈ (ks.set j (⟨r, .slice Bn nn.length cn, nn⟩ : Dk)).map Dk.d, d.2.length ≤ 64) := by
      intro d hd
      obtain ⟨q, hq, rfl⟩ := List.mem_map.1 hd
      rcases List.mem_or_eq_of_mem_set hq with h | h
      · have := hsm.out (Dk.d q) (by rw [← hL.out]; exact List.mem_map.2 ⟨q, h, rfl⟩)
        omega
      · subst h; exact hnl
    have T1o := T1.out
    clear T1
    have e0 := T1o.cell (i := 4) rfl (o := 0) rfl
    have e1 := T1o.cell (i := 4) rfl (o := 1) rfl
    have r0 := T1o.cell (i := 5) rfl (o := 0) rfl
    have r1 := T1o.cell (i := 5) rfl (o := 1) rfl
    have f0 := T1o.frozen (i := 5) rfl 0
    have f1 := T1o.frozen (i := 5) rfl 1
    have SF := (T1o.store (i := 5) rfl 0 (.int .i64 n)).store (i := 5) rfl 1 (.slice B xss.length cap)
    have j0 := SF.cell (i := 5) rfl (o := 0) rfl
    have j1 := SF.cell (i := 5) rfl (o := 1) rfl
    obtain ⟨F9, hrF, -, -⟩ := SF.rows_done (i := 3) rfl
    have hrowF := Ty.row_down hrF
    clear hrF
    have hBF := SF.below
    have hNf := (((hNn.out.set hneG.out (j * 2) (.int .i64 r)).set hneG.out (j * 2 + 1) (.slice Bn nn.length cn)).set hneR.out 0 (.int .i64 n)).set hneR.out 1 (.slice B xss.length cap)
    obtain ⟨_, _, eF, hdF⟩ := dgs_own (ks := ks.set j (⟨r, .slice Bn nn.length cn, nn⟩ : Dk)) (by rw [List.length_set, hm.out]; exact SF.own (i := 0) rfl) (fun q hq => by
      rcases List.mem_or_eq_of_mem_set hq with h | h
      · exact SF.ndpool_at (i := 1) rfl q h
      · subst h; exact ⟨Bn, cn, rfl, hNf⟩)
    rw [List.length_set, hm.out] at eF
    cases eF
    clear hNf
    have hdF := Lib.hid (hdF)
    have hsF := Lib.hid (hkd.out)
    have hlF : Hid (_ ≤ 100) := (by unfold Hid; rw [hel.out]; omega : Hid (((ks.set j (⟨r, .slice Bn nn.length cn, nn⟩ : Dk)).map Dk.d).length ≤ 100))
    replace hrowF := Lib.hid hrowF
    replace hBF := Lib.hid hBF
    clear SF T1o
    go_wp2_with fail
    exact bodyPost_ret (v := .tuple #[.agg #[.int .i64 n, .slice B xss.length cap], .slice (some ⟨gD, 0, none⟩) m k]) (by simp [results, Try.results21, go_sem, j0, j1]) rfl ⟨_, B, cap, xss, F9, _, _, _, by first | rfl | (rw [← hLm.out]) | (rw [← hLm.out, hm00.out]) | (rw [List.length_drop, ← hLm.out]) | (rw [hdrop.out, hm1.out]; rfl) | (rw [hel.out]), hv0, hv1, hl, HC.out, hrowF.out, hdF.out, hlF.out, hsF.out, hBF.out⟩
  · obtain ⟨d0, ks', rfl⟩ : ∃ d0 ks', ks = d0 :: ks' := by
      cases ks with
      | nil => have := hm.out; simp at this; omega
      | cons d ks => exact ⟨d, ks, rfl⟩
    obtain ⟨r, v, nn⟩ := d0
    obtain ⟨Av, cv, ev, -⟩ := S6.ndpool_at (i := 1) rfl _ List.mem_cons_self
    dsimp only at ev
    subst ev
    obtain ⟨gy, cap9, cur9, e9, -, hh9, -, -, -, ht9⟩ := own_block (S6.own (i := 0) rfl) (by omega)
    cases e9
    have p0 := (own_at hh9 ht9 (o := 0) (by omega)).1
    have p1 := (own_at hh9 ht9 (o := 1) (by omega)).1
    rw [List.flatMap_cons] at p0 p1
    simp only [dkEnc, List.cons_append, List.getElem?_cons_zero, List.getElem?_cons_succ] at p0 p1
    have S7 := S6.alloc_box #[.int .i64 r, .slice Av nn.length cv] 34
    have k0 := S7.cell (i := 0) rfl (o := 0) rfl
    have k1 := S7.cell (i := 0) rfl (o := 1) rfl
    replace S7 := Lib.hid S7
    replace hcapD := Lib.hid hcapD
    clear S6 hh9 ht9 cur9
    go_wp2_with (at_builtin; refine wpList_append_src rfl _ _ rfl Try.underlying28 hi0 hz0 hz1 hz2 rfl (by decide) _ m _ rfl (S7.out.own (i := 1) rfl) _ 1 1 [.int .i64 r, .slice Av nn.length cv] rfl (Src.pair k0 k1) (by simp [Value.oneCell']) ?c3 ?c4 ?_)
    case c3 => unfold maxLen; omega
    case c4 => omega
    intro vE wE hownE hgE hatE
    have S8 := (S7.out.own_push (i := 1) rfl (bb _) hownE hgE (by simpa using hatE)).tail
    obtain ⟨aE, cE, rfl⟩ := own_slice hownE
    have hfl : dkEnc ⟨r, .slice Av nn.length cv, nn⟩ ++ (ks'.flatMap dkEnc ++ [.int .i64 r, .slice Av nn.length cv]) = ((⟨r, .slice Av nn.length cv, nn⟩ :: ks') ++ [(⟨r, .slice Av nn.length cv, nn⟩ : Dk)]).flatMap dkEnc := by simp [dkEnc]
    simp only [List.set_cons_zero, List.set_cons_succ] at S8
    rw [hfl] at S8
    have hel : Hid (((((⟨r, .slice Av nn.length cv, nn⟩ :: ks') ++ [(⟨r, .slice Av nn.length cv, nn⟩ : Dk)])).map Dk.d).length = m + 1) := by unfold Hid; rw [List.length_map, List.length_append, hm.out]; rfl
    have hkd : Hid (∀ d ∈ (((⟨r, .slice Av nn.length cv, nn⟩ :: ks') ++ [(⟨r, .slice Av nn.length cv, nn⟩ : Dk)])).map Dk.d, d.2.length ≤ 64) := by
      intro d hd
      obtain ⟨q, hq, rfl⟩ := List.mem_map.1 hd
      have hq2 : q ∈ (⟨r, .slice Av nn.length cv, nn⟩ :: ks' : List Dk) := by
        rcases List.mem_append.1 hq with h | h
        · exact h
        · rw [List.mem_singleton.1 h]; exact List.mem_cons_self
      have := hsm.out (Dk.d q) (by rw [← hL.out]; exact List.mem_map.2 ⟨q, hq2, rfl⟩)
      omega
    clear S7 k0 k1 hownE hgE hatE p0 p1 hfl
    have e0 := S8.cell (i := 4) rfl (o := 0) rfl
    have e1 := S8.cell (i := 4) rfl (o := 1) rfl
    have r0 := S8.cell (i := 5) rfl (o := 0) rfl
    have r1 := S8.cell (i := 5) rfl (o := 1) rfl
    have f0 := S8.frozen (i := 5) rfl 0
    have f1 := S8.frozen (i := 5) rfl 1
    have SF := (S8.store (i := 5) rfl 0 (.int .i64 n)).store (i := 5) rfl 1 (.slice B xss.length cap)
    have j0 := SF.cell (i := 5) rfl (o := 0) rfl
    have j1 := SF.cell (i := 5) rfl (o := 1) rfl
    obtain ⟨F9, hrF, -, -⟩ := SF.rows_done (i := 3) rfl
    have hrowF := Ty.row_down hrF
    clear hrF
    have hBF := SF.below
    obtain ⟨_, _, eF, hdF⟩ := dgs_own (ks := (⟨r, .slice Av nn.length cv, nn⟩ :: ks') ++ [(⟨r, .slice Av nn.length cv, nn⟩ : Dk)]) (by rw [List.length_append, hm.out]; exact SF.own (i := 0) rfl) (fun q hq => SF.ndpool_at (i := 1) rfl q (by
      rcases List.mem_append.1 hq with h | h
      · exact h
      · rw [List.mem_singleton.1 h]; exact List.mem_cons_self))
    rw [List.length_append, hm.out] at eF
    cases eF
    have hdF := Lib.hid (hdF)
    have hsF := Lib.hid (hkd.out)
    have hlF : Hid (_ ≤ 100) := (by unfold Hid; rw [hel.out]; omega : Hid ((((⟨r, .slice Av nn.length cv, nn⟩ :: ks') ++ [(⟨r, .slice Av nn.length cv, nn⟩ : Dk)]).map Dk.d).length ≤ 100))
    replace hrowF := Lib.hid hrowF
    replace hBF := Lib.hid hBF
    clear SF S8
    go_wp2_with fail
    exact bodyPost_ret (v := .tuple #[.agg #[.int .i64 n, .slice B xss.length cap], .slice aE (m + 1) cE]) (by simp [results, Try.results21, go_sem, j0, j1]) rfl ⟨_, B, cap, xss, F9, _, _, _, by first | rfl | (rw [← hLm.out]) | (rw [← hLm.out, hm00.out]) | (rw [List.length_drop, ← hLm.out]) | (rw [hdrop.out, hm1.out]; rfl) | (rw [hel.out]), hv0, hv1, hl, HC.out, hrowF.out, hdF.out, hlF.out, hsF.out, hBF.out⟩
end Go.Proofs.Ytbemodacpimiiaa

/- Contracts: the inputs of the law of diagrams, drawn. -/
namespace Go.Proofs.Ytbemodacpimiiaa
open Go.RowKit

theorem NdAt.chg {F : List Nat} {w w' : World} {A : Option Addr} {ns : List Nd} (h : NdAt w A ns) (hc : Chg F w w') (hF : ∀ a, A = some a → a.block ∉ F) : NdAt w' A ns := by
  refine ⟨fun j hj => ?_, h.ok⟩
  obtain ⟨b, off, e, h1, h2, h3⟩ := h.at_ j hj
  have hb := hF _ e
  exact ⟨b, off, e, hc.cell h1 hb, hc.cell h2 hb, hc.cell h3 hb⟩
section
variable {w0 w W : World} {ps : List Asn} {g cl cc : Nat} {ca : Option Addr}
theorem Sp.alloc_cur (h : Sp w0 w ps) (ca : Option Addr) (cl cc : Nat) : Sp w0 (w.alloc (.cells #[.slice ca cl cc, .int .i64 0, .int .u64 0] 98)) (CurA 0 w.heap.size ca cl cc :: ps) :=
  h.new (bal (bb _) _) (F := [w.heap.size]) ⟨rfl, 0, 0, heap_alloc_new w _, Nat.le_refl 0, Int.le_refl 0, by omega⟩ (by simp)

end

/- left out: the seat has no spec.DrawAndDiagrams -/

/- left out: the seat has no spec.DrawForgetInDiagram -/

/- left out: the seat has no spec.DrawSetInDiagram -/
end Go.Proofs.Ytbemodacpimiiaa

/- The law of diagrams, in plain terms; contracts that the walk of the law calls. -/
namespace Go.Proofs.Ytbemodacpimiiaa
open Go.RowKit

theorem deM_law {n : Nat} (f g : Nat → Bool) :
    dgN n (fun b => valD (dgR n fun b => !f b) (dgN n fun b => !f b) b || valD (dgR n fun b => !g b) (dgN n fun b => !g b) b) = dgN n (fun b => !(valD (dgR n fun b => f b && g b) (dgN n fun b => f b && g b) b)) ∧
    dgR n (fun b => valD (dgR n fun b => !f b) (dgN n fun b => !f b) b || valD (dgR n fun b => !g b) (dgN n fun b => !g b) b) = dgR n (fun b => !(valD (dgR n fun b => f b && g b) (dgN n fun b => f b && g b) b)) :=
  dg_congr fun b hb => by rw [dg_val hb, dg_val hb, dg_val hb, Bool.not_and]
theorem cnt_law {n : Nat} (f g : Nat → Bool) :
    cntB n f + cntB n g = cntB n (valD (dgR n fun b => f b && g b) (dgN n fun b => f b && g b)) + cntB n (valD (dgR n fun b => f b || g b) (dgN n fun b => f b || g b)) := by
  rw [cnt_and_or n f g]
  congr 1
  · exact cnt_congr fun b hb => (dg_val (f := fun b => f b && g b) hb).symm
  · exact cnt_congr fun b hb => (dg_val (f := fun b => f b || g b) hb).symm
theorem forget_law {n : Nat} (f g : Nat → Bool) :
    dgN n (fun b => valD (dgR n f) (dgN n f) b || valD (dgR n g) (dgN n g) b) = dgN n (fun b => f b || g b) ∧ dgR n (fun b => valD (dgR n f) (dgN n f) b || valD (dgR n g) (dgN n g) b) = dgR n (fun b => f b || g b) :=
  dg_congr fun b hb => by rw [dg_val hb, dg_val hb]
theorem cnt_small {n : Nat} (hn : n ≤ 6) (f : Nat → Bool) : cntB n f ≤ 64 := by
  have h := cntK_le (2 ^ n) f
  have := (pow_small hn).2
  exact Nat.le_trans h this

/-- A diagram and true. -/
def DgYes (w : World) (r : Int) (ns : List Nd) (e : Ending) (w' : World) : Prop := ∃ A c, e = .returned (.tuple #[dgV r (.slice A ns.length c), .bool true]) ∧ NdAt w' A ns ∧ Below w.heap.size w w'
theorem DgTold.yes {w : World} {ok : Bool} {n : Nat} {f : Nat → Bool} {e : Ending} {w' : World} (h : DgTold w ok (outR ok n f) (outN ok n f) e w') (hok : ok = true) : DgYes w (dgR n f) (dgN n f) e w' := by
  subst hok
  obtain ⟨A, c, h1, h2, _, h4⟩ := h
  exact ⟨A, c, h1, h2, h4⟩
section
variable {n : Nat}

/- left out: the seat has no impl.NotDiagram -/

/- left out: the seat has no impl.OrDiagrams -/

/- left out: the seat has no impl.SetInDiagram -/

/- left out: the seat has no impl.CountInDiagram -/

end

theorem vBig_any (ca : Option Addr) (cl cc : Nat) (w : World) : Calls Try.prog 7 #[.slice ca cl cc] w fun e w' => e = .returned (.bool (decide ((65536 : Int) < (cl : Int)))) ∧ w' = w := by
  go_enter Try.func7, Try.ntmps7
  go_wp2_with fail
  go_ret
  exact ⟨rfl, rfl⟩

theorem out_len (ok : Bool) {vars : Int} (hv : vars ≤ 7) (f : Nat → Bool) : (outN ok vars f).length ≤ 1000 := by
  unfold outN
  split
  · have h1 := plan_len f vars.toNat 1 0 []
    have h2 : 2 ^ vars.toNat ≤ 2 ^ 7 := Nat.pow_le_pow_right (by decide) (by omega)
    unfold dgN
    simp only [List.length_nil] at h1
    omega
  · simp
end Go.Proofs.Ytbemodacpimiiaa

/- Rows of bytes, read from the form's arguments. No program in sight. -/
namespace Go.Proofs.Ytbemodacpimiiaa
open Go.RowKit Go.Deep

def U8 (n : Int) : Prop := 0 ≤ n ∧ n ≤ 255
def Ty.byte : Ty Int where
  size := 1
  rep _ _ cs n F := cs = [.int .u8 n] ∧ U8 n ∧ F = []
  len h := by obtain ⟨rfl, _, _⟩ := h; rfl
  lt h := by obtain ⟨_, _, rfl⟩ := h; simp
  keep h _ := h
  down h := h
theorem Opens.byte {P : Program} {t : TypeId} (ht : P.underlying t = some (.int .u8)) : Opens P t Ty.byte := by
  intro H enc w spare held fuel cs y h
  obtain ⟨n, rfl, _, hw⟩ := DataW.trod_int ht h
  have hb : 0 ≤ n ∧ n ≤ 255 := by
    simp [Lit.wf, IntKind.min, IntKind.max, IntKind.signed, IntKind.bits] at hw
    omega
  exact ⟨n, [], rfl, hb, rfl⟩
theorem Ty.all_byte_inv {wr : Bool} {w : World} : ∀ {cs : List Value} {xs : List Int} {F : List Nat}, Ty.byte.all wr w cs xs F → cs = xs.map (.int .u8) ∧ F = [] ∧ ∀ x ∈ xs, U8 x
  | _, [], _, h => ⟨h.1, h.2, by simp⟩
  | _, x :: xs, _, h => by
    obtain ⟨c, d, F1, F2, rfl, rfl, ⟨rfl, hx, rfl⟩, h2⟩ := h
    obtain ⟨rfl, rfl, h3⟩ := Ty.all_byte_inv h2
    exact ⟨rfl, rfl, fun y hy => by rcases List.mem_cons.1 hy with rfl | hy; exact hx; exact h3 y hy⟩
/-- A row of bytes: its slice and its cells. -/
theorem row_byte {wr : Bool} {w : World} {v : Value} {xs : List Int} {F : List Nat} (h : Ty.byte.row wr w v xs F) :
    ∃ a cap, v = .slice a xs.length cap ∧ ∀ j, j < xs.length → ∃ cb off x, a = some ⟨cb, off, none⟩ ∧ w.cell? ⟨cb, off + j, none⟩ = some (.int .u8 x) ∧ 0 ≤ x ∧ x ≤ 255 := by
  obtain ⟨a, cap, cs, G, rfl, h1, h2, hall, h⟩ := h
  obtain ⟨rfl, rfl, hi⟩ := Ty.all_byte_inv hall
  refine ⟨a, cap, rfl, fun j hj => ?_⟩
  rcases h with ⟨rfl, _⟩ | ⟨_, hne, b, off, rfl, rfl, hc⟩
  · simp at hj
  · have := hc j (by simpa using hj)
    have hx := hi xs[j] (List.getElem_mem hj)
    exact ⟨b, off, xs[j], rfl, by have h3 := this.1; simpa using h3, hx.1, hx.2⟩
end Go.Proofs.Ytbemodacpimiiaa

/- Helpers for the walk of FnDiagramTraces. -/
namespace Go.Proofs.Ytbemodacpimiiaa
open Go.RowKit

theorem TrTold.at {w : World} {ok : Bool} {L : List (Int × List Nd)} {e : Ending} {w' : World} (h : TrTold w ok L e w') : ∃ A c, e = .returned (.tuple #[.slice A L.length c, .bool ok]) ∧ DgsAt w' A L ∧ Below w.heap.size w w' := by
  obtain ⟨B, c, ks, rfl, hL, S⟩ := h
  obtain ⟨_, _, e2, hD⟩ := dgs_own (S.own (i := 0) rfl) (S.ndpool_at (i := 1) rfl)
  cases e2
  have hlen : ks.length = L.length := by rw [← hL, List.length_map]
  rw [hL] at hD
  exact ⟨B, c, by rw [hlen], hD, S.below⟩
theorem out_small {ok : Bool} {vars : Int} {xss : List (List Int)} (h : dCnf vars xss = ok) : (outL ok vars xss).length ≤ 60 ∧ ∀ d ∈ outL ok vars xss, d.2.length ≤ 63 := by
  cases ok
  · exact ⟨Nat.zero_le _, fun d hd => by cases hd⟩
  · unfold dCnf at h
    rw [Bool.and_eq_true, inB_def] at h
    have hg := good_cnf h.2
    refine ⟨?_, ?_⟩
    · show (trL vars.toNat xss xss.length).length ≤ 60
      rw [trL_len]; exact hg.2.1
    · exact tr_small (by omega) xss _
set_option maxHeartbeats 1000000 in
theorem vAtD_any (ca : Option Addr) (cl cc : Nat) (i : Nat) (w : World) (hc : CodeOk w ca cl) (hs : cl ≤ 65536) (hi : i ≤ 1000) :
    Calls Try.prog 15 #[.slice ca cl cc, .int .i64 i] w fun e w' => ∃ x : Int, 0 ≤ x ∧ x ≤ 255 ∧ e = .returned (.int .i64 x) ∧ w = w' := by
  by_cases h : i < cl
  · obtain ⟨cb, off, x, rfl, hcell, hx0, hx1⟩ := hc i h
    have h' : (i : Int) < (cl : Int) := by omega
    clear hc
    go_enter Try.func15, Try.ntmps15
    go_wp2_with fail
    go_ret
    exact ⟨x, hx0, hx1, by first | rfl | (congr 2; omega), rfl⟩
  · have h' : ¬ (i : Int) < (cl : Int) := by omega
    clear hc
    go_enter Try.func15, Try.ntmps15
    go_wp2_with fail
    go_ret
    exact ⟨_, by omega, by omega, rfl, rfl⟩

/-- A clause of a Cnf, with its row. -/
theorem cnf_clause {w : World} {B : Option Addr} {cap : Nat} {xss : List (List Int)} {F : List Nat} (h : (Ty.slice Ty.int).row false w (.slice B xss.length cap) xss F) {j : Nat} (hj : j < xss.length) :
    ∃ b off D dc G, B = some ⟨b, off, none⟩ ∧ w.cell? ⟨b, off + j, none⟩ = some (.slice D xss[j].length dc) ∧ Ty.int.row false w (.slice D xss[j].length dc) xss[j] G := by
  obtain ⟨a, cap, e, _, _, h3⟩ := row_slices h
  cases e
  rcases h3 with ⟨rfl, _⟩ | ⟨_, b, off, rfl, _, hc⟩
  · exact absurd hj (by simp)
  · obtain ⟨u, Fk, hu, hr, _⟩ := hc j hj
    obtain ⟨D, dc, rfl, -⟩ := ints_row hr
    exact ⟨b, off, D, dc, Fk, rfl, hu.1, hr⟩
/-- A diagram of the call's own, and true. -/
def DgNew (w : World) (r : Int) (ns : List Nd) (e : Ending) (w' : World) : Prop := ∃ A c, e = .returned (.tuple #[dgV r (.slice A ns.length c), .bool true]) ∧ NdAt w' A ns ∧ (∀ a, A = some a → w.heap.size ≤ a.block) ∧ Below w.heap.size w w'
theorem DgTold.new {w : World} {ok : Bool} {n : Nat} {f : Nat → Bool} {e : Ending} {w' : World} (h : DgTold w ok (outR ok n f) (outN ok n f) e w') (hok : ok = true) : DgNew w (dgR n f) (dgN n f) e w' := by
  subst hok
  obtain ⟨A, c, h1, h2, h3, h4⟩ := h
  exact ⟨A, c, h1, h2, h3, h4⟩
section
variable {n j : Nat} {xss : List (List Int)}
theorem dcl_step (hn : n ≤ 6) (hg : goodB n xss = true) (hj : j < xss.length) (D : Option Addr) (dc : Nat) (G : List Nat) (w : World) (hx : Ty.int.row false w (.slice D xss[j].length dc) xss[j] G) :
    Calls Try.prog 16 #[.int .i64 n, .slice D xss[j].length dc] w (DgNew w (dgR n (clT xss[j])) (dgN n (clT xss[j]))) :=
  (diagramOfClause_any n xss[j] D dc G w hx).mono fun e w' h => h.new (by
    rw [(good_cnf hg).2.2.1 _ (List.getElem_mem hj), Bool.and_true, inB_def]
    omega)
theorem dand_step (hn : n ≤ 6) (hj : j < xss.length) (A A' : Option Addr) (c c' : Nat) (w : World) (hx : NdAt w A (dgN n (modT (xss.take j)))) (hy : NdAt w A' (dgN n (clT xss[j]))) :
    Calls Try.prog 17 #[.int .i64 n, dgV (dgR n (modT (xss.take j))) (.slice A (dgN n (modT (xss.take j))).length c), dgV (dgR n (clT xss[j])) (.slice A' (dgN n (clT xss[j])).length c')] w (DgNew w (dgR n (modT (xss.take (j + 1)))) (dgN n (modT (xss.take (j + 1))))) :=
  (andD_any n _ _ A A' c c' _ _ w hx hy (by have := dg_len (modT (xss.take j)) hn; omega) (by have := dg_len (clT xss[j]) hn; omega)).mono fun e w' h => by
    obtain ⟨h1, h2⟩ := trace_next (n := n) hj
    rw [← h1, ← h2]
    exact h.new (by rw [dg_good _ hn, dg_good _ hn]; rfl)
theorem dall_step (hn : n ≤ 6) (hg : goodB n xss = true) (v : Value) (F : List Nat) (w : World) (hx : (Ty.slice Ty.int).row false w v xss F) :
    Calls Try.prog 18 #[.agg #[.int .i64 n, v]] w (DgNew w (dgR n (modT xss)) (dgN n (modT xss))) :=
  (diagramOfCnf_any n v xss F w hx).mono fun e w' h => h.new (by unfold dCnf; rw [hg, Bool.and_true, inB_def]; omega)
theorem dis_step (hn : n ≤ 6) (hg : goodB n xss = true) (v : Value) (F : List Nat) (A : Option Addr) (c : Nat) (w : World) (hx : (Ty.slice Ty.int).row false w v xss F) (hy : DgsAt w A (trL n xss xss.length)) :
    Calls Try.prog 19 #[.agg #[.int .i64 n, v], .slice A (trL n xss xss.length).length c] w fun e w' => e = .returned (.tuple #[.bool true, .bool true]) ∧ Below w.heap.size w w' :=
  (isConjTrace_any n v xss F A c _ w hx hy (by rw [trL_len]; have := (good_cnf hg).2.1; omega) (fun d hd => by have := tr_small hn xss _ d hd; omega)).mono fun e w' h => by
    have hd : dCnf n xss = true := by unfold dCnf; rw [hg, Bool.and_true, inB_def]; omega
    rw [hd] at h
    have e1 : outL true (n : Int) xss = trL n xss xss.length := rfl
    rw [e1, decide_eq_true rfl] at h
    exact h
theorem dsat_step (hg : goodB n xss = true) (v : Value) (F : List Nat) (w : World) (hx : (Ty.slice Ty.int).row false w v xss F) :
    Calls Try.prog 20 #[.agg #[.int .i64 n, v]] w fun e w' => e = .returned (.tuple #[.bool !(dgR n (modT xss) == 0), .bool true]) ∧ Below w.heap.size w w' :=
  (isSatisfiable_any n v xss F w hx).mono fun e w' h => by
    rw [hg, Bool.true_and] at h
    rw [dg_zero_lit, Bool.not_not]
    exact h
theorem first_eq (h : 0 < xss.length) : dgN n (clT xss[0]) = dgN n (modT (xss.take 1)) ∧ dgR n (clT xss[0]) = dgR n (modT (xss.take 1)) := by
  obtain ⟨h1, h2⟩ := trace_first (n := n) h
  exact ⟨h1.symm, h2.symm⟩
theorem last_eq (h : 0 < xss.length) : trT n xss (xss.length - 1) = (dgR n (modT xss), dgN n (modT xss)) := by
  unfold trT
  rw [show xss.length - 1 + 1 = xss.length by omega, List.take_length]
end

end Go.Proofs.Ytbemodacpimiiaa
