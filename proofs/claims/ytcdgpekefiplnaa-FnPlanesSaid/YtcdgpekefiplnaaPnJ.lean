/- Contracts: PlaneOfClause in the program and the reference, CountCnfModels in the program. -/
import Derived.Test.YtcdgpekefiplnaaPnI
namespace Go.Proofs.Ytcdgpekefiplnaa
open Go.RowKit

set_option maxRecDepth 100000 in
set_option maxHeartbeats 4000000 in
theorem planeOfClause_any (vars : Int) (c : List Int) (A : Option Addr) (cap : Nat) (F : List Nat) (w : World) (hx : Ty.int.row false w (.slice A c.length cap) c F) :
    Calls Try.prog 17 #[.int .i64 vars, .slice A c.length cap] w (GPost w (clauseB vars c) (clQ vars.toNat c).2 (clQ vars.toNat c).1) := by
  obtain ⟨A', cap', e, hI0⟩ := ints_row hx
  cases e
  have S0 := (Sp.start w).alloc_box #[.slice none 0 0, .int .i64 0] 26
  have h1 := Lib.hid (implIsClause_any vars _ c F _ (Ty.row_below hx S0.below (Ty.row_lt hx)))
  replace S0 := Lib.hid S0
  cases h3 : clauseB vars c
  · rw [h3] at h1
    clear hx hI0 h3
    go_enter Try.func17, Try.ntmps17
    go_wp2_with fail
    refine h1.out.mono ?_
    rintro e w1 ⟨rfl, hb1⟩
    have S1 := Lib.hid (S0.out.grow hb1)
    clear S0 h1 hb1
    have r0 := S1.out.cell (i := 0) rfl (o := 0) rfl
    have r1 := S1.out.cell (i := 0) rfl (o := 1) rfl
    have f0 := S1.out.frozen (i := 0) rfl 0
    have f1 := S1.out.frozen (i := 0) rfl 1
    have SF := (S1.out.store (i := 0) rfl 0 (.slice none 0 0)).store (i := 0) rfl 1 (.int .i64 0)
    have j0 := SF.cell (i := 0) rfl (o := 0) rfl
    have j1 := SF.cell (i := 0) rfl (o := 1) rfl
    have hB := SF.below
    clear SF
    go_wp2_with fail
    exact bodyPost_ret (v := .tuple #[.agg #[.slice none 0 0, .int .i64 0], .bool false]) (by simp [results, Try.results17, go_sem, j0, j1]) rfl (gpost_no rfl hB)
  · rw [h3] at h1
    obtain ⟨hv, hlit, _⟩ := clause_parts h3
    have hcs := clause_s h3
    obtain ⟨n, rfl⟩ := Int.eq_ofNat_of_zero_le hv.1
    have hof := Lib.hid (fun W (h : Below w.heap.size w W) => planeOf_any n (by omega) c hlit hcs.2 A cap W (hI0.grow h))
    rw [show (n : Int).toNat = n by omega]
    generalize (clQ n c).2 = z at *
    generalize (clQ n c).1 = es at *
    clear hx hI0 h3 hv hlit hcs
    go_enter Try.func17, Try.ntmps17
    go_wp2_with fail
    refine h1.out.mono ?_
    rintro e w1 ⟨rfl, hb1⟩
    have S1 := Lib.hid (S0.out.grow hb1)
    clear S0 h1 hb1
    go_wp2_with fail
    refine (hof.out _ S1.out.below).mono ?_
    rintro e w2 ⟨E, ec, rfl, hI, hfr, hb2⟩
    have S3 := Lib.hid (S1.out.grow hb2)
    have hsz := (S1.out.box (i := 0) rfl).2.1
    replace hI := Lib.hid hI
    replace hfr := Lib.hid hfr
    clear S1 hof hb2
    have r0 := S3.out.cell (i := 0) rfl (o := 0) rfl
    have r1 := S3.out.cell (i := 0) rfl (o := 1) rfl
    have f0 := S3.out.frozen (i := 0) rfl 0
    have f1 := S3.out.frozen (i := 0) rfl 1
    have SF := (S3.out.store (i := 0) rfl 0 (.slice E es.length ec)).store (i := 0) rfl 1 (.int .i64 z)
    have j0 := SF.cell (i := 0) rfl (o := 0) rfl
    have j1 := SF.cell (i := 0) rfl (o := 1) rfl
    have hB := SF.below
    clear SF
    go_wp2_with fail
    exact bodyPost_ret (v := .tuple #[.agg #[.slice E es.length ec, .int .i64 z], .bool true]) (by simp [results, Try.results17, go_sem, j0, j1]) rfl (gpost_yes rfl ((hI.out.set (fun a ha => by have := hfr.out a ha; omega) 0 _).set (fun a ha => by have := hfr.out a ha; omega) 1 _) hB)


set_option maxRecDepth 100000 in
set_option maxHeartbeats 4000000 in
theorem specPlaneOfClause_any (vars : Int) (c : List Int) (A : Option Addr) (cap : Nat) (F : List Nat) (w : World) (hx : Ty.int.row false w (.slice A c.length cap) c F) :
    Calls Try.prog 18 #[.int .i64 vars, .slice A c.length cap] w (GPost w (clauseB vars c) (clQ vars.toNat c).2 (clQ vars.toNat c).1) := by
  obtain ⟨A', cap', e, hI0⟩ := ints_row hx
  cases e
  have S0 := (Sp.start w).alloc_box #[.slice none 0 0, .int .i64 0] 26
  have h1 := Lib.hid (l2Clause_any vars _ c F _ (Ty.row_below hx S0.below (Ty.row_lt hx)))
  replace S0 := Lib.hid S0
  cases h3 : clauseB vars c
  · rw [h3] at h1
    clear hx hI0 h3
    go_enter Try.func18, Try.ntmps18
    go_wp2_with fail
    refine h1.out.mono ?_
    rintro e w1 ⟨rfl, hb1⟩
    have S1 := Lib.hid (S0.out.grow hb1)
    clear S0 h1 hb1
    have r0 := S1.out.cell (i := 0) rfl (o := 0) rfl
    have r1 := S1.out.cell (i := 0) rfl (o := 1) rfl
    have f0 := S1.out.frozen (i := 0) rfl 0
    have f1 := S1.out.frozen (i := 0) rfl 1
    have SF := (S1.out.store (i := 0) rfl 0 (.slice none 0 0)).store (i := 0) rfl 1 (.int .i64 0)
    have j0 := SF.cell (i := 0) rfl (o := 0) rfl
    have j1 := SF.cell (i := 0) rfl (o := 1) rfl
    have hB := SF.below
    clear SF
    go_wp2_with fail
    exact bodyPost_ret (v := .tuple #[.agg #[.slice none 0 0, .int .i64 0], .bool false]) (by simp [results, Try.results18, go_sem, j0, j1]) rfl (gpost_no rfl hB)
  · rw [h3] at h1
    obtain ⟨hv, hlit, _⟩ := clause_parts h3
    have hcs := clause_s h3
    obtain ⟨n, rfl⟩ := Int.eq_ofNat_of_zero_le hv.1
    have hof := Lib.hid (fun W (h : Below w.heap.size w W) => l16OfClause_any n (by omega) c hlit hcs.2 A cap W (hI0.grow h))
    rw [show (n : Int).toNat = n by omega]
    generalize (clQ n c).2 = z at *
    generalize (clQ n c).1 = es at *
    clear hx hI0 h3 hv hlit hcs
    go_enter Try.func18, Try.ntmps18
    go_wp2_with fail
    refine h1.out.mono ?_
    rintro e w1 ⟨rfl, hb1⟩
    have S1 := Lib.hid (S0.out.grow hb1)
    clear S0 h1 hb1
    go_wp2_with fail
    refine (hof.out _ S1.out.below).mono ?_
    rintro e w2 ⟨E, ec, rfl, hI, hfr, hb2⟩
    have S3 := Lib.hid (S1.out.grow hb2)
    have hsz := (S1.out.box (i := 0) rfl).2.1
    replace hI := Lib.hid hI
    replace hfr := Lib.hid hfr
    clear S1 hof hb2
    have r0 := S3.out.cell (i := 0) rfl (o := 0) rfl
    have r1 := S3.out.cell (i := 0) rfl (o := 1) rfl
    have f0 := S3.out.frozen (i := 0) rfl 0
    have f1 := S3.out.frozen (i := 0) rfl 1
    have SF := (S3.out.store (i := 0) rfl 0 (.slice E es.length ec)).store (i := 0) rfl 1 (.int .i64 z)
    have j0 := SF.cell (i := 0) rfl (o := 0) rfl
    have j1 := SF.cell (i := 0) rfl (o := 1) rfl
    have hB := SF.below
    clear SF
    go_wp2_with fail
    exact bodyPost_ret (v := .tuple #[.agg #[.slice E es.length ec, .int .i64 z], .bool true]) (by simp [results, Try.results18, go_sem, j0, j1]) rfl (gpost_yes rfl ((hI.out.set (fun a ha => by have := hfr.out a ha; omega) 0 _).set (fun a ha => by have := hfr.out a ha; omega) 1 _) hB)


set_option maxRecDepth 100000 in
set_option maxHeartbeats 4000000 in
theorem countCnfModels_any (vars : Int) (v : Value) (xss : List (List Int)) (F : List Nat) (w : World) (hx : (Ty.slice Ty.int).row false w v xss F) (h1 : goodB vars xss = true) :
    Calls Try.prog 20 #[.agg #[.int .i64 vars, v]] w fun e w' => e = .returned (.tuple #[.int .i64 (cntP (modT xss) (2 ^ vars.toNat)), .bool true]) ∧ Below w.heap.size w w' := by
  obtain ⟨A, cap, rfl, hI⟩ := cls_row hx
  have hg := good_cnf h1
  obtain ⟨n, rfl⟩ := Int.eq_ofNat_of_zero_le hg.1.1
  rw [show (n : Int).toNat = n by omega]
  have hn : n ≤ 12 := by omega
  have hp := (pow12 hn).2
  have S0 := (Sp.start w).alloc_box #[.int .i64 n, .slice A xss.length cap] 48
  have hcall := Lib.hid (implIsCnf_any n _ xss F _ (Ty.row_below hx S0.below (Ty.row_lt hx)))
  have eg : Enter1 47 := enters_of Try.func47 (by kernel_rfl) rfl
  have hmod := Lib.hid (fun W (S : Sp w W [Box w.heap.size 48 #[.int .i64 n, .slice A xss.length cap]]) =>
    models_any (cb := #[.pointer (some ⟨W.heap.size, 0, none⟩)]) eg n hn xss hg.2.2.2 (by omega) A cap (W.alloc (.cells #[.int .i64 0] 3)) [W.heap.size] (by simp)
    (fun k V => Sp w V [Box W.heap.size 3 #[.int .i64 (cntP (modT xss) k)], Box w.heap.size 48 #[.int .i64 n, .slice A xss.length cap]])
    (S.alloc_box #[.int .i64 0] 3) (fun k V V' h hb => h.grow hb) (fun k V h => hI.grow h.below)
    (fun k V hm h => by rw [cntP_no hm]; exact h)
    (fun k V hk hm h => by
      have f0 := h.frozen (i := 0) rfl 0
      have c0 := h.cell (i := 0) rfl (o := 0) rfl
      have hcl := cntP_le (modT xss) k
      have hcn := Lib.hid (cntP_yes hm)
      have S1 := Lib.hid (h.store (i := 0) rfl 0 (.int .i64 ((cntP (modT xss) k : Int) + 1)))
      have hch := Lib.hid ((Chg.refl [W.heap.size] V).set (p := ⟨W.heap.size, 0, none⟩) (by simp) (.int .i64 ((cntP (modT xss) k : Int) + 1)))
      have hlt : k < 4096 := Nat.lt_of_lt_of_le hk hp
      generalize cntP (modT xss) k = c at *
      have hwc : IntKind.i64.wrap ((c : Int) + 1) = (c : Int) + 1 := IntWalk.i64_in _ (by omega)
      clear h hcl hk hm
      show Calls Try.prog 47 #[.int .i64 k, .pointer (some ⟨W.heap.size, 0, none⟩)] V _
      go_enter Try.func47, Try.ntmps47
      go_wp2_with fail
      go_ret
      exact ⟨true, rfl, hch.out, by rw [if_pos rfl, hcn.out]; exact S1.out⟩))
  replace S0 := Lib.hid S0
  have c0 := S0.out.cell (i := 0) rfl (o := 0) rfl
  have c1 := S0.out.cell (i := 0) rfl (o := 1) rfl
  rw [h1] at hcall
  clear eg hx hI hg h1
  generalize 2 ^ n = N at *
  go_enter Try.func20, Try.ntmps20
  go_wp2_with fail
  refine hcall.out.mono ?_
  rintro e w1 ⟨rfl, hb1⟩
  have S1 := Lib.hid (S0.out.grow hb1)
  have SA := S1.out.alloc_box #[.int .i64 0] 3
  have d0 := SA.cell (i := 1) rfl (o := 0) rfl
  have d1 := SA.cell (i := 1) rfl (o := 1) rfl
  clear SA
  have hm2 := Lib.hid (hmod.out _ S1.out)
  clear hcall hmod S0 S1 c0 c1 hb1
  go_wp2_with fail
  refine hm2.out.mono ?_
  rintro e w2 ⟨rfl, S2⟩
  have d2 := S2.cell (i := 0) rfl (o := 0) rfl
  have hB := S2.below
  clear hm2 S2 d0 d1
  go_wp2_with fail
  go_ret2
  exact ⟨rfl, hB⟩

end Go.Proofs.Ytcdgpekefiplnaa
