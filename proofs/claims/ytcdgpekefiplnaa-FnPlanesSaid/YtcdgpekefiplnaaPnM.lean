/- Contracts: AddPlanes, DividePlane and OppositePlane, in the reference. -/
import Derived.Test.YtcdgpekefiplnaaPnL
namespace Go.Proofs.Ytcdgpekefiplnaa
open Go.RowKit

set_option maxRecDepth 100000 in
set_option maxHeartbeats 2000000 in
theorem l16Give_no (vars b : Int) (cs : List Int) (A : Option Addr) (cap : Nat) (w : World) (hx : IntsAt w A cs) (hl : cs.length ≤ 1000000) (hq : planeB vars b cs = false) :
    Calls Try.prog 28 #[.int .i64 vars, .agg #[.slice A cs.length cap, .int .i64 b]] w fun e w' => e = .returned (.tuple #[.agg #[.slice none 0 0, .int .i64 0], .bool false]) ∧ Below w.heap.size w w' := by
  have S0 := ((Sp.start w).alloc_box #[.slice A cs.length cap, .int .i64 b] 26).alloc_box #[.slice none 0 0, .int .i64 0] 26
  simp only [World.size_alloc] at S0
  have h1 := Lib.hid (l16Plane_any vars b cs A cap _ (hx.grow S0.below) hl)
  replace S0 := Lib.hid S0
  have c0 := S0.out.cell (i := 1) rfl (o := 0) rfl
  have c1 := S0.out.cell (i := 1) rfl (o := 1) rfl
  rw [hq] at h1
  clear hx hq
  go_enter Try.func28, Try.ntmps28
  go_wp2_with fail
  refine h1.out.mono ?_
  rintro e w1 ⟨rfl, hb1⟩
  have S1 := Lib.hid (S0.out.grow hb1)
  clear S0 hb1 h1 c0 c1
  have d0 := S1.out.cell (i := 1) rfl (o := 0) rfl
  have d1 := S1.out.cell (i := 1) rfl (o := 1) rfl
  have r0 := S1.out.cell (i := 0) rfl (o := 0) rfl
  have r1 := S1.out.cell (i := 0) rfl (o := 1) rfl
  have f0 := S1.out.frozen (i := 0) rfl 0
  have f1 := S1.out.frozen (i := 0) rfl 1
  have SF := (S1.out.store (i := 0) rfl 0 (.slice none 0 0)).store (i := 0) rfl 1 (.int .i64 0)
  have j0 := SF.cell (i := 0) rfl (o := 0) rfl
  have j1 := SF.cell (i := 0) rfl (o := 1) rfl
  have hB := SF.below
  clear SF
  go_wp2_with fail
  exact bodyPost_ret (v := .tuple #[.agg #[.slice none 0 0, .int .i64 0], .bool false]) (by simp [results, Try.results28, go_sem, j0, j1]) rfl (⟨rfl, hB⟩)


set_option maxRecDepth 100000 in
set_option maxHeartbeats 2000000 in
theorem l16Give_yes (vars b : Int) (cs : List Int) (A : Option Addr) (cap : Nat) (w : World) (hx : IntsAt w A cs) (hl : cs.length ≤ 1000000) (hq : planeB vars b cs = true) :
    Calls Try.prog 28 #[.int .i64 vars, .agg #[.slice A cs.length cap, .int .i64 b]] w fun e w' => e = .returned (.tuple #[.agg #[.slice A cs.length cap, .int .i64 b], .bool true]) ∧ Below w.heap.size w w' := by
  have S0 := ((Sp.start w).alloc_box #[.slice A cs.length cap, .int .i64 b] 26).alloc_box #[.slice none 0 0, .int .i64 0] 26
  simp only [World.size_alloc] at S0
  have h1 := Lib.hid (l16Plane_any vars b cs A cap _ (hx.grow S0.below) hl)
  replace S0 := Lib.hid S0
  have c0 := S0.out.cell (i := 1) rfl (o := 0) rfl
  have c1 := S0.out.cell (i := 1) rfl (o := 1) rfl
  rw [hq] at h1
  clear hx hq
  go_enter Try.func28, Try.ntmps28
  go_wp2_with fail
  refine h1.out.mono ?_
  rintro e w1 ⟨rfl, hb1⟩
  have S1 := Lib.hid (S0.out.grow hb1)
  clear S0 hb1 h1 c0 c1
  have d0 := S1.out.cell (i := 1) rfl (o := 0) rfl
  have d1 := S1.out.cell (i := 1) rfl (o := 1) rfl
  have r0 := S1.out.cell (i := 0) rfl (o := 0) rfl
  have r1 := S1.out.cell (i := 0) rfl (o := 1) rfl
  have f0 := S1.out.frozen (i := 0) rfl 0
  have f1 := S1.out.frozen (i := 0) rfl 1
  have SF := (S1.out.store (i := 0) rfl 0 (.slice A cs.length cap)).store (i := 0) rfl 1 (.int .i64 b)
  have j0 := SF.cell (i := 0) rfl (o := 0) rfl
  have j1 := SF.cell (i := 0) rfl (o := 1) rfl
  have hB := SF.below
  clear SF
  go_wp2_with fail
  exact bodyPost_ret (v := .tuple #[.agg #[.slice A cs.length cap, .int .i64 b], .bool true]) (by simp [results, Try.results28, go_sem, j0, j1]) rfl (⟨rfl, hB⟩)


set_option maxRecDepth 100000 in
set_option maxHeartbeats 4000000 in
theorem specAddPlanes_any (vars b d : Int) (cs ds : List Int) (A B : Option Addr) (ca da : Nat) (w : World) (hx : IntsAt w A cs) (hy : IntsAt w B ds) (hl : cs.length ≤ 1000000) (hl2 : ds.length ≤ 1000000) :
    Calls Try.prog 7 #[.int .i64 vars, .agg #[.slice A cs.length ca, .int .i64 b], .agg #[.slice B ds.length da, .int .i64 d]] w (GPost w (goodQ vars b cs && goodQ vars d ds && goodQ vars (b + d) (addQ cs ds)) (b + d) (addQ cs ds)) := by
  have S0 := ((Sp.start w).alloc_box #[.slice A cs.length ca, .int .i64 b] 26).alloc_box #[.slice B ds.length da, .int .i64 d] 26 |>.alloc_box #[.slice none 0 0, .int .i64 0] 26
  simp only [World.size_alloc] at S0
  have h1 := Lib.hid (specIsInequality_any vars b cs A ca _ (sp_ints S0 hx) hl)
  have h2 := Lib.hid (fun W (h : Below w.heap.size w W) => specIsInequality_any vars d ds B da W (hy.grow h) hl2)
  replace S0 := Lib.hid S0
  have c0 := S0.out.cell (i := 2) rfl (o := 0) rfl
  have c1 := S0.out.cell (i := 2) rfl (o := 1) rfl
  have c2 := S0.out.cell (i := 1) rfl (o := 0) rfl
  have c3 := S0.out.cell (i := 1) rfl (o := 1) rfl
  obtain ⟨z, hz⟩ : ∃ z, b + d = z := ⟨_, rfl⟩
  obtain ⟨Q, hQ⟩ : ∃ Q, (goodQ vars b cs && goodQ vars d ds && goodQ vars (b + d) (addQ cs ds)) = Q := ⟨_, rfl⟩
  rw [hQ, hz]
  cases h3 : goodQ vars b cs
  · rw [h3] at h1
    have hG : Hid (Q = false) := by rw [← hQ, h3]; rfl
    clear hQ hz hx hy h2 h3
    go_enter Try.func7, Try.ntmps7
    go_wp2_with fail
    refine h1.out.mono ?_
    rintro e w1 ⟨rfl, hb1⟩
    have S1 := Lib.hid (S0.out.grow hb1)
    clear S0 hb1 h1 c0 c1 c2 c3
    have r0 := S1.out.cell (i := 0) rfl (o := 0) rfl
    have r1 := S1.out.cell (i := 0) rfl (o := 1) rfl
    have f0 := S1.out.frozen (i := 0) rfl 0
    have f1 := S1.out.frozen (i := 0) rfl 1
    have SF := (S1.out.store (i := 0) rfl 0 (.slice none 0 0)).store (i := 0) rfl 1 (.int .i64 0)
    have j0 := SF.cell (i := 0) rfl (o := 0) rfl
    have j1 := SF.cell (i := 0) rfl (o := 1) rfl
    have hB := SF.below
    clear SF
    go_wp2_with fail
    exact bodyPost_ret (v := .tuple #[.agg #[.slice none 0 0, .int .i64 0], .bool false]) (by simp [results, Try.results7, go_sem, j0, j1]) rfl (gpost_no hG.out hB)
  cases h4 : goodQ vars d ds
  · rw [h3] at h1
    rw [h4] at h2
    have hG : Hid (Q = false) := by rw [← hQ, h3, h4]; rfl
    clear hQ hz hx hy h3 h4
    go_enter Try.func7, Try.ntmps7
    go_wp2_with fail
    refine h1.out.mono ?_
    rintro e w1 ⟨rfl, hb1⟩
    have S1 := Lib.hid (S0.out.grow hb1)
    clear S0 hb1 h1 c0 c1 c2 c3
    have c2 := S1.out.cell (i := 1) rfl (o := 0) rfl
    have c3 := S1.out.cell (i := 1) rfl (o := 1) rfl
    go_wp2_with fail
    refine (h2.out _ S1.out.below).mono ?_
    rintro e w1 ⟨rfl, hb1⟩
    have S2 := Lib.hid (S1.out.grow hb1)
    clear S1 hb1 h2 c2 c3
    have r0 := S2.out.cell (i := 0) rfl (o := 0) rfl
    have r1 := S2.out.cell (i := 0) rfl (o := 1) rfl
    have f0 := S2.out.frozen (i := 0) rfl 0
    have f1 := S2.out.frozen (i := 0) rfl 1
    have SF := (S2.out.store (i := 0) rfl 0 (.slice none 0 0)).store (i := 0) rfl 1 (.int .i64 0)
    have j0 := SF.cell (i := 0) rfl (o := 0) rfl
    have j1 := SF.cell (i := 0) rfl (o := 1) rfl
    have hB := SF.below
    clear SF
    go_wp2_with fail
    exact bodyPost_ret (v := .tuple #[.agg #[.slice none 0 0, .int .i64 0], .bool false]) (by simp [results, Try.results7, go_sem, j0, j1]) rfl (gpost_no hG.out hB)
  rw [h3] at h1
  rw [h4] at h2
  obtain ⟨g1, g2, g3, g4⟩ := good_q h3
  obtain ⟨g5, g6, g7, g8⟩ := good_q h4
  have hdl : ds.length = cs.length := by omega
  have hadd : Hid (∀ W, Below w.heap.size w W → Calls Try.prog 29 #[.agg #[.slice A cs.length ca, .int .i64 b], .agg #[.slice B ds.length da, .int .i64 d]] W (QPost W z (addQ cs ds))) := by
    intro W h
    have h9 := l16Add_any cs ds b d A B ca da W (hx.grow h) (hy.grow h) (by omega) hdl (near_of g4) (near_of g8) g3 g7
    rw [comb_add, hz] at h9
    rw [hdl]
    exact h9
  have hel : (addQ cs ds).length ≤ 1000000 := by rw [add_len]; omega
  rw [h3, h4, hz, Bool.true_and, Bool.true_and, plane_good, inB_true.2 g1, Bool.true_and] at hQ
  generalize addQ cs ds = es at *
  clear hx hy h3 h4 g1 g2 g3 g4 g5 g6 g7 g8 hdl hz
  cases hQ2 : Q
  · rw [hQ2] at hQ
    go_enter Try.func7, Try.ntmps7
    go_wp2_with fail
    refine h1.out.mono ?_
    rintro e w1 ⟨rfl, hb1⟩
    have S1 := Lib.hid (S0.out.grow hb1)
    clear S0 hb1 h1 c0 c1 c2 c3
    have c2 := S1.out.cell (i := 1) rfl (o := 0) rfl
    have c3 := S1.out.cell (i := 1) rfl (o := 1) rfl
    go_wp2_with fail
    refine (h2.out _ S1.out.below).mono ?_
    rintro e w1 ⟨rfl, hb1⟩
    have S2 := Lib.hid (S1.out.grow hb1)
    clear S1 hb1 h2 c2 c3
    have c0 := S2.out.cell (i := 2) rfl (o := 0) rfl
    have c1 := S2.out.cell (i := 2) rfl (o := 1) rfl
    have c2 := S2.out.cell (i := 1) rfl (o := 0) rfl
    have c3 := S2.out.cell (i := 1) rfl (o := 1) rfl
    go_wp2_with fail
    refine (hadd.out _ S2.out.below).mono ?_
    rintro e w2 ⟨E, ec, rfl, hI, hfr, hb2⟩
    have S3 := Lib.hid (S2.out.grow hb2)
    have hsz := (S2.out.box (i := 0) rfl).2.1
    replace hI := Lib.hid hI
    replace hfr := Lib.hid hfr
    clear S2 hadd c0 c1 c2 c3 hb2
    go_wp2_with fail
    refine (l16Give_no vars z es E ec _ hI.out hel hQ).mono ?_
    rintro e w3 ⟨rfl, hb3⟩
    have S4 := Lib.hid (S3.out.grow hb3)
    clear S3 hb3 
    have r0 := S4.out.cell (i := 0) rfl (o := 0) rfl
    have r1 := S4.out.cell (i := 0) rfl (o := 1) rfl
    have f0 := S4.out.frozen (i := 0) rfl 0
    have f1 := S4.out.frozen (i := 0) rfl 1
    have SF := (S4.out.store (i := 0) rfl 0 (.slice none 0 0)).store (i := 0) rfl 1 (.int .i64 0)
    have j0 := SF.cell (i := 0) rfl (o := 0) rfl
    have j1 := SF.cell (i := 0) rfl (o := 1) rfl
    have hB := SF.below
    clear SF
    go_wp2_with fail
    exact bodyPost_ret (v := .tuple #[.agg #[.slice none 0 0, .int .i64 0], .bool false]) (by simp [results, Try.results7, go_sem, j0, j1]) rfl (gpost_no rfl hB)
  · rw [hQ2] at hQ
    go_enter Try.func7, Try.ntmps7
    go_wp2_with fail
    refine h1.out.mono ?_
    rintro e w1 ⟨rfl, hb1⟩
    have S1 := Lib.hid (S0.out.grow hb1)
    clear S0 hb1 h1 c0 c1 c2 c3
    have c2 := S1.out.cell (i := 1) rfl (o := 0) rfl
    have c3 := S1.out.cell (i := 1) rfl (o := 1) rfl
    go_wp2_with fail
    refine (h2.out _ S1.out.below).mono ?_
    rintro e w1 ⟨rfl, hb1⟩
    have S2 := Lib.hid (S1.out.grow hb1)
    clear S1 hb1 h2 c2 c3
    have c0 := S2.out.cell (i := 2) rfl (o := 0) rfl
    have c1 := S2.out.cell (i := 2) rfl (o := 1) rfl
    have c2 := S2.out.cell (i := 1) rfl (o := 0) rfl
    have c3 := S2.out.cell (i := 1) rfl (o := 1) rfl
    go_wp2_with fail
    refine (hadd.out _ S2.out.below).mono ?_
    rintro e w2 ⟨E, ec, rfl, hI, hfr, hb2⟩
    have S3 := Lib.hid (S2.out.grow hb2)
    have hsz := (S2.out.box (i := 0) rfl).2.1
    replace hI := Lib.hid hI
    replace hfr := Lib.hid hfr
    clear S2 hadd c0 c1 c2 c3 hb2
    go_wp2_with fail
    refine (l16Give_yes vars z es E ec _ hI.out hel hQ).mono ?_
    rintro e w3 ⟨rfl, hb3⟩
    have S4 := Lib.hid (S3.out.grow hb3)
    replace hI := Lib.hid (hI.out.grow hb3)
    clear S3 hb3 
    have r0 := S4.out.cell (i := 0) rfl (o := 0) rfl
    have r1 := S4.out.cell (i := 0) rfl (o := 1) rfl
    have f0 := S4.out.frozen (i := 0) rfl 0
    have f1 := S4.out.frozen (i := 0) rfl 1
    have SF := (S4.out.store (i := 0) rfl 0 (.slice E es.length ec)).store (i := 0) rfl 1 (.int .i64 z)
    have j0 := SF.cell (i := 0) rfl (o := 0) rfl
    have j1 := SF.cell (i := 0) rfl (o := 1) rfl
    have hB := SF.below
    clear SF
    go_wp2_with fail
    exact bodyPost_ret (v := .tuple #[.agg #[.slice E es.length ec, .int .i64 z], .bool true]) (by simp [results, Try.results7, go_sem, j0, j1]) rfl (gpost_yes rfl ((hI.out.set (fun a ha => by have := hfr.out a ha; omega) 0 _).set (fun a ha => by have := hfr.out a ha; omega) 1 _) hB)


theorem dpost_g {w w1 w' : World} {q : Bool} {b : Int} {cs : List Int} {e : Ending} (h : DPost w1 q b cs e w') : ∃ A c, e = .returned (.tuple #[.agg #[.slice A (zq q cs).length c, .int .i64 (zb q b)], .bool q]) ∧ IntsAt w' A (zq q cs) ∧ (∀ a, A = some a → w1.heap.size ≤ a.block) ∧ Below w1.heap.size w1 w' := h
set_option maxRecDepth 100000 in
set_option maxHeartbeats 4000000 in
theorem specDividePlane_any (vars b k : Int) (cs : List Int) (A : Option Addr) (ca : Nat) (w : World) (hx : IntsAt w A cs) (hl : cs.length ≤ 1000000) :
    Calls Try.prog 11 #[.int .i64 vars, .agg #[.slice A cs.length ca, .int .i64 b], .int .i64 k] w (GPost w (goodQ vars b cs && inB k 2 1000 && !(cs.any fun c => c.tmod k != 0)) (upQ b k) (divQ k cs)) := by
  have S0 := ((Sp.start w).alloc_box #[.slice A cs.length ca, .int .i64 b] 26).alloc_box #[.slice none 0 0, .int .i64 0] 26
  simp only [World.size_alloc] at S0
  have h1 := Lib.hid (specIsInequality_any vars b cs A ca _ (sp_ints S0 hx) hl)
  replace S0 := Lib.hid S0
  have c0 := S0.out.cell (i := 1) rfl (o := 0) rfl
  have c1 := S0.out.cell (i := 1) rfl (o := 1) rfl
  obtain ⟨Q, hQ⟩ : ∃ Q, (goodQ vars b cs && inB k 2 1000 && !(cs.any fun c => c.tmod k != 0)) = Q := ⟨_, rfl⟩
  rw [hQ]
  cases h3 : goodQ vars b cs
  · rw [h3] at h1
    have hG : Hid (Q = false) := by rw [← hQ, h3]; rfl
    clear hQ hx h3
    go_enter Try.func11, Try.ntmps11
    go_wp2_with fail
    refine h1.out.mono ?_
    rintro e w1 ⟨rfl, hb1⟩
    have S1 := Lib.hid (S0.out.grow hb1)
    clear S0 hb1 h1 c0 c1
    have r0 := S1.out.cell (i := 0) rfl (o := 0) rfl
    have r1 := S1.out.cell (i := 0) rfl (o := 1) rfl
    have f0 := S1.out.frozen (i := 0) rfl 0
    have f1 := S1.out.frozen (i := 0) rfl 1
    have SF := (S1.out.store (i := 0) rfl 0 (.slice none 0 0)).store (i := 0) rfl 1 (.int .i64 0)
    have j0 := SF.cell (i := 0) rfl (o := 0) rfl
    have j1 := SF.cell (i := 0) rfl (o := 1) rfl
    have hB := SF.below
    clear SF
    go_wp2_with fail
    exact bodyPost_ret (v := .tuple #[.agg #[.slice none 0 0, .int .i64 0], .bool false]) (by simp [results, Try.results11, go_sem, j0, j1]) rfl (gpost_no hG.out hB)
  cases h4 : inB k 2 1000
  · rw [h3] at h1
    have hG : Hid (Q = false) := by rw [← hQ, h3, h4]; rfl
    clear hQ hx h3
    go_enter Try.func11, Try.ntmps11
    go_wp2_with fail
    refine h1.out.mono ?_
    rintro e w1 ⟨rfl, hb1⟩
    have S1 := Lib.hid (S0.out.grow hb1)
    clear S0 hb1 h1 c0 c1
    go_wp2_with fail
    refine (l1In_at h4 _).mono ?_
    rintro e w2 ⟨rfl, rfl⟩
    have r0 := S1.out.cell (i := 0) rfl (o := 0) rfl
    have r1 := S1.out.cell (i := 0) rfl (o := 1) rfl
    have f0 := S1.out.frozen (i := 0) rfl 0
    have f1 := S1.out.frozen (i := 0) rfl 1
    have SF := (S1.out.store (i := 0) rfl 0 (.slice none 0 0)).store (i := 0) rfl 1 (.int .i64 0)
    have j0 := SF.cell (i := 0) rfl (o := 0) rfl
    have j1 := SF.cell (i := 0) rfl (o := 1) rfl
    have hB := SF.below
    clear SF
    go_wp2_with fail
    exact bodyPost_ret (v := .tuple #[.agg #[.slice none 0 0, .int .i64 0], .bool false]) (by simp [results, Try.results11, go_sem, j0, j1]) rfl (gpost_no hG.out hB)
  rw [h3] at h1
  obtain ⟨g1, g2, g3, g4⟩ := good_q h3
  have hk := inB_true.1 h4
  have hd := Lib.hid (fun W (h : Below w.heap.size w W) => l16Divide_any k hk cs b A ca W (hx.grow h) (by omega) (near_of g4) g3)
  rw [h3, h4, Bool.true_and, Bool.true_and] at hQ
  have hd : Hid (∀ W, Below w.heap.size w W → Calls Try.prog 35 #[.agg #[.slice A cs.length ca, .int .i64 b], .int .i64 k] W (DPost W Q (upQ b k) (divQ k cs))) := fun W h => by have h9 := hd.out W h; rw [hQ] at h9; exact h9
  generalize upQ b k = z at *
  generalize divQ k cs = es at *
  have hd3 : Hid (∀ W, Below w.heap.size w W → Calls Try.prog 35 #[.agg #[.slice A cs.length ca, .int .i64 b], .int .i64 k] W fun e w' => ∃ A c, e = .returned (.tuple #[.agg #[.slice A (zq Q es).length c, .int .i64 (zb Q z)], .bool Q]) ∧ IntsAt w' A (zq Q es) ∧ (∀ a, A = some a → W.heap.size ≤ a.block) ∧ Below W.heap.size W w') := fun W h => by have h9 := hd.out W h; exact h9
  clear hd
  have hzq : GPost w Q z es = fun e w' => ∃ A c, e = .returned (.tuple #[.agg #[.slice A (zq Q es).length c, .int .i64 (zb Q z)], .bool Q]) ∧ IntsAt w' A (zq Q es) ∧ Below w.heap.size w w' := rfl
  rw [hzq]
  generalize zq Q es = fs at *
  generalize zb Q z = y at *
  clear hx h3 g1 g2 g3 g4 hk hQ hzq
  go_enter Try.func11, Try.ntmps11
  go_wp2_with fail
  refine h1.out.mono ?_
  rintro e w1 ⟨rfl, hb1⟩
  have S1 := Lib.hid (S0.out.grow hb1)
  clear S0 hb1 h1 c0 c1
  go_wp2_with fail
  refine (l1In_at h4 _).mono ?_
  rintro e w2 ⟨rfl, rfl⟩
  have c0 := S1.out.cell (i := 1) rfl (o := 0) rfl
  have c1 := S1.out.cell (i := 1) rfl (o := 1) rfl
  have hd2 : Hid (Calls Try.prog 35 #[.agg #[.slice A cs.length ca, .int .i64 b], .int .i64 k] w1 fun e w' => ∃ A c, e = .returned (.tuple #[.agg #[.slice A fs.length c, .int .i64 y], .bool Q]) ∧ IntsAt w' A fs ∧ (∀ a, A = some a → w1.heap.size ≤ a.block) ∧ Below w1.heap.size w1 w') := hd3.out _ S1.out.below
  clear hd3
  go_wp2_with fail
  refine hd2.out.mono ?_
  rintro e w2 ⟨E, ec, rfl, hI, hfr, hb2⟩
  have S3 := Lib.hid (S1.out.grow hb2)
  have hsz := (S1.out.box (i := 0) rfl).2.1
  replace hI := Lib.hid hI
  replace hfr := Lib.hid hfr
  clear S1 hd2 c0 c1 hb2
  have r0 := S3.out.cell (i := 0) rfl (o := 0) rfl
  have r1 := S3.out.cell (i := 0) rfl (o := 1) rfl
  have f0 := S3.out.frozen (i := 0) rfl 0
  have f1 := S3.out.frozen (i := 0) rfl 1
  have SF := (S3.out.store (i := 0) rfl 0 (.slice E fs.length ec)).store (i := 0) rfl 1 (.int .i64 y)
  have j0 := SF.cell (i := 0) rfl (o := 0) rfl
  have j1 := SF.cell (i := 0) rfl (o := 1) rfl
  have hB := SF.below
  clear SF
  go_wp2_with fail
  exact bodyPost_ret (v := .tuple #[.agg #[.slice E fs.length ec, .int .i64 y], .bool Q]) (by simp [results, Try.results11, go_sem, j0, j1]) rfl (⟨E, ec, rfl, (hI.out.set (fun a ha => by have := hfr.out a ha; omega) 0 _).set (fun a ha => by have := hfr.out a ha; omega) 1 _, hB⟩)


theorem sep_box_mem {b : Nat} {t : TypeId} {bs : Array Value} : ∀ {ps : List Asn} {j : Nat} {w : World} {F : List Nat}, sep ps w F → ps[j]? = some (Box b t bs) → b ∈ F
  | [], _, _, _, _, hj => by simp at hj
  | q :: ps, 0, w, F, h, hj => by
    obtain ⟨F1, F2, rfl, _, hq, _⟩ := h
    simp only [List.getElem?_cons_zero, Option.some.injEq] at hj
    subst hj
    obtain ⟨rfl, _⟩ := hq
    simp
  | q :: ps, j + 1, w, F, h, hj => by
    obtain ⟨F1, F2, rfl, _, _, hs⟩ := h
    simp only [List.getElem?_cons_succ] at hj
    exact List.mem_append.2 (.inr (sep_box_mem hs hj))
theorem Sp.own_box_ne {w0 w : World} {ps : List Asn} {j b m n c size : Nat} {e t : TypeId} {bs : Array Value} {A : Option Addr} {xs : List Value} (h : Sp w0 w (Own e size (.slice A n c) m xs :: ps)) (hj : ps[j]? = some (Box b t bs)) : ∀ a, A = some a → a.block ≠ b := by
  rintro a rfl
  obtain ⟨_, F, ⟨F1, F2, rfl, hd, ⟨rfl, _⟩, hs⟩, _⟩ := h
  have := sep_box_mem hs hj
  intro e
  exact hd a.block (by simp [Value.ownBlock]) (e ▸ this)
theorem mul_len (m : Int) (cs : List Int) : (mulQ m cs).length = cs.length := by simp [mulQ]
/-- The opposite: the loop in the reference. -/
def OppPost (w : World) (vars z : Int) (es : List Int) (e : Ending) (w' : World) : Prop := GPost w (goodQ vars z es) z es e w'
set_option maxRecDepth 100000 in
set_option maxHeartbeats 4000000 in
theorem specOppositePlane_any (vars b : Int) (cs : List Int) (A : Option Addr) (ca : Nat) (w : World) (hx : IntsAt w A cs) (hl : cs.length ≤ 1000000) :
    Calls Try.prog 14 #[.int .i64 vars, .agg #[.slice A cs.length ca, .int .i64 b]] w (GPost w (goodQ vars b cs && goodQ vars (1 - b) (mulQ (-1) cs)) (1 - b) (mulQ (-1) cs)) := by
  obtain ⟨i0, hi, hz0, hz1, hz2⟩ := info_parts infoInt
  have S0 := ((Sp.start w).alloc_box #[.slice A cs.length ca, .int .i64 b] 26).alloc_box #[.slice none 0 0, .int .i64 0] 26
  simp only [World.size_alloc] at S0
  have h1 := Lib.hid (specIsInequality_any vars b cs A ca _ (sp_ints S0 hx) hl)
  replace S0 := Lib.hid S0
  have c0 := S0.out.cell (i := 1) rfl (o := 0) rfl
  have c1 := S0.out.cell (i := 1) rfl (o := 1) rfl
  obtain ⟨z, hz⟩ : ∃ z, 1 - b = z := ⟨_, rfl⟩
  obtain ⟨Q, hQ⟩ : ∃ Q, (goodQ vars b cs && goodQ vars (1 - b) (mulQ (-1) cs)) = Q := ⟨_, rfl⟩
  rw [hQ, hz]
  cases h3 : goodQ vars b cs
  · rw [h3] at h1
    have hG : Hid (Q = false) := by rw [← hQ, h3]; rfl
    clear hQ hx h3
    go_enter Try.func14, Try.ntmps14
    go_wp2_with fail
    refine h1.out.mono ?_
    rintro e w1 ⟨rfl, hb1⟩
    have S1 := Lib.hid (S0.out.grow hb1)
    clear S0 hb1 h1 c0 c1
    have r0 := S1.out.cell (i := 0) rfl (o := 0) rfl
    have r1 := S1.out.cell (i := 0) rfl (o := 1) rfl
    have f0 := S1.out.frozen (i := 0) rfl 0
    have f1 := S1.out.frozen (i := 0) rfl 1
    have SF := (S1.out.store (i := 0) rfl 0 (.slice none 0 0)).store (i := 0) rfl 1 (.int .i64 0)
    have j0 := SF.cell (i := 0) rfl (o := 0) rfl
    have j1 := SF.cell (i := 0) rfl (o := 1) rfl
    have hB := SF.below
    clear SF
    go_wp2_with fail
    exact bodyPost_ret (v := .tuple #[.agg #[.slice none 0 0, .int .i64 0], .bool false]) (by simp [results, Try.results14, go_sem, j0, j1]) rfl (gpost_no hG.out hB)
  rw [h3] at h1
  obtain ⟨g1, g2, g3, g4⟩ := good_q h3
  subst g2
  have hl12 : cs.length ≤ 12 := by omega
  have hwz : IntKind.i64.wrap (1 - b) = z := by rw [IntWalk.i64_in _ (by omega)]; exact hz
  have hel : (mulQ (-1) cs).length ≤ 1000000 := by rw [mul_len]; omega
  have hcH := Lib.hid g4
  have hbH := Lib.hid (combK_64 (f := mulF (-1)) (near_of g4) (near_of g4) (fun x y hx hy => by have := mul_near (k := -1) (by omega) hx; unfold mulF I64; omega))
  have hxH := Lib.hid hx
  rw [h3, hz, Bool.true_and, plane_good, inB_true.2 g1, Bool.true_and] at hQ
  replace hQ := Lib.hid hQ
  clear hx h3 g1 g3 g4 hz
  go_enter Try.func14, Try.ntmps14
  go_wp2_with fail
  refine h1.out.mono ?_
  rintro e w1 ⟨rfl, hb1⟩
  have S1 := Lib.hid (S0.out.grow hb1)
  clear S0 hb1 h1 c0 c1
  have c1 := S1.out.cell (i := 1) rfl (o := 1) rfl
  have SO := (S1.out.alloc_box #[.slice none 0 0, .int .i64 z] 26).own_nil 3 1
  have hsz := (S1.out.box (i := 0) rfl).2.1
  obtain ⟨ob, hob⟩ : ∃ ob, w1.heap.size = ob := ⟨_, rfl⟩
  rw [hob] at SO hsz
  replace SO := Lib.hid SO
  clear S1
  go_wp2_with fail
  (try rw [hob])
  go_loopw [7] (fun i wr => ∃ (k : Nat) (Bk : Option Addr) (cap : Nat), k ≤ cs.length ∧ i = .int .i64 k ∧ Hid (Sp w wr [Own 3 1 (.slice Bk k cap) k ((combK (mulF (-1)) cs cs k).map (.int .i64)), Box ob 26 #[.slice Bk k cap, .int .i64 z], Box (w.heap.size + 1) 26 #[.slice none 0 0, .int .i64 0], Box w.heap.size 26 #[.slice A cs.length ca, .int .i64 b]])) (fun i _ => cs.length - (intOf i).toNat)
  case atStart => exact ⟨0, none, 0, Nat.zero_le _, rfl, SO⟩
  case round =>
    obtain ⟨k, Bk, cap, hk, rfl, HS⟩ := hrel
    clear SO
    by_cases hlt : k < cs.length
    · obtain ⟨ab, off, rfl, m0⟩ := (hxH.out.grow HS.out.below).at_ k hlt
      have d0 := HS.out.cell (i := 1) rfl (o := 0) rfl
      have d1 := HS.out.cell (i := 3) rfl (o := 0) rfl
      have hsn := combK_succ (mulF (-1)) cs cs hlt hlt
      have hn1 := hcH.out _ (List.getElem_mem hlt)
      generalize cs[k] = x at *
      obtain ⟨u, hu⟩ : ∃ u, -x = u := ⟨_, rfl⟩
      have hwu : IntKind.i64.wrap (-x) = u := by rw [IntWalk.i64_in _ (by omega)]; exact hu
      have hsN : Hid (combK (mulF (-1)) cs cs (k + 1) = combK (mulF (-1)) cs cs k ++ [u]) := by rw [hsn, show mulF (-1) x x = u by unfold mulF; omega]; rfl
      clear hsn hn1 hu
      go_wp2_with fail
      refine wp_region_tail_lit (S := (fun w' => w'.cell? ⟨ob, 0, none⟩ = some (.slice Bk k cap) ∧ w'.cell? ⟨w.heap.size, 0, none⟩ = some (.slice (some ⟨ab, off, none⟩) cs.length ca) ∧ w'.cell? ⟨ab, off + k, none⟩ = some (.int .i64 x))) 9 [false, false, false, false, false, false, false, false, false, false, false, false] (by kernel_rfl) (by kernel_rfl) (by kernel_rfl) ?_ ?_
      · exact ⟨d0, d1, m0⟩
      intro hSc
      (refine walkT_take (i := 0) (v := ?_) rfl (by kernel_rfl) (by decide) (by kernel_rfl) (by kernel_rfl) (fun _ _ _ h => h) (Or.inl ⟨by rfl, ?_⟩) (by assumption) ?_; rotate_left; (focus (intro w hSw; (try dsimp only at hSw); go_simp; (try with_reducible rfl); done)); (try simp only [put_rules]))
      (refine walkT_take (i := 1) (v := ?_) rfl (by kernel_rfl) (by decide) (by kernel_rfl) (by kernel_rfl) (fun _ _ _ h => h) (Or.inl ⟨by rfl, ?_⟩) (by assumption) ?_; rotate_left; (focus (intro w hSw; (try dsimp only at hSw); go_simp; (try with_reducible rfl); done)); (try simp only [put_rules]))
      (refine walkT_take (i := 2) (v := ?_) rfl (by kernel_rfl) (by decide) (by kernel_rfl) (by kernel_rfl) (fun _ _ _ h => h) (Or.inl ⟨by rfl, ?_⟩) (by assumption) ?_; rotate_left; (focus (intro w hSw; (try dsimp only at hSw); go_simp; (try with_reducible rfl); done)); (try simp only [put_rules]))
      (refine walkT_take (i := 3) (v := ?_) rfl (by kernel_rfl) (by decide) (by kernel_rfl) (by kernel_rfl) (fun _ _ _ h => h) (Or.inl ⟨by rfl, ?_⟩) (by assumption) ?_; rotate_left; (focus (intro w hSw; (try dsimp only at hSw); go_simp; (try with_reducible rfl); done)); (try simp only [put_rules]))
      (refine walkT_take (i := 4) (v := ?_) rfl (by kernel_rfl) (by decide) (by kernel_rfl) (by kernel_rfl) (fun _ _ _ h => h) (Or.inl ⟨by rfl, ?_⟩) (by assumption) ?_; rotate_left; (focus (intro w hSw; (try dsimp only at hSw); go_simp; (try with_reducible rfl); done)); (try simp only [put_rules]))
      (refine walkT_take (i := 5) (v := ?_) rfl (by kernel_rfl) (by decide) (by kernel_rfl) (by kernel_rfl) (fun _ _ _ h => h) (Or.inl ⟨by rfl, ?_⟩) (by assumption) ?_; rotate_left; (focus (intro w hSw; (try dsimp only at hSw); go_simp; (try with_reducible rfl); done)); (try simp only [put_rules]))
      (refine walkT_take (i := 6) (v := ?_) rfl (by kernel_rfl) (by decide) (by kernel_rfl) (by kernel_rfl) (fun _ _ _ h => h) (Or.inl ⟨by rfl, ?_⟩) (by assumption) ?_; rotate_left; (focus (intro w hSw; (try dsimp only at hSw); go_simp; (try with_reducible rfl); done)); (try simp only [put_rules]))
      (refine walkT_take (i := 7) (v := ?_) rfl (by kernel_rfl) (by decide) (by kernel_rfl) (by kernel_rfl) (fun _ _ _ h => h) (Or.inl ⟨by rfl, ?_⟩) (by assumption) ?_; rotate_left; (focus (intro w hSw; (try dsimp only at hSw); go_simp; (try with_reducible rfl); done)); (try simp only [put_rules]))
      (refine walkT_ready (rs := [8]) (by kernel_rfl) (by simp) (by decide) ?_; refine AllT.cons rfl (fun K hK => ?_) AllT.nil)
      go_simp
      have S3 := HS.out.drew.alloc_box #[.int .i64 u] 3
      (repeat (first | simp only [drew_size] at S3 | simp only [World.size_setCell] at S3 | simp only [World.size_alloc] at S3))
      have kB := S3.cell (i := 0) rfl (o := 0) rfl
      have hb3 := bal (bdr (bb wr)) (.cells #[.int .i64 u] 3)
      have e0 := S3.cell (i := 2) rfl (o := 0) rfl
      have e1 := S3.cell (i := 4) rfl (o := 0) rfl
      have e2 := ((bcell hb3).1 _ _ (World.block_lt_of_cell? _ _ m0)).trans m0
      replace S3 := Lib.hid S3
      clear HS hSc d0 d1 m0 hb3
      refine hK.out _ _ ⟨e0, e1, e2⟩ (fun _ => ?_)
      clear hK e0 e1 e2
      (try simp only [put_rules])
      (refine walkT_done (by kernel_rfl) ?_)
      simp only [List.drop_succ_cons, List.drop_zero]
      (refine wpList_append_src rfl _ _ rfl Try.underlying24 hi hz0 hz1 hz2 rfl (by decide) _ _ _ rfl (S3.out.own (i := 1) rfl) _ 1 1 [.int .i64 u] rfl (Src.one kB) (by simp [Value.oneCell']) (by unfold maxLen; omega) (by omega) ?_; intro vZ wZ hownZ hgZ hatZ)
      have S4 := S3.out.own_push (i := 1) rfl (bb _) hownZ hgZ hatZ
      obtain ⟨aZ, cZ, rfl⟩ := owns_form hownZ
      have p0 := S4.frozen (i := 2) rfl 0
      have j0 := S4.cell (i := 2) rfl (o := 0) rfl
      have S5 := (S4.store (i := 2) rfl 0 (.slice aZ (k + 1) cZ)).tail
      have hmap : (combK (mulF (-1)) cs cs k).map (Value.int .i64) ++ [.int .i64 u] = (combK (mulF (-1)) cs cs (k + 1)).map (.int .i64) := by rw [hsN.out, List.map_append]; rfl
      rw [hmap] at S5
      have S6 := Lib.hid S5
      clear S3 S4 S5 kB hownZ hgZ hatZ hmap
      go_wp2_with fail
      go_roundw
      case rel => exact ⟨k + 1, aZ, cZ, by omega, by go_num, S6⟩
      case measure => simp [intOf]; omega
    · have hge : ¬ (k : Int) < (cs.length : Int) := by omega
      obtain rfl : k = cs.length := by omega
      have d0 := HS.out.cell (i := 1) rfl (o := 0) rfl
      have d1 := HS.out.cell (i := 1) rfl (o := 1) rfl
      have hI0 := q_own (cs := combK (mulF (-1)) cs cs cs.length) (A := Bk) (c := cap) (by have h := HS.out.own (i := 0) rfl; rw [combK_len]; exact h) (hbH.out _)
      rw [comb_mul] at hI0
      have hne : ∀ a, Bk = some a → a.block ≠ w.heap.size + 1 := HS.out.own_box_ne (j := 1) rfl
      have hlm : Hid ((mulQ (-1) cs).length = cs.length) := mul_len _ _
      generalize mulQ (-1) cs = es at *
      have hcall : Hid (Calls Try.prog 28 #[.int .i64 cs.length, .agg #[.slice Bk cs.length cap, .int .i64 z]] wr fun e w' => e = .returned (.tuple #[.agg #[.slice (if Q then Bk else none) (zq Q es).length (if Q then cap else 0), .int .i64 (zb Q z)], .bool Q]) ∧ Below wr.heap.size wr w') := by
        have hq := hQ.out
        rw [← hlm.out] at hq ⊢
        cases Q
        · exact l16Give_no _ z es Bk cap _ hI0 hel hq
        · exact l16Give_yes _ z es Bk cap _ hI0 hel hq
      have hIz : Hid (IntsAt wr (if Q then Bk else none) (zq Q es)) := by
        cases Q
        · exact IntsAt.nil _ _
        · exact hI0
      have hnz : Hid (∀ a, (if Q then Bk else none) = some a → a.block ≠ w.heap.size + 1) := by
        cases Q
        · intro a ha; cases ha
        · exact hne
      have hGP : Hid (∀ (e : Ending) (w' : World), (∃ A c, e = .returned (.tuple #[.agg #[.slice A (zq Q es).length c, .int .i64 (zb Q z)], .bool Q]) ∧ IntsAt w' A (zq Q es) ∧ Below w.heap.size w w') → GPost w Q z es e w') := fun _ _ h => h
      generalize zq Q es = fs at *
      generalize zb Q z = y at *
      generalize (if Q then Bk else none) = E at *
      generalize (if Q then cap else 0) = ec at *
      clear hI0 hne hQ
      go_wp2_with fail
      refine hcall.out.mono ?_
      rintro e w3 ⟨rfl, hb3⟩
      have S4 := Lib.hid (HS.out.grow hb3)
      replace hIz := Lib.hid (hIz.out.grow hb3)
      clear HS hb3 hcall d0 d1
      have r0 := S4.out.cell (i := 2) rfl (o := 0) rfl
      have r1 := S4.out.cell (i := 2) rfl (o := 1) rfl
      have f0 := S4.out.frozen (i := 2) rfl 0
      have f1 := S4.out.frozen (i := 2) rfl 1
      have SF := (S4.out.store (i := 2) rfl 0 (.slice E fs.length ec)).store (i := 2) rfl 1 (.int .i64 y)
      have j0 := SF.cell (i := 2) rfl (o := 0) rfl
      have j1 := SF.cell (i := 2) rfl (o := 1) rfl
      have hB := SF.below
      clear SF
      go_wp2_with fail
      exact bodyPost_ret (v := .tuple #[.agg #[.slice E fs.length ec, .int .i64 y], .bool Q]) (by simp [results, Try.results14, go_sem, j0, j1]) rfl (hGP.out _ _ ⟨E, ec, rfl, (hIz.out.set (fun a ha => hnz.out a ha) 0 _).set (fun a ha => hnz.out a ha) 1 _, hB⟩)

end Go.Proofs.Ytcdgpekefiplnaa
