/- Contracts: AddPlanes, DividePlane and OppositePlane, in the program. -/
import Derived.Test.YtcdgpekefiplnaaPnG
namespace Go.Proofs.Ytcdgpekefiplnaa
open Go.RowKit

/-- A row stays where a new block is made and stored into. -/
theorem IntsAt.box {w : World} {A : Option Addr} {cs : List Int} (h : IntsAt w A cs) (bs : Array Value) (t : TypeId) (o : Nat) (u : Value) : IntsAt ((w.alloc (.cells bs t)).setCell ⟨w.heap.size, o, none⟩ u) A cs := by
  refine ⟨fun j hj => ?_, h.ok⟩
  obtain ⟨b, off, e, h1⟩ := h.at_ j hj
  have hb := World.block_lt_of_cell? _ _ h1
  have h2 := ((bcell (bal (bb w) (.cells bs t))).1 b (off + j) hb).trans h1
  exact ⟨b, off, e, (World.cell?_of_block (a := ⟨b, off + j, none⟩) (Below.heap_setCell _ _ _ _ (show b ≠ w.heap.size from Nat.ne_of_lt hb))).trans h2⟩

set_option maxRecDepth 100000 in
set_option maxHeartbeats 4000000 in
theorem addPlanesC_any (vars b d : Int) (cs ds : List Int) (A B : Option Addr) (ca da : Nat) (w : World) (hx : IntsAt w A cs) (hy : IntsAt w B ds) (hl : cs.length ≤ 1000000) (hl2 : ds.length ≤ 1000000) :
    Calls Try.prog 6 #[.int .i64 vars, .agg #[.slice A cs.length ca, .int .i64 b], .agg #[.slice B ds.length da, .int .i64 d]] w (GPost w (goodQ vars b cs && goodQ vars d ds && goodQ vars (b + d) (addQ cs ds)) (b + d) (addQ cs ds)) := by
  have S0 := ((Sp.start w).alloc_box #[.slice A cs.length ca, .int .i64 b] 26).alloc_box #[.slice B ds.length da, .int .i64 d] 26 |>.alloc_box #[.slice none 0 0, .int .i64 0] 26
  simp only [World.size_alloc] at S0
  have h1 := Lib.hid (isInequality_any vars b cs A ca _ (sp_ints S0 hx) hl)
  have h2 := Lib.hid (fun W (h : Below w.heap.size w W) => isInequality_any vars d ds B da W (hy.grow h) hl2)
  replace S0 := Lib.hid S0
  have c0 := S0.out.cell (i := 2) rfl (o := 0) rfl
  have c1 := S0.out.cell (i := 2) rfl (o := 1) rfl
  have c2 := S0.out.cell (i := 1) rfl (o := 0) rfl
  have c3 := S0.out.cell (i := 1) rfl (o := 1) rfl
  obtain ⟨z, hz⟩ : ∃ z, b + d = z := ⟨_, rfl⟩
  obtain ⟨Q, hQ⟩ : ∃ Q, (goodQ vars b cs && goodQ vars d ds && goodQ vars (b + d) (addQ cs ds)) = Q := ⟨_, rfl⟩
  rw [hQ, hz]
  cases h3 : goodQ vars b cs
  · rw [h3] at h1
    have hG : Hid (Q = false) := by rw [← hQ, h3]; rfl
    clear hQ hz hx hy h2 h3
    go_enter Try.func6, Try.ntmps6
    go_wp2_with fail
    refine h1.out.mono ?_
    rintro e w1 ⟨rfl, hb1⟩
    have S1 := Lib.hid (S0.out.grow hb1)
    clear S0 hb1 h1 c0 c1 c2 c3
    have r0 := S1.out.cell (i := 0) rfl (o := 0) rfl
    have r1 := S1.out.cell (i := 0) rfl (o := 1) rfl
    have f0 := S1.out.frozen (i := 0) rfl 0
    have f1 := S1.out.frozen (i := 0) rfl 1
    have SF := (S1.out.store (i := 0) rfl 0 (.slice none 0 0)).store (i := 0) rfl 1 (.int .i64 0)
    have j0 := SF.cell (i := 0) rfl (o := 0) rfl
    have j1 := SF.cell (i := 0) rfl (o := 1) rfl
    have hB := SF.below
    clear SF
    go_wp2_with fail
    exact bodyPost_ret (v := .tuple #[.agg #[.slice none 0 0, .int .i64 0], .bool false]) (by simp [results, Try.results6, go_sem, j0, j1]) rfl (gpost_no hG.out hB)
  cases h4 : goodQ vars d ds
  · rw [h3] at h1
    rw [h4] at h2
    have hG : Hid (Q = false) := by rw [← hQ, h3, h4]; rfl
    clear hQ hz hx hy h3 h4
    go_enter Try.func6, Try.ntmps6
    go_wp2_with fail
    refine h1.out.mono ?_
    rintro e w1 ⟨rfl, hb1⟩
    have S1 := Lib.hid (S0.out.grow hb1)
    clear S0 hb1 h1 c0 c1 c2 c3
    have c2 := S1.out.cell (i := 1) rfl (o := 0) rfl
    have c3 := S1.out.cell (i := 1) rfl (o := 1) rfl
    go_wp2_with fail
    refine (h2.out _ S1.out.below).mono ?_
    rintro e w1 ⟨rfl, hb1⟩
    have S2 := Lib.hid (S1.out.grow hb1)
    clear S1 hb1 h2 c2 c3
    have r0 := S2.out.cell (i := 0) rfl (o := 0) rfl
    have r1 := S2.out.cell (i := 0) rfl (o := 1) rfl
    have f0 := S2.out.frozen (i := 0) rfl 0
    have f1 := S2.out.frozen (i := 0) rfl 1
    have SF := (S2.out.store (i := 0) rfl 0 (.slice none 0 0)).store (i := 0) rfl 1 (.int .i64 0)
    have j0 := SF.cell (i := 0) rfl (o := 0) rfl
    have j1 := SF.cell (i := 0) rfl (o := 1) rfl
    have hB := SF.below
    clear SF
    go_wp2_with fail
    exact bodyPost_ret (v := .tuple #[.agg #[.slice none 0 0, .int .i64 0], .bool false]) (by simp [results, Try.results6, go_sem, j0, j1]) rfl (gpost_no hG.out hB)
  rw [h3] at h1
  rw [h4] at h2
  obtain ⟨g1, g2, g3, g4⟩ := good_q h3
  obtain ⟨g5, g6, g7, g8⟩ := good_q h4
  have hdl : ds.length = cs.length := by omega
  have hadd : Hid (∀ W, Below w.heap.size w W → Calls Try.prog 26 #[.agg #[.slice A cs.length ca, .int .i64 b], .agg #[.slice B ds.length da, .int .i64 d]] W (QPost W z (addQ cs ds))) := by
    intro W h
    have h9 := addPlanes_any cs ds b d A B ca da W (hx.grow h) (hy.grow h) (by omega) hdl (near_of g4) (near_of g8) g3 g7
    rw [comb_add, hz] at h9
    rw [hdl]
    exact h9
  have hel : (addQ cs ds).length ≤ 1000000 := by rw [add_len]; omega
  rw [h3, h4, hz, Bool.true_and, Bool.true_and] at hQ
  generalize addQ cs ds = es at *
  clear hx hy h3 h4 g1 g2 g3 g4 g5 g6 g7 g8 hdl hz
  cases hQ2 : Q
  · skip
    rw [hQ2] at hQ
    go_enter Try.func6, Try.ntmps6
    go_wp2_with fail
    refine h1.out.mono ?_
    rintro e w1 ⟨rfl, hb1⟩
    have S1 := Lib.hid (S0.out.grow hb1)
    clear S0 hb1 h1 c0 c1 c2 c3
    have c2 := S1.out.cell (i := 1) rfl (o := 0) rfl
    have c3 := S1.out.cell (i := 1) rfl (o := 1) rfl
    go_wp2_with fail
    refine (h2.out _ S1.out.below).mono ?_
    rintro e w1 ⟨rfl, hb1⟩
    have S2 := Lib.hid (S1.out.grow hb1)
    clear S1 hb1 h2 c2 c3
    have c0 := S2.out.cell (i := 2) rfl (o := 0) rfl
    have c1 := S2.out.cell (i := 2) rfl (o := 1) rfl
    have c2 := S2.out.cell (i := 1) rfl (o := 0) rfl
    have c3 := S2.out.cell (i := 1) rfl (o := 1) rfl
    go_wp2_with fail
    refine (hadd.out _ S2.out.below).mono ?_
    rintro e w2 ⟨E, ec, rfl, hI, hfr, hb2⟩
    have S3 := Lib.hid (S2.out.grow hb2)
    have hsz := (S2.out.box (i := 0) rfl).2.1
    replace hI := Lib.hid hI
    replace hfr := Lib.hid hfr
    clear S2 hadd c0 c1 c2 c3 hb2
    go_wp2_with fail
    refine (checkedPlane_no vars z es E ec _ hI.out hel hQ).mono ?_
    rintro e w3 ⟨rfl, hb3⟩
    have S4 := Lib.hid (S3.out.grow hb3)
    clear S3 hb3
    have r0 := S4.out.cell (i := 0) rfl (o := 0) rfl
    have r1 := S4.out.cell (i := 0) rfl (o := 1) rfl
    have f0 := S4.out.frozen (i := 0) rfl 0
    have f1 := S4.out.frozen (i := 0) rfl 1
    have SF := (S4.out.store (i := 0) rfl 0 (.slice none 0 0)).store (i := 0) rfl 1 (.int .i64 0)
    have j0 := SF.cell (i := 0) rfl (o := 0) rfl
    have j1 := SF.cell (i := 0) rfl (o := 1) rfl
    have hB := SF.below
    clear SF
    go_wp2_with fail
    exact bodyPost_ret (v := .tuple #[.agg #[.slice none 0 0, .int .i64 0], .bool false]) (by simp [results, Try.results6, go_sem, j0, j1]) rfl (gpost_no rfl hB)
  · rw [hQ2] at hQ
    go_enter Try.func6, Try.ntmps6
    go_wp2_with fail
    refine h1.out.mono ?_
    rintro e w1 ⟨rfl, hb1⟩
    have S1 := Lib.hid (S0.out.grow hb1)
    clear S0 hb1 h1 c0 c1 c2 c3
    have c2 := S1.out.cell (i := 1) rfl (o := 0) rfl
    have c3 := S1.out.cell (i := 1) rfl (o := 1) rfl
    go_wp2_with fail
    refine (h2.out _ S1.out.below).mono ?_
    rintro e w1 ⟨rfl, hb1⟩
    have S2 := Lib.hid (S1.out.grow hb1)
    clear S1 hb1 h2 c2 c3
    have c0 := S2.out.cell (i := 2) rfl (o := 0) rfl
    have c1 := S2.out.cell (i := 2) rfl (o := 1) rfl
    have c2 := S2.out.cell (i := 1) rfl (o := 0) rfl
    have c3 := S2.out.cell (i := 1) rfl (o := 1) rfl
    go_wp2_with fail
    refine (hadd.out _ S2.out.below).mono ?_
    rintro e w2 ⟨E, ec, rfl, hI, hfr, hb2⟩
    have S3 := Lib.hid (S2.out.grow hb2)
    have hsz := (S2.out.box (i := 0) rfl).2.1
    replace hI := Lib.hid hI
    replace hfr := Lib.hid hfr
    clear S2 hadd c0 c1 c2 c3 hb2
    go_wp2_with fail
    refine (checkedPlane_yes vars z es E ec _ hI.out hel hQ).mono ?_
    rintro e w3 ⟨rfl, hb3⟩
    have S4 := Lib.hid (S3.out.grow hb3)
    replace hI := Lib.hid (hI.out.grow hb3)
    clear S3 hb3
    have r0 := S4.out.cell (i := 0) rfl (o := 0) rfl
    have r1 := S4.out.cell (i := 0) rfl (o := 1) rfl
    have f0 := S4.out.frozen (i := 0) rfl 0
    have f1 := S4.out.frozen (i := 0) rfl 1
    have SF := (S4.out.store (i := 0) rfl 0 (.slice E es.length ec)).store (i := 0) rfl 1 (.int .i64 z)
    have j0 := SF.cell (i := 0) rfl (o := 0) rfl
    have j1 := SF.cell (i := 0) rfl (o := 1) rfl
    have hB := SF.below
    clear SF
    go_wp2_with fail
    exact bodyPost_ret (v := .tuple #[.agg #[.slice E es.length ec, .int .i64 z], .bool true]) (by simp [results, Try.results6, go_sem, j0, j1]) rfl (gpost_yes rfl ((hI.out.set (fun a ha => by have := hfr.out a ha; omega) 0 _).set (fun a ha => by have := hfr.out a ha; omega) 1 _) hB)


set_option maxRecDepth 100000 in
theorem checkedPlane_not (vars b : Int) (A : Option Addr) (n cap : Nat) (w : World) :
    Calls Try.prog 25 #[.int .i64 vars, .agg #[.slice A n cap, .int .i64 b], .bool false] w fun e w' => e = .returned (.tuple #[.agg #[.slice none 0 0, .int .i64 0], .bool false]) ∧ Below w.heap.size w w' := by
  have S1 := ((Sp.start w).alloc_box #[.slice A n cap, .int .i64 b] 26).alloc_box #[.slice none 0 0, .int .i64 0] 26
  simp only [World.size_alloc] at S1
  have j0 := S1.cell (i := 0) rfl (o := 0) rfl
  have j1 := S1.cell (i := 0) rfl (o := 1) rfl
  have hB := S1.below
  clear S1
  go_enter Try.func25, Try.ntmps25
  go_wp2_with fail
  exact bodyPost_ret (v := .tuple #[.agg #[.slice none 0 0, .int .i64 0], .bool false]) (by simp [results, Try.results25, go_sem, j0, j1]) rfl (⟨rfl, hB⟩)

set_option maxRecDepth 100000 in
set_option maxHeartbeats 4000000 in
theorem dividePlaneC_any (vars b k : Int) (cs : List Int) (A : Option Addr) (ca : Nat) (w : World) (hx : IntsAt w A cs) (hl : cs.length ≤ 1000000) :
    Calls Try.prog 10 #[.int .i64 vars, .agg #[.slice A cs.length ca, .int .i64 b], .int .i64 k] w (GPost w (goodQ vars b cs && inB k 2 1000 && !(cs.any fun c => c.tmod k != 0)) (upQ b k) (divQ k cs)) := by
  have S0 := ((Sp.start w).alloc_box #[.slice A cs.length ca, .int .i64 b] 26).alloc_box #[.slice none 0 0, .int .i64 0] 26
  simp only [World.size_alloc] at S0
  have h1 := Lib.hid (isInequality_any vars b cs A ca _ (sp_ints S0 hx) hl)
  replace S0 := Lib.hid S0
  have c0 := S0.out.cell (i := 1) rfl (o := 0) rfl
  have c1 := S0.out.cell (i := 1) rfl (o := 1) rfl
  obtain ⟨Q, hQ⟩ : ∃ Q, (goodQ vars b cs && inB k 2 1000 && !(cs.any fun c => c.tmod k != 0)) = Q := ⟨_, rfl⟩
  rw [hQ]
  cases h3 : goodQ vars b cs
  · rw [h3] at h1
    have hG : Hid (Q = false) := by rw [← hQ, h3]; rfl
    clear hQ hx h3
    go_enter Try.func10, Try.ntmps10
    go_wp2_with fail
    refine h1.out.mono ?_
    rintro e w1 ⟨rfl, hb1⟩
    have S1 := Lib.hid (S0.out.grow hb1)
    clear S0 hb1 h1 c0 c1
    have r0 := S1.out.cell (i := 0) rfl (o := 0) rfl
    have r1 := S1.out.cell (i := 0) rfl (o := 1) rfl
    have f0 := S1.out.frozen (i := 0) rfl 0
    have f1 := S1.out.frozen (i := 0) rfl 1
    have SF := (S1.out.store (i := 0) rfl 0 (.slice none 0 0)).store (i := 0) rfl 1 (.int .i64 0)
    have j0 := SF.cell (i := 0) rfl (o := 0) rfl
    have j1 := SF.cell (i := 0) rfl (o := 1) rfl
    have hB := SF.below
    clear SF
    go_wp2_with fail
    exact bodyPost_ret (v := .tuple #[.agg #[.slice none 0 0, .int .i64 0], .bool false]) (by simp [results, Try.results10, go_sem, j0, j1]) rfl (gpost_no hG.out hB)
  cases h4 : inB k 2 1000
  · rw [h3] at h1
    have hG : Hid (Q = false) := by rw [← hQ, h3, h4]; rfl
    clear hQ hx h3
    go_enter Try.func10, Try.ntmps10
    go_wp2_with fail
    refine h1.out.mono ?_
    rintro e w1 ⟨rfl, hb1⟩
    have S1 := Lib.hid (S0.out.grow hb1)
    clear S0 hb1 h1 c0 c1
    go_wp2_with fail
    refine (within_at h4 _).mono ?_
    rintro e w2 ⟨rfl, rfl⟩
    have r0 := S1.out.cell (i := 0) rfl (o := 0) rfl
    have r1 := S1.out.cell (i := 0) rfl (o := 1) rfl
    have f0 := S1.out.frozen (i := 0) rfl 0
    have f1 := S1.out.frozen (i := 0) rfl 1
    have SF := (S1.out.store (i := 0) rfl 0 (.slice none 0 0)).store (i := 0) rfl 1 (.int .i64 0)
    have j0 := SF.cell (i := 0) rfl (o := 0) rfl
    have j1 := SF.cell (i := 0) rfl (o := 1) rfl
    have hB := SF.below
    clear SF
    go_wp2_with fail
    exact bodyPost_ret (v := .tuple #[.agg #[.slice none 0 0, .int .i64 0], .bool false]) (by simp [results, Try.results10, go_sem, j0, j1]) rfl (gpost_no hG.out hB)
  rw [h3] at h1
  obtain ⟨g1, g2, g3, g4⟩ := good_q h3
  have hk := inB_true.1 h4
  have hd := Lib.hid (fun W (h : Below w.heap.size w W) => dividePlane_any k hk cs b A ca W (hx.grow h) (by omega) (near_of g4) g3)
  have hgd := div_good (b := b) (cs := cs) hk.1 h3
  have hel : (divQ k cs).length ≤ 1000000 := by simp [divQ]; omega
  rw [h3, h4, Bool.true_and, Bool.true_and] at hQ
  rw [hQ] at hd
  generalize upQ b k = z at *
  generalize divQ k cs = es at *
  clear hx h3 g1 g2 g3 g4 hk hQ
  cases Q
  · skip
    go_enter Try.func10, Try.ntmps10
    go_wp2_with fail
    refine h1.out.mono ?_
    rintro e w1 ⟨rfl, hb1⟩
    have S1 := Lib.hid (S0.out.grow hb1)
    clear S0 hb1 h1 c0 c1
    go_wp2_with fail
    refine (within_at h4 _).mono ?_
    rintro e w2 ⟨rfl, rfl⟩
    have c0 := S1.out.cell (i := 1) rfl (o := 0) rfl
    have c1 := S1.out.cell (i := 1) rfl (o := 1) rfl
    go_wp2_with fail
    refine (hd.out _ S1.out.below).mono ?_
    rintro e w2 ⟨E, ec, rfl, hI, hfr, hb2⟩
    have S3 := Lib.hid ((S1.out.grow hb2).alloc_box #[.slice E 0 ec, .int .i64 0] 26)
    have d0 := S3.out.cell (i := 0) rfl (o := 0) rfl
    have d1 := S3.out.cell (i := 0) rfl (o := 1) rfl
    clear S1 hd c0 c1 hb2 hI hfr
    go_wp2_with fail
    refine (checkedPlane_not vars 0 E 0 ec _).mono ?_
    rintro e w3 ⟨rfl, hb3⟩
    have S4 := Lib.hid (S3.out.grow hb3)
    clear S3 hb3 d0 d1
    have r0 := S4.out.cell (i := 1) rfl (o := 0) rfl
    have r1 := S4.out.cell (i := 1) rfl (o := 1) rfl
    have f0 := S4.out.frozen (i := 1) rfl 0
    have f1 := S4.out.frozen (i := 1) rfl 1
    have SF := (S4.out.store (i := 1) rfl 0 (.slice none 0 0)).store (i := 1) rfl 1 (.int .i64 0)
    have j0 := SF.cell (i := 1) rfl (o := 0) rfl
    have j1 := SF.cell (i := 1) rfl (o := 1) rfl
    have hB := SF.below
    clear SF
    go_wp2_with fail
    exact bodyPost_ret (v := .tuple #[.agg #[.slice none 0 0, .int .i64 0], .bool false]) (by simp [results, Try.results10, go_sem, j0, j1]) rfl (gpost_no rfl hB)
  · go_enter Try.func10, Try.ntmps10
    go_wp2_with fail
    refine h1.out.mono ?_
    rintro e w1 ⟨rfl, hb1⟩
    have S1 := Lib.hid (S0.out.grow hb1)
    clear S0 hb1 h1 c0 c1
    go_wp2_with fail
    refine (within_at h4 _).mono ?_
    rintro e w2 ⟨rfl, rfl⟩
    have c0 := S1.out.cell (i := 1) rfl (o := 0) rfl
    have c1 := S1.out.cell (i := 1) rfl (o := 1) rfl
    go_wp2_with fail
    refine (hd.out _ S1.out.below).mono ?_
    rintro e w2 ⟨E, ec, rfl, hI, hfr, hb2⟩
    have S3 := Lib.hid ((S1.out.grow hb2).alloc_box #[.slice E es.length ec, .int .i64 z] 26)
    have d0 := S3.out.cell (i := 0) rfl (o := 0) rfl
    have d1 := S3.out.cell (i := 0) rfl (o := 1) rfl
    have hsz := (S1.out.box (i := 0) rfl).2.1
    have hI2 : IntsAt _ E es := hI.grow (bal (bb _) (.cells #[.slice E es.length ec, .int .i64 z] 26))
    replace hI := Lib.hid hI2
    replace hfr := Lib.hid hfr
    clear S1 hd c0 c1 hb2 hI2
    go_wp2_with fail
    refine (checkedPlane_yes vars z es E ec _ hI.out hel hgd).mono ?_
    rintro e w3 ⟨rfl, hb3⟩
    have S4 := Lib.hid (S3.out.grow hb3)
    replace hI := Lib.hid (hI.out.grow hb3)
    clear S3 hb3 d0 d1
    have r0 := S4.out.cell (i := 1) rfl (o := 0) rfl
    have r1 := S4.out.cell (i := 1) rfl (o := 1) rfl
    have f0 := S4.out.frozen (i := 1) rfl 0
    have f1 := S4.out.frozen (i := 1) rfl 1
    have SF := (S4.out.store (i := 1) rfl 0 (.slice E es.length ec)).store (i := 1) rfl 1 (.int .i64 z)
    have j0 := SF.cell (i := 1) rfl (o := 0) rfl
    have j1 := SF.cell (i := 1) rfl (o := 1) rfl
    have hB := SF.below
    clear SF
    go_wp2_with fail
    exact bodyPost_ret (v := .tuple #[.agg #[.slice E es.length ec, .int .i64 z], .bool true]) (by simp [results, Try.results10, go_sem, j0, j1]) rfl (gpost_yes rfl ((hI.out.set (fun a ha => by have := hfr.out a ha; omega) 0 _).set (fun a ha => by have := hfr.out a ha; omega) 1 _) hB)


set_option maxRecDepth 100000 in
set_option maxHeartbeats 4000000 in
theorem oppositePlane_any (vars b : Int) (cs : List Int) (A : Option Addr) (ca : Nat) (w : World) (hx : IntsAt w A cs) (hl : cs.length ≤ 1000000) :
    Calls Try.prog 13 #[.int .i64 vars, .agg #[.slice A cs.length ca, .int .i64 b]] w (GPost w (goodQ vars b cs && goodQ vars (1 - b) (mulQ (-1) cs)) (1 - b) (mulQ (-1) cs)) := by
  have S0 := ((Sp.start w).alloc_box #[.slice A cs.length ca, .int .i64 b] 26).alloc_box #[.slice none 0 0, .int .i64 0] 26
  simp only [World.size_alloc] at S0
  have h1 := Lib.hid (isInequality_any vars b cs A ca _ (sp_ints S0 hx) hl)
  replace S0 := Lib.hid S0
  have c0 := S0.out.cell (i := 1) rfl (o := 0) rfl
  have c1 := S0.out.cell (i := 1) rfl (o := 1) rfl
  obtain ⟨z, hz⟩ : ∃ z, 1 - b = z := ⟨_, rfl⟩
  obtain ⟨Q, hQ⟩ : ∃ Q, (goodQ vars b cs && goodQ vars (1 - b) (mulQ (-1) cs)) = Q := ⟨_, rfl⟩
  rw [hQ, hz]
  cases h3 : goodQ vars b cs
  · rw [h3] at h1
    have hG : Hid (Q = false) := by rw [← hQ, h3]; rfl
    clear hQ hx h3
    go_enter Try.func13, Try.ntmps13
    go_wp2_with fail
    refine h1.out.mono ?_
    rintro e w1 ⟨rfl, hb1⟩
    have S1 := Lib.hid (S0.out.grow hb1)
    clear S0 hb1 h1 c0 c1
    have r0 := S1.out.cell (i := 0) rfl (o := 0) rfl
    have r1 := S1.out.cell (i := 0) rfl (o := 1) rfl
    have f0 := S1.out.frozen (i := 0) rfl 0
    have f1 := S1.out.frozen (i := 0) rfl 1
    have SF := (S1.out.store (i := 0) rfl 0 (.slice none 0 0)).store (i := 0) rfl 1 (.int .i64 0)
    have j0 := SF.cell (i := 0) rfl (o := 0) rfl
    have j1 := SF.cell (i := 0) rfl (o := 1) rfl
    have hB := SF.below
    clear SF
    go_wp2_with fail
    exact bodyPost_ret (v := .tuple #[.agg #[.slice none 0 0, .int .i64 0], .bool false]) (by simp [results, Try.results13, go_sem, j0, j1]) rfl (gpost_no hG.out hB)
  rw [h3] at h1
  obtain ⟨g1, g2, g3, g4⟩ := good_q h3
  have hd := Lib.hid (fun W (h : Below w.heap.size w W) => scalePlane_any (-1) (by omega) cs b A ca W (hx.grow h) (by omega) (near_of g4) g3)
  rw [comb_mul] at hd
  obtain ⟨y, hy⟩ : ∃ y, -1 * b = y := ⟨_, rfl⟩
  rw [hy] at hd
  have hw : IntKind.i64.wrap (y + 1) = z := by rw [IntWalk.i64_in _ (by omega)]; omega
  have hel : (mulQ (-1) cs).length ≤ 1000000 := by simp [mulQ]; omega
  rw [h3, hz, Bool.true_and] at hQ
  generalize mulQ (-1) cs = es at *
  clear hx h3 g1 g2 g3 g4 hy hz
  cases hQ2 : Q
  · skip
    rw [hQ2] at hQ
    go_enter Try.func13, Try.ntmps13
    go_wp2_with fail
    refine h1.out.mono ?_
    rintro e w1 ⟨rfl, hb1⟩
    have S1 := Lib.hid (S0.out.grow hb1)
    clear S0 hb1 h1 c0 c1
    have c0 := S1.out.cell (i := 1) rfl (o := 0) rfl
    have c1 := S1.out.cell (i := 1) rfl (o := 1) rfl
    go_wp2_with fail
    refine (hd.out _ S1.out.below).mono ?_
    rintro e w2 ⟨E, ec, rfl, hI, hfr, hb2⟩
    have S5 := Lib.hid ((S1.out.grow hb2).alloc_box #[.slice E es.length ec, .int .i64 z] 26)
    have d2 := S5.out.cell (i := 0) rfl (o := 0) rfl
    have d3 := S5.out.cell (i := 0) rfl (o := 1) rfl
    have hsz := (S1.out.box (i := 0) rfl).2.1
    have hI2 := hI.grow (bal (bb _) (.cells #[.slice E es.length ec, .int .i64 z] 26))
    replace hI := Lib.hid hI2
    replace hfr := Lib.hid hfr
    clear S1 hd c0 c1 hb2 hI2
    go_wp2_with fail
    refine (checkedPlane_no vars z es E ec _ hI.out hel hQ).mono ?_
    rintro e w3 ⟨rfl, hb3⟩
    have S4 := Lib.hid (S5.out.grow hb3)
    clear S5 hb3 d2 d3
    have r0 := S4.out.cell (i := 1) rfl (o := 0) rfl
    have r1 := S4.out.cell (i := 1) rfl (o := 1) rfl
    have f0 := S4.out.frozen (i := 1) rfl 0
    have f1 := S4.out.frozen (i := 1) rfl 1
    have SF := (S4.out.store (i := 1) rfl 0 (.slice none 0 0)).store (i := 1) rfl 1 (.int .i64 0)
    have j0 := SF.cell (i := 1) rfl (o := 0) rfl
    have j1 := SF.cell (i := 1) rfl (o := 1) rfl
    have hB := SF.below
    clear SF
    go_wp2_with fail
    exact bodyPost_ret (v := .tuple #[.agg #[.slice none 0 0, .int .i64 0], .bool false]) (by simp [results, Try.results13, go_sem, j0, j1]) rfl (gpost_no rfl hB)
  · rw [hQ2] at hQ
    go_enter Try.func13, Try.ntmps13
    go_wp2_with fail
    refine h1.out.mono ?_
    rintro e w1 ⟨rfl, hb1⟩
    have S1 := Lib.hid (S0.out.grow hb1)
    clear S0 hb1 h1 c0 c1
    have c0 := S1.out.cell (i := 1) rfl (o := 0) rfl
    have c1 := S1.out.cell (i := 1) rfl (o := 1) rfl
    go_wp2_with fail
    refine (hd.out _ S1.out.below).mono ?_
    rintro e w2 ⟨E, ec, rfl, hI, hfr, hb2⟩
    have S5 := Lib.hid ((S1.out.grow hb2).alloc_box #[.slice E es.length ec, .int .i64 z] 26)
    have d2 := S5.out.cell (i := 0) rfl (o := 0) rfl
    have d3 := S5.out.cell (i := 0) rfl (o := 1) rfl
    have hsz := (S1.out.box (i := 0) rfl).2.1
    have hI2 := hI.grow (bal (bb _) (.cells #[.slice E es.length ec, .int .i64 z] 26))
    replace hI := Lib.hid hI2
    replace hfr := Lib.hid hfr
    clear S1 hd c0 c1 hb2 hI2
    go_wp2_with fail
    refine (checkedPlane_yes vars z es E ec _ hI.out hel hQ).mono ?_
    rintro e w3 ⟨rfl, hb3⟩
    have S4 := Lib.hid (S5.out.grow hb3)
    replace hI := Lib.hid (hI.out.grow hb3)
    clear S5 hb3 d2 d3
    have r0 := S4.out.cell (i := 1) rfl (o := 0) rfl
    have r1 := S4.out.cell (i := 1) rfl (o := 1) rfl
    have f0 := S4.out.frozen (i := 1) rfl 0
    have f1 := S4.out.frozen (i := 1) rfl 1
    have SF := (S4.out.store (i := 1) rfl 0 (.slice E es.length ec)).store (i := 1) rfl 1 (.int .i64 z)
    have j0 := SF.cell (i := 1) rfl (o := 0) rfl
    have j1 := SF.cell (i := 1) rfl (o := 1) rfl
    have hB := SF.below
    clear SF
    go_wp2_with fail
    exact bodyPost_ret (v := .tuple #[.agg #[.slice E es.length ec, .int .i64 z], .bool true]) (by simp [results, Try.results13, go_sem, j0, j1]) rfl (gpost_yes rfl ((hI.out.set (fun a ha => by have := hfr.out a ha; omega) 0 _).set (fun a ha => by have := hfr.out a ha; omega) 1 _) hB)


end Go.Proofs.Ytcdgpekefiplnaa
