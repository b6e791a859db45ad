/- Lemmas and contracts for a law, put together out of several texts: DuC DuD TxF CyA CyB CyC. -/
import Derived.Test.YtbemodacpimiiaaGreatMg9
import Derived.Test.YtbemodacpimiiaaGreatMg7
import Derived.Test.YtbemodacpimiiaaGreatMg8
import Derived.Test.YtbemodacpimiiaaGreatMg6
/- Contracts: diagrams of a Cnf and of a clause, counts, in the reference. Printed by gen_duc.py. -/
namespace Go.Proofs.YtbemodacpimiiaaGreat
open Go.RowKit

set_option maxRecDepth 100000 in
set_option maxHeartbeats 4000000 in
theorem specOfCnf_any (vars : Int) (v : Value) (xss : List (List Int)) (F : List Nat) (w : World) (hx : (Ty.slice Ty.int).row false w v xss F) :
    Calls Tryz.prog 22 #[.agg #[.int .i64 vars, v]] w (DgTold w (dCnf vars xss) (outR (dCnf vars xss) vars (modT xss)) (outN (dCnf vars xss) vars (modT xss))) := by
  obtain ⟨A, cap, rfl, hI⟩ := cls_row hx
  have S0 := ((Sp.start w).alloc_box #[.int .i64 vars, .slice A xss.length cap] 45).alloc_box #[.int .i64 0, .slice none 0 0] 26
  simp only [World.size_alloc] at S0
  have hcall := Lib.hid (l26Asked_any vars _ xss F _ (Ty.row_below hx S0.below (Ty.row_lt hx)))
  replace hI := Lib.hid hI
  replace S0 := Lib.hid S0
  clear hx
  cases h1 : dCnf vars xss
  · rw [h1] at hcall
    go_enter Tryz.func22, Tryz.ntmps22
    go_wp2_with fail
    refine hcall.out.mono ?_
    rintro e w1 ⟨rfl, hb1⟩
    have S1 := S0.out.grow hb1
    have r0 := S1.cell (i := 0) rfl (o := 0) rfl
    have r1 := S1.cell (i := 0) rfl (o := 1) rfl
    have f0 := S1.frozen (i := 0) rfl 0
    have f1 := S1.frozen (i := 0) rfl 1
    have S9 := (S1.store (i := 0) rfl 0 (.int .i64 0)).store (i := 0) rfl 1 (.slice none 0 0)
    have j0 := S9.cell (i := 0) rfl (o := 0) rfl
    have j1 := S9.cell (i := 0) rfl (o := 1) rfl
    have hB := S9.below
    clear S9 S0 S1 hcall hb1
    go_wp2_with fail
    exact bodyPost_ret (v := .tuple #[.agg #[.int .i64 0, .slice none 0 0], .bool false]) (by simp [results, Tryz.results22, go_sem, j0, j1]) rfl ⟨none, 0, rfl, .nil _, (fun a e => by cases e), hB⟩
  rw [h1] at hcall
  unfold dCnf at h1
  rw [Bool.and_eq_true, inB_def] at h1
  obtain ⟨⟨hv0, hv1⟩, hg⟩ := h1
  have hgc := good_cnf hg
  obtain ⟨n, rfl⟩ := Int.eq_ofNat_of_zero_le hv0
  have hn : n ≤ 6 := by omega
  have hR : Hid (outR true (n : Int) (modT xss) = dgR n (modT xss)) := rfl
  have hN : Hid (outN true (n : Int) (modT xss) = dgN n (modT xss)) := rfl
  have hcnf := Lib.hid (fun W (hb : Below w.heap.size w W) => l26Cnf_any n xss.length hn xss hgc.2.2.1 (Nat.le_refl _) (by omega) A cap W (hI.out.grow hb))
  rw [List.take_length] at hcnf
  have hof := Lib.hid (fun A c W h => l26Of_any n hn (modT xss) A c W h)
  clear hgc hg hI hv0 hv1
  generalize hRn : dgR n (modT xss) = rr at *
  generalize hNn : dgN n (modT xss) = nn at *
  generalize modT xss = f at *
  generalize xss.length = m at *
  generalize 2 ^ n = N at *
  go_enter Tryz.func22, Tryz.ntmps22
  go_wp2_with fail
  refine hcall.out.mono ?_
  rintro e w1 ⟨rfl, hb1⟩
  have S1 := Lib.hid (S0.out.grow hb1)
  clear S0 hcall hb1
  go_wp2_with fail
  refine wp_region_held_lit (S := (fun w' => w'.cell? ⟨w.heap.size, 0, none⟩ = some (.int .i64 n) ∧ w'.cell? ⟨w.heap.size, 1, none⟩ = some (.slice A m cap))) 10 [false, false, false, false, false, false, false, false, false, false] (by kernel_rfl) (by kernel_rfl) (by kernel_rfl) ?_ ?_
  · exact ⟨S1.out.cell (i := 1) rfl (o := 0) rfl, S1.out.cell (i := 1) rfl (o := 1) rfl⟩
  intro hSc
  (refine wpAnyH_take (i := 0) (v := ?_) rfl (by kernel_rfl) (by kernel_rfl) (by kernel_rfl) (fun _ _ _ h => h) (Or.inl ⟨by rfl, ?_⟩) (by assumption) ?_; rotate_left; (focus (intro w hSw; (try dsimp only at hSw); go_simp; (try with_reducible rfl); done)); (try simp only [put_rules]))
  (refine wpAnyH_take (i := 1) (v := ?_) rfl (by kernel_rfl) (by kernel_rfl) (by kernel_rfl) (fun _ _ _ h => h) (Or.inl ⟨by rfl, ?_⟩) (by assumption) ?_; rotate_left; (focus (intro w hSw; (try dsimp only at hSw); go_simp; (try with_reducible rfl); done)); (try simp only [put_rules]))
  (refine wpAnyH_take (i := 2) (v := ?_) rfl (by kernel_rfl) (by kernel_rfl) (by kernel_rfl) (fun _ _ _ h => h) (Or.inl ⟨by rfl, ?_⟩) (by assumption) ?_; rotate_left; (focus (intro w hSw; (try dsimp only at hSw); go_simp; (try with_reducible rfl); done)); (try simp only [put_rules]))
  (refine wpAnyH_take (i := 3) (v := ?_) rfl (by kernel_rfl) (by kernel_rfl) (by kernel_rfl) (fun _ _ _ h => h) (Or.inl ⟨by rfl, ?_⟩) (by assumption) ?_; rotate_left; (focus (intro w hSw; (try dsimp only at hSw); go_simp; (try with_reducible rfl); done)); (try simp only [put_rules]))
  (refine wpAnyH_take (i := 4) (v := ?_) rfl (by kernel_rfl) (by kernel_rfl) (by kernel_rfl) (fun _ _ _ h => h) (Or.inl ⟨by rfl, ?_⟩) (by assumption) ?_; rotate_left; (focus (intro w hSw; (try dsimp only at hSw); go_simp; (try with_reducible rfl); done)); (try simp only [put_rules]))
  (refine wpAnyH_take (i := 5) (v := ?_) rfl (by kernel_rfl) (by kernel_rfl) (by kernel_rfl) (fun _ _ _ h => h) (Or.inl ⟨by rfl, ?_⟩) (by assumption) ?_; rotate_left; (focus (intro w hSw; (try dsimp only at hSw); go_simp; (try with_reducible rfl); done)); (try simp only [put_rules]))
  (refine wpAnyH_ready (rs := [6]) (by kernel_rfl) (by simp) ?_; refine AllReadyH.cons rfl (fun K hK => ?_) AllReadyH.nil)
  go_simp
  go_at_call 63
  refine (hcnf.out _ (bdr S1.out.below)).mono ?_
  rintro e w2 ⟨A3, c3, rfl, T3⟩
  obtain ⟨A3', c3', e3, hb3⟩ := bl_own (T3.own (i := 0) rfl)
  cases e3
  have S2 := Lib.hid (S1.out.drew.grow T3.below)
  have hof2 := Lib.hid (hof.out _ c3 _ hb3)
  clear S1 hcnf T3 hb3 hof
  go_wp2_with fail
  refine hK.out _ _ ⟨S2.out.cell (i := 1) rfl (o := 0) rfl, S2.out.cell (i := 1) rfl (o := 1) rfl⟩ (fun hSd => ?_)
  clear hK hSc
  (try simp only [put_rules])
  (refine wpAnyH_ready (rs := [7]) (by kernel_rfl) (by simp) ?_; refine AllReadyH.cons rfl (fun K hK => ?_) AllReadyH.nil)
  go_simp
  go_at_call 45
  refine hof2.out.mono ?_
  rintro e w3 ⟨v, rfl, B, k, rfl, hNd, hfr, hb3⟩
  have S3 := S2.out.grow hb3
  have r0 := S3.cell (i := 0) rfl (o := 0) rfl
  have r1 := S3.cell (i := 0) rfl (o := 1) rfl
  have f0 := S3.frozen (i := 0) rfl 0
  have f1 := S3.frozen (i := 0) rfl 1
  have q3 := Lib.hid (show w3.cell? ⟨w.heap.size, 0, none⟩ = some (.int .i64 n) ∧ w3.cell? ⟨w.heap.size, 1, none⟩ = some (.slice A m cap) from ⟨S3.cell (i := 1) rfl (o := 0) rfl, S3.cell (i := 1) rfl (o := 1) rfl⟩)
  have S9 := (S3.store (i := 0) rfl 0 (.int .i64 rr)).store (i := 0) rfl 1 (.slice B nn.length k)
  have q9 := Lib.hid (And.intro (S9.cell (i := 1) rfl (o := 0) rfl) (S9.cell (i := 1) rfl (o := 1) rfl))
  have j0 := Lib.hid (S9.cell (i := 0) rfl (o := 0) rfl)
  have j1 := Lib.hid (S9.cell (i := 0) rfl (o := 1) rfl)
  have hB := Lib.hid S9.below
  have hlt := (S2.out.box (i := 0) rfl).2.1
  have hne : ∀ a, B = some a → a.block ≠ w.heap.size + 1 := fun a ha => by have := hfr a ha; omega
  have hNd2 := Lib.hid ((hNd.set hne 0 (.int .i64 rr)).set hne 1 (.slice B nn.length k))
  have hfr2 : Hid (∀ a, B = some a → w.heap.size ≤ a.block) := fun a ha => by have := hfr a ha; omega
  clear S9 S3 S2 hNd hfr hne hlt hof2 hb3
  go_wp2_with fail
  refine hK.out _ _ q3.out (fun hSe => ?_)
  clear hK hSd q3
  (try simp only [put_rules])
  (refine wpAnyH_ready (rs := [8]) (by kernel_rfl) (by simp) ?_; refine AllReadyH.cons rfl (fun K hK => ?_) AllReadyH.nil)
  go_simp
  refine hK.out _ _ q9.out (fun hSf => ?_)
  clear hK hSe q9 r0 r1 f0 f1
  (try simp only [put_rules])
  (refine wpAnyH_take (i := 9) (v := ?_) rfl (by kernel_rfl) (by kernel_rfl) (by kernel_rfl) (fun _ _ _ h => h) (Or.inl ⟨by rfl, ?_⟩) (by assumption) ?_; rotate_left; (focus (intro w hSw; (try dsimp only at hSw); go_simp; (try with_reducible rfl); done)); (try simp only [put_rules]))
  (refine wpAnyH_done (by kernel_rfl) ?_ _)
  clear hSf
  have j0' := j0.out
  have j1' := j1.out
  clear j0 j1
  go_wp2_with fail
  exact bodyPost_ret (v := .tuple #[.agg #[.int .i64 rr, .slice B nn.length k], .bool true]) (by simp [results, Tryz.results22, go_sem, j0', j1']) rfl ⟨B, k, by rw [hR.out, hN.out], by rw [hN.out]; exact hNd2.out, hfr2.out, hB.out⟩
theorem modT_one (c : List Int) : modT ([c].take 1) = clT c := by funext b; simp [modT]
set_option maxRecDepth 100000 in
set_option maxHeartbeats 4000000 in
theorem specOfClause_any (vars : Int) (c : List Int) (A : Option Addr) (cap : Nat) (F : List Nat) (w : World) (hx : Ty.int.row false w (.slice A c.length cap) c F) :
    Calls Tryz.prog 26 #[.int .i64 vars, .slice A c.length cap] w
      (DgTold w (inB vars 0 6 && clauseB vars c) (outR (inB vars 0 6 && clauseB vars c) vars (clT c)) (outN (inB vars 0 6 && clauseB vars c) vars (clT c))) := by
  have S0 := (Sp.start w).alloc_box #[.int .i64 0, .slice none 0 0] 26
  have hv := Lib.hid (fun W => l26Vars_any vars W)
  have hcl := Lib.hid (l2Clause_any vars _ c F _ (Ty.row_below hx S0.below (Ty.row_lt hx)))
  obtain ⟨_, _, e2, hI⟩ := ints_row hx
  cases e2
  replace hI := Lib.hid hI
  replace S0 := Lib.hid S0
  clear hx
  cases h1 : inB vars 0 6
  · rw [h1] at hv
    clear hcl hI
    go_enter Tryz.func26, Tryz.ntmps26
    go_wp2_with fail
    refine (hv.out _).mono ?_
    rintro e w1 ⟨rfl, rfl⟩
    have j0 := S0.out.cell (i := 0) rfl (o := 0) rfl
    have j1 := S0.out.cell (i := 0) rfl (o := 1) rfl
    have hB := S0.out.below
    clear S0 hv
    go_wp2_with fail
    exact bodyPost_ret (v := .tuple #[.agg #[.int .i64 0, .slice none 0 0], .bool false]) (by simp [results, Tryz.results26, go_sem, j0, j1]) rfl ⟨none, 0, rfl, .nil _, (fun a e => by cases e), hB⟩
  rw [h1] at hv
  cases h2 : clauseB vars c
  · rw [h2] at hcl
    clear hI
    go_enter Tryz.func26, Tryz.ntmps26
    go_wp2_with fail
    refine (hv.out _).mono ?_
    rintro e w1 ⟨rfl, rfl⟩
    go_wp2_with fail
    refine hcl.out.mono ?_
    rintro e w2 ⟨rfl, hb2⟩
    have S1 := S0.out.grow hb2
    have r0 := S1.cell (i := 0) rfl (o := 0) rfl
    have r1 := S1.cell (i := 0) rfl (o := 1) rfl
    have f0 := S1.frozen (i := 0) rfl 0
    have f1 := S1.frozen (i := 0) rfl 1
    have S9 := (S1.store (i := 0) rfl 0 (.int .i64 0)).store (i := 0) rfl 1 (.slice none 0 0)
    have j0 := S9.cell (i := 0) rfl (o := 0) rfl
    have j1 := S9.cell (i := 0) rfl (o := 1) rfl
    have hB := S9.below
    clear S9 S0 S1 hv hcl hb2
    go_wp2_with fail
    exact bodyPost_ret (v := .tuple #[.agg #[.int .i64 0, .slice none 0 0], .bool false]) (by simp [results, Tryz.results26, go_sem, j0, j1]) rfl ⟨none, 0, rfl, .nil _, (fun a e => by cases e), hB⟩
  rw [h2] at hcl
  rw [inB_def] at h1
  obtain ⟨n, rfl⟩ := Int.eq_ofNat_of_zero_le h1.1
  have hn : n ≤ 6 := by omega
  have hR : Hid (outR (true && true) (n : Int) (clT c) = dgR n (clT c)) := rfl
  have hN : Hid (outN (true && true) (n : Int) (clT c) = dgN n (clT c)) := rfl
  have hcnf := Lib.hid (fun D k W (h : ClsAt W D [c]) => l26Cnf_any n 1 hn [c] (by intro x hx; rw [List.mem_singleton.1 hx]; exact h2) (Nat.le_refl _) (by simp) D k W h)
  rw [modT_one] at hcnf
  have hone : Hid (∀ W (hb : Below w.heap.size w W), ClsAt (W.alloc (.cells #[.slice A c.length cap] 37)) (some ⟨W.heap.size, 0, none⟩) [c]) := fun W hb => ⟨fun j hj => by
    obtain rfl : j = 0 := by simpa using hj
    exact ⟨W.heap.size, 0, A, cap, rfl, cell_of_row _ _ _ _ _ _ (heap_alloc_new W _), (hI.out.grow hb).grow (bal (bb W) _)⟩⟩
  have hof := Lib.hid (fun A c' W h => l26Of_any n hn (clT c) A c' W h)
  clear h1 h2 hI
  generalize hRn : dgR n (clT c) = rr at *
  generalize hNn : dgN n (clT c) = nn at *
  generalize clT c = f at *
  generalize 2 ^ n = N at *
  go_enter Tryz.func26, Tryz.ntmps26
  go_wp2_with fail
  refine (hv.out _).mono ?_
  rintro e w1 ⟨rfl, rfl⟩
  go_wp2_with fail
  refine hcl.out.mono ?_
  rintro e w2 ⟨rfl, hb2⟩
  have S1 := S0.out.grow hb2
  have hcnf2 := Lib.hid (hcnf.out _ 1 _ (hone.out _ S1.below))
  have S2 := Lib.hid (S1.alloc (.cells #[.slice A c.length cap] 37))
  clear S0 S1 hcl hb2 hcnf hone hv
  go_wp2_with fail
  refine hcnf2.out.mono ?_
  rintro e w3 ⟨A3, c3, rfl, T3⟩
  obtain ⟨A3', c3', e3, hb3⟩ := bl_own (T3.own (i := 0) rfl)
  cases e3
  have S3 := Lib.hid (S2.out.grow T3.below)
  have hof2 := Lib.hid (hof.out _ c3 _ hb3)
  clear S2 hcnf2 T3 hb3 hof
  go_wp2_with fail
  refine hof2.out.mono ?_
  rintro e w4 ⟨v, rfl, B, k, rfl, hNd, hfr, hb3⟩
  have S4 := S3.out.grow hb3
  have r0 := S4.cell (i := 0) rfl (o := 0) rfl
  have r1 := S4.cell (i := 0) rfl (o := 1) rfl
  have f0 := S4.frozen (i := 0) rfl 0
  have f1 := S4.frozen (i := 0) rfl 1
  have S9 := (S4.store (i := 0) rfl 0 (.int .i64 rr)).store (i := 0) rfl 1 (.slice B nn.length k)
  have j0 := S9.cell (i := 0) rfl (o := 0) rfl
  have j1 := S9.cell (i := 0) rfl (o := 1) rfl
  have hB := S9.below
  have hlt := (S3.out.box (i := 0) rfl).2.1
  have hne : ∀ a, B = some a → a.block ≠ w.heap.size := fun a ha => by have := hfr a ha; omega
  have hNd2 := Lib.hid ((hNd.set hne 0 (.int .i64 rr)).set hne 1 (.slice B nn.length k))
  have hfr2 : Hid (∀ a, B = some a → w.heap.size ≤ a.block) := fun a ha => by have := hfr a ha; omega
  clear S9 hNd hfr hne hlt S3 S4 hof2 hb3
  go_wp2_with fail
  exact bodyPost_ret (v := .tuple #[.agg #[.int .i64 rr, .slice B nn.length k], .bool true]) (by simp [results, Tryz.results26, go_sem, j0, j1]) rfl ⟨B, k, by rw [hR.out, hN.out]; rfl, by rw [hN.out]; exact hNd2.out, hfr2.out, hB⟩
set_option maxRecDepth 100000 in
set_option maxHeartbeats 4000000 in
theorem specCount_any (vars r : Int) (A : Option Addr) (c : Nat) (ns : List Nd) (w : World) (hx : NdAt w A ns) (hl : ns.length ≤ 1000000) :
    Calls Tryz.prog 14 #[.int .i64 vars, dgV r (.slice A ns.length c)] w fun e w' => e = .returned (.tuple #[.int .i64 (outC (goodD vars r ns) vars (valD r ns)), .bool (goodD vars r ns)]) ∧ Below w.heap.size w w' := by
  have S0 := (Sp.start w).alloc_box #[.int .i64 r, .slice A ns.length c] 26
  have hcall := Lib.hid (l26Good_any vars r A c ns _ (hx.grow S0.below) hl)
  replace hx := Lib.hid hx
  replace S0 := Lib.hid S0
  cases h1 : goodD vars r ns
  · rw [h1] at hcall
    go_enter Tryz.func14, Tryz.ntmps14
    go_wp2_with fail
    refine hcall.out.mono ?_
    rintro e w1 ⟨rfl, hb1⟩
    have hB := (S0.out.grow hb1).below
    clear S0 hcall hb1
    go_wp2_with fail
    go_ret2
    exact ⟨rfl, hB⟩
  have g1 := good_parts h1
  rw [h1] at hcall
  obtain ⟨n, rfl⟩ := Int.eq_ofNat_of_zero_le g1.1.1
  have hn : n ≤ 6 := by omega
  have hval := Lib.hid (fun W hb => l26Values_any n hn r A c ns W (hx.out.grow hb) hl g1.2.2.2 g1.2.2.1.1 g1.2.2.1.2)
  have hp := (pow_small hn).2
  have hC : Hid (outC true (n : Int) (valD r ns) = ((cntK (2 ^ n) (valD r ns) : Nat) : Int)) := by unfold Hid outC cntB cntK; rw [Int.toNat_natCast]; rfl
  clear g1 hx
  generalize valD r ns = f at *
  generalize 2 ^ n = N at *
  go_enter Tryz.func14, Tryz.ntmps14
  go_wp2_with fail
  refine hcall.out.mono ?_
  rintro e w1 ⟨rfl, hb1⟩
  have S1 := S0.out.grow hb1
  have d0 := S1.cell (i := 0) rfl (o := 0) rfl
  have d1 := S1.cell (i := 0) rfl (o := 1) rfl
  have hval2 := Lib.hid (hval.out _ S1.below)
  replace S1 := Lib.hid S1
  clear S0 hcall hb1 hval
  go_wp2_with fail
  refine hval2.out.mono ?_
  rintro e w2 ⟨A3, c3, rfl, T3⟩
  obtain ⟨A3', c3', e3, hb3⟩ := bl_own (T3.own (i := 0) rfl)
  cases e3
  have hB := Lib.hid (S1.out.grow T3.below).below
  replace hb3 := Lib.hid hb3
  clear S1 hval2 T3 d0 d1
  go_wp2_with fail
  go_loopw [6, 8] (fun cv i wr => ∃ j : Nat, j ≤ N ∧ i = .int .i64 (j : Int) ∧ cv = .int .i64 ((cntK j f : Nat) : Int) ∧ Hid (wr = w2)) (fun _ i _ => N - (intOf i).toNat)
  case atStart => exact ⟨0, Nat.zero_le _, rfl, rfl, rfl⟩
  case round =>
    obtain ⟨j, hj, rfl, rfl, hw⟩ := hrel
    have hcj := cntK_le j f
    by_cases hlt : j < N
    · obtain ⟨b, off, rfl, m0⟩ := hb3.out j hlt
      have hs := Lib.hid (cntK_succ j f)
      rw [← hw.out] at m0
      generalize f j = q at *
      generalize cntK j f = z at *
      have hz1 : IntKind.i64.wrap ((z : Int) + 1) = ((z + 1 : Nat) : Int) := by rw [IntWalk.i64_in _ (by omega)]; omega
      have hji : (j : Int) < N := by omega
      cases q
      · have hs2 : Hid (cntK (j + 1) f = z) := by unfold Hid; rw [hs.out]; rfl
        clear hs
        go_wp2_with fail
        go_roundw
        case rel => exact ⟨j + 1, by omega, by go_num, by rw [hs2.out], hw⟩
        case measure => simp [intOf]; omega
      · have hs2 : Hid (cntK (j + 1) f = z + 1) := by unfold Hid; rw [hs.out]; rfl
        clear hs
        go_wp2_with fail
        go_roundw
        case rel => exact ⟨j + 1, by omega, by go_num, by rw [hs2.out]; first | rfl | rw [hz1] | simp, hw⟩
        case measure => simp [intOf]; omega
    · obtain rfl : j = N := by omega
      go_wp2_with fail
      go_ret2
      exact ⟨by rw [hC.out]; rfl, by rw [hw.out]; exact hB.out⟩
end Go.Proofs.YtbemodacpimiiaaGreat

/- Memory: rows of numbers that are only read, beside own rows of slices; contracts: a copy, negated literals. -/
namespace Go.Proofs.YtbemodacpimiiaaGreat
open Go.RowKit

/-- Rows of numbers that are only read, with all that they reach. -/
def IPool (K : List (Value × List Int)) : Asn where
  p w F := (∀ b ∈ F, b < w.heap.size) ∧ ∀ q ∈ K, ∃ A c, q.1 = .slice A q.2.length c ∧ IntsAt w A q.2 ∧ (q.2 ≠ [] → ∀ a, A = some a → a.block ∈ F)
  lt h := h.1
  keep := by
    rintro w w' F ⟨h1, h2⟩ hk
    refine ⟨fun b hb => ?_, fun q hq => ?_⟩
    · have := hk b hb
      rw [Array.getElem?_eq_getElem (h1 b hb)] at this
      exact (Array.getElem?_eq_some_iff.1 this).1
    · obtain ⟨A, c, e, h3, h4⟩ := h2 q hq
      refine ⟨A, c, e, ?_, h4⟩
      by_cases hn : q.2 = []
      · rw [hn]; exact IntsAt.nil _ _
      · exact h3.keep fun a ha => hk _ (h4 hn a ha)
def IOf (w : World) (q : Value × List Int) : Prop := ∃ A c, q.1 = .slice A q.2.length c ∧ IntsAt w A q.2
/-- Two parts are told as one. -/
theorem Sp.merge {w0 w : World} {q1 q2 q : Asn} {ps : List Asn} (h : Sp w0 w (q1 :: q2 :: ps)) (hm : ∀ F1 F2, q1.p w F1 → q2.p w F2 → q.p w (F1 ++ F2)) : Sp w0 w (q :: ps) := by
  obtain ⟨h1, G, ⟨F1, G1, rfl, d1, p1, F2, G2, rfl, d2, p2, h5⟩, h3⟩ := h
  refine ⟨h1, (F1 ++ F2) ++ G2, ⟨F1 ++ F2, G2, rfl, fun b hb hb2 => ?_, hm F1 F2 p1 p2, h5⟩, fun b hb => h3 b ?_⟩
  · rcases List.mem_append.1 hb with h | h
    · exact d1 b h (List.mem_append.2 (.inr hb2))
    · exact d2 b h hb2
  · simp only [List.mem_append] at hb ⊢
    rcases hb with (h | h) | h
    · exact .inl h
    · exact .inr (.inl h)
    · exact .inr (.inr h)
section
variable {w0 w w' : World} {ps : List Asn} {i : Nat} {K : List (Value × List Int)} {v : Value} {xs : List Int}
theorem Sp.ipool_nil (h : Sp w0 w ps) : Sp w0 w (IPool [] :: ps) := h.new (F := []) (bb _) ⟨by simp, by simp⟩ (by simp)
theorem Sp.ipool_at (h : Sp w0 w ps) (hi : ps[i]? = some (IPool K)) : ∀ q ∈ K, IOf w q := fun q hq => by
  obtain ⟨F, hp, _⟩ := h.get hi
  obtain ⟨A, c, e, h1, -⟩ := hp.2 q hq
  exact ⟨A, c, e, h1⟩
/-- An own row is let go: it is only read from now on. -/
theorem Sp.ipool_in (h : Sp w0 w (Own 3 1 v xs.length (xs.map (.int .i64)) :: IPool K :: ps)) (hI : ∀ x ∈ xs, I64 x) : Sp w0 w (IPool ((v, xs) :: K) :: ps) :=
  h.merge fun F1 F2 h1 h2 => by
    obtain ⟨rfl, ho⟩ := h1
    obtain ⟨A, c, rfl, hx⟩ := ints_own ho hI
    refine ⟨fun b hb => ?_, fun q hq => ?_⟩
    · rcases List.mem_append.1 hb with hb | hb
      · exact owns_lt ho (by simpa using hb)
      · exact h2.1 b hb
    · rcases List.mem_cons.1 hq with rfl | hq
      · exact ⟨A, c, rfl, hx, fun _ a ha => by subst ha; simp [Value.ownBlock]⟩
      · obtain ⟨A', c', e, h3, h4⟩ := h2.2 q hq
        exact ⟨A', c', e, h3, fun hn a ha => List.mem_append.2 (.inr (h4 hn a ha))⟩
theorem Sp.ipool_empty (h : Sp w0 w (IPool K :: ps)) : Sp w0 w (IPool ((.slice none 0 0, []) :: K) :: ps) := by
  obtain ⟨h1, G, ⟨F1, G1, rfl, d1, p1, h5⟩, h3⟩ := h
  refine ⟨h1, F1 ++ G1, ⟨F1, G1, rfl, d1, ⟨p1.1, fun q hq => ?_⟩, h5⟩, h3⟩
  rcases List.mem_cons.1 hq with rfl | hq
  · exact ⟨none, 0, rfl, IntsAt.nil _ _, fun hn => absurd rfl hn⟩
  · exact p1.2 q hq
end
/-- An own row of slices, told with what they hold. -/
abbrev SRow (v : Value) (ks : List (Value × List Int)) : Asn := Own 37 1 v ks.length (ks.map Prod.fst)
theorem cls_own {w : World} {B : Nat} {e : TypeId} {v : Value} {ks : List (Value × List Int)} (h : w.ownsRow B e 1 v ks.length (ks.map Prod.fst)) (hok : ∀ x ∈ ks, IOf w x) : ∃ A c, v = .slice A ks.length c ∧ ClsAt w A (ks.map Prod.snd) := by
  obtain ⟨_, ⟨rfl, h0⟩ | ⟨g, cap, cur, rfl, _, hh, _, _, hs, ht⟩⟩ := h
  · have : ks = [] := List.length_eq_zero_iff.1 h0
    subst this
    exact ⟨none, 0, rfl, ⟨fun j hj => absurd hj (by simp)⟩⟩
  · refine ⟨_, cap, rfl, ⟨fun j hj => ?_⟩⟩
    have hj2 : j < ks.length := by simpa using hj
    obtain ⟨A, c, e2, hN⟩ := hok ks[j] (List.getElem_mem hj2)
    refine ⟨g, 0, A, c, rfl, ?_, by simpa using hN⟩
    have := hown_cell hh ht (j := j) (by omega)
    rw [Nat.zero_add, this, List.getElem?_map, List.getElem?_eq_getElem hj2]
    simp [e2]

set_option maxRecDepth 100000 in
set_option maxHeartbeats 1000000 in
theorem cloneD_any (A : Option Addr) (cap : Nat) (xs : List Int) (w : World) (hx : IntsAt w A xs) (hl : xs.length ≤ 1000) :
    Calls Tryz.prog 106 #[.slice A xs.length cap] w fun e w' => ∃ B c, e = .returned (.slice B xs.length c) ∧ Sp w w' [Own 3 1 (.slice B xs.length c) xs.length (xs.map (.int .i64))] := by
  obtain ⟨i0, hi, hz0, hz1, hz2⟩ := info_parts infoInt
  have qT : ∀ (w : World) (a : Option Addr) (n c n' c' : Nat), (binOp .eql 37 (.slice a n c) (.slice none n' c')).run Tryz.prog w = .ok (.bool a.isNone) w := fun w a n c n' c' => Lib.run_eql_slice_nil w _ _ a n c n' c' Tryz.underlying37
  cases A with
  | none =>
    have he : xs = [] := by
      cases xs with
      | nil => rfl
      | cons x xs =>
        obtain ⟨b, off, e, -⟩ := hx.at_ 0 (by simp)
        cases e
    subst he
    go_enter Tryz.func106, Tryz.ntmps106
    go_wp2_with fail
    go_ret
    exact ⟨none, 0, rfl, (Sp.start w).own_nil _ _⟩
  | some ad =>
    have S0 := Lib.hid ((Sp.start w).own_made 3 1)
    have hsrc : Src (w.alloc (.cells #[] 3)) (some ad) xs.length 1 (xs.map (.int .i64)) := by
      rcases Nat.eq_zero_or_pos xs.length with h0 | h0
      · exact .inl ⟨h0, by rw [List.length_eq_zero_iff.1 h0]; rfl⟩
      · obtain ⟨b, off, e, -⟩ := hx.at_ 0 h0
        cases e
        exact .inr ⟨_, rfl, by simp, fun j u hj => by
          obtain ⟨hj1, hj2⟩ := List.getElem?_eq_some_iff.1 hj
          rw [add_none]
          have := (hx.grow (bal (bb w) (.cells #[] 3))).get (j := j) (by simpa using hj1)
          rw [this, ← hj2]; simp⟩
    have hone : ∀ u ∈ xs.map (Value.int .i64), u.oneCell' = true := fun u hu => by
      obtain ⟨x, _, rfl⟩ := List.mem_map.1 hu
      rfl
    replace hsrc := Lib.hid hsrc
    replace hone := Lib.hid hone
    generalize xs.map (Value.int .i64) = l at *
    generalize xs.length = m at *
    clear hx
    go_enter Tryz.func106, Tryz.ntmps106
    go_wp2_with (at_builtin; refine wpList_append_src rfl _ _ rfl Tryz.underlying37 hi hz0 hz1 hz2 rfl (by decide) _ _ _ rfl (S0.out.own (i := 0) rfl) (some ad) m cap l rfl hsrc.out hone.out ?c3 ?c4 ?_)
    case c3 => unfold maxLen; omega
    case c4 => omega
    intro v' w1 hown hg hat
    have S1 := S0.out.own_push (i := 0) rfl (bb _) hown hg (by simpa using hat)
    obtain ⟨a', c', rfl⟩ := owns_form hown
    replace S1 := Lib.hid S1
    clear S0 hown hg hat hsrc
    go_wp2_with fail
    go_ret
    exact ⟨a', c', rfl, S1.out⟩

set_option maxRecDepth 100000 in
set_option maxHeartbeats 4000000 in
theorem negated_any (xs : List Int) (A : Option Addr) (cap : Nat) (w : World) (hx : IntsAt w A xs) (hl : xs.length ≤ 1000) (hb : ∀ x ∈ xs, -1000 ≤ x ∧ x ≤ 1000) :
    Calls Tryz.prog 53 #[.slice A xs.length cap] w fun e w' => ∃ B c, e = .returned (.slice B xs.length c) ∧ Sp w w' [Own 3 1 (.slice B xs.length c) xs.length ((xs.map (fun x => -x)).map (.int .i64))] := by
  obtain ⟨i0, hi0, hy0, hy1, hy2⟩ := info_parts infoInt
  have S0 := Lib.hid ((Sp.start w).own_nil 3 1)
  have hX := Lib.hid hx
  have hB := Lib.hid hb
  clear hx hb
  obtain ⟨m, hm⟩ : ∃ m, xs.length = m := ⟨_, rfl⟩
  rw [hm] at hl ⊢
  replace hm := Lib.hid hm
  go_enter Tryz.func53, Tryz.ntmps53
  go_wp2_with fail
  go_loopw [3, 8] (fun o i wr => ∃ (j : Nat) (D : Option Addr) (c : Nat) (zs : List Int), j ≤ m ∧ i = .int .i64 j ∧ o = .slice D j c ∧ Hid (zs = (xs.take j).map (fun x => -x)) ∧ Hid (Sp w wr [Own 3 1 (.slice D j c) j (zs.map (.int .i64))])) (fun _ i _ => m - (intOf i).toNat)
  case atStart => exact ⟨0, none, 0, [], Nat.zero_le _, rfl, rfl, rfl, S0⟩
  case round =>
    clear S0
    obtain ⟨j, D, c, zs, hj, rfl, rfl, hz, HS⟩ := hrel
    by_cases hlt : j < m
    · have hjx : j < xs.length := by rw [hm.out]; exact hlt
      obtain ⟨b, off, rfl, m0⟩ := (hX.out.grow HS.out.below).at_ j hjx
      have hxj := hB.out _ (List.getElem_mem hjx)
      have hz2 : Hid (zs ++ [-xs[j]] = (xs.take (j + 1)).map (fun x => -x)) := by
        unfold Hid
        rw [hz.out, List.take_succ_eq_append_getElem hjx, List.map_append]
        rfl
      generalize xs[j] = x at *
      have hw : IntKind.i64.wrap (-x) = -x := IntWalk.i64_in _ (by omega)
      have hji : (j : Int) < m := by omega
      have S7 := HS.out.alloc_box #[.int .i64 (-x)] 3
      have kB := S7.cell (i := 0) rfl (o := 0) rfl
      replace S7 := Lib.hid S7
      clear HS hz
      go_wp2_with (at_builtin; refine wpList_append_src rfl _ _ rfl Tryz.underlying37 hi0 hy0 hy1 hy2 rfl (by decide) _ j _ rfl (S7.out.own (i := 1) rfl) _ 1 1 [.int .i64 (-x)] rfl (Src.one kB) (by simp [Value.oneCell']) ?c3 ?c4 ?_)
      case c3 => unfold maxLen; omega
      case c4 => omega
      intro vE wE hownE hgE hatE
      have S8 := (S7.out.own_push (i := 1) rfl (bb _) hownE hgE (by simpa using hatE)).tail
      obtain ⟨aE, cE, rfl⟩ := own_slice hownE
      have hfl : zs.map (Value.int .i64) ++ [.int .i64 (-x)] = (zs ++ [-x]).map (.int .i64) := by simp
      simp only [List.set_cons_zero, List.set_cons_succ] at S8
      rw [hfl] at S8
      replace S8 := Lib.hid S8
      generalize zs ++ [-x] = zs2 at *
      clear S7 kB hownE hgE hatE m0 hfl hw
      go_wp2_with fail
      go_roundw
      case rel => exact ⟨j + 1, aE, cE, zs2, by omega, by go_num, rfl, hz2, S8⟩
      case measure => simp [intOf]; omega
    · obtain rfl : j = m := by omega
      have hz3 : zs = xs.map (fun x => -x) := by rw [hz.out, ← hm.out, List.take_length]
      subst hz3
      clear hz
      go_wp2_with fail
      go_ret
      exact ⟨D, c, rfl, HS.out⟩
end Go.Proofs.YtbemodacpimiiaaGreat

/- Contract, a weak one: a Cnf with its variables renamed, in the reference. -/
namespace Go.Proofs.YtbemodacpimiiaaGreat
open Go.RowKit

theorem clause_len {vars : Int} {c : List Int} (h : clauseB vars c = true) : c.length ≤ 12 := by
  have hp := clause_parts h
  exact rising_len (m := 12) (k := 1) (clause_rising h) (fun l hl => by have := hp.2.1 l hl; omega)

theorem absV_of (l : Int) (h : -13 ≤ l ∧ l ≤ 13) : absV l = (l.natAbs : Int) := by
  unfold absV negV
  split
  · rw [IntWalk.wrap64_in _ (by omega)]; omega
  · omega

set_option maxRecDepth 100000 in
set_option maxHeartbeats 4000000 in
theorem renameW_any (vars : Int) (v : Value) (xss : List (List Int)) (tl : List Int) (TA : Option Addr) (tc : Nat) (F G : List Nat) (w : World) (hx : (Ty.slice Ty.int).row false w v xss F) (hy : Ty.int.row false w (.slice TA tl.length tc) tl G) (hto : Within 13 tl) (hl : tl.length ≤ 1000) :
    Calls Tryz.prog 130 #[.agg #[.int .i64 vars, v], .slice TA tl.length tc] w (CnfW w) := by
  obtain ⟨FA, fc, rfl, hI⟩ := cls_row hx
  have S0 := ((Sp.start w).alloc_box #[.int .i64 vars, .slice FA xss.length fc] 45).alloc_box #[.int .i64 0, .slice none 0 0] 45
  simp only [World.size_alloc] at S0
  have hgood := Lib.hid (l2Good_any vars _ xss F _ (Ty.row_below hx S0.below (Ty.row_lt hx)))
  have c0 := S0.cell (i := 1) rfl (o := 0) rfl
  have c1 := S0.cell (i := 1) rfl (o := 1) rfl
  replace S0 := Lib.hid S0
  cases h1 : goodB vars xss
  · rw [h1] at hgood
    go_enter Tryz.func130, Tryz.ntmps130
    go_wp2_with fail
    refine hgood.out.mono ?_
    rintro e w1 ⟨rfl, hb1⟩
    have S1 := Lib.hid (S0.out.grow hb1)
    clear S0 hgood hb1 c0 c1 hx hI
    have r0 := S1.out.cell (i := 0) rfl (o := 0) rfl
    have r1 := S1.out.cell (i := 0) rfl (o := 1) rfl
    have f0 := S1.out.frozen (i := 0) rfl 0
    have f1 := S1.out.frozen (i := 0) rfl 1
    have SF := (S1.out.store (i := 0) rfl 0 (.int .i64 0)).store (i := 0) rfl 1 (.slice none 0 0)
    have j0 := SF.cell (i := 0) rfl (o := 0) rfl
    have j1 := SF.cell (i := 0) rfl (o := 1) rfl
    have hB := Lib.hid SF.below
    clear SF
    go_wp2_with fail
    exact bodyPost_ret (v := .tuple #[.agg #[.int .i64 0, .slice none 0 0], .bool false]) (by simp [results, Tryz.results130, go_sem, j0, j1]) rfl (cnfW_no hB.out)
  have hg := good_cnf h1
  rw [h1] at hgood
  obtain ⟨n, rfl⟩ := Int.eq_ofNat_of_zero_le hg.1.1
  by_cases hln : tl.length = n
  case neg =>
    have hne : ((tl.length : Int) != (n : Int)) = true := by rw [bne_iff_ne]; omega
    go_enter Tryz.func130, Tryz.ntmps130
    go_wp2_with fail
    refine hgood.out.mono ?_
    rintro e w1 ⟨rfl, hb1⟩
    have S1 := Lib.hid (S0.out.grow hb1)
    have d0 := S1.out.cell (i := 1) rfl (o := 0) rfl
    clear S0 hgood hb1 c0 c1 hx hI hg
    have r0 := S1.out.cell (i := 0) rfl (o := 0) rfl
    have r1 := S1.out.cell (i := 0) rfl (o := 1) rfl
    have f0 := S1.out.frozen (i := 0) rfl 0
    have f1 := S1.out.frozen (i := 0) rfl 1
    have SF := (S1.out.store (i := 0) rfl 0 (.int .i64 0)).store (i := 0) rfl 1 (.slice none 0 0)
    have j0 := SF.cell (i := 0) rfl (o := 0) rfl
    have j1 := SF.cell (i := 0) rfl (o := 1) rfl
    have hB := Lib.hid SF.below
    clear SF
    go_wp2_with fail
    exact bodyPost_ret (v := .tuple #[.agg #[.int .i64 0, .slice none 0 0], .bool false]) (by simp [results, Tryz.results130, go_sem, j0, j1]) rfl (cnfW_no hB.out)
  case pos =>
  have hne : ((tl.length : Int) != (n : Int)) = false := by rw [bne_eq_false_iff_eq]; omega
  have hn12 : n ≤ 12 := by omega
  replace hln := Lib.hid hln
  replace hI := Lib.hid hI
  have hyH := Lib.hid hy
  obtain ⟨TA', tc', e', hT⟩ := ints_row hy
  cases e'
  replace hT := Lib.hid hT
  replace hto := Lib.hid hto
  have hgH := Lib.hid hg
  obtain ⟨i0, hi, hz0, hz1, hz2⟩ := info_parts infoRow
  obtain ⟨t0, ti, tz0, tz1, tz2⟩ := info_parts infoInt
  have hcap : tl.length ≤ tc := by
    obtain ⟨a, cap, e, h, _⟩ := row_int hy
    simp only [Value.slice.injEq] at e
    omega
  clear hx hy hg
  go_enter Tryz.func130, Tryz.ntmps130
  go_wp2_with fail
  refine hgood.out.mono ?_
  rintro e w1 ⟨rfl, hb1⟩
  have S1 : Hid (Sp w w1 [Box (w.heap.size + 1) 45 #[.int .i64 0, .slice none 0 0], Box w.heap.size 45 #[.int .i64 n, .slice FA xss.length fc]]) := S0.out.grow hb1
  have d0 := S1.out.cell (i := 1) rfl (o := 0) rfl
  clear S0 hgood hb1 c0 c1
  go_wp2_with fail
  go_loopw [6] (fun vi wr => ∃ k : Nat, k ≤ tl.length ∧ vi = .int .i64 k ∧ Hid (Sp w wr [Box (w.heap.size + 1) 45 #[.int .i64 0, .slice none 0 0], Box w.heap.size 45 #[.int .i64 n, .slice FA xss.length fc]])) (fun vi _ => tl.length - (intOf vi).toNat)
  case atStart => exact ⟨0, Nat.zero_le _, rfl, S1⟩
  case round =>
    obtain ⟨k, hk, rfl, HS⟩ := hrel
    clear S1 d0
    by_cases hlt : k < tl.length
    · obtain ⟨b, off, rfl, m0⟩ := (hT.out.grow HS.out.below).at_ k hlt
      have d0 := HS.out.cell (i := 1) rfl (o := 0) rfl
      obtain ⟨G', hG, _⟩ := row_int_take (Ty.row_below hyH.out HS.out.below (Ty.row_lt hyH.out)) hk
      have hlk : (tl.take k).length = k := by rw [List.length_take]; omega
      have hx13 := hto.out _ (List.getElem_mem hlt)
      have hneg : IntKind.i64.wrap (-tl[k]) = -tl[k] := IntWalk.i64_in _ (by omega)
      generalize tl[k] = x at *
      have hlit := Lib.hid (fun W => l2Lit_any (n : Int) x W)
      have hh1 := Lib.hid (l2Has_any (.slice (some ⟨b, off, none⟩) k tc) (tl.take k) G' x)
      have hh2 := Lib.hid (l2Has_any (.slice (some ⟨b, off, none⟩) k tc) (tl.take k) G' (-x))
      have hGH := Lib.hid (fun W (h : Below wr.heap.size wr W) => Ty.row_below hG h (Ty.row_lt hG))
      generalize litB (n : Int) x = q0 at *
      generalize hasI (tl.take k) x = q1 at *
      generalize hasI (tl.take k) (-x) = q2 at *
      clear hG hlk
      go_upto_region 6 with fail
      go_cut [58] (fun v wx => ∃ q : Bool, v = .bool q ∧ Hid (Sp w wx [Box (w.heap.size + 1) 45 #[.int .i64 0, .slice none 0 0], Box w.heap.size 45 #[.int .i64 n, .slice FA xss.length fc]]))
      case first =>
        as_aux_lemma =>
        refine wp_region_held_lit (S := (fun w' => w'.cell? ⟨w.heap.size, 0, none⟩ = some (.int .i64 n) ∧ w'.cell? ⟨b, off + k, none⟩ = some (.int .i64 x))) 29 [false, false, false, false, false, false, false, false, false, false, false, false, false, false, false, false, false, false, false, false, false, false, false, false, false, false, false, false, false] (by kernel_rfl) (by kernel_rfl) (by kernel_rfl) ?_ ?_
        · exact ⟨d0, m0⟩
        intro hS
        (refine wpAnyH_take (i := 0) (v := ?_) rfl (by kernel_rfl) (by kernel_rfl) (by kernel_rfl) (fun _ _ _ h => h) (Or.inl ⟨by rfl, ?_⟩) (by assumption) ?_; rotate_left; (focus (intro w hSw; (try dsimp only at hSw); go_simp; (try with_reducible rfl); done)); (try simp only [put_rules]))
        (refine wpAnyH_take (i := 1) (v := ?_) rfl (by kernel_rfl) (by kernel_rfl) (by kernel_rfl) (fun _ _ _ h => h) (Or.inl ⟨by rfl, ?_⟩) (by assumption) ?_; rotate_left; (focus (intro w hSw; (try dsimp only at hSw); go_simp; (try with_reducible rfl); done)); (try simp only [put_rules]))
        (refine wpAnyH_take (i := 2) (v := ?_) rfl (by kernel_rfl) (by kernel_rfl) (by kernel_rfl) (fun _ _ _ h => h) (Or.inl ⟨by rfl, ?_⟩) (by assumption) ?_; rotate_left; (focus (intro w hSw; (try dsimp only at hSw); go_simp; (try with_reducible rfl); done)); (try simp only [put_rules]))
        (refine wpAnyH_take (i := 3) (v := ?_) rfl (by kernel_rfl) (by kernel_rfl) (by kernel_rfl) (fun _ _ _ h => h) (Or.inl ⟨by rfl, ?_⟩) (by assumption) ?_; rotate_left; (focus (intro w hSw; (try dsimp only at hSw); go_simp; (try with_reducible rfl); done)); (try simp only [put_rules]))
        (refine wpAnyH_take (i := 4) (v := ?_) rfl (by kernel_rfl) (by kernel_rfl) (by kernel_rfl) (fun _ _ _ h => h) (Or.inl ⟨by rfl, ?_⟩) (by assumption) ?_; rotate_left; (focus (intro w hSw; (try dsimp only at hSw); go_simp; (try with_reducible rfl); done)); (try simp only [put_rules]))
        (refine wpAnyH_take (i := 5) (v := ?_) rfl (by kernel_rfl) (by kernel_rfl) (by kernel_rfl) (fun _ _ _ h => h) (Or.inl ⟨by rfl, ?_⟩) (by assumption) ?_; rotate_left; (focus (intro w hSw; (try dsimp only at hSw); go_simp; (try with_reducible rfl); done)); (try simp only [put_rules]))
        (refine wpAnyH_ready (rs := [6]) (by kernel_rfl) (by simp) ?_; refine AllReadyH.cons rfl (fun K hK => ?_) AllReadyH.nil)
        go_simp
        go_at_call 117
        refine (hlit.out _).mono ?_
        rintro e w3 ⟨rfl, rfl⟩
        go_wp2_with fail
        refine hK.out _ _ hS (fun hS2 => ?_)
        clear hK
        (try simp only [put_rules])
        (refine wpAnyH_take (i := 7) (v := ?_) rfl (by kernel_rfl) (by kernel_rfl) (by kernel_rfl) (fun _ _ _ h => h) (Or.inl ⟨by rfl, ?_⟩) (by assumption) ?_; rotate_left; (focus (intro w hSw; (try dsimp only at hSw); go_simp; (try with_reducible rfl); done)); (try simp only [put_rules]))
        (refine wpAnyH_take (i := 8) (v := ?_) rfl (by kernel_rfl) (by kernel_rfl) (by kernel_rfl) (fun _ _ _ h => h) (Or.inl ⟨by rfl, ?_⟩) (by assumption) ?_; rotate_left; (focus (intro w hSw; (try dsimp only at hSw); go_simp; (try with_reducible rfl); done)); (try simp only [put_rules]))
        cases q0
        · (refine wpAnyH_take (i := 9) (v := undef) rfl (by kernel_rfl) (by kernel_rfl) (by kernel_rfl) (fun _ _ _ h => h) (Or.inr ⟨by rfl, rfl⟩) (by assumption) ?_; (try simp only [put_rules]))
          (refine wpAnyH_take (i := 10) (v := undef) rfl (by kernel_rfl) (by kernel_rfl) (by kernel_rfl) (fun _ _ _ h => h) (Or.inr ⟨by rfl, rfl⟩) (by assumption) ?_; (try simp only [put_rules]))
          (refine wpAnyH_take (i := 11) (v := undef) rfl (by kernel_rfl) (by kernel_rfl) (by kernel_rfl) (fun _ _ _ h => h) (Or.inr ⟨by rfl, rfl⟩) (by assumption) ?_; (try simp only [put_rules]))
          (refine wpAnyH_take (i := 12) (v := undef) rfl (by kernel_rfl) (by kernel_rfl) (by kernel_rfl) (fun _ _ _ h => h) (Or.inr ⟨by rfl, rfl⟩) (by assumption) ?_; (try simp only [put_rules]))
          (refine wpAnyH_take (i := 13) (v := undef) rfl (by kernel_rfl) (by kernel_rfl) (by kernel_rfl) (fun _ _ _ h => h) (Or.inr ⟨by rfl, rfl⟩) (by assumption) ?_; (try simp only [put_rules]))
          (refine wpAnyH_take (i := 14) (v := undef) rfl (by kernel_rfl) (by kernel_rfl) (by kernel_rfl) (fun _ _ _ h => h) (Or.inr ⟨by rfl, rfl⟩) (by assumption) ?_; (try simp only [put_rules]))
          (refine wpAnyH_take (i := 15) (v := undef) rfl (by kernel_rfl) (by kernel_rfl) (by kernel_rfl) (fun _ _ _ h => h) (Or.inr ⟨by rfl, rfl⟩) (by assumption) ?_; (try simp only [put_rules]))
          (refine wpAnyH_take (i := 16) (v := undef) rfl (by kernel_rfl) (by kernel_rfl) (by kernel_rfl) (fun _ _ _ h => h) (Or.inr ⟨by rfl, rfl⟩) (by assumption) ?_; (try simp only [put_rules]))
          (refine wpAnyH_take (i := 17) (v := ?_) rfl (by kernel_rfl) (by kernel_rfl) (by kernel_rfl) (fun _ _ _ h => h) (Or.inl ⟨by rfl, ?_⟩) (by assumption) ?_; rotate_left; (focus (intro w hSw; (try dsimp only at hSw); go_simp; (try with_reducible rfl); done)); (try simp only [put_rules]))
          (refine wpAnyH_take (i := 18) (v := ?_) rfl (by kernel_rfl) (by kernel_rfl) (by kernel_rfl) (fun _ _ _ h => h) (Or.inl ⟨by rfl, ?_⟩) (by assumption) ?_; rotate_left; (focus (intro w hSw; (try dsimp only at hSw); go_simp; (try with_reducible rfl); done)); (try simp only [put_rules]))
          (refine wpAnyH_take (i := 19) (v := undef) rfl (by kernel_rfl) (by kernel_rfl) (by kernel_rfl) (fun _ _ _ h => h) (Or.inr ⟨by rfl, rfl⟩) (by assumption) ?_; (try simp only [put_rules]))
          (refine wpAnyH_take (i := 20) (v := undef) rfl (by kernel_rfl) (by kernel_rfl) (by kernel_rfl) (fun _ _ _ h => h) (Or.inr ⟨by rfl, rfl⟩) (by assumption) ?_; (try simp only [put_rules]))
          (refine wpAnyH_take (i := 21) (v := undef) rfl (by kernel_rfl) (by kernel_rfl) (by kernel_rfl) (fun _ _ _ h => h) (Or.inr ⟨by rfl, rfl⟩) (by assumption) ?_; (try simp only [put_rules]))
          (refine wpAnyH_take (i := 22) (v := undef) rfl (by kernel_rfl) (by kernel_rfl) (by kernel_rfl) (fun _ _ _ h => h) (Or.inr ⟨by rfl, rfl⟩) (by assumption) ?_; (try simp only [put_rules]))
          (refine wpAnyH_take (i := 23) (v := undef) rfl (by kernel_rfl) (by kernel_rfl) (by kernel_rfl) (fun _ _ _ h => h) (Or.inr ⟨by rfl, rfl⟩) (by assumption) ?_; (try simp only [put_rules]))
          (refine wpAnyH_take (i := 24) (v := undef) rfl (by kernel_rfl) (by kernel_rfl) (by kernel_rfl) (fun _ _ _ h => h) (Or.inr ⟨by rfl, rfl⟩) (by assumption) ?_; (try simp only [put_rules]))
          (refine wpAnyH_take (i := 25) (v := undef) rfl (by kernel_rfl) (by kernel_rfl) (by kernel_rfl) (fun _ _ _ h => h) (Or.inr ⟨by rfl, rfl⟩) (by assumption) ?_; (try simp only [put_rules]))
          (refine wpAnyH_take (i := 26) (v := undef) rfl (by kernel_rfl) (by kernel_rfl) (by kernel_rfl) (fun _ _ _ h => h) (Or.inr ⟨by rfl, rfl⟩) (by assumption) ?_; (try simp only [put_rules]))
          (refine wpAnyH_take (i := 27) (v := undef) rfl (by kernel_rfl) (by kernel_rfl) (by kernel_rfl) (fun _ _ _ h => h) (Or.inr ⟨by rfl, rfl⟩) (by assumption) ?_; (try simp only [put_rules]))
          (refine wpAnyH_take (i := 28) (v := ?_) rfl (by kernel_rfl) (by kernel_rfl) (by kernel_rfl) (fun _ _ _ h => h) (Or.inl ⟨by rfl, ?_⟩) (by assumption) ?_; rotate_left; (focus (intro w hSw; (try dsimp only at hSw); go_simp; (try with_reducible rfl); done)); (try simp only [put_rules]))
          (refine wpAnyH_done (by kernel_rfl) ?_ _)
          go_wp2_with fail
          go_meet
          exact ⟨_, rfl, HS.out.drew⟩
        · (refine wpAnyH_take (i := 9) (v := ?_) rfl (by kernel_rfl) (by kernel_rfl) (by kernel_rfl) (fun _ _ _ h => h) (Or.inl ⟨by rfl, ?_⟩) (by assumption) ?_; rotate_left; (focus (intro w hSw; (try dsimp only at hSw); go_simp; (try with_reducible rfl); done)); (try simp only [put_rules]))
          (refine wpAnyH_take (i := 10) (v := ?_) rfl (by kernel_rfl) (by kernel_rfl) (by kernel_rfl) (fun _ _ _ h => h) (Or.inl ⟨by rfl, ?_⟩) (by assumption) ?_; rotate_left; (focus (intro w hSw; (try dsimp only at hSw); go_simp; (try with_reducible rfl); done)); (try simp only [put_rules]))
          (refine wpAnyH_take (i := 11) (v := .slice _ k tc) rfl (by kernel_rfl) (by kernel_rfl) (by kernel_rfl) (fun _ _ _ h => h) (Or.inl ⟨by rfl, fun _ _ => exec_slice_to rfl rfl rfl Tryz.underlying37 ti (by omega)⟩) (by assumption) ?_; (try simp only [put_rules]))
          (refine wpAnyH_take (i := 12) (v := ?_) rfl (by kernel_rfl) (by kernel_rfl) (by kernel_rfl) (fun _ _ _ h => h) (Or.inl ⟨by rfl, ?_⟩) (by assumption) ?_; rotate_left; (focus (intro w hSw; (try dsimp only at hSw); go_simp; (try with_reducible rfl); done)); (try simp only [put_rules]))
          (refine wpAnyH_take (i := 13) (v := ?_) rfl (by kernel_rfl) (by kernel_rfl) (by kernel_rfl) (fun _ _ _ h => h) (Or.inl ⟨by rfl, ?_⟩) (by assumption) ?_; rotate_left; (focus (intro w hSw; (try dsimp only at hSw); go_simp; (try with_reducible rfl); done)); (try simp only [put_rules]))
          (refine wpAnyH_take (i := 14) (v := ?_) rfl (by kernel_rfl) (by kernel_rfl) (by kernel_rfl) (fun _ _ _ h => h) (Or.inl ⟨by rfl, ?_⟩) (by assumption) ?_; rotate_left; (focus (intro w hSw; (try dsimp only at hSw); go_simp; (try with_reducible rfl); done)); (try simp only [put_rules]))
          (refine wpAnyH_take (i := 15) (v := ?_) rfl (by kernel_rfl) (by kernel_rfl) (by kernel_rfl) (fun _ _ _ h => h) (Or.inl ⟨by rfl, ?_⟩) (by assumption) ?_; rotate_left; (focus (intro w hSw; (try dsimp only at hSw); go_simp; (try with_reducible rfl); done)); (try simp only [put_rules]))
          (refine wpAnyH_ready (rs := [16]) (by kernel_rfl) (by simp) ?_; refine AllReadyH.cons rfl (fun K hK => ?_) AllReadyH.nil)
          go_simp
          go_at_call 135
          refine (hh1.out _ (hGH.out _ (bdr (bb _)))).mono ?_
          rintro e w3 ⟨rfl, rfl⟩
          go_wp2_with fail
          refine hK.out _ _ hS (fun hS3 => ?_)
          clear hK
          (try simp only [put_rules])
          cases q1
          · (refine wpAnyH_take (i := 17) (v := ?_) rfl (by kernel_rfl) (by kernel_rfl) (by kernel_rfl) (fun _ _ _ h => h) (Or.inl ⟨by rfl, ?_⟩) (by assumption) ?_; rotate_left; (focus (intro w hSw; (try dsimp only at hSw); go_simp; (try with_reducible rfl); done)); (try simp only [put_rules]))
            (refine wpAnyH_take (i := 18) (v := ?_) rfl (by kernel_rfl) (by kernel_rfl) (by kernel_rfl) (fun _ _ _ h => h) (Or.inl ⟨by rfl, ?_⟩) (by assumption) ?_; rotate_left; (focus (intro w hSw; (try dsimp only at hSw); go_simp; (try with_reducible rfl); done)); (try simp only [put_rules]))
            (refine wpAnyH_take (i := 19) (v := ?_) rfl (by kernel_rfl) (by kernel_rfl) (by kernel_rfl) (fun _ _ _ h => h) (Or.inl ⟨by rfl, ?_⟩) (by assumption) ?_; rotate_left; (focus (intro w hSw; (try dsimp only at hSw); go_simp; (try with_reducible rfl); done)); (try simp only [put_rules]))
            (refine wpAnyH_take (i := 20) (v := ?_) rfl (by kernel_rfl) (by kernel_rfl) (by kernel_rfl) (fun _ _ _ h => h) (Or.inl ⟨by rfl, ?_⟩) (by assumption) ?_; rotate_left; (focus (intro w hSw; (try dsimp only at hSw); go_simp; (try with_reducible rfl); done)); (try simp only [put_rules]))
            (refine wpAnyH_take (i := 21) (v := .slice _ k tc) rfl (by kernel_rfl) (by kernel_rfl) (by kernel_rfl) (fun _ _ _ h => h) (Or.inl ⟨by rfl, fun _ _ => exec_slice_to rfl rfl rfl Tryz.underlying37 ti (by omega)⟩) (by assumption) ?_; (try simp only [put_rules]))
            (refine wpAnyH_take (i := 22) (v := ?_) rfl (by kernel_rfl) (by kernel_rfl) (by kernel_rfl) (fun _ _ _ h => h) (Or.inl ⟨by rfl, ?_⟩) (by assumption) ?_; rotate_left; (focus (intro w hSw; (try dsimp only at hSw); go_simp; (try with_reducible rfl); done)); (try simp only [put_rules]))
            (refine wpAnyH_take (i := 23) (v := ?_) rfl (by kernel_rfl) (by kernel_rfl) (by kernel_rfl) (fun _ _ _ h => h) (Or.inl ⟨by rfl, ?_⟩) (by assumption) ?_; rotate_left; (focus (intro w hSw; (try dsimp only at hSw); go_simp; (try with_reducible rfl); done)); (try simp only [put_rules]))
            (refine wpAnyH_take (i := 24) (v := ?_) rfl (by kernel_rfl) (by kernel_rfl) (by kernel_rfl) (fun _ _ _ h => h) (Or.inl ⟨by rfl, ?_⟩) (by assumption) ?_; rotate_left; (focus (intro w hSw; (try dsimp only at hSw); go_simp; (try with_reducible rfl); done)); (try simp only [put_rules]))
            (refine wpAnyH_take (i := 25) (v := ?_) rfl (by kernel_rfl) (by kernel_rfl) (by kernel_rfl) (fun _ _ _ h => h) (Or.inl ⟨by rfl, ?_⟩) (by assumption) ?_; rotate_left; (focus (intro w hSw; (try dsimp only at hSw); go_simp; (try with_reducible rfl); done)); (try simp only [put_rules]))
            (refine wpAnyH_take (i := 26) (v := ?_) rfl (by kernel_rfl) (by kernel_rfl) (by kernel_rfl) (fun _ _ _ h => h) (Or.inl ⟨by rfl, ?_⟩) (by assumption) ?_; rotate_left; (focus (intro w hSw; (try dsimp only at hSw); go_simp; (try with_reducible rfl); done)); (try simp only [put_rules]))
            (refine wpAnyH_ready (rs := [27]) (by kernel_rfl) (by simp) ?_; refine AllReadyH.cons rfl (fun K hK => ?_) AllReadyH.nil)
            go_simp
            go_at_call 135
            refine (hh2.out _ (hGH.out _ (bdr (bb _)))).mono ?_
            rintro e w3 ⟨rfl, rfl⟩
            go_wp2_with fail
            refine hK.out _ _ hS (fun hS4 => ?_)
            clear hK
            (try simp only [put_rules])
            (refine wpAnyH_take (i := 28) (v := ?_) rfl (by kernel_rfl) (by kernel_rfl) (by kernel_rfl) (fun _ _ _ h => h) (Or.inl ⟨by rfl, ?_⟩) (by assumption) ?_; rotate_left; (focus (intro w hSw; (try dsimp only at hSw); go_simp; (try with_reducible rfl); done)); (try simp only [put_rules]))
            (refine wpAnyH_done (by kernel_rfl) ?_ _)
            go_wp2_with fail
            go_meet
            exact ⟨_, rfl, HS.out.drew⟩
          · (refine wpAnyH_take (i := 17) (v := ?_) rfl (by kernel_rfl) (by kernel_rfl) (by kernel_rfl) (fun _ _ _ h => h) (Or.inl ⟨by rfl, ?_⟩) (by assumption) ?_; rotate_left; (focus (intro w hSw; (try dsimp only at hSw); go_simp; (try with_reducible rfl); done)); (try simp only [put_rules]))
            (refine wpAnyH_take (i := 18) (v := ?_) rfl (by kernel_rfl) (by kernel_rfl) (by kernel_rfl) (fun _ _ _ h => h) (Or.inl ⟨by rfl, ?_⟩) (by assumption) ?_; rotate_left; (focus (intro w hSw; (try dsimp only at hSw); go_simp; (try with_reducible rfl); done)); (try simp only [put_rules]))
            (refine wpAnyH_take (i := 19) (v := undef) rfl (by kernel_rfl) (by kernel_rfl) (by kernel_rfl) (fun _ _ _ h => h) (Or.inr ⟨by rfl, rfl⟩) (by assumption) ?_; (try simp only [put_rules]))
            (refine wpAnyH_take (i := 20) (v := undef) rfl (by kernel_rfl) (by kernel_rfl) (by kernel_rfl) (fun _ _ _ h => h) (Or.inr ⟨by rfl, rfl⟩) (by assumption) ?_; (try simp only [put_rules]))
            (refine wpAnyH_take (i := 21) (v := undef) rfl (by kernel_rfl) (by kernel_rfl) (by kernel_rfl) (fun _ _ _ h => h) (Or.inr ⟨by rfl, rfl⟩) (by assumption) ?_; (try simp only [put_rules]))
            (refine wpAnyH_take (i := 22) (v := undef) rfl (by kernel_rfl) (by kernel_rfl) (by kernel_rfl) (fun _ _ _ h => h) (Or.inr ⟨by rfl, rfl⟩) (by assumption) ?_; (try simp only [put_rules]))
            (refine wpAnyH_take (i := 23) (v := undef) rfl (by kernel_rfl) (by kernel_rfl) (by kernel_rfl) (fun _ _ _ h => h) (Or.inr ⟨by rfl, rfl⟩) (by assumption) ?_; (try simp only [put_rules]))
            (refine wpAnyH_take (i := 24) (v := undef) rfl (by kernel_rfl) (by kernel_rfl) (by kernel_rfl) (fun _ _ _ h => h) (Or.inr ⟨by rfl, rfl⟩) (by assumption) ?_; (try simp only [put_rules]))
            (refine wpAnyH_take (i := 25) (v := undef) rfl (by kernel_rfl) (by kernel_rfl) (by kernel_rfl) (fun _ _ _ h => h) (Or.inr ⟨by rfl, rfl⟩) (by assumption) ?_; (try simp only [put_rules]))
            (refine wpAnyH_take (i := 26) (v := undef) rfl (by kernel_rfl) (by kernel_rfl) (by kernel_rfl) (fun _ _ _ h => h) (Or.inr ⟨by rfl, rfl⟩) (by assumption) ?_; (try simp only [put_rules]))
            (refine wpAnyH_take (i := 27) (v := undef) rfl (by kernel_rfl) (by kernel_rfl) (by kernel_rfl) (fun _ _ _ h => h) (Or.inr ⟨by rfl, rfl⟩) (by assumption) ?_; (try simp only [put_rules]))
            (refine wpAnyH_take (i := 28) (v := ?_) rfl (by kernel_rfl) (by kernel_rfl) (by kernel_rfl) (fun _ _ _ h => h) (Or.inl ⟨by rfl, ?_⟩) (by assumption) ?_; rotate_left; (focus (intro w hSw; (try dsimp only at hSw); go_simp; (try with_reducible rfl); done)); (try simp only [put_rules]))
            (refine wpAnyH_done (by kernel_rfl) ?_ _)
            go_wp2_with fail
            go_meet
            exact ⟨_, rfl, HS.out.drew⟩
      case rest =>
      clear HS d0 m0 hlit hh1 hh2 hGH
      obtain ⟨q, rfl, HS⟩ := hcut
      cases q
      · go_wp2_with fail
        go_roundw
        case rel => exact ⟨k + 1, by omega, by go_num, HS⟩
        case measure => simp [intOf]; omega
      · have r0 := HS.out.cell (i := 0) rfl (o := 0) rfl
        have r1 := HS.out.cell (i := 0) rfl (o := 1) rfl
        have f0 := HS.out.frozen (i := 0) rfl 0
        have f1 := HS.out.frozen (i := 0) rfl 1
        have SF := (HS.out.store (i := 0) rfl 0 (.int .i64 0)).store (i := 0) rfl 1 (.slice none 0 0)
        have j0 := SF.cell (i := 0) rfl (o := 0) rfl
        have j1 := SF.cell (i := 0) rfl (o := 1) rfl
        have hB := Lib.hid SF.below
        clear SF
        go_wp2_with fail
        exact bodyPost_ret (v := .tuple #[.agg #[.int .i64 0, .slice none 0 0], .bool false]) (by simp [results, Tryz.results130, go_sem, j0, j1]) rfl (cnfW_no hB.out)
    · have hge : ¬ (k : Int) < (tl.length : Int) := by omega
      have d0 := HS.out.cell (i := 1) rfl (o := 0) rfl
      have S3 := (HS.out.rows_made Ty.int 37).alloc_box #[.int .i64 n, .slice (some ⟨wr.heap.size, 0, none⟩) 0 0] 45
      simp only [World.size_alloc] at S3
      obtain ⟨ob, hob⟩ : ∃ ob, wr.heap.size + 1 = ob := ⟨_, rfl⟩
      rw [hob] at S3
      have S4 : Hid (Sp w _ [Rows Ty.int 37 (.slice (some ⟨wr.heap.size, 0, none⟩) ([] : List (List Int)).length 0) [] ([] : List (List Int)), Box ob 45 #[.int .i64 n, .slice (some ⟨wr.heap.size, 0, none⟩) ([] : List (List Int)).length 0], Box (w.heap.size + 1) 45 #[.int .i64 0, .slice none 0 0], Box w.heap.size 45 #[.int .i64 n, .slice FA xss.length fc]]) := S3.swap
      clear HS S3
      go_wp2_with fail
      go_loopw [8, 9, 10, 11, 12] (fun vi _ _ _ _ wr => ∃ (ys : List (List Int)) (cs : List Value) (B : Option Addr) (cap : Nat) (k : Nat), k ≤ xss.length ∧ vi = .int .i64 k ∧ Hid (ys.length = k) ∧ Hid (SmallC ys) ∧ Hid (Sp w wr [Rows Ty.int 37 (.slice B ys.length cap) cs ys, Box ob 45 #[.int .i64 n, .slice B ys.length cap], Box (w.heap.size + 1) 45 #[.int .i64 0, .slice none 0 0], Box w.heap.size 45 #[.int .i64 n, .slice FA xss.length fc]])) (fun vi _ _ _ _ _ => xss.length - (intOf vi).toNat)
      case atStart => exact ⟨[], [], _, _, 0, Nat.zero_le _, rfl, rfl, (fun c hc => by simp at hc), S4⟩
      case round =>
        obtain ⟨ys, cs, B, cap, k, hk, rfl, hyl, HC, HS⟩ := hrel
        rename World => wo
        have hx60 := hgH.out.2.1
        clear S4
        have d1 := HS.out.cell (i := 3) rfl (o := 1) rfl
        by_cases hlt : k < xss.length
        · obtain ⟨b, off, Bc, cc, rfl, m0, hIc⟩ := (hI.out.grow HS.out.below).at_ k hlt
          have hcb := hgH.out.2.2.1 _ (List.getElem_mem hlt)
          have hcl := clause_len hcb
          have hpar := Lib.hid (clause_parts hcb).2.1
          generalize xss[k] = c at *
          replace hIc := Lib.hid hIc
          have m0H := Lib.hid m0
          have S5 := Lib.hid (HS.out.own_made 3 1)
          clear HS hcb m0
          go_wp2_with fail
          clear d1
          go_loopw [9, 10, 11, 12] (fun vc vk _ _ WR => ∃ (c2 : List Int) (B2 : Option Addr) (cap2 j : Nat), j ≤ c.length ∧ vk = .int .i64 j ∧ vc = .slice B2 c2.length cap2 ∧ Hid (c2.length ≤ j) ∧ Hid (Within 13 c2) ∧ Hid (Sp w WR (Own 3 1 (.slice B2 c2.length cap2) c2.length (c2.map (.int .i64)) :: [Rows Ty.int 37 (.slice B ys.length cap) cs ys, Box ob 45 #[.int .i64 n, .slice B ys.length cap], Box (w.heap.size + 1) 45 #[.int .i64 0, .slice none 0 0], Box w.heap.size 45 #[.int .i64 n, .slice (some ⟨b, off, none⟩) xss.length fc]])) ∧ Hid (Below wo.heap.size wo WR)) (fun _ vk _ _ _ => c.length - (intOf vk).toNat)
          case atStart => exact ⟨[], _, _, 0, Nat.zero_le _, rfl, rfl, Nat.le_refl _, (fun x hx => by simp at hx), S5, bal (bb _) _⟩
          case round =>
            obtain ⟨c2, B2, cap2, j, hj, rfl, rfl, hc2l, HW, HS2, HB⟩ := hrel
            clear S5
            have d1 := HS2.out.cell (i := 4) rfl (o := 1) rfl
            have m0 := ((bcell HB.out).1 _ _ (World.block_lt_of_cell? _ _ m0H.out)).trans m0H.out
            by_cases hlt2 : j < c.length
            · obtain ⟨b3, off3, rfl, m1⟩ := (hIc.out.grow HB.out).at_ j hlt2
              have hx := hpar.out _ (List.getElem_mem hlt2)
              generalize c[j] = x at *
              obtain ⟨p, hp⟩ : ∃ p : Nat, absV x - 1 = (p : Int) := ⟨x.natAbs - 1, by rw [absV_of x (by omega)]; omega⟩
              have hpn : p < tl.length := by rw [hln.out]; rw [absV_of x (by omega)] at hp; omega
              obtain ⟨b4, off4, rfl, m2⟩ := (hT.out.grow HS2.out.below).at_ p hpn
              have hy13 := hto.out _ (List.getElem_mem hpn)
              generalize tl[p] = y at *
              have hyn : IntKind.i64.wrap (-y) = -y := IntWalk.i64_in _ (by omega)
              have hpw : IntKind.i64.wrap (absV x - 1) = (p : Int) := by rw [hp]; exact IntWalk.i64_in _ (by omega)
              have hpl : (p : Int) < (tl.length : Int) := by omega
              have hlv := Lib.hid (fun W => l2Var_any x W)
              clear hp
              generalize absV x = av at *
              go_wp2_with fail
              refine (hlv.out _).mono ?_
              rintro e w3 ⟨rfl, rfl⟩
              clear hlv
              go_upto_if 97 with fail
              go_cut [12] (fun s wx => ∃ l : Int, s = .int .i64 l ∧ -13 ≤ l ∧ l ≤ 13 ∧ Hid (Sp w wx (Own 3 1 (.slice B2 c2.length cap2) c2.length (c2.map (.int .i64)) :: [Rows Ty.int 37 (.slice B ys.length cap) cs ys, Box ob 45 #[.int .i64 n, .slice B ys.length cap], Box (w.heap.size + 1) 45 #[.int .i64 0, .slice none 0 0], Box w.heap.size 45 #[.int .i64 n, .slice (some ⟨b, off, none⟩) xss.length fc]])) ∧ Hid (Below wo.heap.size wo wx))
              case first =>
                by_cases hx0 : x < 0
                · have dx : decide (x < 0) = true := decide_eq_true hx0
                  go_wp2_with fail
                  go_meet
                  exact ⟨-y, rfl, by omega, by omega, HS2, HB⟩
                · have dx : decide (x < 0) = false := decide_eq_false hx0
                  go_wp2_with fail
                  go_meet
                  exact ⟨y, rfl, by omega, by omega, HS2, HB⟩
              case rest =>
              clear HS2 HB m0 m1 m2 d1 hyn hpw hpl hx
              obtain ⟨l, rfl, hl0, hl1, HS2, HB⟩ := hcut
              obtain ⟨F5, hr5, _, _⟩ := own_row (HS2.out.own (i := 0) rfl) (HW.out.i64 (by decide))
              have hc2' := hc2l.out
              have hpu := Lib.hid (l2Put_any _ c2 l F5 _ (Ty.row_down hr5) (by omega))
              clear hr5
              go_wp2_with fail
              refine hpu.out.mono ?_
              rintro e w6 ⟨v6, rfl, ho6, hb6⟩
              have S6 := (HS2.out.own_new hb6 (owns_zero ho6) (owns_ge ho6)).swap.tail
              have HW6 := Lib.hid (within_put HW.out ⟨hl0, hl1⟩)
              have hl6 := put_len c2 l
              obtain ⟨B6, cap6, rfl⟩ := own_slice ho6
              have HB6 := Lib.hid (btr HB.out hb6)
              generalize putB c2 l = c6 at *
              have hc6 : Hid (c6.length ≤ j + 1) := by unfold Hid; omega
              replace S6 := Lib.hid S6
              clear HS2 HB hpu ho6 hb6 hl6 hc2l hc2' HW
              go_wp2_with fail
              go_roundw
              case rel => exact ⟨c6, B6, cap6, j + 1, by omega, by go_num, rfl, hc6, HW6, S6, HB6⟩
              case measure => simp [intOf]; omega
            · obtain rfl : j = c.length := by omega
              have hc13 : c2.length ≤ 13 := by have := hc2l.out; omega
              have hsm : Within 1000000 c2 := fun z hz => by have := HW.out z hz; omega
              have S5 := Lib.hid (HS2.out.own_to_row (HW.out.i64 (by decide)))
              clear HS2
              have l1 := S5.out.cell (i := 2) rfl (o := 1) rfl
              have hrows := Lib.hid ((S5.out.rows (i := 1) rfl).alloc (.cells #[.slice B2 c2.length cap2] 37))
              have hbl := (S5.out.box (i := 2) rfl).2.1
              have l1a := ((bcell (bal (bb wr) (.cells #[.slice B2 c2.length cap2] 37))).1 _ 1 hbl).trans l1
              have kB : (wr.alloc (.cells #[.slice B2 c2.length cap2] 37)).cell? ⟨wr.heap.size, 0, none⟩ = some (.slice B2 c2.length cap2) := cell_of_row _ _ _ _ _ _ (heap_alloc_new wr _)
              go_wp2_with (at_builtin; refine wpList_append_src rfl _ _ rfl Tryz.underlying43 hi hz0 hz1 hz2 rfl (by decide) _ ys.length _ rfl hrows.out _ 1 1 [.slice B2 c2.length cap2] rfl (Src.one kB) (by simp [Value.oneCell']) ?c3 ?c4 ?_)
              case c3 => have hyk := hyl.out; have := hgH.out.2.1; unfold maxLen; omega
              case c4 => have hyk := hyl.out; have := hgH.out.2.1; omega
              intro vY wY hownY hgY hatY
              have S6 := S5.out.rows_push (bal (bb _) _) hownY hgY (by simpa using hatY)
              obtain ⟨aY, cY, rfl⟩ := own_slice hownY
              have b1 := S6.cell (i := 1) rfl (o := 1) rfl
              have q1 := S6.frozen (i := 1) rfl 1
              have hlen : ys.length + 1 = (ys ++ [c2]).length := by simp
              have S7 : Hid (Sp w (wY.setCell ⟨ob, 1, none⟩ (.slice aY (ys.length + 1) cY)) [Rows Ty.int 37 (.slice aY (ys ++ [c2]).length cY) (cs ++ [.slice B2 c2.length cap2]) (ys ++ [c2]), Box ob 45 #[.int .i64 n, .slice aY (ys ++ [c2]).length cY], Box (w.heap.size + 1) 45 #[.int .i64 0, .slice none 0 0], Box w.heap.size 45 #[.int .i64 n, .slice (some ⟨b, off, none⟩) xss.length fc]]) := by
                unfold Hid; rw [← hlen]
                have := S6.store (i := 1) rfl 1 (.slice aY (ys.length + 1) cY)
                rw [hlen] at this ⊢
                exact this
              have HC2 : Hid (SmallC (ys ++ [c2])) := fun y hy => by
                rcases List.mem_append.1 hy with hy | hy
                · exact HC.out y hy
                · obtain rfl : y = c2 := by simpa using hy
                  exact ⟨hsm, hc13⟩
              have hyl2 : Hid ((ys ++ [c2]).length = k + 1) := by unfold Hid; rw [← hlen, hyl.out]
              clear S5 S6 hrows hownY hgY hatY kB l1 l1a hbl hyl
              replace hlen := Lib.hid hlen
              go_wp2_with fail
              go_roundw
              case rel => exact ⟨ys ++ [c2], cs ++ [.slice B2 c2.length cap2], aY, cY, k + 1, by omega, by go_num, hyl2, HC2, S7⟩
              case measure => simp [intOf]; omega
        · obtain rfl : k = xss.length := by omega
          have l0 := HS.out.cell (i := 1) rfl (o := 0) rfl
          have l1 := HS.out.cell (i := 1) rfl (o := 1) rfl
          have r0 := HS.out.cell (i := 2) rfl (o := 0) rfl
          have r1 := HS.out.cell (i := 2) rfl (o := 1) rfl
          have f0 := HS.out.frozen (i := 2) rfl 0
          have f1 := HS.out.frozen (i := 2) rfl 1
          have SF := (HS.out.store (i := 2) rfl 0 (.int .i64 n)).store (i := 2) rfl 1 (.slice B ys.length cap)
          have j0 := SF.cell (i := 2) rfl (o := 0) rfl
          have j1 := SF.cell (i := 2) rfl (o := 1) rfl
          have hR := Lib.hid (Sp.front (qs := [_]) SF)
          have hy60 : ys.length ≤ 60 := by rw [hyl.out]; exact hgH.out.2.1
          clear SF HS
          go_wp2_with fail
          exact bodyPost_ret (v := .tuple #[.agg #[.int .i64 n, .slice B ys.length cap], .bool true]) (by simp [results, Tryz.results130, go_sem, j0, j1]) rfl ⟨n, B, cap, cs, ys, true, rfl, by omega, by omega, hy60, HC.out, hR.out⟩
end Go.Proofs.YtbemodacpimiiaaGreat

/- Contracts: numbers of variables that are drawn, mostly up to five. -/
namespace Go.Proofs.YtbemodacpimiiaaGreat
open Go.RowKit

set_option maxRecDepth 100000 in
set_option maxHeartbeats 4000000 in
theorem cur_vars2 (A g : Nat) (ca : Option Addr) (cl cc : Nat) (w : World) (h : CurIs A g ca cl cc w) (hA : A ≤ 80000000) :
    Calls Tryz.prog 85 #[.pointer (some ⟨g, 0, none⟩)] w (CurPost (IntIn (-1) 13) (A + 4) g ca cl cc w) := by
  have hg := h.lt
  have S0 := Lib.hid ((CS.start h).alloc_box #[.int .i64 3, .int .i64 3, .int .i64 4, .int .i64 4, .int .i64 5, .int .i64 2, .int .i64 12, .int .i64 1, .int .i64 0, .int .i64 13, .int .i64 (-1)] 3)
  go_enter Tryz.func85, Tryz.ntmps85
  go_wp2_with fail
  refine (cur_pick_at (lo := 0) (hi := 23) S0.out.cur (by omega) (by omega) (by omega) (by omega) (by omega)).mono ?_
  rintro e w1 ⟨_, ⟨x, hx0, hx1, rfl⟩, rfl, hi1, hc1⟩
  have S1 := Lib.hid (S0.out.turn hi1 hc1)
  have hcell : ∀ j, j < 11 → ∃ x, (-1 : Int) ≤ x ∧ x ≤ 13 ∧ w1.cell? ⟨w.heap.size, 0 + j, none⟩ = some (.int .i64 x) := fun j hj => by
    rw [Nat.zero_add]
    match j, hj with
    | 0, _ => exact ⟨_, by decide, by decide, S1.out.cell (i := 0) rfl rfl⟩
    | 1, _ => exact ⟨_, by decide, by decide, S1.out.cell (i := 0) rfl rfl⟩
    | 2, _ => exact ⟨_, by decide, by decide, S1.out.cell (i := 0) rfl rfl⟩
    | 3, _ => exact ⟨_, by decide, by decide, S1.out.cell (i := 0) rfl rfl⟩
    | 4, _ => exact ⟨_, by decide, by decide, S1.out.cell (i := 0) rfl rfl⟩
    | 5, _ => exact ⟨_, by decide, by decide, S1.out.cell (i := 0) rfl rfl⟩
    | 6, _ => exact ⟨_, by decide, by decide, S1.out.cell (i := 0) rfl rfl⟩
    | 7, _ => exact ⟨_, by decide, by decide, S1.out.cell (i := 0) rfl rfl⟩
    | 8, _ => exact ⟨_, by decide, by decide, S1.out.cell (i := 0) rfl rfl⟩
    | 9, _ => exact ⟨_, by decide, by decide, S1.out.cell (i := 0) rfl rfl⟩
    | 10, _ => exact ⟨_, by decide, by decide, S1.out.cell (i := 0) rfl rfl⟩
  replace hcell := Lib.hid hcell
  clear S0 hc1
  obtain ⟨k, hk, hkx⟩ : ∃ k : Nat, k ≤ 3 ∧ x.tdiv 6 = (k : Int) := ⟨(x / 6).toNat, by omega, by rw [Int.tdiv_eq_ediv_of_nonneg hx0]; omega⟩
  have hq : ∀ m, 7 ≤ m → m ≤ 11 → Calls Tryz.prog 59 #[.pointer (some ⟨g, 0, none⟩), .slice (some ⟨w.heap.size, 0, none⟩) m 11] w1 (CurPost (IntIn (-1) 13) (A + 2 + 2) g ca cl cc w1) := fun m h1 h2 =>
    cur_among (-1) 13 w.heap.size 0 m 11 (A + 2) g ca cl cc w1 hi1 (by omega) (by omega) (by omega) (fun j hj => hcell.out j (by omega)) (by omega)
  replace hq := Lib.hid hq
  clear hi1
  have hk3 : k = 0 ∨ k = 1 ∨ k = 2 ∨ k = 3 := by omega
  rcases hk3 with rfl | rfl | rfl | rfl
  all_goals
    go_wp2_with fail
    refine (hq.out _ (by decide) (by decide)).mono ?_
    rintro e w2 ⟨_, ⟨z, hz0, hz1, rfl⟩, rfl, hi2, hc2⟩
    have S2 := S1.out.turn hi2 hc2
    have hC := S2.chg
    clear S1 S2 hc2 hq hcell
    go_wp2_with fail
    go_ret
    exact ⟨_, ⟨z, hz0, hz1, rfl⟩, rfl, hi2, hC⟩
end Go.Proofs.YtbemodacpimiiaaGreat

/- Joined parts beside a cursor; a known Cnf, weakly, and the texts without models. -/
namespace Go.Proofs.YtbemodacpimiiaaGreat
open Go.RowKit

section
variable {w0 w w' : World} {g cl cc A A' : Nat} {ca : Option Addr} {ps qs : List Asn}
theorem CS.comp (h : CS w0 g ca cl cc A w ps) (k : CS w g ca cl cc A' w' qs) : CS w0 g ca cl cc A' w' (qs ++ ps) := by
  have hg := h.glt
  have hsz := h.chg.size
  obtain ⟨h0, h1, h2, F, h3, h4⟩ := h
  obtain ⟨k0, k1, k2, G, k3, k4⟩ := k
  have hk := sep_keep h3 fun b hm => k2.block b (sep_lt h3 b hm) fun hb => by
    obtain rfl : b = g := by simpa using hb
    have := h4 b hm; omega
  refine ⟨h0, k1, h2.trans k2, G ++ F, sep_append k3 hk (fun b hb hb2 => ?_), fun b hb => ?_⟩
  · have := k4 b hb; have := sep_lt h3 b hb2; omega
  · rcases List.mem_append.1 hb with hb | hb
    · have := k4 b hb; omega
    · exact h4 b hb
theorem CS.front (h : CS w0 g ca cl cc A w (qs ++ ps)) : CS w0 g ca cl cc A w qs := by
  obtain ⟨h0, h1, h2, F, h3, h4⟩ := h
  obtain ⟨G, h5, h6⟩ := sep_front h3
  exact ⟨h0, h1, h2, G, h5, fun b hb => h4 b (h6 b hb)⟩
theorem row_cs {v : Value} {c : List Int} (h : CurIs A g ca cl cc w) (hi : CurIs A' g ca cl cc w') (hc : Chg [g] w w') (ho : w'.ownsRow w.heap.size 3 1 v c.length (c.map (.int .i64))) :
    CS w g ca cl cc A' w' [Own 3 1 v c.length (c.map (.int .i64))] :=
  ⟨⟨A, h⟩, hi, hc, _, ⟨v.ownBlock.toList, [], by rw [List.append_nil], by simp, ⟨rfl, owns_zero ho⟩, rfl⟩, fun b hb => owns_ge ho b (by simpa using hb)⟩
end
def TextLe (n : Nat) (s : ByteArray) : Prop := s.size ≤ n
theorem text_le {n : Nat} {s : ByteArray} (h : decide (s.size ≤ n) = true) : TextLe n s := show s.size ≤ n from of_decide_eq_true h
theorem strsR_new {R : ByteArray → Prop} {W : World} {cs : Array Value} {t : TypeId} {b n : Nat} (hb : b = W.heap.size) (h : ∀ j, j < n → ∃ s, cs[j]? = some (.string s) ∧ R s) : StrsR R (W.alloc (.cells cs t)) b 0 n := fun j hj => by
  obtain ⟨s, h1, h2⟩ := h j hj
  subst hb
  refine ⟨s, h2, ?_⟩
  rw [Nat.zero_add]
  exact (cell_of_row _ _ _ _ _ _ (heap_alloc_new W _)).trans h1

/-- A small Cnf of its own. -/
def CnfV (w : World) (e : Ending) (w' : World) : Prop := ∃ (vars : Int) (B : Option Addr) (cap : Nat) (cs : List Value) (xss : List (List Int)), e = .returned (.agg #[.int .i64 vars, .slice B xss.length cap]) ∧ 0 ≤ vars ∧ vars ≤ 12 ∧ xss.length ≤ 60 ∧ SmallC xss ∧
  Sp w w' [Rows Ty.int 37 (.slice B xss.length cap) cs xss]

set_option maxHeartbeats 2000000 in
theorem l2KnownW_any (s : ByteArray) (w : World) (hs : s.size ≤ 100000) : Calls Tryz.prog 127 #[.string s] w (CnfV w) := by
  have S0 := Lib.hid ((Sp.start w).alloc_box #[.int .i64 0, .slice none 0 0] 45)
  go_enter Tryz.func127, Tryz.ntmps127
  go_wp2_with fail
  refine (parseCnfW_any s _ hs).mono ?_
  rintro e w1 ⟨vars, B, cap, cs, xss, q, rfl, hv0, hv1, hl, HC, T1⟩
  replace HC := Lib.hid HC
  have S1 := (S0.out.seq T1).alloc_box #[.int .i64 vars, .slice B xss.length cap] 45
  obtain ⟨ob, hob⟩ : ∃ ob, w1.heap.size = ob := ⟨_, rfl⟩
  rw [hob] at S1
  have l0 := S1.cell (i := 0) rfl (o := 0) rfl
  have l1 := S1.cell (i := 0) rfl (o := 1) rfl
  have r0 := S1.cell (i := 2) rfl (o := 0) rfl
  have r1 := S1.cell (i := 2) rfl (o := 1) rfl
  have f0 := S1.frozen (i := 2) rfl 0
  have f1 := S1.frozen (i := 2) rfl 1
  have SF := (S1.store (i := 2) rfl 0 (.int .i64 vars)).store (i := 2) rfl 1 (.slice B xss.length cap)
  have j0 := SF.cell (i := 2) rfl (o := 0) rfl
  have j1 := SF.cell (i := 2) rfl (o := 1) rfl
  have hR := Lib.hid (Sp.front (qs := [_]) SF.tail)
  clear SF S1 S0 T1
  go_wp2_with fail
  exact bodyPost_ret (v := .agg #[.int .i64 vars, .slice B xss.length cap]) (by simp [results, Tryz.results127, go_sem, j0, j1]) rfl ⟨vars, B, cap, cs, xss, rfl, hv0, hv1, hl, HC.out, hR.out⟩

set_option maxHeartbeats 2000000 in
theorem l2Hard_any (w : World) : Calls Tryz.prog 129 #[] w fun e w' => e = .returned (.slice (some ⟨w.heap.size, 0, none⟩) 15 15) ∧ StrsR (TextLe 100) w' w.heap.size 0 15 ∧ Below w.heap.size w w' := by
  go_enter Tryz.func129, Tryz.ntmps129
  go_wp2_with fail
  go_ret
  refine ⟨rfl, strsR_new rfl fun j hj => ?_, bal (bb _) _⟩
  match j, hj with
  | 0, _ => exact ⟨_, rfl, text_le (by decide)⟩
  | 1, _ => exact ⟨_, rfl, text_le (by decide)⟩
  | 2, _ => exact ⟨_, rfl, text_le (by decide)⟩
  | 3, _ => exact ⟨_, rfl, text_le (by decide)⟩
  | 4, _ => exact ⟨_, rfl, text_le (by decide)⟩
  | 5, _ => exact ⟨_, rfl, text_le (by decide)⟩
  | 6, _ => exact ⟨_, rfl, text_le (by decide)⟩
  | 7, _ => exact ⟨_, rfl, text_le (by decide)⟩
  | 8, _ => exact ⟨_, rfl, text_le (by decide)⟩
  | 9, _ => exact ⟨_, rfl, text_le (by decide)⟩
  | 10, _ => exact ⟨_, rfl, text_le (by decide)⟩
  | 11, _ => exact ⟨_, rfl, text_le (by decide)⟩
  | 12, _ => exact ⟨_, rfl, text_le (by decide)⟩
  | 13, _ => exact ⟨_, rfl, text_le (by decide)⟩
  | 14, _ => exact ⟨_, rfl, text_le (by decide)⟩
end Go.Proofs.YtbemodacpimiiaaGreat

/- Contract: a drawn Cnf without models. -/
namespace Go.Proofs.YtbemodacpimiiaaGreat
open Go.RowKit

/-- Rows of small clauses. -/
def SmallR (n : Nat) (xss : List (List Int)) : Prop := ∀ c ∈ xss, (∀ x ∈ c, I64 x) ∧ c.length ≤ n
theorem SmallC.r {xss : List (List Int)} (h : SmallC xss) : SmallR 13 xss := fun c hc => ⟨(h c hc).1.i64 (by decide), (h c hc).2⟩
/-- A drawn Cnf. -/
def CnfPost (A g : Nat) (ca : Option Addr) (cl cc : Nat) (w : World) (e : Ending) (w' : World) : Prop := ∃ (vars : Int) (B : Option Addr) (cap : Nat) (cs : List Value) (xss : List (List Int)), e = .returned (.agg #[.int .i64 vars, .slice B xss.length cap]) ∧ -1 ≤ vars ∧ vars ≤ 13 ∧ xss.length ≤ 62 ∧ SmallR 13 xss ∧
  CS w g ca cl cc A w' [Rows Ty.int 37 (.slice B xss.length cap) cs xss]

set_option maxRecDepth 100000 in
set_option maxHeartbeats 8000000 in
theorem cur_hard (A g : Nat) (ca : Option Addr) (cl cc : Nat) (w : World) (h : CurIs A g ca cl cc w) (hA : A ≤ 40000000) :
    Calls Tryz.prog 107 #[.pointer (some ⟨g, 0, none⟩)] w (CnfPost (A + 400) g ca cl cc w) := by
  have hg := h.lt
  have S0 := Lib.hid ((CS.start h).alloc_box #[.int .i64 0, .slice none 0 0] 45)
  obtain ⟨i0, hi0, hy0, hy1, hy2⟩ := info_parts infoInt
  obtain ⟨i1, hi, hz0, hz1, hz2⟩ := info_parts infoRow
  clear h
  go_enter Tryz.func107, Tryz.ntmps107
  go_wp2_with fail
  refine (l2Hard_any _).mono ?_
  rintro e w1 ⟨rfl, hst, hb1⟩
  have hne : w.heap.size + 1 ≠ g := by omega
  simp only [World.size_alloc] at hst
  have S1 := S0.out.grow hb1
  have hof := Lib.hid (cur_of (TextLe 100) _ 0 15 15 A g ca cl cc _ S1.cur (by omega) (by decide) (by decide) hst hne)
  replace S1 := Lib.hid S1
  clear S0 hst hb1 hne
  go_wp2_with fail
  refine hof.out.mono ?_
  rintro e w2 ⟨_, ⟨s, hs, rfl⟩, rfl, hi2, hc2⟩
  have S2 := Lib.hid (S1.out.turn hi2 hc2)
  clear S1 hof hi2 hc2
  have hs1 : s.size ≤ 100 := hs
  have hs2 : s.size ≤ 100000 := by omega
  clear hs hs1
  go_wp2_with fail
  refine (l2KnownW_any s _ hs2).mono ?_
  rintro e w3 ⟨vars, B0, cap0, cs0, xss, rfl, hv0, hv1, hl60, HC0, T3⟩
  replace HC0 := Lib.hid HC0
  have S3 := (S2.out.seq T3).alloc_box #[.int .i64 vars, .slice B0 xss.length cap0] 45
  obtain ⟨fb, hfb⟩ : ∃ fb, w3.heap.size = fb := ⟨_, rfl⟩
  rw [hfb] at S3
  have S4 := S3.own_made 3 1
  simp only [World.size_alloc] at S4
  rw [hfb] at S4
  replace S4 := Lib.hid S4
  clear S2 S3 T3 hs2
  go_wp2_with fail
  go_loopw [4, 5] (fun vt vv wr => ∃ (tl : List Int) (TB : Option Addr) (tc : Nat) (z : Int), 1 ≤ z ∧ z ≤ 13 ∧ Hid ((tl.length : Int) + 1 = z) ∧ vv = .int .i64 z ∧ vt = .slice TB tl.length tc ∧ Hid (Within 13 tl) ∧ Hid (CS w g ca cl cc (A + 4 + 2 * tl.length) wr [Own 3 1 (.slice TB tl.length tc) tl.length (tl.map (.int .i64)), Box fb 45 #[.int .i64 vars, .slice B0 xss.length cap0], Rows Ty.int 37 (.slice B0 xss.length cap0) cs0 xss, Box w.heap.size 45 #[.int .i64 0, .slice none 0 0]])) (fun _ vv _ => 20 - (intOf vv).toNat)
  case atStart => exact ⟨[], _, _, 1, by decide, by decide, rfl, rfl, rfl, (fun x hx => by simp at hx), S4.out.mono (show _ ≤ A + 4 + 2 * ([] : List Int).length from by simp)⟩
  case round =>
    obtain ⟨tl, TB, tc, z, hz0', hz13, hlz, rfl, rfl, HW, HS⟩ := hrel
    have htl : tl.length ≤ 12 := by have := hlz.out; omega
    clear S4
    have d0 := HS.out.cell (i := 1) rfl (o := 0) rfl
    by_cases hlt : z ≤ vars
    · have hcur := Lib.hid HS.out.cur
      go_wp2_with fail
      refine (cur_one 4 _ g ca cl cc _ hcur.out (by omega) (by omega)).mono ?_
      rintro e w4 ⟨_, ⟨q, rfl⟩, rfl, hi4, hc4⟩
      have S2 := Lib.hid (HS.out.turn hi4 hc4)
      have hw1 : IntKind.i64.wrap (-z) = -z := IntWalk.i64_in _ (by omega)
      have hw2 : IntKind.i64.wrap (z + 1) = z + 1 := IntWalk.i64_in _ (by omega)
      clear HS hcur hi4 hc4 d0
      cases q
      · as_aux_lemma =>
          have S3 := S2.out.alloc_box #[.int .i64 (z)] 3
          have kB := S3.cell (i := 0) rfl (o := 0) rfl
          have d0 := S3.cell (i := 2) rfl (o := 0) rfl
          replace S3 := Lib.hid S3
          clear S2
          go_wp2_with (at_builtin; refine wpList_append_src rfl _ _ rfl Tryz.underlying37 hi0 hy0 hy1 hy2 rfl (by decide) _ _ _ rfl (S3.out.own (i := 1) rfl) _ 1 1 [.int .i64 (z)] rfl (Src.one kB) (by simp [Value.oneCell']) ?c3 ?c4 ?_)
          case c3 => unfold maxLen; omega
          case c4 => omega
          intro vY wY hownY hgY hatY
          have S4 := (S3.out.own_push (i := 1) rfl (bb _) hownY hgY (by simpa using hatY)).tail
          obtain ⟨aY, cY, rfl⟩ := own_slice hownY
          have hlen : tl.length + 1 = (tl ++ [z]).length := by simp
          have S5 : Hid (CS w g ca cl cc (A + 4 + 2 * (tl.length + 1)) wY [Own 3 1 (.slice aY (tl ++ [z]).length cY) (tl ++ [z]).length ((tl ++ [z]).map (.int .i64)), Box fb 45 #[.int .i64 vars, .slice B0 xss.length cap0], Rows Ty.int 37 (.slice B0 xss.length cap0) cs0 xss, Box w.heap.size 45 #[.int .i64 0, .slice none 0 0]]) := by
            unfold Hid; rw [← hlen, List.map_append]; exact S4.mono (by omega)
          have hW2 : Hid (Within 13 (tl ++ [z])) := HW.out.snoc (by omega) (by omega)
          clear S3 S4 kB hownY hgY hatY HW
          rw [hlen]
          rw [hlen] at S5
          have hlz2 : Hid (((tl ++ [z]).length : Int) + 1 = z + 1) := by unfold Hid; have := hlz.out; rw [← hlen]; omega
          clear hlz htl
          replace hlen := Lib.hid hlen
          generalize tl ++ [z] = tl2 at *
          go_wp2_with fail
          go_roundw
          case rel => exact ⟨tl2, aY, cY, z + 1, by omega, by omega, hlz2, rfl, rfl, hW2, S5⟩
          case measure => simp [intOf]; omega
      · as_aux_lemma =>
          have S3 := S2.out.alloc_box #[.int .i64 (-z)] 3
          have kB := S3.cell (i := 0) rfl (o := 0) rfl
          have d0 := S3.cell (i := 2) rfl (o := 0) rfl
          replace S3 := Lib.hid S3
          clear S2
          go_wp2_with (at_builtin; refine wpList_append_src rfl _ _ rfl Tryz.underlying37 hi0 hy0 hy1 hy2 rfl (by decide) _ _ _ rfl (S3.out.own (i := 1) rfl) _ 1 1 [.int .i64 (-z)] rfl (Src.one kB) (by simp [Value.oneCell']) ?c3 ?c4 ?_)
          case c3 => unfold maxLen; omega
          case c4 => omega
          intro vY wY hownY hgY hatY
          have S4 := (S3.out.own_push (i := 1) rfl (bb _) hownY hgY (by simpa using hatY)).tail
          obtain ⟨aY, cY, rfl⟩ := own_slice hownY
          have hlen : tl.length + 1 = (tl ++ [-z]).length := by simp
          have S5 : Hid (CS w g ca cl cc (A + 4 + 2 * (tl.length + 1)) wY [Own 3 1 (.slice aY (tl ++ [-z]).length cY) (tl ++ [-z]).length ((tl ++ [-z]).map (.int .i64)), Box fb 45 #[.int .i64 vars, .slice B0 xss.length cap0], Rows Ty.int 37 (.slice B0 xss.length cap0) cs0 xss, Box w.heap.size 45 #[.int .i64 0, .slice none 0 0]]) := by
            unfold Hid; rw [← hlen, List.map_append]; exact S4.mono (by omega)
          have hW2 : Hid (Within 13 (tl ++ [-z])) := HW.out.snoc (by omega) (by omega)
          clear S3 S4 kB hownY hgY hatY HW
          rw [hlen]
          rw [hlen] at S5
          have hlz2 : Hid (((tl ++ [-z]).length : Int) + 1 = z + 1) := by unfold Hid; have := hlz.out; rw [← hlen]; omega
          clear hlz htl
          replace hlen := Lib.hid hlen
          generalize tl ++ [-z] = tl2 at *
          go_wp2_with fail
          go_roundw
          case rel => exact ⟨tl2, aY, cY, z + 1, by omega, by omega, hlz2, rfl, rfl, hW2, S5⟩
          case measure => simp [intOf]; omega
    · have hto := HW.out
      have hl1000 : tl.length ≤ 1000 := by omega
      obtain ⟨F, hr, -, -⟩ := HS.out.rows_done (i := 2) rfl
      obtain ⟨G, hy, -, -⟩ := own_row (HS.out.own (i := 0) rfl) (HW.out.i64 (by decide))
      have hrn := Lib.hid (renameW_any vars _ xss tl TB tc F G _ (Ty.row_down hr) (Ty.row_down hy) hto hl1000)
      have d1 := HS.out.cell (i := 1) rfl (o := 1) rfl
      clear hr hy hto
      go_wp2_with fail
      refine hrn.out.mono ?_
      rintro e w4 ⟨va, B, cap, cs, ys, q, rfl, hva0, hva1, hyl, HC, T4⟩
      replace HC := Lib.hid HC.r
      have S5 := HS.out.seq T4
      have r0 := S5.cell (i := 2) rfl (o := 0) rfl
      have r1 := S5.cell (i := 2) rfl (o := 1) rfl
      have f0 := S5.frozen (i := 2) rfl 0
      have f1 := S5.frozen (i := 2) rfl 1
      have S6 := (S5.store (i := 2) rfl 0 (.int .i64 va)).store (i := 2) rfl 1 (.slice B ys.length cap)
      have S7 := S6.swap.tail
      have hcur := Lib.hid S7.cur
      replace S7 := Lib.hid S7
      clear HS S5 S6 T4 d0 d1 hrn HW hlz hl1000 HC0
      go_wp2_with fail
      clear r0 r1 f0 f1
      refine (cur_pick_at (lo := 0) (hi := 2) hcur.out (by omega) (by omega) (by omega) (by omega) (by omega)).mono ?_
      rintro e w5 ⟨_, ⟨x, hx0, hx1, rfl⟩, rfl, hi5, hc5⟩
      obtain ⟨m0, rfl⟩ := Int.eq_ofNat_of_zero_le hx0
      have hm2 : m0 ≤ 2 := by omega
      have S8 := Lib.hid ((S7.out.turn hi5 hc5).mono (show _ ≤ A + 100 + 100 * (2 - m0) by omega))
      clear S7 hcur hi5 hc5 hx0 hx1
      go_wp2_with fail
      go_loopw [6] (fun vv wr => ∃ (m : Nat) (B : Option Addr) (cap : Nat) (cs : List Value) (ys : List (List Int)), m ≤ 2 ∧ vv = .int .i64 m ∧ ys.length + m ≤ 62 ∧ Hid (SmallR 13 ys) ∧ Hid (CS w g ca cl cc (A + 100 + 100 * (2 - m)) wr [Rows Ty.int 37 (.slice B ys.length cap) cs ys, Box fb 45 #[.int .i64 va, .slice B ys.length cap], Rows Ty.int 37 (.slice B0 xss.length cap0) cs0 xss, Box w.heap.size 45 #[.int .i64 0, .slice none 0 0]])) (fun vv _ => (intOf vv).toNat)
      case atStart => exact ⟨m0, B, cap, cs, ys, hm2, rfl, by omega, HC, S8⟩
      case round =>
        clear S8 HC
        obtain ⟨m, B, cap, cs, ys, hm2, rfl, hyl, HC, HS⟩ := hrel
        have d0 := HS.out.cell (i := 1) rfl (o := 0) rfl
        go_upto_region 11 with fail
        go_cut [43] (fun s wx => ∃ b : Bool, s = .bool b ∧ Hid (b = true → 0 < m) ∧ wx = wr)
        case first =>
          by_cases hm : 0 < m
          · have e0 : decide ((0 : Int) < (m : Int)) = true := decide_eq_true (by omega)
            obtain ⟨q, hq⟩ : ∃ q, decide ((0 : Int) < va) = q := ⟨_, rfl⟩
            go_wp2_with fail
            all_goals
              go_meet
              exact ⟨_, rfl, fun _ => hm, rfl⟩
          · have e0 : decide ((0 : Int) < (m : Int)) = false := decide_eq_false (by omega)
            go_wp2_with fail
            go_meet
            exact ⟨false, rfl, (fun h => by cases h), rfl⟩
        case rest =>
        obtain ⟨b, rfl, hb, hww⟩ := hcut
        subst hww
        cases b
        · have l1 := HS.out.cell (i := 1) rfl (o := 1) rfl
          have r0 := HS.out.cell (i := 3) rfl (o := 0) rfl
          have r1 := HS.out.cell (i := 3) rfl (o := 1) rfl
          have f0 := HS.out.frozen (i := 3) rfl 0
          have f1 := HS.out.frozen (i := 3) rfl 1
          have SF := (HS.out.store (i := 3) rfl 0 (.int .i64 va)).store (i := 3) rfl 1 (.slice B ys.length cap)
          have j0 := SF.cell (i := 3) rfl (o := 0) rfl
          have j1 := SF.cell (i := 3) rfl (o := 1) rfl
          have hR := Lib.hid ((CS.front (qs := [_]) SF).mono (show _ ≤ A + 400 by omega))
          clear SF HS
          go_wp2_with fail
          exact bodyPost_ret (v := .agg #[.int .i64 va, .slice B ys.length cap]) (by simp [results, Tryz.results107, go_sem, j0, j1]) rfl ⟨va, B, cap, cs, ys, rfl, by omega, by omega, by omega, HC.out, hR.out⟩
        · have hm := hb.out rfl
          have hmw : IntKind.i64.wrap ((m : Int) - 1) = ((m - 1 : Nat) : Int) := by rw [IntWalk.i64_in _ (by omega)]; omega
          clear hb d0
          have l0 := HS.out.cell (i := 1) rfl (o := 0) rfl
          have l1 := HS.out.cell (i := 1) rfl (o := 1) rfl
          go_wp2_with fail
          refine wp_region_tail_lit (S := (fun w' => w'.cell? ⟨fb, 0, none⟩ = some (.int .i64 va) ∧ w'.cell? ⟨fb, 1, none⟩ = some (.slice B ys.length cap))) 7 [false, false, false, false, false, false, false, false, false, false] (by kernel_rfl) (by kernel_rfl) (by kernel_rfl) ?_ ?_
          · exact ⟨l0, l1⟩
          intro hSc
          (refine walkT_take (i := 0) (v := ?_) rfl (by kernel_rfl) (by decide) (by kernel_rfl) (by kernel_rfl) (fun _ _ _ h => h) (Or.inl ⟨by rfl, ?_⟩) (by assumption) ?_; rotate_left; (focus (intro w hSw; (try dsimp only at hSw); go_simp; (try with_reducible rfl); done)); (try simp only [put_rules]))
          (refine walkT_take (i := 1) (v := ?_) rfl (by kernel_rfl) (by decide) (by kernel_rfl) (by kernel_rfl) (fun _ _ _ h => h) (Or.inl ⟨by rfl, ?_⟩) (by assumption) ?_; rotate_left; (focus (intro w hSw; (try dsimp only at hSw); go_simp; (try with_reducible rfl); done)); (try simp only [put_rules]))
          (refine walkT_take (i := 2) (v := ?_) rfl (by kernel_rfl) (by decide) (by kernel_rfl) (by kernel_rfl) (fun _ _ _ h => h) (Or.inl ⟨by rfl, ?_⟩) (by assumption) ?_; rotate_left; (focus (intro w hSw; (try dsimp only at hSw); go_simp; (try with_reducible rfl); done)); (try simp only [put_rules]))
          (refine walkT_take (i := 3) (v := ?_) rfl (by kernel_rfl) (by decide) (by kernel_rfl) (by kernel_rfl) (fun _ _ _ h => h) (Or.inl ⟨by rfl, ?_⟩) (by assumption) ?_; rotate_left; (focus (intro w hSw; (try dsimp only at hSw); go_simp; (try with_reducible rfl); done)); (try simp only [put_rules]))
          (refine walkT_take (i := 4) (v := ?_) rfl (by kernel_rfl) (by decide) (by kernel_rfl) (by kernel_rfl) (fun _ _ _ h => h) (Or.inl ⟨by rfl, ?_⟩) (by assumption) ?_; rotate_left; (focus (intro w hSw; (try dsimp only at hSw); go_simp; (try with_reducible rfl); done)); (try simp only [put_rules]))
          (refine walkT_ready (rs := [5]) (by kernel_rfl) (by simp) (by decide) ?_; refine AllT.cons rfl (fun K hK => ?_) AllT.nil)
          go_simp
          go_at_call 108
          have S3 := HS.out.drew
          have hcall := Lib.hid (cur_clause va (by omega) _ g ca cl cc _ S3.cur (by omega))
          refine hcall.out.mono ?_
          rintro e w3 ⟨v, c, rfl, ho, hl, hW, hi3, hc3⟩
          have S4 := S3.comp (row_cs S3.cur hi3 hc3 ho)
          obtain ⟨B2, cap2, rfl⟩ := own_slice ho
          have S5 := Lib.hid (CS.own_to_row (ps := _) S4 (hW.i64 (by decide)))
          clear hcall S3 S4 HS l0 l1 hi3 hc3 ho
          go_wp2_with fail
          refine hK.out _ _ ⟨S5.out.cell (i := 2) rfl (o := 0) rfl, S5.out.cell (i := 2) rfl (o := 1) rfl⟩ (fun hS2 => ?_)
          clear hK hSc
          (try simp only [put_rules])
          (refine walkT_ready (rs := [6]) (by kernel_rfl) (by simp) (by decide) ?_; refine AllT.cons rfl (fun K hK => ?_) AllT.nil)
          go_simp
          have hrows := Lib.hid ((S5.out.rows (i := 1) rfl).alloc (.cells #[.slice B2 c.length cap2] 37))
          have kB : (w3.alloc (.cells #[.slice B2 c.length cap2] 37)).cell? ⟨w3.heap.size, 0, none⟩ = some (.slice B2 c.length cap2) := cell_of_row _ _ _ _ _ _ (heap_alloc_new w3 _)
          have S6 := Lib.hid (S5.out.alloc (.cells #[.slice B2 c.length cap2] 37))
          refine hK.out _ _ ⟨S6.out.cell (i := 2) rfl (o := 0) rfl, S6.out.cell (i := 2) rfl (o := 1) rfl⟩ (fun hS3 => ?_)
          clear hK hS2
          (try simp only [put_rules])
          (refine walkT_done (by kernel_rfl) ?_)
          simp only [List.drop_succ_cons, List.drop_zero]
          (refine wpList_append_src rfl _ _ rfl Tryz.underlying43 hi hz0 hz1 hz2 rfl (by decide) _ ys.length _ rfl hrows.out _ 1 1 [.slice B2 c.length cap2] rfl (Src.one kB) (by simp [Value.oneCell']) (by unfold maxLen; omega) (by omega) ?_; intro vY wY hownY hgY hatY)
          have S7 := S5.out.rows_push (bal (bb _) _) hownY hgY hatY
          obtain ⟨aY, cY, rfl⟩ := own_slice hownY
          have b1 := S7.cell (i := 1) rfl (o := 1) rfl
          have q1 := S7.frozen (i := 1) rfl 1
          have hlen : ys.length + 1 = (ys ++ [c]).length := by simp
          have S8 : Hid (CS w g ca cl cc (A + 100 + 100 * (2 - (m - 1))) (wY.setCell ⟨fb, 1, none⟩ (.slice aY (ys.length + 1) cY)) [Rows Ty.int 37 (.slice aY (ys ++ [c]).length cY) (cs ++ [.slice B2 c.length cap2]) (ys ++ [c]), Box fb 45 #[.int .i64 va, .slice aY (ys ++ [c]).length cY], Rows Ty.int 37 (.slice B0 xss.length cap0) cs0 xss, Box w.heap.size 45 #[.int .i64 0, .slice none 0 0]]) := by
            unfold Hid; rw [← hlen]
            have := (S7.store (i := 1) rfl 1 (.slice aY (ys.length + 1) cY)).mono (show _ ≤ A + 100 + 100 * (2 - (m - 1)) by omega)
            rw [hlen] at this ⊢
            exact this
          have HC2 : Hid (SmallR 13 (ys ++ [c])) := fun y hy => by
            rcases List.mem_append.1 hy with hy | hy
            · exact HC.out y hy
            · obtain rfl : y = c := by simpa using hy
              exact ⟨hW.i64 (by decide), by omega⟩
          clear S5 S6 S7 hrows hownY hgY hatY kB hW HC
          replace hlen := Lib.hid hlen
          have hyl2 : (ys ++ [c]).length + (m - 1) ≤ 62 := by rw [← hlen.out]; omega
          go_wp2_with fail
          go_roundw
          case rel => exact ⟨m - 1, aY, cY, cs ++ [.slice B2 c.length cap2], ys ++ [c], by omega, rfl, hyl2, HC2, S8⟩
          case measure => simp [intOf]; omega
end Go.Proofs.YtbemodacpimiiaaGreat
