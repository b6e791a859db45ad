/- Lemmas and contracts for a law, put together out of several texts: DuB. -/
import Derived.Test.YtbemodacpimiiaaGreatMg3
import Derived.Test.YtbemodacpimiiaaGreatMg7
import Derived.Test.YtbemodacpimiiaaGreatMg8
/- Contracts: reduced diagrams, values, diagrams of clauses and Cnfs, on both sides. Printed by gen_dub.py. -/
namespace Go.Proofs.YtbemodacpimiiaaGreat
open Go.RowKit

set_option maxRecDepth 100000 in
set_option maxHeartbeats 4000000 in
theorem reduce_any (vars r : Int) (A : Option Addr) (c : Nat) (ns : List Nd) (w : World) (hx : NdAt w A ns) (hl : ns.length ≤ 1000000) :
    Calls Tryz.prog 7 #[.int .i64 vars, dgV r (.slice A ns.length c)] w (DgTold w (goodD vars r ns) (outR (goodD vars r ns) vars (valD r ns)) (outN (goodD vars r ns) vars (valD r ns))) := by
  have S0 := ((Sp.start w).alloc_box #[.int .i64 r, .slice A ns.length c] 26).alloc_box #[.int .i64 0, .slice none 0 0] 26
  simp only [World.size_alloc] at S0
  have hcall := Lib.hid (isDiagram_any vars r A c ns _ (hx.grow S0.below) hl)
  replace hx := Lib.hid hx
  replace S0 := Lib.hid S0
  cases h1 : goodD vars r ns
  · rw [h1] at hcall
    go_enter Tryz.func7, Tryz.ntmps7
    go_wp2_with fail
    refine hcall.out.mono ?_
    rintro e w1 ⟨rfl, hb1⟩
    have S1 := S0.out.grow hb1
    have r0 := S1.cell (i := 0) rfl (o := 0) rfl
    have r1 := S1.cell (i := 0) rfl (o := 1) rfl
    have f0 := S1.frozen (i := 0) rfl 0
    have f1 := S1.frozen (i := 0) rfl 1
    have S9 := (S1.store (i := 0) rfl 0 (.int .i64 0)).store (i := 0) rfl 1 (.slice none 0 0)
    have j0 := S9.cell (i := 0) rfl (o := 0) rfl
    have j1 := S9.cell (i := 0) rfl (o := 1) rfl
    have hB := S9.below
    clear S9 S0 S1 hcall hb1
    go_wp2_with fail
    exact bodyPost_ret (v := .tuple #[.agg #[.int .i64 0, .slice none 0 0], .bool false]) (by simp [results, Tryz.results7, go_sem, j0, j1]) rfl ⟨none, 0, rfl, .nil _, (fun a e => by cases e), hB⟩
  have g1 := good_parts h1
  rw [h1] at hcall
  obtain ⟨n, rfl⟩ := Int.eq_ofNat_of_zero_le g1.1.1
  have hn : n ≤ 6 := by omega
  have hR : Hid (outR true (n : Int) (valD r ns) = dgR n (valD r ns)) := rfl
  have hN : Hid (outN true (n : Int) (valD r ns) = dgN n (valD r ns)) := rfl
  have hpl := Lib.hid (fun W (hb : Below w.heap.size w W) => plannedM_any n (dgV r (.slice A ns.length c)) (valD r ns) W hn (fun b w' hb' hbl => valueAt_any r b A c ns w' (hx.out.grow (btr hb hbl)) hl g1.2.2.2 g1.2.2.1.1 g1.2.2.1.2 (pow62 (by omega) hb')))
  clear g1 hx
  go_enter Tryz.func7, Tryz.ntmps7
  go_wp2_with fail
  refine hcall.out.mono ?_
  rintro e w1 ⟨rfl, hb1⟩
  have S1 := S0.out.grow hb1
  have d60 := S1.cell (i := 1) rfl (o := 0) rfl
  have d61 := S1.cell (i := 1) rfl (o := 1) rfl
  have hpl2 := Lib.hid (hpl.out _ S1.below)
  replace S1 := Lib.hid S1
  clear S0 hcall hb1 hpl
  generalize hRn : dgR n (valD r ns) = rr at *
  generalize hNn : dgN n (valD r ns) = nn at *
  go_wp2_with fail
  refine hpl2.out.mono ?_
  rintro e w3 ⟨v, rfl, B, k, rfl, hNd, hfr, hb3⟩
  have S3 := S1.out.grow hb3
  have r0 := S3.cell (i := 0) rfl (o := 0) rfl
  have r1 := S3.cell (i := 0) rfl (o := 1) rfl
  have f0 := S3.frozen (i := 0) rfl 0
  have f1 := S3.frozen (i := 0) rfl 1
  have S9 := (S3.store (i := 0) rfl 0 (.int .i64 rr)).store (i := 0) rfl 1 (.slice B nn.length k)
  have j0 := S9.cell (i := 0) rfl (o := 0) rfl
  have j1 := S9.cell (i := 0) rfl (o := 1) rfl
  have hB := S9.below
  have hlt := (S1.out.box (i := 0) rfl).2.1
  have hne : ∀ a, B = some a → a.block ≠ w.heap.size + 1 := fun a ha => by have := hfr a ha; omega
  have hNd2 := Lib.hid ((hNd.set hne 0 (.int .i64 rr)).set hne 1 (.slice B nn.length k))
  have hfr2 : Hid (∀ a, B = some a → w.heap.size ≤ a.block) := fun a ha => by have := hfr a ha; omega
  clear S9 hNd hfr hne hlt S1 S3 hpl2 hb3 d60 d61
  go_wp2_with fail
  exact bodyPost_ret (v := .tuple #[.agg #[.int .i64 rr, .slice B nn.length k], .bool true]) (by simp [results, Tryz.results7, go_sem, j0, j1]) rfl ⟨B, k, by rw [hR.out, hN.out], by rw [hN.out]; exact hNd2.out, hfr2.out, hB⟩
set_option maxRecDepth 100000 in
set_option maxHeartbeats 4000000 in
theorem isReduced_any (vars r : Int) (A : Option Addr) (c : Nat) (ns : List Nd) (w : World) (hx : NdAt w A ns) (hl : ns.length ≤ 1000000) :
    Calls Tryz.prog 11 #[.int .i64 vars, dgV r (.slice A ns.length c)] w fun e w' => e = .returned (.tuple #[.bool (goodD vars r ns && decide (r = dgR vars.toNat (valD r ns) ∧ ns = dgN vars.toNat (valD r ns))), .bool (goodD vars r ns)]) ∧ Below w.heap.size w w' := by
  have S0 := (Sp.start w).alloc_box #[.int .i64 r, .slice A ns.length c] 26
  have hcall := Lib.hid (isDiagram_any vars r A c ns _ (hx.grow S0.below) hl)
  replace hx := Lib.hid hx
  replace S0 := Lib.hid S0
  cases h1 : goodD vars r ns
  · rw [h1] at hcall
    go_enter Tryz.func11, Tryz.ntmps11
    go_wp2_with fail
    refine hcall.out.mono ?_
    rintro e w1 ⟨rfl, hb1⟩
    have hB := (S0.out.grow hb1).below
    clear S0 hcall hb1
    go_wp2_with fail
    go_ret2
    exact ⟨rfl, hB⟩
  have g1 := good_parts h1
  rw [h1] at hcall
  obtain ⟨n, rfl⟩ := Int.eq_ofNat_of_zero_le g1.1.1
  have hn : n ≤ 6 := by omega
  rw [Int.toNat_natCast]
  have hpl := Lib.hid (fun W (hb : Below w.heap.size w W) => plannedM_any n (dgV r (.slice A ns.length c)) (valD r ns) W hn (fun b w' hb' hbl => valueAt_any r b A c ns w' (hx.out.grow (btr hb hbl)) hl g1.2.2.2 g1.2.2.1.1 g1.2.2.1.2 (pow62 (by omega) hb')))
  have hlen := dg_len (valD r ns) hn
  clear g1
  generalize hRn : dgR n (valD r ns) = rr at *
  generalize hNn : dgN n (valD r ns) = nn at *
  have hsame := Lib.hid (fun B k W (hb : Below w.heap.size w W) h => sameDiagram_any r rr A B c k ns nn W (hx.out.grow hb) h hl (by omega))
  obtain ⟨q, hq⟩ : ∃ q, decide (r = rr ∧ ns = nn) = q := ⟨_, rfl⟩
  rw [hq] at hsame ⊢
  clear hx hRn hNn hq
  go_enter Tryz.func11, Tryz.ntmps11
  go_wp2_with fail
  refine hcall.out.mono ?_
  rintro e w1 ⟨rfl, hb1⟩
  have S1 := Lib.hid (S0.out.grow hb1)
  clear S0 hcall hb1
  go_wp2_with fail
  refine wp_region_held_lit (S := (fun w' => w'.cell? ⟨w.heap.size, 0, none⟩ = some (.int .i64 r) ∧ w'.cell? ⟨w.heap.size, 1, none⟩ = some (.slice A ns.length c))) 8 [false, false, false, false, false, false, false, false] (by kernel_rfl) (by kernel_rfl) (by kernel_rfl) ?_ ?_
  · exact ⟨S1.out.cell (i := 0) rfl (o := 0) rfl, S1.out.cell (i := 0) rfl (o := 1) rfl⟩
  intro hSc
  (refine wpAnyH_take (i := 0) (v := ?_) rfl (by kernel_rfl) (by kernel_rfl) (by kernel_rfl) (fun _ _ _ h => h) (Or.inl ⟨by rfl, ?_⟩) (by assumption) ?_; rotate_left; (focus (intro w hSw; (try dsimp only at hSw); go_simp; (try with_reducible rfl); done)); (try simp only [put_rules]))
  (refine wpAnyH_take (i := 1) (v := ?_) rfl (by kernel_rfl) (by kernel_rfl) (by kernel_rfl) (fun _ _ _ h => h) (Or.inl ⟨by rfl, ?_⟩) (by assumption) ?_; rotate_left; (focus (intro w hSw; (try dsimp only at hSw); go_simp; (try with_reducible rfl); done)); (try simp only [put_rules]))
  (refine wpAnyH_take (i := 2) (v := ?_) rfl (by kernel_rfl) (by kernel_rfl) (by kernel_rfl) (fun _ _ _ h => h) (Or.inl ⟨by rfl, ?_⟩) (by assumption) ?_; rotate_left; (focus (intro w hSw; (try dsimp only at hSw); go_simp; (try with_reducible rfl); done)); (try simp only [put_rules]))
  (refine wpAnyH_take (i := 3) (v := ?_) rfl (by kernel_rfl) (by kernel_rfl) (by kernel_rfl) (fun _ _ _ h => h) (Or.inl ⟨by rfl, ?_⟩) (by assumption) ?_; rotate_left; (focus (intro w hSw; (try dsimp only at hSw); go_simp; (try with_reducible rfl); done)); (try simp only [put_rules]))
  (refine wpAnyH_ready (rs := [4]) (by kernel_rfl) (by simp) ?_; refine AllReadyH.cons rfl (fun K hK => ?_) AllReadyH.nil)
  go_simp
  go_at_call 42
  refine (hpl.out _ (bdr S1.out.below)).mono ?_
  rintro e w3 ⟨v, rfl, B, k, rfl, hNd, hfr, hb3⟩
  have S3 := S1.out.drew.grow hb3
  have hs2 := Lib.hid (hsame.out B k _ S3.below hNd)
  replace S3 := Lib.hid S3
  clear S1 hpl hNd hfr hb3 hsame
  go_wp2_with fail
  refine hK.out _ _ ⟨S3.out.cell (i := 0) rfl (o := 0) rfl, S3.out.cell (i := 0) rfl (o := 1) rfl⟩ (fun hSd => ?_)
  clear hK hSc
  (try simp only [put_rules])
  (refine wpAnyH_ready (rs := [5]) (by kernel_rfl) (by simp) ?_; refine AllReadyH.cons rfl (fun K hK => ?_) AllReadyH.nil)
  go_simp
  go_at_call 49
  refine hs2.out.mono ?_
  rintro e w4 ⟨rfl, hb4⟩
  have S4 := Lib.hid (S3.out.grow hb4)
  clear S3 hs2 hb4
  go_wp2_with fail
  refine hK.out _ _ ⟨S4.out.cell (i := 0) rfl (o := 0) rfl, S4.out.cell (i := 0) rfl (o := 1) rfl⟩ (fun hSe => ?_)
  clear hK hSd
  (try simp only [put_rules])
  (refine wpAnyH_take (i := 6) (v := ?_) rfl (by kernel_rfl) (by kernel_rfl) (by kernel_rfl) (fun _ _ _ h => h) (Or.inl ⟨by rfl, ?_⟩) (by assumption) ?_; rotate_left; (focus (intro w hSw; (try dsimp only at hSw); go_simp; (try with_reducible rfl); done)); (try simp only [put_rules]))
  (refine wpAnyH_take (i := 7) (v := ?_) rfl (by kernel_rfl) (by kernel_rfl) (by kernel_rfl) (fun _ _ _ h => h) (Or.inl ⟨by rfl, ?_⟩) (by assumption) ?_; rotate_left; (focus (intro w hSw; (try dsimp only at hSw); go_simp; (try with_reducible rfl); done)); (try simp only [put_rules]))
  (refine wpAnyH_done (by kernel_rfl) ?_ _)
  have hB := S4.out.below
  clear S4 hSe
  go_wp2_with fail
  go_ret2
  exact ⟨rfl, hB⟩

theorem bitsOkD_any (n : Nat) (hn : n ≤ 12) (m : Nat) (hm : m < 2 ^ n) (w : World) : Calls Tryz.prog 56 #[.int .i64 n, .int .i64 m] w fun e w' => e = .returned (.bool true) ∧ Below w.heap.size w w' := by
  obtain ⟨hsh, hp⟩ := pow12 hn
  have hN1 : 1 ≤ 2 ^ n := Nat.one_le_two_pow
  have hin : inB (m : Int) 0 (((2 ^ n : Nat) : Int) - 1) = true := inB_def.2 ⟨by omega, by omega⟩
  have hn0 : (0 : Int) ≤ n := by omega
  generalize 2 ^ n = N at *
  have hw1 : IntKind.i64.wrap ((N : Int) - 1) = (N : Int) - 1 := IntWalk.i64_in _ (by omega)
  go_enter Tryz.func56, Tryz.ntmps56
  go_wp2_with fail
  try rw [hsh]
  try rw [hw1]
  refine (within_b hin _).mono ?_
  rintro e w1 ⟨rfl, hb1⟩
  go_wp2_with fail
  go_ret
  exact ⟨rfl, hb1⟩

set_option maxRecDepth 100000 in
set_option maxHeartbeats 4000000 in
theorem diagramValue_any (n : Nat) (r : Int) (A : Option Addr) (c : Nat) (ns : List Nd) (b : Nat) (w : World) (hg : goodD n r ns = true) (hb : b < 2 ^ n) (hx : NdAt w A ns) (hl : ns.length ≤ 1000000) :
    Calls Tryz.prog 19 #[.int .i64 n, dgV r (.slice A ns.length c), .int .i64 b] w fun e w' => e = .returned (.tuple #[.bool (valD r ns b), .bool true]) ∧ Below w.heap.size w w' := by
  have S0 := (Sp.start w).alloc_box #[.int .i64 r, .slice A ns.length c] 26
  have hcall := Lib.hid (isDiagram_any n r A c ns _ (hx.grow S0.below) hl)
  have g1 := good_parts hg
  have hn : n ≤ 6 := by omega
  rw [hg] at hcall
  have hbo := Lib.hid (fun W => bitsOkD_any n (by omega) b hb W)
  have hva := Lib.hid (fun W (hbW : Below w.heap.size w W) => valueAt_any r b A c ns W (hx.grow hbW) hl g1.2.2.2 g1.2.2.1.1 g1.2.2.1.2 (pow62 (by omega) hb))
  generalize valD r ns b = q at *
  replace S0 := Lib.hid S0
  clear g1 hx hb hg
  go_enter Tryz.func19, Tryz.ntmps19
  go_wp2_with fail
  refine hcall.out.mono ?_
  rintro e w1 ⟨rfl, hb1⟩
  have S1 := Lib.hid (S0.out.grow hb1)
  clear S0 hcall hb1
  go_wp2_with fail
  refine (hbo.out _).mono ?_
  rintro e w2 ⟨rfl, hb2⟩
  have S2 := S1.out.grow hb2
  have d0 := S2.cell (i := 0) rfl (o := 0) rfl
  have d1 := S2.cell (i := 0) rfl (o := 1) rfl
  have hB := Lib.hid S2.below
  clear S1 S2 hb2
  go_wp2_with fail
  refine (hva.out _ hB.out).mono ?_
  rintro e w3 ⟨rfl, hb3⟩
  have hB2 := btr hB.out hb3
  clear hva hb3 hB d0 d1
  go_wp2_with fail
  go_ret2
  exact ⟨rfl, hB2⟩
set_option maxRecDepth 100000 in
set_option maxHeartbeats 4000000 in
theorem specReduce_any (vars r : Int) (A : Option Addr) (c : Nat) (ns : List Nd) (w : World) (hx : NdAt w A ns) (hl : ns.length ≤ 1000000) :
    Calls Tryz.prog 8 #[.int .i64 vars, dgV r (.slice A ns.length c)] w (DgTold w (goodD vars r ns) (outR (goodD vars r ns) vars (valD r ns)) (outN (goodD vars r ns) vars (valD r ns))) := by
  have S0 := ((Sp.start w).alloc_box #[.int .i64 r, .slice A ns.length c] 26).alloc_box #[.int .i64 0, .slice none 0 0] 26
  simp only [World.size_alloc] at S0
  have hcall := Lib.hid (l26Good_any vars r A c ns _ (hx.grow S0.below) hl)
  replace hx := Lib.hid hx
  replace S0 := Lib.hid S0
  cases h1 : goodD vars r ns
  · rw [h1] at hcall
    go_enter Tryz.func8, Tryz.ntmps8
    go_wp2_with fail
    refine hcall.out.mono ?_
    rintro e w1 ⟨rfl, hb1⟩
    have S1 := S0.out.grow hb1
    have r0 := S1.cell (i := 0) rfl (o := 0) rfl
    have r1 := S1.cell (i := 0) rfl (o := 1) rfl
    have f0 := S1.frozen (i := 0) rfl 0
    have f1 := S1.frozen (i := 0) rfl 1
    have S9 := (S1.store (i := 0) rfl 0 (.int .i64 0)).store (i := 0) rfl 1 (.slice none 0 0)
    have j0 := S9.cell (i := 0) rfl (o := 0) rfl
    have j1 := S9.cell (i := 0) rfl (o := 1) rfl
    have hB := S9.below
    clear S9 S0 S1 hcall hb1
    go_wp2_with fail
    exact bodyPost_ret (v := .tuple #[.agg #[.int .i64 0, .slice none 0 0], .bool false]) (by simp [results, Tryz.results8, go_sem, j0, j1]) rfl ⟨none, 0, rfl, .nil _, (fun a e => by cases e), hB⟩
  have g1 := good_parts h1
  rw [h1] at hcall
  obtain ⟨n, rfl⟩ := Int.eq_ofNat_of_zero_le g1.1.1
  have hn : n ≤ 6 := by omega
  have hval := Lib.hid (fun W hb => l26Values_any n hn r A c ns W (hx.out.grow hb) hl g1.2.2.2 g1.2.2.1.1 g1.2.2.1.2)
  have hof := Lib.hid (fun A c W h => l26Of_any n hn (valD r ns) A c W h)
  have hR : Hid (outR true (n : Int) (valD r ns) = dgR n (valD r ns)) := rfl
  have hN : Hid (outN true (n : Int) (valD r ns) = dgN n (valD r ns)) := rfl
  clear g1 hx
  generalize 2 ^ n = N at *
  go_enter Tryz.func8, Tryz.ntmps8
  go_wp2_with fail
  refine hcall.out.mono ?_
  rintro e w1 ⟨rfl, hb1⟩
  have S1 := S0.out.grow hb1
  have d60 := S1.cell (i := 1) rfl (o := 0) rfl
  have d61 := S1.cell (i := 1) rfl (o := 1) rfl
  have hval2 := Lib.hid (hval.out _ S1.below)
  replace S1 := Lib.hid S1
  clear S0 hcall hb1 hval
  go_wp2_with fail
  refine hval2.out.mono ?_
  rintro e w2 ⟨A3, c3, rfl, T3⟩
  obtain ⟨A3', c3', e3, hb3⟩ := bl_own (T3.own (i := 0) rfl)
  cases e3
  have S2 := Lib.hid (S1.out.grow T3.below)
  have hof2 := Lib.hid (hof.out _ c3 _ hb3)
  clear S1 hval2 T3 hb3 d60 d61 hof
  generalize hRn : dgR n (valD r ns) = rr at *
  generalize hNn : dgN n (valD r ns) = nn at *
  go_wp2_with fail
  refine hof2.out.mono ?_
  rintro e w3 ⟨v, rfl, B, k, rfl, hNd, hfr, hb3⟩
  have S3 := S2.out.grow hb3
  have r0 := S3.cell (i := 0) rfl (o := 0) rfl
  have r1 := S3.cell (i := 0) rfl (o := 1) rfl
  have f0 := S3.frozen (i := 0) rfl 0
  have f1 := S3.frozen (i := 0) rfl 1
  have S9 := (S3.store (i := 0) rfl 0 (.int .i64 rr)).store (i := 0) rfl 1 (.slice B nn.length k)
  have j0 := S9.cell (i := 0) rfl (o := 0) rfl
  have j1 := S9.cell (i := 0) rfl (o := 1) rfl
  have hB := S9.below
  have hlt := (S2.out.box (i := 0) rfl).2.1
  have hne : ∀ a, B = some a → a.block ≠ w.heap.size + 1 := fun a ha => by have := hfr a ha; omega
  have hNd2 := Lib.hid ((hNd.set hne 0 (.int .i64 rr)).set hne 1 (.slice B nn.length k))
  have hfr2 : Hid (∀ a, B = some a → w.heap.size ≤ a.block) := fun a ha => by have := hfr a ha; omega
  clear S9 hNd hfr hne hlt S2 S3 hof2 hb3
  go_wp2_with fail
  exact bodyPost_ret (v := .tuple #[.agg #[.int .i64 rr, .slice B nn.length k], .bool true]) (by simp [results, Tryz.results8, go_sem, j0, j1]) rfl ⟨B, k, by rw [hR.out, hN.out], by rw [hN.out]; exact hNd2.out, hfr2.out, hB⟩
set_option maxRecDepth 100000 in
set_option maxHeartbeats 4000000 in
theorem specIsReduced_any (vars r : Int) (A : Option Addr) (c : Nat) (ns : List Nd) (w : World) (hx : NdAt w A ns) (hl : ns.length ≤ 1000000) :
    Calls Tryz.prog 12 #[.int .i64 vars, dgV r (.slice A ns.length c)] w fun e w' => e = .returned (.tuple #[.bool (goodD vars r ns && decide (r = dgR vars.toNat (valD r ns) ∧ ns = dgN vars.toNat (valD r ns))), .bool (goodD vars r ns)]) ∧ Below w.heap.size w w' := by
  have S0 := (Sp.start w).alloc_box #[.int .i64 r, .slice A ns.length c] 26
  have hcall := Lib.hid (l26Good_any vars r A c ns _ (hx.grow S0.below) hl)
  replace hx := Lib.hid hx
  replace S0 := Lib.hid S0
  cases h1 : goodD vars r ns
  · rw [h1] at hcall
    go_enter Tryz.func12, Tryz.ntmps12
    go_wp2_with fail
    refine hcall.out.mono ?_
    rintro e w1 ⟨rfl, hb1⟩
    have hB := (S0.out.grow hb1).below
    clear S0 hcall hb1
    go_wp2_with fail
    go_ret2
    exact ⟨rfl, hB⟩
  have g1 := good_parts h1
  rw [h1] at hcall
  obtain ⟨n, rfl⟩ := Int.eq_ofNat_of_zero_le g1.1.1
  have hn : n ≤ 6 := by omega
  have hval := Lib.hid (fun W hb => l26Values_any n hn r A c ns W (hx.out.grow hb) hl g1.2.2.2 g1.2.2.1.1 g1.2.2.1.2)
  have hof := Lib.hid (fun A c W h => l26Of_any n hn (valD r ns) A c W h)
  rw [Int.toNat_natCast]
  have hlen := dg_len (valD r ns) hn
  clear g1
  generalize 2 ^ n = N at *
  generalize hRn : dgR n (valD r ns) = rr at *
  generalize hNn : dgN n (valD r ns) = nn at *
  have hsame := Lib.hid (fun B k W (hb : Below w.heap.size w W) h => l26Same_any r rr A B c k ns nn W (hx.out.grow hb) h hl (by omega))
  obtain ⟨q, hq⟩ : ∃ q, decide (r = rr ∧ ns = nn) = q := ⟨_, rfl⟩
  rw [hq] at hsame ⊢
  clear hx hRn hNn hq
  go_enter Tryz.func12, Tryz.ntmps12
  go_wp2_with fail
  refine hcall.out.mono ?_
  rintro e w1 ⟨rfl, hb1⟩
  have S1 := Lib.hid (S0.out.grow hb1)
  clear S0 hcall hb1
  go_wp2_with fail
  refine wp_region_held_lit (S := (fun w' => w'.cell? ⟨w.heap.size, 0, none⟩ = some (.int .i64 r) ∧ w'.cell? ⟨w.heap.size, 1, none⟩ = some (.slice A ns.length c))) 9 [false, false, false, false, false, false, false, false, false] (by kernel_rfl) (by kernel_rfl) (by kernel_rfl) ?_ ?_
  · exact ⟨S1.out.cell (i := 0) rfl (o := 0) rfl, S1.out.cell (i := 0) rfl (o := 1) rfl⟩
  intro hSc
  (refine wpAnyH_take (i := 0) (v := ?_) rfl (by kernel_rfl) (by kernel_rfl) (by kernel_rfl) (fun _ _ _ h => h) (Or.inl ⟨by rfl, ?_⟩) (by assumption) ?_; rotate_left; (focus (intro w hSw; (try dsimp only at hSw); go_simp; (try with_reducible rfl); done)); (try simp only [put_rules]))
  (refine wpAnyH_take (i := 1) (v := ?_) rfl (by kernel_rfl) (by kernel_rfl) (by kernel_rfl) (fun _ _ _ h => h) (Or.inl ⟨by rfl, ?_⟩) (by assumption) ?_; rotate_left; (focus (intro w hSw; (try dsimp only at hSw); go_simp; (try with_reducible rfl); done)); (try simp only [put_rules]))
  (refine wpAnyH_take (i := 2) (v := ?_) rfl (by kernel_rfl) (by kernel_rfl) (by kernel_rfl) (fun _ _ _ h => h) (Or.inl ⟨by rfl, ?_⟩) (by assumption) ?_; rotate_left; (focus (intro w hSw; (try dsimp only at hSw); go_simp; (try with_reducible rfl); done)); (try simp only [put_rules]))
  (refine wpAnyH_take (i := 3) (v := ?_) rfl (by kernel_rfl) (by kernel_rfl) (by kernel_rfl) (fun _ _ _ h => h) (Or.inl ⟨by rfl, ?_⟩) (by assumption) ?_; rotate_left; (focus (intro w hSw; (try dsimp only at hSw); go_simp; (try with_reducible rfl); done)); (try simp only [put_rules]))
  (refine wpAnyH_ready (rs := [4]) (by kernel_rfl) (by simp) ?_; refine AllReadyH.cons rfl (fun K hK => ?_) AllReadyH.nil)
  go_simp
  go_at_call 46
  refine (hval.out _ (bdr S1.out.below)).mono ?_
  rintro e w2 ⟨A3, c3, rfl, T3⟩
  obtain ⟨A3', c3', e3, hb3⟩ := bl_own (T3.own (i := 0) rfl)
  cases e3
  have S2 := Lib.hid (S1.out.drew.grow T3.below)
  have hof2 := Lib.hid (hof.out _ c3 _ hb3)
  clear S1 hval T3 hb3 hof
  go_wp2_with fail
  refine hK.out _ _ ⟨S2.out.cell (i := 0) rfl (o := 0) rfl, S2.out.cell (i := 0) rfl (o := 1) rfl⟩ (fun hSd => ?_)
  clear hK hSc
  (try simp only [put_rules])
  (refine wpAnyH_ready (rs := [5]) (by kernel_rfl) (by simp) ?_; refine AllReadyH.cons rfl (fun K hK => ?_) AllReadyH.nil)
  go_simp
  go_at_call 45
  refine hof2.out.mono ?_
  rintro e w3 ⟨v, rfl, B, k, rfl, hNd, hfr, hb3⟩
  have S3 := S2.out.grow hb3
  have hs2 := Lib.hid (hsame.out B k _ S3.below hNd)
  replace S3 := Lib.hid S3
  clear S2 hof2 hNd hfr hb3 hsame
  go_wp2_with fail
  refine hK.out _ _ ⟨S3.out.cell (i := 0) rfl (o := 0) rfl, S3.out.cell (i := 0) rfl (o := 1) rfl⟩ (fun hSe => ?_)
  clear hK hSd
  (try simp only [put_rules])
  (refine wpAnyH_ready (rs := [6]) (by kernel_rfl) (by simp) ?_; refine AllReadyH.cons rfl (fun K hK => ?_) AllReadyH.nil)
  go_simp
  go_at_call 50
  refine hs2.out.mono ?_
  rintro e w4 ⟨rfl, hb4⟩
  have S4 := Lib.hid (S3.out.grow hb4)
  clear S3 hs2 hb4
  go_wp2_with fail
  refine hK.out _ _ ⟨S4.out.cell (i := 0) rfl (o := 0) rfl, S4.out.cell (i := 0) rfl (o := 1) rfl⟩ (fun hSf => ?_)
  clear hK hSe
  (try simp only [put_rules])
  (refine wpAnyH_take (i := 7) (v := ?_) rfl (by kernel_rfl) (by kernel_rfl) (by kernel_rfl) (fun _ _ _ h => h) (Or.inl ⟨by rfl, ?_⟩) (by assumption) ?_; rotate_left; (focus (intro w hSw; (try dsimp only at hSw); go_simp; (try with_reducible rfl); done)); (try simp only [put_rules]))
  (refine wpAnyH_take (i := 8) (v := ?_) rfl (by kernel_rfl) (by kernel_rfl) (by kernel_rfl) (fun _ _ _ h => h) (Or.inl ⟨by rfl, ?_⟩) (by assumption) ?_; rotate_left; (focus (intro w hSw; (try dsimp only at hSw); go_simp; (try with_reducible rfl); done)); (try simp only [put_rules]))
  (refine wpAnyH_done (by kernel_rfl) ?_ _)
  have hB := S4.out.below
  clear S4 hSf
  go_wp2_with fail
  go_ret2
  exact ⟨rfl, hB⟩
end Go.Proofs.YtbemodacpimiiaaGreat
