/- Contracts: and, or, forget of diagrams, in the reference; the comparison. -/
import Derived.Test.YtgcdifabbaoomaaDgQ
namespace Go.Proofs.Ytgcdifabbaoomaa
open Go.RowKit

set_option maxRecDepth 100000 in
set_option maxHeartbeats 4000000 in
theorem specAnd_any (vars r r' : Int) (A A' : Option Addr) (c c' : Nat) (ns ns' : List Nd) (w : World) (hx : NdAt w A ns) (hy : NdAt w A' ns') (hl : ns.length ≤ 1000000) (hl' : ns'.length ≤ 1000000) :
    Calls Try.prog 8 #[.int .i64 vars, dgV r (.slice A ns.length c), dgV r' (.slice A' ns'.length c')] w
      (DgTold w (goodD vars r ns && goodD vars r' ns') (outR (goodD vars r ns && goodD vars r' ns') vars (fun b => valD r ns b && valD r' ns' b)) (outN (goodD vars r ns && goodD vars r' ns') vars (fun b => valD r ns b && valD r' ns' b))) := by
  have S0 := (((Sp.start w).alloc_box #[.int .i64 r, .slice A ns.length c] 26).alloc_box #[.int .i64 r', .slice A' ns'.length c'] 26).alloc_box #[.int .i64 0, .slice none 0 0] 26
  simp only [World.size_alloc] at S0
  have hcall := Lib.hid (l26Two_any true vars r r' A A' c c' ns ns' _ (hx.grow S0.below) (hy.grow S0.below) hl hl')
  simp only [opB, if_true, Bool.false_eq_true, if_false] at hcall
  replace S0 := Lib.hid S0
  generalize hok : (goodD vars r ns && goodD vars r' ns') = ok at *
  generalize outR ok vars (fun b => valD r ns b && valD r' ns' b) = rr at *
  generalize outN ok vars (fun b => valD r ns b && valD r' ns' b) = nn at *
  have hlt0 := (S0.out.box (i := 0) rfl).2.1
  go_enter Try.func8, Try.ntmps8
  go_wp2_with fail
  refine hcall.out.mono ?_
  rintro e w3 ⟨B, k, rfl, hNd, hfr, hb3⟩
  have S3 := S0.out.grow hb3
  have r0 := S3.cell (i := 0) rfl (o := 0) rfl
  have r1 := S3.cell (i := 0) rfl (o := 1) rfl
  have f0 := S3.frozen (i := 0) rfl 0
  have f1 := S3.frozen (i := 0) rfl 1
  have S4 := (S3.store (i := 0) rfl 0 (.int .i64 rr)).store (i := 0) rfl 1 (.slice B nn.length k)
  have j0 := S4.cell (i := 0) rfl (o := 0) rfl
  have j1 := S4.cell (i := 0) rfl (o := 1) rfl
  have hB := S4.below
  have hne : ∀ a, B = some a → a.block ≠ w.heap.size + 1 + 1 := fun a ha => by have := hfr a ha; omega
  have hNd2 := Lib.hid ((hNd.set hne 0 (.int .i64 rr)).set hne 1 (.slice B nn.length k))
  have hfr2 : Hid (∀ a, B = some a → w.heap.size ≤ a.block) := fun a ha => by have := hfr a ha; omega
  clear S0 S3 S4 hcall hb3 hNd hfr hne hlt0
  go_wp2_with fail
  exact bodyPost_ret (v := .tuple #[.agg #[.int .i64 rr, .slice B nn.length k], .bool ok]) (by simp [results, Try.results8, go_sem, j0, j1]) rfl ⟨B, k, rfl, hNd2.out, hfr2.out, hB⟩

set_option maxRecDepth 100000 in
set_option maxHeartbeats 4000000 in
theorem specOr_any (vars r r' : Int) (A A' : Option Addr) (c c' : Nat) (ns ns' : List Nd) (w : World) (hx : NdAt w A ns) (hy : NdAt w A' ns') (hl : ns.length ≤ 1000000) (hl' : ns'.length ≤ 1000000) :
    Calls Try.prog 11 #[.int .i64 vars, dgV r (.slice A ns.length c), dgV r' (.slice A' ns'.length c')] w
      (DgTold w (goodD vars r ns && goodD vars r' ns') (outR (goodD vars r ns && goodD vars r' ns') vars (fun b => valD r ns b || valD r' ns' b)) (outN (goodD vars r ns && goodD vars r' ns') vars (fun b => valD r ns b || valD r' ns' b))) := by
  have S0 := (((Sp.start w).alloc_box #[.int .i64 r, .slice A ns.length c] 26).alloc_box #[.int .i64 r', .slice A' ns'.length c'] 26).alloc_box #[.int .i64 0, .slice none 0 0] 26
  simp only [World.size_alloc] at S0
  have hcall := Lib.hid (l26Two_any false vars r r' A A' c c' ns ns' _ (hx.grow S0.below) (hy.grow S0.below) hl hl')
  simp only [opB, if_true, Bool.false_eq_true, if_false] at hcall
  replace S0 := Lib.hid S0
  generalize hok : (goodD vars r ns && goodD vars r' ns') = ok at *
  generalize outR ok vars (fun b => valD r ns b || valD r' ns' b) = rr at *
  generalize outN ok vars (fun b => valD r ns b || valD r' ns' b) = nn at *
  have hlt0 := (S0.out.box (i := 0) rfl).2.1
  go_enter Try.func11, Try.ntmps11
  go_wp2_with fail
  refine hcall.out.mono ?_
  rintro e w3 ⟨B, k, rfl, hNd, hfr, hb3⟩
  have S3 := S0.out.grow hb3
  have r0 := S3.cell (i := 0) rfl (o := 0) rfl
  have r1 := S3.cell (i := 0) rfl (o := 1) rfl
  have f0 := S3.frozen (i := 0) rfl 0
  have f1 := S3.frozen (i := 0) rfl 1
  have S4 := (S3.store (i := 0) rfl 0 (.int .i64 rr)).store (i := 0) rfl 1 (.slice B nn.length k)
  have j0 := S4.cell (i := 0) rfl (o := 0) rfl
  have j1 := S4.cell (i := 0) rfl (o := 1) rfl
  have hB := S4.below
  have hne : ∀ a, B = some a → a.block ≠ w.heap.size + 1 + 1 := fun a ha => by have := hfr a ha; omega
  have hNd2 := Lib.hid ((hNd.set hne 0 (.int .i64 rr)).set hne 1 (.slice B nn.length k))
  have hfr2 : Hid (∀ a, B = some a → w.heap.size ≤ a.block) := fun a ha => by have := hfr a ha; omega
  clear S0 S3 S4 hcall hb3 hNd hfr hne hlt0
  go_wp2_with fail
  exact bodyPost_ret (v := .tuple #[.agg #[.int .i64 rr, .slice B nn.length k], .bool ok]) (by simp [results, Try.results11, go_sem, j0, j1]) rfl ⟨B, k, rfl, hNd2.out, hfr2.out, hB⟩

set_option maxRecDepth 100000 in
set_option maxHeartbeats 8000000 in
theorem specForget_any (vars r l : Int) (A : Option Addr) (c : Nat) (ns : List Nd) (w : World) (hx : NdAt w A ns) (hl : ns.length ≤ 1000000) :
    Calls Try.prog 16 #[.int .i64 vars, dgV r (.slice A ns.length c), .int .i64 l] w
      (DgTold w (goodD vars r ns && inB l 1 vars) (outR (goodD vars r ns && inB l 1 vars) vars (fun b => valD r ns (setL b l) || valD r ns (setL b (-l)))) (outN (goodD vars r ns && inB l 1 vars) vars (fun b => valD r ns (setL b l) || valD r ns (setL b (-l))))) := by
  have S0 := ((Sp.start w).alloc_box #[.int .i64 r, .slice A ns.length c] 26).alloc_box #[.int .i64 0, .slice none 0 0] 26
  simp only [World.size_alloc] at S0
  have hcall := Lib.hid (l26Good_any vars r A c ns _ (hx.grow S0.below) hl)
  replace hx := Lib.hid hx
  replace S0 := Lib.hid S0
  cases h1 : goodD vars r ns
  · rw [h1] at hcall
    go_enter Try.func16, Try.ntmps16
    go_wp2_with fail
    refine hcall.out.mono ?_
    rintro e w1 ⟨rfl, hb1⟩
    have S1 := S0.out.grow hb1
    have r0 := S1.cell (i := 0) rfl (o := 0) rfl
    have r1 := S1.cell (i := 0) rfl (o := 1) rfl
    have f0 := S1.frozen (i := 0) rfl 0
    have f1 := S1.frozen (i := 0) rfl 1
    have S2 := (S1.store (i := 0) rfl 0 (.int .i64 0)).store (i := 0) rfl 1 (.slice none 0 0)
    have j0 := S2.cell (i := 0) rfl (o := 0) rfl
    have j1 := S2.cell (i := 0) rfl (o := 1) rfl
    have hB := S2.below
    clear S0 S1 S2 hcall hb1
    go_wp2_with fail
    exact bodyPost_ret (v := .tuple #[.agg #[.int .i64 0, .slice none 0 0], .bool false]) (by simp [results, Try.results16, go_sem, j0, j1]) rfl ⟨none, 0, rfl, .nil _, (fun a e => by cases e), hB⟩
  have hcall2 := Lib.hid (fun W => l1In_any l 1 vars W)
  rw [h1] at hcall
  cases h2 : inB l 1 vars
  · rw [h2] at hcall2
    go_enter Try.func16, Try.ntmps16
    go_wp2_with fail
    refine hcall.out.mono ?_
    rintro e w1 ⟨rfl, hb1⟩
    have S1 := Lib.hid (S0.out.grow hb1)
    clear S0 hcall hb1
    go_wp2_with fail
    refine (hcall2.out _).mono ?_
    rintro e w2 ⟨rfl, rfl⟩
    have r0 := S1.out.cell (i := 0) rfl (o := 0) rfl
    have r1 := S1.out.cell (i := 0) rfl (o := 1) rfl
    have f0 := S1.out.frozen (i := 0) rfl 0
    have f1 := S1.out.frozen (i := 0) rfl 1
    have S3 := (S1.out.store (i := 0) rfl 0 (.int .i64 0)).store (i := 0) rfl 1 (.slice none 0 0)
    have j0 := S3.cell (i := 0) rfl (o := 0) rfl
    have j1 := S3.cell (i := 0) rfl (o := 1) rfl
    have hB := S3.below
    clear S1 S3 hcall2
    go_wp2_with fail
    exact bodyPost_ret (v := .tuple #[.agg #[.int .i64 0, .slice none 0 0], .bool false]) (by simp [results, Try.results16, go_sem, j0, j1]) rfl ⟨none, 0, rfl, .nil _, (fun a e => by cases e), hB⟩
  have g1 := good_parts h1
  rw [h2] at hcall2
  obtain ⟨n, rfl⟩ := Int.eq_ofNat_of_zero_le g1.1.1
  have hn : n ≤ 6 := by omega
  have hlit : 0 < l ∧ l ≤ n := by
    rw [inB_def] at h2
    exact ⟨by omega, h2.2⟩
  have hw1 : IntKind.i64.wrap (-l) = -l := IntWalk.i64_in _ (by omega)
  have hR : Hid (outR (true && true) (n : Int) (fun b => valD r ns (setL b l) || valD r ns (setL b (-l))) = dgR n (fun b => valD r ns (setL b l) || valD r ns (setL b (-l)))) := rfl
  have hN : Hid (outN (true && true) (n : Int) (fun b => valD r ns (setL b l) || valD r ns (setL b (-l))) = dgN n (fun b => valD r ns (setL b l) || valD r ns (setL b (-l)))) := rfl
  have hval := Lib.hid (fun W hb => l26Values_any n hn r A c ns W (hx.out.grow hb) hl g1.2.2.2 g1.2.2.1.1 g1.2.2.1.2)
  have hset := Lib.hid (fun A c W h => l26Set_any n hn l (by omega) (by omega) (by omega) (valD r ns) A c W h)
  have hset' := Lib.hid (fun A c W h => l26Set_any n hn (-l) (by omega) (by omega) (by omega) (valD r ns) A c W h)
  have hof := Lib.hid (fun A c W h => l26Of_any n hn (fun b => valD r ns (setL b l) || valD r ns (setL b (-l))) A c W h)
  have hpos : 0 < 2 ^ n := Nat.two_pow_pos n
  have hp : 2 ^ n ≤ 64 := (pow_small hn).2
  clear g1 hlit hx
  generalize 2 ^ n = N at *
  go_enter Try.func16, Try.ntmps16
  go_wp2_with fail
  refine hcall.out.mono ?_
  rintro e w1 ⟨rfl, hb1⟩
  have S1 := Lib.hid (S0.out.grow hb1)
  clear S0 hcall hb1
  go_wp2_with fail
  refine (hcall2.out _).mono ?_
  rintro e w2 ⟨rfl, rfl⟩
  have e0 := S1.out.cell (i := 1) rfl (o := 0) rfl
  have e1 := S1.out.cell (i := 1) rfl (o := 1) rfl
  have hval2 := Lib.hid (hval.out _ S1.out.below)
  clear hval hcall2
  go_wp2_with fail
  refine hval2.out.mono ?_
  rintro e w3 ⟨A3, c3, rfl, T3⟩
  have S3 := S1.out.seq T3
  obtain ⟨A3', c3', e3, hb3⟩ := bl_own (S3.own (i := 0) rfl)
  cases e3
  have hset2 := Lib.hid (hset.out _ c3 _ hb3)
  replace S3 := Lib.hid S3
  clear S1 hset hval2 T3 hb3 e0 e1
  go_wp2_with fail
  refine hset2.out.mono ?_
  rintro e w4 ⟨A4, c4, rfl, T4⟩
  have S4 := S3.out.seq T4
  obtain ⟨A4', c4', e4, hb4⟩ := bl_own (S4.own (i := 1) rfl)
  cases e4
  have hset3 := Lib.hid (hset'.out _ c3 _ hb4)
  replace S4 := Lib.hid S4
  clear S3 hset2 hset' T4 hb4
  go_wp2_with fail
  refine hset3.out.mono ?_
  rintro e w5 ⟨A5, c5, rfl, T5⟩
  have HS0 := S4.out.seq T5
  obtain ⟨gx, cap, cur, e1, -⟩ := own_block (HS0.own (i := 2) rfl) hpos
  simp only [Value.slice.injEq] at e1
  obtain ⟨rfl, -, rfl⟩ := e1
  have HS1 : Sp w w5 [Own 4 1 (.slice A5 N c5) N (blV N fun b => valD r ns (setL b (-l))), Own 4 1 (.slice A4 N c4) N (blV N fun b => valD r ns (setL b l)), Own 4 1 (.slice (some ⟨gx, 0, none⟩) N c3) N (blV N (valD r ns)), Box (w.heap.size + 1) 26 #[.int .i64 0, .slice none 0 0], Box w.heap.size 26 #[.int .i64 r, .slice A ns.length c]] := HS0
  rw [← upto_zero N (fun b => valD r ns (setL b l) || valD r ns (setL b (-l))) (valD r ns)] at HS1
  replace HS1 := Lib.hid HS1
  clear HS0 S4 hset3 T5
  go_wp2_with fail
  go_loopw [11] (fun i wr => ∃ k : Nat, k ≤ N ∧ i = .int .i64 k ∧ Hid (Sp w wr [Own 4 1 (.slice A5 N c5) N (blV N fun b => valD r ns (setL b (-l))), Own 4 1 (.slice A4 N c4) N (blV N fun b => valD r ns (setL b l)), Own 4 1 (.slice (some ⟨gx, 0, none⟩) N c3) N (blV N (upto k (fun b => valD r ns (setL b l) || valD r ns (setL b (-l))) (valD r ns))), Box (w.heap.size + 1) 26 #[.int .i64 0, .slice none 0 0], Box w.heap.size 26 #[.int .i64 r, .slice A ns.length c]])) (fun i _ => N - (intOf i).toNat)
  case atStart => exact ⟨0, Nat.zero_le _, rfl, HS1⟩
  case round =>
    obtain ⟨k, hk, rfl, HS⟩ := hrel
    clear HS1
    by_cases hlt : k < N
    · obtain ⟨g', cap', cur', e1, -, hh, -, -, -, ht⟩ := own_block (HS.out.own (i := 2) rfl) hpos
      simp only [Value.slice.injEq, Option.some.injEq, Addr.mk.injEq] at e1
      obtain ⟨⟨rfl, -⟩, -, rfl⟩ := e1
      have hcx := (own_at (cap := 0) hh ht (o := k) (by omega)).1
      have hfx := (own_at (cap := 0) hh ht (o := k) (by omega)).2
      rw [blV_get _ hlt, upto_at] at hcx
      obtain ⟨A2', c2', e2, hbl⟩ := bl_own (HS.out.own (i := 1) rfl)
      cases e2
      obtain ⟨by', oy, rfl, hcy⟩ := hbl k hlt
      obtain ⟨A2', c2', e2, hbl2⟩ := bl_own (HS.out.own (i := 0) rfl)
      cases e2
      obtain ⟨bz, oz, rfl, hcz⟩ := hbl2 k hlt
      have hset := Lib.hid (upto_set N k (fun b => valD r ns (setL b l) || valD r ns (setL b (-l))) (valD r ns))
      have hput := Lib.hid (HS.out.own_put (i := 2) rfl (.bool (valD r ns (setL k l) || valD r ns (setL k (-l)))) (o := k) (by omega))
      have hput2 : Hid (Sp w (wr.setCell ⟨gx, k, none⟩ (.bool (valD r ns (setL k l) || valD r ns (setL k (-l))))) [Own 4 1 (.slice (some ⟨bz, oz, none⟩) N c5) N (blV N fun b => valD r ns (setL b (-l))), Own 4 1 (.slice (some ⟨by', oy, none⟩) N c4) N (blV N fun b => valD r ns (setL b l)), Own 4 1 (.slice (some ⟨gx, 0, none⟩) N c3) N (blV N (upto (k + 1) (fun b => valD r ns (setL b l) || valD r ns (setL b (-l))) (valD r ns))), Box (w.heap.size + 1) 26 #[.int .i64 0, .slice none 0 0], Box w.heap.size 26 #[.int .i64 r, .slice A ns.length c]]) := by
        unfold Hid; rw [← hset.out]; exact hput.out
      dsimp only at hcy hcz
      generalize valD r ns (setL k l) = x at *
      generalize valD r ns (setL k (-l)) = y at *
      generalize valD r ns k = z at hcx
      clear hh ht hbl hbl2 hput hset HS
      cases x
      all_goals
        go_wp2_with fail
        go_roundw
        case rel => exact ⟨k + 1, by omega, by go_num, hput2⟩
        case measure => simp [intOf]; omega
    · obtain rfl : k = N := by omega
      have S4 := HS.out
      rw [upto_all] at S4
      obtain ⟨A1', c1', e1, hb1⟩ := bl_own (S4.own (i := 2) rfl)
      cases e1
      have hof2 := Lib.hid (hof.out _ c3 _ hb1)
      replace S4 := Lib.hid S4
      clear hof HS hb1
      go_wp2_with fail
      refine hof2.out.mono ?_
      rintro e w5 ⟨v, rfl, B, k, rfl, hNd, hfr, hb5⟩
      have S5 := S4.out.grow hb5
      generalize hRn : dgR n (fun b => valD r ns (setL b l) || valD r ns (setL b (-l))) = rr at *
      generalize hNn : dgN n (fun b => valD r ns (setL b l) || valD r ns (setL b (-l))) = nn at *
      have r0 := S5.cell (i := 3) rfl (o := 0) rfl
      have r1 := S5.cell (i := 3) rfl (o := 1) rfl
      have f0 := S5.frozen (i := 3) rfl 0
      have f1 := S5.frozen (i := 3) rfl 1
      have S6 := (S5.store (i := 3) rfl 0 (.int .i64 rr)).store (i := 3) rfl 1 (.slice B nn.length k)
      have j0 := S6.cell (i := 3) rfl (o := 0) rfl
      have j1 := S6.cell (i := 3) rfl (o := 1) rfl
      have hB := S6.below
      have hlt := (S4.out.box (i := 3) rfl).2.1
      have hne : ∀ a, B = some a → a.block ≠ w.heap.size + 1 := fun a ha => by have := hfr a ha; omega
      have hNd2 := Lib.hid ((hNd.set hne 0 (.int .i64 rr)).set hne 1 (.slice B nn.length k))
      have hfr2 : Hid (∀ a, B = some a → w.heap.size ≤ a.block) := fun a ha => by have := hfr a ha; omega
      clear S4 S5 S6 hof2 hb5 hNd hfr hne hlt
      go_wp2_with fail
      exact bodyPost_ret (v := .tuple #[.agg #[.int .i64 rr, .slice B nn.length k], .bool true]) (by simp [results, Try.results16, go_sem, j0, j1]) rfl ⟨B, k, by rw [hR.out, hN.out]; rfl, by rw [hN.out]; exact hNd2.out, hfr2.out, hB⟩

set_option maxRecDepth 100000 in
set_option maxHeartbeats 4000000 in
/-- The same diagram twice is the same. -/
theorem vDiagram_same (r : Int) (A A' : Option Addr) (c c' : Nat) (ns : List Nd) (w : World) (hx : NdAt w A ns) (hy : NdAt w A' ns) (hl : ns.length ≤ 1000000) :
    Calls Try.prog 9 #[dgV r (.slice A ns.length c), dgV r (.slice A' ns.length c')] w fun e w' => e = .returned (.bool true) ∧ Below w.heap.size w w' := by
  have S0 := ((Sp.start w).alloc_box #[.int .i64 r, .slice A ns.length c] 26).alloc_box #[.int .i64 r, .slice A' ns.length c'] 26
  simp only [World.size_alloc] at S0
  replace S0 := Lib.hid S0
  have hN := Lib.hid hx
  have hM := Lib.hid hy
  clear hx hy
  go_enter Try.func9, Try.ntmps9
  go_wp2_with fail
  go_loopw [5] (fun i wr => ∃ k : Nat, k ≤ ns.length ∧ i = .int .i64 k ∧ Hid (Sp w wr [Box (w.heap.size + 1) 26 #[.int .i64 r, .slice A' ns.length c'], Box w.heap.size 26 #[.int .i64 r, .slice A ns.length c]])) (fun i _ => ns.length - (intOf i).toNat)
  case atStart => exact ⟨0, Nat.zero_le _, rfl, S0⟩
  case round =>
    obtain ⟨k, hk, rfl, HS⟩ := hrel
    clear S0
    by_cases hlt : k < ns.length
    · obtain ⟨b, off, rfl, m0, m1, m2⟩ := (hN.out.grow HS.out.below).at_ k hlt
      obtain ⟨b', off', rfl, p0, p1, p2⟩ := (hM.out.grow HS.out.below).at_ k hlt
      have c0 := HS.out.cell (i := 1) rfl (o := 1) rfl
      have d0 := HS.out.cell (i := 0) rfl (o := 1) rfl
      have k0 := cell_regrown m0
      have k1 := cell_regrown m1
      have k2 := cell_regrown m2
      have q0 := cell_regrown p0
      have q1 := cell_regrown p1
      have q2 := cell_regrown p2
      have a0 := cell_regrown c0
      have a1 := cell_regrown d0
      generalize ns[k].v = v at *
      generalize ns[k].lo = lo at *
      generalize ns[k].hi = hi at *
      have hst := nd_held
      have hgu := nd_guard
      clear m0 m1 m2 p0 p1 p2
      go_wp2_with fail
      refine wp_region_quiet_below (by kernel_rfl) (by kernel_rfl) ?_
      repeat (any_goals (go_big_quiet_step (fail)))
      refine wpQuiet_nil ?_
      rintro w3 ⟨p, rfl⟩
      have HS4 := Lib.hid (HS.out.grow (below_regrown _ p.d p.os))
      clear HS k0 k1 k2 q0 q1 q2 a0 a1 c0 d0
      go_wp2_with fail
      go_roundw
      case rel => exact ⟨k + 1, by omega, by go_num, HS4⟩
      case measure => simp [intOf]; omega
    · obtain rfl : k = ns.length := by omega
      have c0 := HS.out.cell (i := 1) rfl (o := 1) rfl
      have hB := HS.out.below
      go_wp2_with fail
      go_ret
      exact ⟨rfl, hB⟩
end Go.Proofs.Ytgcdifabbaoomaa
