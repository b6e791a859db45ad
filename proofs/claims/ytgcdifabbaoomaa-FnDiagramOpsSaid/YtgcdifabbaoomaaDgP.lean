/- Contracts: the reduced diagram of values, a literal that is set, in the reference. -/
import Derived.Test.YtgcdifabbaoomaaDgO
namespace Go.Proofs.Ytgcdifabbaoomaa
open Go.RowKit

set_option maxRecDepth 100000 in
set_option maxHeartbeats 4000000 in
theorem l26OfS_any (n : Nat) (hn : n ≤ 6) (f : Nat → Bool) (A : Option Addr) (c : Nat) (w : World) (hx : BlAt w A (2 ^ n) f) :
    Calls Try.prog 51 #[.int .i64 n, .slice A (2 ^ n) c] w fun e w' => ∃ B k, e = .returned (dgV (dgR n f) (.slice B (dgN n f).length k)) ∧ Sp w w' [Own 67 3 (.slice B (dgN n f).length k) (dgN n f).length ((dgN n f).flatMap ndEnc)] := by
  have HS0 := Lib.hid ((Sp.start w).alloc_box #[.int .i64 0, .slice none 0 0] 26)
  have hx0 := hx.grow (bal (bb w) (.cells #[.int .i64 0, .slice none 0 0] 26))
  have S0 := (Sp.start (w.alloc (.cells #[.int .i64 0, .slice none 0 0] 26))).own_made 67 3
  simp only [World.size_alloc] at S0
  have hm := dg_made n f
  have hok := Lib.hid (nd_small hm.ok (by omega) (by have := dg_len f hn; omega))
  have hcall := Lib.hid (plan_any (c := c) hn hx0 n 1 0 [] _ _ (by omega) (by omega) (by decide) (fun i hi => by simp at hi) (by have : 2 ^ n ≤ 2 ^ 6 := Nat.pow_le_pow_right (by decide) hn; simp; omega) S0)
  have e1 : (planF f n 1 0 []).2 = dgR n f := rfl
  have e2 : (planF f n 1 0 []).1 = dgN n f := rfl
  rw [e1, e2] at hcall
  clear e1 e2 hm S0 hx hx0
  generalize dgR n f = r at *
  generalize dgN n f = ns at *
  generalize 2 ^ n = N at *
  go_enter Try.func51, Try.ntmps51
  go_wp2_with fail
  refine hcall.out.mono ?_
  rintro e w1 ⟨B, k, rfl, HS⟩
  have HS1 : Sp w w1 [Own 67 3 (.slice B ns.length k) ns.length (ns.flatMap ndEnc), Box w.heap.size 26 #[.int .i64 0, .slice none 0 0]] := HS0.out.seq HS
  have r0 := HS1.cell (i := 1) rfl (o := 0) rfl
  have r1 := HS1.cell (i := 1) rfl (o := 1) rfl
  have f0 := HS1.frozen (i := 1) rfl 0
  have f1 := HS1.frozen (i := 1) rfl 1
  have S2 := (HS1.store (i := 1) rfl 0 (.int .i64 r)).store (i := 1) rfl 1 (.slice B ns.length k)
  have j0 := S2.cell (i := 1) rfl (o := 0) rfl
  have j1 := S2.cell (i := 1) rfl (o := 1) rfl
  have S3 := Lib.hid S2.swap.tail
  clear S2 hok hcall HS HS0 HS1
  go_wp2_with fail
  exact bodyPost_ret (v := .agg #[.int .i64 r, .slice B ns.length k]) (by simp [results, Try.results51, go_sem, j0, j1]) rfl ⟨B, k, rfl, S3.out⟩
theorem l26Of_any (n : Nat) (hn : n ≤ 6) (f : Nat → Bool) (A : Option Addr) (c : Nat) (w : World) (hx : BlAt w A (2 ^ n) f) :
    Calls Try.prog 51 #[.int .i64 n, .slice A (2 ^ n) c] w fun e w' => ∃ v, e = .returned (dgV (dgR n f) v) ∧ DgPost w (dgN n f) v w' := by
  have hm := dg_made n f
  have hok := nd_small hm.ok (by omega) (by have := dg_len f hn; omega)
  refine (l26OfS_any n hn f A c w hx).mono ?_
  rintro e w' ⟨B, k, rfl, S⟩
  obtain ⟨A', c', e1, hN⟩ := nd_own (S.own (i := 0) rfl) hok
  cases e1
  exact ⟨_, rfl, _, _, rfl, hN, own_from (S.owns_end (i := 0) rfl), S.below⟩

set_option maxRecDepth 100000 in
set_option maxHeartbeats 4000000 in
theorem specSet_any (vars r l : Int) (A : Option Addr) (c : Nat) (ns : List Nd) (w : World) (hx : NdAt w A ns) (hl : ns.length ≤ 1000000) :
    Calls Try.prog 19 #[.int .i64 vars, dgV r (.slice A ns.length c), .int .i64 l] w
      (DgTold w (goodD vars r ns && litB vars l) (outR (goodD vars r ns && litB vars l) vars (fun b => valD r ns (setL b l))) (outN (goodD vars r ns && litB vars l) vars (fun b => valD r ns (setL b l)))) := by
  have S0 := ((Sp.start w).alloc_box #[.int .i64 r, .slice A ns.length c] 26).alloc_box #[.int .i64 0, .slice none 0 0] 26
  simp only [World.size_alloc] at S0
  have hcall := Lib.hid (l26Good_any vars r A c ns _ (hx.grow S0.below) hl)
  replace hx := Lib.hid hx
  replace S0 := Lib.hid S0
  cases h1 : goodD vars r ns
  · rw [h1] at hcall
    go_enter Try.func19, Try.ntmps19
    go_wp2_with fail
    refine hcall.out.mono ?_
    rintro e w1 ⟨rfl, hb1⟩
    have S1 := S0.out.grow hb1
    have r0 := S1.cell (i := 0) rfl (o := 0) rfl
    have r1 := S1.cell (i := 0) rfl (o := 1) rfl
    have f0 := S1.frozen (i := 0) rfl 0
    have f1 := S1.frozen (i := 0) rfl 1
    have S2 := (S1.store (i := 0) rfl 0 (.int .i64 0)).store (i := 0) rfl 1 (.slice none 0 0)
    have j0 := S2.cell (i := 0) rfl (o := 0) rfl
    have j1 := S2.cell (i := 0) rfl (o := 1) rfl
    have hB := S2.below
    clear S0 S1 S2 hcall hb1
    go_wp2_with fail
    exact bodyPost_ret (v := .tuple #[.agg #[.int .i64 0, .slice none 0 0], .bool false]) (by simp [results, Try.results19, go_sem, j0, j1]) rfl ⟨none, 0, rfl, .nil _, (fun a e => by cases e), hB⟩
  have g1 := good_parts h1
  have hcall2 := Lib.hid (fun W => l2Lit_any vars l g1.1.1 (by have := g1.1.2; omega) W)
  rw [h1] at hcall
  cases h2 : litB vars l
  · rw [h2] at hcall2
    go_enter Try.func19, Try.ntmps19
    go_wp2_with fail
    refine hcall.out.mono ?_
    rintro e w1 ⟨rfl, hb1⟩
    have S1 := Lib.hid (S0.out.grow hb1)
    clear S0 hcall hb1 g1
    go_wp2_with fail
    refine (hcall2.out _).mono ?_
    rintro e w2 ⟨rfl, rfl⟩
    have r0 := S1.out.cell (i := 0) rfl (o := 0) rfl
    have r1 := S1.out.cell (i := 0) rfl (o := 1) rfl
    have f0 := S1.out.frozen (i := 0) rfl 0
    have f1 := S1.out.frozen (i := 0) rfl 1
    have S3 := (S1.out.store (i := 0) rfl 0 (.int .i64 0)).store (i := 0) rfl 1 (.slice none 0 0)
    have j0 := S3.cell (i := 0) rfl (o := 0) rfl
    have j1 := S3.cell (i := 0) rfl (o := 1) rfl
    have hB := S3.below
    clear S1 S3 hcall2
    go_wp2_with fail
    exact bodyPost_ret (v := .tuple #[.agg #[.int .i64 0, .slice none 0 0], .bool false]) (by simp [results, Try.results19, go_sem, j0, j1]) rfl ⟨none, 0, rfl, .nil _, (fun a e => by cases e), hB⟩
  rw [h2] at hcall2
  obtain ⟨n, rfl⟩ := Int.eq_ofNat_of_zero_le g1.1.1
  have hn : n ≤ 6 := by omega
  have hlit : l ≠ 0 ∧ -(n : Int) ≤ l ∧ l ≤ n := by
    unfold litB at h2
    rw [Bool.and_eq_true, decide_eq_true_eq, inB_def] at h2
    exact h2
  have hR : Hid (outR (true && true) (n : Int) (fun b => valD r ns (setL b l)) = dgR n (fun b => valD r ns (setL b l))) := rfl
  have hN : Hid (outN (true && true) (n : Int) (fun b => valD r ns (setL b l)) = dgN n (fun b => valD r ns (setL b l))) := rfl
  have hval := Lib.hid (fun W hb => l26Values_any n hn r A c ns W (hx.out.grow hb) hl g1.2.2.2 g1.2.2.1.1 g1.2.2.1.2)
  have hset := Lib.hid (fun A c W h => l26Set_any n hn l hlit.1 hlit.2.1 hlit.2.2 (valD r ns) A c W h)
  have hof := Lib.hid (fun A c W h => l26Of_any n hn (fun b => valD r ns (setL b l)) A c W h)
  clear g1 hlit hx
  generalize 2 ^ n = N at *
  go_enter Try.func19, Try.ntmps19
  go_wp2_with fail
  refine hcall.out.mono ?_
  rintro e w1 ⟨rfl, hb1⟩
  have S1 := Lib.hid (S0.out.grow hb1)
  clear S0 hcall hb1
  go_wp2_with fail
  refine (hcall2.out _).mono ?_
  rintro e w2 ⟨rfl, rfl⟩
  have e0 := S1.out.cell (i := 1) rfl (o := 0) rfl
  have e1 := S1.out.cell (i := 1) rfl (o := 1) rfl
  have hval2 := Lib.hid (hval.out _ S1.out.below)
  clear hval hcall2
  go_wp2_with fail
  refine hval2.out.mono ?_
  rintro e w3 ⟨A3, c3, rfl, T3⟩
  obtain ⟨A3', c3', e3, hb3⟩ := bl_own (T3.own (i := 0) rfl)
  cases e3
  have S3 := Lib.hid (S1.out.grow T3.below)
  have hset2 := Lib.hid (hset.out _ c3 _ hb3)
  clear S1 hset hval2 T3 hb3 e0 e1
  go_wp2_with fail
  refine hset2.out.mono ?_
  rintro e w4 ⟨A4, c4, rfl, T4⟩
  obtain ⟨A4', c4', e4, hb4⟩ := bl_own (T4.own (i := 0) rfl)
  cases e4
  have S4 := Lib.hid (S3.out.grow T4.below)
  have hof2 := Lib.hid (hof.out _ c4 _ hb4)
  clear S3 hset2 hof T4 hb4
  go_wp2_with fail
  refine hof2.out.mono ?_
  rintro e w5 ⟨v, rfl, B, k, rfl, hNd, hfr, hb5⟩
  have S5 := S4.out.grow hb5
  generalize hRn : dgR n (fun b => valD r ns (setL b l)) = rr at *
  generalize hNn : dgN n (fun b => valD r ns (setL b l)) = nn at *
  have r0 := S5.cell (i := 0) rfl (o := 0) rfl
  have r1 := S5.cell (i := 0) rfl (o := 1) rfl
  have f0 := S5.frozen (i := 0) rfl 0
  have f1 := S5.frozen (i := 0) rfl 1
  have S6 := (S5.store (i := 0) rfl 0 (.int .i64 rr)).store (i := 0) rfl 1 (.slice B nn.length k)
  have j0 := S6.cell (i := 0) rfl (o := 0) rfl
  have j1 := S6.cell (i := 0) rfl (o := 1) rfl
  have hB := S6.below
  have hlt := (S4.out.box (i := 0) rfl).2.1
  have hne : ∀ a, B = some a → a.block ≠ w.heap.size + 1 := fun a ha => by have := hfr a ha; omega
  have hNd2 := Lib.hid ((hNd.set hne 0 (.int .i64 rr)).set hne 1 (.slice B nn.length k))
  have hfr2 : Hid (∀ a, B = some a → w.heap.size ≤ a.block) := fun a ha => by have := hfr a ha; omega
  clear S4 S5 S6 hof2 hb5 hNd hfr hne hlt
  go_wp2_with fail
  exact bodyPost_ret (v := .tuple #[.agg #[.int .i64 rr, .slice B nn.length k], .bool true]) (by simp [results, Try.results19, go_sem, j0, j1]) rfl ⟨B, k, by rw [hR.out, hN.out]; rfl, by rw [hN.out]; exact hNd2.out, hfr2.out, hB⟩
end Go.Proofs.Ytgcdifabbaoomaa
