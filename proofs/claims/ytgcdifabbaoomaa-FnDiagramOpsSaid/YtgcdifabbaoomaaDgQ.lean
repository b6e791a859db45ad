/- Contracts: and, or, forget of diagrams, in the reference. -/
import Derived.Test.YtgcdifabbaoomaaDgP
namespace Go.Proofs.Ytgcdifabbaoomaa
open Go.RowKit

def opB (q x y : Bool) : Bool := if q then x && y else x || y
def upto (k : Nat) (g f : Nat → Bool) (j : Nat) : Bool := if j < k then g j else f j
theorem upto_zero (N : Nat) (g f : Nat → Bool) : blV N (upto 0 g f) = blV N f := blV_congr fun j _ => by simp [upto]
theorem upto_all (N : Nat) (g f : Nat → Bool) : blV N (upto N g f) = blV N g := blV_congr fun j hj => by simp [upto, hj]
theorem upto_set (N k : Nat) (g f : Nat → Bool) : (blV N (upto k g f)).set k (.bool (g k)) = blV N (upto (k + 1) g f) := by
  rw [blV_set]
  refine blV_congr fun j _ => ?_
  unfold upto
  by_cases h : j = k
  · subst h; simp
  · rw [if_neg h]
    by_cases h2 : j < k
    · rw [if_pos h2, if_pos (by omega)]
    · rw [if_neg h2, if_neg (by omega)]
theorem upto_at (k : Nat) (g f : Nat → Bool) : upto k g f k = f k := by simp [upto]

set_option maxRecDepth 100000 in
set_option maxHeartbeats 8000000 in
theorem l26Two_any (q : Bool) (vars r r' : Int) (A A' : Option Addr) (c c' : Nat) (ns ns' : List Nd) (w : World) (hx : NdAt w A ns) (hy : NdAt w A' ns') (hl : ns.length ≤ 1000000) (hl' : ns'.length ≤ 1000000) :
    Calls Try.prog 37 #[.int .i64 vars, dgV r (.slice A ns.length c), dgV r' (.slice A' ns'.length c'), .bool q] w
      (DgTold w (goodD vars r ns && goodD vars r' ns') (outR (goodD vars r ns && goodD vars r' ns') vars (fun b => opB q (valD r ns b) (valD r' ns' b))) (outN (goodD vars r ns && goodD vars r' ns') vars (fun b => opB q (valD r ns b) (valD r' ns' b)))) := by
  have S0 := (((Sp.start w).alloc_box #[.int .i64 r, .slice A ns.length c] 26).alloc_box #[.int .i64 r', .slice A' ns'.length c'] 26).alloc_box #[.int .i64 0, .slice none 0 0] 26
  simp only [World.size_alloc] at S0
  have hcall := Lib.hid (l26Good_any vars r A c ns _ (hx.grow S0.below) hl)
  have hcall2 := Lib.hid (fun W hb => l26Good_any vars r' A' c' ns' W (hy.grow hb) hl')
  have c60 := S0.cell (i := 1) rfl (o := 0) rfl
  have c61 := S0.cell (i := 1) rfl (o := 1) rfl
  replace hx := Lib.hid hx
  replace hy := Lib.hid hy
  replace S0 := Lib.hid S0
  cases h1 : goodD vars r ns
  · rw [h1] at hcall
    go_enter Try.func37, Try.ntmps37
    go_wp2_with fail
    refine hcall.out.mono ?_
    rintro e w1 ⟨rfl, hb1⟩
    have S1 := S0.out.grow hb1
    have r0 := S1.cell (i := 0) rfl (o := 0) rfl
    have r1 := S1.cell (i := 0) rfl (o := 1) rfl
    have f0 := S1.frozen (i := 0) rfl 0
    have f1 := S1.frozen (i := 0) rfl 1
    have S2 := (S1.store (i := 0) rfl 0 (.int .i64 0)).store (i := 0) rfl 1 (.slice none 0 0)
    have j0 := S2.cell (i := 0) rfl (o := 0) rfl
    have j1 := S2.cell (i := 0) rfl (o := 1) rfl
    have hB := S2.below
    clear S0 S1 S2 hcall hcall2 c60 c61 hb1
    go_wp2_with fail
    exact bodyPost_ret (v := .tuple #[.agg #[.int .i64 0, .slice none 0 0], .bool false]) (by simp [results, Try.results37, go_sem, j0, j1]) rfl ⟨none, 0, rfl, .nil _, (fun a e => by cases e), hB⟩
  cases h2 : goodD vars r' ns'
  · rw [h1] at hcall
    rw [h2] at hcall2
    go_enter Try.func37, Try.ntmps37
    go_wp2_with fail
    refine hcall.out.mono ?_
    rintro e w1 ⟨rfl, hb1⟩
    have S1 := S0.out.grow hb1
    have d60 := S1.cell (i := 1) rfl (o := 0) rfl
    have d61 := S1.cell (i := 1) rfl (o := 1) rfl
    have hcall3 := Lib.hid (hcall2.out _ S1.below)
    replace S1 := Lib.hid S1
    clear S0 hcall hcall2 c60 c61 hb1
    go_wp2_with fail
    refine hcall3.out.mono ?_
    rintro e w2 ⟨rfl, hb2⟩
    have S2 := S1.out.grow hb2
    have r0 := S2.cell (i := 0) rfl (o := 0) rfl
    have r1 := S2.cell (i := 0) rfl (o := 1) rfl
    have f0 := S2.frozen (i := 0) rfl 0
    have f1 := S2.frozen (i := 0) rfl 1
    have S3 := (S2.store (i := 0) rfl 0 (.int .i64 0)).store (i := 0) rfl 1 (.slice none 0 0)
    have j0 := S3.cell (i := 0) rfl (o := 0) rfl
    have j1 := S3.cell (i := 0) rfl (o := 1) rfl
    have hB := S3.below
    clear S1 S2 S3 hcall3 d60 d61 hb2
    go_wp2_with fail
    exact bodyPost_ret (v := .tuple #[.agg #[.int .i64 0, .slice none 0 0], .bool false]) (by simp [results, Try.results37, go_sem, j0, j1]) rfl ⟨none, 0, rfl, .nil _, (fun a e => by cases e), hB⟩
  have g1 := good_parts h1
  have g2 := good_parts h2
  rw [h1] at hcall
  rw [h2] at hcall2
  obtain ⟨n, rfl⟩ := Int.eq_ofNat_of_zero_le g1.1.1
  have hn : n ≤ 6 := by omega
  have hR : Hid (outR (true && true) (n : Int) (fun b => opB q (valD r ns b) (valD r' ns' b)) = dgR n (fun b => opB q (valD r ns b) (valD r' ns' b))) := rfl
  have hN : Hid (outN (true && true) (n : Int) (fun b => opB q (valD r ns b) (valD r' ns' b)) = dgN n (fun b => opB q (valD r ns b) (valD r' ns' b))) := rfl
  have hval := Lib.hid (fun W hb => l26Values_any n hn r A c ns W (hx.out.grow hb) hl g1.2.2.2 g1.2.2.1.1 g1.2.2.1.2)
  have hval' := Lib.hid (fun W hb => l26Values_any n hn r' A' c' ns' W (hy.out.grow hb) hl' g2.2.2.2 g2.2.2.1.1 g2.2.2.1.2)
  have hof := Lib.hid (fun A c W h => l26Of_any n hn (fun b => opB q (valD r ns b) (valD r' ns' b)) A c W h)
  have hpos : 0 < 2 ^ n := Nat.two_pow_pos n
  have hp : 2 ^ n ≤ 64 := (pow_small hn).2
  clear g1 g2 hx hy
  generalize 2 ^ n = N at *
  go_enter Try.func37, Try.ntmps37
  go_wp2_with fail
  refine hcall.out.mono ?_
  rintro e w1 ⟨rfl, hb1⟩
  have S1 := S0.out.grow hb1
  have d60 := S1.cell (i := 1) rfl (o := 0) rfl
  have d61 := S1.cell (i := 1) rfl (o := 1) rfl
  have hcall3 := Lib.hid (hcall2.out _ S1.below)
  replace S1 := Lib.hid S1
  clear S0 hcall hcall2 c60 c61 hb1
  go_wp2_with fail
  refine hcall3.out.mono ?_
  rintro e w2 ⟨rfl, hb2⟩
  have S2 := Lib.hid (S1.out.grow hb2)
  clear S1 hcall3 d60 d61 hb2
  go_upto_region 3 with fail
  go_cut [10, 11] (fun s10 s11 wx => ∃ A1 c1 A2 c2, s10 = .slice A1 N c1 ∧ s11 = .slice A2 N c2 ∧ Hid (Sp w wx [Own 4 1 (.slice A1 N c1) N (blV N (valD r ns)), Own 4 1 (.slice A2 N c2) N (blV N (valD r' ns')), Box (w.heap.size + 1 + 1) 26 #[.int .i64 0, .slice none 0 0], Box (w.heap.size + 1) 26 #[.int .i64 r', .slice A' ns'.length c'], Box w.heap.size 26 #[.int .i64 r, .slice A ns.length c]]))
  case first =>
    refine wp_region_held_lit (S := (fun w' => w'.cell? ⟨w.heap.size, 0, none⟩ = some (.int .i64 r) ∧ w'.cell? ⟨w.heap.size, 1, none⟩ = some (.slice A ns.length c) ∧ w'.cell? ⟨w.heap.size + 1, 0, none⟩ = some (.int .i64 r') ∧ w'.cell? ⟨w.heap.size + 1, 1, none⟩ = some (.slice A' ns'.length c'))) 8 [false, false, false, false, false, false, false, false] (by kernel_rfl) (by kernel_rfl) (by kernel_rfl) ?_ ?_
    · exact ⟨S2.out.cell (i := 2) rfl (o := 0) rfl, S2.out.cell (i := 2) rfl (o := 1) rfl, S2.out.cell (i := 1) rfl (o := 0) rfl, S2.out.cell (i := 1) rfl (o := 1) rfl⟩
    intro hSc
    (refine wpAnyH_take (i := 0) (v := ?_) rfl (by kernel_rfl) (by kernel_rfl) (by kernel_rfl) (fun _ _ _ h => h) (Or.inl ⟨by rfl, ?_⟩) (by assumption) ?_; rotate_left; (focus (intro w hSw; (try dsimp only at hSw); go_simp; (try with_reducible rfl); done)); (try simp only [put_rules]))
    (refine wpAnyH_take (i := 1) (v := ?_) rfl (by kernel_rfl) (by kernel_rfl) (by kernel_rfl) (fun _ _ _ h => h) (Or.inl ⟨by rfl, ?_⟩) (by assumption) ?_; rotate_left; (focus (intro w hSw; (try dsimp only at hSw); go_simp; (try with_reducible rfl); done)); (try simp only [put_rules]))
    (refine wpAnyH_take (i := 3) (v := ?_) rfl (by kernel_rfl) (by kernel_rfl) (by kernel_rfl) (fun _ _ _ h => h) (Or.inl ⟨by rfl, ?_⟩) (by assumption) ?_; rotate_left; (focus (intro w hSw; (try dsimp only at hSw); go_simp; (try with_reducible rfl); done)); (try simp only [put_rules]))
    (refine wpAnyH_take (i := 4) (v := ?_) rfl (by kernel_rfl) (by kernel_rfl) (by kernel_rfl) (fun _ _ _ h => h) (Or.inl ⟨by rfl, ?_⟩) (by assumption) ?_; rotate_left; (focus (intro w hSw; (try dsimp only at hSw); go_simp; (try with_reducible rfl); done)); (try simp only [put_rules]))
    (refine wpAnyH_ready (rs := [2]) (by kernel_rfl) (by simp) ?_; refine AllReadyH.cons rfl (fun K hK => ?_) AllReadyH.nil)
    go_simp
    go_at_call 49
    refine (hval.out _ S2.out.drew.below).mono ?_
    rintro e w3 ⟨A3, c3, rfl, T3⟩
    have S3 := S2.out.drew.seq T3
    go_wp2_with fail
    refine hK.out _ _ ⟨S3.cell (i := 3) rfl (o := 0) rfl, S3.cell (i := 3) rfl (o := 1) rfl, S3.cell (i := 2) rfl (o := 0) rfl, S3.cell (i := 2) rfl (o := 1) rfl⟩ (fun hSd => ?_)
    clear hK
    (try simp only [put_rules])
    (refine wpAnyH_ready (rs := [5]) (by kernel_rfl) (by simp) ?_; refine AllReadyH.cons rfl (fun K hK => ?_) AllReadyH.nil)
    go_simp
    go_at_call 49
    refine (hval'.out _ S3.below).mono ?_
    rintro e w4 ⟨A4, c4, rfl, T4⟩
    have S4 := S3.seq T4
    go_wp2_with fail
    refine hK.out _ _ ⟨S4.cell (i := 4) rfl (o := 0) rfl, S4.cell (i := 4) rfl (o := 1) rfl, S4.cell (i := 3) rfl (o := 0) rfl, S4.cell (i := 3) rfl (o := 1) rfl⟩ (fun hSe => ?_)
    clear hK
    (try simp only [put_rules])
    (refine wpAnyH_take (i := 6) (v := ?_) rfl (by kernel_rfl) (by kernel_rfl) (by kernel_rfl) (fun _ _ _ h => h) (Or.inl ⟨by rfl, ?_⟩) (by assumption) ?_; rotate_left; (focus (intro w hSw; (try dsimp only at hSw); go_simp; (try with_reducible rfl); done)); (try simp only [put_rules]))
    (refine wpAnyH_take (i := 7) (v := ?_) rfl (by kernel_rfl) (by kernel_rfl) (by kernel_rfl) (fun _ _ _ h => h) (Or.inl ⟨by rfl, ?_⟩) (by assumption) ?_; rotate_left; (focus (intro w hSw; (try dsimp only at hSw); go_simp; (try with_reducible rfl); done)); (try simp only [put_rules]))
    (refine wpAnyH_done (by kernel_rfl) ?_ _)
    replace S4 := Lib.hid S4
    go_wp2_with fail
    go_meet
    exact ⟨A3, c3, A4, c4, rfl, rfl, S4.out.swap⟩
  case rest =>
  obtain ⟨A1, c1, A2, c2, rfl, rfl, HS0⟩ := hcut
  obtain ⟨gx, cap, cur, e1, -⟩ := own_block (HS0.out.own (i := 0) rfl) hpos
  simp only [Value.slice.injEq] at e1
  obtain ⟨rfl, -, rfl⟩ := e1
  have HS1 := HS0.out
  rw [← upto_zero N (fun b => opB q (valD r ns b) (valD r' ns' b)) (valD r ns)] at HS1
  replace HS1 := Lib.hid HS1
  clear HS0 S2 hval hval'
  go_wp2_with fail
  go_loopw [12] (fun i wr => ∃ k : Nat, k ≤ N ∧ i = .int .i64 k ∧ Hid (Sp w wr [Own 4 1 (.slice (some ⟨gx, 0, none⟩) N c1) N (blV N (upto k (fun b => opB q (valD r ns b) (valD r' ns' b)) (valD r ns))), Own 4 1 (.slice A2 N c2) N (blV N (valD r' ns')), Box (w.heap.size + 1 + 1) 26 #[.int .i64 0, .slice none 0 0], Box (w.heap.size + 1) 26 #[.int .i64 r', .slice A' ns'.length c'], Box w.heap.size 26 #[.int .i64 r, .slice A ns.length c]])) (fun i _ => N - (intOf i).toNat)
  case atStart => exact ⟨0, Nat.zero_le _, rfl, HS1⟩
  case round =>
    obtain ⟨k, hk, rfl, HS⟩ := hrel
    clear HS1
    by_cases hlt : k < N
    · obtain ⟨g', cap', cur', e1, -, hh, -, -, -, ht⟩ := own_block (HS.out.own (i := 0) rfl) hpos
      simp only [Value.slice.injEq, Option.some.injEq, Addr.mk.injEq] at e1
      obtain ⟨⟨rfl, -⟩, -, rfl⟩ := e1
      have hcx := (own_at (cap := 0) hh ht (o := k) (by omega)).1
      have hfx := (own_at (cap := 0) hh ht (o := k) (by omega)).2
      rw [blV_get _ hlt, upto_at] at hcx
      obtain ⟨A2', c2', e2, hbl⟩ := bl_own (HS.out.own (i := 1) rfl)
      cases e2
      obtain ⟨by', oy, rfl, hcy⟩ := hbl k hlt
      have hset := Lib.hid (upto_set N k (fun b => opB q (valD r ns b) (valD r' ns' b)) (valD r ns))
      have hput := Lib.hid (HS.out.own_put (i := 0) rfl (.bool (opB q (valD r ns k) (valD r' ns' k))) (o := k) (by omega))
      generalize valD r ns k = x at *
      generalize valD r' ns' k = y at *
      clear hh ht hbl
      have hput2 : Hid (Sp w (wr.setCell ⟨gx, k, none⟩ (.bool (opB q x y))) [Own 4 1 (.slice (some ⟨gx, 0, none⟩) N c1) N (blV N (upto (k + 1) (fun b => opB q (valD r ns b) (valD r' ns' b)) (valD r ns))), Own 4 1 (.slice (some ⟨by', oy, none⟩) N c2) N (blV N (valD r' ns')), Box (w.heap.size + 1 + 1) 26 #[.int .i64 0, .slice none 0 0], Box (w.heap.size + 1) 26 #[.int .i64 r', .slice A' ns'.length c'], Box w.heap.size 26 #[.int .i64 r, .slice A ns.length c]]) := by
        unfold Hid; rw [← hset.out]; exact hput.out
      clear hput hset HS
      cases q <;> cases x
      all_goals
        go_wp2_with fail
        go_roundw
        case rel => exact ⟨k + 1, by omega, by go_num, hput2⟩
        case measure => simp [intOf]; omega
    · obtain rfl : k = N := by omega
      have S4 := HS.out
      rw [upto_all] at S4
      obtain ⟨A1', c1', e1, hb1⟩ := bl_own (S4.own (i := 0) rfl)
      cases e1
      have hof2 := Lib.hid (hof.out _ c1 _ hb1)
      replace S4 := Lib.hid S4
      clear hof HS hb1
      go_wp2_with fail
      refine hof2.out.mono ?_
      rintro e w5 ⟨v, rfl, B, k, rfl, hNd, hfr, hb5⟩
      have S5 := S4.out.grow hb5
      generalize hRn : dgR n (fun b => opB q (valD r ns b) (valD r' ns' b)) = rr at *
      generalize hNn : dgN n (fun b => opB q (valD r ns b) (valD r' ns' b)) = nn at *
      have r0 := S5.cell (i := 2) rfl (o := 0) rfl
      have r1 := S5.cell (i := 2) rfl (o := 1) rfl
      have f0 := S5.frozen (i := 2) rfl 0
      have f1 := S5.frozen (i := 2) rfl 1
      have S6 := (S5.store (i := 2) rfl 0 (.int .i64 rr)).store (i := 2) rfl 1 (.slice B nn.length k)
      have j0 := S6.cell (i := 2) rfl (o := 0) rfl
      have j1 := S6.cell (i := 2) rfl (o := 1) rfl
      have hB := S6.below
      have hlt := (S4.out.box (i := 2) rfl).2.1
      have hne : ∀ a, B = some a → a.block ≠ w.heap.size + 1 + 1 := fun a ha => by have := hfr a ha; omega
      have hNd2 := Lib.hid ((hNd.set hne 0 (.int .i64 rr)).set hne 1 (.slice B nn.length k))
      have hfr2 : Hid (∀ a, B = some a → w.heap.size ≤ a.block) := fun a ha => by have := hfr a ha; omega
      clear S4 S5 S6 hof2 hb5 hNd hfr hne hlt
      go_wp2_with fail
      exact bodyPost_ret (v := .tuple #[.agg #[.int .i64 rr, .slice B nn.length k], .bool true]) (by simp [results, Try.results37, go_sem, j0, j1]) rfl ⟨B, k, by rw [hR.out, hN.out]; rfl, by rw [hN.out]; exact hNd2.out, hfr2.out, hB⟩
end Go.Proofs.Ytgcdifabbaoomaa
