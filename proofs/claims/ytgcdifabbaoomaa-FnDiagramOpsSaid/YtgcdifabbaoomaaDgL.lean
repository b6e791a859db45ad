/- Contracts: and, or, not, count of diagrams, in the program. -/
import Derived.Test.YtgcdifabbaoomaaDgK
import Derived.Test.YtgcdifabbaoomaaDgH
namespace Go.Proofs.Ytgcdifabbaoomaa
open Go.RowKit

set_option maxRecDepth 100000 in
set_option maxHeartbeats 4000000 in
theorem andD_any (vars r r' : Int) (A A' : Option Addr) (c c' : Nat) (ns ns' : List Nd) (w : World) (hx : NdAt w A ns) (hy : NdAt w A' ns') (hl : ns.length ≤ 1000000) (hl' : ns'.length ≤ 1000000) :
    Calls Try.prog 7 #[.int .i64 vars, dgV r (.slice A ns.length c), dgV r' (.slice A' ns'.length c')] w
      (DgTold w (goodD vars r ns && goodD vars r' ns') (outR (goodD vars r ns && goodD vars r' ns') vars (fun b => valD r ns b && valD r' ns' b)) (outN (goodD vars r ns && goodD vars r' ns') vars (fun b => valD r ns b && valD r' ns' b))) := by
  have S0 := (((Sp.start w).alloc_box #[.int .i64 r, .slice A ns.length c] 26).alloc_box #[.int .i64 r', .slice A' ns'.length c'] 26).alloc_box #[.int .i64 0, .slice none 0 0] 26
  simp only [World.size_alloc] at S0
  have hcall := Lib.hid (pairDiagram_any pairAnd_ok vars r r' A A' c c' ns ns' _ (hx.grow S0.below) (hy.grow S0.below) hl hl')
  replace S0 := Lib.hid S0
  generalize hok : (goodD vars r ns && goodD vars r' ns') = ok at *
  generalize outR ok vars (fun b => valD r ns b && valD r' ns' b) = rr at *
  generalize outN ok vars (fun b => valD r ns b && valD r' ns' b) = nn at *
  have hlt0 := (S0.out.box (i := 0) rfl).2.1
  go_enter Try.func7, Try.ntmps7
  go_wp2_with fail
  refine hcall.out.mono ?_
  rintro e w3 ⟨B, k, rfl, hNd, hfr, hb3⟩
  have S3 := S0.out.grow hb3
  have r0 := S3.cell (i := 0) rfl (o := 0) rfl
  have r1 := S3.cell (i := 0) rfl (o := 1) rfl
  have f0 := S3.frozen (i := 0) rfl 0
  have f1 := S3.frozen (i := 0) rfl 1
  have S4 := (S3.store (i := 0) rfl 0 (.int .i64 rr)).store (i := 0) rfl 1 (.slice B nn.length k)
  have j0 := S4.cell (i := 0) rfl (o := 0) rfl
  have j1 := S4.cell (i := 0) rfl (o := 1) rfl
  have hB := S4.below
  have hne : ∀ a, B = some a → a.block ≠ w.heap.size + 1 + 1 := fun a ha => by have := hfr a ha; omega
  have hNd2 := Lib.hid ((hNd.set hne 0 (.int .i64 rr)).set hne 1 (.slice B nn.length k))
  have hfr2 : Hid (∀ a, B = some a → w.heap.size ≤ a.block) := fun a ha => by have := hfr a ha; omega
  clear S0 S3 S4 hcall hb3 hNd hfr hne hlt0
  go_wp2_with fail
  exact bodyPost_ret (v := .tuple #[.agg #[.int .i64 rr, .slice B nn.length k], .bool ok]) (by simp [results, Try.results7, go_sem, j0, j1]) rfl ⟨B, k, rfl, hNd2.out, hfr2.out, hB⟩

set_option maxRecDepth 100000 in
set_option maxHeartbeats 4000000 in
theorem orD_any (vars r r' : Int) (A A' : Option Addr) (c c' : Nat) (ns ns' : List Nd) (w : World) (hx : NdAt w A ns) (hy : NdAt w A' ns') (hl : ns.length ≤ 1000000) (hl' : ns'.length ≤ 1000000) :
    Calls Try.prog 10 #[.int .i64 vars, dgV r (.slice A ns.length c), dgV r' (.slice A' ns'.length c')] w
      (DgTold w (goodD vars r ns && goodD vars r' ns') (outR (goodD vars r ns && goodD vars r' ns') vars (fun b => valD r ns b || valD r' ns' b)) (outN (goodD vars r ns && goodD vars r' ns') vars (fun b => valD r ns b || valD r' ns' b))) := by
  have S0 := (((Sp.start w).alloc_box #[.int .i64 r, .slice A ns.length c] 26).alloc_box #[.int .i64 r', .slice A' ns'.length c'] 26).alloc_box #[.int .i64 0, .slice none 0 0] 26
  simp only [World.size_alloc] at S0
  have hcall := Lib.hid (pairDiagram_any pairOr_ok vars r r' A A' c c' ns ns' _ (hx.grow S0.below) (hy.grow S0.below) hl hl')
  replace S0 := Lib.hid S0
  generalize hok : (goodD vars r ns && goodD vars r' ns') = ok at *
  generalize outR ok vars (fun b => valD r ns b || valD r' ns' b) = rr at *
  generalize outN ok vars (fun b => valD r ns b || valD r' ns' b) = nn at *
  have hlt0 := (S0.out.box (i := 0) rfl).2.1
  go_enter Try.func10, Try.ntmps10
  go_wp2_with fail
  refine hcall.out.mono ?_
  rintro e w3 ⟨B, k, rfl, hNd, hfr, hb3⟩
  have S3 := S0.out.grow hb3
  have r0 := S3.cell (i := 0) rfl (o := 0) rfl
  have r1 := S3.cell (i := 0) rfl (o := 1) rfl
  have f0 := S3.frozen (i := 0) rfl 0
  have f1 := S3.frozen (i := 0) rfl 1
  have S4 := (S3.store (i := 0) rfl 0 (.int .i64 rr)).store (i := 0) rfl 1 (.slice B nn.length k)
  have j0 := S4.cell (i := 0) rfl (o := 0) rfl
  have j1 := S4.cell (i := 0) rfl (o := 1) rfl
  have hB := S4.below
  have hne : ∀ a, B = some a → a.block ≠ w.heap.size + 1 + 1 := fun a ha => by have := hfr a ha; omega
  have hNd2 := Lib.hid ((hNd.set hne 0 (.int .i64 rr)).set hne 1 (.slice B nn.length k))
  have hfr2 : Hid (∀ a, B = some a → w.heap.size ≤ a.block) := fun a ha => by have := hfr a ha; omega
  clear S0 S3 S4 hcall hb3 hNd hfr hne hlt0
  go_wp2_with fail
  exact bodyPost_ret (v := .tuple #[.agg #[.int .i64 rr, .slice B nn.length k], .bool ok]) (by simp [results, Try.results10, go_sem, j0, j1]) rfl ⟨B, k, rfl, hNd2.out, hfr2.out, hB⟩

set_option maxRecDepth 100000 in
set_option maxHeartbeats 4000000 in
theorem notD_any (vars r : Int) (A : Option Addr) (c : Nat) (ns : List Nd) (w : World) (hx : NdAt w A ns) (hl : ns.length ≤ 1000000) :
    Calls Try.prog 12 #[.int .i64 vars, dgV r (.slice A ns.length c)] w
      (DgTold w (goodD vars r ns && goodD vars r ns) (outR (goodD vars r ns && goodD vars r ns) vars (fun b => !(valD r ns b))) (outN (goodD vars r ns && goodD vars r ns) vars (fun b => !(valD r ns b)))) := by
  have S0 := ((Sp.start w).alloc_box #[.int .i64 r, .slice A ns.length c] 26).alloc_box #[.int .i64 0, .slice none 0 0] 26
  simp only [World.size_alloc] at S0
  have hcall := Lib.hid (pairDiagram_any pairNot_ok vars r r A A c c ns ns _ (hx.grow S0.below) (hx.grow S0.below) hl hl)
  replace S0 := Lib.hid S0
  generalize hok : (goodD vars r ns && goodD vars r ns) = ok at *
  generalize outR ok vars (fun b => !(valD r ns b)) = rr at *
  generalize outN ok vars (fun b => !(valD r ns b)) = nn at *
  have hlt0 := (S0.out.box (i := 0) rfl).2.1
  go_enter Try.func12, Try.ntmps12
  go_wp2_with fail
  refine hcall.out.mono ?_
  rintro e w3 ⟨B, k, rfl, hNd, hfr, hb3⟩
  have S3 := S0.out.grow hb3
  have r0 := S3.cell (i := 0) rfl (o := 0) rfl
  have r1 := S3.cell (i := 0) rfl (o := 1) rfl
  have f0 := S3.frozen (i := 0) rfl 0
  have f1 := S3.frozen (i := 0) rfl 1
  have S4 := (S3.store (i := 0) rfl 0 (.int .i64 rr)).store (i := 0) rfl 1 (.slice B nn.length k)
  have j0 := S4.cell (i := 0) rfl (o := 0) rfl
  have j1 := S4.cell (i := 0) rfl (o := 1) rfl
  have hB := S4.below
  have hne : ∀ a, B = some a → a.block ≠ w.heap.size + 1 := fun a ha => by have := hfr a ha; omega
  have hNd2 := Lib.hid ((hNd.set hne 0 (.int .i64 rr)).set hne 1 (.slice B nn.length k))
  have hfr2 : Hid (∀ a, B = some a → w.heap.size ≤ a.block) := fun a ha => by have := hfr a ha; omega
  clear S0 S3 S4 hcall hb3 hNd hfr hne hlt0
  go_wp2_with fail
  exact bodyPost_ret (v := .tuple #[.agg #[.int .i64 rr, .slice B nn.length k], .bool ok]) (by simp [results, Try.results12, go_sem, j0, j1]) rfl ⟨B, k, rfl, hNd2.out, hfr2.out, hB⟩

/-- How often a value is true below a bound. -/
def cntK (k : Nat) (f : Nat → Bool) : Nat := (List.range k).countP f
theorem cntK_succ (k : Nat) (f : Nat → Bool) : cntK (k + 1) f = cntK k f + (if f k then 1 else 0) := by
  simp [cntK, List.range_succ, List.countP_append, List.countP_singleton]
theorem cntK_le (k : Nat) (f : Nat → Bool) : cntK k f ≤ k := by
  have := List.countP_le_length (p := f) (l := List.range k)
  rw [List.length_range] at this
  exact this
def outC (ok : Bool) (vars : Int) (f : Nat → Bool) : Int := if ok then (cntB vars.toNat f : Nat) else 0

set_option maxRecDepth 100000 in
set_option maxHeartbeats 4000000 in
theorem count_any (vars r : Int) (A : Option Addr) (c : Nat) (ns : List Nd) (w : World) (hx : NdAt w A ns) (hl : ns.length ≤ 1000000) :
    Calls Try.prog 13 #[.int .i64 vars, dgV r (.slice A ns.length c)] w fun e w' =>
      e = .returned (.tuple #[.int .i64 (outC (goodD vars r ns) vars (valD r ns)), .bool (goodD vars r ns)]) ∧ Below w.heap.size w w' := by
  have S0 := (Sp.start w).alloc_box #[.int .i64 r, .slice A ns.length c] 26
  have hcall := Lib.hid (isDiagram_any vars r A c ns _ (hx.grow S0.below) hl)
  have hN := Lib.hid hx
  clear hx
  replace S0 := Lib.hid S0
  cases h1 : goodD vars r ns
  · rw [h1] at hcall
    go_enter Try.func13, Try.ntmps13
    go_wp2_with fail
    refine hcall.out.mono ?_
    rintro e w1 ⟨rfl, hb1⟩
    have hB := (S0.out.grow hb1).below
    clear S0 hcall hb1
    go_wp2_with fail
    go_ret2
    exact ⟨rfl, hB⟩
  have g1 := good_parts h1
  rw [h1] at hcall
  obtain ⟨n, rfl⟩ := Int.eq_ofNat_of_zero_le g1.1.1
  have hn : n ≤ 6 := by omega
  obtain ⟨hsh, hp⟩ := pow_small hn
  have hR : Hid (outC true (n : Int) (valD r ns) = (cntK (2 ^ n) (valD r ns) : Nat)) := rfl
  generalize 2 ^ n = N at *
  have hw := Lib.hid g1.2.2.2
  have h0 := g1.2.2.1.1
  have h2 := g1.2.2.1.2
  clear g1
  go_enter Try.func13, Try.ntmps13
  go_wp2_with fail
  refine hcall.out.mono ?_
  rintro e w1 ⟨rfl, hb1⟩
  have S1 := Lib.hid (S0.out.grow hb1)
  clear S0 hcall hb1
  go_wp2_with fail
  rw [hsh]
  go_loopw [6, 7, 14] (fun m _ i wr => ∃ k : Nat, k ≤ N ∧ i = .int .i64 k ∧ m = .int .i64 (cntK k (valD r ns) : Nat) ∧ Hid (Sp w wr [Box w.heap.size 26 #[.int .i64 r, .slice A ns.length c]])) (fun _ _ i _ => N - (intOf i).toNat)
  case atStart => exact ⟨0, Nat.zero_le _, rfl, rfl, S1⟩
  case round =>
    obtain ⟨k, hk, rfl, rfl, HS⟩ := hrel
    clear S1
    by_cases hlt : k < N
    · have c0 := HS.out.cell (i := 0) rfl (o := 0) rfl
      have c1 := HS.out.cell (i := 0) rfl (o := 1) rfl
      have hcall := Lib.hid (valueAt_any r k A c ns wr (hN.out.grow HS.out.below) hl hw.out h0 h2 (Nat.lt_of_lt_of_le hlt (Nat.le_trans hp (by decide))))
      have hcs := Lib.hid (cntK_succ k (valD r ns))
      have hcl := cntK_le k (valD r ns)
      generalize cntK k (valD r ns) = m at *
      go_wp2_with fail
      refine hcall.out.mono ?_
      rintro e w2 ⟨rfl, hb2⟩
      have HS2 := Lib.hid (HS.out.grow hb2)
      cases hq : valD r ns k
      · have hm : cntK (k + 1) (valD r ns) = m := by rw [hcs.out, hq]; rfl
        clear HS hcall hb2 hcs c0 c1
        go_wp2_with fail
        go_roundw
        case rel => exact ⟨k + 1, by omega, by go_num, by rw [hm], HS2⟩
        case measure => simp [intOf]; omega
      · have hm : cntK (k + 1) (valD r ns) = m + 1 := by rw [hcs.out, hq]; rfl
        clear HS hcall hb2 hcs c0 c1
        go_wp2_with fail
        go_roundw
        case rel => exact ⟨k + 1, by omega, by go_num, by rw [hm]; go_num, HS2⟩
        case measure => simp [intOf]; omega
    · obtain rfl : k = N := by omega
      have hB := HS.out.below
      go_wp2_with fail
      go_ret2
      refine ⟨?_, hB⟩
      rw [hR.out]
      rfl
end Go.Proofs.Ytgcdifabbaoomaa
