/- Contracts: the and, or and not of diagrams, in the program. -/
import Derived.Test.YtgcdifabbaoomaaDgG
import Derived.Shelf.Abstract
namespace Go.Proofs.Ytgcdifabbaoomaa
open Go.RowKit

/-- A function of two truth values, as the closure of a pair calls it. -/
def PairOk (h : FuncId) (q : Bool → Bool → Bool) : Prop := ∀ (r r' : Int) (A A' : Option Addr) (c c' : Nat) (ns ns' : List Nd) (bits b7 b5 b6 : Nat) (w : World), NdAt w A ns → NdAt w A' ns' → ns.length ≤ 1000000 → ns'.length ≤ 1000000 → WkN ns → WkN ns' →
    0 ≤ r → r ≤ ns.length + 1 → 0 ≤ r' → r' ≤ ns'.length + 1 → bits < 2 ^ 62 →
    w.cell? ⟨b7, 0, none⟩ = some (.func (.func h) #[] #[]) → w.cell? ⟨b5, 0, none⟩ = some (.int .i64 r) → w.cell? ⟨b5, 1, none⟩ = some (.slice A ns.length c) →
    w.cell? ⟨b6, 0, none⟩ = some (.int .i64 r') → w.cell? ⟨b6, 1, none⟩ = some (.slice A' ns'.length c') →
    Calls Try.prog 76 #[.int .i64 bits, .pointer (some ⟨b7, 0, none⟩), .pointer (some ⟨b5, 0, none⟩), .pointer (some ⟨b6, 0, none⟩)] w fun e w' => e = .returned (.bool (q (valD r ns bits) (valD r' ns' bits))) ∧ Below w.heap.size w w'

set_option maxRecDepth 100000 in
set_option maxHeartbeats 4000000 in
theorem pairDiagram_any {h : FuncId} {q : Bool → Bool → Bool} (hp : PairOk h q) (vars r r' : Int) (A A' : Option Addr) (c c' : Nat) (ns ns' : List Nd) (w : World) (hx : NdAt w A ns) (hy : NdAt w A' ns') (hl : ns.length ≤ 1000000) (hl' : ns'.length ≤ 1000000) :
    Calls Try.prog 35 #[.int .i64 vars, dgV r (.slice A ns.length c), dgV r' (.slice A' ns'.length c'), .func (.func h) #[] #[]] w
      (DgTold w (goodD vars r ns && goodD vars r' ns') (outR (goodD vars r ns && goodD vars r' ns') vars fun b => q (valD r ns b) (valD r' ns' b)) (outN (goodD vars r ns && goodD vars r' ns') vars fun b => q (valD r ns b) (valD r' ns' b))) := by
  have S0 := ((((Sp.start w).alloc_box #[.int .i64 r, .slice A ns.length c] 26).alloc_box #[.int .i64 r', .slice A' ns'.length c'] 26).alloc_box #[.func (.func h) #[] #[]] 64).alloc_box #[.int .i64 0, .slice none 0 0] 26
  simp only [World.size_alloc] at S0
  have hcall := Lib.hid (isDiagram_any vars r A c ns _ (hx.grow S0.below) hl)
  have hcall2 := Lib.hid (fun W hb => isDiagram_any vars r' A' c' ns' W (hy.grow hb) hl')
  have c60 := S0.cell (i := 2) rfl (o := 0) rfl
  have c61 := S0.cell (i := 2) rfl (o := 1) rfl
  replace hx := Lib.hid hx
  replace hy := Lib.hid hy
  replace hp := Lib.hid hp
  replace S0 := Lib.hid S0
  cases h1 : goodD vars r ns
  · rw [h1] at hcall
    go_enter Try.func35, Try.ntmps35
    go_wp2_with fail
    refine hcall.out.mono ?_
    rintro e w1 ⟨rfl, hb1⟩
    have S1 := S0.out.grow hb1
    have r0 := S1.cell (i := 0) rfl (o := 0) rfl
    have r1 := S1.cell (i := 0) rfl (o := 1) rfl
    have f0 := S1.frozen (i := 0) rfl 0
    have f1 := S1.frozen (i := 0) rfl 1
    have S2 := (S1.store (i := 0) rfl 0 (.int .i64 0)).store (i := 0) rfl 1 (.slice none 0 0)
    have j0 := S2.cell (i := 0) rfl (o := 0) rfl
    have j1 := S2.cell (i := 0) rfl (o := 1) rfl
    have hB := S2.below
    clear S0 S1 S2 hcall hcall2 c60 c61 hb1
    go_wp2_with fail
    exact bodyPost_ret (v := .tuple #[.agg #[.int .i64 0, .slice none 0 0], .bool false]) (by simp [results, Try.results35, go_sem, j0, j1]) rfl ⟨none, 0, rfl, .nil _, (fun a e => by cases e), hB⟩
  cases h2 : goodD vars r' ns'
  · rw [h1] at hcall
    rw [h2] at hcall2
    go_enter Try.func35, Try.ntmps35
    go_wp2_with fail
    refine hcall.out.mono ?_
    rintro e w1 ⟨rfl, hb1⟩
    have S1 := S0.out.grow hb1
    have d60 := S1.cell (i := 2) rfl (o := 0) rfl
    have d61 := S1.cell (i := 2) rfl (o := 1) rfl
    have hcall3 := Lib.hid (hcall2.out _ S1.below)
    replace S1 := Lib.hid S1
    clear S0 hcall hcall2 c60 c61 hb1
    go_wp2_with fail
    refine hcall3.out.mono ?_
    rintro e w2 ⟨rfl, hb2⟩
    have S2 := S1.out.grow hb2
    have r0 := S2.cell (i := 0) rfl (o := 0) rfl
    have r1 := S2.cell (i := 0) rfl (o := 1) rfl
    have f0 := S2.frozen (i := 0) rfl 0
    have f1 := S2.frozen (i := 0) rfl 1
    have S3 := (S2.store (i := 0) rfl 0 (.int .i64 0)).store (i := 0) rfl 1 (.slice none 0 0)
    have j0 := S3.cell (i := 0) rfl (o := 0) rfl
    have j1 := S3.cell (i := 0) rfl (o := 1) rfl
    have hB := S3.below
    clear S1 S2 S3 hcall3 d60 d61 hb2
    go_wp2_with fail
    exact bodyPost_ret (v := .tuple #[.agg #[.int .i64 0, .slice none 0 0], .bool false]) (by simp [results, Try.results35, go_sem, j0, j1]) rfl ⟨none, 0, rfl, .nil _, (fun a e => by cases e), hB⟩
  have g1 := good_parts h1
  have g2 := good_parts h2
  rw [h1] at hcall
  rw [h2] at hcall2
  obtain ⟨n, rfl⟩ := Int.eq_ofNat_of_zero_le g1.1.1
  have hn : n ≤ 6 := by omega
  have hR : Hid (outR (true && true) (n : Int) (fun b => q (valD r ns b) (valD r' ns' b)) = dgR n (fun b => q (valD r ns b) (valD r' ns' b))) := rfl
  have hN : Hid (outN (true && true) (n : Int) (fun b => q (valD r ns b) (valD r' ns' b)) = dgN n (fun b => q (valD r ns b) (valD r' ns' b))) := rfl
  have eg : ∀ args w, (callFunc 76 args).run Try.prog w = .ok (.enter 76 args) w := enters_of Try.func76 (by kernel_rfl) rfl
  have hpl := Lib.hid (fun W => planned_any n 76 #[.pointer (some ⟨w.heap.size + 1 + 1, 0, none⟩), .pointer (some ⟨w.heap.size, 0, none⟩), .pointer (some ⟨w.heap.size + 1, 0, none⟩)] (fun b => q (valD r ns b) (valD r' ns' b)) W hn eg)
  have hfn : Hid (∀ W, Sp w W [Box (w.heap.size + 1 + 1 + 1) 26 #[.int .i64 0, .slice none 0 0], Box (w.heap.size + 1 + 1) 64 #[.func (.func h) #[] #[]], Box (w.heap.size + 1) 26 #[.int .i64 r', .slice A' ns'.length c'], Box w.heap.size 26 #[.int .i64 r, .slice A ns.length c]] →
      FnOk W n 76 #[.pointer (some ⟨w.heap.size + 1 + 1, 0, none⟩), .pointer (some ⟨w.heap.size, 0, none⟩), .pointer (some ⟨w.heap.size + 1, 0, none⟩)] (fun b => q (valD r ns b) (valD r' ns' b))) := by
    intro W S b w' hb hbl
    have S' := S.grow hbl
    have hb2 : b < 2 ^ 62 := Nat.lt_of_lt_of_le hb (Nat.pow_le_pow_right (by decide) (by omega))
    exact hp.out r r' A A' c c' ns ns' b _ _ _ w' (hx.out.grow S'.below) (hy.out.grow S'.below) hl hl' g1.2.2.2 g2.2.2.2 g1.2.2.1.1 g1.2.2.1.2 g2.2.2.1.1 g2.2.2.1.2 hb2 (S'.cell (i := 1) rfl (o := 0) rfl) (S'.cell (i := 3) rfl (o := 0) rfl) (S'.cell (i := 3) rfl (o := 1) rfl) (S'.cell (i := 2) rfl (o := 0) rfl) (S'.cell (i := 2) rfl (o := 1) rfl)
  clear g1 g2 hx hy hp eg
  go_enter Try.func35, Try.ntmps35
  go_wp2_with fail
  refine hcall.out.mono ?_
  rintro e w1 ⟨rfl, hb1⟩
  have S1 := S0.out.grow hb1
  have d60 := S1.cell (i := 2) rfl (o := 0) rfl
  have d61 := S1.cell (i := 2) rfl (o := 1) rfl
  have hcall3 := Lib.hid (hcall2.out _ S1.below)
  replace S1 := Lib.hid S1
  clear S0 hcall hcall2 c60 c61 hb1
  go_wp2_with fail
  refine hcall3.out.mono ?_
  rintro e w2 ⟨rfl, hb2⟩
  have S2 := S1.out.grow hb2
  have hpl2 := Lib.hid (hpl.out w2 (hfn.out w2 S2))
  replace S2 := Lib.hid S2
  clear S1 hcall3 d60 d61 hb2 hpl hfn
  go_wp2_with fail
  refine hpl2.out.mono ?_
  rintro e w3 ⟨v, rfl, B, k, rfl, hNd, hfr, hb3⟩
  have S3 := S2.out.grow hb3
  generalize hRn : dgR n (fun b => q (valD r ns b) (valD r' ns' b)) = rr at *
  generalize hNn : dgN n (fun b => q (valD r ns b) (valD r' ns' b)) = nn at *
  have r0 := S3.cell (i := 0) rfl (o := 0) rfl
  have r1 := S3.cell (i := 0) rfl (o := 1) rfl
  have f0 := S3.frozen (i := 0) rfl 0
  have f1 := S3.frozen (i := 0) rfl 1
  have S4 := (S3.store (i := 0) rfl 0 (.int .i64 rr)).store (i := 0) rfl 1 (.slice B nn.length k)
  have j0 := S4.cell (i := 0) rfl (o := 0) rfl
  have j1 := S4.cell (i := 0) rfl (o := 1) rfl
  have hB := S4.below
  have hlt := (S2.out.box (i := 0) rfl).2.1
  have hne : ∀ a, B = some a → a.block ≠ w.heap.size + 1 + 1 + 1 := fun a ha => by have := hfr a ha; omega
  have hNd2 := Lib.hid ((hNd.set hne 0 (.int .i64 rr)).set hne 1 (.slice B nn.length k))
  have hfr2 : Hid (∀ a, B = some a → w.heap.size ≤ a.block) := fun a ha => by have := hfr a ha; omega
  clear S2 S3 S4 hpl2 hb3 hNd hfr hne hlt
  go_wp2_with fail
  exact bodyPost_ret (v := .tuple #[.agg #[.int .i64 rr, .slice B nn.length k], .bool true]) (by simp [results, Try.results35, go_sem, j0, j1]) rfl ⟨B, k, by rw [hR.out, hN.out]; rfl, by rw [hN.out]; exact hNd2.out, hfr2.out, hB⟩
end Go.Proofs.Ytgcdifabbaoomaa
