/- Contracts: a diagram with a literal set, a diagram that forgets a variable, the count, in the program. -/
import Derived.Test.YtgcdifabbaoomaaDgJ
namespace Go.Proofs.Ytgcdifabbaoomaa
open Go.RowKit

theorem isVar_b (vars l : Int) (w : World) : Calls Try.prog 43 #[.int .i64 vars, .int .i64 l] w fun e w' => e = .returned (.bool (inB l 1 vars)) ∧ Below w.heap.size w w' :=
  (isVar_any vars l w).mono fun e w' ⟨h1, h2⟩ => ⟨h1, h2 ▸ bb _⟩

set_option maxRecDepth 100000 in
set_option maxHeartbeats 4000000 in
theorem setIn_any (vars r l : Int) (A : Option Addr) (c : Nat) (ns : List Nd) (w : World) (hx : NdAt w A ns) (hl : ns.length ≤ 1000000) :
    Calls Try.prog 17 #[.int .i64 vars, dgV r (.slice A ns.length c), .int .i64 l] w
      (DgTold w (goodD vars r ns && litB vars l) (outR (goodD vars r ns && litB vars l) vars (fun b => valD r ns (setL b l))) (outN (goodD vars r ns && litB vars l) vars (fun b => valD r ns (setL b l)))) := by
  have S0 := (((Sp.start w).alloc_box #[.int .i64 r, .slice A ns.length c] 26).alloc_box #[.int .i64 l] 3).alloc_box #[.int .i64 0, .slice none 0 0] 26
  simp only [World.size_alloc] at S0
  have hcall := Lib.hid (isDiagram_any vars r A c ns _ (hx.grow S0.below) hl)
  replace hx := Lib.hid hx
  replace S0 := Lib.hid S0
  cases h1 : goodD vars r ns
  · rw [h1] at hcall
    go_enter Try.func17, Try.ntmps17
    go_wp2_with fail
    refine hcall.out.mono ?_
    rintro e w1 ⟨rfl, hb1⟩
    have S1 := S0.out.grow hb1
    have r0 := S1.cell (i := 0) rfl (o := 0) rfl
    have r1 := S1.cell (i := 0) rfl (o := 1) rfl
    have f0 := S1.frozen (i := 0) rfl 0
    have f1 := S1.frozen (i := 0) rfl 1
    have S2 := (S1.store (i := 0) rfl 0 (.int .i64 0)).store (i := 0) rfl 1 (.slice none 0 0)
    have j0 := S2.cell (i := 0) rfl (o := 0) rfl
    have j1 := S2.cell (i := 0) rfl (o := 1) rfl
    have hB := S2.below
    clear S0 S1 S2 hcall hb1
    go_wp2_with fail
    exact bodyPost_ret (v := .tuple #[.agg #[.int .i64 0, .slice none 0 0], .bool false]) (by simp [results, Try.results17, go_sem, j0, j1]) rfl ⟨none, 0, rfl, .nil _, (fun a e => by cases e), hB⟩
  have hcall2 := Lib.hid (fun W => (isLiteral_any vars l (good_parts h1).1.1 (by have := (good_parts h1).1.2; omega) W))
  rw [h1] at hcall
  cases h2 : litB vars l
  · rw [h2] at hcall2
    go_enter Try.func17, Try.ntmps17
    go_wp2_with fail
    refine hcall.out.mono ?_
    rintro e w1 ⟨rfl, hb1⟩
    have S1 := S0.out.grow hb1
    have d5 := S1.cell (i := 1) rfl (o := 0) rfl
    replace S1 := Lib.hid S1
    clear S0 hcall hb1
    go_wp2_with fail
    refine (hcall2.out _).mono ?_
    rintro e w2 ⟨rfl, hb2⟩
    have S2 := S1.out.grow hb2
    have r0 := S2.cell (i := 0) rfl (o := 0) rfl
    have r1 := S2.cell (i := 0) rfl (o := 1) rfl
    have f0 := S2.frozen (i := 0) rfl 0
    have f1 := S2.frozen (i := 0) rfl 1
    have S3 := (S2.store (i := 0) rfl 0 (.int .i64 0)).store (i := 0) rfl 1 (.slice none 0 0)
    have j0 := S3.cell (i := 0) rfl (o := 0) rfl
    have j1 := S3.cell (i := 0) rfl (o := 1) rfl
    have hB := S3.below
    clear S1 S2 S3 hcall2 d5 hb2
    go_wp2_with fail
    exact bodyPost_ret (v := .tuple #[.agg #[.int .i64 0, .slice none 0 0], .bool false]) (by simp [results, Try.results17, go_sem, j0, j1]) rfl ⟨none, 0, rfl, .nil _, (fun a e => by cases e), hB⟩
  have g1 := good_parts h1
  rw [h2] at hcall2
  obtain ⟨n, rfl⟩ := Int.eq_ofNat_of_zero_le g1.1.1
  have hn : n ≤ 6 := by omega
  have hlit : l ≠ 0 ∧ -(n : Int) ≤ l ∧ l ≤ n := by
    unfold litB at h2
    rw [Bool.and_eq_true, decide_eq_true_eq, inB_def] at h2
    exact h2
  have hR : Hid (outR (true && true) (n : Int) (fun b => valD r ns (setL b l)) = dgR n (fun b => valD r ns (setL b l))) := rfl
  have hN : Hid (outN (true && true) (n : Int) (fun b => valD r ns (setL b l)) = dgN n (fun b => valD r ns (setL b l))) := rfl
  have eg : ∀ args w, (callFunc 53 args).run Try.prog w = .ok (.enter 53 args) w := enters_of Try.func53 (by kernel_rfl) rfl
  have hpl := Lib.hid (fun W => planned_any n 53 #[.pointer (some ⟨w.heap.size, 0, none⟩), .pointer (some ⟨w.heap.size + 1, 0, none⟩)] (fun b => valD r ns (setL b l)) W hn eg)
  have hfn : Hid (∀ W, Sp w W [Box (w.heap.size + 1 + 1) 26 #[.int .i64 0, .slice none 0 0], Box (w.heap.size + 1) 3 #[.int .i64 l], Box w.heap.size 26 #[.int .i64 r, .slice A ns.length c]] →
      FnOk W n 53 #[.pointer (some ⟨w.heap.size, 0, none⟩), .pointer (some ⟨w.heap.size + 1, 0, none⟩)] (fun b => valD r ns (setL b l))) := by
    intro W S b w' hb hbl
    have S' := S.grow hbl
    have hb2 : b < 64 := Nat.lt_of_lt_of_le hb (Nat.pow_le_pow_right (by decide) hn)
    exact setIn1_any r l A c ns b _ _ w' (hx.out.grow S'.below) hl g1.2.2.2 g1.2.2.1.1 g1.2.2.1.2 hb2 hlit.1 (by omega) (by omega) (S'.cell (i := 2) rfl (o := 0) rfl) (S'.cell (i := 2) rfl (o := 1) rfl) (S'.cell (i := 1) rfl (o := 0) rfl)
  clear g1 hx eg hlit
  go_enter Try.func17, Try.ntmps17
  go_wp2_with fail
  refine hcall.out.mono ?_
  rintro e w1 ⟨rfl, hb1⟩
  have S1 := S0.out.grow hb1
  have d5 := S1.cell (i := 1) rfl (o := 0) rfl
  replace S1 := Lib.hid S1
  clear S0 hcall hb1
  go_wp2_with fail
  refine (hcall2.out _).mono ?_
  rintro e w2 ⟨rfl, hb2⟩
  have S2 := S1.out.grow hb2
  have hpl2 := Lib.hid (hpl.out w2 (hfn.out w2 S2))
  replace S2 := Lib.hid S2
  clear S1 hcall2 d5 hb2 hpl hfn
  go_wp2_with fail
  refine hpl2.out.mono ?_
  rintro e w3 ⟨v, rfl, B, k, rfl, hNd, hfr, hb3⟩
  have S3 := S2.out.grow hb3
  generalize hRn : dgR n (fun b => valD r ns (setL b l)) = rr at *
  generalize hNn : dgN n (fun b => valD r ns (setL b l)) = nn at *
  have r0 := S3.cell (i := 0) rfl (o := 0) rfl
  have r1 := S3.cell (i := 0) rfl (o := 1) rfl
  have f0 := S3.frozen (i := 0) rfl 0
  have f1 := S3.frozen (i := 0) rfl 1
  have S4 := (S3.store (i := 0) rfl 0 (.int .i64 rr)).store (i := 0) rfl 1 (.slice B nn.length k)
  have j0 := S4.cell (i := 0) rfl (o := 0) rfl
  have j1 := S4.cell (i := 0) rfl (o := 1) rfl
  have hB := S4.below
  have hlt := (S2.out.box (i := 0) rfl).2.1
  have hne : ∀ a, B = some a → a.block ≠ w.heap.size + 1 + 1 := fun a ha => by have := hfr a ha; omega
  have hNd2 := Lib.hid ((hNd.set hne 0 (.int .i64 rr)).set hne 1 (.slice B nn.length k))
  have hfr2 : Hid (∀ a, B = some a → w.heap.size ≤ a.block) := fun a ha => by have := hfr a ha; omega
  clear S2 S3 S4 hpl2 hb3 hNd hfr hne hlt
  go_wp2_with fail
  exact bodyPost_ret (v := .tuple #[.agg #[.int .i64 rr, .slice B nn.length k], .bool true]) (by simp [results, Try.results17, go_sem, j0, j1]) rfl ⟨B, k, by rw [hR.out, hN.out]; rfl, by rw [hN.out]; exact hNd2.out, hfr2.out, hB⟩

set_option maxRecDepth 100000 in
set_option maxHeartbeats 4000000 in
theorem forget_any (vars r l : Int) (A : Option Addr) (c : Nat) (ns : List Nd) (w : World) (hx : NdAt w A ns) (hl : ns.length ≤ 1000000) :
    Calls Try.prog 15 #[.int .i64 vars, dgV r (.slice A ns.length c), .int .i64 l] w
      (DgTold w (goodD vars r ns && inB l 1 vars) (outR (goodD vars r ns && inB l 1 vars) vars (fun b => valD r ns (setL b l) || valD r ns (setL b (-l)))) (outN (goodD vars r ns && inB l 1 vars) vars (fun b => valD r ns (setL b l) || valD r ns (setL b (-l))))) := by
  have S0 := (((Sp.start w).alloc_box #[.int .i64 r, .slice A ns.length c] 26).alloc_box #[.int .i64 l] 3).alloc_box #[.int .i64 0, .slice none 0 0] 26
  simp only [World.size_alloc] at S0
  have hcall := Lib.hid (isDiagram_any vars r A c ns _ (hx.grow S0.below) hl)
  replace hx := Lib.hid hx
  replace S0 := Lib.hid S0
  cases h1 : goodD vars r ns
  · rw [h1] at hcall
    go_enter Try.func15, Try.ntmps15
    go_wp2_with fail
    refine hcall.out.mono ?_
    rintro e w1 ⟨rfl, hb1⟩
    have S1 := S0.out.grow hb1
    have r0 := S1.cell (i := 0) rfl (o := 0) rfl
    have r1 := S1.cell (i := 0) rfl (o := 1) rfl
    have f0 := S1.frozen (i := 0) rfl 0
    have f1 := S1.frozen (i := 0) rfl 1
    have S2 := (S1.store (i := 0) rfl 0 (.int .i64 0)).store (i := 0) rfl 1 (.slice none 0 0)
    have j0 := S2.cell (i := 0) rfl (o := 0) rfl
    have j1 := S2.cell (i := 0) rfl (o := 1) rfl
    have hB := S2.below
    clear S0 S1 S2 hcall hb1
    go_wp2_with fail
    exact bodyPost_ret (v := .tuple #[.agg #[.int .i64 0, .slice none 0 0], .bool false]) (by simp [results, Try.results15, go_sem, j0, j1]) rfl ⟨none, 0, rfl, .nil _, (fun a e => by cases e), hB⟩
  have hcall2 := Lib.hid (fun W => (isVar_b vars l W))
  rw [h1] at hcall
  cases h2 : inB l 1 vars
  · rw [h2] at hcall2
    go_enter Try.func15, Try.ntmps15
    go_wp2_with fail
    refine hcall.out.mono ?_
    rintro e w1 ⟨rfl, hb1⟩
    have S1 := S0.out.grow hb1
    have d5 := S1.cell (i := 1) rfl (o := 0) rfl
    replace S1 := Lib.hid S1
    clear S0 hcall hb1
    go_wp2_with fail
    refine (hcall2.out _).mono ?_
    rintro e w2 ⟨rfl, hb2⟩
    have S2 := S1.out.grow hb2
    have r0 := S2.cell (i := 0) rfl (o := 0) rfl
    have r1 := S2.cell (i := 0) rfl (o := 1) rfl
    have f0 := S2.frozen (i := 0) rfl 0
    have f1 := S2.frozen (i := 0) rfl 1
    have S3 := (S2.store (i := 0) rfl 0 (.int .i64 0)).store (i := 0) rfl 1 (.slice none 0 0)
    have j0 := S3.cell (i := 0) rfl (o := 0) rfl
    have j1 := S3.cell (i := 0) rfl (o := 1) rfl
    have hB := S3.below
    clear S1 S2 S3 hcall2 d5 hb2
    go_wp2_with fail
    exact bodyPost_ret (v := .tuple #[.agg #[.int .i64 0, .slice none 0 0], .bool false]) (by simp [results, Try.results15, go_sem, j0, j1]) rfl ⟨none, 0, rfl, .nil _, (fun a e => by cases e), hB⟩
  have g1 := good_parts h1
  rw [h2] at hcall2
  obtain ⟨n, rfl⟩ := Int.eq_ofNat_of_zero_le g1.1.1
  have hn : n ≤ 6 := by omega
  have hlit : 0 < l ∧ -(n : Int) ≤ l ∧ l ≤ n := by
    rw [inB_def] at h2
    exact ⟨by omega, by omega, h2.2⟩
  have hR : Hid (outR (true && true) (n : Int) (fun b => valD r ns (setL b l) || valD r ns (setL b (-l))) = dgR n (fun b => valD r ns (setL b l) || valD r ns (setL b (-l)))) := rfl
  have hN : Hid (outN (true && true) (n : Int) (fun b => valD r ns (setL b l) || valD r ns (setL b (-l))) = dgN n (fun b => valD r ns (setL b l) || valD r ns (setL b (-l)))) := rfl
  have eg : ∀ args w, (callFunc 45 args).run Try.prog w = .ok (.enter 45 args) w := enters_of Try.func45 (by kernel_rfl) rfl
  have hpl := Lib.hid (fun W => planned_any n 45 #[.pointer (some ⟨w.heap.size, 0, none⟩), .pointer (some ⟨w.heap.size + 1, 0, none⟩)] (fun b => valD r ns (setL b l) || valD r ns (setL b (-l))) W hn eg)
  have hfn : Hid (∀ W, Sp w W [Box (w.heap.size + 1 + 1) 26 #[.int .i64 0, .slice none 0 0], Box (w.heap.size + 1) 3 #[.int .i64 l], Box w.heap.size 26 #[.int .i64 r, .slice A ns.length c]] →
      FnOk W n 45 #[.pointer (some ⟨w.heap.size, 0, none⟩), .pointer (some ⟨w.heap.size + 1, 0, none⟩)] (fun b => valD r ns (setL b l) || valD r ns (setL b (-l)))) := by
    intro W S b w' hb hbl
    have S' := S.grow hbl
    have hb2 : b < 64 := Nat.lt_of_lt_of_le hb (Nat.pow_le_pow_right (by decide) hn)
    exact forget1_any r l A c ns b _ _ w' (hx.out.grow S'.below) hl g1.2.2.2 g1.2.2.1.1 g1.2.2.1.2 hb2 hlit.1 (by omega) (by omega) (S'.cell (i := 2) rfl (o := 0) rfl) (S'.cell (i := 2) rfl (o := 1) rfl) (S'.cell (i := 1) rfl (o := 0) rfl)
  clear g1 hx eg hlit
  go_enter Try.func15, Try.ntmps15
  go_wp2_with fail
  refine hcall.out.mono ?_
  rintro e w1 ⟨rfl, hb1⟩
  have S1 := S0.out.grow hb1
  have d5 := S1.cell (i := 1) rfl (o := 0) rfl
  replace S1 := Lib.hid S1
  clear S0 hcall hb1
  go_wp2_with fail
  refine (hcall2.out _).mono ?_
  rintro e w2 ⟨rfl, hb2⟩
  have S2 := S1.out.grow hb2
  have hpl2 := Lib.hid (hpl.out w2 (hfn.out w2 S2))
  replace S2 := Lib.hid S2
  clear S1 hcall2 d5 hb2 hpl hfn
  go_wp2_with fail
  refine hpl2.out.mono ?_
  rintro e w3 ⟨v, rfl, B, k, rfl, hNd, hfr, hb3⟩
  have S3 := S2.out.grow hb3
  generalize hRn : dgR n (fun b => valD r ns (setL b l) || valD r ns (setL b (-l))) = rr at *
  generalize hNn : dgN n (fun b => valD r ns (setL b l) || valD r ns (setL b (-l))) = nn at *
  have r0 := S3.cell (i := 0) rfl (o := 0) rfl
  have r1 := S3.cell (i := 0) rfl (o := 1) rfl
  have f0 := S3.frozen (i := 0) rfl 0
  have f1 := S3.frozen (i := 0) rfl 1
  have S4 := (S3.store (i := 0) rfl 0 (.int .i64 rr)).store (i := 0) rfl 1 (.slice B nn.length k)
  have j0 := S4.cell (i := 0) rfl (o := 0) rfl
  have j1 := S4.cell (i := 0) rfl (o := 1) rfl
  have hB := S4.below
  have hlt := (S2.out.box (i := 0) rfl).2.1
  have hne : ∀ a, B = some a → a.block ≠ w.heap.size + 1 + 1 := fun a ha => by have := hfr a ha; omega
  have hNd2 := Lib.hid ((hNd.set hne 0 (.int .i64 rr)).set hne 1 (.slice B nn.length k))
  have hfr2 : Hid (∀ a, B = some a → w.heap.size ≤ a.block) := fun a ha => by have := hfr a ha; omega
  clear S2 S3 S4 hpl2 hb3 hNd hfr hne hlt
  go_wp2_with fail
  exact bodyPost_ret (v := .tuple #[.agg #[.int .i64 rr, .slice B nn.length k], .bool true]) (by simp [results, Try.results15, go_sem, j0, j1]) rfl ⟨B, k, by rw [hR.out, hN.out]; rfl, by rw [hN.out]; exact hNd2.out, hfr2.out, hB⟩
end Go.Proofs.Ytgcdifabbaoomaa
