/- Lemmas and contracts for a law, put together out of several texts: DtB DgM DgN DgO DgP DgQ DgR DtC TcB BrA DtD. -/
import Derived.Test.YtbemodacpimiiaaGreatMg5
import Derived.Test.YtbemodacpimiiaaGreatMg6
import Derived.Test.YtbemodacpimiiaaGreatMg3
import Derived.Test.YtbemodacpimiiaaGreatMg2
import Derived.Deep.DeepCutAuto
/- Contracts: diagrams of clauses and of a Cnf, in the program. -/
namespace Go.Proofs.YtbemodacpimiiaaGreat
open Go.RowKit

theorem pow62 {n b : Nat} (hn : n ≤ 12) (h : b < 2 ^ n) : b < 2 ^ 62 := Nat.lt_of_lt_of_le h (Nat.pow_le_pow_right (by decide) (by omega))

theorem diagramOf1_any (xss : List (List Int)) (hc : ∀ c ∈ xss, ClS c) (hl : xss.length ≤ 1000000) (A : Option Addr) (cap b g : Nat) (hb : b < 2 ^ 62) (w : World) (hx : ClsAt w A xss) (k0 : w.cell? ⟨g, 0, none⟩ = some (.slice A xss.length cap)) :
    Calls Tryz.prog 109 #[.int .i64 b, .pointer (some ⟨g, 0, none⟩)] w fun e w' => e = .returned (.bool (modT xss b)) ∧ Below w.heap.size w w' := by
  have hcall := Lib.hid (isModel_any xss hc hl A cap b hb w hx)
  generalize modT xss b = q at *
  clear hx hc
  go_enter Tryz.func109, Tryz.ntmps109
  go_wp2_with fail
  refine hcall.out.mono ?_
  rintro e w1 ⟨rfl, hb1⟩
  clear hcall
  go_wp2_with fail
  go_ret
  exact ⟨rfl, hb1⟩

set_option maxRecDepth 100000 in
set_option maxHeartbeats 4000000 in
theorem diagramOf_any (n : Nat) (hn : n ≤ 6) (xss : List (List Int)) (hc : ∀ c ∈ xss, ClS c) (hl : xss.length ≤ 1000000) (A : Option Addr) (cap : Nat) (w : World) (hx : ClsAt w A xss) :
    Calls Tryz.prog 61 #[.int .i64 n, .slice A xss.length cap] w fun e w' => ∃ v, e = .returned (dgV (dgR n (modT xss)) v) ∧ DgPost w (dgN n (modT xss)) v w' := by
  have S0 := ((Sp.start w).alloc_box #[.slice A xss.length cap] 43).alloc_box #[.int .i64 0, .slice none 0 0] 26
  simp only [World.size_alloc] at S0
  have eg : ∀ args w, (callFunc 109 args).run Tryz.prog w = .ok (.enter 109 args) w := enters_of Tryz.func109 (by kernel_rfl) rfl
  have hfn : FnOk ((w.alloc (.cells #[.slice A xss.length cap] 43)).alloc (.cells #[.int .i64 0, .slice none 0 0] 26)) n 109 #[.pointer (some ⟨w.heap.size, 0, none⟩)] (modT xss) := by
    intro b W hb hbl
    have S' := S0.grow hbl
    exact diagramOf1_any xss hc hl A cap b w.heap.size (pow62 (by omega) hb) W (hx.grow S'.below) (S'.cell (i := 1) rfl (o := 0) rfl)
  have hpl := Lib.hid (planned_any n 109 #[.pointer (some ⟨w.heap.size, 0, none⟩)] (modT xss) _ hn eg hfn)
  replace S0 := Lib.hid S0
  clear hfn hx hc eg
  generalize hRn : dgR n (modT xss) = rr at *
  generalize hNn : dgN n (modT xss) = nn at *
  clear hRn hNn
  go_enter Tryz.func61, Tryz.ntmps61
  go_wp2_with fail
  refine hpl.out.mono ?_
  rintro e w3 ⟨v, rfl, B, k, rfl, hNd, hfr, hb3⟩
  have S3 := S0.out.grow hb3
  have r0 := S3.cell (i := 0) rfl (o := 0) rfl
  have r1 := S3.cell (i := 0) rfl (o := 1) rfl
  have f0 := S3.frozen (i := 0) rfl 0
  have f1 := S3.frozen (i := 0) rfl 1
  have S4 := (S3.store (i := 0) rfl 0 (.int .i64 rr)).store (i := 0) rfl 1 (.slice B nn.length k)
  have j0 := S4.cell (i := 0) rfl (o := 0) rfl
  have j1 := S4.cell (i := 0) rfl (o := 1) rfl
  have hB := S4.below
  have hlt := (S0.out.box (i := 0) rfl).2.1
  have hne : ∀ a, B = some a → a.block ≠ w.heap.size + 1 := fun a ha => by have := hfr a ha; omega
  have hNd2 := Lib.hid ((hNd.set hne 0 (.int .i64 rr)).set hne 1 (.slice B nn.length k))
  have hfr2 : Hid (∀ a, B = some a → w.heap.size ≤ a.block) := fun a ha => by have := hfr a ha; omega
  clear S0 S3 S4 hpl hb3 hNd hfr hne hlt
  go_wp2_with fail
  exact bodyPost_ret (v := .agg #[.int .i64 rr, .slice B nn.length k]) (by simp [results, Tryz.results61, go_sem, j0, j1]) rfl ⟨_, rfl, B, k, rfl, hNd2.out, hfr2.out, hB⟩

theorem clauseOf1_any (c : List Int) (hc : ClS c) (A : Option Addr) (cap b g : Nat) (hb : b < 2 ^ 62) (w : World) (hx : IntsAt w A c) (k0 : w.cell? ⟨g, 0, none⟩ = some (.slice A c.length cap)) :
    Calls Tryz.prog 70 #[.int .i64 b, .pointer (some ⟨g, 0, none⟩)] w fun e w' => e = .returned (.bool (clT c b)) ∧ Below w.heap.size w w' := by
  have hcall := Lib.hid (holds_any c hc.1 (by have := hc.2; omega) A cap b hb w hx)
  generalize clT c b = q at *
  clear hx hc
  go_enter Tryz.func70, Tryz.ntmps70
  go_wp2_with fail
  refine hcall.out.mono ?_
  rintro e w1 ⟨rfl, hb1⟩
  clear hcall
  go_wp2_with fail
  go_ret
  exact ⟨rfl, hb1⟩

set_option maxRecDepth 100000 in
set_option maxHeartbeats 4000000 in
theorem diagramOfClause_any (vars : Int) (c : List Int) (A : Option Addr) (cap : Nat) (F : List Nat) (w : World) (hx : Ty.int.row false w (.slice A c.length cap) c F) :
    Calls Tryz.prog 25 #[.int .i64 vars, .slice A c.length cap] w
      (DgTold w (inB vars 0 6 && clauseB vars c) (outR (inB vars 0 6 && clauseB vars c) vars (clT c)) (outN (inB vars 0 6 && clauseB vars c) vars (clT c))) := by
  have S0 := ((Sp.start w).alloc_box #[.slice A c.length cap] 37).alloc_box #[.int .i64 0, .slice none 0 0] 26
  simp only [World.size_alloc] at S0
  have hwi := fun q W (h : inB vars 0 6 = q) => within_b h W
  have hcl := Lib.hid (fun W (hb : Below w.heap.size w W) => implIsClause_any vars _ c F W (Ty.row_below hx hb (Ty.row_lt hx)))
  obtain ⟨_, _, e2, hI⟩ := ints_row hx
  cases e2
  replace hI := Lib.hid hI
  replace S0 := Lib.hid S0
  cases h1 : inB vars 0 6
  · have hw1 := Lib.hid (fun W => hwi _ W h1)
    clear hx hwi hcl hI
    go_enter Tryz.func25, Tryz.ntmps25
    go_wp2_with fail
    refine (hw1.out _).mono ?_
    rintro e w1 ⟨rfl, hb1⟩
    have S1 := S0.out.grow hb1
    have r0 := S1.cell (i := 0) rfl (o := 0) rfl
    have r1 := S1.cell (i := 0) rfl (o := 1) rfl
    have f0 := S1.frozen (i := 0) rfl 0
    have f1 := S1.frozen (i := 0) rfl 1
    have S2 := (S1.store (i := 0) rfl 0 (.int .i64 0)).store (i := 0) rfl 1 (.slice none 0 0)
    have j0 := S2.cell (i := 0) rfl (o := 0) rfl
    have j1 := S2.cell (i := 0) rfl (o := 1) rfl
    have hB := S2.below
    clear S0 S1 S2 hw1 hb1
    go_wp2_with fail
    exact bodyPost_ret (v := .tuple #[.agg #[.int .i64 0, .slice none 0 0], .bool false]) (by simp [results, Tryz.results25, go_sem, j0, j1]) rfl ⟨none, 0, rfl, .nil _, (fun a e => by cases e), hB⟩
  have hw1 := Lib.hid (fun W => hwi _ W h1)
  clear hwi
  cases h2 : clauseB vars c
  · rw [h2] at hcl
    clear hx hI
    go_enter Tryz.func25, Tryz.ntmps25
    go_wp2_with fail
    refine (hw1.out _).mono ?_
    rintro e w1 ⟨rfl, hb1⟩
    have S1 := S0.out.grow hb1
    have c0 := S1.cell (i := 1) rfl (o := 0) rfl
    have hcall := Lib.hid (hcl.out _ S1.below)
    replace S1 := Lib.hid S1
    clear S0 hw1 hcl hb1
    go_wp2_with fail
    refine hcall.out.mono ?_
    rintro e w2 ⟨rfl, hb2⟩
    have S2 := S1.out.grow hb2
    have r0 := S2.cell (i := 0) rfl (o := 0) rfl
    have r1 := S2.cell (i := 0) rfl (o := 1) rfl
    have f0 := S2.frozen (i := 0) rfl 0
    have f1 := S2.frozen (i := 0) rfl 1
    have S3 := (S2.store (i := 0) rfl 0 (.int .i64 0)).store (i := 0) rfl 1 (.slice none 0 0)
    have j0 := S3.cell (i := 0) rfl (o := 0) rfl
    have j1 := S3.cell (i := 0) rfl (o := 1) rfl
    have hB := S3.below
    clear S1 S2 S3 hcall hb2 c0
    go_wp2_with fail
    exact bodyPost_ret (v := .tuple #[.agg #[.int .i64 0, .slice none 0 0], .bool false]) (by simp [results, Tryz.results25, go_sem, j0, j1]) rfl ⟨none, 0, rfl, .nil _, (fun a e => by cases e), hB⟩
  rw [h2] at hcl
  rw [inB_def] at h1
  obtain ⟨n, rfl⟩ := Int.eq_ofNat_of_zero_le h1.1
  have hn : n ≤ 6 := by omega
  have hcs := clause_s h2
  have hR : Hid (outR (true && true) (n : Int) (clT c) = dgR n (clT c)) := rfl
  have hN : Hid (outN (true && true) (n : Int) (clT c) = dgN n (clT c)) := rfl
  have eg : ∀ args w, (callFunc 70 args).run Tryz.prog w = .ok (.enter 70 args) w := enters_of Tryz.func70 (by kernel_rfl) rfl
  have hpl := Lib.hid (fun W => planned_any n 70 #[.pointer (some ⟨w.heap.size, 0, none⟩)] (clT c) W hn eg)
  have hfn : Hid (∀ W, Sp w W [Box (w.heap.size + 1) 26 #[.int .i64 0, .slice none 0 0], Box w.heap.size 37 #[.slice A c.length cap]] →
      FnOk W n 70 #[.pointer (some ⟨w.heap.size, 0, none⟩)] (clT c)) := by
    intro W S b w' hb hbl
    have S' := S.grow hbl
    exact clauseOf1_any c hcs A cap b w.heap.size (pow62 (by omega) hb) w' (hI.out.grow S'.below) (S'.cell (i := 1) rfl (o := 0) rfl)
  clear hx hI hcs h1 h2 eg
  go_enter Tryz.func25, Tryz.ntmps25
  go_wp2_with fail
  refine (hw1.out _).mono ?_
  rintro e w1 ⟨rfl, hb1⟩
  have S1 := S0.out.grow hb1
  have c0 := S1.cell (i := 1) rfl (o := 0) rfl
  have hcall := Lib.hid (hcl.out _ S1.below)
  replace S1 := Lib.hid S1
  clear S0 hw1 hcl hb1
  go_wp2_with fail
  refine hcall.out.mono ?_
  rintro e w2 ⟨rfl, hb2⟩
  have S2 := S1.out.grow hb2
  have hpl2 := Lib.hid (hpl.out w2 (hfn.out w2 S2))
  replace S2 := Lib.hid S2
  clear S1 hcall hb2 hpl hfn c0
  generalize hRn : dgR n (clT c) = rr at *
  generalize hNn : dgN n (clT c) = nn at *
  go_wp2_with fail
  refine hpl2.out.mono ?_
  rintro e w3 ⟨v, rfl, B, k, rfl, hNd, hfr, hb3⟩
  have S3 := S2.out.grow hb3
  have r0 := S3.cell (i := 0) rfl (o := 0) rfl
  have r1 := S3.cell (i := 0) rfl (o := 1) rfl
  have f0 := S3.frozen (i := 0) rfl 0
  have f1 := S3.frozen (i := 0) rfl 1
  have S4 := (S3.store (i := 0) rfl 0 (.int .i64 rr)).store (i := 0) rfl 1 (.slice B nn.length k)
  have j0 := S4.cell (i := 0) rfl (o := 0) rfl
  have j1 := S4.cell (i := 0) rfl (o := 1) rfl
  have hB := S4.below
  have hlt := (S2.out.box (i := 0) rfl).2.1
  have hne : ∀ a, B = some a → a.block ≠ w.heap.size + 1 := fun a ha => by have := hfr a ha; omega
  have hNd2 := Lib.hid ((hNd.set hne 0 (.int .i64 rr)).set hne 1 (.slice B nn.length k))
  have hfr2 : Hid (∀ a, B = some a → w.heap.size ≤ a.block) := fun a ha => by have := hfr a ha; omega
  clear S2 S3 S4 hpl2 hb3 hNd hfr hne hlt
  go_wp2_with fail
  exact bodyPost_ret (v := .tuple #[.agg #[.int .i64 rr, .slice B nn.length k], .bool true]) (by simp [results, Tryz.results25, go_sem, j0, j1]) rfl ⟨B, k, by rw [hR.out, hN.out]; rfl, by rw [hN.out]; exact hNd2.out, hfr2.out, hB⟩

/-- A Cnf with few variables. -/
def dCnf (vars : Int) (xss : List (List Int)) : Bool := inB vars 0 6 && goodB vars xss
theorem dCnf_def {vars : Int} {xss : List (List Int)} : dCnf vars xss = (goodB vars xss && decide (vars ≤ 6)) := by
  unfold dCnf
  cases h : goodB vars xss
  · simp
  · have := (good_cnf h).1
    rw [Bool.eq_iff_iff, Bool.and_eq_true, Bool.and_eq_true, inB_def, decide_eq_true_eq]
    simp; omega
set_option maxRecDepth 100000 in
set_option maxHeartbeats 4000000 in
theorem diagramCnf_any (vars : Int) (v : Value) (xss : List (List Int)) (F : List Nat) (w : World) (hx : (Ty.slice Ty.int).row false w v xss F) :
    Calls Tryz.prog 60 #[.agg #[.int .i64 vars, v]] w fun e w' => e = .returned (.bool (dCnf vars xss)) ∧ Below w.heap.size w w' := by
  obtain ⟨A, cap, rfl, -⟩ := cls_row hx
  have S0 := (Sp.start w).alloc_box #[.int .i64 vars, .slice A xss.length cap] 45
  have hcall := Lib.hid (implIsCnf_any vars _ xss F _ (Ty.row_below hx S0.below (Ty.row_lt hx)))
  replace S0 := Lib.hid S0
  rw [dCnf_def]
  clear hx
  generalize goodB vars xss = q at *
  obtain ⟨z, hz⟩ : ∃ z, decide (vars ≤ 6) = z := ⟨_, rfl⟩
  rw [hz]
  cases q
  all_goals
    go_enter Tryz.func60, Tryz.ntmps60
    go_wp2_with fail
    refine hcall.out.mono ?_
    rintro e w1 ⟨rfl, hb1⟩
    have S1 := S0.out.grow hb1
    have c0 := S1.cell (i := 0) rfl (o := 0) rfl
    have hB := S1.below
    clear S0 S1 hcall hb1
    go_wp2_with fail
    go_ret
    exact ⟨rfl, hB⟩

set_option maxRecDepth 100000 in
set_option maxHeartbeats 4000000 in
theorem diagramOfCnf_any (vars : Int) (v : Value) (xss : List (List Int)) (F : List Nat) (w : World) (hx : (Ty.slice Ty.int).row false w v xss F) :
    Calls Tryz.prog 21 #[.agg #[.int .i64 vars, v]] w (DgTold w (dCnf vars xss) (outR (dCnf vars xss) vars (modT xss)) (outN (dCnf vars xss) vars (modT xss))) := by
  obtain ⟨A, cap, rfl, hI⟩ := cls_row hx
  have S0 := ((Sp.start w).alloc_box #[.int .i64 vars, .slice A xss.length cap] 45).alloc_box #[.int .i64 0, .slice none 0 0] 26
  simp only [World.size_alloc] at S0
  have hcall := Lib.hid (diagramCnf_any vars _ xss F _ (Ty.row_below hx S0.below (Ty.row_lt hx)))
  replace hI := Lib.hid hI
  replace S0 := Lib.hid S0
  clear hx
  cases h1 : dCnf vars xss
  · rw [h1] at hcall
    go_enter Tryz.func21, Tryz.ntmps21
    go_wp2_with fail
    refine hcall.out.mono ?_
    rintro e w1 ⟨rfl, hb1⟩
    have S1 := S0.out.grow hb1
    have r0 := S1.cell (i := 0) rfl (o := 0) rfl
    have r1 := S1.cell (i := 0) rfl (o := 1) rfl
    have f0 := S1.frozen (i := 0) rfl 0
    have f1 := S1.frozen (i := 0) rfl 1
    have S2 := (S1.store (i := 0) rfl 0 (.int .i64 0)).store (i := 0) rfl 1 (.slice none 0 0)
    have j0 := S2.cell (i := 0) rfl (o := 0) rfl
    have j1 := S2.cell (i := 0) rfl (o := 1) rfl
    have hB := S2.below
    clear S0 S1 S2 hcall hb1
    go_wp2_with fail
    exact bodyPost_ret (v := .tuple #[.agg #[.int .i64 0, .slice none 0 0], .bool false]) (by simp [results, Tryz.results21, go_sem, j0, j1]) rfl ⟨none, 0, rfl, .nil _, (fun a e => by cases e), hB⟩
  rw [h1] at hcall
  unfold dCnf at h1
  rw [Bool.and_eq_true, inB_def] at h1
  obtain ⟨⟨hv0, hv1⟩, hg⟩ := h1
  have hgc := good_cnf hg
  obtain ⟨n, rfl⟩ := Int.eq_ofNat_of_zero_le hv0
  have hn : n ≤ 6 := by omega
  have hR : Hid (outR true (n : Int) (modT xss) = dgR n (modT xss)) := rfl
  have hN : Hid (outN true (n : Int) (modT xss) = dgN n (modT xss)) := rfl
  have hpl := Lib.hid (fun W (hb : Below w.heap.size w W) => diagramOf_any n hn xss hgc.2.2.2 (by omega) A cap W (hI.out.grow hb))
  clear hgc hg hI hv0 hv1
  go_enter Tryz.func21, Tryz.ntmps21
  go_wp2_with fail
  refine hcall.out.mono ?_
  rintro e w2 ⟨rfl, hb1⟩
  have S2 := S0.out.grow hb1
  have c0 := S2.cell (i := 1) rfl (o := 0) rfl
  have c1 := S2.cell (i := 1) rfl (o := 1) rfl
  have hpl2 := Lib.hid (hpl.out _ S2.below)
  replace S2 := Lib.hid S2
  clear S0 hcall hb1 hpl
  generalize hRn : dgR n (modT xss) = rr at *
  generalize hNn : dgN n (modT xss) = nn at *
  go_wp2_with fail
  refine hpl2.out.mono ?_
  rintro e w3 ⟨v, rfl, B, k, rfl, hNd, hfr, hb3⟩
  have S3 := S2.out.grow hb3
  have r0 := S3.cell (i := 0) rfl (o := 0) rfl
  have r1 := S3.cell (i := 0) rfl (o := 1) rfl
  have f0 := S3.frozen (i := 0) rfl 0
  have f1 := S3.frozen (i := 0) rfl 1
  have S4 := (S3.store (i := 0) rfl 0 (.int .i64 rr)).store (i := 0) rfl 1 (.slice B nn.length k)
  have j0 := S4.cell (i := 0) rfl (o := 0) rfl
  have j1 := S4.cell (i := 0) rfl (o := 1) rfl
  have hB := S4.below
  have hlt := (S2.out.box (i := 0) rfl).2.1
  have hne : ∀ a, B = some a → a.block ≠ w.heap.size + 1 := fun a ha => by have := hfr a ha; omega
  have hNd2 := Lib.hid ((hNd.set hne 0 (.int .i64 rr)).set hne 1 (.slice B nn.length k))
  have hfr2 : Hid (∀ a, B = some a → w.heap.size ≤ a.block) := fun a ha => by have := hfr a ha; omega
  clear S2 S3 S4 hpl2 hb3 hNd hfr hne hlt c0 c1
  go_wp2_with fail
  exact bodyPost_ret (v := .tuple #[.agg #[.int .i64 rr, .slice B nn.length k], .bool true]) (by simp [results, Tryz.results21, go_sem, j0, j1]) rfl ⟨B, k, by rw [hR.out, hN.out], by rw [hN.out]; exact hNd2.out, hfr2.out, hB⟩
end Go.Proofs.YtbemodacpimiiaaGreat

/- Contracts: valid diagrams, in the reference. -/
namespace Go.Proofs.YtbemodacpimiiaaGreat
open Go.RowKit

theorem l26Vars_any (vars : Int) (w : World) : Calls Tryz.prog 72 #[.int .i64 vars] w fun e w' => e = .returned (.bool (inB vars 0 6)) ∧ w = w' := by
  go_enter Tryz.func72, Tryz.ntmps72
  go_wp2_with (go_at_call 77; refine (l1In_any _ _ _ _).mono ?_; rintro e w1 ⟨rfl, rfl⟩)
  go_ret
  exact ⟨rfl, rfl⟩
theorem under_node {ns : List Nd} {m : Nat} (hm : m < ns.length) {lo : Int} (h : lo = (m : Int) + 2) (v : Int) : under ns v lo = decide (v < ns[m].v) := by
  unfold under
  rw [decide_eq_false (by omega), List.getD_eq_getElem?_getD, show (lo - 2).toNat = m by omega, List.getElem?_eq_getElem hm]
  rfl
theorem under_low {ns : List Nd} {lo : Int} (h : lo < 2) (v : Int) : under ns v lo = true := by
  unfold under
  rw [decide_eq_true h]; rfl
theorem NdAt.var {w : World} {b off : Nat} {ns : List Nd} (h : NdAt w (some ⟨b, off, none⟩) ns) {m : Nat} (hm : m < ns.length) : w.cell? ⟨b, off + m * 3, none⟩ = some (.int .i64 ns[m].v) := by
  obtain ⟨b', off', e, h1, _⟩ := h.at_ m hm
  cases e
  exact h1
theorem nds_no' {vars : Int} {ns : List Nd} {k : Nat} (hk : k < ns.length) (h : ndB vars ns k = false) : ndsB vars ns ns.length = false := by
  cases hh : ndsB vars ns ns.length
  · rfl
  · have := ndsB_ok.1 hh k hk
    rw [h] at this; cases this
theorem goodD_def' (vars r : Int) (ns : List Nd) : goodD vars r ns = (inB vars 0 6 && decide (ns.length ≤ 63) && inB r 0 (ns.length + 1) && ndsB vars ns ns.length) := rfl
theorem ndB_eq {vars : Int} {ns : List Nd} {i : Nat} (hi : i < ns.length) {v lo hi' : Int} (h : ns[i] = ⟨v, lo, hi'⟩) : ndB vars ns i = (inB v 1 vars && inB lo 0 (i + 1) && inB hi' 0 (i + 1) && under ns v lo && under ns v hi') := by
  unfold ndB
  rw [List.getD_eq_getElem?_getD, List.getElem?_eq_getElem hi, h]
  rfl
theorem NdAt.ok_at {w : World} {A : Option Addr} {ns : List Nd} (h : NdAt w A ns) {m : Nat} (hm : m < ns.length) : ndOk ns[m] := h.ok _ (List.getElem_mem hm)

set_option maxRecDepth 100000 in
set_option maxHeartbeats 16000000 in
theorem l26Good_any (vars r : Int) (A : Option Addr) (c : Nat) (ns : List Nd) (w : World) (hx : NdAt w A ns) (hl : ns.length ≤ 1000000) :
    Calls Tryz.prog 44 #[.int .i64 vars, dgV r (.slice A ns.length c)] w fun e w' => e = .returned (.bool (goodD vars r ns)) ∧ Below w.heap.size w w' := by
  have hR := Lib.hid (goodD_def' vars r ns)
  have S0 := (Sp.start w).alloc_box #[.int .i64 r, .slice A ns.length c] 26
  have hB := S0.below
  cases h1 : inB vars 0 6
  · have hF : Hid (goodD vars r ns = false) := by unfold Hid; rw [hR.out, h1]; rfl
    clear S0
    go_enter Tryz.func44, Tryz.ntmps44
    go_wp2_with (first | (go_at_call 72; refine (l26Vars_any _ _).mono ?_; rw [h1]; rintro e w1 ⟨rfl, rfl⟩) | (go_at_call 77; refine (l1In_any _ _ _ _).mono ?_; (first | rw [h1] | rfl); rintro e w1 ⟨rfl, rfl⟩))
    go_ret
    exact ⟨ret_bool hF.out.symm, hB⟩
  by_cases h2 : (63 : Int) < ns.length
  · have hF : Hid (goodD vars r ns = false) := by unfold Hid; rw [hR.out, decide_eq_false (by omega : ¬ ns.length ≤ 63)]; simp
    clear S0
    go_enter Tryz.func44, Tryz.ntmps44
    go_wp2_with (first | (go_at_call 72; refine (l26Vars_any _ _).mono ?_; rw [h1]; rintro e w1 ⟨rfl, rfl⟩) | (go_at_call 77; refine (l1In_any _ _ _ _).mono ?_; (first | rw [h1] | rfl); rintro e w1 ⟨rfl, rfl⟩))
    go_ret
    exact ⟨ret_bool hF.out.symm, hB⟩
  cases h3 : inB r 0 ((ns.length : Int) + 1)
  · have hF : Hid (goodD vars r ns = false) := by unfold Hid; rw [hR.out, h3]; simp
    clear S0
    go_enter Tryz.func44, Tryz.ntmps44
    go_wp2_with (first | (go_at_call 72; refine (l26Vars_any _ _).mono ?_; rw [h1]; rintro e w1 ⟨rfl, rfl⟩) | (go_at_call 77; refine (l1In_any _ _ _ _).mono ?_; (first | rw [h3] | rfl); rintro e w1 ⟨rfl, rfl⟩))
    go_ret
    exact ⟨ret_bool hF.out.symm, hB⟩
  have hR2 : Hid (goodD vars r ns = ndsB vars ns ns.length) := by
    unfold Hid; rw [hR.out, h1, h3, decide_eq_true (by omega : ns.length ≤ 63)]; simp
  replace S0 := Lib.hid S0
  have hN := Lib.hid hx
  clear hR hx hB
  go_enter Tryz.func44, Tryz.ntmps44
  go_wp2_with (first | (go_at_call 72; refine (l26Vars_any _ _).mono ?_; rw [h1]; rintro e w1 ⟨rfl, rfl⟩) | (go_at_call 77; refine (l1In_any _ _ _ _).mono ?_; (first | rw [h3] | rfl); rintro e w1 ⟨rfl, rfl⟩))
  go_loopw [5] (fun i wr => ∃ k : Nat, k ≤ ns.length ∧ i = .int .i64 k ∧ Hid (ndsB vars ns k = true) ∧ Hid (Sp w wr [Box w.heap.size 26 #[.int .i64 r, .slice A ns.length c]])) (fun i _ => ns.length - (intOf i).toNat)
  case atStart => exact ⟨0, Nat.zero_le _, rfl, rfl, S0⟩
  case round =>
    obtain ⟨k, hk, rfl, HD, HS⟩ := hrel
    clear S0
    by_cases hlt : k < ns.length
    · obtain ⟨b, off, rfl, m0, m1, m2⟩ := (hN.out.grow HS.out.below).at_ k hlt
      have hNw := Lib.hid (hN.out.grow HS.out.below)
      have hgl : b < wr.heap.size := World.block_lt_of_cell? _ _ m0
      obtain ⟨ov, olo, ohi⟩ := hN.out.ok_at hlt
      have hyes : Hid (ndB vars ns k = true → ndsB vars ns (k + 1) = true) := fun h => by rw [ndsB_succ, HD.out, h]; rfl
      have hno : Hid (ndB vars ns k = false → goodD vars r ns = false) := fun h => by rw [hR2.out]; exact nds_no' hlt h
      have heq := Lib.hid (ndB_eq (vars := vars) hlt (v := ns[k].v) (lo := ns[k].lo) (hi' := ns[k].hi) rfl)
      have c1 := HS.out.cell (i := 0) rfl (o := 1) rfl
      generalize ns[k].v = v at *
      generalize ns[k].lo = lo at *
      generalize ns[k].hi = hi at *
      have hB := bal (bb wr) (.cells #[.int .i64 v, .int .i64 lo, .int .i64 hi] 71)
      have HS2 := Lib.hid (HS.out.grow hB)
      clear HS HD
      have hkw : IntKind.i64.wrap ((k : Int) + 1) = (k : Int) + 1 := IntWalk.i64_in _ (by omega)
      cases q1 : inB v 1 vars
      · have hF := Lib.hid (hno.out (by rw [heq.out, q1]; simp))
        clear hno hyes heq hN hNw
        have hB2 := HS2.out.below
        go_wp2_with (go_at_call 77; refine (l1In_any _ _ _ _).mono ?_; (first | rw [q1] | rw [q2] | rw [q3]); rintro e w1 ⟨rfl, rfl⟩)
        go_ret
        exact ⟨ret_bool hF.out.symm, hB2⟩
      cases q2 : inB lo 0 ((k : Int) + 1)
      · have hF := Lib.hid (hno.out (by rw [heq.out, q2]; simp))
        clear hno hyes heq hN hNw
        have hB2 := HS2.out.below
        go_wp2_with (go_at_call 77; refine (l1In_any _ _ _ _).mono ?_; (first | rw [q1] | rw [q2] | rw [q3]); rintro e w1 ⟨rfl, rfl⟩)
        go_ret
        exact ⟨ret_bool hF.out.symm, hB2⟩
      cases q3 : inB hi 0 ((k : Int) + 1)
      · have hF := Lib.hid (hno.out (by rw [heq.out, q3]; simp))
        clear hno hyes heq hN hNw
        have hB2 := HS2.out.below
        go_wp2_with (go_at_call 77; refine (l1In_any _ _ _ _).mono ?_; (first | rw [q1] | rw [q2] | rw [q3]); rintro e w1 ⟨rfl, rfl⟩)
        go_ret
        exact ⟨ret_bool hF.out.symm, hB2⟩
      obtain ⟨lo0, lo1⟩ := inB_def.1 q2
      obtain ⟨hi0, hi1⟩ := inB_def.1 q3
      have a1 := cell_regrown (HS2.out.cell (i := 0) rfl (o := 1) rfl)
      have n0 : (wr.alloc (.cells #[.int .i64 v, .int .i64 lo, .int .i64 hi] 71)).cell? ⟨wr.heap.size, 0, none⟩ = some (.int .i64 v) := cell_of_row _ _ _ _ _ _ (heap_alloc_new wr _)
      have n1 : (wr.alloc (.cells #[.int .i64 v, .int .i64 lo, .int .i64 hi] 71)).cell? ⟨wr.heap.size, 1, none⟩ = some (.int .i64 lo) := cell_of_row _ _ _ _ _ _ (heap_alloc_new wr _)
      have n2 : (wr.alloc (.cells #[.int .i64 v, .int .i64 lo, .int .i64 hi] 71)).cell? ⟨wr.heap.size, 2, none⟩ = some (.int .i64 hi) := cell_of_row _ _ _ _ _ _ (heap_alloc_new wr _)
      replace n0 := cell_regrown n0
      replace n1 := cell_regrown n1
      replace n2 := cell_regrown n2
      have hNW := Lib.hid (hNw.out.grow hB)
      clear hNw hB
      by_cases g1 : (1 : Int) < lo
      · have d1 : decide ((1 : Int) < lo) = true := decide_eq_true g1
        obtain ⟨q, hq⟩ : ∃ q : Nat, lo = (q : Int) + 2 := ⟨(lo - 2).toNat, by omega⟩
        have hlq : q < ns.length := by omega
        have hsq : IntKind.i64.wrap (lo - 2) = (q : Int) := by rw [IntWalk.i64_in _ (by omega)]; omega
        have pq := cell_regrown (hNW.out.var hlq)
        have uq := Lib.hid (under_node hlq hq v)
        replace hq := Lib.hid hq
        generalize ns[q].v = x at *
        by_cases f1 : x ≤ v
        · have d1' : decide (x ≤ v) = true := decide_eq_true f1
          have hF := Lib.hid (hno.out (by rw [heq.out, uq.out, decide_eq_false (by omega : ¬ v < x)]; simp))
          clear hno hyes heq hN hNW uq
          go_wp2_with (go_at_call 77; refine (l1In_any _ _ _ _).mono ?_; (first | rw [q1] | rw [q2] | rw [q3]); rintro e w1 ⟨rfl, rfl⟩)
          refine wp_region_quiet_below (by kernel_rfl) (by kernel_rfl) ?_
          repeat (any_goals (go_big_quiet_step (fail)))
          refine wpQuiet_nil ?_
          rintro w1 ⟨p, rfl⟩
          have HS3 := Lib.hid (HS2.out.grow (below_regrown _ p.d p.os))
          clear HS2 a1 n0 n1 n2 c1 m0 m1 m2
          go_wp2_with fail
          go_ret
          exact ⟨ret_bool hF.out.symm, HS3.out.below⟩
        · have d1' : decide (x ≤ v) = false := decide_eq_false f1
          have uq' : Hid (under ns v lo = true) := by unfold Hid; rw [uq.out]; exact decide_eq_true (by omega)
          clear uq
          by_cases g2 : (1 : Int) < hi
          · have d2 : decide ((1 : Int) < hi) = true := decide_eq_true g2
            obtain ⟨m, hm⟩ : ∃ m : Nat, hi = (m : Int) + 2 := ⟨(hi - 2).toNat, by omega⟩
            have hlm : m < ns.length := by omega
            have hsm : IntKind.i64.wrap (hi - 2) = (m : Int) := by rw [IntWalk.i64_in _ (by omega)]; omega
            have pm := cell_regrown (hNW.out.var hlm)
            have um := Lib.hid (under_node hlm hm v)
            replace hm := Lib.hid hm
            generalize ns[m].v = y at *
            by_cases f2 : y ≤ v
            · have d2' : decide (y ≤ v) = true := decide_eq_true f2
              have hF := Lib.hid (hno.out (by rw [heq.out, um.out, decide_eq_false (by omega : ¬ v < y)]; simp))
              clear hno hyes heq hN hNW um uq'
              go_wp2_with (go_at_call 77; refine (l1In_any _ _ _ _).mono ?_; (first | rw [q1] | rw [q2] | rw [q3]); rintro e w1 ⟨rfl, rfl⟩)
              refine wp_region_quiet_below (by kernel_rfl) (by kernel_rfl) ?_
              repeat (any_goals (go_big_quiet_step (fail)))
              refine wpQuiet_nil ?_
              rintro w1 ⟨p, rfl⟩
              have HS3 := Lib.hid (HS2.out.grow (below_regrown _ p.d p.os))
              clear HS2 a1 n0 n1 n2 c1 m0 m1 m2
              go_wp2_with fail
              go_ret
              exact ⟨ret_bool hF.out.symm, HS3.out.below⟩
            · have d2' : decide (y ≤ v) = false := decide_eq_false f2
              have hD := Lib.hid (hyes.out (by rw [heq.out, uq'.out, um.out, decide_eq_true (by omega : v < y), q1, q2, q3]; rfl))
              clear hno hyes heq hNW um uq'
              go_wp2_with (go_at_call 77; refine (l1In_any _ _ _ _).mono ?_; (first | rw [q1] | rw [q2] | rw [q3]); rintro e w1 ⟨rfl, rfl⟩)
              refine wp_region_quiet_below (by kernel_rfl) (by kernel_rfl) ?_
              repeat (any_goals (go_big_quiet_step (fail)))
              refine wpQuiet_nil ?_
              rintro w1 ⟨p, rfl⟩
              have HS3 := Lib.hid (HS2.out.grow (below_regrown _ p.d p.os))
              clear HS2 a1 n0 n1 n2 c1 m0 m1 m2
              go_wp2_with fail
              go_roundw
              case rel => exact ⟨k + 1, by omega, by go_num, hD, HS3⟩
              case measure => simp [intOf]; omega
          · have d2 : decide ((1 : Int) < hi) = false := decide_eq_false g2
            have hD := Lib.hid (hyes.out (by rw [heq.out, uq'.out, under_low (by omega : hi < 2), q1, q2, q3]; rfl))
            clear hno hyes heq hNW uq'
            go_wp2_with (go_at_call 77; refine (l1In_any _ _ _ _).mono ?_; (first | rw [q1] | rw [q2] | rw [q3]); rintro e w1 ⟨rfl, rfl⟩)
            refine wp_region_quiet_below (by kernel_rfl) (by kernel_rfl) ?_
            repeat (any_goals (go_big_quiet_step (fail)))
            refine wpQuiet_nil ?_
            rintro w1 ⟨p, rfl⟩
            have HS3 := Lib.hid (HS2.out.grow (below_regrown _ p.d p.os))
            clear HS2 a1 n0 n1 n2 c1 m0 m1 m2
            go_wp2_with fail
            go_roundw
            case rel => exact ⟨k + 1, by omega, by go_num, hD, HS3⟩
            case measure => simp [intOf]; omega
      · have d1 : decide ((1 : Int) < lo) = false := decide_eq_false g1
        have uq' : Hid (under ns v lo = true) := under_low (by omega) v
        by_cases g2 : (1 : Int) < hi
        · have d2 : decide ((1 : Int) < hi) = true := decide_eq_true g2
          obtain ⟨m, hm⟩ : ∃ m : Nat, hi = (m : Int) + 2 := ⟨(hi - 2).toNat, by omega⟩
          have hlm : m < ns.length := by omega
          have hsm : IntKind.i64.wrap (hi - 2) = (m : Int) := by rw [IntWalk.i64_in _ (by omega)]; omega
          have pm := cell_regrown (hNW.out.var hlm)
          have um := Lib.hid (under_node hlm hm v)
          replace hm := Lib.hid hm
          generalize ns[m].v = y at *
          by_cases f2 : y ≤ v
          · have d2' : decide (y ≤ v) = true := decide_eq_true f2
            have hF := Lib.hid (hno.out (by rw [heq.out, um.out, decide_eq_false (by omega : ¬ v < y)]; simp))
            clear hno hyes heq hN hNW um uq'
            go_wp2_with (go_at_call 77; refine (l1In_any _ _ _ _).mono ?_; (first | rw [q1] | rw [q2] | rw [q3]); rintro e w1 ⟨rfl, rfl⟩)
            refine wp_region_quiet_below (by kernel_rfl) (by kernel_rfl) ?_
            repeat (any_goals (go_big_quiet_step (fail)))
            refine wpQuiet_nil ?_
            rintro w1 ⟨p, rfl⟩
            have HS3 := Lib.hid (HS2.out.grow (below_regrown _ p.d p.os))
            clear HS2 a1 n0 n1 n2 c1 m0 m1 m2
            go_wp2_with fail
            go_ret
            exact ⟨ret_bool hF.out.symm, HS3.out.below⟩
          · have d2' : decide (y ≤ v) = false := decide_eq_false f2
            have hD := Lib.hid (hyes.out (by rw [heq.out, uq'.out, um.out, decide_eq_true (by omega : v < y), q1, q2, q3]; rfl))
            clear hno hyes heq hNW um uq'
            go_wp2_with (go_at_call 77; refine (l1In_any _ _ _ _).mono ?_; (first | rw [q1] | rw [q2] | rw [q3]); rintro e w1 ⟨rfl, rfl⟩)
            refine wp_region_quiet_below (by kernel_rfl) (by kernel_rfl) ?_
            repeat (any_goals (go_big_quiet_step (fail)))
            refine wpQuiet_nil ?_
            rintro w1 ⟨p, rfl⟩
            have HS3 := Lib.hid (HS2.out.grow (below_regrown _ p.d p.os))
            clear HS2 a1 n0 n1 n2 c1 m0 m1 m2
            go_wp2_with fail
            go_roundw
            case rel => exact ⟨k + 1, by omega, by go_num, hD, HS3⟩
            case measure => simp [intOf]; omega
        · have d2 : decide ((1 : Int) < hi) = false := decide_eq_false g2
          have hD := Lib.hid (hyes.out (by rw [heq.out, uq'.out, under_low (by omega : hi < 2), q1, q2, q3]; rfl))
          clear hno hyes heq hNW uq'
          go_wp2_with (go_at_call 77; refine (l1In_any _ _ _ _).mono ?_; (first | rw [q1] | rw [q2] | rw [q3]); rintro e w1 ⟨rfl, rfl⟩)
          refine wp_region_quiet_below (by kernel_rfl) (by kernel_rfl) ?_
          repeat (any_goals (go_big_quiet_step (fail)))
          refine wpQuiet_nil ?_
          rintro w1 ⟨p, rfl⟩
          have HS3 := Lib.hid (HS2.out.grow (below_regrown _ p.d p.os))
          clear HS2 a1 n0 n1 n2 c1 m0 m1 m2
          go_wp2_with fail
          go_roundw
          case rel => exact ⟨k + 1, by omega, by go_num, hD, HS3⟩
          case measure => simp [intOf]; omega
    · obtain rfl : k = ns.length := by omega
      have c1 := HS.out.cell (i := 0) rfl (o := 1) rfl
      go_wp2_with fail
      go_ret
      exact ⟨ret_bool (by rw [hR2.out, HD.out]), HS.out.below⟩
end Go.Proofs.YtbemodacpimiiaaGreat

/- Contracts: the values of a diagram, in the reference. -/
namespace Go.Proofs.YtbemodacpimiiaaGreat
open Go.RowKit

set_option maxRecDepth 100000 in
set_option maxHeartbeats 4000000 in
theorem l26Values_any (n : Nat) (hn : n ≤ 6) (r : Int) (A : Option Addr) (c : Nat) (ns : List Nd) (w : World) (hx : NdAt w A ns) (hl : ns.length ≤ 1000000) (hw : WkN ns) (h0 : 0 ≤ r) (h1 : r ≤ ns.length + 1) :
    Calls Tryz.prog 46 #[.int .i64 n, dgV r (.slice A ns.length c)] w fun e w' => ∃ B k, e = .returned (.slice B (2 ^ n) k) ∧ Sp w w' [Own 4 1 (.slice B (2 ^ n) k) (2 ^ n) (blV (2 ^ n) (valD r ns))] := by
  obtain ⟨hsh, hp⟩ := pow_small hn
  generalize 2 ^ n = N at *
  have S0 := ((Sp.start w).alloc_box #[.int .i64 r, .slice A ns.length c] 26).own_made 4 1
  simp only [World.size_alloc] at S0
  replace S0 := Lib.hid S0
  have hN := Lib.hid hx
  replace hw := Lib.hid hw
  clear hx
  obtain ⟨i0, hi, hz0, hz1, hz2⟩ := info_parts infoBl
  go_enter Tryz.func46, Tryz.ntmps46
  go_wp2_with fail
  go_loopw [5, 6] (fun vo vi wr => ∃ (k : Nat) (B : Option Addr) (cc : Nat), k ≤ N ∧ vi = .int .i64 k ∧ vo = .slice B k cc ∧ Hid (Sp w wr [Own 4 1 (.slice B k cc) k (blV k (valD r ns)), Box w.heap.size 26 #[.int .i64 r, .slice A ns.length c]])) (fun _ vi _ => N - (intOf vi).toNat)
  case atStart => exact ⟨0, _, _, Nat.zero_le _, rfl, rfl, S0⟩
  case round =>
    obtain ⟨k, B, cc, hk, rfl, rfl, HS⟩ := hrel
    clear S0
    by_cases hlt : k < N
    · have c0 := HS.out.cell (i := 1) rfl (o := 0) rfl
      have c1 := HS.out.cell (i := 1) rfl (o := 1) rfl
      have hcall := Lib.hid (specValue_any r k A c ns wr (hN.out.grow HS.out.below) hl hw.out h0 h1 (Nat.lt_of_lt_of_le hlt (Nat.le_trans hp (by decide))))
      have hsn := Lib.hid (blV_snoc k (valD r ns))
      generalize valD r ns k = q at *
      go_wp2_with fail
      refine hcall.out.mono ?_
      rintro e w2 ⟨rfl, hb2⟩
      have HS2 := (HS.out.grow hb2).alloc_box #[.bool q] 4
      have kB := HS2.cell (i := 0) rfl (o := 0) rfl
      replace HS2 := Lib.hid HS2
      clear HS hcall hb2 c0 c1
      go_wp2_with (at_builtin; refine wpList_append_src rfl _ _ rfl Tryz.underlying66 hi hz0 hz1 hz2 rfl (by decide) _ _ _ rfl (HS2.out.own (i := 1) rfl) _ 1 1 [.bool q] rfl (Src.one kB) (by simp [Value.oneCell']) ?c3 ?c4 ?_)
      case c3 => unfold maxLen; omega
      case c4 => omega
      intro vY wY hownY hgY hatY
      have S4 := (HS2.out.own_push (i := 1) rfl (bb _) hownY hgY (by simpa using hatY)).tail
      obtain ⟨aY, cY, rfl⟩ := own_slice hownY
      rw [← hsn.out] at S4
      have HS3 : Hid (Sp w wY [Own 4 1 (.slice aY (k + 1) cY) (k + 1) (blV (k + 1) (valD r ns)), Box w.heap.size 26 #[.int .i64 r, .slice A ns.length c]]) := S4
      clear HS2 S4 kB hownY hgY hatY hsn
      go_wp2_with fail
      go_roundw
      case rel => exact ⟨k + 1, aY, cY, by omega, by go_num, rfl, HS3⟩
      case measure => simp [intOf]; omega
    · obtain rfl : k = N := by omega
      go_wp2_with fail
      go_ret
      exact ⟨B, cc, rfl, HS.out.swap.tail⟩

theorem pow_wrap {v : Nat} (hv : v ≤ 6) : IntKind.i64.wrap ((2 : Int) ^ v) = ((2 ^ v : Nat) : Int) := by
  match v, hv with
  | 0, _ | 1, _ | 2, _ | 3, _ | 4, _ | 5, _ | 6, _ => decide

theorem l2VarD_any (l : Int) (h0 : -6 ≤ l) (h1 : l ≤ 6) (w : World) : Calls Tryz.prog 118 #[.int .i64 l] w fun e w' => e = .returned (.int .i64 (if l < 0 then -l else l)) ∧ w = w' := by
  have hw1 : IntKind.i64.wrap (-l) = -l := IntWalk.i64_in _ (by omega)
  by_cases h : l < 0
  · rw [if_pos h]
    go_enter Tryz.func118, Tryz.ntmps118
    go_wp2_with fail
    go_ret
    exact ⟨rfl, rfl⟩
  · rw [if_neg h]
    go_enter Tryz.func118, Tryz.ntmps118
    go_wp2_with fail
    go_ret
    exact ⟨rfl, rfl⟩
theorem l2LitD_any (vars l : Int) (h0 : 0 ≤ vars) (h1 : vars ≤ 1000000) (w : World) : Calls Tryz.prog 117 #[.int .i64 vars, .int .i64 l] w fun e w' => e = .returned (.bool (litD vars l)) ∧ w = w' := by
  have hw1 : IntKind.i64.wrap (-vars) = -vars := IntWalk.i64_in _ (by omega)
  have hF : Hid (litD vars l = (inB l (-vars) vars && decide (l ≠ 0))) := by unfold Hid litD; rw [Bool.and_comm]
  cases h : inB l (-vars) vars
  all_goals
    rw [h] at hF
    go_enter Tryz.func117, Tryz.ntmps117
    go_wp2_with (go_at_call 77; refine (l1In_any _ _ _ _).mono ?_; rw [h]; rintro e w1 ⟨rfl, rfl⟩)
    go_ret
    exact ⟨ret_bool (by rw [hF.out]; first | rfl | (simp only [bne, decide_not, Bool.true_and]; by_cases e : l = 0 <;> simp [e])), rfl⟩

/- left out: the seat has no spec.l26Set -/
end Go.Proofs.YtbemodacpimiiaaGreat

/- Contracts: the plan of values, in the reference. -/
namespace Go.Proofs.YtbemodacpimiiaaGreat
open Go.RowKit

/-- The nodes of the plan while it is made. -/
abbrev PlanS (w0 : World) (sv : Value) (ns : List Nd) (w : World) : Prop := Sp w0 w [Own 71 3 sv ns.length (ns.flatMap ndEnc)]

set_option maxRecDepth 100000 in
set_option maxHeartbeats 8000000 in
theorem plan_any {w0 : World} {vars : Nat} {f : Nat → Bool} {A : Option Addr} {c : Nat} (hvars : vars ≤ 6) (hx : BlAt w0 A (2 ^ vars) f) :
    ∀ (k v b : Nat) (ns : List Nd) (sv : Value) (w : World), v + k = vars + 1 → 1 ≤ v → b < 2 ^ (v - 1) → OkN vars ns → ns.length + 2 ^ k ≤ 1000 → PlanS w0 sv ns w →
    Calls Tryz.prog 102 #[.int .i64 vars, .slice A (2 ^ vars) c, .int .i64 v, .int .i64 b, sv] w fun e w' => ∃ B k', e = .returned (.tuple #[.slice B (planF f k v b ns).1.length k', .int .i64 (planF f k v b ns).2]) ∧ PlanS w0 (.slice B (planF f k v b ns).1.length k') (planF f k v b ns).1 w'
  | 0, v, b, ns, sv, w, hk, hv, hb, hok, hl, HS => by
    have hb' : b < 2 ^ vars := by rw [show vars = v - 1 by omega]; exact hb
    obtain ⟨bb', off, rfl, m0⟩ := (hx.grow HS.below) b hb'
    have hgt : (vars : Int) < (v : Int) := by omega
    obtain ⟨B, c', rfl, -⟩ := nd_own (HS.own (i := 0) rfl) (nd_small hok (by omega) (by omega))
    clear hb hok hl hk hx
    replace HS := Lib.hid HS
    obtain ⟨q, hq⟩ : ∃ q, f b = q := ⟨_, rfl⟩
    rw [hq] at m0
    have hP : Hid (planF f 0 v b ns = (ns, if q then 1 else 0)) := by unfold Hid; rw [planF, hq]
    cases q
    all_goals
      go_enter Tryz.func102, Tryz.ntmps102
      go_wp2_with fail
      go_ret2
      exact ⟨B, c', by rw [hP.out]; rfl, by rw [hP.out]; exact HS.out⟩
  | k + 1, v, b, ns, sv, w, hk, hv, hb, hok, hl, HS => by
    have hp : 2 ^ (v + 1 - 1) = 2 ^ (v - 1) + 2 ^ (v - 1) := by
      rw [show v + 1 - 1 = (v - 1) + 1 by omega, Nat.pow_succ]; omega
    have hpk : 2 ^ (k + 1) = 2 ^ k + 2 ^ k := by rw [Nat.pow_succ]; omega
    have hpos : 0 < 2 ^ k := Nat.two_pow_pos k
    have m1 := plan_made f vars k (v + 1) b ns (by omega) (by omega) (by omega) hok
    have hrec1 := Lib.hid (plan_any (c := c) hvars hx k (v + 1) b ns sv w (by omega) (by omega) (by omega) hok (by omega) HS)
    have hP := Lib.hid (planF.eq_2 f v b ns k)
    generalize planF f k (v + 1) b ns = X1 at m1 hrec1 hP
    obtain ⟨ns1, lo⟩ := X1
    dsimp only at m1 hrec1 hP
    have hl1 : ns1.length + 1 ≤ ns.length + 2 ^ k := m1.len
    have m2 := plan_made f vars k (v + 1) (b + 2 ^ (v - 1)) ns1 (by omega) (by omega) (by omega) m1.ok
    have hrec2 := Lib.hid (fun sv w (h : PlanS w0 sv ns1 w) => plan_any (c := c) hvars hx k (v + 1) (b + 2 ^ (v - 1)) ns1 sv w (by omega) (by omega) (by omega) m1.ok (by omega) h)
    generalize planF f k (v + 1) (b + 2 ^ (v - 1)) ns1 = X2 at m2 hrec2 hP
    obtain ⟨ns2, hi⟩ := X2
    dsimp only at m2 hrec2 hP
    have hl2 : ns2.length + 1 ≤ ns1.length + 2 ^ k := m2.len
    have hgt : ¬ (vars : Int) < (v : Int) := by omega
    have hor := or_pow hb (by omega)
    have hok2 := Lib.hid (nd_small m2.ok (by omega) (by omega))
    have hrl : 0 ≤ lo ∧ lo ≤ 1000 := ⟨m1.r0, by have := m1.r1; omega⟩
    have hrh : 0 ≤ hi ∧ hi ≤ 1000 := ⟨m2.r0, by have := m2.r1; omega⟩
    have hl3 : ns2.length ≤ 1000 := by omega
    have hv1 : (v : Int) ≤ 6 := by omega
    have hvw : IntKind.i64.wrap ((v : Int) + 1) = ((v + 1 : Nat) : Int) := by rw [IntWalk.i64_in _ (by omega)]; omega
    have hcast : ((b + 2 ^ (v - 1) : Nat) : Int) = (b : Int) + 2 ^ (v - 1) := by rw [Int.natCast_add, Int.natCast_pow]; rfl
    rw [hcast] at hrec2 hor
    obtain ⟨B0, c0, rfl, -⟩ := nd_own (HS.own (i := 0) rfl) (nd_small hok (by omega) (by omega))
    clear m1 m2 hok hl hpk hp hb hl1 hl2 HS hx
    generalize 2 ^ vars = VN at *
    go_enter Tryz.func102, Tryz.ntmps102
    go_wp2_with fail
    refine hrec1.out.mono ?_
    rintro e w1 ⟨B1, c1, rfl, HS1⟩
    have hrec3 := Lib.hid (hrec2.out _ w1 HS1)
    clear HS1 hrec1 hrec2
    go_wp2_with fail
    refine hrec3.out.mono ?_
    rintro e w2 ⟨B2, c2, rfl, HS2⟩
    obtain ⟨B, c', e', hN⟩ := nd_own (HS2.own (i := 0) rfl) hok2.out
    cases e'
    replace HS2 := Lib.hid HS2
    replace hN := Lib.hid hN
    clear hrec3
    by_cases heq : lo = hi
    · have hP2 : Hid (planF f (k + 1) v b ns = (ns2, lo)) := by unfold Hid; exact hP.out.trans (if_pos heq)
      subst heq
      clear hP hN hor
      go_wp2_with fail
      go_ret2
      exact ⟨B2, c2, by rw [hP2.out]; rfl, by rw [hP2.out]; exact HS2.out⟩
    have hP2 : Hid (planF f (k + 1) v b ns = addN ns2 ⟨v, lo, hi⟩) := by unfold Hid; exact hP.out.trans (if_neg heq)
    clear hP hor
    have HS3 := Lib.hid (HS2.out.alloc_box #[.int .i64 v, .int .i64 lo, .int .i64 hi] 71)
    replace hN := Lib.hid (hN.out.grow (bal (bb _) (.cells #[.int .i64 v, .int .i64 lo, .int .i64 hi] 71)))
    clear HS2
    go_wp2_with fail
    go_loopw [15] (fun i wr => ∃ q : Nat, q ≤ ns2.length ∧ i = .int .i64 q ∧ Hid ((⟨v, lo, hi⟩ : Nd) ∉ ns2.take q) ∧ Hid (Sp w0 wr [Box w2.heap.size 71 #[.int .i64 v, .int .i64 lo, .int .i64 hi], Own 71 3 (.slice B2 ns2.length c2) ns2.length (ns2.flatMap ndEnc)])) (fun i _ => ns2.length - (intOf i).toNat)
    case atStart => exact ⟨0, Nat.zero_le _, rfl, by unfold Hid; simp, HS3⟩
    case round =>
      obtain ⟨q, hq, rfl, HD, HS⟩ := hrel
      clear HS3 hN
      by_cases hlt : q < ns2.length
      · obtain ⟨B', c'', e', hN⟩ := nd_own (HS.out.own (i := 1) rfl) hok2.out
        cases e'
        obtain ⟨bl, off, rfl, m0, m1, m2⟩ := hN.at_ q hlt
        have k0 := cell_regrown m0
        have k1 := cell_regrown m1
        have k2 := cell_regrown m2
        have d0 := cell_regrown (HS.out.cell (i := 0) rfl (o := 0) rfl)
        have d1 := cell_regrown (HS.out.cell (i := 0) rfl (o := 1) rfl)
        have d2 := cell_regrown (HS.out.cell (i := 0) rfl (o := 2) rfl)
        have hyes := Lib.hid (idx_here hlt HD.out)
        have hno := Lib.hid (idx_next hlt HD.out)
        generalize hm : ns2[q] = m at *
        have hmem : Hid (m ∈ ns2) := by unfold Hid; rw [← hm]; exact List.getElem_mem hlt
        clear hm
        obtain ⟨v', lo', hi'⟩ := m
        dsimp only at *
        clear m0 m1 m2 hN
        have hst := nd_held
        have hgu := nd_guard
        by_cases e : (⟨v', lo', hi'⟩ : Nd) = ⟨v, lo, hi⟩
        · have hR := Lib.hid (hyes.out e)
          rw [e] at hmem
          have hid : Hid (addN ns2 ⟨v, lo, hi⟩ = (ns2, (q : Int) + 2)) := by
            unfold Hid addN
            rw [if_pos hmem.out]
            have := hR.out
            unfold idxN at this
            rw [if_pos hmem.out] at this
            rw [this]
          cases e
          have hq2 : IntKind.i64.wrap ((q : Int) + 2) = (q : Int) + 2 := IntWalk.i64_in _ (by omega)
          clear hyes hno HD hmem hR
          go_wp2_with fail
          refine wp_region_quiet_below (by kernel_rfl) (by kernel_rfl) ?_
          repeat (any_goals (go_big_quiet_step (fail)))
          refine wpQuiet_nil ?_
          rintro w3 ⟨p, rfl⟩
          have HS4 := Lib.hid (HS.out.grow (below_regrown _ p.d p.os)).tail
          clear HS k0 k1 k2 d0 d1 d2
          go_wp2_with fail
          go_ret2
          exact ⟨_, _, by rw [hP2.out, hid.out]; rfl, by rw [hP2.out, hid.out]; exact HS4.out⟩
        · have hD := Lib.hid (hno.out e)
          have hcase : (¬ (v : Int) = v') ∨ ((v : Int) = v' ∧ ¬ lo = lo') ∨ ((v : Int) = v' ∧ lo = lo' ∧ ¬ hi = hi') := by
            by_cases h1 : (v : Int) = v'
            · by_cases h2 : lo = lo'
              · exact .inr (.inr ⟨h1, h2, fun h3 => e (by rw [h1, h2, h3])⟩)
              · exact .inr (.inl ⟨h1, h2⟩)
            · exact .inl h1
          clear hyes hno HD e hmem
          rcases hcase with hne | ⟨rfl, hne⟩ | ⟨rfl, rfl, hne⟩
          all_goals
            have hne2 : ¬ (_ : Int) = _ := fun h => hne (Eq.symm h)
            go_wp2_with fail
            refine wp_region_quiet_below (by kernel_rfl) (by kernel_rfl) ?_
            repeat (any_goals (go_big_quiet_step (fail)))
            refine wpQuiet_nil ?_
            rintro w3 ⟨p, rfl⟩
            have HS4 := Lib.hid (HS.out.grow (below_regrown _ p.d p.os))
            clear HS k0 k1 k2 d0 d1 d2
            go_wp2_with fail
            go_roundw
            case rel => exact ⟨q + 1, by omega, by go_num, hD, HS4⟩
            case measure => simp [intOf]; omega
      · obtain rfl : q = ns2.length := by omega
        have hnin : (⟨v, lo, hi⟩ : Nd) ∉ ns2 := by have := HD.out; rwa [List.take_length] at this
        have hid : Hid (addN ns2 ⟨v, lo, hi⟩ = (ns2 ++ [⟨v, lo, hi⟩], ((ns2.length : Nat) : Int) + 2)) := by unfold Hid addN; rw [if_neg hnin]
        clear HD hnin
        obtain ⟨i0, hi0, hz0, hz1, hz2⟩ := info_parts infoNd
        have d0 := HS.out.cell (i := 0) rfl (o := 0) rfl
        have d1 := HS.out.cell (i := 0) rfl (o := 1) rfl
        have d2 := HS.out.cell (i := 0) rfl (o := 2) rfl
        have hlw : IntKind.i64.wrap ((ns2.length : Int) + 2) = (ns2.length : Int) + 2 := IntWalk.i64_in _ (by omega)
        have S5 := HS.out.alloc_box #[.int .i64 v, .int .i64 lo, .int .i64 hi] 71
        have hsrc := Src.three (S5.cell (i := 0) rfl (o := 0) rfl) (S5.cell (i := 0) rfl (o := 1) rfl) (S5.cell (i := 0) rfl (o := 2) rfl)
        replace S5 := Lib.hid S5
        clear HS
        go_wp2_with (at_builtin; refine wpList_append_src rfl _ _ rfl Tryz.underlying24 hi0 hz0 hz1 hz2 rfl (by decide) _ ns2.length _ rfl (S5.out.own (i := 2) rfl) _ 1 1 [.int .i64 v, .int .i64 lo, .int .i64 hi] rfl hsrc (by simp [Value.oneCell']) ?c3 ?c4 ?_)
        case c3 => unfold maxLen; omega
        case c4 => omega
        intro vY wY hownY hgY hatY
        have S6 := (S5.out.own_push (i := 2) rfl (bb _) hownY hgY (by simpa using hatY)).tail.tail
        obtain ⟨aY, cY, rfl⟩ := own_slice hownY
        replace S6 := Lib.hid S6
        clear S5 hsrc hownY hgY hatY d0 d1 d2
        go_wp2_with fail
        go_ret2
        refine ⟨aY, cY, by rw [hP2.out, hid.out, List.length_append]; rfl, ?_⟩
        rw [hP2.out, hid.out]
        unfold PlanS
        rw [List.length_append, List.flatMap_append]
        exact S6.out
end Go.Proofs.YtbemodacpimiiaaGreat

/- Contracts: the reduced diagram of values, a literal that is set, in the reference. -/
namespace Go.Proofs.YtbemodacpimiiaaGreat
open Go.RowKit

set_option maxRecDepth 100000 in
set_option maxHeartbeats 4000000 in
theorem l26OfS_any (n : Nat) (hn : n ≤ 6) (f : Nat → Bool) (A : Option Addr) (c : Nat) (w : World) (hx : BlAt w A (2 ^ n) f) :
    Calls Tryz.prog 45 #[.int .i64 n, .slice A (2 ^ n) c] w fun e w' => ∃ B k, e = .returned (dgV (dgR n f) (.slice B (dgN n f).length k)) ∧ Sp w w' [Own 71 3 (.slice B (dgN n f).length k) (dgN n f).length ((dgN n f).flatMap ndEnc)] := by
  have HS0 := Lib.hid ((Sp.start w).alloc_box #[.int .i64 0, .slice none 0 0] 26)
  have hx0 := hx.grow (bal (bb w) (.cells #[.int .i64 0, .slice none 0 0] 26))
  have S0 := (Sp.start (w.alloc (.cells #[.int .i64 0, .slice none 0 0] 26))).own_made 71 3
  simp only [World.size_alloc] at S0
  have hm := dg_made n f
  have hok := Lib.hid (nd_small hm.ok (by omega) (by have := dg_len f hn; omega))
  have hcall := Lib.hid (plan_any (c := c) hn hx0 n 1 0 [] _ _ (by omega) (by omega) (by decide) (fun i hi => by simp at hi) (by have : 2 ^ n ≤ 2 ^ 6 := Nat.pow_le_pow_right (by decide) hn; simp; omega) S0)
  have e1 : (planF f n 1 0 []).2 = dgR n f := rfl
  have e2 : (planF f n 1 0 []).1 = dgN n f := rfl
  rw [e1, e2] at hcall
  clear e1 e2 hm S0 hx hx0
  generalize dgR n f = r at *
  generalize dgN n f = ns at *
  generalize 2 ^ n = N at *
  go_enter Tryz.func45, Tryz.ntmps45
  go_wp2_with fail
  refine hcall.out.mono ?_
  rintro e w1 ⟨B, k, rfl, HS⟩
  have HS1 : Sp w w1 [Own 71 3 (.slice B ns.length k) ns.length (ns.flatMap ndEnc), Box w.heap.size 26 #[.int .i64 0, .slice none 0 0]] := HS0.out.seq HS
  have r0 := HS1.cell (i := 1) rfl (o := 0) rfl
  have r1 := HS1.cell (i := 1) rfl (o := 1) rfl
  have f0 := HS1.frozen (i := 1) rfl 0
  have f1 := HS1.frozen (i := 1) rfl 1
  have S2 := (HS1.store (i := 1) rfl 0 (.int .i64 r)).store (i := 1) rfl 1 (.slice B ns.length k)
  have j0 := S2.cell (i := 1) rfl (o := 0) rfl
  have j1 := S2.cell (i := 1) rfl (o := 1) rfl
  have S3 := Lib.hid S2.swap.tail
  clear S2 hok hcall HS HS0 HS1
  go_wp2_with fail
  exact bodyPost_ret (v := .agg #[.int .i64 r, .slice B ns.length k]) (by simp [results, Tryz.results45, go_sem, j0, j1]) rfl ⟨B, k, rfl, S3.out⟩
theorem l26Of_any (n : Nat) (hn : n ≤ 6) (f : Nat → Bool) (A : Option Addr) (c : Nat) (w : World) (hx : BlAt w A (2 ^ n) f) :
    Calls Tryz.prog 45 #[.int .i64 n, .slice A (2 ^ n) c] w fun e w' => ∃ v, e = .returned (dgV (dgR n f) v) ∧ DgPost w (dgN n f) v w' := by
  have hm := dg_made n f
  have hok := nd_small hm.ok (by omega) (by have := dg_len f hn; omega)
  refine (l26OfS_any n hn f A c w hx).mono ?_
  rintro e w' ⟨B, k, rfl, S⟩
  obtain ⟨A', c', e1, hN⟩ := nd_own (S.own (i := 0) rfl) hok
  cases e1
  exact ⟨_, rfl, _, _, rfl, hN, own_from (S.owns_end (i := 0) rfl), S.below⟩

/- left out: the seat has no spec.SetInDiagram -/
end Go.Proofs.YtbemodacpimiiaaGreat

/- Contracts: and, or, forget of diagrams, in the reference. -/
namespace Go.Proofs.YtbemodacpimiiaaGreat
open Go.RowKit

def opB (q x y : Bool) : Bool := if q then x && y else x || y
def upto (k : Nat) (g f : Nat → Bool) (j : Nat) : Bool := if j < k then g j else f j
theorem upto_zero (N : Nat) (g f : Nat → Bool) : blV N (upto 0 g f) = blV N f := blV_congr fun j _ => by simp [upto]
theorem upto_all (N : Nat) (g f : Nat → Bool) : blV N (upto N g f) = blV N g := blV_congr fun j hj => by simp [upto, hj]
theorem upto_set (N k : Nat) (g f : Nat → Bool) : (blV N (upto k g f)).set k (.bool (g k)) = blV N (upto (k + 1) g f) := by
  rw [blV_set]
  refine blV_congr fun j _ => ?_
  unfold upto
  by_cases h : j = k
  · subst h; simp
  · rw [if_neg h]
    by_cases h2 : j < k
    · rw [if_pos h2, if_pos (by omega)]
    · rw [if_neg h2, if_neg (by omega)]
theorem upto_at (k : Nat) (g f : Nat → Bool) : upto k g f k = f k := by simp [upto]

/- left out: the seat has no spec.l26Two -/
end Go.Proofs.YtbemodacpimiiaaGreat

/- Contracts: and, or, forget of diagrams, in the reference; the comparison. -/
namespace Go.Proofs.YtbemodacpimiiaaGreat
open Go.RowKit

/- left out: the seat has no spec.AndDiagrams -/

/- left out: the seat has no spec.OrDiagrams -/

/- left out: the seat has no spec.ForgetInDiagram -/

set_option maxRecDepth 100000 in
set_option maxHeartbeats 4000000 in
/-- The same diagram twice is the same. -/
theorem vDiagram_same (r : Int) (A A' : Option Addr) (c c' : Nat) (ns : List Nd) (w : World) (hx : NdAt w A ns) (hy : NdAt w A' ns) (hl : ns.length ≤ 1000000) :
    Calls Tryz.prog 10 #[dgV r (.slice A ns.length c), dgV r (.slice A' ns.length c')] w fun e w' => e = .returned (.bool true) ∧ Below w.heap.size w w' := by
  have S0 := ((Sp.start w).alloc_box #[.int .i64 r, .slice A ns.length c] 26).alloc_box #[.int .i64 r, .slice A' ns.length c'] 26
  simp only [World.size_alloc] at S0
  replace S0 := Lib.hid S0
  have hN := Lib.hid hx
  have hM := Lib.hid hy
  clear hx hy
  go_enter Tryz.func10, Tryz.ntmps10
  go_wp2_with fail
  go_loopw [5] (fun i wr => ∃ k : Nat, k ≤ ns.length ∧ i = .int .i64 k ∧ Hid (Sp w wr [Box (w.heap.size + 1) 26 #[.int .i64 r, .slice A' ns.length c'], Box w.heap.size 26 #[.int .i64 r, .slice A ns.length c]])) (fun i _ => ns.length - (intOf i).toNat)
  case atStart => exact ⟨0, Nat.zero_le _, rfl, S0⟩
  case round =>
    obtain ⟨k, hk, rfl, HS⟩ := hrel
    clear S0
    by_cases hlt : k < ns.length
    · obtain ⟨b, off, rfl, m0, m1, m2⟩ := (hN.out.grow HS.out.below).at_ k hlt
      obtain ⟨b', off', rfl, p0, p1, p2⟩ := (hM.out.grow HS.out.below).at_ k hlt
      have c0 := HS.out.cell (i := 1) rfl (o := 1) rfl
      have d0 := HS.out.cell (i := 0) rfl (o := 1) rfl
      have k0 := cell_regrown m0
      have k1 := cell_regrown m1
      have k2 := cell_regrown m2
      have q0 := cell_regrown p0
      have q1 := cell_regrown p1
      have q2 := cell_regrown p2
      have a0 := cell_regrown c0
      have a1 := cell_regrown d0
      generalize ns[k].v = v at *
      generalize ns[k].lo = lo at *
      generalize ns[k].hi = hi at *
      have hst := nd_held
      have hgu := nd_guard
      clear m0 m1 m2 p0 p1 p2
      go_wp2_with fail
      refine wp_region_quiet_below (by kernel_rfl) (by kernel_rfl) ?_
      repeat (any_goals (go_big_quiet_step (fail)))
      refine wpQuiet_nil ?_
      rintro w3 ⟨p, rfl⟩
      have HS4 := Lib.hid (HS.out.grow (below_regrown _ p.d p.os))
      clear HS k0 k1 k2 q0 q1 q2 a0 a1 c0 d0
      go_wp2_with fail
      go_roundw
      case rel => exact ⟨k + 1, by omega, by go_num, HS4⟩
      case measure => simp [intOf]; omega
    · obtain rfl : k = ns.length := by omega
      have c0 := HS.out.cell (i := 1) rfl (o := 1) rfl
      have hB := HS.out.below
      go_wp2_with fail
      go_ret
      exact ⟨rfl, hB⟩
end Go.Proofs.YtbemodacpimiiaaGreat

/- Contracts: diagrams compared, on both sides. Printed by gen_same.py. -/
namespace Go.Proofs.YtbemodacpimiiaaGreat
open Go.RowKit

theorem take_same {α : Type} {xs ys : List α} {k : Nat} (h1 : k < xs.length) (h2 : k < ys.length) (h : xs.take k = ys.take k) (e : xs[k] = ys[k]) : xs.take (k + 1) = ys.take (k + 1) := by
  rw [List.take_succ_eq_append_getElem h1, List.take_succ_eq_append_getElem h2, h, e]
theorem take_diff {α : Type} {xs ys : List α} {k : Nat} (h1 : k < xs.length) (h2 : k < ys.length) (e : xs[k] ≠ ys[k]) : xs ≠ ys := fun h => e (by subst h; rfl)
theorem nd_split {v lo hi v' lo' hi' : Int} (e : (⟨v, lo, hi⟩ : Nd) ≠ ⟨v', lo', hi'⟩) : (¬ v = v') ∨ (v = v' ∧ ¬ lo = lo') ∨ (v = v' ∧ lo = lo' ∧ ¬ hi = hi') := by
  by_cases h1 : v = v'
  · by_cases h2 : lo = lo'
    · exact .inr (.inr ⟨h1, h2, fun h3 => e (by rw [h1, h2, h3])⟩)
    · exact .inr (.inl ⟨h1, h2⟩)
  · exact .inl h1
set_option maxRecDepth 100000 in
set_option maxHeartbeats 4000000 in
theorem eqNd_any (A A' : Option Addr) (c c' : Nat) (ns ms : List Nd) (w : World) (hx : NdAt w A ns) (hy : NdAt w A' ms) (hl : ns.length ≤ 1000000) (hl' : ms.length ≤ 1000000) :
    Calls Tryz.prog 105 #[.slice A ns.length c, .slice A' ms.length c'] w fun e w' => e = .returned (.bool (decide (ns = ms))) ∧ Below w.heap.size w w' := by
  have hN := Lib.hid hx
  have hM := Lib.hid hy
  clear hx hy
  by_cases hl3 : ns.length = ms.length
  case neg =>
    have hR : Hid (decide (ns = ms) = false) := by unfold Hid; exact decide_eq_false fun h => hl3 (by rw [h])
    have hl4 : ¬ (ns.length : Int) = ms.length := by omega
    go_enter Tryz.func105, Tryz.ntmps105
    go_wp2_with fail
    go_ret
    exact ⟨ret_bool hR.out.symm, bb _⟩
  have hB0 := Lib.hid (bb w)
  rw [hl3]
  replace hl3 := Lib.hid hl3
  go_enter Tryz.func105, Tryz.ntmps105
  go_wp2_with fail
  go_loopw [13] (fun i wr => ∃ k : Nat, k ≤ ms.length ∧ i = .int .i64 k ∧ Hid (ns.take k = ms.take k) ∧ Hid (Below w.heap.size w wr)) (fun i _ => ms.length - (intOf i).toNat)
  case atStart => exact ⟨0, Nat.zero_le _, rfl, rfl, hB0⟩
  case round =>
    obtain ⟨k, hk, rfl, HD, HS⟩ := hrel
    clear hB0
    by_cases hlt2 : k < ms.length
    · have hlt : k < ns.length := by have := hl3.out; omega
      obtain ⟨b, off, rfl, m0, m1, m2⟩ := (hN.out.grow HS.out).at_ k hlt
      obtain ⟨b', off', rfl, p0, p1, p2⟩ := (hM.out.grow HS.out).at_ k hlt2
      have k0 := cell_regrown m0
      have k1 := cell_regrown m1
      have k2 := cell_regrown m2
      have q0 := cell_regrown p0
      have q1 := cell_regrown p1
      have q2 := cell_regrown p2

      have hyes := Lib.hid (take_same hlt hlt2 HD.out)
      have hno := Lib.hid (take_diff hlt hlt2)
      generalize ns[k] = x at *
      generalize ms[k] = y at *
      obtain ⟨v, lo, hi⟩ := x
      obtain ⟨v', lo', hi'⟩ := y
      dsimp only at *
      clear m0 m1 m2 p0 p1 p2
      have hst := nd_held
      have hgu := nd_guard
      by_cases e : (⟨v, lo, hi⟩ : Nd) = ⟨v', lo', hi'⟩
      · have hD := Lib.hid (hyes.out e)
        cases e
        clear hyes hno HD hlt
        go_wp2_with fail
        refine wp_region_quiet_below (by kernel_rfl) (by kernel_rfl) ?_
        repeat (any_goals (go_big_quiet_step (fail)))
        refine wpQuiet_nil ?_
        rintro w3 ⟨p, rfl⟩
        have HS4 := Lib.hid (btr HS.out (below_regrown _ p.d p.os))
        clear HS k0 k1 k2 q0 q1 q2
        go_wp2_with fail
        go_roundw
        case rel => exact ⟨k + 1, by omega, by go_num, hD, HS4⟩
        case measure => simp [intOf]; omega
      · have hR : Hid (decide (ns = ms) = false) := by unfold Hid; simp [hno.out e]
        have hcase := nd_split e
        clear hyes hno HD e hlt
        rcases hcase with hne | ⟨rfl, hne⟩ | ⟨rfl, rfl, hne⟩
        all_goals
          go_wp2_with fail
          refine wp_region_quiet_below (by kernel_rfl) (by kernel_rfl) ?_
          repeat (any_goals (go_big_quiet_step (fail)))
          refine wpQuiet_nil ?_
          rintro w3 ⟨p, rfl⟩
          have HS4 := Lib.hid (btr HS.out (below_regrown _ p.d p.os))
          clear HS k0 k1 k2 q0 q1 q2
          go_wp2_with fail
          go_ret
          exact ⟨ret_bool hR.out.symm, HS4.out⟩
    · obtain rfl : k = ms.length := by omega
      have he : ns = ms := by
        have := HD.out
        rw [List.take_length, ← hl3.out, List.take_length] at this
        exact this
      have hR : Hid (decide (ns = ms) = true) := by unfold Hid; simp [he]
      have hB := HS.out

      clear HD he HS
      go_wp2_with fail
      go_ret
      exact ⟨ret_bool hR.out.symm, hB⟩
theorem same_and {r r' : Int} {ns ms : List Nd} : (decide (r = r') && decide (ns = ms)) = decide (r = r' ∧ ns = ms) := by
  rw [Bool.eq_iff_iff]; simp

set_option maxRecDepth 100000 in
set_option maxHeartbeats 4000000 in
theorem sameDiagram_any (r r' : Int) (A A' : Option Addr) (c c' : Nat) (ns ms : List Nd) (w : World) (hx : NdAt w A ns) (hy : NdAt w A' ms) (hl : ns.length ≤ 1000000) (hl' : ms.length ≤ 1000000) :
    Calls Tryz.prog 49 #[dgV r (.slice A ns.length c), dgV r' (.slice A' ms.length c')] w fun e w' => e = .returned (.bool (decide (r = r' ∧ ns = ms))) ∧ Below w.heap.size w w' := by
  have S0 := ((Sp.start w).alloc_box #[.int .i64 r, .slice A ns.length c] 26).alloc_box #[.int .i64 r', .slice A' ms.length c'] 26
  simp only [World.size_alloc] at S0
  have hcall := Lib.hid (eqNd_any A A' c c' ns ms _ (hx.grow S0.below) (hy.grow S0.below) hl hl')
  have hB := S0.below
  rw [← same_and]
  clear hx hy S0
  generalize decide (ns = ms) = q at *
  by_cases e : r = r'
  · have hR : Hid ((decide (r = r') && q) = q) := by unfold Hid; simp [e]
    subst e
    go_enter Tryz.func49, Tryz.ntmps49
    go_wp2_with fail
    refine hcall.out.mono ?_
    rintro e w1 ⟨rfl, hb1⟩
    replace hB := btr hB hb1
    clear hcall hb1
    go_wp2_with fail
    go_ret
    exact ⟨ret_bool hR.out.symm, hB⟩
  · have hR : Hid ((decide (r = r') && q) = false) := by unfold Hid; simp [e]
    clear hcall
    go_enter Tryz.func49, Tryz.ntmps49
    go_wp2_with fail
    go_ret
    exact ⟨ret_bool hR.out.symm, hB⟩
set_option maxRecDepth 100000 in
set_option maxHeartbeats 4000000 in
theorem l26Same_any (r r' : Int) (A A' : Option Addr) (c c' : Nat) (ns ms : List Nd) (w : World) (hx : NdAt w A ns) (hy : NdAt w A' ms) (hl : ns.length ≤ 1000000) (hl' : ms.length ≤ 1000000) :
    Calls Tryz.prog 50 #[dgV r (.slice A ns.length c), dgV r' (.slice A' ms.length c')] w fun e w' => e = .returned (.bool (decide (r = r' ∧ ns = ms))) ∧ Below w.heap.size w w' := by
  have S0 := ((Sp.start w).alloc_box #[.int .i64 r, .slice A ns.length c] 26).alloc_box #[.int .i64 r', .slice A' ms.length c'] 26
  simp only [World.size_alloc] at S0
  replace S0 := Lib.hid S0
  have hN := Lib.hid hx
  have hM := Lib.hid hy
  rw [← same_and]
  clear hx hy
  by_cases e : r = r'
  case neg =>
    have hR : Hid ((decide (r = r') && decide (ns = ms)) = false) := by unfold Hid; simp [e]
    have hB := S0.out.below
    clear S0
    go_enter Tryz.func50, Tryz.ntmps50
    go_wp2_with fail
    go_ret
    exact ⟨ret_bool hR.out.symm, hB⟩
  have hR0 : Hid ((decide (r = r') && decide (ns = ms)) = decide (ns = ms)) := by unfold Hid; simp [e]
  subst e
  rw [hR0.out]
  clear hR0
  by_cases hl3 : ns.length = ms.length
  case neg =>
    have hR : Hid (decide (ns = ms) = false) := by unfold Hid; exact decide_eq_false fun h => hl3 (by rw [h])
    have hl4 : ¬ (ns.length : Int) = ms.length := by omega
    have hB := S0.out.below
    clear S0
    go_enter Tryz.func50, Tryz.ntmps50
    go_wp2_with fail
    go_ret
    exact ⟨ret_bool hR.out.symm, hB⟩
  rw [hl3] at S0 ⊢
  replace hl3 := Lib.hid hl3
  go_enter Tryz.func50, Tryz.ntmps50
  go_wp2_with fail
  go_loopw [5] (fun i wr => ∃ k : Nat, k ≤ ms.length ∧ i = .int .i64 k ∧ Hid (ns.take k = ms.take k) ∧ Hid (Sp w wr [Box (w.heap.size + 1) 26 #[.int .i64 r, .slice A' ms.length c'], Box w.heap.size 26 #[.int .i64 r, .slice A ms.length c]])) (fun i _ => ms.length - (intOf i).toNat)
  case atStart => exact ⟨0, Nat.zero_le _, rfl, rfl, S0⟩
  case round =>
    obtain ⟨k, hk, rfl, HD, HS⟩ := hrel
    clear S0
    by_cases hlt2 : k < ms.length
    · have hlt : k < ns.length := by have := hl3.out; omega
      obtain ⟨b, off, rfl, m0, m1, m2⟩ := (hN.out.grow HS.out.below).at_ k hlt
      obtain ⟨b', off', rfl, p0, p1, p2⟩ := (hM.out.grow HS.out.below).at_ k hlt2
      have k0 := cell_regrown m0
      have k1 := cell_regrown m1
      have k2 := cell_regrown m2
      have q0 := cell_regrown p0
      have q1 := cell_regrown p1
      have q2 := cell_regrown p2
      have c0 := HS.out.cell (i := 1) rfl (o := 1) rfl
      have d0 := HS.out.cell (i := 0) rfl (o := 1) rfl
      have a0 := cell_regrown c0
      have a1 := cell_regrown d0
      have hyes := Lib.hid (take_same hlt hlt2 HD.out)
      have hno := Lib.hid (take_diff hlt hlt2)
      generalize ns[k] = x at *
      generalize ms[k] = y at *
      obtain ⟨v, lo, hi⟩ := x
      obtain ⟨v', lo', hi'⟩ := y
      dsimp only at *
      clear m0 m1 m2 p0 p1 p2
      have hst := nd_held
      have hgu := nd_guard
      by_cases e : (⟨v, lo, hi⟩ : Nd) = ⟨v', lo', hi'⟩
      · have hD := Lib.hid (hyes.out e)
        cases e
        clear hyes hno HD hlt
        go_wp2_with fail
        refine wp_region_quiet_below (by kernel_rfl) (by kernel_rfl) ?_
        repeat (any_goals (go_big_quiet_step (fail)))
        refine wpQuiet_nil ?_
        rintro w3 ⟨p, rfl⟩
        have HS4 := Lib.hid (HS.out.grow (below_regrown _ p.d p.os))
        clear HS k0 k1 k2 q0 q1 q2
        go_wp2_with fail
        go_roundw
        case rel => exact ⟨k + 1, by omega, by go_num, hD, HS4⟩
        case measure => simp [intOf]; omega
      · have hR : Hid (decide (ns = ms) = false) := by unfold Hid; simp [hno.out e]
        have hcase := nd_split e
        clear hyes hno HD e hlt
        rcases hcase with hne | ⟨rfl, hne⟩ | ⟨rfl, rfl, hne⟩
        all_goals
          go_wp2_with fail
          refine wp_region_quiet_below (by kernel_rfl) (by kernel_rfl) ?_
          repeat (any_goals (go_big_quiet_step (fail)))
          refine wpQuiet_nil ?_
          rintro w3 ⟨p, rfl⟩
          have HS4 := Lib.hid (HS.out.grow (below_regrown _ p.d p.os))
          clear HS k0 k1 k2 q0 q1 q2
          go_wp2_with fail
          go_ret
          exact ⟨ret_bool hR.out.symm, HS4.out.below⟩
    · obtain rfl : k = ms.length := by omega
      have he : ns = ms := by
        have := HD.out
        rw [List.take_length, ← hl3.out, List.take_length] at this
        exact this
      have hR : Hid (decide (ns = ms) = true) := by unfold Hid; simp [he]
      have hB := HS.out.below
      have c0 := HS.out.cell (i := 1) rfl (o := 1) rfl
      clear HD he HS
      go_wp2_with fail
      go_ret
      exact ⟨ret_bool hR.out.symm, hB⟩

set_option maxRecDepth 100000 in
set_option maxHeartbeats 4000000 in
theorem vDiagramF_any (r r' : Int) (A A' : Option Addr) (c c' : Nat) (ns ms : List Nd) (w : World) (hx : NdAt w A ns) (hy : NdAt w A' ms) (hl : ns.length ≤ 1000000) (hl' : ms.length ≤ 1000000) :
    Calls Tryz.prog 10 #[dgV r (.slice A ns.length c), dgV r' (.slice A' ms.length c')] w fun e w' => e = .returned (.bool (decide (r = r' ∧ ns = ms))) ∧ Below w.heap.size w w' := by
  have S0 := ((Sp.start w).alloc_box #[.int .i64 r, .slice A ns.length c] 26).alloc_box #[.int .i64 r', .slice A' ms.length c'] 26
  simp only [World.size_alloc] at S0
  replace S0 := Lib.hid S0
  have hN := Lib.hid hx
  have hM := Lib.hid hy
  rw [← same_and]
  clear hx hy
  by_cases e : r = r'
  case neg =>
    have hR : Hid ((decide (r = r') && decide (ns = ms)) = false) := by unfold Hid; simp [e]
    have hB := S0.out.below
    clear S0
    go_enter Tryz.func10, Tryz.ntmps10
    go_wp2_with fail
    go_ret
    exact ⟨ret_bool hR.out.symm, hB⟩
  have hR0 : Hid ((decide (r = r') && decide (ns = ms)) = decide (ns = ms)) := by unfold Hid; simp [e]
  subst e
  rw [hR0.out]
  clear hR0
  by_cases hl3 : ns.length = ms.length
  case neg =>
    have hR : Hid (decide (ns = ms) = false) := by unfold Hid; exact decide_eq_false fun h => hl3 (by rw [h])
    have hl4 : ¬ (ns.length : Int) = ms.length := by omega
    have hB := S0.out.below
    clear S0
    go_enter Tryz.func10, Tryz.ntmps10
    go_wp2_with fail
    go_ret
    exact ⟨ret_bool hR.out.symm, hB⟩
  rw [hl3] at S0 ⊢
  replace hl3 := Lib.hid hl3
  go_enter Tryz.func10, Tryz.ntmps10
  go_wp2_with fail
  go_loopw [5] (fun i wr => ∃ k : Nat, k ≤ ms.length ∧ i = .int .i64 k ∧ Hid (ns.take k = ms.take k) ∧ Hid (Sp w wr [Box (w.heap.size + 1) 26 #[.int .i64 r, .slice A' ms.length c'], Box w.heap.size 26 #[.int .i64 r, .slice A ms.length c]])) (fun i _ => ms.length - (intOf i).toNat)
  case atStart => exact ⟨0, Nat.zero_le _, rfl, rfl, S0⟩
  case round =>
    obtain ⟨k, hk, rfl, HD, HS⟩ := hrel
    clear S0
    by_cases hlt2 : k < ms.length
    · have hlt : k < ns.length := by have := hl3.out; omega
      obtain ⟨b, off, rfl, m0, m1, m2⟩ := (hN.out.grow HS.out.below).at_ k hlt
      obtain ⟨b', off', rfl, p0, p1, p2⟩ := (hM.out.grow HS.out.below).at_ k hlt2
      have k0 := cell_regrown m0
      have k1 := cell_regrown m1
      have k2 := cell_regrown m2
      have q0 := cell_regrown p0
      have q1 := cell_regrown p1
      have q2 := cell_regrown p2
      have c0 := HS.out.cell (i := 1) rfl (o := 1) rfl
      have d0 := HS.out.cell (i := 0) rfl (o := 1) rfl
      have a0 := cell_regrown c0
      have a1 := cell_regrown d0
      have hyes := Lib.hid (take_same hlt hlt2 HD.out)
      have hno := Lib.hid (take_diff hlt hlt2)
      generalize ns[k] = x at *
      generalize ms[k] = y at *
      obtain ⟨v, lo, hi⟩ := x
      obtain ⟨v', lo', hi'⟩ := y
      dsimp only at *
      clear m0 m1 m2 p0 p1 p2
      have hst := nd_held
      have hgu := nd_guard
      by_cases e : (⟨v, lo, hi⟩ : Nd) = ⟨v', lo', hi'⟩
      · have hD := Lib.hid (hyes.out e)
        cases e
        clear hyes hno HD hlt
        go_wp2_with fail
        refine wp_region_quiet_below (by kernel_rfl) (by kernel_rfl) ?_
        repeat (any_goals (go_big_quiet_step (fail)))
        refine wpQuiet_nil ?_
        rintro w3 ⟨p, rfl⟩
        have HS4 := Lib.hid (HS.out.grow (below_regrown _ p.d p.os))
        clear HS k0 k1 k2 q0 q1 q2
        go_wp2_with fail
        go_roundw
        case rel => exact ⟨k + 1, by omega, by go_num, hD, HS4⟩
        case measure => simp [intOf]; omega
      · have hR : Hid (decide (ns = ms) = false) := by unfold Hid; simp [hno.out e]
        have hcase := nd_split e
        clear hyes hno HD e hlt
        rcases hcase with hne | ⟨rfl, hne⟩ | ⟨rfl, rfl, hne⟩
        all_goals
          go_wp2_with fail
          refine wp_region_quiet_below (by kernel_rfl) (by kernel_rfl) ?_
          repeat (any_goals (go_big_quiet_step (fail)))
          refine wpQuiet_nil ?_
          rintro w3 ⟨p, rfl⟩
          have HS4 := Lib.hid (HS.out.grow (below_regrown _ p.d p.os))
          clear HS k0 k1 k2 q0 q1 q2
          go_wp2_with fail
          go_ret
          exact ⟨ret_bool hR.out.symm, HS4.out.below⟩
    · obtain rfl : k = ms.length := by omega
      have he : ns = ms := by
        have := HD.out
        rw [List.take_length, ← hl3.out, List.take_length] at this
        exact this
      have hR : Hid (decide (ns = ms) = true) := by unfold Hid; simp [he]
      have hB := HS.out.below
      have c0 := HS.out.cell (i := 1) rfl (o := 1) rfl
      clear HD he HS
      go_wp2_with fail
      go_ret
      exact ⟨ret_bool hR.out.symm, hB⟩

end Go.Proofs.YtbemodacpimiiaaGreat

/- Contracts: the values of a Cnf, in the reference. -/
namespace Go.Proofs.YtbemodacpimiiaaGreat
open Go.RowKit

theorem mod_take {xss : List (List Int)} {j m b : Nat} (hj : j ≤ m) (h : modT (xss.take j) b = false) : modT (xss.take m) b = false := by
  cases hm : modT (xss.take m) b
  · rfl
  · unfold modT at *
    rw [List.all_eq_true] at hm
    have : (xss.take j).all (fun c => clT c b) = true := List.all_eq_true.2 fun c hc => by
      obtain ⟨i, hi, rfl⟩ := List.mem_take_iff_getElem.1 hc
      exact hm _ (List.mem_take_iff_getElem.2 ⟨i, by omega, rfl⟩)
    rw [this] at h; cases h
theorem mod_next {xss : List (List Int)} {j : Nat} (hj : j < xss.length) (b : Nat) : modT (xss.take (j + 1)) b = (modT (xss.take j) b && clT xss[j] b) := by
  unfold modT
  rw [List.take_succ_eq_append_getElem hj, List.all_append]
  simp
theorem any_tot {n b : Nat} {c : List Int} (h : ∀ l ∈ c, l ≠ 0 ∧ -(n : Int) ≤ l ∧ l ≤ n) : c.any (hasI (totB n b)) = clT c b := by
  unfold clT
  rw [Bool.eq_iff_iff, List.any_eq_true, List.any_eq_true]
  constructor
  · rintro ⟨l, hl, h2⟩
    obtain ⟨a1, a2, a3⟩ := h l hl
    exact ⟨l, hl, by rw [← has_tot a1 a2 a3]; exact h2⟩
  · rintro ⟨l, hl, h2⟩
    obtain ⟨a1, a2, a3⟩ := h l hl
    exact ⟨l, hl, by rw [has_tot a1 a2 a3]; exact h2⟩

set_option maxRecDepth 100000 in
set_option maxHeartbeats 8000000 in
theorem l26Cnf_any (n m : Nat) (hn : n ≤ 6) (xss : List (List Int)) (hc : ∀ c ∈ xss, clauseB n c = true) (hm : m ≤ xss.length) (hl : xss.length ≤ 1000) (A : Option Addr) (cap : Nat) (w : World) (hx : ClsAt w A xss) :
    Calls Tryz.prog 63 #[.agg #[.int .i64 n, .slice A xss.length cap], .int .i64 m] w fun e w' => ∃ B k, e = .returned (.slice B (2 ^ n) k) ∧ Sp w w' [Own 4 1 (.slice B (2 ^ n) k) (2 ^ n) (blV (2 ^ n) (modT (xss.take m)))] := by
  obtain ⟨hsh, hp⟩ := pow12 (v := n) (by omega)
  have hp62 : 2 ^ n < 2 ^ 62 := Nat.pow_lt_pow_right (by decide) (by omega)
  generalize 2 ^ n = N at *
  have S0 := ((Sp.start w).alloc_box #[.int .i64 n, .slice A xss.length cap] 45).own_made 4 1
  simp only [World.size_alloc] at S0
  replace S0 := Lib.hid S0
  have hN := Lib.hid hx
  have hcc := Lib.hid hc
  clear hx hc
  obtain ⟨i0, hi, hz0, hz1, hz2⟩ := info_parts infoBl
  go_enter Tryz.func63, Tryz.ntmps63
  go_wp2_with fail
  go_loopw [5, 6, 7, 8, 9] (fun vo vi _ _ _ wr => ∃ (k : Nat) (B : Option Addr) (cc : Nat), k ≤ N ∧ vi = .int .i64 k ∧ vo = .slice B k cc ∧ Hid (Sp w wr [Own 4 1 (.slice B k cc) k (blV k (modT (xss.take m))), Box w.heap.size 45 #[.int .i64 n, .slice A xss.length cap]])) (fun _ vi _ _ _ _ => N - (intOf vi).toNat)
  case atStart => exact ⟨0, _, _, Nat.zero_le _, rfl, rfl, S0⟩
  case round =>
    obtain ⟨k, B, cc, hk, rfl, rfl, HS⟩ := hrel
    clear S0
    have c0 := HS.out.cell (i := 1) rfl (o := 0) rfl
    by_cases hlt : k < N
    · have htot := Lib.hid (l3Total_any n k (by omega) (by omega) wr)
      have hok := Lib.hid (tot_ok n k (by omega))
      have hlen := Lib.hid (tot_len n k)
      have hany : Hid (∀ c ∈ xss, c.any (hasI (totB n k)) = clT c k) := fun c hc => any_tot (clause_parts (hcc.out c hc)).2.1
      have hsn := Lib.hid (blV_snoc k (modT (xss.take m)))
      generalize totB n k = a at *
      go_wp2_with fail
      refine htot.out.mono ?_
      rintro e w3 ⟨B3, k3, rfl, T3⟩
      have S3 : Hid (Sp w w3 [Own 3 1 (.slice B3 n k3) n (a.map (.int .i64)), Own 4 1 (.slice B k cc) k (blV k (modT (xss.take m))), Box w.heap.size 45 #[.int .i64 n, .slice A xss.length cap]]) := HS.out.seq T3
      clear HS htot T3 c0
      go_wp2_with fail
      go_loopw [8, 9] (fun vq vj wx => ∃ (j : Nat) (q : Bool), j ≤ m ∧ vj = .int .i64 j ∧ vq = .bool q ∧ Hid (modT (xss.take j) k = q) ∧ Hid (Sp w wx [Own 3 1 (.slice B3 n k3) n (a.map (.int .i64)), Own 4 1 (.slice B k cc) k (blV k (modT (xss.take m))), Box w.heap.size 45 #[.int .i64 n, .slice A xss.length cap]])) (fun _ vj _ => m - (intOf vj).toNat)
      case atStart => exact ⟨0, true, Nat.zero_le _, rfl, rfl, rfl, S3⟩
      case round =>
        obtain ⟨j, q, hj, rfl, rfl, hq, HS⟩ := hrel
        clear S3
        by_cases hgo : j < m ∧ q = true
        · obtain ⟨hjm, rfl⟩ := hgo
          have hjl : j < xss.length := by omega
          obtain ⟨b, off, Bc, cc2, rfl, m0, hI⟩ := (hN.out.grow HS.out.below).at_ j hjl
          have c1 := HS.out.cell (i := 2) rfl (o := 1) rfl
          have hown := HS.out.own (i := 0) rfl
          rw [← hlen.out] at hown
          obtain ⟨F, hr, _, _⟩ := own_row hown hok.out
          rw [hlen.out] at hr
          have hmem : xss[j] ∈ xss := List.getElem_mem hjl
          have hcl := clause_s (hcc.out _ hmem)
          have hval := Lib.hid (l3Value_any xss[j] a hcl.1 (by have := hcl.2; omega) Bc B3 cc2 k3 F _ hI (by rw [hlen.out]; exact Ty.row_down hr))
          rw [hlen.out] at hval
          have hnx := mod_next hjl k
          rw [hq.out, Bool.true_and] at hnx
          have ha := hany.out _ hmem
          replace hnx := Lib.hid hnx
          replace ha := Lib.hid ha
          generalize xss[j] = c at *
          clear hown hr hI hcl hmem
          go_wp2_with fail
          refine hval.out.mono ?_
          rintro e w4 ⟨⟨z, rfl, hz⟩, hb4⟩
          have S4 := Lib.hid (HS.out.grow hb4)
          obtain ⟨q2, hq2⟩ : ∃ q2, (z == 1) = q2 := ⟨_, rfl⟩
          have hq3 : Hid (modT (xss.take (j + 1)) k = q2) := by unfold Hid; rw [hnx.out, ← ha.out, ← hz, hq2]
          clear HS hval hb4 hz hnx ha hq m0 c1
          go_wp2_with fail
          go_roundw
          case rel => exact ⟨j + 1, q2, by omega, by go_num, by first | rfl | rw [hq2], hq3, S4⟩
          case measure => simp [intOf]; omega
        · have hq2 : Hid (modT (xss.take m) k = q) := by
            unfold Hid
            by_cases hjm : j < m
            · have : q = false := by cases q; rfl; exact absurd ⟨hjm, rfl⟩ hgo
              subst this
              exact mod_take (by omega) hq.out
            · obtain rfl : j = m := by omega
              exact hq.out
          rw [hq2.out] at hsn
          have S5 := HS.out.alloc_box #[.bool q] 4
          have kB := S5.cell (i := 0) rfl (o := 0) rfl
          replace S5 := Lib.hid S5
          clear HS hq
          have hcase : j < m ∧ q = false ∨ ¬ j < m := by
            by_cases hjm : j < m
            · left; exact ⟨hjm, by cases q; rfl; exact absurd ⟨hjm, rfl⟩ hgo⟩
            · exact .inr hjm
          clear hgo
          rcases hcase with ⟨hjm, rfl⟩ | hjm
          all_goals
            go_wp2_with (at_builtin; refine wpList_append_src rfl _ _ rfl Tryz.underlying66 hi hz0 hz1 hz2 rfl (by decide) _ _ _ rfl (S5.out.own (i := 2) rfl) _ 1 1 [.bool _] rfl (Src.one kB) (by simp [Value.oneCell']) ?c3 ?c4 ?_)
            case c3 => unfold maxLen; omega
            case c4 => omega
            intro vY wY hownY hgY hatY
            have S6 := (S5.out.own_push (i := 2) rfl (bb _) hownY hgY (by simpa using hatY)).tail.tail
            obtain ⟨aY, cY, rfl⟩ := own_slice hownY
            have HS3 : Hid (Sp w wY [Own 4 1 (.slice aY (k + 1) cY) (k + 1) (blV (k + 1) (modT (xss.take m))), Box w.heap.size 45 #[.int .i64 n, .slice A xss.length cap]]) := by
              unfold Hid; rw [hsn.out]; exact S6
            clear S5 S6 kB hownY hgY hatY hsn
            go_wp2_with fail
            go_roundw
            case rel => exact ⟨k + 1, aY, cY, by omega, by go_num, rfl, HS3⟩
            case measure => simp [intOf]; omega
    · obtain rfl : k = N := by omega
      go_wp2_with fail
      go_ret
      exact ⟨B, cc, rfl, HS.out.swap.tail⟩
end Go.Proofs.YtbemodacpimiiaaGreat

/- A part of the memory brought to the front. No program in sight. -/
namespace Go.Proofs.YtbemodacpimiiaaGreat
open Go.RowKit

theorem sep_bring {w : World} : ∀ {ps : List Asn} {F : List Nat} {i : Nat} {q : Asn}, sep ps w F → ps[i]? = some q → ∃ F', sep (q :: ps.eraseIdx i) w F' ∧ ∀ b ∈ F', b ∈ F
  | [], _, _, _, _, h => by simp at h
  | p :: ps, F, 0, q, h, hi => by
    simp at hi; subst hi
    exact ⟨F, h, fun _ h => h⟩
  | p :: ps, _, i + 1, q, h, hi => by
    obtain ⟨F1, F2, rfl, hd, h1, h2⟩ := h
    obtain ⟨F', ⟨F3, F4, rfl, hd', h3, h4⟩, hs⟩ := sep_bring (i := i) h2 (by simpa using hi)
    refine ⟨F3 ++ (F1 ++ F4), ⟨F3, F1 ++ F4, rfl, fun b hb hb2 => ?_, h3, F1, F4, rfl, fun b hb hb2 => hd b hb (hs b (List.mem_append.2 (.inr hb2))), h1, h4⟩, fun b hb => ?_⟩
    · rcases List.mem_append.1 hb2 with h | h
      · exact hd b h (hs b (List.mem_append.2 (.inl hb)))
      · exact hd' b hb h
    · simp only [List.mem_append] at hb ⊢
      rcases hb with h | h | h
      · exact .inr (hs b (List.mem_append.2 (.inl h)))
      · exact .inl h
      · exact .inr (hs b (List.mem_append.2 (.inr h)))
section
variable {w0 w w' : World} {ps : List Asn} {i j : Nat} {q : Asn}
/-- A part is brought to the front. -/
theorem Sp.bring (h : Sp w0 w ps) (hi : ps[i]? = some q) : Sp w0 w (q :: ps.eraseIdx i) := by
  obtain ⟨h1, F, h2, h3⟩ := h
  obtain ⟨F', h4, h5⟩ := sep_bring h2 hi
  exact ⟨h1, F', h4, fun b hb => h3 b (h5 b hb)⟩
end
/-- Parts are picked, by their places in what is left. -/
def pickQ : List Nat → List Asn → Option (List Asn)
  | [], _ => some []
  | i :: is, ps => match ps[i]? with
    | none => none
    | some q => match pickQ is (ps.eraseIdx i) with
      | none => none
      | some qs => some (q :: qs)
theorem sep_pick {w : World} : ∀ {is : List Nat} {ps qs : List Asn} {F : List Nat}, sep ps w F → pickQ is ps = some qs → ∃ F', sep qs w F' ∧ ∀ b ∈ F', b ∈ F
  | [], _, _, _, _, hq => by
    simp only [pickQ, Option.some.injEq] at hq
    subst hq
    exact ⟨[], rfl, by simp⟩
  | i :: is, ps, qs, F, h, hq => by
    unfold pickQ at hq
    cases hi : ps[i]? with
    | none => rw [hi] at hq; cases hq
    | some q =>
      rw [hi] at hq
      simp only at hq
      cases hr : pickQ is (ps.eraseIdx i) with
      | none => rw [hr] at hq; cases hq
      | some rs =>
        rw [hr] at hq
        simp only [Option.some.injEq] at hq
        subst hq
        obtain ⟨F1, ⟨F2, F3, rfl, hd, h1, h2⟩, hs⟩ := sep_bring h hi
        obtain ⟨F4, h3, h4⟩ := sep_pick h2 hr
        exact ⟨F2 ++ F4, ⟨F2, F4, rfl, fun b hb hb4 => hd b hb (h4 b hb4), h1, h3⟩, fun b hb => by
          rcases List.mem_append.1 hb with hb | hb
          · exact hs b (List.mem_append.2 (.inl hb))
          · exact hs b (List.mem_append.2 (.inr (h4 b hb)))⟩
theorem Sp.pick {w0 w : World} {ps qs : List Asn} (is : List Nat) (h : Sp w0 w ps) (hq : pickQ is ps = some qs) : Sp w0 w qs := by
  obtain ⟨h1, F, h2, h3⟩ := h
  obtain ⟨F', h4, h5⟩ := sep_pick h2 hq
  exact ⟨h1, F', h4, fun b hb => h3 b (h5 b hb)⟩
end Go.Proofs.YtbemodacpimiiaaGreat

/- Memory: own rows of diagrams, whose nodes are only read. -/
namespace Go.Proofs.YtbemodacpimiiaaGreat
open Go.RowKit

/-- A diagram with the value of its nodes. -/
structure Dk where
  r : Int
  v : Value
  ns : List Nd
abbrev Dk.d (k : Dk) : Int × List Nd := (k.r, k.ns)
def dkEnc (d : Dk) : List Value := [.int .i64 d.r, d.v]
def NdOf (w : World) (d : Dk) : Prop := ∃ A c, d.v = .slice A d.ns.length c ∧ NdAt w A d.ns
/-- Nodes that are only read, with all that they reach. -/
def NdPool (K : List Dk) : Asn where
  p w F := (∀ b ∈ F, b < w.heap.size) ∧ ∀ q ∈ K, ∃ A c, q.v = .slice A q.ns.length c ∧ NdAt w A q.ns ∧ (q.ns ≠ [] → ∀ a, A = some a → a.block ∈ F)
  lt h := h.1
  keep := by
    rintro w w' F ⟨h1, h2⟩ hk
    refine ⟨fun b hb => ?_, fun q hq => ?_⟩
    · have := hk b hb
      rw [Array.getElem?_eq_getElem (h1 b hb)] at this
      exact (Array.getElem?_eq_some_iff.1 this).1
    · obtain ⟨A, c, e, h3, h4⟩ := h2 q hq
      refine ⟨A, c, e, ?_, h4⟩
      by_cases hn : q.ns = []
      · rw [hn]; exact ⟨fun j hj => absurd hj (by simp), by simp⟩
      · exact h3.keep fun a ha => hk _ (h4 hn a ha)
theorem NdAt.lt {w : World} {A : Option Addr} {ns : List Nd} (h : NdAt w A ns) (hn : ns ≠ []) : ∃ a, A = some a ∧ a.block < w.heap.size := by
  obtain ⟨b, off, e, h1, -⟩ := h.at_ 0 (List.length_pos_iff.2 hn)
  exact ⟨_, e, World.block_lt_of_cell? _ _ h1⟩
section
variable {w0 w w' : World} {ps : List Asn} {i : Nat} {K K' : List Dk} {v : Value} {ns : List Nd} {d : Dk}
theorem Sp.ndpool_nil (h : Sp w0 w ps) : Sp w0 w (NdPool [] :: ps) := h.new (F := []) (bb _) ⟨by simp, by simp⟩ (by simp)
theorem Sp.ndpool_at (h : Sp w0 w ps) (hi : ps[i]? = some (NdPool K)) : ∀ q ∈ K, NdOf w q := fun q hq => by
  obtain ⟨F, hp, _⟩ := h.get hi
  obtain ⟨A, c, e, h1, -⟩ := hp.2 q hq
  exact ⟨A, c, e, h1⟩
theorem Sp.ndpool_add (h : Sp w0 w ps) (hi : ps[i]? = some (NdPool K)) (hp : DgPost w d.ns d.v w') (hK : ∀ q ∈ K', q = d ∨ q ∈ K) : Sp w0 w' (ps.set i (NdPool K')) := by
  obtain ⟨Fi, ⟨hp1, hp2⟩, hF, hall⟩ := h.upd hi
  obtain ⟨A, c, e, hN, hA, hb⟩ := hp
  have hsz := hb.size
  by_cases hn : d.ns = []
  · refine hall w' _ Fi (.of_below hb) ⟨fun b hm => Nat.lt_of_lt_of_le (hp1 b hm) hsz, fun q hq => ?_⟩ fun b hm => .inl hm
    rcases hK q hq with rfl | hq
    · exact ⟨A, c, e, hN, fun h => absurd hn h⟩
    · obtain ⟨A', c', e', h3, h4⟩ := hp2 q hq
      exact ⟨A', c', e', h3.grow hb, h4⟩
  · obtain ⟨a, rfl, hlt⟩ := hN.lt hn
    refine hall w' _ (a.block :: Fi) (.of_below hb) ⟨fun b hm => ?_, fun q hq => ?_⟩ fun b hm => ?_
    · rcases List.mem_cons.1 hm with rfl | hm
      · exact hlt
      · exact Nat.lt_of_lt_of_le (hp1 b hm) hsz
    · rcases hK q hq with rfl | hq
      · exact ⟨_, c, e, hN, fun _ a' ha => by cases ha; simp⟩
      · obtain ⟨A', c', e', h3, h4⟩ := hp2 q hq
        exact ⟨A', c', e', h3.grow hb, fun hn a' ha => List.mem_cons_of_mem _ (h4 hn a' ha)⟩
    · rcases List.mem_cons.1 hm with rfl | hm
      · exact .inr (hA a rfl)
      · exact .inl hm
end
/-- A row of diagrams can be read. -/
structure DgsAt (w : World) (A : Option Addr) (ds : List (Int × List Nd)) : Prop where
  at_ : ∀ j (hj : j < ds.length), ∃ b off B c, A = some ⟨b, off, none⟩ ∧ w.cell? ⟨b, off + j * 2, none⟩ = some (.int .i64 ds[j].1) ∧ w.cell? ⟨b, off + j * 2 + 1, none⟩ = some (.slice B ds[j].2.length c) ∧ NdAt w B ds[j].2
theorem DgsAt.grow {w w' : World} {A : Option Addr} {ds : List (Int × List Nd)} (h : DgsAt w A ds) (hb : Below w.heap.size w w') : DgsAt w' A ds := ⟨fun j hj => by
  obtain ⟨b, off, B, c, e, h1, h2, h3⟩ := h.at_ j hj
  have hlt := World.block_lt_of_cell? _ _ h1
  exact ⟨b, off, B, c, e, ((bcell hb).1 _ _ hlt).trans h1, ((bcell hb).1 _ _ hlt).trans h2, h3.grow hb⟩⟩
theorem DgsAt.nil (w : World) (A : Option Addr) : DgsAt w A [] := ⟨fun j hj => absurd hj (by simp)⟩
theorem dgs_own {w : World} {B : Nat} {e : TypeId} {v : Value} {ks : List Dk} (h : w.ownsRow B e 2 v ks.length (ks.flatMap dkEnc)) (hok : ∀ x ∈ ks, NdOf w x) : ∃ A c, v = .slice A ks.length c ∧ DgsAt w A (ks.map Dk.d) := by
  obtain ⟨_, ⟨rfl, h0⟩ | ⟨g, cap, cur, rfl, _, hh, _, _, hs, ht⟩⟩ := h
  · have : ks = [] := List.length_eq_zero_iff.1 h0
    subst this
    exact ⟨none, 0, rfl, DgsAt.nil _ _⟩
  · refine ⟨_, cap, rfl, ⟨fun j hj => ?_⟩⟩
    have hj2 : j < ks.length := by simpa using hj
    obtain ⟨A, c, e2, hN⟩ := hok ks[j] (List.getElem_mem hj2)
    have key : ∀ i u, i < 2 → (dkEnc ks[j])[i]? = some u → w.cell? ⟨g, 0 + j * 2 + i, none⟩ = some u := fun i u hi hu => by
      have := Nat.mul_le_mul_right 2 (show j + 1 ≤ ks.length by omega)
      rw [Nat.zero_add, hown_cell hh ht (by omega), flat_get (enc := dkEnc) (n := 2) (fun _ => rfl) ks j hj2 i hi, hu]
    refine ⟨g, 0, A, c, rfl, ?_, ?_, ?_⟩
    · have := key 0 _ (by decide) rfl
      simpa using this
    · have := key 1 _ (by decide) rfl
      rw [e2] at this
      simpa using this
    · simpa using hN
theorem Src.pair {w : World} {b : Nat} {x y : Value} (h0 : w.cell? ⟨b, 0, none⟩ = some x) (h1 : w.cell? ⟨b, 1, none⟩ = some y) : Src w (some ⟨b, 0, none⟩) 1 2 [x, y] :=
  .inr ⟨_, rfl, rfl, fun j u hj => by
    match j, hj with
    | 0, hj => simp at hj; subst hj; rw [add_none]; exact h0
    | 1, hj => simp at hj; subst hj; rw [add_none]; exact h1⟩
theorem infoDg : (Tryz.prog.info? 26).map (fun i => (i.zero, i.size, i.bytes)) = some (some (.agg #[.int .i64 0, .slice none 0 0]), 2, 32) := by kernel_rfl
/-- What a list of diagrams is while it is made: an own row, its nodes beside it. -/
abbrev DList (v : Value) (ks : List Dk) : List Asn := [Own 26 2 v ks.length (ks.flatMap dkEnc), NdPool ks]
theorem dk_flat (ks : List Dk) (d : Dk) : (ks ++ [d]).flatMap dkEnc = ks.flatMap dkEnc ++ dkEnc d := by simp
/-- The trace of a Cnf, told. -/
def trT (n : Nat) (xss : List (List Int)) (i : Nat) : Int × List Nd := (dgR n (modT (xss.take (i + 1))), dgN n (modT (xss.take (i + 1))))
def trL (n : Nat) (xss : List (List Int)) (k : Nat) : List (Int × List Nd) := (List.range k).map (trT n xss)
theorem trL_succ (n : Nat) (xss : List (List Int)) (k : Nat) : trL n xss (k + 1) = trL n xss k ++ [trT n xss k] := by simp [trL, List.range_succ]
theorem trL_len (n : Nat) (xss : List (List Int)) (k : Nat) : (trL n xss k).length = k := by simp [trL]
theorem trL_get {n : Nat} {xss : List (List Int)} {k j : Nat} (h : j < (trL n xss k).length) : (trL n xss k)[j] = trT n xss j := by simp [trL]
end Go.Proofs.YtbemodacpimiiaaGreat
