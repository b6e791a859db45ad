/- Lemmas and contracts for a law, put together out of several texts: CtD CtE DuD CtF SeC SeD CtG AsF AsG AsH AsI. -/
import Derived.Test.YtnjdmakbdhobgaaMg5
import Derived.Test.YtnjdmakbdhobgaaMg4
import Derived.Test.YtnjdmakbdhobgaaMg1
import Derived.Test.YtnjdmakbdhobgaaMg2
import Derived.Test.YtnjdmakbdhobgaaMg3
import Derived.Test.YtnjdmakbdhobgaaShelfB
/- Contracts: a Cnf is given if it is valid, on both sides. -/
namespace Go.Proofs.Ytnjdmakbdhobgaa
open Go.RowKit

def giveV (vars : Int) (xss : List (List Int)) : Int := if goodB vars xss then vars else 0
def giveL (vars : Int) (xss : List (List Int)) : List (List Int) := if goodB vars xss then xss else []
theorem give_yes {vars : Int} {xss : List (List Int)} (h : goodB vars xss = true) : giveV vars xss = vars ∧ giveL vars xss = xss := by unfold giveV giveL; rw [if_pos h, if_pos h]; exact ⟨rfl, rfl⟩
theorem give_no {vars : Int} {xss : List (List Int)} (h : goodB vars xss = false) : giveV vars xss = 0 ∧ giveL vars xss = [] := by unfold giveV giveL; rw [h]; exact ⟨rfl, rfl⟩
/-- A Cnf and whether it is told; it can be read. -/
def CnfR (w : World) (va : Int) (ys : List (List Int)) (ok : Bool) (e : Ending) (w' : World) : Prop :=
  ∃ B cc F, e = .returned (.tuple #[.agg #[.int .i64 va, .slice B ys.length cc], .bool ok]) ∧ (Ty.slice Ty.int).row false w' (.slice B ys.length cc) ys F ∧ Below w.heap.size w w'
/-- The same Cnf, or nothing. -/
def GiveP (w : World) (vars : Int) (B : Option Addr) (c : Nat) (xss : List (List Int)) (e : Ending) (w' : World) : Prop :=
  ∃ va A' n' c', e = .returned (.tuple #[.agg #[.int .i64 va, .slice A' n' c'], .bool (goodB vars xss)]) ∧ Below w.heap.size w w' ∧ (goodB vars xss = true → va = vars ∧ A' = B ∧ n' = xss.length ∧ c' = c) ∧ (goodB vars xss = false → va = 0 ∧ A' = none ∧ n' = 0 ∧ c' = 0)
theorem CnfR.of {w wF : World} {vars va : Int} {A' : Option Addr} {n' c' : Nat} {xss : List (List Int)} {B : Option Addr} {c : Nat} {cs : List Value} {t : TypeId} {ps : List Asn} (SF : Sp w wF (Rows Ty.int t (.slice B xss.length c) cs xss :: ps))
    (h1 : goodB vars xss = true → va = vars ∧ A' = B ∧ n' = xss.length ∧ c' = c) (h2 : goodB vars xss = false → va = 0 ∧ A' = none ∧ n' = 0 ∧ c' = 0) :
    CnfR w (giveV vars xss) (giveL vars xss) (goodB vars xss) (.returned (.tuple #[.agg #[.int .i64 va, .slice A' n' c'], .bool (goodB vars xss)])) wF := by
  cases hg : goodB vars xss with
  | false =>
    obtain ⟨rfl, rfl, rfl, rfl⟩ := h2 hg
    rw [(give_no hg).1, (give_no hg).2]
    exact ⟨none, 0, [], rfl, Ty.row_nil _ _ _ _ _ (by decide), SF.below⟩
  | true =>
    obtain ⟨rfl, rfl, rfl, rfl⟩ := h1 hg
    rw [(give_yes hg).1, (give_yes hg).2]
    obtain ⟨F, hr, -, -⟩ := SF.rows_done (i := 0) rfl
    exact ⟨_, _, F, rfl, Ty.row_down hr, SF.below⟩
theorem CnfR.from {w w1 : World} {va : Int} {ys : List (List Int)} {ok : Bool} {e : Ending} {w' : World} (hb : Below w.heap.size w w1) (h : CnfR w1 va ys ok e w') : CnfR w va ys ok e w' := by
  obtain ⟨B, cc, F, rfl, hr, hb2⟩ := h
  exact ⟨B, cc, F, rfl, hr, hb.trans (hb2.mono hb.size)⟩

set_option maxRecDepth 100000 in
set_option maxHeartbeats 4000000 in
theorem famCnf_any (fb : Nat) (vars : Int) (B : Option Addr) (c : Nat) (xss : List (List Int)) (F : List Nat) (W : World) (c0 : W.cell? ⟨fb, 0, none⟩ = some (.int .i64 vars)) (c1 : W.cell? ⟨fb, 1, none⟩ = some (.slice B xss.length c)) (hx : (Ty.slice Ty.int).row false W (.slice B xss.length c) xss F) :
    Calls Try.prog 21 #[.pointer (some ⟨fb, 0, none⟩)] W (GiveP W vars B c xss) := by
  unfold GiveP
  have Sa := (Sp.start W).alloc_box #[.int .i64 0, .slice none 0 0] 28
  have n0 := cell_below c0 Sa.below
  have n1 := cell_below c1 Sa.below
  have Sb := (Sa.drew).alloc_box #[.int .i64 0, .slice none 0 0] 28
  have m0 := cell_below c0 Sb.below
  have m1 := cell_below c1 Sb.below
  have S0 := (Sa.alloc_box #[.int .i64 vars, .slice B xss.length c] 28).drew
  simp only [World.size_alloc] at S0
  have hcall := Lib.hid (implIsCnf_any vars _ xss F _ (Ty.row_below hx S0.below (Ty.row_lt hx)))
  have a0 := S0.cell (i := 0) rfl (o := 0) rfl
  have a1 := S0.cell (i := 0) rfl (o := 1) rfl
  replace S0 := Lib.hid S0
  clear Sa Sb
  clear hx
  cases hg : goodB vars xss with
  | false =>
    rw [hg] at hcall
    clear hg
    go_enter Try.func21, Try.ntmps21
    go_wp2_with fail
    refine wp_region_tail_lit (S := (fun w' => w'.cell? ⟨fb, 0, none⟩ = some (.int .i64 vars) ∧ w'.cell? ⟨fb, 1, none⟩ = some (.slice B xss.length c))) 10 [false, false, false, false, false, false, false, false, false, false, false] (by kernel_rfl) (by kernel_rfl) (by kernel_rfl) ?_ ?_
    · exact ⟨n0, n1⟩
    intro hSc
    (refine walkT_take (i := 0) (v := ?_) rfl (by kernel_rfl) (by decide) (by kernel_rfl) (by kernel_rfl) (fun _ _ _ h => h) (Or.inl ⟨by rfl, ?_⟩) (by assumption) ?_; rotate_left; (focus (intro w hSw; (try dsimp only at hSw); go_simp; (try with_reducible rfl); done)); (try simp only [put_rules]))
    (refine walkT_take (i := 1) (v := ?_) rfl (by kernel_rfl) (by decide) (by kernel_rfl) (by kernel_rfl) (fun _ _ _ h => h) (Or.inl ⟨by rfl, ?_⟩) (by assumption) ?_; rotate_left; (focus (intro w hSw; (try dsimp only at hSw); go_simp; (try with_reducible rfl); done)); (try simp only [put_rules]))
    (refine walkT_take (i := 2) (v := ?_) rfl (by kernel_rfl) (by decide) (by kernel_rfl) (by kernel_rfl) (fun _ _ _ h => h) (Or.inl ⟨by rfl, ?_⟩) (by assumption) ?_; rotate_left; (focus (intro w hSw; (try dsimp only at hSw); go_simp; (try with_reducible rfl); done)); (try simp only [put_rules]))
    (refine walkT_take (i := 3) (v := ?_) rfl (by kernel_rfl) (by decide) (by kernel_rfl) (by kernel_rfl) (fun _ _ _ h => h) (Or.inl ⟨by rfl, ?_⟩) (by assumption) ?_; rotate_left; (focus (intro w hSw; (try dsimp only at hSw); go_simp; (try with_reducible rfl); done)); (try simp only [put_rules]))
    (refine walkT_take (i := 4) (v := ?_) rfl (by kernel_rfl) (by decide) (by kernel_rfl) (by kernel_rfl) (fun _ _ _ h => h) (Or.inl ⟨by rfl, ?_⟩) (by assumption) ?_; rotate_left; (focus (intro w hSw; (try dsimp only at hSw); go_simp; (try with_reducible rfl); done)); (try simp only [put_rules]))
    (refine walkT_take (i := 5) (v := ?_) rfl (by kernel_rfl) (by decide) (by kernel_rfl) (by kernel_rfl) (fun _ _ _ h => h) (Or.inl ⟨by rfl, ?_⟩) (by assumption) ?_; rotate_left; (focus (intro w hSw; (try dsimp only at hSw); go_simp; (try with_reducible rfl); done)); (try simp only [put_rules]))
    (refine walkT_take (i := 6) (v := ?_) rfl (by kernel_rfl) (by decide) (by kernel_rfl) (by kernel_rfl) (fun _ _ _ h => h) (Or.inl ⟨by rfl, ?_⟩) (by assumption) ?_; rotate_left; (focus (intro w hSw; (try dsimp only at hSw); go_simp; (try with_reducible rfl); done)); (try simp only [put_rules]))
    (refine walkT_take (i := 7) (v := ?_) rfl (by kernel_rfl) (by decide) (by kernel_rfl) (by kernel_rfl) (fun _ _ _ h => h) (Or.inl ⟨by rfl, ?_⟩) (by assumption) ?_; rotate_left; (focus (intro w hSw; (try dsimp only at hSw); go_simp; (try with_reducible rfl); done)); (try simp only [put_rules]))
    (refine walkT_take (i := 8) (v := ?_) rfl (by kernel_rfl) (by decide) (by kernel_rfl) (by kernel_rfl) (fun _ _ _ h => h) (Or.inl ⟨by rfl, ?_⟩) (by assumption) ?_; rotate_left; (focus (intro w hSw; (try dsimp only at hSw); go_simp; (try with_reducible rfl); done)); (try simp only [put_rules]))
    (refine walkT_ready (rs := [9]) (by kernel_rfl) (by simp) (by decide) ?_; refine AllT.cons rfl (fun K hK => ?_) AllT.nil)
    go_simp
    refine hK.out _ _ ⟨m0, m1⟩ (fun _ => ?_)
    clear hK hSc n0 n1 m0 m1 c0 c1
    (try simp only [put_rules])
    (refine walkT_done (by kernel_rfl) ?_)
    simp only [List.drop_succ_cons, List.drop_zero]
    go_wp2_with fail
    refine hcall.out.mono ?_
    rintro e w1 ⟨rfl, hb1⟩
    have S1 := S0.out.grow hb1
    clear hcall S0 hb1 a0 a1
    have r0 := S1.cell (i := 1) rfl (o := 0) rfl
    have r1 := S1.cell (i := 1) rfl (o := 1) rfl
    have f0 := S1.frozen (i := 1) rfl 0
    have f1 := S1.frozen (i := 1) rfl 1
    have SF := (S1.store (i := 1) rfl 0 (.int .i64 0)).store (i := 1) rfl 1 (.slice none 0 0)
    have j0 := SF.cell (i := 1) rfl (o := 0) rfl
    have j1 := SF.cell (i := 1) rfl (o := 1) rfl
    have hB := Lib.hid SF.below
    clear S1 SF
    go_wp2_with fail
    exact bodyPost_ret (v := .tuple #[.agg #[.int .i64 0, .slice none 0 0], .bool false]) (by simp [results, Try.results21, go_sem, j0, j1]) rfl ⟨0, none, 0, 0, rfl, hB.out, (fun h => by cases h), (fun _ => ⟨rfl, rfl, rfl, rfl⟩)⟩
  | true =>
    rw [hg] at hcall
    clear hg
    go_enter Try.func21, Try.ntmps21
    go_wp2_with fail
    refine wp_region_tail_lit (S := (fun w' => w'.cell? ⟨fb, 0, none⟩ = some (.int .i64 vars) ∧ w'.cell? ⟨fb, 1, none⟩ = some (.slice B xss.length c))) 10 [false, false, false, false, false, false, false, false, false, false, false] (by kernel_rfl) (by kernel_rfl) (by kernel_rfl) ?_ ?_
    · exact ⟨n0, n1⟩
    intro hSc
    (refine walkT_take (i := 0) (v := ?_) rfl (by kernel_rfl) (by decide) (by kernel_rfl) (by kernel_rfl) (fun _ _ _ h => h) (Or.inl ⟨by rfl, ?_⟩) (by assumption) ?_; rotate_left; (focus (intro w hSw; (try dsimp only at hSw); go_simp; (try with_reducible rfl); done)); (try simp only [put_rules]))
    (refine walkT_take (i := 1) (v := ?_) rfl (by kernel_rfl) (by decide) (by kernel_rfl) (by kernel_rfl) (fun _ _ _ h => h) (Or.inl ⟨by rfl, ?_⟩) (by assumption) ?_; rotate_left; (focus (intro w hSw; (try dsimp only at hSw); go_simp; (try with_reducible rfl); done)); (try simp only [put_rules]))
    (refine walkT_take (i := 2) (v := ?_) rfl (by kernel_rfl) (by decide) (by kernel_rfl) (by kernel_rfl) (fun _ _ _ h => h) (Or.inl ⟨by rfl, ?_⟩) (by assumption) ?_; rotate_left; (focus (intro w hSw; (try dsimp only at hSw); go_simp; (try with_reducible rfl); done)); (try simp only [put_rules]))
    (refine walkT_take (i := 3) (v := ?_) rfl (by kernel_rfl) (by decide) (by kernel_rfl) (by kernel_rfl) (fun _ _ _ h => h) (Or.inl ⟨by rfl, ?_⟩) (by assumption) ?_; rotate_left; (focus (intro w hSw; (try dsimp only at hSw); go_simp; (try with_reducible rfl); done)); (try simp only [put_rules]))
    (refine walkT_take (i := 4) (v := ?_) rfl (by kernel_rfl) (by decide) (by kernel_rfl) (by kernel_rfl) (fun _ _ _ h => h) (Or.inl ⟨by rfl, ?_⟩) (by assumption) ?_; rotate_left; (focus (intro w hSw; (try dsimp only at hSw); go_simp; (try with_reducible rfl); done)); (try simp only [put_rules]))
    (refine walkT_take (i := 5) (v := ?_) rfl (by kernel_rfl) (by decide) (by kernel_rfl) (by kernel_rfl) (fun _ _ _ h => h) (Or.inl ⟨by rfl, ?_⟩) (by assumption) ?_; rotate_left; (focus (intro w hSw; (try dsimp only at hSw); go_simp; (try with_reducible rfl); done)); (try simp only [put_rules]))
    (refine walkT_take (i := 6) (v := ?_) rfl (by kernel_rfl) (by decide) (by kernel_rfl) (by kernel_rfl) (fun _ _ _ h => h) (Or.inl ⟨by rfl, ?_⟩) (by assumption) ?_; rotate_left; (focus (intro w hSw; (try dsimp only at hSw); go_simp; (try with_reducible rfl); done)); (try simp only [put_rules]))
    (refine walkT_take (i := 7) (v := ?_) rfl (by kernel_rfl) (by decide) (by kernel_rfl) (by kernel_rfl) (fun _ _ _ h => h) (Or.inl ⟨by rfl, ?_⟩) (by assumption) ?_; rotate_left; (focus (intro w hSw; (try dsimp only at hSw); go_simp; (try with_reducible rfl); done)); (try simp only [put_rules]))
    (refine walkT_take (i := 8) (v := ?_) rfl (by kernel_rfl) (by decide) (by kernel_rfl) (by kernel_rfl) (fun _ _ _ h => h) (Or.inl ⟨by rfl, ?_⟩) (by assumption) ?_; rotate_left; (focus (intro w hSw; (try dsimp only at hSw); go_simp; (try with_reducible rfl); done)); (try simp only [put_rules]))
    (refine walkT_ready (rs := [9]) (by kernel_rfl) (by simp) (by decide) ?_; refine AllT.cons rfl (fun K hK => ?_) AllT.nil)
    go_simp
    refine hK.out _ _ ⟨m0, m1⟩ (fun _ => ?_)
    clear hK hSc n0 n1 m0 m1 c0 c1
    (try simp only [put_rules])
    (refine walkT_done (by kernel_rfl) ?_)
    simp only [List.drop_succ_cons, List.drop_zero]
    go_wp2_with fail
    refine hcall.out.mono ?_
    rintro e w1 ⟨rfl, hb1⟩
    have S1 := S0.out.grow hb1
    clear hcall S0 hb1 a0 a1
    have g0 := S1.cell (i := 0) rfl (o := 0) rfl
    have g1 := S1.cell (i := 0) rfl (o := 1) rfl
    have r0 := S1.cell (i := 1) rfl (o := 0) rfl
    have r1 := S1.cell (i := 1) rfl (o := 1) rfl
    have f0 := S1.frozen (i := 1) rfl 0
    have f1 := S1.frozen (i := 1) rfl 1
    have SF := (S1.store (i := 1) rfl 0 (.int .i64 vars)).store (i := 1) rfl 1 (.slice B xss.length c)
    have j0 := SF.cell (i := 1) rfl (o := 0) rfl
    have j1 := SF.cell (i := 1) rfl (o := 1) rfl
    have hB := Lib.hid SF.below
    clear S1 SF
    go_wp2_with fail
    exact bodyPost_ret (v := .tuple #[.agg #[.int .i64 vars, .slice B xss.length c], .bool true]) (by simp [results, Try.results21, go_sem, j0, j1]) rfl ⟨vars, B, xss.length, c, rfl, hB.out, (fun _ => ⟨rfl, rfl, rfl, rfl⟩), (fun h => by cases h)⟩

set_option maxRecDepth 100000 in
set_option maxHeartbeats 4000000 in
theorem l4Give_any (vars : Int) (B : Option Addr) (c : Nat) (xss : List (List Int)) (F : List Nat) (W : World) (hx : (Ty.slice Ty.int).row false W (.slice B xss.length c) xss F) :
    Calls Try.prog 26 #[.agg #[.int .i64 vars, .slice B xss.length c]] W (GiveP W vars B c xss) := by
  unfold GiveP
  have S0 := ((Sp.start W).alloc_box #[.int .i64 vars, .slice B xss.length c] 28).alloc_box #[.int .i64 0, .slice none 0 0] 28
  simp only [World.size_alloc] at S0
  have hcall := Lib.hid (l2Good_any vars _ xss F _ (Ty.row_below hx S0.below (Ty.row_lt hx)))
  have a0 := S0.cell (i := 1) rfl (o := 0) rfl
  have a1 := S0.cell (i := 1) rfl (o := 1) rfl
  replace S0 := Lib.hid S0
  clear hx
  cases hg : goodB vars xss with
  | false =>
    rw [hg] at hcall
    clear hg
    go_enter Try.func26, Try.ntmps26
    go_wp2_with fail
    refine hcall.out.mono ?_
    rintro e w1 ⟨rfl, hb1⟩
    have S1 := S0.out.grow hb1
    clear hcall S0 hb1 a0 a1
    have r0 := S1.cell (i := 0) rfl (o := 0) rfl
    have r1 := S1.cell (i := 0) rfl (o := 1) rfl
    have f0 := S1.frozen (i := 0) rfl 0
    have f1 := S1.frozen (i := 0) rfl 1
    have SF := (S1.store (i := 0) rfl 0 (.int .i64 0)).store (i := 0) rfl 1 (.slice none 0 0)
    have j0 := SF.cell (i := 0) rfl (o := 0) rfl
    have j1 := SF.cell (i := 0) rfl (o := 1) rfl
    have hB := Lib.hid SF.below
    clear S1 SF
    go_wp2_with fail
    exact bodyPost_ret (v := .tuple #[.agg #[.int .i64 0, .slice none 0 0], .bool false]) (by simp [results, Try.results26, go_sem, j0, j1]) rfl ⟨0, none, 0, 0, rfl, hB.out, (fun h => by cases h), (fun _ => ⟨rfl, rfl, rfl, rfl⟩)⟩
  | true =>
    rw [hg] at hcall
    clear hg
    go_enter Try.func26, Try.ntmps26
    go_wp2_with fail
    refine hcall.out.mono ?_
    rintro e w1 ⟨rfl, hb1⟩
    have S1 := S0.out.grow hb1
    clear hcall S0 hb1 a0 a1
    have g0 := S1.cell (i := 1) rfl (o := 0) rfl
    have g1 := S1.cell (i := 1) rfl (o := 1) rfl
    have r0 := S1.cell (i := 0) rfl (o := 0) rfl
    have r1 := S1.cell (i := 0) rfl (o := 1) rfl
    have f0 := S1.frozen (i := 0) rfl 0
    have f1 := S1.frozen (i := 0) rfl 1
    have SF := (S1.store (i := 0) rfl 0 (.int .i64 vars)).store (i := 0) rfl 1 (.slice B xss.length c)
    have j0 := SF.cell (i := 0) rfl (o := 0) rfl
    have j1 := SF.cell (i := 0) rfl (o := 1) rfl
    have hB := Lib.hid SF.below
    clear S1 SF
    go_wp2_with fail
    exact bodyPost_ret (v := .tuple #[.agg #[.int .i64 vars, .slice B xss.length c], .bool true]) (by simp [results, Try.results26, go_sem, j0, j1]) rfl ⟨vars, B, xss.length, c, rfl, hB.out, (fun _ => ⟨rfl, rfl, rfl, rfl⟩), (fun h => by cases h)⟩

set_option maxRecDepth 100000 in
set_option maxHeartbeats 4000000 in
theorem l4New_any (vars : Int) (w : World) :
    Calls Try.prog 23 #[.int .i64 vars] w fun e w' => ∃ B cc, e = .returned (.agg #[.int .i64 vars, .slice B 0 cc]) ∧ Sp w w' [Rows Ty.int 33 (.slice B 0 cc) [] []] := by
  have S0 := ((Sp.start w).alloc_box #[.int .i64 vars, .slice (some ⟨w.heap.size + 1, 0, none⟩) 0 0] 28).rows_made Ty.int 33
  simp only [World.size_alloc] at S0
  have j0 := S0.cell (i := 1) rfl (o := 0) rfl
  have j1 := S0.cell (i := 1) rfl (o := 1) rfl
  have S1 := Lib.hid (Sp.pick [0] S0 rfl)
  clear S0
  go_enter Try.func23, Try.ntmps23
  go_wp2_with fail
  exact bodyPost_ret (v := .agg #[.int .i64 vars, .slice (some ⟨w.heap.size + 1, 0, none⟩) 0 0]) (by simp [results, Try.results23, go_sem, j0, j1]) rfl ⟨_, _, rfl, S1.out⟩
end Go.Proofs.Ytnjdmakbdhobgaa

/- Plain: choices as clauses; what at most and at least have for clauses. -/
namespace Go.Proofs.Ytnjdmakbdhobgaa
open Go.RowKit

theorem clauseR_self {c : List Int} (h : GoodS c) : clauseR c = some c := by
  obtain ⟨h1, h2⟩ := clauseR_some (zs := c) h.mem (fun x hx hy => h.clash hx hy)
  rw [h1, GoodS.ext h2 h (fun x => cptL_mem)]
/-- A choice with a sign. -/
def sgC (s : Int) (c : List Int) : List Int := c.map fun x => s * x
theorem goL_mem {n d : Nat} {c : List Int} (h : c ∈ goL (n + 1) [] d 1) : ∃ l : List Nat, c = ofN l ∧ l.Pairwise (· < ·) ∧ (∀ i ∈ l, 1 ≤ i ∧ i < n + 1) ∧ l.length = d := by
  unfold goL at h
  obtain ⟨l, hl, rfl⟩ := List.mem_map.1 h
  obtain ⟨h1, h2, h3⟩ := combs_asc d 1 l hl
  exact ⟨l, by simp, h1, h2, h3⟩
theorem goL_good {n d : Nat} (hn : n ≤ 12) {s : Int} (hs : s = 1 ∨ s = -1) {c : List Int} (h : c ∈ goL (n + 1) [] d 1) : GoodS (sgC s c) ∧ c.length = d ∧ d ≤ 12 := by
  obtain ⟨l, rfl, h1, h2, h3⟩ := goL_mem h
  have hlit : ∀ i : Nat, 1 ≤ i ∧ i < n + 1 → LitS (s * (i : Int)) ∧ absV (s * (i : Int)) = (i : Int) := fun i hi => by
    have hL : LitS (s * (i : Int)) := by unfold LitS; rcases hs with rfl | rfl <;> omega
    refine ⟨hL, ?_⟩
    rw [hL.abs]
    rcases hs with rfl | rfl
    · rw [if_neg (by omega)]; omega
    · rw [if_pos (by omega)]; omega
  refine ⟨⟨?_, ?_⟩, by simp [ofN]; exact h3, ?_⟩
  · intro x hx
    obtain ⟨y, hy, rfl⟩ := List.mem_map.1 hx
    obtain ⟨i, hi, rfl⟩ := List.mem_map.1 (show y ∈ l.map (fun i : Nat => (i : Int)) from hy)
    exact (hlit i (h2 i hi)).1
  · show ((ofN l).map fun x => s * x).Pairwise AscS
    rw [List.pairwise_map, show ofN l = l.map (fun i : Nat => (i : Int)) from rfl, List.pairwise_map]
    refine List.Pairwise.imp_of_mem ?_ h1
    intro a b ha hb hab
    unfold AscS
    rw [(hlit a (h2 a ha)).2, (hlit b (h2 b hb)).2]
    omega
  · rw [← h3]
    have : l.length ≤ n := by
      have hsub : l.Nodup := h1.imp (fun h => Nat.ne_of_lt h)
      have := List.Nodup.length_le_of_subset hsub (l₂ := (List.range' 1 n)) (fun i hi => by rw [List.mem_range'_1]; have := h2 i hi; omega)
      simpa using this
    omega
theorem sgC_one (c : List Int) : sgC 1 c = c := by unfold sgC; simp
theorem sgC_neg (c : List Int) : sgC (-1) c = c.map fun x => -x := by unfold sgC; apply List.map_congr_left; intro x _; omega
/-- The choices, up to one more than the most clauses. -/
def chL (n d : Nat) : List (List Int) := capL 60 (goL (n + 1) [] d 1)
def mostL (n k : Nat) : List (List Int) := (chL n (k + 1)).map (sgC (-1))
def leastL (n k : Nat) : List (List Int) := if k = 0 then [] else chL n (n + 1 - k)
theorem chL_len (n d : Nat) : (chL n d).length ≤ 61 := capL_len _
theorem chL_good {n d : Nat} (hn : n ≤ 12) {s : Int} (hs : s = 1 ∨ s = -1) {c : List Int} (h : c ∈ chL n d) : GoodS (sgC s c) ∧ c.length = d ∧ d ≤ 12 := goL_good hn hs (capL_mem h)
theorem chL_zero (n : Nat) : chL n 0 = [[]] := by unfold chL; rw [goL_zero]; rfl
end Go.Proofs.Ytnjdmakbdhobgaa

/- Memory: rows of numbers that are only read, beside own rows of slices; contracts: a copy, negated literals. -/
namespace Go.Proofs.Ytnjdmakbdhobgaa
open Go.RowKit

/-- Rows of numbers that are only read, with all that they reach. -/
def IPool (K : List (Value × List Int)) : Asn where
  p w F := (∀ b ∈ F, b < w.heap.size) ∧ ∀ q ∈ K, ∃ A c, q.1 = .slice A q.2.length c ∧ IntsAt w A q.2 ∧ (q.2 ≠ [] → ∀ a, A = some a → a.block ∈ F)
  lt h := h.1
  keep := by
    rintro w w' F ⟨h1, h2⟩ hk
    refine ⟨fun b hb => ?_, fun q hq => ?_⟩
    · have := hk b hb
      rw [Array.getElem?_eq_getElem (h1 b hb)] at this
      exact (Array.getElem?_eq_some_iff.1 this).1
    · obtain ⟨A, c, e, h3, h4⟩ := h2 q hq
      refine ⟨A, c, e, ?_, h4⟩
      by_cases hn : q.2 = []
      · rw [hn]; exact IntsAt.nil _ _
      · exact h3.keep fun a ha => hk _ (h4 hn a ha)
def IOf (w : World) (q : Value × List Int) : Prop := ∃ A c, q.1 = .slice A q.2.length c ∧ IntsAt w A q.2
/-- Two parts are told as one. -/
theorem Sp.merge {w0 w : World} {q1 q2 q : Asn} {ps : List Asn} (h : Sp w0 w (q1 :: q2 :: ps)) (hm : ∀ F1 F2, q1.p w F1 → q2.p w F2 → q.p w (F1 ++ F2)) : Sp w0 w (q :: ps) := by
  obtain ⟨h1, G, ⟨F1, G1, rfl, d1, p1, F2, G2, rfl, d2, p2, h5⟩, h3⟩ := h
  refine ⟨h1, (F1 ++ F2) ++ G2, ⟨F1 ++ F2, G2, rfl, fun b hb hb2 => ?_, hm F1 F2 p1 p2, h5⟩, fun b hb => h3 b ?_⟩
  · rcases List.mem_append.1 hb with h | h
    · exact d1 b h (List.mem_append.2 (.inr hb2))
    · exact d2 b h hb2
  · simp only [List.mem_append] at hb ⊢
    rcases hb with (h | h) | h
    · exact .inl h
    · exact .inr (.inl h)
    · exact .inr (.inr h)
section
variable {w0 w w' : World} {ps : List Asn} {i : Nat} {K : List (Value × List Int)} {v : Value} {xs : List Int}
theorem Sp.ipool_nil (h : Sp w0 w ps) : Sp w0 w (IPool [] :: ps) := h.new (F := []) (bb _) ⟨by simp, by simp⟩ (by simp)
theorem Sp.ipool_at (h : Sp w0 w ps) (hi : ps[i]? = some (IPool K)) : ∀ q ∈ K, IOf w q := fun q hq => by
  obtain ⟨F, hp, _⟩ := h.get hi
  obtain ⟨A, c, e, h1, -⟩ := hp.2 q hq
  exact ⟨A, c, e, h1⟩
/-- An own row is let go: it is only read from now on. -/
theorem Sp.ipool_in (h : Sp w0 w (Own 3 1 v xs.length (xs.map (.int .i64)) :: IPool K :: ps)) (hI : ∀ x ∈ xs, I64 x) : Sp w0 w (IPool ((v, xs) :: K) :: ps) :=
  h.merge fun F1 F2 h1 h2 => by
    obtain ⟨rfl, ho⟩ := h1
    obtain ⟨A, c, rfl, hx⟩ := ints_own ho hI
    refine ⟨fun b hb => ?_, fun q hq => ?_⟩
    · rcases List.mem_append.1 hb with hb | hb
      · exact owns_lt ho (by simpa using hb)
      · exact h2.1 b hb
    · rcases List.mem_cons.1 hq with rfl | hq
      · exact ⟨A, c, rfl, hx, fun _ a ha => by subst ha; simp [Value.ownBlock]⟩
      · obtain ⟨A', c', e, h3, h4⟩ := h2.2 q hq
        exact ⟨A', c', e, h3, fun hn a ha => List.mem_append.2 (.inr (h4 hn a ha))⟩
theorem Sp.ipool_empty (h : Sp w0 w (IPool K :: ps)) : Sp w0 w (IPool ((.slice none 0 0, []) :: K) :: ps) := by
  obtain ⟨h1, G, ⟨F1, G1, rfl, d1, p1, h5⟩, h3⟩ := h
  refine ⟨h1, F1 ++ G1, ⟨F1, G1, rfl, d1, ⟨p1.1, fun q hq => ?_⟩, h5⟩, h3⟩
  rcases List.mem_cons.1 hq with rfl | hq
  · exact ⟨none, 0, rfl, IntsAt.nil _ _, fun hn => absurd rfl hn⟩
  · exact p1.2 q hq
end
/-- An own row of slices, told with what they hold. -/
abbrev SRow (v : Value) (ks : List (Value × List Int)) : Asn := Own 33 1 v ks.length (ks.map Prod.fst)
theorem cls_own {w : World} {B : Nat} {e : TypeId} {v : Value} {ks : List (Value × List Int)} (h : w.ownsRow B e 1 v ks.length (ks.map Prod.fst)) (hok : ∀ x ∈ ks, IOf w x) : ∃ A c, v = .slice A ks.length c ∧ ClsAt w A (ks.map Prod.snd) := by
  obtain ⟨_, ⟨rfl, h0⟩ | ⟨g, cap, cur, rfl, _, hh, _, _, hs, ht⟩⟩ := h
  · have : ks = [] := List.length_eq_zero_iff.1 h0
    subst this
    exact ⟨none, 0, rfl, ⟨fun j hj => absurd hj (by simp)⟩⟩
  · refine ⟨_, cap, rfl, ⟨fun j hj => ?_⟩⟩
    have hj2 : j < ks.length := by simpa using hj
    obtain ⟨A, c, e2, hN⟩ := hok ks[j] (List.getElem_mem hj2)
    refine ⟨g, 0, A, c, rfl, ?_, by simpa using hN⟩
    have := hown_cell hh ht (j := j) (by omega)
    rw [Nat.zero_add, this, List.getElem?_map, List.getElem?_eq_getElem hj2]
    simp [e2]

set_option maxRecDepth 100000 in
set_option maxHeartbeats 1000000 in
theorem cloneD_any (A : Option Addr) (cap : Nat) (xs : List Int) (w : World) (hx : IntsAt w A xs) (hl : xs.length ≤ 1000) :
    Calls Try.prog 67 #[.slice A xs.length cap] w fun e w' => ∃ B c, e = .returned (.slice B xs.length c) ∧ Sp w w' [Own 3 1 (.slice B xs.length c) xs.length (xs.map (.int .i64))] := by
  obtain ⟨i0, hi, hz0, hz1, hz2⟩ := info_parts infoInt
  have qT : ∀ (w : World) (a : Option Addr) (n c n' c' : Nat), (binOp .eql 33 (.slice a n c) (.slice none n' c')).run Try.prog w = .ok (.bool a.isNone) w := fun w a n c n' c' => Lib.run_eql_slice_nil w _ _ a n c n' c' Try.underlying33
  cases A with
  | none =>
    have he : xs = [] := by
      cases xs with
      | nil => rfl
      | cons x xs =>
        obtain ⟨b, off, e, -⟩ := hx.at_ 0 (by simp)
        cases e
    subst he
    go_enter Try.func67, Try.ntmps67
    go_wp2_with fail
    go_ret
    exact ⟨none, 0, rfl, (Sp.start w).own_nil _ _⟩
  | some ad =>
    have S0 := Lib.hid ((Sp.start w).own_made 3 1)
    have hsrc : Src (w.alloc (.cells #[] 3)) (some ad) xs.length 1 (xs.map (.int .i64)) := by
      rcases Nat.eq_zero_or_pos xs.length with h0 | h0
      · exact .inl ⟨h0, by rw [List.length_eq_zero_iff.1 h0]; rfl⟩
      · obtain ⟨b, off, e, -⟩ := hx.at_ 0 h0
        cases e
        exact .inr ⟨_, rfl, by simp, fun j u hj => by
          obtain ⟨hj1, hj2⟩ := List.getElem?_eq_some_iff.1 hj
          rw [add_none]
          have := (hx.grow (bal (bb w) (.cells #[] 3))).get (j := j) (by simpa using hj1)
          rw [this, ← hj2]; simp⟩
    have hone : ∀ u ∈ xs.map (Value.int .i64), u.oneCell' = true := fun u hu => by
      obtain ⟨x, _, rfl⟩ := List.mem_map.1 hu
      rfl
    replace hsrc := Lib.hid hsrc
    replace hone := Lib.hid hone
    generalize xs.map (Value.int .i64) = l at *
    generalize xs.length = m at *
    clear hx
    go_enter Try.func67, Try.ntmps67
    go_wp2_with (at_builtin; refine wpList_append_src rfl _ _ rfl Try.underlying33 hi hz0 hz1 hz2 rfl (by decide) _ _ _ rfl (S0.out.own (i := 0) rfl) (some ad) m cap l rfl hsrc.out hone.out ?c3 ?c4 ?_)
    case c3 => unfold maxLen; omega
    case c4 => omega
    intro v' w1 hown hg hat
    have S1 := S0.out.own_push (i := 0) rfl (bb _) hown hg (by simpa using hat)
    obtain ⟨a', c', rfl⟩ := owns_form hown
    replace S1 := Lib.hid S1
    clear S0 hown hg hat hsrc
    go_wp2_with fail
    go_ret
    exact ⟨a', c', rfl, S1.out⟩

/- left out: the seat has no impl.negated -/
end Go.Proofs.Ytnjdmakbdhobgaa

/- Contract: at most, in the program. -/
namespace Go.Proofs.Ytnjdmakbdhobgaa
open Go.RowKit

/-- What is asked of mustClause. -/
def MustC : Prop := ∀ (zs : List Int) (A : Option Addr) (cap : Nat) (w : World), IntsAt w A zs → (∀ x ∈ zs, LitS x) → zs.length ≤ 2000 → Calls Try.prog 39 #[.slice A zs.length cap] w (OneI w ((clauseR zs).getD []))

/- left out: the seat has no impl.AtMostCnf -/

/- left out: the seat has no impl.AtMostCnf -/
end Go.Proofs.Ytnjdmakbdhobgaa

/- Contract: the seeded Cnf, in the program. -/
namespace Go.Proofs.Ytnjdmakbdhobgaa
open Go.RowKit

/-- The clauses of a seed. -/
noncomputable def seedL (vars : Int) (wd : Nat) (s : Int) (k : Nat) : List (List Int) := (List.range k).map fun i => cptL (listS vars wd s i)
theorem seedL_succ (vars : Int) (wd : Nat) (s : Int) (k : Nat) : seedL vars wd s (k + 1) = seedL vars wd s k ++ [cptL (listS vars wd s k)] := by unfold seedL; rw [List.range_succ, List.map_append]; rfl
theorem seedL_next (vars : Int) (wd : Nat) (s : Int) (k : Nat) : seedL vars wd s (k + 1) = seedL vars wd s k ++ [cptL (nextS vars wd (stateS vars wd s k)).2] := seedL_succ vars wd s k
theorem stateS_succ (vars : Int) (wd : Nat) (s : Int) (k : Nat) : stateS vars wd s (k + 1) = (nextS vars wd (stateS vars wd s k)).1 := rfl
theorem leastM_pick {P : Nat → Prop} (h : ∃ n, P n) : ∃ M, P M ∧ leastM P = M := ⟨_, (leastM_spec h).1, rfl⟩
theorem seedL_len (vars : Int) (wd : Nat) (s : Int) (k : Nat) : (seedL vars wd s k).length = k := by simp [seedL]

/-- The drawing of a clause under way: so many rounds lead to its end. -/
def SeRel (w : World) (vars : Int) (wd : Nat) (q : Int × List Int) (cb : Nat) (ps : List Asn) (m : Nat) (v : Value) (W : World) : Prop :=
  ∃ st L D dc, v = .slice D L.length dc ∧ Runs vars wd q m (st, L) ∧ DistS vars L ∧ (0 ≤ st ∧ st < 65536) ∧ Sp w W (Own 3 1 (.slice D L.length dc) L.length (L.map (.int .i64)) :: Box cb 49 #[.int .i64 st] :: ps)

theorem has_used {vars : Int} {L : List Int} (h : DistS vars L) (hv : vars ≤ 12) (v : Int) (h1 : 1 ≤ v ∧ v ≤ vars) : hasI (varF 12 (usedB [L])) v = hasV L v := by
  rw [Bool.eq_iff_iff, hasS_iff, varF_mem, hasV_iff]
  unfold usedB
  simp only [List.any_cons, List.any_nil, Bool.or_false, List.any_eq_true, beq_iff_eq]
  constructor
  · rintro ⟨-, -, l, hl, e⟩
    exact ⟨l, hl, by rw [absV_lit (h.mem l hl).1]; omega⟩
  · rintro ⟨l, hl, e⟩
    rw [absV_lit (h.mem l hl).1] at e
    exact ⟨by omega, by omega, l, hl, by omega⟩

set_option maxRecDepth 100000 in
set_option maxHeartbeats 8000000 in
theorem seededYes_any (hmc : MustC) (vars sd : Int) (cl wd : Nat) (w : World) (hv : 1 ≤ vars ∧ vars ≤ 12) (hc : cl ≤ 60) (hw : 1 ≤ wd ∧ (wd : Int) ≤ vars) (hs : 0 ≤ sd ∧ sd ≤ 9999) :
    Calls Try.prog 6 #[.int .i64 vars, .int .i64 cl, .int .i64 wd, .int .i64 sd] w (CnfR w (giveV vars (seedL vars wd sd cl)) (giveL vars (seedL vars wd sd cl)) (goodB vars (seedL vars wd sd cl))) := by
  obtain ⟨i0, hi0, hy0, hy1, hy2⟩ := info_parts infoInt
  have h1 := Lib.hid (fun W => within_any vars 1 12 W)
  have h2 := Lib.hid (fun W => within_any cl 0 60 W)
  have h3 := Lib.hid (fun W => within_any wd 1 vars W)
  have h4 := Lib.hid (fun W => within_any sd 0 9999 W)
  rw [inB_true.2 ⟨by omega, by omega⟩] at h1 h2 h3 h4
  have S0 := ((((Sp.start w).alloc_box #[.int .i64 0, .slice none 0 0] 28).alloc_box #[.int .i64 sd] 49).alloc_box #[.int .i64 vars, .slice none 0 0] 52).rows_nil Ty.int 33
  simp only [World.size_alloc] at S0
  have hst := Lib.hid (fun k => stateS_rng (vars := vars) (w := wd) (s := sd) hv.1 (by omega) hw.2 (by omega) k)
  have hnx := Lib.hid (fun k => nextS_spec (vars := vars) (w := wd) (s := stateS vars wd sd k) hv.1 (by omega) hw.2 (hst.out k))
  have hz : stateS vars wd sd 0 = sd := rfl
  have hL0 : seedL vars wd sd 0 = [] := rfl
  have hlen := Lib.hid (seedL_len vars wd sd)
  have hsuc := Lib.hid (seedL_next vars wd sd)
  have hss := Lib.hid (stateS_succ vars wd sd)
  have S1 : Hid (Sp w _ (Rows Ty.int 33 (.slice none (seedL vars wd sd 0).length 0) [] (seedL vars wd sd 0) :: Box (w.heap.size + 1 + 1) 52 #[.int .i64 vars, .slice none (seedL vars wd sd 0).length 0] :: Box (w.heap.size + 1) 49 #[.int .i64 (stateS vars wd sd 0)] :: [Box w.heap.size 28 #[.int .i64 0, .slice none 0 0]])) := S0
  clear S0 hz hL0
  generalize stateS vars wd sd = ST at *
  generalize seedL vars wd sd = SL at *
  replace hmc := Lib.hid hmc
  go_enter Try.func6, Try.ntmps6
  go_wp2_with fail
  refine (h1.out _).mono ?_
  rintro e w1 ⟨rfl, rfl⟩
  go_wp2_with fail
  refine (h2.out _).mono ?_
  rintro e w1 ⟨rfl, rfl⟩
  go_wp2_with fail
  refine (h3.out _).mono ?_
  rintro e w1 ⟨rfl, rfl⟩
  go_wp2_with fail
  refine (h4.out _).mono ?_
  rintro e w1 ⟨rfl, rfl⟩
  clear h1 h2 h3 h4
  go_wp2_with fail
  go_loopw [42] (fun v42 wr => ∃ (i : Nat) (B' : Option Addr) (c' : Nat) (cs' : List Value), i ≤ cl ∧ v42 = .int .i64 i ∧ Hid (Sp w wr (FamP (w.heap.size + 1 + 1) vars B' c' cs' (SL i) [Box (w.heap.size + 1) 49 #[.int .i64 (ST i)], Box w.heap.size 28 #[.int .i64 0, .slice none 0 0]]))) (fun v42 _ => cl - (intOf v42).toNat)
  case atStart => exact ⟨0, none, 0, [], Nat.zero_le _, rfl, S1⟩
  case round =>
    clear S1
    obtain ⟨i, B', c', cs', hi, rfl, HS⟩ := hrel
    by_cases hlt : i < cl
    · obtain ⟨⟨m0, hR0⟩, hD0, hq1, hq2⟩ := hnx.out i
      have hsi := hsuc.out i
      have hti := hss.out i
      have hXl := hlen.out i
      have hS := hst.out i
      generalize nextS vars wd (ST i) = q at hR0 hD0 hq1 hq2 hsi hti
      generalize SL i = X at HS hsi hXl
      generalize ST i = s0 at HS hR0 hS
      replace hsi := Lib.hid hsi
      replace hti := Lib.hid hti
      have hXl2 := Lib.hid hXl
      have S2 : SeRel w vars wd q (w.heap.size + 1) (Rows Ty.int 33 (.slice B' X.length c') cs' X :: Box (w.heap.size + 1 + 1) 52 #[.int .i64 vars, .slice B' X.length c'] :: [Box w.heap.size 28 #[.int .i64 0, .slice none 0 0]]) m0 (.slice none 0 0) wr :=
        ⟨s0, [], none, 0, rfl, hR0, ⟨fun _ h => (by cases h), List.Pairwise.nil⟩, hS, Sp.pick [0, 2, 0, 0, 0] (HS.out.own_nil 3 1) rfl⟩
      replace S2 := Lib.hid S2
      clear HS hXl hR0 hD0 hq1 hq2 hS
      rename World => wo
      go_wp2_with fail
      generalize hPS : (Rows Ty.int 33 (.slice B' X.length c') cs' X :: Box (w.heap.size + 1 + 1) 52 #[.int .i64 vars, .slice B' X.length c'] :: [Box w.heap.size 28 #[.int .i64 0, .slice none 0 0]]) = PS at S2
      replace hPS := Lib.hid hPS
      go_loopw [12] (fun v12 wr => ∃ m, SeRel w vars wd q (w.heap.size + 1) PS m v12 wr) (fun v12 wr => leastM fun m => SeRel w vars wd q (w.heap.size + 1) PS m v12 wr)
      case atStart => exact ⟨m0, S2.out⟩
      case round =>
        clear S2
        obtain ⟨M, hsp, hM⟩ := leastM_pick hrel
        obtain ⟨st, L, D, dc, rfl, hR, hD, hst2, S3⟩ := hsp
        clear hrel
        replace hM := Lib.hid hM
        replace S3 := Lib.hid S3
        cases M with
        | zero =>
          obtain ⟨hl, hq⟩ := hR
          replace hl : L.length = wd := hl
          have hge : ¬ L.length < wd := by omega
          have hci := dist_clause hD (by omega)
          have hLi := S3.out.ints (i := 0) rfl (fun x hx => (hD.lit (by omega) x hx).i64)
          have hmu := fun W' (h : Below wr.heap.size wr W') => hmc.out L D dc W' (hLi.grow h) (hD.lit (by omega)) (by omega)
          rw [hci.1, Option.getD_some] at hmu
          have hPS' := hPS.out
          subst hPS'
          subst hq
          have hadd := Lib.hid (famAdd_any (w.heap.size + 1 + 1) vars B' c' cs' X [Box (w.heap.size + 1) 49 #[.int .i64 st], Box w.heap.size 28 #[.int .i64 0, .slice none 0 0]] w wr (cptL L) D L.length dc hmu (fun x hx => (hci.2.1.mem x hx).i64) (by have := hXl2.out; omega) (Sp.pick [2, 2, 1, 1] S3.out rfl))
          rw [← hsi.out] at hadd
          replace hge := Lib.hid hge
          have hge2 := decide_eq_false (p := (L.length : Int) < (wd : Int)) (by have := hge.out; omega)
          replace hl := Lib.hid hl
          clear hPS hmu hLi hci S3 hM hXl2
          go_wp2_with fail
          refine hadd.out.mono ?_
          rintro e w3 ⟨rfl, B3, c3, cs3, S4⟩
          replace S4 := Lib.hid S4
          clear hadd
          go_wp2_with fail
          go_roundw
          case rel => exact ⟨i + 1, B3, c3, cs3, by omega, by go_num, by rw [hti.out]; exact S4⟩
          case measure => simp [intOf]; omega
        | succ m =>
          obtain ⟨hl, hR⟩ := hR
          replace hl : L.length < wd := hl
          have hlt2 := hl
          have hg := gS_rng st
          have hb1 := below_any S3.out (i := 1) rfl hst2 hv
          obtain ⟨x, hx⟩ : ∃ x, gS st / 16 % vars = x := ⟨_, rfl⟩
          have hdv : drV vars st = x + 1 := by unfold drV; rw [hx]
          have hxr := drV_rng (s := st) hv.1
          rw [hdv] at hxr
          have hgg := gS_rng (gS st)
          obtain ⟨y, hy⟩ : ∃ y, gS (gS st) / 16 % 2 = y := ⟨_, rfl⟩
          have hyr : y = 0 ∨ y = 1 := by omega
          have hdl : drL vars st = if y = 1 then -(x + 1) else x + 1 := by unfold drL drN; rw [hdv, hy]; simp
          have hstep := fun h : hasV L (drV vars st) = false => hD.step hv.1 (by omega) h
          rw [hx] at hb1
          have hb2 := fun W (S : Sp w W (Own 3 1 (.slice D L.length dc) L.length (L.map (.int .i64)) :: Box (w.heap.size + 1) 49 #[.int .i64 (gS st)] :: PS)) => below_any (b := 2) S (i := 1) rfl (gS_rng st) ⟨by decide, by decide⟩
          simp only [hy] at hb2
          unfold rndS at hR
          dsimp only at hR
          rw [hdv, hdl] at hR hstep
          generalize gS st = s1 at *
          generalize gS s1 = s2 at *
          replace hb1 := Lib.hid hb1
          replace hR := Lib.hid hR
          replace hstep := Lib.hid hstep
          clear hdv hdl hx hy
          replace hb2 := Lib.hid hb2
          have hcls : Hid (∀ c ∈ [L], ClS c) := fun c hc => by rw [List.mem_singleton] at hc; subst hc; exact ⟨hD.lit (by omega), by omega⟩
          have hnat : Hid (∀ c ∈ [L], ∀ l ∈ c, l ≠ 0 ∧ l.natAbs ≤ 12) := fun c hc l hl' => by
            rw [List.mem_singleton] at hc; subst hc
            have h1 := hD.mem l hl'
            have h2 := absV_lit h1.1
            exact ⟨h1.1.1, by omega⟩
          have hhas := has_used hD hv.2 (x + 1) hxr
          have hvi : Hid (∀ z ∈ varF 12 (usedB [L]), I64 z) := fun z hz => by have := varF_mem.1 hz; unfold I64; omega
          have hvl : Hid ((varF 12 (usedB [L])).length ≤ 1000000) := Nat.le_trans (varF_len _ _) (by decide)
          have hvo := fun W A (h : ClsAt W A [L]) => varsOf_any [L] hcls 12 hnat (by simp) A 1 W h
          have hli : Hid (∀ z ∈ L, I64 z) := fun z hz => (hD.lit (by omega) z hz).i64
          generalize varF 12 (usedB [L]) = VS at *
          generalize hasV L (x + 1) = c at *
          replace hvo := Lib.hid hvo
          replace hhas := Lib.hid hhas
          replace hl := Lib.hid hl
          clear hcls hnat
          go_wp2_with fail
          refine hb1.out.mono ?_
          rintro e w5 ⟨rfl, S4⟩
          simp only [List.set_cons_succ, List.set_cons_zero] at S4
          have hb3 := Lib.hid (hb2.out _ S4)
          clear S3 S4 hb1 hb2
          rcases hyr with rfl | rfl
          · simp only [if_neg (by decide : ¬ (0 : Int) = 1)] at hR hstep
            go_wp2_with fail
            refine hb3.out.mono ?_
            rintro e w6 ⟨rfl, S5⟩
            simp only [List.set_cons_succ, List.set_cons_zero] at S5
            have S6 := S5.alloc_box #[.slice D L.length dc] 33
            have k0 := S6.cell (i := 0) rfl (o := 0) rfl
            have hL6 := S6.ints (i := 1) rfl hli.out
            have hv6 := Lib.hid (hvo.out _ (some ⟨w6.heap.size, 0, none⟩) ⟨fun j hj => by
              have e : j = 0 := by simpa using hj
              subst e
              exact ⟨_, 0, D, dc, rfl, k0, hL6⟩⟩)
            replace S6 := Lib.hid S6
            clear hb3 S5 k0 hL6 hvo
            go_wp2_with fail
            refine hv6.out.mono ?_
            rintro e w7 ⟨B7, c7, rfl, T⟩
            have S7 := S6.out.seq T
            have hco := containsIA_any VS B7 c7 (x + 1) w7 (S7.ints (i := 0) rfl hvi.out) hvl.out
            rw [hhas.out] at hco
            replace hco := Lib.hid hco
            have S8 := Lib.hid S7.tail.tail
            clear hv6 S6 T S7
            cases c
            · replace hR := Lib.hid hR.out
              replace hstep := Lib.hid (hstep.out rfl)
              go_wp2_with fail
              refine hco.out.mono ?_
              rintro e w8 ⟨rfl, rfl⟩
              clear hco
              have hR3 : Hid (Runs vars wd q m (s2, L ++ [x + 1])) := by unfold Hid; simpa using hR.out
              have hz : Hid (L.length ≤ 12) := by have := hl.out; unfold Hid; omega
              have hz2 : L.length ≤ 12 := hz.out
              have S3 := S8.out.alloc_box #[.int .i64 (x + 1)] 3
              have kB := S3.cell (i := 0) rfl (o := 0) rfl
              replace S3 := Lib.hid S3
              clear S8
              go_wp2_with (at_builtin; refine wpList_append_src rfl _ _ rfl Try.underlying33 hi0 hy0 hy1 hy2 rfl (by decide) _ _ _ rfl (S3.out.own (i := 1) rfl) _ 1 1 [.int .i64 (x + 1)] rfl (Src.one kB) (by simp [Value.oneCell']) ?c3 ?c4 ?_)
              case c3 => unfold maxLen; omega
              case c4 => omega
              intro vY wY hownY hgY hatY
              have S4 := (S3.out.own_push (i := 1) rfl (bb _) hownY hgY (by simpa using hatY)).tail
              obtain ⟨aY, cY, rfl⟩ := own_slice hownY
              have S5 := Lib.hid (ownI_snoc (d := L) (x := (x + 1)) S4)
              clear S3 S4 kB hownY hgY hatY
              have hlen : L.length + 1 = (L ++ [(x + 1)]).length := by simp
              rw [hlen]
              replace hlen := Lib.hid hlen
              have hnew : SeRel w vars wd q (w.heap.size + 1) PS m (.slice aY (L ++ [x + 1]).length cY) _ := ⟨s2, L ++ [x + 1], aY, cY, rfl, hR3.out, hstep.out, hgg, S5.out⟩
              replace hnew := Lib.hid hnew
              clear S5
              go_wp2_with fail
              go_roundw
              case rel => exact ⟨m, hnew.out⟩
              case measure => rw [hM.out]; exact Nat.lt_succ_of_le (leastM_le hnew.out)
            · go_wp2_with fail
              refine hco.out.mono ?_
              rintro e w8 ⟨rfl, rfl⟩
              have hnew : SeRel w vars wd q (w.heap.size + 1) PS m (.slice D L.length dc) w8 := ⟨s2, L, D, dc, rfl, by simpa using hR.out, hD, hgg, S8.out⟩
              replace hnew := Lib.hid hnew
              clear hco S8
              go_wp2_with fail
              go_roundw
              case rel => exact ⟨m, hnew.out⟩
              case measure => rw [hM.out]; exact Nat.lt_succ_of_le (leastM_le hnew.out)
          · simp only [if_pos] at hR hstep
            go_wp2_with fail
            refine hb3.out.mono ?_
            rintro e w6 ⟨rfl, S5⟩
            simp only [List.set_cons_succ, List.set_cons_zero] at S5
            have S6 := S5.alloc_box #[.slice D L.length dc] 33
            have k0 := S6.cell (i := 0) rfl (o := 0) rfl
            have hL6 := S6.ints (i := 1) rfl hli.out
            have hv6 := Lib.hid (hvo.out _ (some ⟨w6.heap.size, 0, none⟩) ⟨fun j hj => by
              have e : j = 0 := by simpa using hj
              subst e
              exact ⟨_, 0, D, dc, rfl, k0, hL6⟩⟩)
            replace S6 := Lib.hid S6
            clear hb3 S5 k0 hL6 hvo
            go_wp2_with fail
            refine hv6.out.mono ?_
            rintro e w7 ⟨B7, c7, rfl, T⟩
            have S7 := S6.out.seq T
            have hco := containsIA_any VS B7 c7 (x + 1) w7 (S7.ints (i := 0) rfl hvi.out) hvl.out
            rw [hhas.out] at hco
            replace hco := Lib.hid hco
            have S8 := Lib.hid S7.tail.tail
            clear hv6 S6 T S7
            cases c
            · replace hR := Lib.hid hR.out
              replace hstep := Lib.hid (hstep.out rfl)
              go_wp2_with fail
              refine hco.out.mono ?_
              rintro e w8 ⟨rfl, rfl⟩
              clear hco
              have hR3 : Hid (Runs vars wd q m (s2, L ++ [-(x + 1)])) := by unfold Hid; simpa using hR.out
              have hz : Hid (L.length ≤ 12) := by have := hl.out; unfold Hid; omega
              have hz2 : L.length ≤ 12 := hz.out
              have S3 := S8.out.alloc_box #[.int .i64 (-(x + 1))] 3
              have kB := S3.cell (i := 0) rfl (o := 0) rfl
              replace S3 := Lib.hid S3
              clear S8
              go_wp2_with (at_builtin; refine wpList_append_src rfl _ _ rfl Try.underlying33 hi0 hy0 hy1 hy2 rfl (by decide) _ _ _ rfl (S3.out.own (i := 1) rfl) _ 1 1 [.int .i64 (-(x + 1))] rfl (Src.one kB) (by simp [Value.oneCell']) ?c3 ?c4 ?_)
              case c3 => unfold maxLen; omega
              case c4 => omega
              intro vY wY hownY hgY hatY
              have S4 := (S3.out.own_push (i := 1) rfl (bb _) hownY hgY (by simpa using hatY)).tail
              obtain ⟨aY, cY, rfl⟩ := own_slice hownY
              have S5 := Lib.hid (ownI_snoc (d := L) (x := (-(x + 1))) S4)
              clear S3 S4 kB hownY hgY hatY
              have hlen : L.length + 1 = (L ++ [(-(x + 1))]).length := by simp
              rw [hlen]
              replace hlen := Lib.hid hlen
              have hnew : SeRel w vars wd q (w.heap.size + 1) PS m (.slice aY (L ++ [-(x + 1)]).length cY) _ := ⟨s2, L ++ [-(x + 1)], aY, cY, rfl, hR3.out, hstep.out, hgg, S5.out⟩
              replace hnew := Lib.hid hnew
              clear S5
              go_wp2_with fail
              go_roundw
              case rel => exact ⟨m, hnew.out⟩
              case measure => rw [hM.out]; exact Nat.lt_succ_of_le (leastM_le hnew.out)
            · go_wp2_with fail
              refine hco.out.mono ?_
              rintro e w8 ⟨rfl, rfl⟩
              have hnew : SeRel w vars wd q (w.heap.size + 1) PS m (.slice D L.length dc) w8 := ⟨s2, L, D, dc, rfl, by simpa using hR.out, hD, hgg, S8.out⟩
              replace hnew := Lib.hid hnew
              clear hco S8
              go_wp2_with fail
              go_roundw
              case rel => exact ⟨m, hnew.out⟩
              case measure => rw [hM.out]; exact Nat.lt_succ_of_le (leastM_le hnew.out)
    · obtain rfl : i = cl := by omega
      have hgl := hlen.out i
      clear hss hsuc hnx hst hmc hlen
      generalize SL i = xss at *
      have p0 := HS.out.cell (i := 1) rfl (o := 0) rfl
      have p1 := HS.out.cell (i := 1) rfl (o := 1) rfl
      obtain ⟨F, hr, -, -⟩ := HS.out.rows_done (i := 0) rfl
      have hcn := Lib.hid (famCnf_any (w.heap.size + 1 + 1) vars B' c' xss F wr p0 p1 (Ty.row_down hr))
      have HS2 := Lib.hid HS.out
      clear HS hr p0 p1
      go_wp2_with fail
      refine hcn.out.mono ?_
      rintro e w2 ⟨va, A', n', c'', rfl, hb4, h1, h2⟩
      have S5 := HS2.out.grow hb4
      replace h1 := Lib.hid h1
      replace h2 := Lib.hid h2
      have r0 := S5.cell (i := 3) rfl (o := 0) rfl
      have r1 := S5.cell (i := 3) rfl (o := 1) rfl
      have f0 := S5.frozen (i := 3) rfl 0
      have f1 := S5.frozen (i := 3) rfl 1
      have SF := (S5.store (i := 3) rfl 0 (.int .i64 va)).store (i := 3) rfl 1 (.slice A' n' c'')
      have j0 := SF.cell (i := 3) rfl (o := 0) rfl
      have j1 := SF.cell (i := 3) rfl (o := 1) rfl
      have SF2 := Lib.hid (Sp.pick [0] SF rfl)
      clear HS2 S5 SF hcn hb4
      generalize hgo : goodB vars xss = g at *
      go_wp2_with fail
      subst hgo
      exact bodyPost_ret (v := .tuple #[.agg #[.int .i64 va, .slice A' n' c''], .bool (goodB vars xss)]) (by simp [results, Try.results6, go_sem, j0, j1]) rfl (CnfR.of SF2.out h1.out h2.out)
/-- Whether a seeded Cnf is asked for as it may be. -/
def seedOk (vars cl wd sd : Int) : Bool := inB vars 1 12 && inB cl 0 60 && inB wd 1 vars && inB sd 0 9999
set_option maxRecDepth 100000 in
set_option maxHeartbeats 4000000 in
theorem seededNo_any (vars cl wd sd : Int) (w : World) (hq : seedOk vars cl wd sd = false) :
    Calls Try.prog 6 #[.int .i64 vars, .int .i64 cl, .int .i64 wd, .int .i64 sd] w (CnfR w 0 [] false) := by
  unfold seedOk at hq
  have k1 := Lib.hid (fun W => within_any vars 1 12 W)
  have k2 := Lib.hid (fun W => within_any cl 0 60 W)
  have k3 := Lib.hid (fun W => within_any wd 1 vars W)
  have k4 := Lib.hid (fun W => within_any sd 0 9999 W)
  have SF := (Sp.start w).alloc_box #[.int .i64 0, .slice none 0 0] 28
  have j0 := SF.cell (i := 0) rfl (o := 0) rfl
  have j1 := SF.cell (i := 0) rfl (o := 1) rfl
  have hB := Lib.hid SF.below
  clear SF
  generalize inB vars 1 12 = b1 at *
  generalize inB cl 0 60 = b2 at *
  generalize inB wd 1 vars = b3 at *
  generalize inB sd 0 9999 = b4 at *
  cases b1
  · clear hq
    go_enter Try.func6, Try.ntmps6
    go_wp2_with fail
    refine (k1.out _).mono ?_
    rintro e w1 ⟨rfl, rfl⟩
    go_wp2_with fail
    exact bodyPost_ret (v := .tuple #[.agg #[.int .i64 0, .slice none 0 0], .bool false]) (by simp [results, Try.results6, go_sem, j0, j1]) rfl ⟨none, 0, [], rfl, Ty.row_nil _ _ _ _ _ (by decide), hB.out⟩
  cases b2
  · clear hq
    go_enter Try.func6, Try.ntmps6
    go_wp2_with fail
    refine (k1.out _).mono ?_
    rintro e w1 ⟨rfl, rfl⟩
    go_wp2_with fail
    refine (k2.out _).mono ?_
    rintro e w1 ⟨rfl, rfl⟩
    go_wp2_with fail
    exact bodyPost_ret (v := .tuple #[.agg #[.int .i64 0, .slice none 0 0], .bool false]) (by simp [results, Try.results6, go_sem, j0, j1]) rfl ⟨none, 0, [], rfl, Ty.row_nil _ _ _ _ _ (by decide), hB.out⟩
  cases b3
  · clear hq
    go_enter Try.func6, Try.ntmps6
    go_wp2_with fail
    refine (k1.out _).mono ?_
    rintro e w1 ⟨rfl, rfl⟩
    go_wp2_with fail
    refine (k2.out _).mono ?_
    rintro e w1 ⟨rfl, rfl⟩
    go_wp2_with fail
    refine (k3.out _).mono ?_
    rintro e w1 ⟨rfl, rfl⟩
    go_wp2_with fail
    exact bodyPost_ret (v := .tuple #[.agg #[.int .i64 0, .slice none 0 0], .bool false]) (by simp [results, Try.results6, go_sem, j0, j1]) rfl ⟨none, 0, [], rfl, Ty.row_nil _ _ _ _ _ (by decide), hB.out⟩
  obtain rfl : b4 = false := by simpa using hq
  clear hq
  go_enter Try.func6, Try.ntmps6
  go_wp2_with fail
  refine (k1.out _).mono ?_
  rintro e w1 ⟨rfl, rfl⟩
  go_wp2_with fail
  refine (k2.out _).mono ?_
  rintro e w1 ⟨rfl, rfl⟩
  go_wp2_with fail
  refine (k3.out _).mono ?_
  rintro e w1 ⟨rfl, rfl⟩
  go_wp2_with fail
  refine (k4.out _).mono ?_
  rintro e w1 ⟨rfl, rfl⟩
  go_wp2_with fail
  exact bodyPost_ret (v := .tuple #[.agg #[.int .i64 0, .slice none 0 0], .bool false]) (by simp [results, Try.results6, go_sem, j0, j1]) rfl ⟨none, 0, [], rfl, Ty.row_nil _ _ _ _ _ (by decide), hB.out⟩
end Go.Proofs.Ytnjdmakbdhobgaa

/- Contract: the seeded Cnf, in the reference. -/
namespace Go.Proofs.Ytnjdmakbdhobgaa
open Go.RowKit

/-- The drawing of a clause under way in the reference. -/
def SeRel2 (w : World) (vars : Int) (wd : Nat) (q : Int × List Int) (ps : List Asn) (m : Nat) (v u : Value) (W : World) : Prop :=
  ∃ st L C D dc, v = .int .i64 st ∧ u = .slice D C.length dc ∧ Hid (C = foldJ L) ∧ Runs vars wd q m (st, L) ∧ DistS vars L ∧ (0 ≤ st ∧ st < 65536) ∧ Sp w W (Own 3 1 (.slice D C.length dc) C.length (C.map (.int .i64)) :: ps)

theorem has_fold {vars : Int} {L : List Int} (h : DistS vars L) (v : Int) (h1 : 1 ≤ v) : hasV L v = (hasI (foldJ L) v || hasI (foldJ L) (-v)) := by
  rw [Bool.eq_iff_iff, hasV_iff, Bool.or_eq_true, hasS_iff, hasS_iff, foldJ_iff, foldJ_iff]
  constructor
  · rintro ⟨l, hl, e⟩
    rw [LitS.abs (h.mem l hl).1] at e
    split at e
    · right; rw [← e]; simpa using hl
    · left; rw [← e]; exact hl
  · rintro (hl | hl)
    · exact ⟨v, hl, by rw [LitS.abs (h.mem v hl).1, if_neg (by omega)]⟩
    · exact ⟨-v, hl, by rw [LitS.abs (h.mem _ hl).1, if_pos (by omega)]; omega⟩
theorem fold_len {vars : Int} {L : List Int} (h : DistS vars L) (hm : vars ≤ 1000) : (foldJ L).length = L.length := by rw [foldJ_eq h hm, (dist_clause h hm).2.2]

set_option maxRecDepth 100000 in
set_option maxHeartbeats 8000000 in
theorem specSeededYes_any (vars sd : Int) (cl wd : Nat) (w : World) (hv : 1 ≤ vars ∧ vars ≤ 12) (hc : cl ≤ 60) (hw : 1 ≤ wd ∧ (wd : Int) ≤ vars) (hs : 0 ≤ sd ∧ sd ≤ 9999) :
    Calls Try.prog 7 #[.int .i64 vars, .int .i64 cl, .int .i64 wd, .int .i64 sd] w (CnfR w (giveV vars (seedL vars wd sd cl)) (giveL vars (seedL vars wd sd cl)) (goodB vars (seedL vars wd sd cl))) := by
  obtain ⟨i1, hi, hz0, hz1, hz2⟩ := info_parts infoRow
  have h1 := Lib.hid (fun W => l1In_any vars 1 12 W)
  have h2 := Lib.hid (fun W => l1In_any cl 0 60 W)
  have h3 := Lib.hid (fun W => l1In_any wd 1 vars W)
  have h4 := Lib.hid (fun W => l1In_any sd 0 9999 W)
  rw [inB_true.2 ⟨by omega, by omega⟩] at h1 h2 h3 h4
  have S0 := Lib.hid ((Sp.start w).alloc_box #[.int .i64 0, .slice none 0 0] 28)
  have hst := Lib.hid (fun k => stateS_rng (vars := vars) (w := wd) (s := sd) hv.1 (by omega) hw.2 (by omega) k)
  have hnx := Lib.hid (fun k => nextS_spec (vars := vars) (w := wd) (s := stateS vars wd sd k) hv.1 (by omega) hw.2 (hst.out k))
  have hlen := Lib.hid (seedL_len vars wd sd)
  have hsuc := Lib.hid (seedL_next vars wd sd)
  have hss := Lib.hid (stateS_succ vars wd sd)
  have hn := Lib.hid (fun W => l4New_any vars W)
  have hz : stateS vars wd sd 0 = sd := rfl
  have hL0 : seedL vars wd sd 0 = [] := rfl
  generalize stateS vars wd sd = ST at *
  generalize seedL vars wd sd = SL at *
  replace hz := Lib.hid hz
  replace hL0 := Lib.hid hL0
  go_enter Try.func7, Try.ntmps7
  go_wp2_with fail
  refine (h1.out _).mono ?_
  rintro e w1 ⟨rfl, rfl⟩
  go_wp2_with fail
  refine (h2.out _).mono ?_
  rintro e w1 ⟨rfl, rfl⟩
  go_wp2_with fail
  refine (h3.out _).mono ?_
  rintro e w1 ⟨rfl, rfl⟩
  go_wp2_with fail
  refine (h4.out _).mono ?_
  rintro e w1 ⟨rfl, rfl⟩
  clear h1 h2 h3 h4
  go_wp2_with fail
  refine (hn.out _).mono ?_
  rintro e w2 ⟨B0, cc0, rfl, T⟩
  have S1 := (S0.out.seq T).alloc_box #[.int .i64 vars, .slice B0 0 cc0] 28
  have S2 : Hid (Sp w (w2.alloc (.cells #[.int .i64 vars, .slice B0 0 cc0] 28)) [Box w2.heap.size 28 #[.int .i64 vars, .slice B0 (SL 0).length cc0], Rows Ty.int 33 (.slice B0 (SL 0).length cc0) [] (SL 0), Box w.heap.size 28 #[.int .i64 0, .slice none 0 0]]) := by rw [hL0.out]; exact S1
  have hsd : Hid (ST 0 = sd) := hz
  clear S0 S1 T hL0 hz hn
  obtain ⟨g, hg⟩ : ∃ g, w2.heap.size = g := ⟨_, rfl⟩
  rw [hg] at S2
  go_wp2_with fail
  clear hg
  go_loopw [11, 12] (fun v11 v12 wr => ∃ (i : Nat) (s0 : Int) (B' : Option Addr) (c' : Nat) (cs' : List Value), i ≤ cl ∧ v12 = .int .i64 i ∧ v11 = .int .i64 s0 ∧ Hid (ST i = s0) ∧ Hid (Sp w wr [Box g 28 #[.int .i64 vars, .slice B' (SL i).length c'], Rows Ty.int 33 (.slice B' (SL i).length c') cs' (SL i), Box w.heap.size 28 #[.int .i64 0, .slice none 0 0]])) (fun _ v12 _ => cl - (intOf v12).toNat)
  case atStart => exact ⟨0, sd, B0, cc0, [], Nat.zero_le _, rfl, rfl, hsd, S2⟩
  case round =>
    clear S2 hsd
    obtain ⟨i, s0, B', c', cs', hi0, rfl, rfl, hs0, HS⟩ := hrel
    by_cases hlt : i < cl
    · obtain ⟨⟨m0, hR0⟩, hD0, hq1, hq2⟩ := hnx.out i
      have hsi := hsuc.out i
      have hti := hss.out i
      have hXl := hlen.out i
      have hS := hst.out i
      rw [hs0.out] at hR0 hS hD0 hq1 hq2 hsi hti
      generalize nextS vars wd s0 = q at hR0 hD0 hq1 hq2 hsi hti
      generalize SL i = X at HS hsi hXl
      replace hsi := Lib.hid hsi
      replace hti := Lib.hid hti
      have hXl2 := Lib.hid hXl
      generalize hPS : [Box g 28 #[.int .i64 vars, .slice B' X.length c'], Rows Ty.int 33 (.slice B' X.length c') cs' X, Box w.heap.size 28 #[.int .i64 0, .slice none 0 0]] = PS at HS
      replace hPS := Lib.hid hPS
      have S2 := Lib.hid (HS.out.own_made 3 1)
      have hR1 := Lib.hid hR0
      have hS1 := Lib.hid hS
      clear HS hXl hR0 hD0 hq1 hq2 hS hs0
      rename World => wo
      go_wp2_with fail
      go_loopw [11, 13] (fun v11 v13 wr => ∃ m, SeRel2 w vars wd q PS m v11 v13 wr) (fun v11 v13 wr => leastM fun m => SeRel2 w vars wd q PS m v11 v13 wr)
      case atStart => exact ⟨m0, s0, [], [], _, 0, rfl, rfl, rfl, hR1.out, ⟨fun _ h => (by cases h), List.Pairwise.nil⟩, hS1.out, S2.out⟩
      case round =>
        clear S2 hR1 hS1
        obtain ⟨M, hsp, hM⟩ := leastM_pick hrel
        obtain ⟨st, L, C, D, dc, rfl, rfl, hC, hR, hD, hst2, S3⟩ := hsp
        clear hrel
        replace hM := Lib.hid hM
        have hcl := fold_len hD (by omega)
        rw [← hC.out] at hcl
        have hgd := foldJ_good hD (by omega)
        rw [← hC.out] at hgd
        have hCi : Hid (∀ x ∈ C, I64 x) := fun x hx => (hgd.mem x hx).i64
        replace S3 := Lib.hid S3
        cases M with
        | zero =>
          obtain ⟨hl, hq⟩ := hR
          replace hl : L.length = wd := hl
          have hge : ¬ C.length < wd := by omega
          have hge2 := decide_eq_false (p := (C.length : Int) < (wd : Int)) (by omega)
          have hPS' := hPS.out
          subst hPS'
          subst hq
          dsimp only at hsi hti
          rw [← foldJ_eq hD (by omega), ← hC.out] at hsi
          replace hsi := Lib.hid hsi
          replace hge := Lib.hid hge
          have k1 := S3.out.cell (i := 1) rfl (o := 1) rfl
          have S4 := Lib.hid (Sp.own_to_row S3.out hCi.out)
          have S5 := S4.out.alloc_box #[.slice D C.length dc] 33
          have kB := S5.cell (i := 0) rfl (o := 0) rfl
          have hrows := Lib.hid (S5.rows (i := 3) rfl)
          have hXb : X.length ≤ 60 := by have := hXl2.out; omega
          clear hPS S3 S5 hM hl hcl
          go_wp2_with (at_builtin; refine wpList_append_src rfl _ _ rfl Try.underlying26 hi hz0 hz1 hz2 rfl (by decide) _ X.length _ rfl hrows.out _ 1 1 [.slice D C.length dc] rfl (Src.one kB) (by simp [Value.oneCell']) ?c3 ?c4 ?_)
          case c3 => unfold maxLen; omega
          case c4 => omega
          intro vY wY hownY hgY hatY
          have S6 := ((S4.out.bring (i := 2) rfl).swap).rows_push (bal (bb _) _) hownY hgY (by simpa using hatY)
          obtain ⟨aY, cY, rfl⟩ := own_slice hownY
          have hl1 : X.length + 1 = (X ++ [C]).length := by simp
          rw [hl1] at S6 ⊢
          rw [← (show SL (i + 1) = X ++ [C] from hsi.out)] at S6 ⊢
          clear S4 hrows hownY hgY hatY kB k1 hl1
          have f1 := S6.frozen (i := 1) rfl 1
          have kc0 := S6.cell (i := 1) rfl (o := 0) rfl
          have kc1 := S6.cell (i := 1) rfl (o := 1) rfl
          have S7 := S6.store (i := 1) rfl 1 (.slice aY (SL (i + 1)).length cY)
          have S8 := Lib.hid (Sp.pick (qs := [Box g 28 #[.int .i64 vars, .slice aY (SL (i + 1)).length cY], Rows Ty.int 33 (.slice aY (SL (i + 1)).length cY) (cs' ++ [.slice D C.length dc]) (SL (i + 1)), Box w.heap.size 28 #[.int .i64 0, .slice none 0 0]]) [1, 0, 0] S7 rfl)
          clear S6 S7
          go_wp2_with fail
          go_roundw
          case rel => exact ⟨i + 1, st, aY, cY, _, by omega, by go_num, rfl, hti, S8⟩
          case measure => simp [intOf]; omega
        | succ m =>
          obtain ⟨hl, hR⟩ := hR
          replace hl : L.length < wd := hl
          have hlt2 : C.length < wd := by omega
          have hg0 := gS_rng st
          have hg1 := gS_rng (gS st)
          obtain ⟨x, hx⟩ : ∃ x, gS st / 16 % vars = x := ⟨_, rfl⟩
          have hdv : drV vars st = x + 1 := by unfold drV; rw [hx]
          have hxr := drV_rng (s := st) hv.1
          rw [hdv] at hxr
          obtain ⟨y, hy⟩ : ∃ y, gS (gS st) / 16 % 2 = y := ⟨_, rfl⟩
          have hyr : y = 0 ∨ y = 1 := by omega
          have hdl : drL vars st = if y = 1 then -(x + 1) else x + 1 := by unfold drL drN; rw [hdv, hy]; simp
          have hstep := fun h : hasV L (drV vars st) = false => hD.step hv.1 (by omega) h
          have e1 : (1021 * st + 12345) % 65536 = gS st := rfl
          have e2 : (1021 * gS st + 12345) % 65536 = gS (gS st) := rfl
          unfold rndS at hR
          dsimp only at hR
          rw [hdv, hdl] at hR hstep
          generalize gS st = s1 at *
          generalize gS s1 = s2 at *
          have hhf := has_fold hD (x + 1) (by omega)
          rw [← hC.out] at hhf
          obtain ⟨F5, hr5, -, -⟩ := own_row (S3.out.own (i := 0) rfl) hCi.out
          have hpu := Lib.hid (fun l => l2Put_any _ C l F5 _ (Ty.row_down hr5) (by omega))
          have hI := S3.out.ints (i := 0) rfl hCi.out
          have hh1 := l2HasI_any C D dc (x + 1) wr hI (by omega)
          have hh2 := l2HasI_any C D dc (-(x + 1)) wr hI (by omega)
          generalize hasI C (x + 1) = c1 at *
          generalize hasI C (-(x + 1)) = c2 at *
          rw [hhf] at hR hstep
          replace hh1 := Lib.hid hh1
          replace hh2 := Lib.hid hh2
          replace hR := Lib.hid hR
          replace hstep := Lib.hid hstep
          replace hl := Lib.hid hl
          have hcl2 := Lib.hid hcl
          clear hdv hdl hhf hr5 hI hcl
          rcases hyr with rfl | rfl
          · simp only [if_neg (by decide : ¬ (0 : Int) = 1)] at hR hstep
            go_wp2_with fail
            refine hh1.out.mono ?_
            rintro e w5 ⟨rfl, rfl⟩
            clear hh1
            cases c1
            · go_wp2_with fail
              refine hh2.out.mono ?_
              rintro e w5 ⟨rfl, rfl⟩
              clear hh2
              cases c2
              · have hR3 : Hid (Runs vars wd q m (s2, L ++ [x + 1])) := by unfold Hid; simpa using hR.out
                have hst3 := Lib.hid (hstep.out rfl)
                clear hR hstep
                go_wp2_with fail
                refine (hpu.out (x + 1)).mono ?_
                rintro e w6 ⟨v6, rfl, ho6, hb6⟩
                have S6 := (S3.out.own_new hb6 (owns_zero ho6) (owns_ge ho6)).swap.tail
                obtain ⟨B6, c6, rfl⟩ := own_slice ho6
                have hnew : SeRel2 w vars wd q PS m (.int .i64 s2) (.slice B6 (putB C (x + 1)).length c6) w6 := ⟨s2, L ++ [x + 1], putB C (x + 1), B6, c6, rfl, rfl, by unfold Hid; rw [foldJ_snoc, ← hC.out], hR3.out, hst3.out, hg1, S6⟩
                replace hnew := Lib.hid hnew
                clear S3 S6 hpu ho6 hb6
                go_wp2_with fail
                go_roundw
                case rel => exact ⟨m, hnew.out⟩
                case measure => rw [hM.out]; exact Nat.lt_succ_of_le (leastM_le hnew.out)
              · have hnew : SeRel2 w vars wd q PS m (.int .i64 s2) (.slice D C.length dc) wr := ⟨s2, L, C, D, dc, rfl, rfl, hC, by simpa using hR.out, hD, hg1, S3.out⟩
                replace hnew := Lib.hid hnew
                clear S3 hpu hR hstep
                go_wp2_with fail
                go_roundw
                case rel => exact ⟨m, hnew.out⟩
                case measure => rw [hM.out]; exact Nat.lt_succ_of_le (leastM_le hnew.out)
            · have hnew : SeRel2 w vars wd q PS m (.int .i64 s2) (.slice D C.length dc) wr := ⟨s2, L, C, D, dc, rfl, rfl, hC, by simpa using hR.out, hD, hg1, S3.out⟩
              replace hnew := Lib.hid hnew
              clear S3 hpu hR hstep hh2
              go_wp2_with fail
              go_roundw
              case rel => exact ⟨m, hnew.out⟩
              case measure => rw [hM.out]; exact Nat.lt_succ_of_le (leastM_le hnew.out)
          · simp only [if_pos] at hR hstep
            go_wp2_with fail
            refine hh1.out.mono ?_
            rintro e w5 ⟨rfl, rfl⟩
            clear hh1
            cases c1
            · go_wp2_with fail
              refine hh2.out.mono ?_
              rintro e w5 ⟨rfl, rfl⟩
              clear hh2
              cases c2
              · have hR3 : Hid (Runs vars wd q m (s2, L ++ [-(x + 1)])) := by unfold Hid; simpa using hR.out
                have hst3 := Lib.hid (hstep.out rfl)
                clear hR hstep
                go_wp2_with fail
                refine (hpu.out (-(x + 1))).mono ?_
                rintro e w6 ⟨v6, rfl, ho6, hb6⟩
                have S6 := (S3.out.own_new hb6 (owns_zero ho6) (owns_ge ho6)).swap.tail
                obtain ⟨B6, c6, rfl⟩ := own_slice ho6
                have hnew : SeRel2 w vars wd q PS m (.int .i64 s2) (.slice B6 (putB C (-(x + 1))).length c6) w6 := ⟨s2, L ++ [-(x + 1)], putB C (-(x + 1)), B6, c6, rfl, rfl, by unfold Hid; rw [foldJ_snoc, ← hC.out], hR3.out, hst3.out, hg1, S6⟩
                replace hnew := Lib.hid hnew
                clear S3 S6 hpu ho6 hb6
                go_wp2_with fail
                go_roundw
                case rel => exact ⟨m, hnew.out⟩
                case measure => rw [hM.out]; exact Nat.lt_succ_of_le (leastM_le hnew.out)
              · have hnew : SeRel2 w vars wd q PS m (.int .i64 s2) (.slice D C.length dc) wr := ⟨s2, L, C, D, dc, rfl, rfl, hC, by simpa using hR.out, hD, hg1, S3.out⟩
                replace hnew := Lib.hid hnew
                clear S3 hpu hR hstep
                go_wp2_with fail
                go_roundw
                case rel => exact ⟨m, hnew.out⟩
                case measure => rw [hM.out]; exact Nat.lt_succ_of_le (leastM_le hnew.out)
            · have hnew : SeRel2 w vars wd q PS m (.int .i64 s2) (.slice D C.length dc) wr := ⟨s2, L, C, D, dc, rfl, rfl, hC, by simpa using hR.out, hD, hg1, S3.out⟩
              replace hnew := Lib.hid hnew
              clear S3 hpu hR hstep hh2
              go_wp2_with fail
              go_roundw
              case rel => exact ⟨m, hnew.out⟩
              case measure => rw [hM.out]; exact Nat.lt_succ_of_le (leastM_le hnew.out)
    · obtain rfl : i = cl := by omega
      clear hss hsuc hnx hst hlen hs0
      generalize SL i = xss at *
      have p0 := HS.out.cell (i := 0) rfl (o := 0) rfl
      have p1 := HS.out.cell (i := 0) rfl (o := 1) rfl
      obtain ⟨F, hr, -, -⟩ := HS.out.rows_done (i := 1) rfl
      have hcn := Lib.hid (l4Give_any vars B' c' xss F wr (Ty.row_down hr))
      have HS2 := Lib.hid HS.out
      clear HS hr
      go_wp2_with fail
      refine hcn.out.mono ?_
      rintro e w3 ⟨va, A', n', c'', rfl, hb4, h1, h2⟩
      have S5 := HS2.out.grow hb4
      replace h1 := Lib.hid h1
      replace h2 := Lib.hid h2
      have r0 := S5.cell (i := 2) rfl (o := 0) rfl
      have r1 := S5.cell (i := 2) rfl (o := 1) rfl
      have f0 := S5.frozen (i := 2) rfl 0
      have f1 := S5.frozen (i := 2) rfl 1
      have SF := (S5.store (i := 2) rfl 0 (.int .i64 va)).store (i := 2) rfl 1 (.slice A' n' c'')
      have j0 := SF.cell (i := 2) rfl (o := 0) rfl
      have j1 := SF.cell (i := 2) rfl (o := 1) rfl
      have SF2 := Lib.hid (Sp.pick [1] SF rfl)
      clear HS2 S5 SF hcn hb4 p0 p1
      generalize hgo : goodB vars xss = gb at *
      go_wp2_with fail
      subst hgo
      exact bodyPost_ret (v := .tuple #[.agg #[.int .i64 va, .slice A' n' c''], .bool (goodB vars xss)]) (by simp [results, Try.results7, go_sem, j0, j1]) rfl (CnfR.of SF2.out h1.out h2.out)
set_option maxRecDepth 100000 in
set_option maxHeartbeats 4000000 in
theorem specSeededNo_any (vars cl wd sd : Int) (w : World) (hq : seedOk vars cl wd sd = false) :
    Calls Try.prog 7 #[.int .i64 vars, .int .i64 cl, .int .i64 wd, .int .i64 sd] w (CnfR w 0 [] false) := by
  unfold seedOk at hq
  have k1 := Lib.hid (fun W => l1In_any vars 1 12 W)
  have k2 := Lib.hid (fun W => l1In_any cl 0 60 W)
  have k3 := Lib.hid (fun W => l1In_any wd 1 vars W)
  have k4 := Lib.hid (fun W => l1In_any sd 0 9999 W)
  have SF := (Sp.start w).alloc_box #[.int .i64 0, .slice none 0 0] 28
  have j0 := SF.cell (i := 0) rfl (o := 0) rfl
  have j1 := SF.cell (i := 0) rfl (o := 1) rfl
  have hB := Lib.hid SF.below
  clear SF
  generalize inB vars 1 12 = b1 at *
  generalize inB cl 0 60 = b2 at *
  generalize inB wd 1 vars = b3 at *
  generalize inB sd 0 9999 = b4 at *
  cases b1
  · clear hq
    go_enter Try.func7, Try.ntmps7
    go_wp2_with fail
    refine (k1.out _).mono ?_
    rintro e w1 ⟨rfl, rfl⟩
    go_wp2_with fail
    exact bodyPost_ret (v := .tuple #[.agg #[.int .i64 0, .slice none 0 0], .bool false]) (by simp [results, Try.results7, go_sem, j0, j1]) rfl ⟨none, 0, [], rfl, Ty.row_nil _ _ _ _ _ (by decide), hB.out⟩
  cases b2
  · clear hq
    go_enter Try.func7, Try.ntmps7
    go_wp2_with fail
    refine (k1.out _).mono ?_
    rintro e w1 ⟨rfl, rfl⟩
    go_wp2_with fail
    refine (k2.out _).mono ?_
    rintro e w1 ⟨rfl, rfl⟩
    go_wp2_with fail
    exact bodyPost_ret (v := .tuple #[.agg #[.int .i64 0, .slice none 0 0], .bool false]) (by simp [results, Try.results7, go_sem, j0, j1]) rfl ⟨none, 0, [], rfl, Ty.row_nil _ _ _ _ _ (by decide), hB.out⟩
  cases b3
  · clear hq
    go_enter Try.func7, Try.ntmps7
    go_wp2_with fail
    refine (k1.out _).mono ?_
    rintro e w1 ⟨rfl, rfl⟩
    go_wp2_with fail
    refine (k2.out _).mono ?_
    rintro e w1 ⟨rfl, rfl⟩
    go_wp2_with fail
    refine (k3.out _).mono ?_
    rintro e w1 ⟨rfl, rfl⟩
    go_wp2_with fail
    exact bodyPost_ret (v := .tuple #[.agg #[.int .i64 0, .slice none 0 0], .bool false]) (by simp [results, Try.results7, go_sem, j0, j1]) rfl ⟨none, 0, [], rfl, Ty.row_nil _ _ _ _ _ (by decide), hB.out⟩
  obtain rfl : b4 = false := by simpa using hq
  clear hq
  go_enter Try.func7, Try.ntmps7
  go_wp2_with fail
  refine (k1.out _).mono ?_
  rintro e w1 ⟨rfl, rfl⟩
  go_wp2_with fail
  refine (k2.out _).mono ?_
  rintro e w1 ⟨rfl, rfl⟩
  go_wp2_with fail
  refine (k3.out _).mono ?_
  rintro e w1 ⟨rfl, rfl⟩
  go_wp2_with fail
  refine (k4.out _).mono ?_
  rintro e w1 ⟨rfl, rfl⟩
  go_wp2_with fail
  exact bodyPost_ret (v := .tuple #[.agg #[.int .i64 0, .slice none 0 0], .bool false]) (by simp [results, Try.results7, go_sem, j0, j1]) rfl ⟨none, 0, [], rfl, Ty.row_nil _ _ _ _ _ (by decide), hB.out⟩
end Go.Proofs.Ytnjdmakbdhobgaa

/- Contract: at least, in the program. -/
namespace Go.Proofs.Ytnjdmakbdhobgaa
open Go.RowKit

theorem leastL_zero (n : Nat) : leastL n 0 = [] := rfl
theorem leastL_over {n k : Nat} (h : n < k) : leastL n k = [[]] := by unfold leastL; rw [if_neg (by omega), show n + 1 - k = 0 by omega, chL_zero]
theorem leastL_mid {n k : Nat} (h : 0 < k) : leastL n k = chL n (n + 1 - k) := by unfold leastL; rw [if_neg (by omega)]
theorem good_nil : GoodS [] := ⟨by simp, by simp⟩

/- left out: the seat has no impl.AtLeastCnf -/

/- left out: the seat has no impl.AtLeastCnf -/
end Go.Proofs.Ytnjdmakbdhobgaa

/- Contracts: literals compared and sorted, and the clause of literals, in the program. -/
namespace Go.Proofs.Ytnjdmakbdhobgaa
open Go.RowKit Go.Sort

def orL (x y : Int) : Int := if x = 0 then y else x
theorem cmpL_or (a b : Int) : orL (Lib.compareInt (absW a) (absW b)) (Lib.compareInt b a) = cmpL a b := by
  unfold orL cmpL Lib.compareInt
  by_cases h1 : absW a < absW b
  · simp [h1]
  · by_cases h2 : absW b < absW a
    · simp [h1, h2]
    · simp [h1, h2]
set_option maxHeartbeats 400000 in
theorem absW_any (l : Int) (w : World) : Calls Try.prog 36 #[.int .i64 l] w fun e w' => e = .returned (.int .i64 (absW l)) ∧ w = w' := by
  have hd : Hid (absW l = if l < wrap64 (-l) then wrap64 (-l) else l) := rfl
  go_enter Try.func36, Try.ntmps36
  by_cases h : l < wrap64 (-l)
  · go_wp2
    go_ret
    exact ⟨ret_int (by first | (rw [hd.out, if_pos h]; done) | (rw [hd.out, if_pos h]; exact Int.max_eq_right (Int.le_of_lt h))), rfl⟩
  · go_wp2
    go_ret
    exact ⟨ret_int (by first | (rw [hd.out, if_neg (Int.not_lt.mpr h)]; done) | (rw [hd.out, if_neg (by omega)]; exact Int.max_eq_left (by omega))), rfl⟩
set_option maxHeartbeats 1000000 in
theorem cmpOrL_any (b : Nat) (x y : Int) (w : World) (k0 : w.cell? ⟨b, 0, none⟩ = some (.int .i64 x)) (k1 : w.cell? ⟨b, 1, none⟩ = some (.int .i64 y)) :
    Calls Try.prog 81 #[.slice (some ⟨b, 0, none⟩) 2 2] w fun e w' => e = .returned (.int .i64 (orL x y)) ∧ w = w' := by
  by_cases hx : x = 0
  · have hR : Hid (orL x y = y) := by unfold Hid orL; rw [if_pos hx]
    subst hx
    by_cases hy : y = 0
    · subst hy
      go_enter Try.func81, Try.ntmps81
      go_wp2_with fail
      refine wp_loop_rounds 3 ?_
      rw [rounds_succ]
      go_wp2_with fail
      rw [rounds_succ]
      go_wp2_with fail
      rw [rounds_succ]
      go_wp2_with fail
      go_ret
      exact ⟨ret_int hR.out.symm, rfl⟩
    · have hy2 : (y != 0) = true := by simpa using hy
      go_enter Try.func81, Try.ntmps81
      go_wp2_with fail
      refine wp_loop_rounds 3 ?_
      rw [rounds_succ]
      go_wp2_with fail
      rw [rounds_succ]
      go_wp2_with fail
      go_ret
      exact ⟨ret_int hR.out.symm, rfl⟩
  · have hR : Hid (orL x y = x) := by unfold Hid orL; rw [if_neg hx]
    have hx2 : (x != 0) = true := by simpa using hx
    go_enter Try.func81, Try.ntmps81
    go_wp2_with fail
    refine wp_loop_rounds 3 ?_
    rw [rounds_succ]
    go_wp2_with fail
    go_ret
    exact ⟨ret_int hR.out.symm, rfl⟩

set_option maxHeartbeats 1000000 in
theorem compareLiterals_any (a b : Int) (W : World) :
    Calls Try.prog 69 #[.int .i64 a, .int .i64 b] W fun e w' => e = .returned (.int .i64 (cmpL a b)) ∧ ∃ q os, w' = grow (W.drewN q) os := by
  have h1 := Lib.hid (fun V => absW_any a V)
  have h2 := Lib.hid (fun V => absW_any b V)
  have h3 := Lib.hid (fun V => Try.cmp_Compare_int (absW a) (absW b) V)
  have h4 := Lib.hid (fun V => Try.cmp_Compare_int b a V)
  obtain ⟨r, hr⟩ : ∃ r, cmpL a b = r := ⟨_, rfl⟩
  have hor := cmpL_or a b
  rw [hr] at hor ⊢
  obtain ⟨x, hx⟩ : ∃ x, Lib.compareInt (absW a) (absW b) = x := ⟨_, rfl⟩
  obtain ⟨y, hy⟩ : ∃ y, Lib.compareInt b a = y := ⟨_, rfl⟩
  rw [hx] at h3 hor
  rw [hy] at h4 hor
  clear hx hy
  generalize absW a = aa at *
  generalize absW b = ab at *
  have hcO := Lib.hid (fun V k0 k1 => cmpOrL_any W.heap.size x y V k0 k1)
  rw [hor] at hcO
  clear hr hor
  go_enter Try.func69, Try.ntmps69
  go_wp2_with fail
  refine (h1.out _).mono ?_
  rintro e w1 ⟨rfl, rfl⟩
  go_wp2_with fail
  refine (h2.out _).mono ?_
  rintro e w1 ⟨rfl, rfl⟩
  go_wp2_with fail
  refine (h3.out _).mono ?_
  rintro e w1 ⟨rfl, hw⟩
  subst hw
  go_wp2_with fail
  refine (h4.out _).mono ?_
  rintro e w1 ⟨rfl, hw⟩
  subst hw
  go_wp2_with fail
  have k0 : (w1.alloc (.cells #[.int .i64 x, .int .i64 y] 3)).cell? ⟨w1.heap.size, 0, none⟩ = some (.int .i64 x) := cell_of_row _ _ _ _ _ _ (heap_alloc_new w1 _)
  have k1 : (w1.alloc (.cells #[.int .i64 x, .int .i64 y] 3)).cell? ⟨w1.heap.size, 1, none⟩ = some (.int .i64 y) := cell_of_row _ _ _ _ _ _ (heap_alloc_new w1 _)
  refine (hcO.out _ k0 k1).mono ?_
  rintro e w2 ⟨rfl, hw⟩
  clear k0 k1
  subst hw
  go_wp2_with fail
  go_ret
  exact ⟨rfl, 0, #[_], alloc_eq_grow _ _⟩

theorem ltL {x y : Int} : ltOf cmpL x y = true ↔ befL x y := by unfold ltOf; rw [decide_eq_true_eq, cmpL_neg]
theorem ltL_no {x y : Int} : ltOf cmpL x y = false ↔ ¬ befL x y := by rw [← ltL]; simp
theorem cmpL_swo : SWO (ltOf cmpL) where
  irrefl x := by rw [ltL_no]; unfold befL; omega
  trans x y z h1 h2 := by rw [ltL] at *; exact befL_trans h1 h2
  ntrans x y z h1 h2 := by rw [ltL_no] at *; unfold befL at *; omega

theorem sortFuncL_any (xs : List Int) (B : Option Addr) (cc : Nat) (w0 w : World) (ps : List Asn) (S : Sp w0 w (Own 3 1 (.slice B xs.length cc) xs.length (xs.map (.int .i64)) :: ps)) (hl : xs.length ≤ 1000000) :
    Calls Try.prog 68 #[.slice B xs.length cc, .func (.func 69) #[] #[]] w fun e w' => e = .returned (.tuple #[]) ∧ Sp w0 w' (Own 3 1 (.slice B xs.length cc) xs.length ((sortL xs).map (.int .i64)) :: ps) := by
  rcases Nat.eq_zero_or_pos xs.length with h0 | h0
  · obtain rfl : xs = [] := List.length_eq_zero_iff.1 h0
    refine Calls.mono (by first | exact Try.slices_SortFunc_none B cc _ w | exact Try.slices_SortFunc_none (α := Nat) B cc _ w) ?_
    rintro e w' ⟨rfl, rfl⟩
    refine ⟨rfl, ?_⟩
    unfold sortL
    rw [List.mergeSort_nil]
    exact S
  · have eg : ∀ args w, (callFunc 69 args).run Try.prog w = .ok (.enter 69 args) w := enters_of Try.func69 (by kernel_rfl) rfl
    obtain ⟨g, cap, cur, e1, h0', hg, hnc, hmx, hc, ht⟩ := own_block (S.own (i := 0) rfl) h0
    simp only [Value.slice.injEq] at e1
    obtain ⟨rfl, -, rfl⟩ := e1
    rw [Nat.mul_one] at ht
    have hH := holds_of_blockI hg ht
    have h := Any.slices_SortFunc_total Try.laysSlF6_f68 (Value.int .i64) (fun _ => rfl) cmpL cmpL_swo 69 #[] g 0 cc xs.toArray w eg (fun m os dk _ x y => compareLiterals_any x y _) hH (S.own (i := 0) rfl |> fun h => owns_lt h rfl) (by simp; omega) (fun x y h1 h2 => by
      rw [ltL_no] at h1 h2
      unfold befL at h1 h2
      omega)
    have hsz : xs.toArray.size = xs.length := by simp
    rw [hsz] at h
    refine Calls.mono h ?_
    rintro e w' ⟨rfl, n, os, rfl⟩
    refine ⟨rfl, ?_⟩
    have e2 : (xs.toArray.toList.mergeSort fun x y => !(ltOf cmpL) y x) = sortL xs := by
      unfold sortL ltOf; rfl
    rw [e2]
    exact S.own_push (i := 0) rfl (bb _) (ownsRow_sortedI (by unfold sortL; exact List.length_mergeSort _) (Nat.zero_le _) hg hnc hmx hc) (grownBy_sortedI _) (.inl rfl)
end Go.Proofs.Ytnjdmakbdhobgaa

/- Contracts: the clause of literals, literals that are set, in the program. -/
namespace Go.Proofs.Ytnjdmakbdhobgaa
open Go.RowKit

set_option maxRecDepth 100000 in
set_option maxHeartbeats 4000000 in
theorem clause_any (zs : List Int) (A : Option Addr) (cap : Nat) (w : World) (hx : IntsAt w A zs) (hz : ∀ x ∈ zs, LitS x) (hl : zs.length ≤ 2000) :
    Calls Try.prog 51 #[.slice A zs.length cap] w (OwnAns w (clauseR zs).isSome ((clauseR zs).getD [])) := by
  have hcl := Lib.hid (cloneA_any A cap zs w hx (by omega))
  have hsl : (sortL zs).length = zs.length := List.length_mergeSort _
  have hcpl := cptL_len zs
  have hlit := Lib.hid (fun x (h : x ∈ cptL zs) => hz x (cptL_mem.1 h))
  have hR : Hid (clauseR zs = if okTo (cptL zs) ((cptL zs).length - 1) then some (cptL zs) else none) := rfl
  have hcp : Hid (cptL zs = Lib.compact (sortL zs)) := rfl
  generalize clauseR zs = R at *
  replace hsl := Lib.hid hsl
  clear hx hz
  go_enter Try.func51, Try.ntmps51
  go_wp2_with fail
  refine hcl.out.mono ?_
  rintro e w1 ⟨D, dc, rfl, T⟩
  have hso := Lib.hid (sortFuncL_any zs D dc w w1 [] T (by omega))
  clear T hcl
  go_wp2_with fail
  refine hso.out.mono ?_
  rintro e w2 ⟨rfl, S2⟩
  rw [← hsl.out] at S2 ⊢
  have hsl2 : (sortL zs).length ≤ 1000000 := by rw [hsl.out]; omega
  have hco := Lib.hid (compactI_any _ D dc w _ [] S2 hsl2)
  rw [← hcp.out] at hco
  clear S2 hso hcp hsl2
  generalize sortL zs = sz at *
  replace hsl := Lib.hid hsl
  have hcl2 : (cptL zs).length ≤ 2000 := by omega
  clear hcpl
  generalize cptL zs = out at *
  go_wp2_with fail
  refine hco.out.mono ?_
  rintro e w3 ⟨rfl, S3⟩
  replace S3 := Lib.hid S3
  clear hco
  go_wp2_with fail
  go_loopw [5] (fun v5 wr => ∃ (k : Nat) (z : Int), k + 1 ≤ out.length + 1 ∧ 1 ≤ z ∧ z ≤ 3000 ∧ Hid ((k : Int) + 1 = z) ∧ v5 = .int .i64 z ∧ Hid (okTo out k = true) ∧ Hid (Sp w wr [Own 3 1 (.slice D out.length dc) out.length (out.map (.int .i64))])) (fun v5 _ => 4000 - (intOf v5).toNat)
  case atStart => exact ⟨0, 1, by omega, by decide, by decide, rfl, rfl, rfl, S3⟩
  case round =>
    clear S3
    obtain ⟨k, z, hk, hz1, hz2, hkz, rfl, hok, HS⟩ := hrel
    by_cases hlt : z < (out.length : Int)
    · have hk1 : k + 1 < out.length := by have := hkz.out; omega
      have hI := HS.out.ints (i := 0) rfl (fun x hx => (hlit.out x hx).i64)
      obtain ⟨b, off, rfl, m1⟩ := hI.at_ (k + 1) hk1
      obtain ⟨b', off', e1, m0⟩ := hI.at_ k (by omega)
      cases e1
      have k1 := cell_regrown m1
      have k0 := cell_regrown m0
      have hL1 := hlit.out _ (List.getElem_mem hk1)
      have hL0 := hlit.out _ (List.getElem_mem (show k < out.length by omega))
      have hneg : IntKind.i64.wrap (-out[k]) = -out[k] := IntWalk.i64_in _ (by unfold LitS at hL0; omega)
      have hzk : (z : Int) = ((k + 1 : Nat) : Int) := by have := hkz.out; omega
      have hyes := Lib.hid (fun (h : (out.getD (k + 1) 0 == -(out.getD k 0)) = true) => okTo_no (n := out.length - 1) (by omega) h)
      have hno := Lib.hid (fun (h : (out.getD (k + 1) 0 == -(out.getD k 0)) = false) => okTo_next hok.out h)
      have hg1 : out.getD (k + 1) 0 = out[k + 1] := by rw [List.getD_eq_getElem?_getD, List.getElem?_eq_getElem hk1]; rfl
      have hg0 : out.getD k 0 = out[k] := by rw [List.getD_eq_getElem?_getD, List.getElem?_eq_getElem (by omega)]; rfl
      rw [hg1, hg0] at hyes hno
      have hwz : IntKind.i64.wrap (((k + 1 : Nat) : Int) - 1) = (k : Int) := by rw [IntWalk.i64_in _ (by omega)]; omega
      have hwz2 : IntKind.i64.wrap (((k + 1 : Nat) : Int) + 1) = ((k + 1 + 1 : Nat) : Int) := by rw [IntWalk.i64_in _ (by omega)]; omega
      have hkz2 : Hid (((k + 1 : Nat) : Int) + 1 = ((k + 1 + 1 : Nat) : Int)) := rfl
      generalize out[k + 1] = y at *
      generalize out[k] = x at *
      subst hzk
      obtain ⟨q, hq⟩ : ∃ q, (y == -x) = q := ⟨_, rfl⟩
      rw [hq] at hyes hno
      clear m1 m0 hI hL1 hL0 hg1 hg0 hkz hok
      cases q
      · have hok2 := Lib.hid (hno.out rfl)
        clear hno hyes
        go_wp2_with fail
        refine wp_region_quiet_below (by kernel_rfl) (by kernel_rfl) ?_
        repeat (any_goals (go_big_quiet_step (fail)))
        refine wpQuiet_nil ?_
        rintro w4 ⟨p, rfl⟩
        have HS4 := Lib.hid (HS.out.grow (below_regrown _ p.d p.os))
        clear HS k0 k1
        go_wp2_with fail
        go_roundw
        case rel => exact ⟨k + 1, ((k + 1 + 1 : Nat) : Int), by omega, by omega, by omega, hkz2, rfl, hok2, HS4⟩
        case measure => simp [intOf]; omega
      · have hok2 := Lib.hid (hyes.out rfl)
        clear hno hyes
        go_wp2_with fail
        refine wp_region_quiet_below (by kernel_rfl) (by kernel_rfl) ?_
        repeat (any_goals (go_big_quiet_step (fail)))
        refine wpQuiet_nil ?_
        rintro w4 ⟨p, rfl⟩
        have HS4 := Lib.hid ((Sp.of_below (HS.out.grow (below_regrown _ p.d p.os)).below).own_nil 3 1)
        have hRn : Hid (R = none) := by unfold Hid; rw [hR.out, if_neg (by rw [hok2.out]; simp)]
        clear HS k0 k1 hR
        go_wp2_with fail
        go_ret2
        rw [hRn.out]
        exact ⟨none, 0, rfl, HS4.out⟩
    · have hRs : Hid (R = some out) := by
        unfold Hid
        rw [hR.out, if_pos]
        have h1 := hok.out
        have : out.length - 1 ≤ k := by have := hkz.out; omega
        unfold okTo at h1 ⊢
        rw [List.all_eq_true] at h1 ⊢
        exact fun i hi => h1 i (List.mem_range.2 (by have := List.mem_range.1 hi; omega))
      clear hR
      go_wp2_with fail
      go_ret2
      rw [hRs.out]
      exact ⟨D, dc, rfl, HS.out⟩
end Go.Proofs.Ytnjdmakbdhobgaa

/- Contracts: literals set, assignments merged, on both sides. -/
namespace Go.Proofs.Ytnjdmakbdhobgaa
open Go.RowKit

def mergeR (vars : Int) (a b : List Int) : Option (List Int) := if clauseB vars a && clauseB vars b then joinS a b else none
def setR (vars : Int) (a : List Int) (l : Int) : Option (List Int) := if clauseB vars a && litB vars l then some (setS a l) else none
theorem good_len_s {vars : Int} {c : List Int} (h : clauseB vars c = true) : c.length ≤ 1000 := (clause_s h).2
/- left out: the seat has no impl.isVar -/

set_option maxHeartbeats 1000000 in
theorem mustClause_any (zs : List Int) (A : Option Addr) (cap : Nat) (w : World) (hx : IntsAt w A zs) (hz : ∀ x ∈ zs, LitS x) (hl : zs.length ≤ 2000) :
    Calls Try.prog 39 #[.slice A zs.length cap] w (OneI w ((clauseR zs).getD [])) := by
  have hc := Lib.hid (clause_any zs A cap w hx hz hl)
  generalize (clauseR zs).getD [] = R at *
  generalize (clauseR zs).isSome = q at *
  clear hx hz
  go_enter Try.func39, Try.ntmps39
  go_wp2_with fail
  refine hc.out.mono ?_
  rintro e w1 ⟨D, dc, rfl, T⟩
  replace T := Lib.hid T
  go_wp2_with fail
  go_ret
  exact ⟨D, dc, rfl, T.out⟩

/- left out: the seat has no impl.set -/

/- left out: the seat has no spec.l3Set -/

/- left out: the seat has no impl.SetLiteral -/

/- left out: the seat has no spec.SetLiteral -/
end Go.Proofs.Ytnjdmakbdhobgaa

/- Contracts: assignments merged, on both sides; extended, unset, and their bits, in the program. -/
namespace Go.Proofs.Ytnjdmakbdhobgaa
open Go.RowKit

/- left out: the seat has no impl.MergeAssignments -/

/- left out: the seat has no spec.MergeAssignments -/

/- left out: the seat has no impl.part$1 -/

/- left out: the seat has no impl.DoesExtend -/

/- left out: the seat has no impl.UnsetVar -/
end Go.Proofs.Ytnjdmakbdhobgaa
