/- Contracts: a graph copied in the reference. Printed by gen_own.py. -/
import Derived.Test.YtebhkfhdjdgokaaChJ
namespace Go.Proofs.Ytebhkfhdjdgokaa
open Go.RowKit

theorem drew_size (w : World) : w.drew.heap.size = w.heap.size := rfl

set_option maxRecDepth 100000 in
set_option maxHeartbeats 4000000 in
theorem l27Own_any (V : Int) (v u : Value) (es : List (Int × Int)) (cs : List Int) (F G : List Nat) (w : World) (hx : tmTy.row false w v es F) (hy : Ty.int.row false w u cs G) (h1 : es.length ≤ 100) (h2 : cs.length ≤ 100) :
    Calls Try.prog 52 #[.agg #[.int .i64 V, v, u]] w (OwnCh w V es cs) := by
  obtain ⟨iE, hiE, hzE0, hzE1, hzE2⟩ := info_parts infoPair
  obtain ⟨iI, hiI, hzI0, hzI1, hzI2⟩ := info_parts infoInt
  obtain ⟨a, c, rfl, srcE, allE⟩ := row_src_tm hx
  obtain ⟨ua, uc, rfl, srcI, allI⟩ := row_src_in hy
  have S0 := (((Sp.start w).alloc_box #[.int .i64 V, .slice a es.length c, .slice ua cs.length uc] 35).alloc_box #[.int .i64 0, .slice none 0 0, .slice none 0 0] 35).drew
  simp only [World.size_alloc] at S0
  have c0 := S0.cell (i := 1) rfl (o := 0) rfl
  have c1 := S0.cell (i := 1) rfl (o := 1) rfl
  have c2 := S0.cell (i := 1) rfl (o := 2) rfl
  replace S0 := Lib.hid S0
  replace srcE := Lib.hid srcE
  replace srcI := Lib.hid srcI
  replace allE := Lib.hid allE
  replace allI := Lib.hid allI
  clear hx hy
  go_enter Try.func52, Try.ntmps52
  go_wp2_with fail
  refine wp_region_tail_lit (S := (fun w' => w'.cell? ⟨w.heap.size, 0, none⟩ = some (.int .i64 V) ∧ w'.cell? ⟨w.heap.size, 1, none⟩ = some (.slice a es.length c) ∧ w'.cell? ⟨w.heap.size, 2, none⟩ = some (.slice ua cs.length uc))) 10 [false, false, false, false, false, false, false, false, false, false, false, false] (by kernel_rfl) (by kernel_rfl) (by kernel_rfl) ?_ ?_
  · exact ⟨c0, c1, c2⟩
  intro hS
  (refine walkT_take (i := 0) (v := ?_) rfl (by kernel_rfl) (by decide) (by kernel_rfl) (by kernel_rfl) (fun _ _ _ h => h) (Or.inl ⟨by rfl, ?_⟩) (by assumption) ?_; rotate_left; (focus (intro w hSw; (try dsimp only at hSw); go_simp; (try with_reducible rfl); done)); (try simp only [put_rules]))
  (refine walkT_take (i := 1) (v := ?_) rfl (by kernel_rfl) (by decide) (by kernel_rfl) (by kernel_rfl) (fun _ _ _ h => h) (Or.inl ⟨by rfl, ?_⟩) (by assumption) ?_; rotate_left; (focus (intro w hSw; (try dsimp only at hSw); go_simp; (try with_reducible rfl); done)); (try simp only [put_rules]))
  (refine walkT_take (i := 3) (v := ?_) rfl (by kernel_rfl) (by decide) (by kernel_rfl) (by kernel_rfl) (fun _ _ _ h => h) (Or.inl ⟨by rfl, ?_⟩) (by assumption) ?_; rotate_left; (focus (intro w hSw; (try dsimp only at hSw); go_simp; (try with_reducible rfl); done)); (try simp only [put_rules]))
  (refine walkT_take (i := 4) (v := ?_) rfl (by kernel_rfl) (by decide) (by kernel_rfl) (by kernel_rfl) (fun _ _ _ h => h) (Or.inl ⟨by rfl, ?_⟩) (by assumption) ?_; rotate_left; (focus (intro w hSw; (try dsimp only at hSw); go_simp; (try with_reducible rfl); done)); (try simp only [put_rules]))
  (refine walkT_take (i := 7) (v := ?_) rfl (by kernel_rfl) (by decide) (by kernel_rfl) (by kernel_rfl) (fun _ _ _ h => h) (Or.inl ⟨by rfl, ?_⟩) (by assumption) ?_; rotate_left; (focus (intro w hSw; (try dsimp only at hSw); go_simp; (try with_reducible rfl); done)); (try simp only [put_rules]))
  (refine walkT_take (i := 8) (v := ?_) rfl (by kernel_rfl) (by decide) (by kernel_rfl) (by kernel_rfl) (fun _ _ _ h => h) (Or.inl ⟨by rfl, ?_⟩) (by assumption) ?_; rotate_left; (focus (intro w hSw; (try dsimp only at hSw); go_simp; (try with_reducible rfl); done)); (try simp only [put_rules]))
  (refine walkT_ready (rs := [2, 6]) (by kernel_rfl) (by simp) (by decide) ?_; refine AllT.cons rfl (fun K hK => ?_) (AllT.cons rfl (fun K hK => ?_) AllT.nil))
  · go_simp
    have S1 := S0.out.own_made 85 2
    (try simp only [World.size_alloc, drew_size] at S1)
    have d0 := S1.cell (i := 2) rfl (o := 0) rfl
    have d1 := S1.cell (i := 2) rfl (o := 1) rfl
    have d2 := S1.cell (i := 2) rfl (o := 2) rfl
    replace S1 := Lib.hid S1
    clear S0
    refine hK.out _ _ ⟨d0, d1, d2⟩ (fun hS0 => ?_)
    clear hK d0 d1 d2
    (try simp only [put_rules])
    (refine walkT_ready (rs := [5, 6]) (by kernel_rfl) (by simp) (by decide) ?_; refine AllT.cons rfl (fun K hK => ?_) (AllT.cons rfl (fun K hK => ?_) AllT.nil))
    · (refine step_append_src rfl _ _ rfl Try.underlying30 hiE hzE0 hzE1 hzE2 rfl (by decide) _ 0 _ rfl (S1.out.own (i := 0) rfl) a es.length c _ rfl (srcE.out.grow S1.out.below) (flat_one es) (by unfold maxLen; omega) (by omega) ?_; intro vE wE hownE hgE hatE)
      have S2 := S1.out.own_push (i := 0) rfl (bb _) hownE hgE hatE
      obtain ⟨aE, cE, rfl⟩ := owns_form hownE
      rw [Nat.zero_add, List.nil_append] at S2
      clear hownE hgE hatE
      simp only [Nat.zero_add]
      have d0 := S2.cell (i := 2) rfl (o := 0) rfl
      have d1 := S2.cell (i := 2) rfl (o := 1) rfl
      have d2 := S2.cell (i := 2) rfl (o := 2) rfl
      replace S2 := Lib.hid S2
      clear S1
      refine hK.out _ _ ⟨d0, d1, d2⟩ (fun hS1 => ?_)
      clear hK d0 d1 d2
      (try simp only [put_rules])
      (refine walkT_ready (rs := [6]) (by kernel_rfl) (by simp) (by decide) ?_; refine AllT.cons rfl (fun K hK => ?_) AllT.nil)
      go_simp
      have S3 := S2.out.own_made 3 1
      (try simp only [World.size_alloc, drew_size] at S3)
      have d0 := S3.cell (i := 3) rfl (o := 0) rfl
      have d1 := S3.cell (i := 3) rfl (o := 1) rfl
      have d2 := S3.cell (i := 3) rfl (o := 2) rfl
      replace S3 := Lib.hid S3
      clear S2
      refine hK.out _ _ ⟨d0, d1, d2⟩ (fun hS2 => ?_)
      clear hK d0 d1 d2
      (try simp only [put_rules])
      (refine walkT_ready (rs := [9]) (by kernel_rfl) (by simp) (by decide) ?_; refine AllT.cons rfl (fun K hK => ?_) AllT.nil)
      (refine step_append_src rfl _ _ rfl Try.underlying31 hiI hzI0 hzI1 hzI2 rfl (by decide) _ 0 _ rfl (S3.out.own (i := 0) rfl) ua cs.length uc _ rfl (srcI.out.grow S3.out.below) (ints_one cs) (by unfold maxLen; omega) (by omega) ?_; intro vI wI hownI hgI hatI)
      have S4 := S3.out.own_push (i := 0) rfl (bb _) hownI hgI hatI
      obtain ⟨aI, cI, rfl⟩ := owns_form hownI
      rw [Nat.zero_add, List.nil_append] at S4
      clear hownI hgI hatI
      simp only [Nat.zero_add]
      have d0 := S4.cell (i := 3) rfl (o := 0) rfl
      have d1 := S4.cell (i := 3) rfl (o := 1) rfl
      have d2 := S4.cell (i := 3) rfl (o := 2) rfl
      replace S4 := Lib.hid S4
      clear S3
      refine hK.out _ _ ⟨d0, d1, d2⟩ (fun hS3 => ?_)
      clear hK d0 d1 d2
      (try simp only [put_rules])
      have R1 := owns_row (T := tmTy) (i := 1) S4.out rfl rfl (by decide) (allE.out _)
      have R2 := owns_row (T := Ty.int) (i := 0) R1 rfl rfl (by decide) (allI.out _)
      have j0 := R2.cell (i := 2) rfl (o := 0) rfl
      have j1 := R2.cell (i := 2) rfl (o := 1) rfl
      have j2 := R2.cell (i := 2) rfl (o := 2) rfl
      have q0 := R2.frozen (i := 2) rfl 0
      have q1 := R2.frozen (i := 2) rfl 1
      have q2 := R2.frozen (i := 2) rfl 2
      have R3 := ((R2.store (i := 2) rfl 0 (.int .i64 V)).store (i := 2) rfl 1 (.slice aE es.length cE)).store (i := 2) rfl 2 (.slice aI cs.length cI)
      replace R3 := Lib.hid R3
      clear R1 R2 S4
      (refine walkT_done (by kernel_rfl) ?_)
      simp only [List.drop_succ_cons, List.drop_zero]
      go_wp2_with fail
      exact bodyPost_ret (v := .agg #[.int .i64 V, .slice aE es.length cE, .slice aI cs.length cI]) (by simp [results, Try.results52, go_sem, j0, j1, j2]) rfl ⟨_, _, rfl, R3.out.swap.front (qs := [_, _])⟩
    · go_simp
      have S2 := S1.out.own_made 3 1
      (try simp only [World.size_alloc, drew_size] at S2)
      have d0 := S2.cell (i := 3) rfl (o := 0) rfl
      have d1 := S2.cell (i := 3) rfl (o := 1) rfl
      have d2 := S2.cell (i := 3) rfl (o := 2) rfl
      replace S2 := Lib.hid S2
      clear S1
      refine hK.out _ _ ⟨d0, d1, d2⟩ (fun hS1 => ?_)
      clear hK d0 d1 d2
      (try simp only [put_rules])
      (refine walkT_ready (rs := [5]) (by kernel_rfl) (by simp) (by decide) ?_; refine AllT.cons rfl (fun K hK => ?_) AllT.nil)
      (refine step_append_src rfl _ _ rfl Try.underlying30 hiE hzE0 hzE1 hzE2 rfl (by decide) _ 0 _ rfl (S2.out.own (i := 1) rfl) a es.length c _ rfl (srcE.out.grow S2.out.below) (flat_one es) (by unfold maxLen; omega) (by omega) ?_; intro vE wE hownE hgE hatE)
      have S3 := S2.out.own_push (i := 1) rfl (bb _) hownE hgE hatE
      obtain ⟨aE, cE, rfl⟩ := owns_form hownE
      rw [Nat.zero_add, List.nil_append] at S3
      clear hownE hgE hatE
      simp only [Nat.zero_add]
      have d0 := S3.cell (i := 3) rfl (o := 0) rfl
      have d1 := S3.cell (i := 3) rfl (o := 1) rfl
      have d2 := S3.cell (i := 3) rfl (o := 2) rfl
      replace S3 := Lib.hid S3
      clear S2
      refine hK.out _ _ ⟨d0, d1, d2⟩ (fun hS2 => ?_)
      clear hK d0 d1 d2
      (try simp only [put_rules])
      (refine walkT_ready (rs := [9]) (by kernel_rfl) (by simp) (by decide) ?_; refine AllT.cons rfl (fun K hK => ?_) AllT.nil)
      (refine step_append_src rfl _ _ rfl Try.underlying31 hiI hzI0 hzI1 hzI2 rfl (by decide) _ 0 _ rfl (S3.out.own (i := 0) rfl) ua cs.length uc _ rfl (srcI.out.grow S3.out.below) (ints_one cs) (by unfold maxLen; omega) (by omega) ?_; intro vI wI hownI hgI hatI)
      have S4 := S3.out.own_push (i := 0) rfl (bb _) hownI hgI hatI
      obtain ⟨aI, cI, rfl⟩ := owns_form hownI
      rw [Nat.zero_add, List.nil_append] at S4
      clear hownI hgI hatI
      simp only [Nat.zero_add]
      have d0 := S4.cell (i := 3) rfl (o := 0) rfl
      have d1 := S4.cell (i := 3) rfl (o := 1) rfl
      have d2 := S4.cell (i := 3) rfl (o := 2) rfl
      replace S4 := Lib.hid S4
      clear S3
      refine hK.out _ _ ⟨d0, d1, d2⟩ (fun hS3 => ?_)
      clear hK d0 d1 d2
      (try simp only [put_rules])
      have R1 := owns_row (T := tmTy) (i := 1) S4.out rfl rfl (by decide) (allE.out _)
      have R2 := owns_row (T := Ty.int) (i := 0) R1 rfl rfl (by decide) (allI.out _)
      have j0 := R2.cell (i := 2) rfl (o := 0) rfl
      have j1 := R2.cell (i := 2) rfl (o := 1) rfl
      have j2 := R2.cell (i := 2) rfl (o := 2) rfl
      have q0 := R2.frozen (i := 2) rfl 0
      have q1 := R2.frozen (i := 2) rfl 1
      have q2 := R2.frozen (i := 2) rfl 2
      have R3 := ((R2.store (i := 2) rfl 0 (.int .i64 V)).store (i := 2) rfl 1 (.slice aE es.length cE)).store (i := 2) rfl 2 (.slice aI cs.length cI)
      replace R3 := Lib.hid R3
      clear R1 R2 S4
      (refine walkT_done (by kernel_rfl) ?_)
      simp only [List.drop_succ_cons, List.drop_zero]
      go_wp2_with fail
      exact bodyPost_ret (v := .agg #[.int .i64 V, .slice aE es.length cE, .slice aI cs.length cI]) (by simp [results, Try.results52, go_sem, j0, j1, j2]) rfl ⟨_, _, rfl, R3.out.swap.front (qs := [_, _])⟩
  · go_simp
    have S1 := S0.out.own_made 3 1
    (try simp only [World.size_alloc, drew_size] at S1)
    have d0 := S1.cell (i := 2) rfl (o := 0) rfl
    have d1 := S1.cell (i := 2) rfl (o := 1) rfl
    have d2 := S1.cell (i := 2) rfl (o := 2) rfl
    replace S1 := Lib.hid S1
    clear S0
    refine hK.out _ _ ⟨d0, d1, d2⟩ (fun hS0 => ?_)
    clear hK d0 d1 d2
    (try simp only [put_rules])
    (refine walkT_ready (rs := [2]) (by kernel_rfl) (by simp) (by decide) ?_; refine AllT.cons rfl (fun K hK => ?_) AllT.nil)
    go_simp
    have S2 := S1.out.own_made 85 2
    (try simp only [World.size_alloc, drew_size] at S2)
    have d0 := S2.cell (i := 3) rfl (o := 0) rfl
    have d1 := S2.cell (i := 3) rfl (o := 1) rfl
    have d2 := S2.cell (i := 3) rfl (o := 2) rfl
    replace S2 := Lib.hid S2
    clear S1
    refine hK.out _ _ ⟨d0, d1, d2⟩ (fun hS1 => ?_)
    clear hK d0 d1 d2
    (try simp only [put_rules])
    (refine walkT_ready (rs := [5]) (by kernel_rfl) (by simp) (by decide) ?_; refine AllT.cons rfl (fun K hK => ?_) AllT.nil)
    (refine step_append_src rfl _ _ rfl Try.underlying30 hiE hzE0 hzE1 hzE2 rfl (by decide) _ 0 _ rfl (S2.out.own (i := 0) rfl) a es.length c _ rfl (srcE.out.grow S2.out.below) (flat_one es) (by unfold maxLen; omega) (by omega) ?_; intro vE wE hownE hgE hatE)
    have S3 := S2.out.own_push (i := 0) rfl (bb _) hownE hgE hatE
    obtain ⟨aE, cE, rfl⟩ := owns_form hownE
    rw [Nat.zero_add, List.nil_append] at S3
    clear hownE hgE hatE
    simp only [Nat.zero_add]
    have d0 := S3.cell (i := 3) rfl (o := 0) rfl
    have d1 := S3.cell (i := 3) rfl (o := 1) rfl
    have d2 := S3.cell (i := 3) rfl (o := 2) rfl
    replace S3 := Lib.hid S3
    clear S2
    refine hK.out _ _ ⟨d0, d1, d2⟩ (fun hS2 => ?_)
    clear hK d0 d1 d2
    (try simp only [put_rules])
    (refine walkT_ready (rs := [9]) (by kernel_rfl) (by simp) (by decide) ?_; refine AllT.cons rfl (fun K hK => ?_) AllT.nil)
    (refine step_append_src rfl _ _ rfl Try.underlying31 hiI hzI0 hzI1 hzI2 rfl (by decide) _ 0 _ rfl (S3.out.own (i := 1) rfl) ua cs.length uc _ rfl (srcI.out.grow S3.out.below) (ints_one cs) (by unfold maxLen; omega) (by omega) ?_; intro vI wI hownI hgI hatI)
    have S4 := S3.out.own_push (i := 1) rfl (bb _) hownI hgI hatI
    obtain ⟨aI, cI, rfl⟩ := owns_form hownI
    rw [Nat.zero_add, List.nil_append] at S4
    clear hownI hgI hatI
    simp only [Nat.zero_add]
    have d0 := S4.cell (i := 3) rfl (o := 0) rfl
    have d1 := S4.cell (i := 3) rfl (o := 1) rfl
    have d2 := S4.cell (i := 3) rfl (o := 2) rfl
    replace S4 := Lib.hid S4
    clear S3
    refine hK.out _ _ ⟨d0, d1, d2⟩ (fun hS3 => ?_)
    clear hK d0 d1 d2
    (try simp only [put_rules])
    have R1 := owns_row (T := tmTy) (i := 0) S4.out rfl rfl (by decide) (allE.out _)
    have R2 := owns_row (T := Ty.int) (i := 1) R1 rfl rfl (by decide) (allI.out _)
    have j0 := R2.cell (i := 2) rfl (o := 0) rfl
    have j1 := R2.cell (i := 2) rfl (o := 1) rfl
    have j2 := R2.cell (i := 2) rfl (o := 2) rfl
    have q0 := R2.frozen (i := 2) rfl 0
    have q1 := R2.frozen (i := 2) rfl 1
    have q2 := R2.frozen (i := 2) rfl 2
    have R3 := ((R2.store (i := 2) rfl 0 (.int .i64 V)).store (i := 2) rfl 1 (.slice aE es.length cE)).store (i := 2) rfl 2 (.slice aI cs.length cI)
    replace R3 := Lib.hid R3
    clear R1 R2 S4
    (refine walkT_done (by kernel_rfl) ?_)
    simp only [List.drop_succ_cons, List.drop_zero]
    go_wp2_with fail
    exact bodyPost_ret (v := .agg #[.int .i64 V, .slice aE es.length cE, .slice aI cs.length cI]) (by simp [results, Try.results52, go_sem, j0, j1, j2]) rfl ⟨_, _, rfl, R3.out.front (qs := [_, _])⟩
end Go.Proofs.Ytebhkfhdjdgokaa
