/- Contracts: a graph copied in the program. -/
import Derived.Test.YtebhkfhdjdgokaaChI
namespace Go.Proofs.Ytebhkfhdjdgokaa
open Go.RowKit

set_option maxRecDepth 100000 in
set_option maxHeartbeats 4000000 in
theorem clone_any (V : Int) (v u : Value) (es : List (Int × Int)) (cs : List Int) (F G : List Nat) (w : World) (hx : tmTy.row false w v es F) (hy : Ty.int.row false w u cs G) (h1 : es.length ≤ 100) (h2 : cs.length ≤ 100) :
    Calls Try.prog 54 #[.agg #[.int .i64 V, v, u]] w (OwnCh w V es cs) := by
  obtain ⟨a, c, rfl, hc1, hc2⟩ := Ty.row_len hx
  obtain ⟨ua, uc, rfl, hu1, hu2⟩ := Ty.row_len hy
  have S0 := (((Sp.start w).alloc_box #[.int .i64 V, .slice a es.length c, .slice ua cs.length uc] 35).alloc_box #[.int .i64 0, .slice none 0 0, .slice none 0 0] 35).drew
  simp only [World.size_alloc] at S0
  have c0 := S0.cell (i := 1) rfl (o := 0) rfl
  have c1 := S0.cell (i := 1) rfl (o := 1) rfl
  have c2 := S0.cell (i := 1) rfl (o := 2) rfl
  replace S0 := Lib.hid S0
  replace hx := Lib.hid hx
  replace hy := Lib.hid hy
  go_enter Try.func54, Try.ntmps54
  go_wp2_with fail
  refine wp_region_tail_lit (S := (fun w' => w'.cell? ⟨w.heap.size, 0, none⟩ = some (.int .i64 V) ∧ w'.cell? ⟨w.heap.size, 1, none⟩ = some (.slice a es.length c) ∧ w'.cell? ⟨w.heap.size, 2, none⟩ = some (.slice ua cs.length uc))) 8 [false, false, false, false, false, false, false, false, false, false] (by kernel_rfl) (by kernel_rfl) (by kernel_rfl) ?_ ?_
  · exact ⟨c0, c1, c2⟩
  intro hS
  (refine walkT_take (i := 0) (v := ?_) rfl (by kernel_rfl) (by decide) (by kernel_rfl) (by kernel_rfl) (fun _ _ _ h => h) (Or.inl ⟨by rfl, ?_⟩) (by assumption) ?_; rotate_left; (focus (intro w hSw; (try dsimp only at hSw); go_simp; (try with_reducible rfl); done)); (try simp only [put_rules]))
  (refine walkT_take (i := 1) (v := ?_) rfl (by kernel_rfl) (by decide) (by kernel_rfl) (by kernel_rfl) (fun _ _ _ h => h) (Or.inl ⟨by rfl, ?_⟩) (by assumption) ?_; rotate_left; (focus (intro w hSw; (try dsimp only at hSw); go_simp; (try with_reducible rfl); done)); (try simp only [put_rules]))
  (refine walkT_take (i := 2) (v := ?_) rfl (by kernel_rfl) (by decide) (by kernel_rfl) (by kernel_rfl) (fun _ _ _ h => h) (Or.inl ⟨by rfl, ?_⟩) (by assumption) ?_; rotate_left; (focus (intro w hSw; (try dsimp only at hSw); go_simp; (try with_reducible rfl); done)); (try simp only [put_rules]))
  (refine walkT_take (i := 3) (v := ?_) rfl (by kernel_rfl) (by decide) (by kernel_rfl) (by kernel_rfl) (fun _ _ _ h => h) (Or.inl ⟨by rfl, ?_⟩) (by assumption) ?_; rotate_left; (focus (intro w hSw; (try dsimp only at hSw); go_simp; (try with_reducible rfl); done)); (try simp only [put_rules]))
  (refine walkT_take (i := 5) (v := ?_) rfl (by kernel_rfl) (by decide) (by kernel_rfl) (by kernel_rfl) (fun _ _ _ h => h) (Or.inl ⟨by rfl, ?_⟩) (by assumption) ?_; rotate_left; (focus (intro w hSw; (try dsimp only at hSw); go_simp; (try with_reducible rfl); done)); (try simp only [put_rules]))
  (refine walkT_take (i := 6) (v := ?_) rfl (by kernel_rfl) (by decide) (by kernel_rfl) (by kernel_rfl) (fun _ _ _ h => h) (Or.inl ⟨by rfl, ?_⟩) (by assumption) ?_; rotate_left; (focus (intro w hSw; (try dsimp only at hSw); go_simp; (try with_reducible rfl); done)); (try simp only [put_rules]))
  (refine walkT_ready (rs := [4]) (by kernel_rfl) (by simp) (by decide) ?_; refine AllT.cons rfl (fun K hK => ?_) AllT.nil)
  go_simp
  go_at_call 78
  refine (cloneE_any _ es F _ (Ty.row_below hx.out S0.out.below (Ty.row_lt hx.out)) h1).mono ?_
  rintro e w1 ⟨v1, F1, rfl, hr1, hn1, hF1, hb1⟩
  obtain ⟨va, vc, rfl, _, _⟩ := Ty.row_len hr1
  have S1 := S0.out.row_new hb1 hr1 hn1 hF1
  have d0 := S1.cell (i := 2) rfl (o := 0) rfl
  have d1 := S1.cell (i := 2) rfl (o := 1) rfl
  have d2 := S1.cell (i := 2) rfl (o := 2) rfl
  replace S1 := Lib.hid S1
  clear S0 hr1 hn1 hF1 hb1 c0 c1 c2
  go_wp2_with fail
  refine hK.out _ _ ⟨d0, d1, d2⟩ (fun hS2 => ?_)
  clear hK hS
  (try simp only [put_rules])
  (refine walkT_ready (rs := [7]) (by kernel_rfl) (by simp) (by decide) ?_; refine AllT.cons rfl (fun K hK => ?_) AllT.nil)
  go_simp
  go_at_call 79
  refine (cloneI_any _ cs G _ (Ty.row_below hy.out S1.out.below (Ty.row_lt hy.out)) h2).mono ?_
  rintro e w2 ⟨v2, F2, rfl, hr2, hn2, hF2, hb2⟩
  obtain ⟨vb, vd, rfl, _, _⟩ := Ty.row_len hr2
  have S2 := S1.out.row_new hb2 hr2 hn2 hF2
  have e0 := S2.cell (i := 3) rfl (o := 0) rfl
  have e1 := S2.cell (i := 3) rfl (o := 1) rfl
  have e2 := S2.cell (i := 3) rfl (o := 2) rfl
  have j0 := S2.cell (i := 2) rfl (o := 0) rfl
  have j1 := S2.cell (i := 2) rfl (o := 1) rfl
  have j2 := S2.cell (i := 2) rfl (o := 2) rfl
  have q0 := S2.frozen (i := 2) rfl 0
  have q1 := S2.frozen (i := 2) rfl 1
  have q2 := S2.frozen (i := 2) rfl 2
  have S3 := ((S2.store (i := 2) rfl 0 (.int .i64 V)).store (i := 2) rfl 1 (.slice va es.length vc)).store (i := 2) rfl 2 (.slice vb cs.length vd)
  replace S3 := Lib.hid S3
  clear S1 S2 hr2 hn2 hF2 hb2
  go_wp2_with fail
  refine hK.out _ _ ⟨e0, e1, e2⟩ (fun hS3 => ?_)
  clear hK hS2
  (try simp only [put_rules])
  (refine walkT_done (by kernel_rfl) ?_)
  simp only [List.drop_succ_cons, List.drop_zero]
  go_wp2_with fail
  exact bodyPost_ret (v := .agg #[.int .i64 V, .slice va es.length vc, .slice vb cs.length vd]) (by simp [results, Try.results54, go_sem, j0, j1, j2]) rfl
    ⟨_, _, rfl, S3.out.swap.front (qs := [_, _])⟩
end Go.Proofs.Ytebhkfhdjdgokaa
