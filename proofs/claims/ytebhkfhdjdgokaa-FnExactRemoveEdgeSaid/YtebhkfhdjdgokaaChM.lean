/- Contracts: graphs with the charges of an edge turned, in the program. -/
import Derived.Test.YtebhkfhdjdgokaaChL
namespace Go.Proofs.Ytebhkfhdjdgokaa
open Go.RowKit

set_option maxRecDepth 100000 in
set_option maxHeartbeats 8000000 in
theorem flipped_any (V : Int) (v u : Value) (es : List (Int × Int)) (cs : List Int) (F G : List Nat) (w : World) (hx : tmTy.row false w v es F) (hy : Ty.int.row false w u cs G) (h1 : es.length ≤ 100) (h2 : cs.length ≤ 100)
    (K x1 x2 : Nat) (y1 y2 : Int) (hK : K < es.length) (he : es[K] = ((x1 : Int), (x2 : Int))) (h12 : x1 < x2) (hx2 : x2 < cs.length) (hc1 : cs[x1] = y1) (hc2 : cs[x2] = y2) (q1 : 0 ≤ y1 ∧ y1 ≤ 1) (q2 : 0 ≤ y2 ∧ y2 ≤ 1) :
    Calls Try.prog 44 #[.agg #[.int .i64 V, v, u], .int .i64 K] w (OwnCh w V es (turned cs x1 x2 y1 y2)) := by
  have hx1 : x1 < cs.length := by omega
  have hne : cs ≠ [] := fun e => by subst e; simp at hx1
  have hnee : es ≠ [] := fun e => by subst e; simp at hK
  have hxr := Lib.hid hx
  have hyr := Lib.hid hy
  obtain ⟨a, c, rfl, _, _, _, ⟨h, _⟩ | ⟨_, b, off, rfl, rfl, hxc⟩⟩ := row_tm hx
  · exact absurd h hnee
  obtain ⟨ua, uc, rfl, _, _, _, ⟨h, _⟩ | ⟨_, b', off', rfl, rfl, hyc⟩⟩ := row_int hy
  · exact absurd h hne
  have k0 := hxc K hK
  rw [he] at k0
  obtain ⟨k0, k1⟩ := k0
  have m1 := hyc x1 hx1
  have m2 := hyc x2 hx2
  rw [hc1] at m1
  rw [hc2] at m2
  simp only at k0 k1
  have S0 := (((Sp.start w).alloc_box #[.int .i64 V, .slice (some ⟨b, off, none⟩) es.length c, .slice (some ⟨b', off', none⟩) cs.length uc] 35).alloc_box #[.int .i64 0, .slice none 0 0, .slice none 0 0] 35)
  simp only [World.size_alloc] at S0
  replace S0 := Lib.hid S0
  replace k0 := Lib.hid k0
  replace k1 := Lib.hid k1
  replace m1 := Lib.hid m1
  replace m2 := Lib.hid m2
  have hI1 : I64 (1 - y1) := ⟨by omega, by omega⟩
  have hI2 : I64 (1 - y2) := ⟨by omega, by omega⟩
  have hw1 : IntKind.i64.wrap (1 - y1) = 1 - y1 := IntWalk.i64_in _ (by omega)
  have hw2 : IntKind.i64.wrap (1 - y2) = 1 - y2 := IntWalk.i64_in _ (by omega)
  have ix0 : ∀ w : World, (Instr.index 85 (.agg #[.int .i64 x1, .int .i64 x2]) (.int .i64 0)).run Try.prog w = .ok (.int .i64 x1) w := fun _ => by kernel_rfl
  have ix1 : ∀ w : World, (Instr.index 85 (.agg #[.int .i64 x1, .int .i64 x2]) (.int .i64 1)).run Try.prog w = .ok (.int .i64 x2) w := fun _ => by kernel_rfl
  clear hxc hyc hx hy
  go_enter Try.func44, Try.ntmps44
  go_wp2_with fail
  refine (clone_any V _ _ es cs _ _ _ (Ty.row_below hxr.out S0.out.below (Ty.row_lt hxr.out)) (Ty.row_below hyr.out S0.out.below (Ty.row_lt hyr.out)) h1 h2).mono ?_
  rintro e w1 ⟨v1, u1, rfl, T1⟩
  obtain ⟨_, tr⟩ := T1.row_at (i := 0) rfl
  obtain ⟨_, ti⟩ := T1.row_at (i := 1) rfl
  obtain ⟨va, vc, rfl, _, _⟩ := Ty.row_len tr
  obtain ⟨vb, vd, rfl, _, _⟩ := Ty.row_len ti
  obtain ⟨bo, oo, rfl⟩ := row_int_ptr ti hne
  have S1 := Lib.hid (((S0.out.seq T1).alloc_box #[.int .i64 V, .slice va es.length vc, .slice (some ⟨bo, oo, none⟩) cs.length vd] 35))
  have c1 := S1.out.cell (i := 4) rfl (o := 1) rfl
  have c3 := (k0.out.keep (S1.out.below.block b k0.out.lt)).1
  have c4 := (k1.out.keep (S1.out.below.block b k1.out.lt)).1
  clear S0 T1 tr ti
  go_wp2_with fail
  clear c1 c3 c4
  refine wp_loop_rounds 3 ?_
  rw [rounds_succ]
  go_wp2_with fail
  have S2 := S1.out.drew
  have c0 := S2.cell (i := 0) rfl (o := 2) rfl
  obtain ⟨F2, r2, n2, up2⟩ := S2.mark (i := 2) rfl
  obtain ⟨o1, o2, o3, o4⟩ := row_int_set r2 hx1 hI1
  rw [hc1] at o1
  have S3 := Lib.hid (up2 _ _ o3 o4)
  clear S2 up2 r2 o3 o4 n2 S1
  refine wp_region_tail_lit (S := (fun w' => w'.cell? ⟨w1.heap.size, 2, none⟩ = some (.slice (some ⟨bo, oo, none⟩) cs.length vd) ∧ w'.cell? ⟨bo, oo + x1, none⟩ = some (.int .i64 y1))) 10 [false, false, false, false, false, false, false, false, false, false, false] (by kernel_rfl) (by kernel_rfl) (by kernel_rfl) ?_ ?_
  · exact ⟨c0, o1⟩
  intro hS
  (refine walkT_take (i := 0) (v := ?_) rfl (by kernel_rfl) (by decide) (by kernel_rfl) (by kernel_rfl) (fun _ _ _ h => h) (Or.inl ⟨by rfl, ?_⟩) (by assumption) ?_; rotate_left; (focus (intro w hSw; (try dsimp only at hSw); go_simp; (try with_reducible rfl); done)); (try simp only [put_rules]))
  (refine walkT_take (i := 1) (v := ?_) rfl (by kernel_rfl) (by decide) (by kernel_rfl) (by kernel_rfl) (fun _ _ _ h => h) (Or.inl ⟨by rfl, ?_⟩) (by assumption) ?_; rotate_left; (focus (intro w hSw; (try dsimp only at hSw); go_simp; (try with_reducible rfl); done)); (try simp only [put_rules]))
  (refine walkT_take (i := 2) (v := ?_) rfl (by kernel_rfl) (by decide) (by kernel_rfl) (by kernel_rfl) (fun _ _ _ h => h) (Or.inl ⟨by rfl, ?_⟩) (by assumption) ?_; rotate_left; (focus (intro w hSw; (try dsimp only at hSw); go_simp; (try with_reducible rfl); done)); (try simp only [put_rules]))
  (refine walkT_take (i := 3) (v := ?_) rfl (by kernel_rfl) (by decide) (by kernel_rfl) (by kernel_rfl) (fun _ _ _ h => h) (Or.inl ⟨by rfl, ?_⟩) (by assumption) ?_; rotate_left; (focus (intro w hSw; (try dsimp only at hSw); go_simp; (try with_reducible rfl); done)); (try simp only [put_rules]))
  (refine walkT_take (i := 4) (v := ?_) rfl (by kernel_rfl) (by decide) (by kernel_rfl) (by kernel_rfl) (fun _ _ _ h => h) (Or.inl ⟨by rfl, ?_⟩) (by assumption) ?_; rotate_left; (focus (intro w hSw; (try dsimp only at hSw); go_simp; (try with_reducible rfl); done)); (try simp only [put_rules]))
  (refine walkT_take (i := 5) (v := ?_) rfl (by kernel_rfl) (by decide) (by kernel_rfl) (by kernel_rfl) (fun _ _ _ h => h) (Or.inl ⟨by rfl, ?_⟩) (by assumption) ?_; rotate_left; (focus (intro w hSw; (try dsimp only at hSw); go_simp; (try with_reducible rfl); done)); (try simp only [put_rules]))
  (refine walkT_take (i := 6) (v := ?_) rfl (by kernel_rfl) (by decide) (by kernel_rfl) (by kernel_rfl) (fun _ _ _ h => h) (Or.inl ⟨by rfl, ?_⟩) (by assumption) ?_; rotate_left; (focus (intro w hSw; (try dsimp only at hSw); go_simp; (try with_reducible rfl); done)); (try simp only [put_rules]))
  (refine walkT_take (i := 7) (v := ?_) rfl (by kernel_rfl) (by decide) (by kernel_rfl) (by kernel_rfl) (fun _ _ _ h => h) (Or.inl ⟨by rfl, ?_⟩) (by assumption) ?_; rotate_left; (focus (intro w hSw; (try dsimp only at hSw); go_simp; (try with_reducible rfl); done)); (try simp only [put_rules]))
  (refine walkT_take (i := 8) (v := ?_) rfl (by kernel_rfl) (by decide) (by kernel_rfl) (by kernel_rfl) (fun _ _ _ h => h) (Or.inl ⟨by rfl, ?_⟩) (by assumption) ?_; rotate_left; (focus (intro w hSw; (try dsimp only at hSw); go_simp; (try with_reducible rfl); done)); (try simp only [put_rules]))
  (refine walkT_take (i := 9) (v := ?_) rfl (by kernel_rfl) (by decide) (by kernel_rfl) (by kernel_rfl) (fun _ _ _ h => h) (Or.inl ⟨by rfl, ?_⟩) (by assumption) ?_; rotate_left; (focus (intro w hSw; (try dsimp only at hSw); go_simp; (try with_reducible rfl); done)); (try simp only [put_rules]))
  clear hS c0
  (refine walkT_done (by kernel_rfl) ?_)
  simp only [List.drop_succ_cons, List.drop_zero]
  go_wp2_with fail
  rw [rounds_succ]
  clear o1 o2
  rw [World.setCell_drew] at S3
  generalize hW : World.setCell _ (⟨bo, oo + x1, none⟩ : Addr) (.int .i64 (1 - y1)) = W2 at S3 ⊢
  clear hW
  go_wp2_with fail
  have S4 := S3.out.drew
  have c0 := S4.cell (i := 0) rfl (o := 2) rfl
  obtain ⟨F4, r4, n4, up4⟩ := S4.mark (i := 2) rfl
  have hsl : (cs.set x1 (1 - y1)).length = cs.length := List.length_set
  rw [← hsl] at r4 up4
  obtain ⟨o1, o2, o3, o4⟩ := row_int_set r4 (k := x2) (by rw [hsl]; exact hx2) hI2
  rw [List.getElem_set_ne (by omega), hc2] at o1
  have S5 := Lib.hid (up4 _ _ o3 o4)
  rw [hsl] at S5
  simp only [World.setCell_drew] at S5
  clear S4 up4 r4 o3 o4 n4 S3
  refine wp_region_tail_lit (S := (fun w' => w'.cell? ⟨w1.heap.size, 2, none⟩ = some (.slice (some ⟨bo, oo, none⟩) cs.length vd) ∧ w'.cell? ⟨bo, oo + x2, none⟩ = some (.int .i64 y2))) 10 [false, false, false, false, false, false, false, false, false, false, false] (by kernel_rfl) (by kernel_rfl) (by kernel_rfl) ?_ ?_
  · exact ⟨c0, o1⟩
  intro hS
  (refine walkT_take (i := 0) (v := ?_) rfl (by kernel_rfl) (by decide) (by kernel_rfl) (by kernel_rfl) (fun _ _ _ h => h) (Or.inl ⟨by rfl, ?_⟩) (by assumption) ?_; rotate_left; (focus (intro w hSw; (try dsimp only at hSw); go_simp; (try with_reducible rfl); done)); (try simp only [put_rules]))
  (refine walkT_take (i := 1) (v := ?_) rfl (by kernel_rfl) (by decide) (by kernel_rfl) (by kernel_rfl) (fun _ _ _ h => h) (Or.inl ⟨by rfl, ?_⟩) (by assumption) ?_; rotate_left; (focus (intro w hSw; (try dsimp only at hSw); go_simp; (try with_reducible rfl); done)); (try simp only [put_rules]))
  (refine walkT_take (i := 2) (v := ?_) rfl (by kernel_rfl) (by decide) (by kernel_rfl) (by kernel_rfl) (fun _ _ _ h => h) (Or.inl ⟨by rfl, ?_⟩) (by assumption) ?_; rotate_left; (focus (intro w hSw; (try dsimp only at hSw); go_simp; (try with_reducible rfl); done)); (try simp only [put_rules]))
  (refine walkT_take (i := 3) (v := ?_) rfl (by kernel_rfl) (by decide) (by kernel_rfl) (by kernel_rfl) (fun _ _ _ h => h) (Or.inl ⟨by rfl, ?_⟩) (by assumption) ?_; rotate_left; (focus (intro w hSw; (try dsimp only at hSw); go_simp; (try with_reducible rfl); done)); (try simp only [put_rules]))
  (refine walkT_take (i := 4) (v := ?_) rfl (by kernel_rfl) (by decide) (by kernel_rfl) (by kernel_rfl) (fun _ _ _ h => h) (Or.inl ⟨by rfl, ?_⟩) (by assumption) ?_; rotate_left; (focus (intro w hSw; (try dsimp only at hSw); go_simp; (try with_reducible rfl); done)); (try simp only [put_rules]))
  (refine walkT_take (i := 5) (v := ?_) rfl (by kernel_rfl) (by decide) (by kernel_rfl) (by kernel_rfl) (fun _ _ _ h => h) (Or.inl ⟨by rfl, ?_⟩) (by assumption) ?_; rotate_left; (focus (intro w hSw; (try dsimp only at hSw); go_simp; (try with_reducible rfl); done)); (try simp only [put_rules]))
  (refine walkT_take (i := 6) (v := ?_) rfl (by kernel_rfl) (by decide) (by kernel_rfl) (by kernel_rfl) (fun _ _ _ h => h) (Or.inl ⟨by rfl, ?_⟩) (by assumption) ?_; rotate_left; (focus (intro w hSw; (try dsimp only at hSw); go_simp; (try with_reducible rfl); done)); (try simp only [put_rules]))
  (refine walkT_take (i := 7) (v := ?_) rfl (by kernel_rfl) (by decide) (by kernel_rfl) (by kernel_rfl) (fun _ _ _ h => h) (Or.inl ⟨by rfl, ?_⟩) (by assumption) ?_; rotate_left; (focus (intro w hSw; (try dsimp only at hSw); go_simp; (try with_reducible rfl); done)); (try simp only [put_rules]))
  (refine walkT_take (i := 8) (v := ?_) rfl (by kernel_rfl) (by decide) (by kernel_rfl) (by kernel_rfl) (fun _ _ _ h => h) (Or.inl ⟨by rfl, ?_⟩) (by assumption) ?_; rotate_left; (focus (intro w hSw; (try dsimp only at hSw); go_simp; (try with_reducible rfl); done)); (try simp only [put_rules]))
  (refine walkT_take (i := 9) (v := ?_) rfl (by kernel_rfl) (by decide) (by kernel_rfl) (by kernel_rfl) (fun _ _ _ h => h) (Or.inl ⟨by rfl, ?_⟩) (by assumption) ?_; rotate_left; (focus (intro w hSw; (try dsimp only at hSw); go_simp; (try with_reducible rfl); done)); (try simp only [put_rules]))
  clear hS c0
  (refine walkT_done (by kernel_rfl) ?_)
  simp only [List.drop_succ_cons, List.drop_zero]
  go_wp2_with fail
  rw [rounds_succ]
  clear o1 o2
  generalize hW5 : ((World.setCell W2 (⟨bo, oo + x2, none⟩ : Addr) (.int .i64 (1 - y2))).drew).drew = W5 at S5 ⊢
  clear hW5
  have e0 := S5.out.cell (i := 0) rfl (o := 0) rfl
  have e1 := S5.out.cell (i := 0) rfl (o := 1) rfl
  have e2 := S5.out.cell (i := 0) rfl (o := 2) rfl
  have j0 := S5.out.cell (i := 3) rfl (o := 0) rfl
  have j1 := S5.out.cell (i := 3) rfl (o := 1) rfl
  have j2 := S5.out.cell (i := 3) rfl (o := 2) rfl
  have p0 := S5.out.frozen (i := 3) rfl 0
  have p1 := S5.out.frozen (i := 3) rfl 1
  have p2 := S5.out.frozen (i := 3) rfl 2
  have S6 := Lib.hid (((S5.out.store (i := 3) rfl 0 (.int .i64 V)).store (i := 3) rfl 1 (.slice va es.length vc)).store (i := 3) rfl 2 (.slice (some ⟨bo, oo, none⟩) cs.length vd)).tail
  clear S5
  go_wp2_with fail
  exact bodyPost_ret (v := .agg #[.int .i64 V, .slice va es.length vc, .slice (some ⟨bo, oo, none⟩) cs.length vd]) (by simp [results, Try.results44, go_sem, j0, j1, j2]) rfl
    ⟨_, _, rfl, S6.out.front (qs := [_, _])⟩
end Go.Proofs.Ytebhkfhdjdgokaa
