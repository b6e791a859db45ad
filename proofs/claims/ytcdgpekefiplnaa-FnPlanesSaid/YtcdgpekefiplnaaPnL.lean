/- Contracts: sums, quotients and opposites of inequalities, in the reference. -/
import Derived.Test.YtcdgpekefiplnaaPnK
namespace Go.Proofs.Ytcdgpekefiplnaa
open Go.RowKit

set_option maxRecDepth 100000 in
set_option maxHeartbeats 4000000 in
theorem l16Add_any (cs ds : List Int) (b d : Int) (A B : Option Addr) (ca da : Nat) (w : World) (hx : IntsAt w A cs) (hy : IntsAt w B ds) (hl : cs.length ≤ 12) (hd : ds.length = cs.length)
    (hc : ∀ c ∈ cs, Near c) (hcd : ∀ c ∈ ds, Near c) (hb : Near b) (he : Near d) :
    Calls Try.prog 29 #[.agg #[.slice A cs.length ca, .int .i64 b], .agg #[.slice B cs.length da, .int .i64 d]] w (QPost w (b + d) (combK addF cs ds cs.length)) := by
  obtain ⟨i0, hi, hz0, hz1, hz2⟩ := info_parts infoInt
  obtain ⟨z, hz⟩ : ∃ z, b + d = z := ⟨_, rfl⟩
  rw [hz]
  have hwz : IntKind.i64.wrap (b + d) = z := by rw [IntWalk.i64_in _ (by unfold Near at hb he; omega)]; exact hz
  have S0 := ((Sp.start w).alloc_box #[.slice A cs.length ca, .int .i64 b] 26).alloc_box #[.slice B cs.length da, .int .i64 d] 26 |>.alloc_box #[.slice none 0 0, .int .i64 0] 26 |>.alloc_box #[.slice none 0 0, .int .i64 z] 26 |>.own_nil 3 1
  simp only [World.size_alloc] at S0
  replace S0 := Lib.hid S0
  have hxH := Lib.hid hx
  have hyH := Lib.hid hy
  have hcH := Lib.hid hc
  have hdH := Lib.hid hcd
  replace hd := Lib.hid hd
  have hbH := Lib.hid (combK_64 (f := addF) hc hcd (fun x y hx hy => by unfold addF I64; unfold Near at hx hy; omega))
  clear hx hy hc hcd hz
  go_enter Try.func29, Try.ntmps29
  go_wp2_with fail
  go_loopw [6] (fun i wr => ∃ (k : Nat) (Bk : Option Addr) (cap : Nat), k ≤ cs.length ∧ i = .int .i64 k ∧ Hid (Sp w wr [Own 3 1 (.slice Bk k cap) k ((combK addF cs ds k).map (.int .i64)), Box (w.heap.size + 1 + 1 + 1) 26 #[.slice Bk k cap, .int .i64 z], Box (w.heap.size + 1 + 1) 26 #[.slice none 0 0, .int .i64 0], Box (w.heap.size + 1) 26 #[.slice B cs.length da, .int .i64 d], Box w.heap.size 26 #[.slice A cs.length ca, .int .i64 b]])) (fun i _ => cs.length - (intOf i).toNat)
  case atStart => exact ⟨0, none, 0, Nat.zero_le _, rfl, S0⟩
  case round =>
    obtain ⟨k, Bk, cap, hk, rfl, HS⟩ := hrel
    clear S0
    by_cases hlt : k < cs.length
    · obtain ⟨ab, off, rfl, m0⟩ := (hxH.out.grow HS.out.below).at_ k hlt
      obtain ⟨ab2, off2, rfl, m1⟩ := (hyH.out.grow HS.out.below).at_ k (by rw [hd.out]; exact hlt)
      have hk2 : k < ds.length := by rw [hd.out]; exact hlt
      have d0 := HS.out.cell (i := 1) rfl (o := 0) rfl
      have d1 := HS.out.cell (i := 4) rfl (o := 0) rfl
      have d2 := HS.out.cell (i := 3) rfl (o := 0) rfl
      have hsn := combK_succ addF cs ds hlt hk2
      have hn1 := hcH.out _ (List.getElem_mem hlt)
      have hn2 := hdH.out _ (List.getElem_mem hk2)
      generalize cs[k] = x at *
      generalize ds[k] = y at *
      obtain ⟨u, hu⟩ : ∃ u, x + y = u := ⟨_, rfl⟩
      have hwu : IntKind.i64.wrap (x + y) = u := by rw [IntWalk.i64_in _ (by unfold Near at hn1 hn2; omega)]; exact hu
      have hsN : Hid (combK addF cs ds (k + 1) = combK addF cs ds k ++ [u]) := by rw [hsn, show addF x y = u from hu]; rfl
      clear hsn hn1 hn2 hu
      go_wp2_with fail
      refine wp_region_tail_lit (S := (fun w' => w'.cell? ⟨(w.heap.size + 1 + 1 + 1), 0, none⟩ = some (.slice Bk k cap) ∧ w'.cell? ⟨w.heap.size, 0, none⟩ = some (.slice (some ⟨ab, off, none⟩) cs.length ca) ∧ w'.cell? ⟨ab, off + k, none⟩ = some (.int .i64 x) ∧ w'.cell? ⟨w.heap.size + 1, 0, none⟩ = some (.slice (some ⟨ab2, off2, none⟩) cs.length da) ∧ w'.cell? ⟨ab2, off2 + k, none⟩ = some (.int .i64 y))) 14 [false, false, false, false, false, false, false, false, false, false, false, false, false, false, false, false, false] (by kernel_rfl) (by kernel_rfl) (by kernel_rfl) ?_ ?_
      · exact ⟨d0, d1, m0, d2, m1⟩
      intro hSc
      (refine walkT_take (i := 0) (v := ?_) rfl (by kernel_rfl) (by decide) (by kernel_rfl) (by kernel_rfl) (fun _ _ _ h => h) (Or.inl ⟨by rfl, ?_⟩) (by assumption) ?_; rotate_left; (focus (intro w hSw; (try dsimp only at hSw); go_simp; (try with_reducible rfl); done)); (try simp only [put_rules]))
      (refine walkT_take (i := 1) (v := ?_) rfl (by kernel_rfl) (by decide) (by kernel_rfl) (by kernel_rfl) (fun _ _ _ h => h) (Or.inl ⟨by rfl, ?_⟩) (by assumption) ?_; rotate_left; (focus (intro w hSw; (try dsimp only at hSw); go_simp; (try with_reducible rfl); done)); (try simp only [put_rules]))
      (refine walkT_take (i := 2) (v := ?_) rfl (by kernel_rfl) (by decide) (by kernel_rfl) (by kernel_rfl) (fun _ _ _ h => h) (Or.inl ⟨by rfl, ?_⟩) (by assumption) ?_; rotate_left; (focus (intro w hSw; (try dsimp only at hSw); go_simp; (try with_reducible rfl); done)); (try simp only [put_rules]))
      (refine walkT_take (i := 3) (v := ?_) rfl (by kernel_rfl) (by decide) (by kernel_rfl) (by kernel_rfl) (fun _ _ _ h => h) (Or.inl ⟨by rfl, ?_⟩) (by assumption) ?_; rotate_left; (focus (intro w hSw; (try dsimp only at hSw); go_simp; (try with_reducible rfl); done)); (try simp only [put_rules]))
      (refine walkT_take (i := 4) (v := ?_) rfl (by kernel_rfl) (by decide) (by kernel_rfl) (by kernel_rfl) (fun _ _ _ h => h) (Or.inl ⟨by rfl, ?_⟩) (by assumption) ?_; rotate_left; (focus (intro w hSw; (try dsimp only at hSw); go_simp; (try with_reducible rfl); done)); (try simp only [put_rules]))
      (refine walkT_take (i := 5) (v := ?_) rfl (by kernel_rfl) (by decide) (by kernel_rfl) (by kernel_rfl) (fun _ _ _ h => h) (Or.inl ⟨by rfl, ?_⟩) (by assumption) ?_; rotate_left; (focus (intro w hSw; (try dsimp only at hSw); go_simp; (try with_reducible rfl); done)); (try simp only [put_rules]))
      (refine walkT_take (i := 6) (v := ?_) rfl (by kernel_rfl) (by decide) (by kernel_rfl) (by kernel_rfl) (fun _ _ _ h => h) (Or.inl ⟨by rfl, ?_⟩) (by assumption) ?_; rotate_left; (focus (intro w hSw; (try dsimp only at hSw); go_simp; (try with_reducible rfl); done)); (try simp only [put_rules]))
      (refine walkT_take (i := 7) (v := ?_) rfl (by kernel_rfl) (by decide) (by kernel_rfl) (by kernel_rfl) (fun _ _ _ h => h) (Or.inl ⟨by rfl, ?_⟩) (by assumption) ?_; rotate_left; (focus (intro w hSw; (try dsimp only at hSw); go_simp; (try with_reducible rfl); done)); (try simp only [put_rules]))
      (refine walkT_take (i := 8) (v := ?_) rfl (by kernel_rfl) (by decide) (by kernel_rfl) (by kernel_rfl) (fun _ _ _ h => h) (Or.inl ⟨by rfl, ?_⟩) (by assumption) ?_; rotate_left; (focus (intro w hSw; (try dsimp only at hSw); go_simp; (try with_reducible rfl); done)); (try simp only [put_rules]))
      (refine walkT_take (i := 9) (v := ?_) rfl (by kernel_rfl) (by decide) (by kernel_rfl) (by kernel_rfl) (fun _ _ _ h => h) (Or.inl ⟨by rfl, ?_⟩) (by assumption) ?_; rotate_left; (focus (intro w hSw; (try dsimp only at hSw); go_simp; (try with_reducible rfl); done)); (try simp only [put_rules]))
      (refine walkT_take (i := 10) (v := ?_) rfl (by kernel_rfl) (by decide) (by kernel_rfl) (by kernel_rfl) (fun _ _ _ h => h) (Or.inl ⟨by rfl, ?_⟩) (by assumption) ?_; rotate_left; (focus (intro w hSw; (try dsimp only at hSw); go_simp; (try with_reducible rfl); done)); (try simp only [put_rules]))
      (refine walkT_take (i := 11) (v := ?_) rfl (by kernel_rfl) (by decide) (by kernel_rfl) (by kernel_rfl) (fun _ _ _ h => h) (Or.inl ⟨by rfl, ?_⟩) (by assumption) ?_; rotate_left; (focus (intro w hSw; (try dsimp only at hSw); go_simp; (try with_reducible rfl); done)); (try simp only [put_rules]))
      (refine walkT_take (i := 12) (v := ?_) rfl (by kernel_rfl) (by decide) (by kernel_rfl) (by kernel_rfl) (fun _ _ _ h => h) (Or.inl ⟨by rfl, ?_⟩) (by assumption) ?_; rotate_left; (focus (intro w hSw; (try dsimp only at hSw); go_simp; (try with_reducible rfl); done)); (try simp only [put_rules]))
      (refine walkT_ready (rs := [13]) (by kernel_rfl) (by simp) (by decide) ?_; refine AllT.cons rfl (fun K hK => ?_) AllT.nil)
      go_simp
      have S3 := HS.out.drew.alloc_box #[.int .i64 u] 3
      (repeat (first | simp only [drew_size] at S3 | simp only [World.size_setCell] at S3 | simp only [World.size_alloc] at S3))
      have kB := S3.cell (i := 0) rfl (o := 0) rfl
      have hb3 := bal (bdr (bb wr)) (.cells #[.int .i64 u] 3)
      have e0 := S3.cell (i := 2) rfl (o := 0) rfl
      have e1 := S3.cell (i := 5) rfl (o := 0) rfl
      have e2 := ((bcell hb3).1 _ _ (World.block_lt_of_cell? _ _ m0)).trans m0
      have e3 := S3.cell (i := 4) rfl (o := 0) rfl
      have e4 := ((bcell hb3).1 _ _ (World.block_lt_of_cell? _ _ m1)).trans m1
      replace S3 := Lib.hid S3
      clear HS hSc d0 d1 m0 hb3 d2 m1
      refine hK.out _ _ ⟨e0, e1, e2, e3, e4⟩ (fun _ => ?_)
      clear hK e0 e1 e2 e3 e4
      (try simp only [put_rules])
      (refine walkT_done (by kernel_rfl) ?_)
      simp only [List.drop_succ_cons, List.drop_zero]
      (refine wpList_append_src rfl _ _ rfl Try.underlying24 hi hz0 hz1 hz2 rfl (by decide) _ _ _ rfl (S3.out.own (i := 1) rfl) _ 1 1 [.int .i64 u] rfl (Src.one kB) (by simp [Value.oneCell']) (by unfold maxLen; omega) (by omega) ?_; intro vZ wZ hownZ hgZ hatZ)
      have S4 := S3.out.own_push (i := 1) rfl (bb _) hownZ hgZ hatZ
      obtain ⟨aZ, cZ, rfl⟩ := owns_form hownZ
      have p0 := S4.frozen (i := 2) rfl 0
      have j0 := S4.cell (i := 2) rfl (o := 0) rfl
      have S5 := (S4.store (i := 2) rfl 0 (.slice aZ (k + 1) cZ)).tail
      have hmap : (combK addF cs ds k).map (Value.int .i64) ++ [.int .i64 u] = (combK addF cs ds (k + 1)).map (.int .i64) := by rw [hsN.out, List.map_append]; rfl
      rw [hmap] at S5
      have S6 := Lib.hid S5
      clear S3 S4 S5 kB hownZ hgZ hatZ hmap
      go_wp2_with fail
      go_roundw
      case rel => exact ⟨k + 1, aZ, cZ, by omega, by go_num, S6⟩
      case measure => simp [intOf]; omega
    · have hge : ¬ (k : Int) < (cs.length : Int) := by omega
      obtain rfl : k = cs.length := by omega
      have d0 := HS.out.cell (i := 1) rfl (o := 0) rfl
      have d1 := HS.out.cell (i := 1) rfl (o := 1) rfl
      have q0 := HS.out.cell (i := 4) rfl (o := 0) rfl
      have r0 := HS.out.cell (i := 2) rfl (o := 0) rfl
      have r1 := HS.out.cell (i := 2) rfl (o := 1) rfl
      have f0 := HS.out.frozen (i := 2) rfl 0
      have f1 := HS.out.frozen (i := 2) rfl 1
      have SF := (HS.out.store (i := 2) rfl 0 (.slice Bk cs.length cap)).store (i := 2) rfl 1 (.int .i64 z)
      have j0 := SF.cell (i := 2) rfl (o := 0) rfl
      have j1 := SF.cell (i := 2) rfl (o := 1) rfl
      have hB := SF.below
      have hI := Lib.hid (q_own (cs := combK addF cs ds cs.length) (A := Bk) (c := cap) (by have h := SF.own (i := 0) rfl; rw [combK_len]; exact h) (hbH.out _))
      have hfr := Lib.hid (own_fresh (SF.owns_end (i := 0) rfl))
      clear SF HS
      go_wp2_with fail
      exact bodyPost_ret (v := .agg #[.slice Bk cs.length cap, .int .i64 z]) (by simp [results, Try.results29, go_sem, j0, j1]) rfl (by unfold QPost; rw [combK_len]; exact ⟨Bk, cap, rfl, hI.out, hfr.out, hB⟩)

def tdF (k x _y : Int) : Int := x.tdiv k
theorem comb_td (k : Int) (cs : List Int) : combK (tdF k) cs cs cs.length = divQ k cs := comb_map (fun x => x.tdiv k) cs
theorem any_no {cs : List Int} {p : Int → Bool} {k : Nat} (hk : k < cs.length) (h0 : (cs.take k).any p = false) (h : p cs[k] = false) : (cs.take (k + 1)).any p = false := by
  rw [List.take_succ_eq_append_getElem hk, List.any_append, h0]
  simp [h]
set_option maxRecDepth 100000 in
set_option maxHeartbeats 4000000 in
theorem l16Divide_any (m : Int) (hm : 2 ≤ m ∧ m ≤ 1000) (cs : List Int) (b : Int) (A : Option Addr) (ca : Nat) (w : World) (hx : IntsAt w A cs) (hl : cs.length ≤ 12) (hc : ∀ c ∈ cs, Near c) (hb : Near b) :
    Calls Try.prog 35 #[.agg #[.slice A cs.length ca, .int .i64 b], .int .i64 m] w (DPost w (!(cs.any fun c => c.tmod m != 0)) (upQ b m) (divQ m cs)) := by
  obtain ⟨i0, hi, hz0, hz1, hz2⟩ := info_parts infoInt
  obtain ⟨z, hz⟩ : ∃ z, upQ b m = z := ⟨_, rfl⟩
  have hup := Lib.hid (fun W => l16Up_any b m hm hb W)
  rw [hz] at hup
  rw [hz, ← comb_td]
  obtain ⟨Q, hQ⟩ : ∃ Q, (cs.any fun c => c.tmod m != 0) = Q := ⟨_, rfl⟩
  rw [hQ]
  have hm0 : (m == 0) = false := by rw [beq_eq_false_iff_ne]; omega
  have hmz : ¬ m = 0 := by omega
  have hm1 : (m == -1) = false := by rw [beq_eq_false_iff_ne]; omega
  have SX := ((Sp.start w).alloc_box #[.slice A cs.length ca, .int .i64 b] 26).alloc_box #[.slice none 0 0, .int .i64 0] 26
  simp only [World.size_alloc] at SX
  have S0 := SX.alloc_box #[.slice none 0 0, .int .i64 z] 26 |>.own_nil 3 1
  simp only [World.size_alloc] at S0
  have c1 := SX.cell (i := 1) rfl (o := 1) rfl
  clear SX
  replace S0 := Lib.hid S0
  have hxH := Lib.hid hx
  have hcH := Lib.hid hc
  replace hQ := Lib.hid hQ
  have hbH := Lib.hid (combK_64 (f := tdF m) hc hc (fun x y hx hy => by have := tdiv_near (k := m) hx; unfold tdF I64; omega))
  clear hx hc hz
  go_enter Try.func35, Try.ntmps35
  go_wp2_with fail
  refine (hup.out _).mono ?_
  rintro e w1 ⟨rfl, rfl⟩
  clear hup c1
  go_wp2_with fail
  go_loopw [7] (fun i wr => ∃ (k : Nat) (Bk : Option Addr) (cap : Nat), k ≤ cs.length ∧ i = .int .i64 k ∧ Hid ((cs.take k).any (fun c => c.tmod m != 0) = false) ∧ Hid (Sp w wr [Own 3 1 (.slice Bk k cap) k ((combK (tdF m) cs cs k).map (.int .i64)), Box (w.heap.size + 1 + 1) 26 #[.slice Bk k cap, .int .i64 z], Box (w.heap.size + 1) 26 #[.slice none 0 0, .int .i64 0], Box w.heap.size 26 #[.slice A cs.length ca, .int .i64 b]])) (fun i _ => cs.length - (intOf i).toNat)
  case atStart => exact ⟨0, none, 0, Nat.zero_le _, rfl, rfl, S0⟩
  case round =>
    obtain ⟨k, Bk, cap, hk, rfl, HD, HS⟩ := hrel
    clear S0
    by_cases hlt : k < cs.length
    · obtain ⟨ab, off, rfl, m0⟩ := (hxH.out.grow HS.out.below).at_ k hlt
      have d0 := HS.out.cell (i := 1) rfl (o := 0) rfl
      have d1 := HS.out.cell (i := 3) rfl (o := 0) rfl
      have hsn := combK_succ (tdF m) cs cs hlt hlt
      have hn1 := hcH.out _ (List.getElem_mem hlt)
      by_cases hrem : (cs[k].tmod m != 0) = true
      case pos =>
        have hQ2 : Hid (Q = true) := by rw [← hQ.out, List.any_eq_true]; exact ⟨_, List.getElem_mem hlt, hrem⟩
        generalize cs[k] = x at *
        have r0 := HS.out.cell (i := 2) rfl (o := 0) rfl
        have r1 := HS.out.cell (i := 2) rfl (o := 1) rfl
        have f0 := HS.out.frozen (i := 2) rfl 0
        have f1 := HS.out.frozen (i := 2) rfl 1
        have SF := (HS.out.store (i := 2) rfl 0 (.slice none 0 0)).store (i := 2) rfl 1 (.int .i64 0)
        have j0 := SF.cell (i := 2) rfl (o := 0) rfl
        have j1 := SF.cell (i := 2) rfl (o := 1) rfl
        have hB := SF.below
        clear SF
        clear HS
        go_wp2_with fail
        exact bodyPost_ret (v := .tuple #[.agg #[.slice none 0 0, .int .i64 0], .bool false]) (by simp [results, Try.results35, go_sem, j0, j1]) rfl (by unfold DPost; rw [hQ2.out]; exact ⟨none, 0, rfl, IntsAt.nil _ _, fresh_none w, hB⟩)
      replace hrem : (cs[k].tmod m != 0) = false := by simpa using hrem
      have hD := Lib.hid (any_no (p := fun c => c.tmod m != 0) hlt HD.out hrem)
      clear HD
      generalize cs[k] = x at *
      obtain ⟨u, hu⟩ : ∃ u, x.tdiv m = u := ⟨_, rfl⟩
      have hun := tdiv_near (k := m) hn1
      have hwu : wrap64 (x.tdiv m) = u := by rw [IntWalk.wrap64_in _ (by omega)]; exact hu
      have hwu2 : IntKind.i64.wrap (x.tdiv m) = u := by rw [IntWalk.i64_in _ (by omega)]; exact hu
      have hsN : Hid (combK (tdF m) cs cs (k + 1) = combK (tdF m) cs cs k ++ [u]) := by rw [hsn, show tdF m x x = u from hu]; rfl
      clear hsn hn1 hun hu
      go_wp2_with fail
      refine wp_region_tail_lit (S := (fun w' => w'.cell? ⟨(w.heap.size + 1 + 1), 0, none⟩ = some (.slice Bk k cap) ∧ w'.cell? ⟨w.heap.size, 0, none⟩ = some (.slice (some ⟨ab, off, none⟩) cs.length ca) ∧ w'.cell? ⟨ab, off + k, none⟩ = some (.int .i64 x))) 10 [false, false, false, false, false, false, false, false, false, false, false, false, false] (by kernel_rfl) (by kernel_rfl) (by kernel_rfl) ?_ ?_
      · exact ⟨d0, d1, m0⟩
      intro hSc
      (refine walkT_take (i := 0) (v := ?_) rfl (by kernel_rfl) (by decide) (by kernel_rfl) (by kernel_rfl) (fun _ _ _ h => h) (Or.inl ⟨by rfl, ?_⟩) (by assumption) ?_; rotate_left; (focus (intro w hSw; (try dsimp only at hSw); go_simp; (try with_reducible rfl); done)); (try simp only [put_rules]))
      (refine walkT_take (i := 1) (v := ?_) rfl (by kernel_rfl) (by decide) (by kernel_rfl) (by kernel_rfl) (fun _ _ _ h => h) (Or.inl ⟨by rfl, ?_⟩) (by assumption) ?_; rotate_left; (focus (intro w hSw; (try dsimp only at hSw); go_simp; (try with_reducible rfl); done)); (try simp only [put_rules]))
      (refine walkT_take (i := 2) (v := ?_) rfl (by kernel_rfl) (by decide) (by kernel_rfl) (by kernel_rfl) (fun _ _ _ h => h) (Or.inl ⟨by rfl, ?_⟩) (by assumption) ?_; rotate_left; (focus (intro w hSw; (try dsimp only at hSw); go_simp; (try with_reducible rfl); done)); (try simp only [put_rules]))
      (refine walkT_take (i := 3) (v := ?_) rfl (by kernel_rfl) (by decide) (by kernel_rfl) (by kernel_rfl) (fun _ _ _ h => h) (Or.inl ⟨by rfl, ?_⟩) (by assumption) ?_; rotate_left; (focus (intro w hSw; (try dsimp only at hSw); go_simp; (try with_reducible rfl); done)); (try simp only [put_rules]))
      (refine walkT_take (i := 4) (v := ?_) rfl (by kernel_rfl) (by decide) (by kernel_rfl) (by kernel_rfl) (fun _ _ _ h => h) (Or.inl ⟨by rfl, ?_⟩) (by assumption) ?_; rotate_left; (focus (intro w hSw; (try dsimp only at hSw); go_simp; (try with_reducible rfl); done)); (try simp only [put_rules]))
      (refine walkT_take (i := 5) (v := ?_) rfl (by kernel_rfl) (by decide) (by kernel_rfl) (by kernel_rfl) (fun _ _ _ h => h) (Or.inl ⟨by rfl, ?_⟩) (by assumption) ?_; rotate_left; (focus (intro w hSw; (try dsimp only at hSw); go_simp; (try with_reducible rfl); done)); (try simp only [put_rules]))
      (refine walkT_take (i := 6) (v := ?_) rfl (by kernel_rfl) (by decide) (by kernel_rfl) (by kernel_rfl) (fun _ _ _ h => h) (Or.inl ⟨by rfl, ?_⟩) (by assumption) ?_; rotate_left; (focus (intro w hSw; (try dsimp only at hSw); go_simp; (try with_reducible rfl); done)); (try simp only [put_rules]))
      (refine walkT_take (i := 7) (v := ?_) rfl (by kernel_rfl) (by decide) (by kernel_rfl) (by kernel_rfl) (fun _ _ _ h => h) (Or.inl ⟨by rfl, ?_⟩) (by assumption) ?_; rotate_left; (focus (intro w hSw; (try dsimp only at hSw); go_simp; (try with_reducible rfl); done)); (try simp only [put_rules]))
      (refine walkT_take (i := 8) (v := ?_) rfl (by kernel_rfl) (by decide) (by kernel_rfl) (by kernel_rfl) (fun _ _ _ h => h) (Or.inl ⟨by rfl, ?_⟩) (by assumption) ?_; rotate_left; (focus (intro w hSw; (try dsimp only at hSw); go_simp; (try with_reducible rfl); done)); (try simp only [put_rules]))
      (refine walkT_ready (rs := [9]) (by kernel_rfl) (by simp) (by decide) ?_; refine AllT.cons rfl (fun K hK => ?_) AllT.nil)
      go_simp
      have S3 := HS.out.drew.alloc_box #[.int .i64 u] 3
      (repeat (first | simp only [drew_size] at S3 | simp only [World.size_setCell] at S3 | simp only [World.size_alloc] at S3))
      have kB := S3.cell (i := 0) rfl (o := 0) rfl
      have hb3 := bal (bdr (bb wr)) (.cells #[.int .i64 u] 3)
      have e0 := S3.cell (i := 2) rfl (o := 0) rfl
      have e1 := S3.cell (i := 4) rfl (o := 0) rfl
      have e2 := ((bcell hb3).1 _ _ (World.block_lt_of_cell? _ _ m0)).trans m0
      replace S3 := Lib.hid S3
      clear HS hSc d0 d1 m0 hb3
      refine hK.out _ _ ⟨e0, e1, e2⟩ (fun _ => ?_)
      clear hK e0 e1 e2
      (try simp only [put_rules])
      (refine walkT_done (by kernel_rfl) ?_)
      simp only [List.drop_succ_cons, List.drop_zero]
      (refine wpList_append_src rfl _ _ rfl Try.underlying24 hi hz0 hz1 hz2 rfl (by decide) _ _ _ rfl (S3.out.own (i := 1) rfl) _ 1 1 [.int .i64 u] rfl (Src.one kB) (by simp [Value.oneCell']) (by unfold maxLen; omega) (by omega) ?_; intro vZ wZ hownZ hgZ hatZ)
      have S4 := S3.out.own_push (i := 1) rfl (bb _) hownZ hgZ hatZ
      obtain ⟨aZ, cZ, rfl⟩ := owns_form hownZ
      have p0 := S4.frozen (i := 2) rfl 0
      have j0 := S4.cell (i := 2) rfl (o := 0) rfl
      have S5 := (S4.store (i := 2) rfl 0 (.slice aZ (k + 1) cZ)).tail
      have hmap : (combK (tdF m) cs cs k).map (Value.int .i64) ++ [.int .i64 u] = (combK (tdF m) cs cs (k + 1)).map (.int .i64) := by rw [hsN.out, List.map_append]; rfl
      rw [hmap] at S5
      have S6 := Lib.hid S5
      clear S3 S4 S5 kB hownZ hgZ hatZ hmap
      go_wp2_with fail
      go_roundw
      case rel => exact ⟨k + 1, aZ, cZ, by omega, by go_num, hD, S6⟩
      case measure => simp [intOf]; omega
    · have hge : ¬ (k : Int) < (cs.length : Int) := by omega
      obtain rfl : k = cs.length := by omega
      have hQ2 : Hid (Q = false) := by rw [← hQ.out]; have := HD.out; rwa [List.take_length] at this
      clear HD
      have d0 := HS.out.cell (i := 1) rfl (o := 0) rfl
      have d1 := HS.out.cell (i := 1) rfl (o := 1) rfl
      have q0 := HS.out.cell (i := 3) rfl (o := 0) rfl
      have r0 := HS.out.cell (i := 2) rfl (o := 0) rfl
      have r1 := HS.out.cell (i := 2) rfl (o := 1) rfl
      have f0 := HS.out.frozen (i := 2) rfl 0
      have f1 := HS.out.frozen (i := 2) rfl 1
      have SF := (HS.out.store (i := 2) rfl 0 (.slice Bk cs.length cap)).store (i := 2) rfl 1 (.int .i64 z)
      have j0 := SF.cell (i := 2) rfl (o := 0) rfl
      have j1 := SF.cell (i := 2) rfl (o := 1) rfl
      have hB := SF.below
      have hI := Lib.hid (q_own (cs := combK (tdF m) cs cs cs.length) (A := Bk) (c := cap) (by have h := SF.own (i := 0) rfl; rw [combK_len]; exact h) (hbH.out _))
      have hfr := Lib.hid (own_fresh (SF.owns_end (i := 0) rfl))
      clear SF HS
      go_wp2_with fail
      exact bodyPost_ret (v := .tuple #[.agg #[.slice Bk cs.length cap, .int .i64 z], .bool true]) (by simp [results, Try.results35, go_sem, j0, j1]) rfl (by unfold DPost; rw [hQ2.out]; refine ⟨Bk, cap, ?_, hI.out, hfr.out, hB⟩; show _ = Ending.returned (.tuple #[.agg #[.slice Bk (combK (tdF m) cs cs cs.length).length cap, .int .i64 z], .bool true]); rw [combK_len])

end Go.Proofs.Ytcdgpekefiplnaa
