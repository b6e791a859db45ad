/- Contracts: the restricted Cnf in the reference. -/
import Derived.Test.YtkgfgheiabapoaaClL
import Derived.Test.YtkgfgheiabapoaaSepA
import Derived.Test.YtkgfgheiabapoaaHTail
namespace Go.Proofs.Ytkgfgheiabapoaa
open Go.RowKit Go.Shelf

/-- What 'l3Under' has made so far. -/
def UMem (vars : Int) (arg v : Value) (cs : List Value) (yss : List (List Int)) (w wr : World) : Prop :=
  Sp w wr [Rows Ty.int 22 v cs yss, Box (w.heap.size + 3) 68 #[.int .i64 vars, v], Box (w.heap.size + 1) 68 #[.int .i64 0, .slice none 0 0], Box w.heap.size 68 #[.int .i64 vars, arg]]

theorem UMem.start (vars : Int) (arg : Value) (w : World) : UMem vars arg (.slice (some ⟨w.heap.size + 2, 0, none⟩) 0 0) [] [] w
    ((((w.alloc (.cells #[.int .i64 vars, arg] 68)).alloc (.cells #[.int .i64 0, .slice none 0 0] 68)).alloc (.cells #[] 22)).alloc (.cells #[.int .i64 vars, .slice (some ⟨w.heap.size + 2, 0, none⟩) 0 0] 68)) :=
  by
  have h := (((((Sp.start w).alloc_box #[.int .i64 vars, arg] 68).alloc_box #[.int .i64 0, .slice none 0 0] 68).rows_made Ty.int 22).alloc_box #[.int .i64 vars, .slice (some ⟨w.heap.size + 2, 0, none⟩) 0 0] 68).swap
  unfold UMem
  simpa using h

/-- What RestrictCnf's own work gives. -/
def UnderPost (w : World) (vars : Int) (yss : List (List Int)) (e : Ending) (w' : World) : Prop :=
  ∃ (v : Value) (F : List Nat), e = .returned (.agg #[.int .i64 vars, v]) ∧ (Ty.slice Ty.int).row true w' v yss F ∧ F.Nodup ∧ (∀ b ∈ F, w.heap.size ≤ b) ∧ Below w.heap.size w w'

set_option maxRecDepth 100000 in
set_option maxHeartbeats 4000000 in
theorem l3Under_any (vars : Int) (v u : Value) (xss : List (List Int)) (a : List Int) (F G : List Nat) (w : World) (hx : (Ty.slice Ty.int).row false w v xss F) (hy : Ty.int.row false w u a G) (hlen : xss.length ≤ 100000) (hm : ∀ c ∈ xss, c.length ≤ 10000000000) :
    Calls Try.prog 101 #[.agg #[.int .i64 vars, v], u] w (UnderPost w vars (restrictB xss a)) := by
  obtain ⟨i0, hi, hz0, hz1, hz2⟩ := info_parts infoRow
  obtain ⟨ad, cap, rfl, hx1, hx2, hx3⟩ := row_slices hx
  obtain ⟨ua, uc, rfl, _, _⟩ := Ty.row_len hy
  have hst := UMem.start vars (.slice ad xss.length cap) w
  replace hst := Lib.hid hst
  go_enter Try.func101, Try.ntmps101
  go_wp2_with fail
  go_loopw [6] (fun i wr => ∃ (k : Nat) (cs : List Value) (s : Value), k ≤ xss.length ∧ i = .int .i64 k ∧ UMem vars (.slice ad xss.length cap) s cs (restrictB (xss.take k) a) w wr) (fun i _ => xss.length - (intOf i).toNat)
  case atStart => exact ⟨0, [], _, Nat.zero_le _, rfl, hst.out⟩
  case round =>
    obtain ⟨k, cs, s, hk, rfl, HU⟩ := hrel
    have hB := Sp.below HU
    have hown := Sp.rows (i := 0) HU rfl
    obtain ⟨sa, sc, rfl⟩ := owns_form hown
    have a1 : wr.cell? ⟨w.heap.size, 1, none⟩ = some (.slice ad xss.length cap) := Sp.cell (i := 3) HU rfl rfl
    have o0 : wr.cell? ⟨w.heap.size + 3, 0, none⟩ = some (.int .i64 vars) := Sp.cell (i := 1) HU rfl rfl
    have o1 : wr.cell? ⟨w.heap.size + 3, 1, none⟩ = some (.slice sa (restrictB (xss.take k) a).length sc) := Sp.cell (i := 1) HU rfl rfl
    have g1 : wr.frozen? ⟨w.heap.size + 3, 1, none⟩ = false := Sp.frozen (i := 1) HU rfl 1
    have hws : w.heap.size + 3 < wr.heap.size := (Sp.box (i := 1) HU rfl).2.1
    replace HU := Lib.hid HU
    replace hown := Lib.hid hown
    by_cases hlt : k < xss.length
    · rcases hx3 with ⟨rfl, rfl⟩ | ⟨hxn, b, off, rfl, _, hxc⟩
      · exact absurd hlt (by simp)
      obtain ⟨x, Fk, hc, hr, _⟩ := hxc k hlt
      have hr' := Ty.row_below hr hB (Ty.row_lt hr)
      have hy' := Ty.row_below hy hB (Ty.row_lt hy)
      obtain ⟨xa, xc, rfl, hu1, hu2⟩ := Ty.row_len hr
      have k0 := (hc.keep (hB.block b hc.lt)).1
      have hbl : b < wr.heap.size := World.block_lt_of_cell? _ _ k0
      have hlen2 := hm _ (List.getElem_mem hlt)
      have hrl := restrict_len (xss.take k) a
      rw [List.length_take] at hrl
      have HS := restrict_step (a := a) hlt
      obtain ⟨z, hz⟩ : ∃ z, valB xss[k] a = z := ⟨_, rfl⟩
      rw [hz] at HS
      by_cases hz1' : z < 1
      · rw [if_pos hz1'] at HS
        replace HS := Lib.hid HS
        go_wp2_with (go_at_call 147; (with_reducible refine (l3Value_at hr' hy' hz).mono ?_); rintro e w1 ⟨rfl, rfl⟩)
        refine wp_region_tail (S := (fun w' => w'.cell? ⟨w.heap.size + 3, 1, none⟩ = some (.slice sa (restrictB (xss.take k) a).length sc) ∧ w'.cell? ⟨w.heap.size, 1, none⟩ = some (.slice (some ⟨b, off, none⟩) xss.length cap) ∧ w'.cell? ⟨b, off + k, none⟩ = some (.slice xa xss[k].length xc))) 10 (by kernel_rfl) (by kernel_rfl) ?_ ?_
        · exact ⟨o1, a1, k0⟩
        intro hS
        (refine walkT_take (i := 0) (v := ?_) rfl (by kernel_rfl) (by decide) (by kernel_rfl) (by kernel_rfl) (fun _ _ _ h => h) (Or.inl ⟨by rfl, ?_⟩) (by assumption) ?_; rotate_left; focus (intro w hSw; (try dsimp only at hSw); go_simp; (try with_reducible rfl); done); (try simp only [Act.put, List.setIfInBounds_toArray, List.set_cons_zero, List.set_cons_succ]))
        (refine walkT_take (i := 1) (v := ?_) rfl (by kernel_rfl) (by decide) (by kernel_rfl) (by kernel_rfl) (fun _ _ _ h => h) (Or.inl ⟨by rfl, ?_⟩) (by assumption) ?_; rotate_left; focus (intro w hSw; (try dsimp only at hSw); go_simp; (try with_reducible rfl); done); (try simp only [Act.put, List.setIfInBounds_toArray, List.set_cons_zero, List.set_cons_succ]))
        (refine walkT_take (i := 2) (v := ?_) rfl (by kernel_rfl) (by decide) (by kernel_rfl) (by kernel_rfl) (fun _ _ _ h => h) (Or.inl ⟨by rfl, ?_⟩) (by assumption) ?_; rotate_left; focus (intro w hSw; (try dsimp only at hSw); go_simp; (try with_reducible rfl); done); (try simp only [Act.put, List.setIfInBounds_toArray, List.set_cons_zero, List.set_cons_succ]))
        (refine walkT_take (i := 3) (v := ?_) rfl (by kernel_rfl) (by decide) (by kernel_rfl) (by kernel_rfl) (fun _ _ _ h => h) (Or.inl ⟨by rfl, ?_⟩) (by assumption) ?_; rotate_left; focus (intro w hSw; (try dsimp only at hSw); go_simp; (try with_reducible rfl); done); (try simp only [Act.put, List.setIfInBounds_toArray, List.set_cons_zero, List.set_cons_succ]))
        (refine walkT_take (i := 4) (v := ?_) rfl (by kernel_rfl) (by decide) (by kernel_rfl) (by kernel_rfl) (fun _ _ _ h => h) (Or.inl ⟨by rfl, ?_⟩) (by assumption) ?_; rotate_left; focus (intro w hSw; (try dsimp only at hSw); go_simp; (try with_reducible rfl); done); (try simp only [Act.put, List.setIfInBounds_toArray, List.set_cons_zero, List.set_cons_succ]))
        (refine walkT_take (i := 5) (v := ?_) rfl (by kernel_rfl) (by decide) (by kernel_rfl) (by kernel_rfl) (fun _ _ _ h => h) (Or.inl ⟨by rfl, ?_⟩) (by assumption) ?_; rotate_left; focus (intro w hSw; (try dsimp only at hSw); go_simp; (try with_reducible rfl); done); (try simp only [Act.put, List.setIfInBounds_toArray, List.set_cons_zero, List.set_cons_succ]))
        (refine walkT_take (i := 6) (v := ?_) rfl (by kernel_rfl) (by decide) (by kernel_rfl) (by kernel_rfl) (fun _ _ _ h => h) (Or.inl ⟨by rfl, ?_⟩) (by assumption) ?_; rotate_left; focus (intro w hSw; (try dsimp only at hSw); go_simp; (try with_reducible rfl); done); (try simp only [Act.put, List.setIfInBounds_toArray, List.set_cons_zero, List.set_cons_succ]))
        (refine walkT_take (i := 7) (v := ?_) rfl (by kernel_rfl) (by decide) (by kernel_rfl) (by kernel_rfl) (fun _ _ _ h => h) (Or.inl ⟨by rfl, ?_⟩) (by assumption) ?_; rotate_left; focus (intro w hSw; (try dsimp only at hSw); go_simp; (try with_reducible rfl); done); (try simp only [Act.put, List.setIfInBounds_toArray, List.set_cons_zero, List.set_cons_succ]))
        (refine walkT_ready (rs := [8]) (by kernel_rfl) (by simp) (by decide) ?_; refine AllT.cons rfl (fun K hK => ?_) AllT.nil)
        go_simp
        go_at_call 148
        with_reducible refine (l3Left_any _ _ _ _ _ _ _ (Ty.row_grow hr' (bdr (bb _))) (Ty.row_grow hy' (bdr (bb _))) (by omega)).mono ?_
        rintro e w3 ⟨v3, F3, rfl, hv3, hn3, hF3, hb3⟩
        have HU3 := ((Sp.drew HU.out).row_new hb3 hv3 hn3 (fun b hb => (hF3 b hb).1))
        obtain ⟨va, vc, rfl, _, _⟩ := Ty.row_len hv3
        have hown3 := (HU3.alloc (.cells #[.slice va (leftB xss[k] a).length vc] 22)).rows (i := 1) rfl
        have o1' : w3.cell? ⟨w.heap.size + 3, 1, none⟩ = some (.slice sa (restrictB (xss.take k) a).length sc) := HU3.cell (i := 2) rfl rfl
        have a1' : w3.cell? ⟨w.heap.size, 1, none⟩ = some (.slice (some ⟨b, off, none⟩) xss.length cap) := HU3.cell (i := 4) rfl rfl
        have g1' : w3.frozen? ⟨w.heap.size + 3, 1, none⟩ = false := HU3.frozen (i := 2) rfl 1
        have k0' : w3.cell? ⟨b, off + k, none⟩ = some (.slice xa xss[k].length xc) := ((bcell hb3).1 _ _ hbl).trans k0
        have hbl3 : b < w3.heap.size := World.block_lt_of_cell? _ _ k0'
        have hws3 : w.heap.size + 3 < w3.heap.size := (HU3.box (i := 2) rfl).2.1
        replace HU3 := Lib.hid HU3
        replace hown3 := Lib.hid hown3
        clear HU hown
        go_wp2_with fail
        refine hK.out _ _ ?_ (fun hS4 => ?_)
        · exact ⟨o1', a1', k0'⟩
        clear hK hS
        (try simp only [Act.put, List.setIfInBounds_toArray, List.set_cons_zero, List.set_cons_succ])
        (refine walkT_ready (rs := [9]) (by kernel_rfl) (by simp) (by decide) ?_; refine AllT.cons rfl (fun K hK => ?_) AllT.nil)
        go_simp
        refine hK.out _ _ ?_ (fun hS5 => ?_)
        · exact ⟨cell_alloc o1' _, cell_alloc a1' _, cell_alloc k0' _⟩
        clear hK hS4
        (try simp only [Act.put, List.setIfInBounds_toArray, List.set_cons_zero, List.set_cons_succ])
        (refine walkT_done (by kernel_rfl) ?_)
        simp only [List.drop_succ_cons, List.drop_zero]
        (refine wpList_append_at rfl _ _ 64 rfl 22 i0 (.slice none 0 0) 1 24 Try.underlying64 hi hz0 hz1 hz2 rfl (by decide) _ _ _ rfl hown3.out ⟨w3.heap.size, 0, none⟩ 1 1 [.slice va (leftB xss[k] a).length vc] rfl rfl (one_new rfl) ?c2 ?c3 ?c4 ?_)
        case c2 => simp [Value.oneCell']
        case c3 => unfold maxLen; omega
        case c4 => omega
        intro v' w4 hown4 hg4 hat4
        have HN := HU3.out.rows_push (bal (bb _) _) hown4 hg4 hat4
        rw [← HS.out] at HN
        obtain ⟨na, nc, rfl⟩ := owns_form hown4
        have o1'' : w4.cell? ⟨w.heap.size + 3, 1, none⟩ = some (.slice sa (restrictB (xss.take k) a).length sc) := HN.cell (i := 1) rfl rfl
        have g1'' : w4.frozen? ⟨w.heap.size + 3, 1, none⟩ = false := HN.frozen (i := 1) rfl 1
        have HN2 := HN.store (i := 1) rfl 1 (.slice na ((restrictB (xss.take k) a).length + 1) nc)
        replace HN2 := Lib.hid HN2
        clear HN hown4 hg4 hat4 HU3 hown3 HS hS5 o1' a1' k0' o1 a1 k0
        go_wp2_with fail
        go_roundw
        case rel => exact ⟨k + 1, _, _, by omega, by go_num, HN2.out⟩
        case measure => simp [intOf]; omega
      · rw [if_neg hz1', List.append_nil] at HS
        replace HS := Lib.hid HS
        go_wp2_with (go_at_call 147; (with_reducible refine (l3Value_at hr' hy' hz).mono ?_); rintro e w1 ⟨rfl, rfl⟩)
        go_roundw
        case rel => exact ⟨k + 1, cs, _, by omega, by go_num, by rw [HS.out]; exact HU.out⟩
        case measure => simp [intOf]; omega
    · obtain rfl : k = xss.length := by omega
      have h0 := HU.out
      rw [List.take_length] at h0
      have r0 : wr.cell? ⟨w.heap.size + 1, 0, none⟩ = some (.int .i64 0) := Sp.cell (i := 2) h0 rfl rfl
      have r1 : wr.cell? ⟨w.heap.size + 1, 1, none⟩ = some (.slice none 0 0) := Sp.cell (i := 2) h0 rfl rfl
      have q0 : wr.frozen? ⟨w.heap.size + 1, 0, none⟩ = false := Sp.frozen (i := 2) h0 rfl 0
      have q1 : wr.frozen? ⟨w.heap.size + 1, 1, none⟩ = false := Sp.frozen (i := 2) h0 rfl 1
      have h2 := (Sp.store (i := 2) h0 rfl 0 (.int .i64 vars)).store (i := 2) rfl 1 (.slice sa (restrictB xss a).length sc)
      obtain ⟨F2, hr2, hn2, hF2⟩ := h2.rows_done (i := 0) rfl
      have hB2 := h2.below
      replace h2 := Lib.hid h2
      replace hr2 := Lib.hid hr2
      rw [List.take_length] at o1
      clear h0 HU
      go_wp2_with fail
      exact bodyPost_ret (v := .agg #[.int .i64 vars, .slice sa (restrictB xss a).length sc]) (by simp [results, Try.results101, go_sem, r0, r1]) rfl ⟨_, F2, rfl, hr2.out, hn2, hF2, hB2⟩
end Go.Proofs.Ytkgfgheiabapoaa
