/- Contracts: the coefficients of a polynomial in the program. -/
import Derived.Test.YtebhkfhdjdgokaaPolD
namespace Go.Proofs.Ytebhkfhdjdgokaa
open Go.RowKit

/-- A new row of zeros. -/
def ZeroPost (w : World) (n : Nat) (e : Ending) (w' : World) : Prop := ∃ B, e = .returned (.slice (some ⟨B, 0, none⟩) n n) ∧ w.heap.size ≤ B ∧ B < w'.heap.size ∧ FlatAt ieEnc 1 B n (fun _ => 0) w' ∧ Below w.heap.size w w'

set_option maxHeartbeats 1000000 in
theorem zero_any (p vars : Int) (w : World) (hv0 : 0 ≤ vars) (hv1 : vars ≤ 6) :
    Calls Try.prog 88 #[.agg #[.int .i64 p, .int .i64 vars]] w (ZeroPost w (monoN vars)) := by
  obtain ⟨i0, hi, hz0, hz1, hz2⟩ := info_parts infoInt
  obtain ⟨N, hN0, hN, hN1, hN64⟩ := mono_pow hv0 hv1
  have hNw : IntKind.i64.wrap N = N := IntWalk.i64_in _ (by omega)
  have hn64 := monoN_le hv1
  replace hN0 := Lib.hid hN0
  go_enter Try.func88, Try.ntmps88
  go_wp2_with (at_make; refine wpList_make_full _ rfl _ _ 67 rfl (w.heap.size + 1) 3 i0 (.int .i64 0) 1 Try.underlying67 hi hz0 hz1 .i64 .i64 _ _ (monoN vars) rfl rfl hN0.out.symm hN0.out.symm ?m1 ?m2 ?m3 ?_)
  case m1 => rw [hz2]; omega
  case m2 => unfold maxLen; omega
  case m3 => simp
  intro w1 hown hgrow
  have hF : FlatAt ieEnc 1 (w.heap.size + 1) (monoN vars) (fun _ => 0) w1 := FlatAt.made (z := (0 : Int)) (zc := #[.int .i64 0]) rfl rfl (by simpa using hown)
  have hB : Below w.heap.size w w1 := (bal (bb w) _).grown hgrow (by simp) (fun k hk => by cases hk)
  have hlt : w.heap.size + 1 < w1.heap.size := (hF 0 (monoN_pos vars) 0 _ rfl).lt
  replace hF := Lib.hid hF
  clear hown hgrow
  go_wp2_with fail
  go_ret
  exact ⟨w.heap.size + 1, by simp, by omega, hlt, hF.out, hB⟩

theorem step_get (p : Int) (d : List Int) (m : Nat) (c : Int) (hm : m < d.length) (j : Nat) : (stepD p d ((m : Int), c)).getD j 0 = if j = m then (d.getD m 0 + c) % p else d.getD j 0 := by
  unfold stepD
  simp only [Int.toNat_natCast]
  rw [List.getD_eq_getElem?_getD, List.getElem?_set]
  by_cases e : m = j
  · subst e
    rw [if_pos rfl, if_pos hm, if_pos rfl]; rfl
  · rw [if_neg e, if_neg (Ne.symm e), ← List.getD_eq_getElem?_getD]
theorem dense_take (p vars : Int) (xs : List (Int × Int)) (k : Nat) (hk : k < xs.length) (m : Nat) (c : Int) (hx : xs[k] = ((m : Int), c)) (hm : m < monoN vars) :
    (fun j => (denseL p vars (xs.take (k + 1))).getD j 0) = fun j => if j = m then ((denseL p vars (xs.take k)).getD m 0 + c) % p else (denseL p vars (xs.take k)).getD j 0 := by
  funext j
  rw [List.take_succ_eq_append_getElem hk, denseL_snoc, hx]
  exact step_get p _ m c (by rw [denseL_len]; exact hm) j

set_option maxRecDepth 100000 in
set_option maxHeartbeats 4000000 in
theorem ringDense_any (p vars : Int) (v : Value) (xs : List (Int × Int)) (F : List Nat) (w : World) (hx : tmTy.row false w v xs F) (hp0 : 2 ≤ p) (hp1 : p ≤ 5) (hv0 : 0 ≤ vars) (hv1 : vars ≤ 6) (ht : termsB p vars xs = true) :
    Calls Try.prog 72 #[.agg #[.int .i64 p, .int .i64 vars], v] w (OwnPost Ty.int w (denseL p vars xs)) := by
  obtain ⟨a, c, rfl, hx1, hx2, hxg, hx3⟩ := row_tm hx
  have hn64 := monoN_le hv1
  obtain ⟨n, hn⟩ : ∃ n, monoN vars = n := ⟨_, rfl⟩
  have hZ := Lib.hid fun w => zero_any p vars w hv0 hv1
  have htf := Lib.hid fun k hk => @terms_facts p vars xs ht k hk
  rw [hn] at hZ htf
  have hnpos : 0 < n := by rw [← hn]; exact monoN_pos vars
  rw [hn] at hn64
  replace hn := Lib.hid hn
  clear ht
  obtain ⟨W, hW⟩ : ∃ W, w.alloc (.cells #[.int .i64 p, .int .i64 vars] 63) = W := ⟨_, rfl⟩
  have hWs : W.heap.size = w.heap.size + 1 := by rw [← hW]; simp
  have p0 : W.cell? ⟨w.heap.size, 0, none⟩ = some (.int .i64 p) := by rw [← hW]; simp
  have p1 : W.cell? ⟨w.heap.size, 1, none⟩ = some (.int .i64 vars) := by rw [← hW]; simp
  have hBW : Below w.heap.size w W := by rw [← hW]; exact bal (bb _) _
  replace hW := Lib.hid hW
  go_enter Try.func72, Try.ntmps72
  go_wp2_with fail
  rw [hW.out]
  refine (hZ.out W).mono ?_
  rintro e w1 ⟨B, rfl, hBlo, hBhi, hF1, hb1⟩
  have r1 : w1.cell? ⟨w.heap.size, 0, none⟩ = some (.int .i64 p) := (hb1.cell (p := ⟨w.heap.size, 0, none⟩) (by rw [hWs]; simp)).trans p0
  have hBw : w.heap.size < B := by omega
  have hst : Hid (FlatAt ieEnc 1 B n (fun j => (denseL p vars (xs.take 0)).getD j 0) w1 ∧ w1.cell? ⟨w.heap.size, 0, none⟩ = some (.int .i64 p) ∧ Below w.heap.size w w1) := by
    refine ⟨hF1.mono (Nat.le_refl _) fun j hj => ?_, r1, btr hBW hb1⟩
    show (List.replicate (monoN vars) (0 : Int)).getD j 0 = 0
    rw [List.getD_eq_getElem?_getD, List.getElem?_replicate]
    split <;> rfl
  clear hZ hF1 hb1 r1 p0 p1 hBW hBlo hBhi hWs hW
  go_wp2_with fail
  go_loopw [12] (fun i wr => ∃ k : Nat, k ≤ xs.length ∧ i = .int .i64 k ∧ Hid (FlatAt ieEnc 1 B n (fun j => (denseL p vars (xs.take k)).getD j 0) wr ∧ wr.cell? ⟨w.heap.size, 0, none⟩ = some (.int .i64 p) ∧ Below w.heap.size w wr)) (fun i _ => xs.length - (intOf i).toNat)
  case atStart => exact ⟨0, Nat.zero_le _, rfl, hst⟩
  case round =>
    obtain ⟨k, hk, rfl, HR⟩ := hrel
    by_cases hlt : k < xs.length
    · rcases hx3 with ⟨rfl, rfl⟩ | ⟨hxn, b, off, rfl, rfl, hxc⟩
      · exact absurd hlt (by simp)
      have hB0 := HR.out.2.2
      have x0 := ((hxc k hlt).1.keep (hB0.block b (hxc k hlt).1.lt)).1
      have x1 := ((hxc k hlt).2.keep (hB0.block b (hxc k hlt).2.lt)).1
      obtain ⟨f1, f2, f3, f4⟩ := htf.out k hlt
      have hdt := Lib.hid fun m c h1 h2 => dense_take p vars xs k hlt m c h1 h2
      have hdr := getD_range (denseL_range (p := p) (vars := vars) (by omega) _ (xs.take k) rfl) (Int.le_refl 0) (by omega)
      clear hxc hB0 hst
      generalize hxk : xs[k] = x at x0 x1 f1 f2 f3 f4 hdt
      obtain ⟨m, c⟩ := x
      obtain ⟨m, rfl⟩ := Int.eq_ofNat_of_zero_le f1
      have hmn : m < n := by simp only at f2; omega
      have hdt' := Lib.hid (hdt.out m c rfl (by rw [hn.out]; exact hmn))
      clear hdt hxk
      obtain ⟨g1, g2⟩ := hdr m
      obtain ⟨D, hD⟩ : ∃ D, (denseL p vars (xs.take k)).getD m 0 = D := ⟨_, rfl⟩
      have e0 : (ieEnc ((fun j => (denseL p vars (xs.take k)).getD j 0) m))[0]? = some (.int .i64 D) := by simp [ieEnc, ← hD]
      rw [hD] at g1 g2 hdt'
      simp only at f3 f4
      have hsw : IntKind.i64.wrap (D + c) = D + c := IntWalk.i64_in _ (by omega)
      have htm : (D + c).tmod p = (D + c) % p := Int.tmod_eq_emod_of_nonneg (by omega)
      have hD0 : 0 ≤ D + c := by omega
      have hmn' : (m : Int) < (n : Int) := by omega
      have hpz : ¬ p = 0 := by omega
      have HA : FlatAt ieEnc 1 B n (fun j => (denseL p vars (xs.take k)).getD j 0) (wr.alloc (.cells #[.int .i64 m, .int .i64 c] 59)).drew := HR.out.1.grow (bdr (bal (bb _) _))
      have y0 : (wr.alloc (.cells #[.int .i64 m, .int .i64 c] 59)).drew.cell? ⟨B, m, none⟩ = some (.int .i64 D) := by have := HA.cell hmn e0; rwa [Nat.mul_one, Nat.add_zero] at this
      have q0 : (wr.alloc (.cells #[.int .i64 m, .int .i64 c] 59)).drew.frozen? ⟨B, m, none⟩ = false := by have := HA.frozen hmn e0; rwa [Nat.mul_one, Nat.add_zero] at this
      have r0 : (wr.alloc (.cells #[.int .i64 m, .int .i64 c] 59)).drew.cell? ⟨w.heap.size, 0, none⟩ = some (.int .i64 p) := cell_alloc HR.out.2.1 _
      have t0 : (wr.alloc (.cells #[.int .i64 m, .int .i64 c] 59)).drew.cell? ⟨wr.heap.size, 0, none⟩ = some (.int .i64 m) := by simp
      have t1 : (wr.alloc (.cells #[.int .i64 m, .int .i64 c] 59)).drew.cell? ⟨wr.heap.size, 1, none⟩ = some (.int .i64 c) := by simp
      have HN := HA.set1 (fun _ => rfl) (k := m) (x := (D + c) % p) (u0 := .int .i64 ((D + c) % p)) rfl
      rw [show (fun j => if j = m then (D + c) % p else (fun j => (denseL p vars (xs.take k)).getD j 0) j) = fun j => (denseL p vars (xs.take (k + 1))).getD j 0 from hdt'.out.symm] at HN
      have HN2 := Lib.hid (And.intro HN (And.intro ((World.cell?_setCell_other _ ⟨B, m, none⟩ ⟨w.heap.size, 0, none⟩ (.int .i64 ((D + c) % p)) (by simp only [ne_eq, Addr.mk.injEq]; omega)).trans r0) (bst (bdr (bal HR.out.2.2 (.cells #[.int .i64 m, .int .i64 c] 59))) (show w.heap.size ≤ (⟨B, m, none⟩ : Addr).block by simp; omega) (.int .i64 ((D + c) % p)))))
      clear HR HA HN hdt' hdr e0 hD
      go_wp2_with fail
      refine wp_region_tail_lit (S := (fun w' => w'.cell? ⟨wr.heap.size, 0, none⟩ = some (.int .i64 m) ∧ w'.cell? ⟨wr.heap.size, 1, none⟩ = some (.int .i64 c) ∧ w'.cell? ⟨B, m, none⟩ = some (.int .i64 D) ∧ w'.cell? ⟨w.heap.size, 0, none⟩ = some (.int .i64 p))) 15 [false, false, false, false, false, false, false, false, false, false, false, false, false, false, false, false] (by kernel_rfl) (by kernel_rfl) (by kernel_rfl) ?_ ?_
      · exact ⟨t0, t1, y0, r0⟩
      intro hS
      (refine walkT_take (i := 0) (v := ?_) rfl (by kernel_rfl) (by decide) (by kernel_rfl) (by kernel_rfl) (fun _ _ _ h => h) (Or.inl ⟨by rfl, ?_⟩) (by assumption) ?_; rotate_left; (focus (intro w hSw; (try dsimp only at hSw); go_simp; (try with_reducible rfl); done)); (try simp only [put_rules]))
      (refine walkT_take (i := 1) (v := ?_) rfl (by kernel_rfl) (by decide) (by kernel_rfl) (by kernel_rfl) (fun _ _ _ h => h) (Or.inl ⟨by rfl, ?_⟩) (by assumption) ?_; rotate_left; (focus (intro w hSw; (try dsimp only at hSw); go_simp; (try with_reducible rfl); done)); (try simp only [put_rules]))
      (refine walkT_take (i := 2) (v := ?_) rfl (by kernel_rfl) (by decide) (by kernel_rfl) (by kernel_rfl) (fun _ _ _ h => h) (Or.inl ⟨by rfl, ?_⟩) (by assumption) ?_; rotate_left; (focus (intro w hSw; (try dsimp only at hSw); go_simp; (try with_reducible rfl); done)); (try simp only [put_rules]))
      (refine walkT_take (i := 3) (v := ?_) rfl (by kernel_rfl) (by decide) (by kernel_rfl) (by kernel_rfl) (fun _ _ _ h => h) (Or.inl ⟨by rfl, ?_⟩) (by assumption) ?_; rotate_left; (focus (intro w hSw; (try dsimp only at hSw); go_simp; (try with_reducible rfl); done)); (try simp only [put_rules]))
      (refine walkT_take (i := 4) (v := ?_) rfl (by kernel_rfl) (by decide) (by kernel_rfl) (by kernel_rfl) (fun _ _ _ h => h) (Or.inl ⟨by rfl, ?_⟩) (by assumption) ?_; rotate_left; (focus (intro w hSw; (try dsimp only at hSw); go_simp; (try with_reducible rfl); done)); (try simp only [put_rules]))
      (refine walkT_take (i := 5) (v := ?_) rfl (by kernel_rfl) (by decide) (by kernel_rfl) (by kernel_rfl) (fun _ _ _ h => h) (Or.inl ⟨by rfl, ?_⟩) (by assumption) ?_; rotate_left; (focus (intro w hSw; (try dsimp only at hSw); go_simp; (try with_reducible rfl); done)); (try simp only [put_rules]))
      (refine walkT_take (i := 6) (v := ?_) rfl (by kernel_rfl) (by decide) (by kernel_rfl) (by kernel_rfl) (fun _ _ _ h => h) (Or.inl ⟨by rfl, ?_⟩) (by assumption) ?_; rotate_left; (focus (intro w hSw; (try dsimp only at hSw); go_simp; (try with_reducible rfl); done)); (try simp only [put_rules]))
      (refine walkT_take (i := 7) (v := ?_) rfl (by kernel_rfl) (by decide) (by kernel_rfl) (by kernel_rfl) (fun _ _ _ h => h) (Or.inl ⟨by rfl, ?_⟩) (by assumption) ?_; rotate_left; (focus (intro w hSw; (try dsimp only at hSw); go_simp; (try with_reducible rfl); done)); (try simp only [put_rules]))
      (refine walkT_take (i := 8) (v := ?_) rfl (by kernel_rfl) (by decide) (by kernel_rfl) (by kernel_rfl) (fun _ _ _ h => h) (Or.inl ⟨by rfl, ?_⟩) (by assumption) ?_; rotate_left; (focus (intro w hSw; (try dsimp only at hSw); go_simp; (try with_reducible rfl); done)); (try simp only [put_rules]))
      (refine walkT_take (i := 9) (v := ?_) rfl (by kernel_rfl) (by decide) (by kernel_rfl) (by kernel_rfl) (fun _ _ _ h => h) (Or.inl ⟨by rfl, ?_⟩) (by assumption) ?_; rotate_left; (focus (intro w hSw; (try dsimp only at hSw); go_simp; (try with_reducible rfl); done)); (try simp only [put_rules]))
      (refine walkT_take (i := 10) (v := ?_) rfl (by kernel_rfl) (by decide) (by kernel_rfl) (by kernel_rfl) (fun _ _ _ h => h) (Or.inl ⟨by rfl, ?_⟩) (by assumption) ?_; rotate_left; (focus (intro w hSw; (try dsimp only at hSw); go_simp; (try with_reducible rfl); done)); (try simp only [put_rules]))
      (refine walkT_take (i := 11) (v := ?_) rfl (by kernel_rfl) (by decide) (by kernel_rfl) (by kernel_rfl) (fun _ _ _ h => h) (Or.inl ⟨by rfl, ?_⟩) (by assumption) ?_; rotate_left; (focus (intro w hSw; (try dsimp only at hSw); go_simp; (try with_reducible rfl); done)); (try simp only [put_rules]))
      (refine walkT_take (i := 12) (v := ?_) rfl (by kernel_rfl) (by decide) (by kernel_rfl) (by kernel_rfl) (fun _ _ _ h => h) (Or.inl ⟨by rfl, ?_⟩) (by assumption) ?_; rotate_left; (focus (intro w hSw; (try dsimp only at hSw); go_simp; (try with_reducible rfl); done)); (try simp only [put_rules]))
      (refine walkT_take (i := 13) (v := ?_) rfl (by kernel_rfl) (by decide) (by kernel_rfl) (by kernel_rfl) (fun _ _ _ h => h) (Or.inl ⟨by rfl, ?_⟩) (by assumption) ?_; rotate_left; (focus (intro w hSw; (try dsimp only at hSw); go_simp; (try with_reducible rfl); done)); (try simp only [put_rules]))
      (refine walkT_take (i := 14) (v := ?_) rfl (by kernel_rfl) (by decide) (by kernel_rfl) (by kernel_rfl) (fun _ _ _ h => h) (Or.inl ⟨by rfl, ?_⟩) (by assumption) ?_; rotate_left; (focus (intro w hSw; (try dsimp only at hSw); go_simp; (try with_reducible rfl); done)); (try simp only [put_rules]))
      (refine walkT_done (by kernel_rfl) ?_)
      simp only [List.drop_succ_cons, List.drop_zero]
      go_wp2_with fail
      go_roundw
      case rel => exact ⟨k + 1, by omega, by go_num, HN2⟩
      case measure => simp [intOf]; omega
    · obtain rfl : k = xs.length := by omega
      have HF := HR.out.1
      rw [List.take_length] at HF
      have hB0 := HR.out.2.2
      replace HF := Lib.hid HF
      clear HR hst
      go_wp2_with fail
      go_ret
      have hdl := denseL_len p vars xs
      rw [hn.out] at hdl
      have hr := denseL_range (p := p) (vars := vars) (by omega) _ xs rfl
      refine ⟨_, [B], rfl, ?_, by simp, by simp; omega, hB0⟩
      have := row_int_mk (wr := true) (w := wr) (b := B) (off := 0) (cap := n) (xs := denseL p vars xs) (fun x hx => by have := hr x hx; unfold I64; omega) (by omega) (by omega) (by intro e; rw [e] at hdl; simp at hdl; omega) (fun j hj => by
        rw [hdl] at hj
        have h := HF.out j hj 0 _ rfl
        rw [Nat.mul_one, Nat.add_zero] at h
        rw [Nat.zero_add]
        have e : (denseL p vars xs).getD j 0 = (denseL p vars xs)[j]'(by omega) := by rw [List.getD_eq_getElem?_getD, List.getElem?_eq_getElem (by omega)]; rfl
        change cellIs true wr B j (.int .i64 ((denseL p vars xs).getD j 0)) at h
        rw [e] at h
        exact h)
      rw [hdl] at this
      exact this
end Go.Proofs.Ytebhkfhdjdgokaa
